/- WireOne, walked in the second reading. No condition. -/
import Derived.Test.YtjpehemkgikkdaaO3
import Derived.Test.YtjpehemkgikkdaaCF
namespace Go.Proofs.YtjpehemkgikkdaaV
open Go Go.RowKit Go.Proofs.YtjpehemkgikkdaaA
set_option linter.unusedVariables false
set_option linter.unusedSimpArgs false
set_option maxRecDepth 100000

theorem turned_length (l : List UInt8) (k b : Nat) : (turned l k b).length = l.length := by simp [turned]

theorem turned_at {l : List UInt8} {k b : Nat} (hk : k < l.length) (hb : b < 256) : (turned l k b)[k]'(by rw [turned_length]; exact hk) = UInt8.ofNat (l[k].toNat ^^^ b) := by
  simp [turned, hk, List.getD_eq_getElem?_getD]

theorem xor_lt {a b : Nat} (ha : a < 256) (hb : b < 256) : a ^^^ b < 256 := Nat.xor_lt_two_pow (n := 8) ha hb

theorem turned_ne {l : List UInt8} {k b : Nat} (hk : k < l.length) (hb : b < 256) (h0 : b ≠ 0) : turned l k b ≠ l := by
  intro e
  have h1 := turned_at hk hb
  have h2 : (turned l k b)[k]'(by rw [turned_length]; exact hk) = l[k] := by simp only [e]
  rw [h2] at h1
  have h3 := congrArg UInt8.toNat h1
  rw [UInt8.toNat_ofNat_of_lt' (xor_lt (UInt8.toNat_lt _) hb)] at h3
  have h4 : l[k].toNat ^^^ (l[k].toNat ^^^ b) = b := by rw [← Nat.xor_assoc, Nat.xor_self, Nat.zero_xor]
  rw [← h3, Nat.xor_self] at h4
  exact h0 h4.symm

theorem turned_back {l : List UInt8} {k b : Nat} (hk : k < l.length) (hb : b < 256) : turned (turned l k b) k b = l := by
  have h1 := turned_at hk hb
  have h5 : (turned l k b).getD k 0 = UInt8.ofNat (l[k].toNat ^^^ b) := by
    rw [List.getD_eq_getElem?_getD, List.getElem?_eq_getElem (by rw [turned_length]; exact hk), Option.getD_some, h1]
  have h6 : UInt8.ofNat ((UInt8.ofNat (l[k].toNat ^^^ b)).toNat ^^^ b) = l[k] := by
    rw [UInt8.toNat_ofNat_of_lt' (xor_lt (UInt8.toNat_lt _) hb), Nat.xor_assoc, Nat.xor_self, Nat.xor_zero, UInt8.ofNat_toNat]
  unfold turned at h5 ⊢
  rw [h5, h6, List.set_set, List.set_getElem_self]

theorem own_rset {st : ASt} {s rs : Nat} {v : AVal} {l : List UInt8} {p e : Nat} (h : Own1 st s l) (hne : rs ≠ s) : Own1 (rset st rs v p e) s l :=
  ⟨h.lt, by unfold rset; rw [ASt.set_ne _ _ _ _ (Ne.symm hne)]; exact h.at'⟩

set_option maxHeartbeats 1000000 in
theorem one_B (N m : Nat) (hN2 : 300 ≤ N) (dr : Array Oper → Bool) {n by' cut k sB rs : Nat} {v : AVal} {l : List UInt8} {ts : List AVal} {st : ASt} (hl : 0 < l.length) (hl10 : l.length ≤ 10) (hno : by' ≠ 0 → l ≠ enc n) (h : OneI n by' cut k sB rs v l ts st) (hr : RAt st rs v l 0 0) (hne : rs ≠ sB)
    (h12 : ts[12]? = some (.ptr rs 0)) : ∃ ts' st', aexec E 11 (run E N) dr m oB ts st = some (.normal, ts', st') ∧ OneI n by' cut k sB rs v l ts' st' := by
  obtain ⟨own, t0, t2, t3, t10, t11, tl⟩ := h
  have hh : ∀ t, E.hint 11 t = false := fun _ => rfl
  by_cases hb : by' = 0
  · have z1 : (((by' : Nat) : Int) != 0) = false := by rw [hb]; rfl
    simp only [AVal.undef, sbn, sbn', oB, code, Try.f11, Option.getD_some, Code.fst, Code.snd, Code.inn, aexec, aops, aop, Region.wanted, ayielded, aexecOp, aeval, aput, aseq, ablock, ahint, absOf, flat, nilCheckA, ANext.ofP, evals, evalPs, evalO, aresults, aresults1, aresult, aend, List.getElem?_set, List.length_set, Option.map_some, Option.bind_some, if_true, if_false, ↓reduceIte, Nat.reduceLT, Nat.reduceEqDiff, reduceCtorEq, Bool.false_eq_true, false_and, and_false, and_true, true_and, Nat.reduceAdd, Nat.reduceLeDiff, callA, List.getElem?_toArray, List.getElem?_cons_succ, List.getElem?_cons_zero, sb1, sb2, sb3, sb4, hh, t0, t2, t3, t10, t11, h12, tl, b_neq, z1]
    exact ⟨_, _, rfl, ⟨own, by simp only [List.getElem?_set, List.length_set, Nat.reduceLT, Nat.reduceEqDiff, ↓reduceIte, reduceCtorEq, *], by simp only [List.getElem?_set, List.length_set, Nat.reduceLT, Nat.reduceEqDiff, ↓reduceIte, reduceCtorEq, *], by simp only [List.getElem?_set, List.length_set, Nat.reduceLT, Nat.reduceEqDiff, ↓reduceIte, reduceCtorEq, *], by simp only [List.getElem?_set, List.length_set, Nat.reduceLT, Nat.reduceEqDiff, ↓reduceIte, reduceCtorEq, *], by simp only [List.getElem?_set, List.length_set, Nat.reduceLT, Nat.reduceEqDiff, ↓reduceIte, reduceCtorEq, *], by simp only [List.getElem?_set, List.length_set, Nat.reduceLT, Nat.reduceEqDiff, ↓reduceIte, reduceCtorEq, *]⟩⟩
  · have z1 : (((by' : Nat) : Int) != 0) = true := by rw [bne, beq_eq_false_iff_ne.2 (by omega)]; rfl
    have n1 := rnum_run hr (by omega) (by omega)
    rw [List.drop_zero] at n1
    simp only [if_true] at n1
    have c1 := n1 N (by omega)
    cases hd : rd l 0 0 0 with
    | inl e =>
      rw [hd] at c1
      simp only [rdVal, rdEnd] at c1
      have n2 := left_run (rset_at hr 0 e) (by omega) (by omega)
      have c2 := n2 N (by omega)
      have z2 : (((l.length - 0 : Nat) : Int) == 0) = false := by rw [beq_eq_false_iff_ne]; omega
      cases z3 : (((0 : Nat) : Int) == ((n : Nat) : Int)) with
      | true =>
        simp only [AVal.undef, sbn, sbn', oB, code, Try.f11, Option.getD_some, Code.fst, Code.snd, Code.inn, aexec, aops, aop, Region.wanted, ayielded, aexecOp, aeval, aput, aseq, ablock, ahint, absOf, flat, nilCheckA, ANext.ofP, evals, evalPs, evalO, aresults, aresults1, aresult, aend, List.getElem?_set, List.length_set, Option.map_some, Option.bind_some, if_true, if_false, ↓reduceIte, Nat.reduceLT, Nat.reduceEqDiff, reduceCtorEq, Bool.false_eq_true, false_and, and_false, and_true, true_and, Nat.reduceAdd, Nat.reduceLeDiff, callA, List.getElem?_toArray, List.getElem?_cons_succ, List.getElem?_cons_zero, sb1, sb2, sb3, sb4, hh, t0, t2, t3, t10, t11, h12, tl, b_neq, z1, cf35, cf36, c1, c2, b_eql, z3, z2]
        exact ⟨_, _, rfl, ⟨own_rset own hne, by simp only [List.getElem?_set, List.length_set, Nat.reduceLT, Nat.reduceEqDiff, ↓reduceIte, reduceCtorEq, *], by simp only [List.getElem?_set, List.length_set, Nat.reduceLT, Nat.reduceEqDiff, ↓reduceIte, reduceCtorEq, *], by simp only [List.getElem?_set, List.length_set, Nat.reduceLT, Nat.reduceEqDiff, ↓reduceIte, reduceCtorEq, *], by simp only [List.getElem?_set, List.length_set, Nat.reduceLT, Nat.reduceEqDiff, ↓reduceIte, reduceCtorEq, *], by simp only [List.getElem?_set, List.length_set, Nat.reduceLT, Nat.reduceEqDiff, ↓reduceIte, reduceCtorEq, *], by simp only [List.getElem?_set, List.length_set, Nat.reduceLT, Nat.reduceEqDiff, ↓reduceIte, reduceCtorEq, *]⟩⟩
      | false =>
        simp only [AVal.undef, sbn, sbn', oB, code, Try.f11, Option.getD_some, Code.fst, Code.snd, Code.inn, aexec, aops, aop, Region.wanted, ayielded, aexecOp, aeval, aput, aseq, ablock, ahint, absOf, flat, nilCheckA, ANext.ofP, evals, evalPs, evalO, aresults, aresults1, aresult, aend, List.getElem?_set, List.length_set, Option.map_some, Option.bind_some, if_true, if_false, ↓reduceIte, Nat.reduceLT, Nat.reduceEqDiff, reduceCtorEq, Bool.false_eq_true, false_and, and_false, and_true, true_and, Nat.reduceAdd, Nat.reduceLeDiff, callA, List.getElem?_toArray, List.getElem?_cons_succ, List.getElem?_cons_zero, sb1, sb2, sb3, sb4, hh, t0, t2, t3, t10, t11, h12, tl, b_neq, z1, cf35, cf36, c1, b_eql, z3]
        exact ⟨_, _, rfl, ⟨own_rset own hne, by simp only [List.getElem?_set, List.length_set, Nat.reduceLT, Nat.reduceEqDiff, ↓reduceIte, reduceCtorEq, *], by simp only [List.getElem?_set, List.length_set, Nat.reduceLT, Nat.reduceEqDiff, ↓reduceIte, reduceCtorEq, *], by simp only [List.getElem?_set, List.length_set, Nat.reduceLT, Nat.reduceEqDiff, ↓reduceIte, reduceCtorEq, *], by simp only [List.getElem?_set, List.length_set, Nat.reduceLT, Nat.reduceEqDiff, ↓reduceIte, reduceCtorEq, *], by simp only [List.getElem?_set, List.length_set, Nat.reduceLT, Nat.reduceEqDiff, ↓reduceIte, reduceCtorEq, *], by simp only [List.getElem?_set, List.length_set, Nat.reduceLT, Nat.reduceEqDiff, ↓reduceIte, reduceCtorEq, *]⟩⟩
    | inr q =>
      obtain ⟨x, j⟩ := q
      rw [hd] at c1
      simp only [rdVal, rdEnd] at c1
      obtain ⟨y, r, e1, e2, e3, e4, e5⟩ := rd_inv 9 l 0 0 0 x j (by decide) (by decide) hd
      have hj : 0 + j ≤ l.length := by
        rw [e4, e5, List.length_append]; omega
      have n2 := left_run (rset_at hr (0 + j) 0) hj (by omega)
      have c2 := n2 N (by omega)
      cases z3 : (((x : Nat) : Int) == ((n : Nat) : Int)) with
      | true =>
        have hxn : x = n := by have := eq_of_beq z3; omega
        have z2 : (((l.length - (0 + j) : Nat) : Int) == 0) = false := by
          rw [beq_eq_false_iff_ne]
          intro e
          have hjl : j = l.length := by omega
          rw [hjl, hxn] at hd
          exact hno hb (rd_only hd)
        simp only [AVal.undef, sbn, sbn', oB, code, Try.f11, Option.getD_some, Code.fst, Code.snd, Code.inn, aexec, aops, aop, Region.wanted, ayielded, aexecOp, aeval, aput, aseq, ablock, ahint, absOf, flat, nilCheckA, ANext.ofP, evals, evalPs, evalO, aresults, aresults1, aresult, aend, List.getElem?_set, List.length_set, Option.map_some, Option.bind_some, if_true, if_false, ↓reduceIte, Nat.reduceLT, Nat.reduceEqDiff, reduceCtorEq, Bool.false_eq_true, false_and, and_false, and_true, true_and, Nat.reduceAdd, Nat.reduceLeDiff, callA, List.getElem?_toArray, List.getElem?_cons_succ, List.getElem?_cons_zero, sb1, sb2, sb3, sb4, hh, t0, t2, t3, t10, t11, h12, tl, b_neq, z1, cf35, cf36, c1, c2, b_eql, z3, z2]
        exact ⟨_, _, rfl, ⟨own_rset own hne, by simp only [List.getElem?_set, List.length_set, Nat.reduceLT, Nat.reduceEqDiff, ↓reduceIte, reduceCtorEq, *], by simp only [List.getElem?_set, List.length_set, Nat.reduceLT, Nat.reduceEqDiff, ↓reduceIte, reduceCtorEq, *], by simp only [List.getElem?_set, List.length_set, Nat.reduceLT, Nat.reduceEqDiff, ↓reduceIte, reduceCtorEq, *], by simp only [List.getElem?_set, List.length_set, Nat.reduceLT, Nat.reduceEqDiff, ↓reduceIte, reduceCtorEq, *], by simp only [List.getElem?_set, List.length_set, Nat.reduceLT, Nat.reduceEqDiff, ↓reduceIte, reduceCtorEq, *], by simp only [List.getElem?_set, List.length_set, Nat.reduceLT, Nat.reduceEqDiff, ↓reduceIte, reduceCtorEq, *]⟩⟩
      | false =>
        simp only [AVal.undef, sbn, sbn', oB, code, Try.f11, Option.getD_some, Code.fst, Code.snd, Code.inn, aexec, aops, aop, Region.wanted, ayielded, aexecOp, aeval, aput, aseq, ablock, ahint, absOf, flat, nilCheckA, ANext.ofP, evals, evalPs, evalO, aresults, aresults1, aresult, aend, List.getElem?_set, List.length_set, Option.map_some, Option.bind_some, if_true, if_false, ↓reduceIte, Nat.reduceLT, Nat.reduceEqDiff, reduceCtorEq, Bool.false_eq_true, false_and, and_false, and_true, true_and, Nat.reduceAdd, Nat.reduceLeDiff, callA, List.getElem?_toArray, List.getElem?_cons_succ, List.getElem?_cons_zero, sb1, sb2, sb3, sb4, hh, t0, t2, t3, t10, t11, h12, tl, b_neq, z1, cf35, cf36, c1, b_eql, z3]
        exact ⟨_, _, rfl, ⟨own_rset own hne, by simp only [List.getElem?_set, List.length_set, Nat.reduceLT, Nat.reduceEqDiff, ↓reduceIte, reduceCtorEq, *], by simp only [List.getElem?_set, List.length_set, Nat.reduceLT, Nat.reduceEqDiff, ↓reduceIte, reduceCtorEq, *], by simp only [List.getElem?_set, List.length_set, Nat.reduceLT, Nat.reduceEqDiff, ↓reduceIte, reduceCtorEq, *], by simp only [List.getElem?_set, List.length_set, Nat.reduceLT, Nat.reduceEqDiff, ↓reduceIte, reduceCtorEq, *], by simp only [List.getElem?_set, List.length_set, Nat.reduceLT, Nat.reduceEqDiff, ↓reduceIte, reduceCtorEq, *], by simp only [List.getElem?_set, List.length_set, Nat.reduceLT, Nat.reduceEqDiff, ↓reduceIte, reduceCtorEq, *]⟩⟩

theorem slice_to {s L c : Nat} (hL : 0 < L) (hc : c ≤ L) : sliceA E.P 24 (.slice s 0 L 1 none) none (some (.lit (.int .i64 c))) none = some (.slice s 0 c 1 none) := by
  have e : sliceA E.P 24 (.slice s 0 L 1 none) none (some (.lit (.int .i64 c))) none = (match boundsA L L none (some (.lit (.int .i64 c))) none with
        | some (l, h, m) => match m, (none : Option Nat) with
          | some m, _ => some (.slice s (if m = l then 0 else 0 + l * 1) (h - l) 1 (some (m - l)))
          | none, some c => some (.slice s (if c = l then 0 else 0 + l * 1) (h - l) 1 (some (c - l)))
          | none, none => if l < L then some (.slice s (0 + l * 1) (h - l) 1 none) else some (.islice 1 [] .unk)
        | none => none) := rfl
  have e2 : boundsA L L none (some (.lit (.int .i64 c))) none = some (0, c, none) := by
    have b1 : boundA (some (.lit (.int .i64 c))) L L = some c := by
      have : boundA (some (.lit (.int .i64 c))) L L = if 0 ≤ (c : Int) ∧ (c : Int) ≤ (L : Int) then some (c : Int).toNat else none := rfl
      rw [this, if_pos ⟨by omega, by omega⟩, Int.toNat_natCast]
    have b2 : boundA none 0 c = some 0 := rfl
    unfold boundsA
    simp only [b1, b2]
  rw [e, e2]
  simp only [if_pos hL, Nat.zero_mul, Nat.zero_add, Nat.sub_zero]

theorem own_part {st : ASt} {s c : Nat} {l : List UInt8} (h : Own1 st s l) (hc : c ≤ l.length) : BS st (.slice s 0 c 1 none) (l.take c) := by
  have hl : (l.take c).length = c := by rw [List.length_take]; omega
  refine .inr ⟨s, 0, none, l.map byteA, by rw [hl], h.lt, h.at', by rw [hl]; simp; omega, by rw [hl, List.drop_zero, List.map_take]⟩

set_option maxHeartbeats 1000000 in
theorem one_C (N m : Nat) (hN2 : 300 ≤ N) (dr : Array Oper → Bool) {n by' cut k sB rs : Nat} {v : AVal} {ts : List AVal} {st : ASt} (hn : n < 2 ^ 64) (hb : by' < 256) (hcut : cut < 256) (hk : k < (enc n).length) (h : OneI n by' cut k sB rs v (turned (enc n) k by') ts st) :
    ∃ ts' st', aexec E 11 (run E N) dr m oC ts st = some (.ret, ts', st') ∧ ts'[8]? = some (.lit (.bool true)) := by
  obtain ⟨own, t0, t2, t3, t10, t11, tl⟩ := h
  have hh : ∀ t, E.hint 11 t = false := fun _ => rfl
  have hL := enc_len n
  rw [turned_length] at t10
  have hk' : k < (turned (enc n) k by').length := by rw [turned_length]; exact hk
  obtain ⟨i1, i2⟩ := own_idx own hk'
  rw [turned_length] at i1
  have hx := xor_nat (k := .u8) rfl (a := (turned (enc n) k by')[k].toNat) (b := by') (UInt8.toNat_lt _) hb
  have hx8 : (turned (enc n) k by')[k].toNat ^^^ by' < 256 := xor_lt (UInt8.toNat_lt _) hb
  have hst := own_store own hk' hx8
  have hT : (turned (enc n) k by').set k (UInt8.ofNat ((turned (enc n) k by')[k].toNat ^^^ by')) = enc n := by
    have h1 := turned_back hk hb
    unfold turned at h1 ⊢
    rw [List.getD_eq_getElem?_getD (l := (enc n).set k _), List.getElem?_eq_getElem (by simpa using hk)] at h1
    exact h1
  rw [hT] at hst
  have own2 := oset_own own (enc n)
  have hcl : cut % (enc n).length < (enc n).length := Nat.mod_lt _ (by omega)
  have hsl := slice_to (s := sB) (L := (enc n).length) (c := cut % (enc n).length) (by omega) (by omega)
  obtain ⟨rs2, v2, st3, n3, r3, g3, lt3⟩ := read_run (own_part own2 (by omega : cut % (enc n).length ≤ (enc n).length)) (by rw [List.length_take]; omega)
  have n4 := rnum_run r3 (by omega) (by rw [List.length_take]; omega)
  rw [List.drop_zero, rd_short hn hcl] at n4
  simp only [if_true, rdVal, rdEnd] at n4
  have n5 := err_run (rset_at r3 0 3)
  have n6 := at_run (rset_at r3 0 3)
  have c3 := n3 N (by omega)
  have c4 := n4 N (by rw [List.length_take]; omega)
  have c5 := n5 N (by omega)
  have c6 := n6 N (by omega)
  have hcv := fun st => c_int (mt := false) (st := st) (k := .u8) (n := ((cut : Nat) : Int)) u5 u3
  have hw : IntKind.i64.wrap ((cut : Nat) : Int) = ((cut : Nat) : Int) := by
    simp [IntKind.wrap, IntKind.bits, IntKind.signed]; omega
  simp only [hw] at hcv
  have hL0 : (((enc n).length : Nat) : Int) ≠ 0 := by omega
  have hrem : ((cut : Nat) : Int).tmod (((enc n).length : Nat) : Int) = ((cut % (enc n).length : Nat) : Int) := by
    rw [Int.tmod_eq_emod_of_nonneg (by omega)]; rfl
  have hlen2 : ∀ mt ty cs st, builtinA E.P mt .len #[24] ty cs [.slice sB 0 (enc n).length 1 none] st = some (.val (.lit (.int .i64 (enc n).length)) st) := fun mt ty cs st => bs_len own2.bs mt ty cs st
  have z0 : (((0 : Nat) : Int) == 0) = true := rfl
  have z3 : (((3 : Nat) : Int) == 3) = true := rfl
  simp only [oC, code, Try.f11, Option.getD_some, Code.fst, Code.snd, Code.inn, aexec, aops, aop, Region.wanted, ayielded, aexecOp, aeval, aput, aseq, ablock, ahint, absOf, flat, nilCheckA, ANext.ofP, evals, evalPs, evalO, aresults, aresults1, aresult, aend, List.getElem?_set, List.length_set, Option.map_some, Option.bind_some, if_true, if_false, ↓reduceIte, Nat.reduceLT, Nat.reduceEqDiff, reduceCtorEq, Bool.false_eq_true, false_and, and_false, and_true, true_and, Nat.reduceAdd, Nat.reduceLeDiff, callA, List.getElem?_toArray, List.getElem?_cons_succ, List.getElem?_cons_zero, sb1, sb2, sb3, sb4, hh, t0, t2, t3, t10, t11, tl, i1, i2, b_xor, hx, hst, hcv, ANext.ofP, hlen2, b_rem _ _ _ _ _ _ _ hL0, hrem, hsl, cf34, cf35, cf37, cf38, c3, c4, c5, c6, b_eql, z0, z3]
  exact ⟨_, _, rfl, by simp only [List.getElem?_set, List.length_set, Nat.reduceLT, Nat.reduceEqDiff, ↓reduceIte, reduceCtorEq, *]⟩

theorem datv_nat {n : Nat} {t : TypeId} {k : IntKind} {v : AVal} (hu : E.P.underlying t = some (.int k)) (hr : rowB E.P t = false) (hk : k.signed = false) (h : DatV E.P n t v) : ∃ i : Nat, v = .lit (.int k i) ∧ i < 2 ^ k.bits := by
  obtain ⟨i, rfl, h1, h2⟩ := datv_int hu hr h
  have h0 : (0 : Int) ≤ i := by
    have : k.min = 0 := by unfold IntKind.min; rw [hk]; rfl
    omega
  refine ⟨i.toNat, by rw [Int.toNat_of_nonneg h0], ?_⟩
  have : k.max = 2 ^ k.bits - 1 := by unfold IntKind.max; rw [hk]; rfl
  rw [this] at h2
  have h3 : (i.toNat : Int) < 2 ^ k.bits := by rw [Int.toNat_of_nonneg h0]; omega
  exact_mod_cast h3

theorem one_runs (b0 b1 b2 b3 : AVal) (d0 : DatV E.P 6 22 b0) (d1 : DatV E.P 6 5 b1) (d2 : DatV E.P 6 5 b2) (d3 : DatV E.P 6 5 b3) : ∃ n st', run E n 11 [b0, b1, b2, b3] st0 = some (.returned (.lit (.bool true)), st') := by
  obtain ⟨n, rfl, hn⟩ := datv_nat u22 rfl rfl d0
  obtain ⟨at', rfl, ha⟩ := datv_nat u5 rfl rfl d1
  obtain ⟨by', rfl, hb⟩ := datv_nat u5 rfl rfl d2
  obtain ⟨cut, rfl, hc⟩ := datv_nat u5 rfl rfl d3
  simp only [IntKind.bits] at hn ha hb hc
  obtain ⟨s0, d0, hA⟩ := awake
  have hN : d0 ≤ max d0 2000 := Nat.le_max_left _ _
  have hN2 : 2000 ≤ max d0 2000 := Nat.le_max_right _ _
  refine ⟨max d0 2000 + 1, ?_⟩
  generalize max d0 2000 = N at hN hN2
  obtain ⟨ts, et, t0, t1, t2, t3, tl⟩ : ∃ ts : List AVal, ([AVal.lit (.int .u64 n), .lit (.int .u8 at'), .lit (.int .u8 by'), .lit (.int .u8 cut)] ++ List.replicate (Try.f11.ntmps - [AVal.lit (.int .u64 n), .lit (.int .u8 at'), .lit (.int .u8 by'), .lit (.int .u8 cut)].length) .undef) = ts ∧
      ts[0]? = some (.lit (.int .u64 n)) ∧ ts[1]? = some (.lit (.int .u8 at')) ∧ ts[2]? = some (.lit (.int .u8 by')) ∧ ts[3]? = some (.lit (.int .u8 cut)) ∧ ts.length = 82 := ⟨_, rfl, rfl, rfl, rfl, rfl, rfl⟩
  have hres : ∀ ts st v, ts[8]? = some v → aresults E Try.f11 ts st = some v := by
    intro ts st v h
    unfold aresults
    simp only [Try.f11, aresults1, aresult, h]
  rw [run_code (fn := Try.f11) rfl rfl, et, o_parts]
  have hpos : 0 < (enc n).length := by
    obtain ⟨L, b, r, e, _⟩ := encF_bits 9 n (lt_enc hn)
    show 0 < (encF 9 n).length
    rw [e]; simp
  have hk : at' % (enc n).length < (enc n).length := Nat.mod_lt _ hpos
  have hL := enc_len n
  obtain ⟨ts1, st1, sB, rs, v, e1, hI, hr, hne, h12⟩ := one_A N N d0 (by omega) (drawB E 11) hn ha hb hA hN t0 t1 t2 t3 tl
  obtain ⟨ts2, st2, e2, hI2⟩ := one_B N N (by omega) (drawB E 11) (by rw [turned_length]; exact hpos) (by rw [turned_length]; exact hL) (fun h0 => turned_ne hk hb h0) hI hr hne h12
  obtain ⟨ts3, st3, e3, a8⟩ := one_C N N (by omega) (drawB E 11) hn hb hc hk hI2
  exact ⟨st3, by simp only [e1, aseq, e2, e3, aend, hres _ _ _ a8, Option.map_some]⟩

end Go.Proofs.YtjpehemkgikkdaaV
