/- cert.Decode, walked: its contract. No condition. -/
import Derived.Test.YtnndngoanknemaaC6
namespace Go.Proofs.YtnndngoanknemaaV
open Go Go.RowKit Go.Proofs.YtnndngoanknemaaA
set_option linter.unusedVariables false
set_option linter.unusedSimpArgs false
set_option maxRecDepth 100000

theorem Gr.tf {base st st' : ASt} {a s : Nat} (h : Gr base st) (hf : Tf st st' a s) (ha : base.ctr ≤ a) (hs : base.ctr ≤ s) : Gr base st' :=
  ⟨by rw [hf.1]; exact h.1, fun j hj => by rw [hf.2 j (by omega) (by omega), h.2 j hj]⟩

/-- a taker that was made here -/
structure TI (base st : ASt) (a s : Nat) (v : AVal) (l : List UInt8) (p e pa ea : Nat) : Prop where
  t : TAt st a s v l p e pa ea
  gr : Gr base st
  la : base.ctr ≤ a
  ls : base.ctr ≤ s
theorem TI.step {base st st' : ASt} {a s : Nat} {v : AVal} {l : List UInt8} {p e pa ea p' e' pa' ea' : Nat} (h : TI base st a s v l p e pa ea) (ht : TAt st' a s v l p' e' pa' ea') (hf : Tf st st' a s) : TI base st' a s v l p' e' pa' ea' :=
  ⟨ht, h.gr.tf hf h.la h.ls, h.la, h.ls⟩

theorem cf28' (a : List AVal) (st : ASt) : callFuncA E.P 28 a st = some (.enter 28 a st) := rfl
theorem cf29' (a : List AVal) (st : ASt) : callFuncA E.P 29 a st = some (.enter 29 a st) := rfl
theorem cf31' (a : List AVal) (st : ASt) : callFuncA E.P 31 a st = some (.enter 31 a st) := rfl
theorem cf32' (a : List AVal) (st : ASt) : callFuncA E.P 32 a st = some (.enter 32 a st) := rfl
theorem cf16' (a : List AVal) (st : ASt) : callFuncA E.P 16 a st = some (.enter 16 a st) := rfl

theorem dc_A (N m : Nat) (hN : 110002 ≤ N) (dr : Array Oper → Bool) {x : AVal} {b : List UInt8} {ts : List AVal} {st : ASt} (hx : BN st x b) (hb : b.length ≤ 100000) (t0 : ts[0]? = some x) (tl : ts.length = 131) :
    (∃ p c ts' st', frP b = .inl (p, c) ∧ Gr st st' ∧ aexec E 16 (run E N) dr m dcA ts st = some (.ret, ts', st') ∧ ts'[2]? = some (.lit (.int .u32 0)) ∧ ts'[3]? = some .nilSlice ∧ ts'[4]? = some (.lit (.int .i64 (p : Nat))) ∧ ts'[5]? = some (.lit (.int .i64 (c : Nat)))) ∨
    (∃ l v ts' st', frP b = .inr l ∧ BN st' v l ∧ Gr st st' ∧ aexec E 16 (run E N) dr m dcA ts st = some (.normal, ts', st') ∧ ts'[6]? = some v ∧ ts'.length = 131) := by
  have hh : ∀ t, E.hint 16 t = false := fun _ => rfl
  obtain ⟨r, st', n1, g1, hr⟩ := frame_run hx hb
  have c1 := n1 N (by omega)
  rcases hr with ⟨p, c, hf, rfl⟩ | ⟨l, v, hf, rfl, hv⟩
  · have hc : c ≠ 0 := by
      unfold frP at hf
      split at hf
      · cases hf; decide
      · split at hf
        · cases hf; decide
        · split at hf
          · cases hf; decide
          · cases hf
    have z : (((c : Nat) : Int) != 0) = true := by rw [bne_iff_ne]; omega
    left
    refine ⟨p, c, ?_⟩
    simp only [AVal.undef, sbn, sbn', dcA, code, Try.f16, Option.getD_some, Code.fst, Code.snd, Code.inn, aexec, aops, aop, Region.wanted, ayielded, aexecOp, aeval, aput, aseq, ablock, ahint, absOf, flat, nilCheckA, ANext.ofP, evals, evalPs, evalO, aresults, aresults1, aresult, aend, List.getElem?_set, List.length_set, Option.map_some, Option.bind_some, if_true, if_false, ↓reduceIte, Nat.reduceLT, Nat.reduceEqDiff, reduceCtorEq, Bool.false_eq_true, false_and, and_false, and_true, true_and, Nat.reduceAdd, Nat.reduceLeDiff, callA, List.getElem?_toArray, List.getElem?_cons_succ, List.getElem?_cons_zero, sb1, sb2, sb3, sb4, sliceU_i, sliceU_s, sliceU_p, sliceU_l, evalV, t0, tl, hh, cf27', c1, extractA, b_neq, z]
    exact ⟨_, st', hf, g1, rfl, by simp only [List.getElem?_set, List.length_set, Nat.reduceLT, Nat.reduceEqDiff, ↓reduceIte, reduceCtorEq, *], by simp only [List.getElem?_set, List.length_set, Nat.reduceLT, Nat.reduceEqDiff, ↓reduceIte, reduceCtorEq, *]; rfl, by simp only [List.getElem?_set, List.length_set, Nat.reduceLT, Nat.reduceEqDiff, ↓reduceIte, reduceCtorEq, *], by simp only [List.getElem?_set, List.length_set, Nat.reduceLT, Nat.reduceEqDiff, ↓reduceIte, reduceCtorEq, *]⟩
  · right
    have z : ((0 : Int) != 0) = false := rfl
    refine ⟨l, v, ?_⟩
    simp only [AVal.undef, sbn, sbn', dcA, code, Try.f16, Option.getD_some, Code.fst, Code.snd, Code.inn, aexec, aops, aop, Region.wanted, ayielded, aexecOp, aeval, aput, aseq, ablock, ahint, absOf, flat, nilCheckA, ANext.ofP, evals, evalPs, evalO, aresults, aresults1, aresult, aend, List.getElem?_set, List.length_set, Option.map_some, Option.bind_some, if_true, if_false, ↓reduceIte, Nat.reduceLT, Nat.reduceEqDiff, reduceCtorEq, Bool.false_eq_true, false_and, and_false, and_true, true_and, Nat.reduceAdd, Nat.reduceLeDiff, callA, List.getElem?_toArray, List.getElem?_cons_succ, List.getElem?_cons_zero, sb1, sb2, sb3, sb4, sliceU_i, sliceU_s, sliceU_p, sliceU_l, evalV, t0, tl, hh, cf27', c1, extractA, b_neq, z]
    exact ⟨_, st', hf, hv, g1, rfl, by simp only [List.getElem?_set, List.length_set, Nat.reduceLT, Nat.reduceEqDiff, ↓reduceIte, reduceCtorEq, *], by simp only [List.getElem?_set, List.length_set, Nat.reduceLT, Nat.reduceEqDiff, ↓reduceIte, reduceCtorEq, *]⟩

/-- what was read so far, or where it went wrong -/
def DcR (l : List UInt8) (p1 p pa ea : Nat) (s10 m : Int) (more : Nat → Prop) : Prop :=
  (ea ≠ 0 ∧ bodyP l = .inl (pa, ea)) ∨ (ea = 0 ∧ ∃ sum many : Nat, s10 = sum ∧ m = many ∧ sum < 2 ^ 32 ∧ many ≤ 20000 ∧ tk l 4 4294967295 = .inr (sum, p1) ∧ tk l p1 20000 = .inr (many, p) ∧ more many)

theorem dc_B (N m : Nat) (hN : 100010 ≤ N) (dr : Array Oper → Bool) {x : AVal} {l : List UInt8} {ts : List AVal} {base st : ASt} (hx : BN st x l) (hl : l.length ≤ 100000) (h4 : 4 ≤ l.length) (hg : Gr base st) (t6 : ts[6]? = some x) (tl : ts.length = 131) :
    ∃ ts' st' a s v p1 p e pa ea s10 m', aexec E 16 (run E N) dr m dcB ts st = some (.normal, ts', st') ∧ TI base st' a s v l p e pa ea ∧ ts'[7]? = some (.lit (.int .i64 (p1 : Nat))) ∧ ts'[9]? = some (.ptr a 0) ∧ ts'[10]? = some (.lit (.int .u32 s10)) ∧ ts'[11]? = some (.lit (.int .i64 m')) ∧ ts'.length = 131 ∧ DcR l p1 p pa ea s10 m' (fun _ => True) := by
  have hh : ∀ t, E.hint 16 t = false := fun _ => rfl
  obtain ⟨s, v, st1, n1, r1, g1, hs⟩ := read_run hx.bs (by omega)
  obtain ⟨st2, ebx, at2, c2, fr2⟩ : ∃ st2, boxA (.agg [.ptr s 0, .lit (.int .i64 0), .lit (.int .i64 0)]) st1 = some (.ptr st1.ctr 0, st2) ∧ st2.heap st1.ctr = some (.cells [.ptr s 0, .lit (.int .i64 (0 : Nat)), .lit (.int .i64 (0 : Nat))]) ∧ st2.ctr = st1.ctr + 1 ∧ ∀ j, j ≠ st1.ctr → st2.heap j = st1.heap j :=
    ⟨st1.new (.cells [.ptr s 0, .lit (.int .i64 0), .lit (.int .i64 0)]), rfl, by simp [ASt.new], rfl, fun j hj => ASt.new_ne _ _ _ hj⟩
  have hbd : buildA E.P 64 [(0, .ptr s 0)] = some (.agg [.ptr s 0, .lit (.int .i64 0), .lit (.int .i64 0)]) := rfl
  have hsl := r1.1
  have r2 : RAt st2 s v l 0 0 := ⟨by omega, by rw [fr2 s (by omega)]; exact r1.2.1, r1.2.2⟩
  obtain ⟨rv, st3, n3, _, r3, c3, fr3⟩ := rraw_ok (k := 4) r2 (by omega) (by omega)
  have t3 : TAt st3 st1.ctr s v l 4 0 0 0 := ⟨by omega, by omega, by rw [fr3 _ (by omega) (by omega)]; exact at2, r3, h4, fun h => h⟩
  have i3 : TI base st3 st1.ctr s v l 4 0 0 0 := ⟨t3, ⟨by have := hg.1; have := g1.1; omega, fun j hj => by
    have h1 := hg.1
    have h2 := g1.1
    rw [fr3 j (by omega) (by omega), fr2 j (by omega), g1.2 j (by omega), hg.2 j hj]⟩, by have := hg.1; have := g1.1; omega, by have := hg.1; omega⟩
  obtain ⟨x4, st4, p4, e4, pa4, ea4, n4, hx4, t4, f4, k4, z4⟩ := upto_run t3 hl 4294967295
  have n5 := at_run t4.r
  obtain ⟨x6, st6, p6, e6, pa6, ea6, n6, hx6, t6', f6, k6, z6⟩ := upto_run t4 hl 20000
  obtain ⟨f0, f1, f2⟩ := fldT st1.ctr
  obtain ⟨l0, l1, l2⟩ := ld_t at2
  obtain ⟨m0, m1, m2⟩ := ld_t t4.at'
  have w1 := n1 N (by omega)
  have w3 := n3 N (by omega)
  have w4 := n4 N (by omega)
  have w5 := n5 N (by omega)
  have w6 := n6 N (by omega)
  have u32w : ∀ mt st, convA E.P mt 32 22 (.lit (.int .u64 (x4 : Nat))) st = some (.lit (.int .u32 (IntKind.u32.wrap (x4 : Int))), st) := fun mt st => c_int u22 u38
  have i64w : ∀ mt st, convA E.P mt 32 3 (.lit (.int .u64 (x6 : Nat))) st = some (.lit (.int .i64 (IntKind.i64.wrap (x6 : Int))), st) := fun mt st => c_int u22 u3
  have e4' : ((4 : Nat) : Int) = 4 := rfl
  have e5' : ((4294967295 : Nat) : Int) = 4294967295 := rfl
  have e6' : ((20000 : Nat) : Int) = 20000 := rfl
  rw [e4'] at w3
  rw [e5'] at w4
  rw [e6'] at w6
  simp only [AVal.undef, sbn, sbn', dcB, dcX3, code, Try.f16, Option.getD_some, Code.fst, Code.snd, Code.inn, aexec, aops, aop, Region.wanted, ayielded, aexecOp, aeval, aput, aseq, ablock, ahint, absOf, flat, nilCheckA, ANext.ofP, evals, evalPs, evalO, aresults, aresults1, aresult, aend, List.getElem?_set, List.length_set, Option.map_some, Option.bind_some, if_true, if_false, ↓reduceIte, Nat.reduceLT, Nat.reduceEqDiff, reduceCtorEq, Bool.false_eq_true, false_and, and_false, and_true, true_and, Nat.reduceAdd, Nat.reduceLeDiff, callA, List.getElem?_toArray, List.getElem?_cons_succ, List.getElem?_cons_zero, sb1, sb2, sb3, sb4, sliceU_i, sliceU_s, sliceU_p, sliceU_l, evalV, t6, tl, hh, cf28', w1, hbd, ebx, f0, l0, cf29', w3, cf30', w4, u32w, m0, cf31', w5, w6, i64w]
  refine ⟨_, st6, st1.ctr, s, v, p4, p6, e6, pa6, ea6, IntKind.u32.wrap (x4 : Int), IntKind.i64.wrap (x6 : Int), rfl, (i3.step t4 f4).step t6' f6, by simp only [List.getElem?_set, List.length_set, Nat.reduceLT, Nat.reduceEqDiff, ↓reduceIte, reduceCtorEq, *], by simp only [List.getElem?_set, List.length_set, Nat.reduceLT, Nat.reduceEqDiff, ↓reduceIte, reduceCtorEq, *], by simp only [List.getElem?_set, List.length_set, Nat.reduceLT, Nat.reduceEqDiff, ↓reduceIte, reduceCtorEq, *], by simp only [List.getElem?_set, List.length_set, Nat.reduceLT, Nat.reduceEqDiff, ↓reduceIte, reduceCtorEq, *], by simp only [List.getElem?_set, List.length_set, Nat.reduceLT, Nat.reduceEqDiff, ↓reduceIte, reduceCtorEq, *], ?_⟩
  rcases z4 rfl with ⟨q, c, hq, rfl, rfl, hc⟩ | ⟨hq4, rfl, rfl⟩
  · obtain ⟨rfl, rfl⟩ := k6 hc
    exact .inl ⟨hc, by unfold bodyP; rw [hq]⟩
  · rcases z6 rfl with ⟨q, c, hq, rfl, rfl, hc⟩ | ⟨hq6, rfl, rfl⟩
    · exact .inl ⟨hc, by unfold bodyP; simp only [hq4, hq]⟩
    · have h1 := tk_le hq4
      have h2 := tk_le hq6
      refine .inr ⟨rfl, x4, x6, ?_, ?_, by omega, h2, hq4, hq6, trivial⟩
      · simp [IntKind.wrap, IntKind.bits, IntKind.signed]; omega
      · exact wrap_mid (by omega) (by omega)

theorem dc_C (N m : Nat) (hN : 100010 ≤ N) (dr : Array Oper → Bool) {l : List UInt8} (hl : l.length ≤ 100000) {ts : List AVal} {base st : ASt} {a s p1 p e pa ea : Nat} {v : AVal} {s10 m' : Int} (hi : TI base st a s v l p e pa ea) (t7 : ts[7]? = some (.lit (.int .i64 (p1 : Nat)))) (t9 : ts[9]? = some (.ptr a 0)) (t10 : ts[10]? = some (.lit (.int .u32 s10))) (t11 : ts[11]? = some (.lit (.int .i64 m'))) (tl : ts.length = 131)
    (hr : DcR l p1 p pa ea s10 m' (fun _ => True)) :
    ∃ ts' st' pa' ea', aexec E 16 (run E N) dr m dcC ts st = some (.normal, ts', st') ∧ TI base st' a s v l p e pa' ea' ∧ ts'[9]? = some (.ptr a 0) ∧ ts'[10]? = some (.lit (.int .u32 s10)) ∧ ts'[11]? = some (.lit (.int .i64 m')) ∧ ts'.length = 131 ∧ DcR l p1 p pa' ea' s10 m' (fun many => ¬ (l.length - p) / 4 < many) := by
  have hh : ∀ t, E.hint 16 t = false := fun _ => rfl
  obtain ⟨f0, f1, f2⟩ := fldT a
  obtain ⟨l0, l1, l2⟩ := ld_t hi.t.at'
  rcases hr with ⟨hea, hb⟩ | ⟨rfl, sum, many, rfl, rfl, h1, h2, h3, h4, _⟩
  · have z : (((ea : Nat) : Int) == 0) = false := by rw [beq_eq_false_iff_ne]; omega
    simp only [AVal.undef, sbn, sbn', dcC, dcX8, dcX3, code, Try.f16, Option.getD_some, Code.fst, Code.snd, Code.inn, aexec, aops, aop, Region.wanted, ayielded, aexecOp, aeval, aput, aseq, ablock, ahint, absOf, flat, nilCheckA, ANext.ofP, evals, evalPs, evalO, aresults, aresults1, aresult, aend, List.getElem?_set, List.length_set, Option.map_some, Option.bind_some, if_true, if_false, ↓reduceIte, Nat.reduceLT, Nat.reduceEqDiff, reduceCtorEq, Bool.false_eq_true, false_and, and_false, and_true, true_and, Nat.reduceAdd, Nat.reduceLeDiff, callA, List.getElem?_toArray, List.getElem?_cons_succ, List.getElem?_cons_zero, sb1, sb2, sb3, sb4, sliceU_i, sliceU_s, sliceU_p, sliceU_l, evalV, t7, t9, t10, t11, tl, hh, f0, f1, f2, l0, l1, l2, b_eql, z]
    exact ⟨_, st, pa, ea, rfl, hi, by simp only [List.getElem?_set, List.length_set, Nat.reduceLT, Nat.reduceEqDiff, ↓reduceIte, reduceCtorEq, *], by simp only [List.getElem?_set, List.length_set, Nat.reduceLT, Nat.reduceEqDiff, ↓reduceIte, reduceCtorEq, *], by simp only [List.getElem?_set, List.length_set, Nat.reduceLT, Nat.reduceEqDiff, ↓reduceIte, reduceCtorEq, *], by simp only [List.getElem?_set, List.length_set, Nat.reduceLT, Nat.reduceEqDiff, ↓reduceIte, reduceCtorEq, *], .inl ⟨hea, hb⟩⟩
  · have z : (((0 : Nat) : Int) == 0) = true := rfl
    have n1 := left_run hi.t.r hi.t.le (by omega)
    have c1 := n1 N (by omega)
    have hle := hi.t.le
    have q1 : IntKind.i64.wrap (((l.length - p : Nat) : Int).tdiv 4) = (((l.length - p) / 4 : Nat) : Int) := by
      have : ((l.length - p : Nat) : Int).tdiv 4 = (((l.length - p) / 4 : Nat) : Int) := by rw [Int.tdiv_eq_ediv_of_nonneg (by omega)]; rfl
      rw [this]
      exact wrap_mid (by omega) (by omega)
    by_cases hm : (l.length - p) / 4 < many
    · have d1 : decide (((many : Nat) : Int) > (((l.length - p) / 4 : Nat) : Int)) = true := by rw [decide_eq_true_eq]; omega
      have s1 := st_t1 hi.t.at' p1
      have s2 := st_t2 (tset_at st a s p1 0) 3
      rw [tset_set] at s2
      have e3 : ((3 : Nat) : Int) = 3 := rfl
      rw [e3] at s2
      simp only [AVal.undef, sbn, sbn', dcC, dcX8, dcX3, code, Try.f16, Option.getD_some, Code.fst, Code.snd, Code.inn, aexec, aops, aop, Region.wanted, ayielded, aexecOp, aeval, aput, aseq, ablock, ahint, absOf, flat, nilCheckA, ANext.ofP, evals, evalPs, evalO, aresults, aresults1, aresult, aend, List.getElem?_set, List.length_set, Option.map_some, Option.bind_some, if_true, if_false, ↓reduceIte, Nat.reduceLT, Nat.reduceEqDiff, reduceCtorEq, Bool.false_eq_true, false_and, and_false, and_true, true_and, Nat.reduceAdd, Nat.reduceLeDiff, callA, List.getElem?_toArray, List.getElem?_cons_succ, List.getElem?_cons_zero, sb1, sb2, sb3, sb4, sliceU_i, sliceU_s, sliceU_p, sliceU_l, evalV, t7, t9, t10, t11, tl, hh, f0, f1, f2, l0, l1, l2, b_eql, z, cf32', c1, b_quo _ _ _ _ _ _ _ (show (4 : Int) ≠ 0 by decide), q1, b_gtr, d1, s1, s2]
      refine ⟨_, _, p1, 3, rfl, hi.step (hi.t.set p1 3 (fun _ => by decide)) (tset_tf _ _ _ _ _), by simp only [List.getElem?_set, List.length_set, Nat.reduceLT, Nat.reduceEqDiff, ↓reduceIte, reduceCtorEq, *], by simp only [List.getElem?_set, List.length_set, Nat.reduceLT, Nat.reduceEqDiff, ↓reduceIte, reduceCtorEq, *], by simp only [List.getElem?_set, List.length_set, Nat.reduceLT, Nat.reduceEqDiff, ↓reduceIte, reduceCtorEq, *], by simp only [List.getElem?_set, List.length_set, Nat.reduceLT, Nat.reduceEqDiff, ↓reduceIte, reduceCtorEq, *], .inl ⟨by decide, ?_⟩⟩
      unfold bodyP
      simp only [h3, h4, if_pos hm]
    · have d1 : decide (((many : Nat) : Int) > (((l.length - p) / 4 : Nat) : Int)) = false := by rw [decide_eq_false_iff_not]; omega
      simp only [AVal.undef, sbn, sbn', dcC, dcX8, dcX3, code, Try.f16, Option.getD_some, Code.fst, Code.snd, Code.inn, aexec, aops, aop, Region.wanted, ayielded, aexecOp, aeval, aput, aseq, ablock, ahint, absOf, flat, nilCheckA, ANext.ofP, evals, evalPs, evalO, aresults, aresults1, aresult, aend, List.getElem?_set, List.length_set, Option.map_some, Option.bind_some, if_true, if_false, ↓reduceIte, Nat.reduceLT, Nat.reduceEqDiff, reduceCtorEq, Bool.false_eq_true, false_and, and_false, and_true, true_and, Nat.reduceAdd, Nat.reduceLeDiff, callA, List.getElem?_toArray, List.getElem?_cons_succ, List.getElem?_cons_zero, sb1, sb2, sb3, sb4, sliceU_i, sliceU_s, sliceU_p, sliceU_l, evalV, t7, t9, t10, t11, tl, hh, f0, f1, f2, l0, l1, l2, b_eql, z, cf32', c1, b_quo _ _ _ _ _ _ _ (show (4 : Int) ≠ 0 by decide), q1, b_gtr, d1]
      exact ⟨_, st, pa, 0, rfl, hi, by simp only [List.getElem?_set, List.length_set, Nat.reduceLT, Nat.reduceEqDiff, ↓reduceIte, reduceCtorEq, *], by simp only [List.getElem?_set, List.length_set, Nat.reduceLT, Nat.reduceEqDiff, ↓reduceIte, reduceCtorEq, *], by simp only [List.getElem?_set, List.length_set, Nat.reduceLT, Nat.reduceEqDiff, ↓reduceIte, reduceCtorEq, *], by simp only [List.getElem?_set, List.length_set, Nat.reduceLT, Nat.reduceEqDiff, ↓reduceIte, reduceCtorEq, *], .inr ⟨rfl, sum, many, rfl, rfl, h1, h2, h3, h4, hm⟩⟩

end Go.Proofs.YtnndngoanknemaaV
