/- A reader's Num: the round that goes on, or ends. No condition. -/
import Derived.Test.YtjpehemkgikkdaaR5
namespace Go.Proofs.YtjpehemkgikkdaaV
open Go Go.RowKit Go.Proofs.YtjpehemkgikkdaaA
set_option linter.unusedVariables false
set_option linter.unusedSimpArgs false
set_option maxRecDepth 100000

/-- the number, a byte further -/
def nuN (n sh : Nat) (c : UInt8) : Nat := n ||| (c.toNat &&& 127) * 2 ^ sh

theorem c_mul_lt {sh : Nat} {c : UInt8} (hs : sh ≤ 63) (h63 : sh = 63 → c.toNat ≤ 1) (h56 : sh ≠ 63 → sh ≤ 56) : (c.toNat &&& 127) * 2 ^ sh < 2 ^ 64 := by
  by_cases e : sh = 63
  · have h1 : c.toNat &&& 127 ≤ c.toNat := Nat.and_le_left
    have := h63 e
    subst e
    have : (c.toNat &&& 127) ≤ 1 := by omega
    calc (c.toNat &&& 127) * 2 ^ 63 ≤ 1 * 2 ^ 63 := Nat.mul_le_mul_right _ this
      _ < 2 ^ 64 := by decide
  · have h1 : c.toNat &&& 127 ≤ 127 := Nat.and_le_right
    calc (c.toNat &&& 127) * 2 ^ sh ≤ 127 * 2 ^ 56 := Nat.mul_le_mul h1 (Nat.pow_le_pow_right (by decide) (h56 e))
      _ < 2 ^ 64 := by decide

theorem nuN_lt {n sh : Nat} {c : UInt8} (hn : n < 2 ^ 64) (h : (c.toNat &&& 127) * 2 ^ sh < 2 ^ 64) : nuN n sh c < 2 ^ 64 := Nat.or_lt_two_pow hn h

set_option maxHeartbeats 1000000 in
theorem nu_go (N m : Nat) (hN : 1 ≤ N) (dr : Array Oper → Bool) {v : AVal} {l : List UInt8} {p s i sh n : Nat} {ts : List AVal} {st : ASt} (h : NuI v l p s i sh n ts st) (hi : i < l.length) (hll : l.length ≤ 1000000) (hb : ¬ ((sh = 63 ∧ 1 < l[i].toNat) ∨ (0 < sh ∧ l[i].toNat = 0))) (hs : sh ≤ 63) (h56 : sh ≠ 63 → sh ≤ 56) (hc : 128 ≤ l[i].toNat) :
    ∃ ts', aexec E 35 (run E N) dr m nuRest ts st = some (.goto 0, ts', st) ∧ NuI v l p s (i + 1) (sh + 7) (nuN n sh l[i]) ts' st := by
  obtain ⟨r, il, n64, t0, t3, t4, t5, tl⟩ := h
  have hh : ∀ t, E.hint 35 t = false := fun _ => rfl
  obtain ⟨w35, x35⟩ : ∃ w, ts[35]? = some w := ⟨_, List.getElem?_eq_getElem (by omega)⟩
  obtain ⟨w36, x36⟩ : ∃ w, ts[36]? = some w := ⟨_, List.getElem?_eq_getElem (by omega)⟩
  obtain ⟨w39, x39⟩ : ∃ w, ts[39]? = some w := ⟨_, List.getElem?_eq_getElem (by omega)⟩
  obtain ⟨w40, x40⟩ : ∃ w, ts[40]? = some w := ⟨_, List.getElem?_eq_getElem (by omega)⟩
  obtain ⟨w41, x41⟩ : ∃ w, ts[41]? = some w := ⟨_, List.getElem?_eq_getElem (by omega)⟩
  obtain ⟨w42, x42⟩ : ∃ w, ts[42]? = some w := ⟨_, List.getElem?_eq_getElem (by omega)⟩
  obtain ⟨w43, x43⟩ : ∃ w, ts[43]? = some w := ⟨_, List.getElem?_eq_getElem (by omega)⟩
  obtain ⟨w44, x44⟩ : ∃ w, ts[44]? = some w := ⟨_, List.getElem?_eq_getElem (by omega)⟩
  have hd : (((i : Nat) : Int) == ((l.length : Nat) : Int)) = false := by rw [beq_eq_false_iff_ne]; omega
  obtain ⟨p1, i1, i2⟩ := bs_idx (st := st) (.inl (.inl r.2.2)) hi
  unfold byteA at i2
  have h63 : sh = 63 → l[i].toNat ≤ 1 := fun e => by
    by_cases h1 : 1 < l[i].toNat
    · exact absurd (.inl ⟨e, h1⟩) hb
    · omega
  have hml := c_mul_lt hs h63 h56
  have ha := and_nat (k := .u8) rfl (a := l[i].toNat) (b := 127) (UInt8.toNat_lt _) (by decide)
  have e127 : ((127 : Nat) : Int) = 127 := rfl
  rw [e127] at ha
  have hcv := c_int (mt := false) (st := st) (k := .u8) (n := ((l[i].toNat &&& 127 : Nat) : Int)) u5 u22
  rw [wrap_u rfl (by have : l[i].toNat &&& 127 ≤ 127 := Nat.and_le_right; simp only [IntKind.bits]; omega)] at hcv
  have hsh0 : (0 : Int) ≤ (sh : Int) := by omega
  have hshl : IntKind.u64.wrap (((l[i].toNat &&& 127 : Nat) : Int) * 2 ^ min ((sh : Nat) : Int).toNat IntKind.u64.bits) = (((l[i].toNat &&& 127) * 2 ^ sh : Nat) : Int) := by
    rw [Int.toNat_natCast, show min sh IntKind.u64.bits = sh by simp only [IntKind.bits]; omega]
    have : ((l[i].toNat &&& 127 : Nat) : Int) * 2 ^ sh = (((l[i].toNat &&& 127) * 2 ^ sh : Nat) : Int) := by simp
    rw [this]
    exact wrap_u rfl hml
  have hor := or_nat (k := .u64) rfl (a := n) (b := (l[i].toNat &&& 127) * 2 ^ sh) n64 hml
  have hi1 : IntKind.i64.wrap ((i : Int) + 1) = ((i + 1 : Nat) : Int) := by
    simp [IntKind.wrap, IntKind.bits, IntKind.signed]; omega
  have hs7 : IntKind.i64.wrap ((sh : Int) + 7) = ((sh + 7 : Nat) : Int) := by
    simp [IntKind.wrap, IntKind.bits, IntKind.signed]; omega
  have hge : decide (((l[i].toNat : Nat) : Int) ≥ 128) = true := by rw [decide_eq_true_eq]; omega
  cases b1 : (((sh : Nat) : Int) == 63) with
  | true =>
    have hsh : sh = 63 := by have := eq_of_beq b1; omega
    have b2 : decide (((l[i].toNat : Nat) : Int) > 1) = false := by rw [decide_eq_false_iff_not]; have := h63 hsh; omega
    have b3 : decide (((sh : Nat) : Int) > 0) = true := by rw [decide_eq_true_eq]; omega
    have b4 : (((l[i].toNat : Nat) : Int) == 0) = false := by rw [beq_eq_false_iff_ne]; intro e; exact hb (.inr ⟨by omega, by omega⟩)
    simp only [AVal.undef, sbn, sbn', nuRest, nuScope, code, Try.f35, Option.getD_some, Code.fst, Code.snd, Code.inn, aexec, aops, aop, Region.wanted, ayielded, aexecOp, aeval, aput, aseq, ablock, ahint, absOf, flat, nilCheckA, ANext.ofP, evals, evalPs, evalO, aresults, aresults1, aresult, aend, List.getElem?_set, List.length_set, Option.map_some, Option.bind_some, if_true, if_false, ↓reduceIte, Nat.reduceLT, Nat.reduceEqDiff, reduceCtorEq, Bool.false_eq_true, false_and, and_false, and_true, true_and, Nat.reduceAdd, Nat.reduceLeDiff, callA, List.getElem?_toArray, List.getElem?_cons_succ, List.getElem?_cons_zero, sb1, sb2, sb3, sb4, t0, t3, t4, t5, tl, x35, x36, x39, x40, x41, x42, x43, x44, hh, (fld84 s).1, (fld84 s).2.1, (ld_r r).1, len_b (.inl r.2.2), b_eql, hd, i1, i2, b1, b_gtr, b_and, ha, hcv, b_shl _ _ _ _ _ _ _ _ hsh0, hshl, b_or, hor, b_add, hi1, hs7, b_geq, hge, b2, b3, b4]
    exact ⟨_, rfl, r, by omega, nuN_lt n64 hml, by simp only [List.getElem?_set, List.length_set, Nat.reduceLT, Nat.reduceEqDiff, ↓reduceIte, reduceCtorEq, *], by simp only [List.getElem?_set, List.length_set, Nat.reduceLT, Nat.reduceEqDiff, ↓reduceIte, reduceCtorEq, *]; rfl, by simp only [List.getElem?_set, List.length_set, Nat.reduceLT, Nat.reduceEqDiff, ↓reduceIte, reduceCtorEq, *], by simp only [List.getElem?_set, List.length_set, Nat.reduceLT, Nat.reduceEqDiff, ↓reduceIte, reduceCtorEq, *], by simp only [List.getElem?_set, List.length_set, Nat.reduceLT, Nat.reduceEqDiff, ↓reduceIte, reduceCtorEq, *]⟩
  | false =>
    cases b3 : decide (((sh : Nat) : Int) > 0) with
    | true =>
      have b4 : (((l[i].toNat : Nat) : Int) == 0) = false := by rw [decide_eq_true_eq] at b3; rw [beq_eq_false_iff_ne]; intro e; exact hb (.inr ⟨by omega, by omega⟩)
      simp only [AVal.undef, sbn, sbn', nuRest, nuScope, code, Try.f35, Option.getD_some, Code.fst, Code.snd, Code.inn, aexec, aops, aop, Region.wanted, ayielded, aexecOp, aeval, aput, aseq, ablock, ahint, absOf, flat, nilCheckA, ANext.ofP, evals, evalPs, evalO, aresults, aresults1, aresult, aend, List.getElem?_set, List.length_set, Option.map_some, Option.bind_some, if_true, if_false, ↓reduceIte, Nat.reduceLT, Nat.reduceEqDiff, reduceCtorEq, Bool.false_eq_true, false_and, and_false, and_true, true_and, Nat.reduceAdd, Nat.reduceLeDiff, callA, List.getElem?_toArray, List.getElem?_cons_succ, List.getElem?_cons_zero, sb1, sb2, sb3, sb4, t0, t3, t4, t5, tl, x35, x36, x39, x40, x41, x42, x43, x44, hh, (fld84 s).1, (fld84 s).2.1, (ld_r r).1, len_b (.inl r.2.2), b_eql, hd, i1, i2, b1, b_gtr, b_and, ha, hcv, b_shl _ _ _ _ _ _ _ _ hsh0, hshl, b_or, hor, b_add, hi1, hs7, b_geq, hge, b3, b4]
      exact ⟨_, rfl, r, by omega, nuN_lt n64 hml, by simp only [List.getElem?_set, List.length_set, Nat.reduceLT, Nat.reduceEqDiff, ↓reduceIte, reduceCtorEq, *], by simp only [List.getElem?_set, List.length_set, Nat.reduceLT, Nat.reduceEqDiff, ↓reduceIte, reduceCtorEq, *]; rfl, by simp only [List.getElem?_set, List.length_set, Nat.reduceLT, Nat.reduceEqDiff, ↓reduceIte, reduceCtorEq, *], by simp only [List.getElem?_set, List.length_set, Nat.reduceLT, Nat.reduceEqDiff, ↓reduceIte, reduceCtorEq, *], by simp only [List.getElem?_set, List.length_set, Nat.reduceLT, Nat.reduceEqDiff, ↓reduceIte, reduceCtorEq, *]⟩
    | false =>
      simp only [AVal.undef, sbn, sbn', nuRest, nuScope, code, Try.f35, Option.getD_some, Code.fst, Code.snd, Code.inn, aexec, aops, aop, Region.wanted, ayielded, aexecOp, aeval, aput, aseq, ablock, ahint, absOf, flat, nilCheckA, ANext.ofP, evals, evalPs, evalO, aresults, aresults1, aresult, aend, List.getElem?_set, List.length_set, Option.map_some, Option.bind_some, if_true, if_false, ↓reduceIte, Nat.reduceLT, Nat.reduceEqDiff, reduceCtorEq, Bool.false_eq_true, false_and, and_false, and_true, true_and, Nat.reduceAdd, Nat.reduceLeDiff, callA, List.getElem?_toArray, List.getElem?_cons_succ, List.getElem?_cons_zero, sb1, sb2, sb3, sb4, t0, t3, t4, t5, tl, x35, x36, x39, x40, x41, x42, x43, x44, hh, (fld84 s).1, (fld84 s).2.1, (ld_r r).1, len_b (.inl r.2.2), b_eql, hd, i1, i2, b1, b_gtr, b_and, ha, hcv, b_shl _ _ _ _ _ _ _ _ hsh0, hshl, b_or, hor, b_add, hi1, hs7, b_geq, hge, b3]
      exact ⟨_, rfl, r, by omega, nuN_lt n64 hml, by simp only [List.getElem?_set, List.length_set, Nat.reduceLT, Nat.reduceEqDiff, ↓reduceIte, reduceCtorEq, *], by simp only [List.getElem?_set, List.length_set, Nat.reduceLT, Nat.reduceEqDiff, ↓reduceIte, reduceCtorEq, *]; rfl, by simp only [List.getElem?_set, List.length_set, Nat.reduceLT, Nat.reduceEqDiff, ↓reduceIte, reduceCtorEq, *], by simp only [List.getElem?_set, List.length_set, Nat.reduceLT, Nat.reduceEqDiff, ↓reduceIte, reduceCtorEq, *], by simp only [List.getElem?_set, List.length_set, Nat.reduceLT, Nat.reduceEqDiff, ↓reduceIte, reduceCtorEq, *]⟩

set_option maxHeartbeats 1000000 in
theorem nu_last (N m : Nat) (hN : 1 ≤ N) (dr : Array Oper → Bool) {v : AVal} {l : List UInt8} {p s i sh n : Nat} {ts : List AVal} {st : ASt} (h : NuI v l p s i sh n ts st) (hi : i < l.length) (hll : l.length ≤ 1000000) (hb : ¬ ((sh = 63 ∧ 1 < l[i].toNat) ∨ (0 < sh ∧ l[i].toNat = 0))) (hs : sh ≤ 63) (h56 : sh ≠ 63 → sh ≤ 56) (hc : l[i].toNat < 128) :
    ∃ ts', aexec E 35 (run E N) dr m nuRest ts st = some (.ret, ts', rset st s v (i + 1) 0) ∧ ts'[2]? = some (.lit (.int .u64 (nuN n sh l[i] : Nat))) := by
  obtain ⟨r, il, n64, t0, t3, t4, t5, tl⟩ := h
  have hh : ∀ t, E.hint 35 t = false := fun _ => rfl
  obtain ⟨w35, x35⟩ : ∃ w, ts[35]? = some w := ⟨_, List.getElem?_eq_getElem (by omega)⟩
  obtain ⟨w36, x36⟩ : ∃ w, ts[36]? = some w := ⟨_, List.getElem?_eq_getElem (by omega)⟩
  obtain ⟨w39, x39⟩ : ∃ w, ts[39]? = some w := ⟨_, List.getElem?_eq_getElem (by omega)⟩
  obtain ⟨w40, x40⟩ : ∃ w, ts[40]? = some w := ⟨_, List.getElem?_eq_getElem (by omega)⟩
  obtain ⟨w41, x41⟩ : ∃ w, ts[41]? = some w := ⟨_, List.getElem?_eq_getElem (by omega)⟩
  obtain ⟨w42, x42⟩ : ∃ w, ts[42]? = some w := ⟨_, List.getElem?_eq_getElem (by omega)⟩
  obtain ⟨w43, x43⟩ : ∃ w, ts[43]? = some w := ⟨_, List.getElem?_eq_getElem (by omega)⟩
  obtain ⟨w44, x44⟩ : ∃ w, ts[44]? = some w := ⟨_, List.getElem?_eq_getElem (by omega)⟩
  have hd : (((i : Nat) : Int) == ((l.length : Nat) : Int)) = false := by rw [beq_eq_false_iff_ne]; omega
  obtain ⟨p1, i1, i2⟩ := bs_idx (st := st) (.inl (.inl r.2.2)) hi
  unfold byteA at i2
  have h63 : sh = 63 → l[i].toNat ≤ 1 := fun e => by
    by_cases h1 : 1 < l[i].toNat
    · exact absurd (.inl ⟨e, h1⟩) hb
    · omega
  have hml := c_mul_lt hs h63 h56
  have ha := and_nat (k := .u8) rfl (a := l[i].toNat) (b := 127) (UInt8.toNat_lt _) (by decide)
  have e127 : ((127 : Nat) : Int) = 127 := rfl
  rw [e127] at ha
  have hcv := c_int (mt := false) (st := st) (k := .u8) (n := ((l[i].toNat &&& 127 : Nat) : Int)) u5 u22
  rw [wrap_u rfl (by have : l[i].toNat &&& 127 ≤ 127 := Nat.and_le_right; simp only [IntKind.bits]; omega)] at hcv
  have hsh0 : (0 : Int) ≤ (sh : Int) := by omega
  have hshl : IntKind.u64.wrap (((l[i].toNat &&& 127 : Nat) : Int) * 2 ^ min ((sh : Nat) : Int).toNat IntKind.u64.bits) = (((l[i].toNat &&& 127) * 2 ^ sh : Nat) : Int) := by
    rw [Int.toNat_natCast, show min sh IntKind.u64.bits = sh by simp only [IntKind.bits]; omega]
    have : ((l[i].toNat &&& 127 : Nat) : Int) * 2 ^ sh = (((l[i].toNat &&& 127) * 2 ^ sh : Nat) : Int) := by simp
    rw [this]
    exact wrap_u rfl hml
  have hor := or_nat (k := .u64) rfl (a := n) (b := (l[i].toNat &&& 127) * 2 ^ sh) n64 hml
  have hi1 : IntKind.i64.wrap ((i : Int) + 1) = ((i + 1 : Nat) : Int) := by
    simp [IntKind.wrap, IntKind.bits, IntKind.signed]; omega
  have hs7 : IntKind.i64.wrap ((sh : Int) + 7) = ((sh + 7 : Nat) : Int) := by
    simp [IntKind.wrap, IntKind.bits, IntKind.signed]; omega
  have hge : decide (((l[i].toNat : Nat) : Int) ≥ 128) = false := by rw [decide_eq_false_iff_not]; omega
  cases b1 : (((sh : Nat) : Int) == 63) with
  | true =>
    have hsh : sh = 63 := by have := eq_of_beq b1; omega
    have b2 : decide (((l[i].toNat : Nat) : Int) > 1) = false := by rw [decide_eq_false_iff_not]; have := h63 hsh; omega
    have b3 : decide (((sh : Nat) : Int) > 0) = true := by rw [decide_eq_true_eq]; omega
    have b4 : (((l[i].toNat : Nat) : Int) == 0) = false := by rw [beq_eq_false_iff_ne]; intro e; exact hb (.inr ⟨by omega, by omega⟩)
    simp only [AVal.undef, sbn, sbn', nuRest, nuScope, code, Try.f35, Option.getD_some, Code.fst, Code.snd, Code.inn, aexec, aops, aop, Region.wanted, ayielded, aexecOp, aeval, aput, aseq, ablock, ahint, absOf, flat, nilCheckA, ANext.ofP, evals, evalPs, evalO, aresults, aresults1, aresult, aend, List.getElem?_set, List.length_set, Option.map_some, Option.bind_some, if_true, if_false, ↓reduceIte, Nat.reduceLT, Nat.reduceEqDiff, reduceCtorEq, Bool.false_eq_true, false_and, and_false, and_true, true_and, Nat.reduceAdd, Nat.reduceLeDiff, callA, List.getElem?_toArray, List.getElem?_cons_succ, List.getElem?_cons_zero, sb1, sb2, sb3, sb4, t0, t3, t4, t5, tl, x35, x36, x39, x40, x41, x42, x43, x44, hh, (fld84 s).1, (fld84 s).2.1, (ld_r r).1, len_b (.inl r.2.2), b_eql, hd, i1, i2, b1, b_gtr, b_and, ha, hcv, b_shl _ _ _ _ _ _ _ _ hsh0, hshl, b_or, hor, b_add, hi1, hs7, b_geq, hge, b2, b3, b4, (st_r r (i + 1)).1]
    exact ⟨_, rfl, by simp only [List.getElem?_set, List.length_set, Nat.reduceLT, Nat.reduceEqDiff, ↓reduceIte, reduceCtorEq, *]; rfl⟩
  | false =>
    cases b3 : decide (((sh : Nat) : Int) > 0) with
    | true =>
      have b4 : (((l[i].toNat : Nat) : Int) == 0) = false := by rw [decide_eq_true_eq] at b3; rw [beq_eq_false_iff_ne]; intro e; exact hb (.inr ⟨by omega, by omega⟩)
      simp only [AVal.undef, sbn, sbn', nuRest, nuScope, code, Try.f35, Option.getD_some, Code.fst, Code.snd, Code.inn, aexec, aops, aop, Region.wanted, ayielded, aexecOp, aeval, aput, aseq, ablock, ahint, absOf, flat, nilCheckA, ANext.ofP, evals, evalPs, evalO, aresults, aresults1, aresult, aend, List.getElem?_set, List.length_set, Option.map_some, Option.bind_some, if_true, if_false, ↓reduceIte, Nat.reduceLT, Nat.reduceEqDiff, reduceCtorEq, Bool.false_eq_true, false_and, and_false, and_true, true_and, Nat.reduceAdd, Nat.reduceLeDiff, callA, List.getElem?_toArray, List.getElem?_cons_succ, List.getElem?_cons_zero, sb1, sb2, sb3, sb4, t0, t3, t4, t5, tl, x35, x36, x39, x40, x41, x42, x43, x44, hh, (fld84 s).1, (fld84 s).2.1, (ld_r r).1, len_b (.inl r.2.2), b_eql, hd, i1, i2, b1, b_gtr, b_and, ha, hcv, b_shl _ _ _ _ _ _ _ _ hsh0, hshl, b_or, hor, b_add, hi1, hs7, b_geq, hge, b3, b4, (st_r r (i + 1)).1]
      exact ⟨_, rfl, by simp only [List.getElem?_set, List.length_set, Nat.reduceLT, Nat.reduceEqDiff, ↓reduceIte, reduceCtorEq, *]; rfl⟩
    | false =>
      simp only [AVal.undef, sbn, sbn', nuRest, nuScope, code, Try.f35, Option.getD_some, Code.fst, Code.snd, Code.inn, aexec, aops, aop, Region.wanted, ayielded, aexecOp, aeval, aput, aseq, ablock, ahint, absOf, flat, nilCheckA, ANext.ofP, evals, evalPs, evalO, aresults, aresults1, aresult, aend, List.getElem?_set, List.length_set, Option.map_some, Option.bind_some, if_true, if_false, ↓reduceIte, Nat.reduceLT, Nat.reduceEqDiff, reduceCtorEq, Bool.false_eq_true, false_and, and_false, and_true, true_and, Nat.reduceAdd, Nat.reduceLeDiff, callA, List.getElem?_toArray, List.getElem?_cons_succ, List.getElem?_cons_zero, sb1, sb2, sb3, sb4, t0, t3, t4, t5, tl, x35, x36, x39, x40, x41, x42, x43, x44, hh, (fld84 s).1, (fld84 s).2.1, (ld_r r).1, len_b (.inl r.2.2), b_eql, hd, i1, i2, b1, b_gtr, b_and, ha, hcv, b_shl _ _ _ _ _ _ _ _ hsh0, hshl, b_or, hor, b_add, hi1, hs7, b_geq, hge, b3, (st_r r (i + 1)).1]
      exact ⟨_, rfl, by simp only [List.getElem?_set, List.length_set, Nat.reduceLT, Nat.reduceEqDiff, ↓reduceIte, reduceCtorEq, *]; rfl⟩

end Go.Proofs.YtjpehemkgikkdaaV
