/- WireTakes, walked in the second reading: bytes taken. No condition. -/
import Derived.Test.YtjpehemkgikkdaaT3
namespace Go.Proofs.YtjpehemkgikkdaaV
open Go Go.RowKit Go.Proofs.YtjpehemkgikkdaaA
set_option linter.unusedVariables false
set_option linter.unusedSimpArgs false
set_option maxRecDepth 100000

theorem tdiv2 {n : Int} (h1 : -9223372036854775808 ≤ n) (h2 : n ≤ 9223372036854775807) : -9223372036854775808 ≤ n.tdiv 2 ∧ n.tdiv 2 ≤ 9223372036854775807 := by
  rcases Int.le_total 0 n with h | h
  · rw [Int.tdiv_eq_ediv_of_nonneg h]; omega
  · obtain ⟨m, rfl⟩ : ∃ m, n = -m := ⟨-n, by omega⟩
    rw [Int.neg_tdiv, Int.tdiv_eq_ediv_of_nonneg (by omega)]; omega

theorem wrap_i {n : Int} (h1 : -9223372036854775808 ≤ n) (h2 : n ≤ 9223372036854775807) : IntKind.i64.wrap n = n := by
  simp [IntKind.wrap, IntKind.bits, IntKind.signed]; omega

theorem nil_b : IsB .nilSlice [] := .inr ⟨none, rfl, rfl⟩

theorem slice_lit2 (a : Option Addr) : pureV E.P (Instr.sliceAt 24 (.slice a 0 0) (some (.int .i64 ((0 : Nat) : Int))) (some (.int .i64 ((0 + 0 : Nat) : Int))) none) = some (.lit (.slice a 0 0)) := by rfl

set_option maxHeartbeats 4000000 in
theorem tk_odd_bad (N m : Nat) (hN : 300 ≤ N) (dr : Array Oper → Bool) {x y : AVal} {l : List UInt8} {ns : List Int} {i p e rs : Nat} {v : AVal} {ts : List AVal} {st : ASt} (hx : IsB x l) (hy : IsI y ns) (hl : l.length ≤ 200) (hns : ns.length ≤ 40)
    (hbd : ∀ n ∈ ns, -9223372036854775808 ≤ n ∧ n ≤ 9223372036854775807)
    (h : TkI x y l ns i p e rs v ts st) (hi : i < ns.length) (hev : ns[i].tmod 2 ≠ 0) (hk : e ≠ 0 ∨ ns[i].tdiv 2 < 0 ∨ ((l.length - p : Nat) : Int) < ns[i].tdiv 2) :
    ∃ ts' st' p' e', aexec E 13 (run E N) dr m tkBody ts st = some (.normal, ts', st') ∧ TkI x y l ns (i + 1) p' e' rs v ts' st' := by
  obtain ⟨r, pl, t0, t5, t6, t7, t29, t30, t31, tl⟩ := h
  have hh : ∀ t, E.hint 13 t = false := fun _ => rfl
  have hd : decide ((i : Int) < ns.length) = true := by rw [decide_eq_true_eq]; omega
  have hi1 : IntKind.i64.wrap ((i : Int) + 1) = ((i + 1 : Nat) : Int) := by
    simp [IntKind.wrap, IntKind.bits, IntKind.signed]; omega
  have hnot : ∀ b, pureV E.P (Op.unary .not (.bool b)) = some (.lit (.bool (!b))) := fun _ => rfl
  have hod : (ns[i].tmod 2 == 0) = false := beq_eq_false_iff_ne.2 hev
  obtain ⟨hb1, hb2⟩ := tdiv2 (hbd _ (List.getElem_mem hi)).1 (hbd _ (List.getElem_mem hi)).2
  have hq := wrap_i hb1 hb2
  generalize hKe : ns[i].tdiv 2 = K at *
  have n1 := rraw_bad r pl (by omega) hk
  have c1 := n1 N (by omega)
  have n5 := fun st => eq_run st nil_b nil_b (by simp)
  have c5 := fun st => n5 st N (by simp; omega)
  have c5 : ∀ st, run E N 17 [.nilSlice, .lit (.slice none 0 0)] st = some (.returned (.lit (.bool true)), st) := c5
  have q2 : IntKind.i64.wrap ((l.length : Int) - (p : Int)) = ((l.length - p : Nat) : Int) := by
    simp [IntKind.wrap, IntKind.bits, IntKind.signed]; omega
  by_cases he : e = 0
  · subst he
    rw [if_pos rfl] at c1
    have r' := rset_at r p 3
    have pl' := pl
    have n2 := at_run r'
    have n3 := left_run r' pl' (by omega)
    have n4 := err_run r'
    have c2 := n2 N (by omega)
    have c3 := n3 N (by omega)
    have c4 := n4 N (by omega)
    have z1 : (((0 : Nat) : Int) == 0) = true := rfl
    have z2 : ((3 : Int) == 0) = false := rfl
    have z3 : (((3 : Nat) : Int) != 3) = false := rfl
    cases b1 : decide (K < 0) with
    | true =>
      simp only [AVal.undef, sbn, sbn', tkBody, code, Try.f13, Option.getD_some, Code.fst, Code.snd, Code.inn, aexec, aops, aop, Region.wanted, ayielded, aexecOp, aeval, aput, aseq, ablock, ahint, absOf, flat, nilCheckA, ANext.ofP, evals, evalPs, evalO, aresults, aresults1, aresult, aend, List.getElem?_set, List.length_set, Option.map_some, Option.bind_some, if_true, if_false, ↓reduceIte, Nat.reduceLT, Nat.reduceEqDiff, reduceCtorEq, Bool.false_eq_true, false_and, and_false, and_true, true_and, Nat.reduceAdd, Nat.reduceLeDiff, callA, List.getElem?_toArray, List.getElem?_cons_succ, List.getElem?_cons_zero, sb1, sb2, sb3, sb4, t0, t5, t6, t7, t29, t30, t31, tl, hh, b_lss, b_gtr, hd, idx_i hy hi, load_i3, b_rem _ _ _ _ _ _ _ (show (2 : Int) ≠ 0 by decide), hod, b_quo _ _ _ _ _ _ _ (show (2 : Int) ≠ 0 by decide), hKe, hq, b_eql, cf42, cf17, cf36, cf37, cf38, c1, c2, c3, c4, c5, YtjpehemkgikkdaaA.valOf, hnot, Bool.not_true, b_neq, bne_self_eq_false, b_add, b_sub, q2, hi1, len_b hx, b1, z1, z2, z3]
      exact ⟨_, _, p, 3, rfl, ⟨r', pl', by simp only [List.getElem?_set, List.length_set, Nat.reduceLT, Nat.reduceEqDiff, ↓reduceIte, reduceCtorEq, *], by simp only [List.getElem?_set, List.length_set, Nat.reduceLT, Nat.reduceEqDiff, ↓reduceIte, reduceCtorEq, *], by simp only [List.getElem?_set, List.length_set, Nat.reduceLT, Nat.reduceEqDiff, ↓reduceIte, reduceCtorEq, *], by simp only [List.getElem?_set, List.length_set, Nat.reduceLT, Nat.reduceEqDiff, ↓reduceIte, reduceCtorEq, *]; rfl, by simp only [List.getElem?_set, List.length_set, Nat.reduceLT, Nat.reduceEqDiff, ↓reduceIte, reduceCtorEq, *], by simp only [List.getElem?_set, List.length_set, Nat.reduceLT, Nat.reduceEqDiff, ↓reduceIte, reduceCtorEq, *], by simp only [List.getElem?_set, List.length_set, Nat.reduceLT, Nat.reduceEqDiff, ↓reduceIte, reduceCtorEq, *], by simp only [List.getElem?_set, List.length_set, Nat.reduceLT, Nat.reduceEqDiff, ↓reduceIte, reduceCtorEq, *]⟩⟩
    | false =>
      have b2 : decide (K > ((l.length - p : Nat) : Int)) = true := by
        rw [decide_eq_false_iff_not] at b1
        rw [decide_eq_true_eq]
        rcases hk with h1 | h1 | h1
        · exact absurd rfl h1
        · exact absurd h1 b1
        · exact h1
      simp only [AVal.undef, sbn, sbn', tkBody, code, Try.f13, Option.getD_some, Code.fst, Code.snd, Code.inn, aexec, aops, aop, Region.wanted, ayielded, aexecOp, aeval, aput, aseq, ablock, ahint, absOf, flat, nilCheckA, ANext.ofP, evals, evalPs, evalO, aresults, aresults1, aresult, aend, List.getElem?_set, List.length_set, Option.map_some, Option.bind_some, if_true, if_false, ↓reduceIte, Nat.reduceLT, Nat.reduceEqDiff, reduceCtorEq, Bool.false_eq_true, false_and, and_false, and_true, true_and, Nat.reduceAdd, Nat.reduceLeDiff, callA, List.getElem?_toArray, List.getElem?_cons_succ, List.getElem?_cons_zero, sb1, sb2, sb3, sb4, t0, t5, t6, t7, t29, t30, t31, tl, hh, b_lss, b_gtr, hd, idx_i hy hi, load_i3, b_rem _ _ _ _ _ _ _ (show (2 : Int) ≠ 0 by decide), hod, b_quo _ _ _ _ _ _ _ (show (2 : Int) ≠ 0 by decide), hKe, hq, b_eql, cf42, cf17, cf36, cf37, cf38, c1, c2, c3, c4, c5, YtjpehemkgikkdaaA.valOf, hnot, Bool.not_true, b_neq, bne_self_eq_false, b_add, b_sub, q2, hi1, len_b hx, b1, b2, z1, z2, z3]
      exact ⟨_, _, p, 3, rfl, ⟨r', pl', by simp only [List.getElem?_set, List.length_set, Nat.reduceLT, Nat.reduceEqDiff, ↓reduceIte, reduceCtorEq, *], by simp only [List.getElem?_set, List.length_set, Nat.reduceLT, Nat.reduceEqDiff, ↓reduceIte, reduceCtorEq, *], by simp only [List.getElem?_set, List.length_set, Nat.reduceLT, Nat.reduceEqDiff, ↓reduceIte, reduceCtorEq, *], by simp only [List.getElem?_set, List.length_set, Nat.reduceLT, Nat.reduceEqDiff, ↓reduceIte, reduceCtorEq, *]; rfl, by simp only [List.getElem?_set, List.length_set, Nat.reduceLT, Nat.reduceEqDiff, ↓reduceIte, reduceCtorEq, *], by simp only [List.getElem?_set, List.length_set, Nat.reduceLT, Nat.reduceEqDiff, ↓reduceIte, reduceCtorEq, *], by simp only [List.getElem?_set, List.length_set, Nat.reduceLT, Nat.reduceEqDiff, ↓reduceIte, reduceCtorEq, *], by simp only [List.getElem?_set, List.length_set, Nat.reduceLT, Nat.reduceEqDiff, ↓reduceIte, reduceCtorEq, *]⟩⟩
  · rw [if_neg he] at c1
    have r' := r
    have pl' := pl
    have n2 := at_run r'
    have n3 := left_run r' pl' (by omega)
    have n4 := err_run r'
    have c2 := n2 N (by omega)
    have c3 := n3 N (by omega)
    have c4 := n4 N (by omega)
    have z1 : (((e : Nat) : Int) == 0) = false := by rw [beq_eq_false_iff_ne]; omega
    simp only [AVal.undef, sbn, sbn', tkBody, code, Try.f13, Option.getD_some, Code.fst, Code.snd, Code.inn, aexec, aops, aop, Region.wanted, ayielded, aexecOp, aeval, aput, aseq, ablock, ahint, absOf, flat, nilCheckA, ANext.ofP, evals, evalPs, evalO, aresults, aresults1, aresult, aend, List.getElem?_set, List.length_set, Option.map_some, Option.bind_some, if_true, if_false, ↓reduceIte, Nat.reduceLT, Nat.reduceEqDiff, reduceCtorEq, Bool.false_eq_true, false_and, and_false, and_true, true_and, Nat.reduceAdd, Nat.reduceLeDiff, callA, List.getElem?_toArray, List.getElem?_cons_succ, List.getElem?_cons_zero, sb1, sb2, sb3, sb4, t0, t5, t6, t7, t29, t30, t31, tl, hh, b_lss, b_gtr, hd, idx_i hy hi, load_i3, b_rem _ _ _ _ _ _ _ (show (2 : Int) ≠ 0 by decide), hod, b_quo _ _ _ _ _ _ _ (show (2 : Int) ≠ 0 by decide), hKe, hq, b_eql, cf42, cf17, cf36, cf37, cf38, c1, c2, c3, c4, c5, YtjpehemkgikkdaaA.valOf, hnot, Bool.not_true, b_neq, bne_self_eq_false, b_add, b_sub, q2, hi1, len_b hx, z1]
    exact ⟨_, _, p, e, rfl, ⟨r', pl', by simp only [List.getElem?_set, List.length_set, Nat.reduceLT, Nat.reduceEqDiff, ↓reduceIte, reduceCtorEq, *], by simp only [List.getElem?_set, List.length_set, Nat.reduceLT, Nat.reduceEqDiff, ↓reduceIte, reduceCtorEq, *], by simp only [List.getElem?_set, List.length_set, Nat.reduceLT, Nat.reduceEqDiff, ↓reduceIte, reduceCtorEq, *], by simp only [List.getElem?_set, List.length_set, Nat.reduceLT, Nat.reduceEqDiff, ↓reduceIte, reduceCtorEq, *], by simp only [List.getElem?_set, List.length_set, Nat.reduceLT, Nat.reduceEqDiff, ↓reduceIte, reduceCtorEq, *], by simp only [List.getElem?_set, List.length_set, Nat.reduceLT, Nat.reduceEqDiff, ↓reduceIte, reduceCtorEq, *], by simp only [List.getElem?_set, List.length_set, Nat.reduceLT, Nat.reduceEqDiff, ↓reduceIte, reduceCtorEq, *], by simp only [List.getElem?_set, List.length_set, Nat.reduceLT, Nat.reduceEqDiff, ↓reduceIte, reduceCtorEq, *]⟩⟩

set_option maxHeartbeats 4000000 in
theorem tk_odd_ok (N m : Nat) (hN : 300 ≤ N) (dr : Array Oper → Bool) {x y : AVal} {l : List UInt8} {ns : List Int} {i p e rs : Nat} {v : AVal} {ts : List AVal} {st : ASt} (hx : IsB x l) (hy : IsI y ns) (hl : l.length ≤ 200) (hns : ns.length ≤ 40)
    (hbd : ∀ n ∈ ns, -9223372036854775808 ≤ n ∧ n ≤ 9223372036854775807)
    (h : TkI x y l ns i p e rs v ts st) (hi : i < ns.length) (hev : ns[i].tmod 2 ≠ 0) (he : e = 0) (hk0 : 0 ≤ ns[i].tdiv 2) (hk1 : ns[i].tdiv 2 ≤ ((l.length - p : Nat) : Int)) :
    ∃ ts' st' p' e', aexec E 13 (run E N) dr m tkBody ts st = some (.normal, ts', st') ∧ TkI x y l ns (i + 1) p' e' rs v ts' st' := by
  obtain ⟨r, pl, t0, t5, t6, t7, t29, t30, t31, tl⟩ := h
  have hh : ∀ t, E.hint 13 t = false := fun _ => rfl
  have hd : decide ((i : Int) < ns.length) = true := by rw [decide_eq_true_eq]; omega
  have hi1 : IntKind.i64.wrap ((i : Int) + 1) = ((i + 1 : Nat) : Int) := by
    simp [IntKind.wrap, IntKind.bits, IntKind.signed]; omega
  have hnot : ∀ b, pureV E.P (Op.unary .not (.bool b)) = some (.lit (.bool (!b))) := fun _ => rfl
  have hod : (ns[i].tmod 2 == 0) = false := beq_eq_false_iff_ne.2 hev
  obtain ⟨hb1, hb2⟩ := tdiv2 (hbd _ (List.getElem_mem hi)).1 (hbd _ (List.getElem_mem hi)).2
  have hq := wrap_i hb1 hb2
  generalize hKe : ns[i].tdiv 2 = K at *
  subst he
  obtain ⟨k, rfl⟩ : ∃ k : Nat, K = (k : Int) := ⟨K.toNat, by omega⟩
  obtain ⟨w, st', n1, b1, r', cc, _⟩ := rraw_ok (k := k) r (by omega) (by omega)
  have pl' : p + k ≤ l.length := by omega
  have c1 := n1 N (by omega)
  have n2 := at_run r'
  have n3 := left_run r' pl' (by omega)
  have n4 := err_run r'
  have c2 := n2 N (by omega)
  have c3 := n3 N (by omega)
  have c4 := n4 N (by omega)
  have q2 : IntKind.i64.wrap ((l.length : Int) - (p : Int)) = ((l.length - p : Nat) : Int) := by
    simp [IntKind.wrap, IntKind.bits, IntKind.signed]; omega
  have q3 : IntKind.i64.wrap ((l.length : Int) - ((p + k : Nat) : Int)) = ((l.length - (p + k) : Nat) : Int) := by
    simp [IntKind.wrap, IntKind.bits, IntKind.signed]; omega
  have q4 : IntKind.i64.wrap ((p : Int) + (k : Int)) = ((p + k : Nat) : Int) := by
    simp [IntKind.wrap, IntKind.bits, IntKind.signed]; omega
  have z1 : (((0 : Nat) : Int) == 0) = true := rfl
  have g1 : decide (((k : Nat) : Int) < 0) = false := by rw [decide_eq_false_iff_not]; omega
  have g2 : decide (((k : Nat) : Int) > ((l.length - p : Nat) : Int)) = false := by rw [decide_eq_false_iff_not]; omega
  have n5 := fun (u : AVal) (hu : IsB u ((l.drop p).take k)) => eq_run st' b1 hu (by simp; omega)
  have c5 : ∀ (u : AVal), IsB u ((l.drop p).take k) → run E N 17 [w, u] st' = some (.returned (.lit (.bool true)), st') := fun u hu => by
    have := n5 u hu N (by simp; omega)
    rw [beq_self_eq_true] at this
    exact this
  have len := len_b hx
  rcases hx with ⟨c, rfl⟩ | ⟨a, rfl, rfl⟩
  · obtain ⟨c', hsl⟩ := slice_is (c := c) pl'
    have c5 := c5 _ (.inl ⟨c', rfl⟩)
    simp only [AVal.undef, sbn, sbn', tkBody, code, Try.f13, Option.getD_some, Code.fst, Code.snd, Code.inn, aexec, aops, aop, Region.wanted, ayielded, aexecOp, aeval, aput, aseq, ablock, ahint, absOf, flat, nilCheckA, ANext.ofP, evals, evalPs, evalO, aresults, aresults1, aresult, aend, List.getElem?_set, List.length_set, Option.map_some, Option.bind_some, if_true, if_false, ↓reduceIte, Nat.reduceLT, Nat.reduceEqDiff, reduceCtorEq, Bool.false_eq_true, false_and, and_false, and_true, true_and, Nat.reduceAdd, Nat.reduceLeDiff, callA, List.getElem?_toArray, List.getElem?_cons_succ, List.getElem?_cons_zero, sb1, sb2, sb3, sb4, t0, t5, t6, t7, t29, t30, t31, tl, hh, b_lss, b_gtr, hd, idx_i hy hi, load_i3, b_rem _ _ _ _ _ _ _ (show (2 : Int) ≠ 0 by decide), hod, b_quo _ _ _ _ _ _ _ (show (2 : Int) ≠ 0 by decide), hKe, hq, b_eql, cf42, cf17, cf36, cf37, cf38, c1, c2, c3, c4, c5, YtjpehemkgikkdaaA.valOf, hnot, Bool.not_true, b_neq, bne_self_eq_false, b_add, b_sub, q2, hi1, len, hsl, z1, g1, g2, q3, q4]
    exact ⟨_, _, p + k, 0, rfl, ⟨r', pl', by simp only [List.getElem?_set, List.length_set, Nat.reduceLT, Nat.reduceEqDiff, ↓reduceIte, reduceCtorEq, *], by simp only [List.getElem?_set, List.length_set, Nat.reduceLT, Nat.reduceEqDiff, ↓reduceIte, reduceCtorEq, *], by simp only [List.getElem?_set, List.length_set, Nat.reduceLT, Nat.reduceEqDiff, ↓reduceIte, reduceCtorEq, *], by simp only [List.getElem?_set, List.length_set, Nat.reduceLT, Nat.reduceEqDiff, ↓reduceIte, reduceCtorEq, *], by simp only [List.getElem?_set, List.length_set, Nat.reduceLT, Nat.reduceEqDiff, ↓reduceIte, reduceCtorEq, *], by simp only [List.getElem?_set, List.length_set, Nat.reduceLT, Nat.reduceEqDiff, ↓reduceIte, reduceCtorEq, *], by simp only [List.getElem?_set, List.length_set, Nat.reduceLT, Nat.reduceEqDiff, ↓reduceIte, reduceCtorEq, *], by simp only [List.getElem?_set, List.length_set, Nat.reduceLT, Nat.reduceEqDiff, ↓reduceIte, reduceCtorEq, *]⟩⟩
  · have hp0 : p = 0 := by simpa using pl
    have hk0 : k = 0 := by rw [hp0] at pl'; simpa using pl'
    subst hp0; subst hk0
    have c5 := c5 (.lit (.slice a 0 0)) (.inr ⟨a, rfl, rfl⟩)
    simp only [AVal.undef, sbn, sbn', tkBody, code, Try.f13, Option.getD_some, Code.fst, Code.snd, Code.inn, aexec, aops, aop, Region.wanted, ayielded, aexecOp, aeval, aput, aseq, ablock, ahint, absOf, flat, nilCheckA, ANext.ofP, evals, evalPs, evalO, aresults, aresults1, aresult, aend, List.getElem?_set, List.length_set, Option.map_some, Option.bind_some, if_true, if_false, ↓reduceIte, Nat.reduceLT, Nat.reduceEqDiff, reduceCtorEq, Bool.false_eq_true, false_and, and_false, and_true, true_and, Nat.reduceAdd, Nat.reduceLeDiff, callA, List.getElem?_toArray, List.getElem?_cons_succ, List.getElem?_cons_zero, sb1, sb2, sb3, sb4, t0, t5, t6, t7, t29, t30, t31, tl, hh, b_lss, b_gtr, hd, idx_i hy hi, load_i3, b_rem _ _ _ _ _ _ _ (show (2 : Int) ≠ 0 by decide), hod, b_quo _ _ _ _ _ _ _ (show (2 : Int) ≠ 0 by decide), hKe, hq, b_eql, cf42, cf17, cf36, cf37, cf38, c1, c2, c3, c4, c5, YtjpehemkgikkdaaA.valOf, hnot, Bool.not_true, b_neq, bne_self_eq_false, b_add, b_sub, q2, hi1, evalO, YtjpehemkgikkdaaA.aexecOp.evalV, slice_lit2, len, z1, g1, g2, q3, q4]
    exact ⟨_, _, 0 + 0, 0, rfl, ⟨r', pl', by simp only [List.getElem?_set, List.length_set, Nat.reduceLT, Nat.reduceEqDiff, ↓reduceIte, reduceCtorEq, *], by simp only [List.getElem?_set, List.length_set, Nat.reduceLT, Nat.reduceEqDiff, ↓reduceIte, reduceCtorEq, *], by simp only [List.getElem?_set, List.length_set, Nat.reduceLT, Nat.reduceEqDiff, ↓reduceIte, reduceCtorEq, *], by simp only [List.getElem?_set, List.length_set, Nat.reduceLT, Nat.reduceEqDiff, ↓reduceIte, reduceCtorEq, *], by simp only [List.getElem?_set, List.length_set, Nat.reduceLT, Nat.reduceEqDiff, ↓reduceIte, reduceCtorEq, *], by simp only [List.getElem?_set, List.length_set, Nat.reduceLT, Nat.reduceEqDiff, ↓reduceIte, reduceCtorEq, *], by simp only [List.getElem?_set, List.length_set, Nat.reduceLT, Nat.reduceEqDiff, ↓reduceIte, reduceCtorEq, *], by simp only [List.getElem?_set, List.length_set, Nat.reduceLT, Nat.reduceEqDiff, ↓reduceIte, reduceCtorEq, *]⟩⟩

end Go.Proofs.YtjpehemkgikkdaaV
