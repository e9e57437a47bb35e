/- Kids, walked: its contract. No condition. -/
import Derived.Test.YtjpehemkgikkdaaK2
namespace Go.Proofs.YtjpehemkgikkdaaV
open Go Go.RowKit Go.Proofs.YtjpehemkgikkdaaA
set_option linter.unusedVariables false
set_option linter.unusedSimpArgs false
set_option maxRecDepth 100000

theorem cf40 (a : List AVal) (st : ASt) : callFuncA E.P 40 a st = some (.enter 40 a st) := rfl
theorem cf39 (a : List AVal) (st : ASt) : callFuncA E.P 39 a st = some (.enter 39 a st) := rfl

/-- the first kids, as whole numbers -/
def kidsI (l : List Nd) (y n : Nat) : List Int := ((List.range n).filter fun x => upAt l x = (y : Int)).map fun (x : Nat) => (x : Int)
theorem kidsI_succ (l : List Nd) (y n : Nat) : kidsI l y (n + 1) = kidsI l y n ++ (if upAt l n = (y : Int) then [(n : Int)] else []) := by
  unfold kidsI
  rw [List.range_succ, List.filter_append, List.map_append]
  congr 1
  by_cases h : upAt l n = (y : Int) <;> simp [h]
theorem kidsI_len (l : List Nd) (y n : Nat) : (kidsI l y n).length ≤ n := by
  unfold kidsI
  rw [List.length_map]
  exact Nat.le_trans (List.length_filter_le _ _) (by simp)

noncomputable def kdA : Code := .seq (code Try.f40).fst (.seq (code Try.f40).snd.fst (code Try.f40).snd.snd.fst.fst)
noncomputable def kdL : Code := (code Try.f40).snd.snd.fst.snd.inn
noncomputable def kdE : Code := (code Try.f40).snd.snd.snd
theorem kd_parts (call : ACall) (dr : Array Oper → Bool) (n : Nat) (ts : List AVal) (st : ASt) : aexec E 40 call dr n (code Try.f40) ts st =
    aseq (aexec E 40 call dr n kdA ts st) fun ts st => aseq (ablock 0 (aloop (aexec E 40 call dr n kdL) n ts st)) (aexec E 40 call dr n kdE) := by
  have e : code Try.f40 = .seq (code Try.f40).fst (.seq (code Try.f40).snd.fst (.seq (.seq (code Try.f40).snd.snd.fst.fst (.block 0 (.loop kdL))) kdE)) := rfl
  rw [e, kdA]
  simp only [aexec_seq, aexec_block, aexec_loop, aseq_assoc]

structure KdI (uv ov : AVal) (n y i : Nat) (ts : List AVal) : Prop where
  t1 : ts[1]? = some (.lit (.int .i64 y))
  t5 : ts[5]? = some ov
  t9 : ts[9]? = some uv
  t10 : ts[10]? = some (.lit (.int .i64 n))
  t11 : ts[11]? = some (.lit (.int .i64 i))
  tl : ts.length = 29

theorem kd_round (call : ACall) (dr : Array Oper → Bool) (m : Nat) {uv ov : AVal} {l : List Nd} {y i : Nat} {su so : Option Nat} {ts : List AVal} {base st : ASt} (hl : l.length ≤ 900) (hu : IRow st uv (par l) su) (ho : IRow st ov (kidsI l y i) so) (hne : ∀ k, su = some k → so ≠ some k) (hf : ∀ k, so = some k → base.ctr ≤ k) (hg : Gr base st) (h : KdI uv ov l.length y i ts) (hi : i ≤ l.length) :
    (i = l.length → ∃ ts', aexec E 40 call dr m kdL ts st = some (.exit 0, ts', st) ∧ ts'[5]? = some ov ∧ ts'.length = 29) ∧
    (i < l.length → ∃ ts' st' ov' so', aexec E 40 call dr m kdL ts st = some (.normal, ts', st') ∧ KdI uv ov' l.length y (i + 1) ts' ∧ IRow st' uv (par l) su ∧ IRow st' ov' (kidsI l y (i + 1)) so' ∧ (∀ k, su = some k → so' ≠ some k) ∧ (∀ k, so' = some k → base.ctr ≤ k) ∧ Gr base st') := by
  obtain ⟨t1, t5, t9, t10, t11, tl⟩ := h
  have h25 : E.hint 40 25 = false := rfl
  have h26 : E.hint 40 26 = true := rfl
  refine ⟨fun he => ?_, fun hlt => ?_⟩
  · have hd : decide ((i : Int) < l.length) = false := by rw [decide_eq_false_iff_not]; omega
    simp only [kdL, code, Try.f40, Option.getD_some, Code.fst, Code.snd, Code.inn, aexec, aops, aop, Region.wanted, ayielded, aexecOp, aeval, aput, aseq, ablock, ahint, absOf, flat, nilCheckA, ANext.ofP, evals, evalPs, evalO, aresults, aresults1, aresult, aend, List.getElem?_set, List.length_set, Option.map_some, Option.bind_some, if_true, if_false, ↓reduceIte, Nat.reduceLT, Nat.reduceEqDiff, reduceCtorEq, Bool.false_eq_true, false_and, and_false, and_true, true_and, Nat.reduceAdd, Nat.reduceLeDiff, callA, List.getElem?_toArray, List.getElem?_cons_succ, List.getElem?_cons_zero, sb1, sb2, sb3, sb4, t1, t5, t9, t10, t11, tl, b_lss, hd]
    exact ⟨_, rfl, by simp only [List.getElem?_set, List.length_set, Nat.reduceLT, Nat.reduceEqDiff, ↓reduceIte, reduceCtorEq, *], by simp only [List.getElem?_set, List.length_set, Nat.reduceLT, Nat.reduceEqDiff, ↓reduceIte, reduceCtorEq, *]⟩
  · have hd : decide ((i : Int) < l.length) = true := by rw [decide_eq_true_eq]; omega
    obtain ⟨s', e1, i1, i2⟩ := irow_idx hu (i := i) (by rw [par_length]; exact hlt)
    have hget : (par l)[i]'(by rw [par_length]; exact hlt) = upAt l i := by
      have := par_get hlt
      rw [List.getElem?_eq_getElem (by rw [par_length]; exact hlt)] at this
      exact Option.some.inj this
    rw [hget] at i2
    have q1 : IntKind.i64.wrap ((i : Int) + 1) = ((i + 1 : Nat) : Int) := by
      simp [IntKind.wrap, IntKind.bits, IntKind.signed]; omega
    have hkl := kidsI_len l y i
    cases a1 : (upAt l i == (y : Int)) with
    | true =>
      have hy : upAt l i = (y : Int) := eq_of_beq a1
      have h0 : 0 < i := by
        rcases Nat.eq_zero_or_pos i with e | e
        · subst e; rw [up_zero] at hy; omega
        · exact e
      have a2 : decide ((i : Int) > 0) = true := by rw [decide_eq_true_eq]; omega
      obtain ⟨ov', st', e2, w1, w2, w3⟩ := irow_app ho (by omega) ((i : Nat) : Int) .exact
      simp only [AVal.undef, sbn, sbn', kdL, code, Try.f40, Option.getD_some, Code.fst, Code.snd, Code.inn, aexec, aops, aop, Region.wanted, ayielded, aexecOp, aeval, aput, aseq, ablock, ahint, absOf, flat, nilCheckA, ANext.ofP, evals, evalPs, evalO, aresults, aresults1, aresult, aend, List.getElem?_set, List.length_set, Option.map_some, Option.bind_some, if_true, if_false, ↓reduceIte, Nat.reduceLT, Nat.reduceEqDiff, reduceCtorEq, Bool.false_eq_true, false_and, and_false, and_true, true_and, Nat.reduceAdd, Nat.reduceLeDiff, callA, List.getElem?_toArray, List.getElem?_cons_succ, List.getElem?_cons_zero, sb1, sb2, sb3, sb4, t1, t5, t9, t10, t11, tl, b_lss, hd, i1, i2, b_eql, a1, b_gtr, a2, h25, h26, bs_int, b_app, e2, b_add, q1]
      have hgc := hg.1
      refine ⟨_, st', ov', some st.ctr, rfl, ⟨by simp only [List.getElem?_set, List.length_set, Nat.reduceLT, Nat.reduceEqDiff, ↓reduceIte, reduceCtorEq, *], by simp only [List.getElem?_set, List.length_set, Nat.reduceLT, Nat.reduceEqDiff, ↓reduceIte, reduceCtorEq, *], by simp only [List.getElem?_set, List.length_set, Nat.reduceLT, Nat.reduceEqDiff, ↓reduceIte, reduceCtorEq, *], by simp only [List.getElem?_set, List.length_set, Nat.reduceLT, Nat.reduceEqDiff, ↓reduceIte, reduceCtorEq, *], by simp only [List.getElem?_set, List.length_set, Nat.reduceLT, Nat.reduceEqDiff, ↓reduceIte, reduceCtorEq, *], by simp only [List.getElem?_set, List.length_set, Nat.reduceLT, Nat.reduceEqDiff, ↓reduceIte, reduceCtorEq, *]⟩, hu.gr (by omega) (fun k e => w3 k (irow_lt hu k e) (hne k e)), by rw [kidsI_succ, if_pos hy]; exact w1, fun k e e2 => by cases e2; have := irow_lt hu _ e; omega, fun k e => by cases e; omega, ⟨by omega, fun j hj => ?_⟩⟩
      rw [w3 j (by omega) (fun e => by have := hf j e; omega)]; exact hg.2 j hj
    | false =>
      have hy : ¬ upAt l i = (y : Int) := fun e => by rw [e, beq_self_eq_true] at a1; cases a1
      simp only [AVal.undef, sbn, sbn', kdL, code, Try.f40, Option.getD_some, Code.fst, Code.snd, Code.inn, aexec, aops, aop, Region.wanted, ayielded, aexecOp, aeval, aput, aseq, ablock, ahint, absOf, flat, nilCheckA, ANext.ofP, evals, evalPs, evalO, aresults, aresults1, aresult, aend, List.getElem?_set, List.length_set, Option.map_some, Option.bind_some, if_true, if_false, ↓reduceIte, Nat.reduceLT, Nat.reduceEqDiff, reduceCtorEq, Bool.false_eq_true, false_and, and_false, and_true, true_and, Nat.reduceAdd, Nat.reduceLeDiff, callA, List.getElem?_toArray, List.getElem?_cons_succ, List.getElem?_cons_zero, sb1, sb2, sb3, sb4, t1, t5, t9, t10, t11, tl, b_lss, hd, i1, i2, b_eql, a1, b_add, q1]
      exact ⟨_, st, ov, so, rfl, ⟨by simp only [List.getElem?_set, List.length_set, Nat.reduceLT, Nat.reduceEqDiff, ↓reduceIte, reduceCtorEq, *], by simp only [List.getElem?_set, List.length_set, Nat.reduceLT, Nat.reduceEqDiff, ↓reduceIte, reduceCtorEq, *], by simp only [List.getElem?_set, List.length_set, Nat.reduceLT, Nat.reduceEqDiff, ↓reduceIte, reduceCtorEq, *], by simp only [List.getElem?_set, List.length_set, Nat.reduceLT, Nat.reduceEqDiff, ↓reduceIte, reduceCtorEq, *], by simp only [List.getElem?_set, List.length_set, Nat.reduceLT, Nat.reduceEqDiff, ↓reduceIte, reduceCtorEq, *], by simp only [List.getElem?_set, List.length_set, Nat.reduceLT, Nat.reduceEqDiff, ↓reduceIte, reduceCtorEq, *]⟩, hu, by rw [kidsI_succ, if_neg hy, List.append_nil]; exact ho, hne, hf, hg⟩

theorem kids_run {v : AVal} {l : List Nd} {st : ASt} (hps : PS st v l) (hl : l.length ≤ 900) (hk : ∀ nd ∈ l, 0 ≤ nd.kd ∧ nd.kd ≤ 6) (y : Nat) :
    ∃ v' st' s, RetN E 1010 40 [v, .lit (.int .i64 y)] st v' st' ∧ IRow st' v' (kidsI l y l.length) s ∧ Gr st st' := by
  obtain ⟨ts, et, t0, t1, tl⟩ : ∃ ts : List AVal, ([v, .lit (.int .i64 y)] ++ List.replicate (Try.f40.ntmps - [v, AVal.lit (.int .i64 y)].length) .undef) = ts ∧ ts[0]? = some v ∧ ts[1]? = some (.lit (.int .i64 y)) ∧ ts.length = 29 := ⟨_, rfl, rfl, rfl, rfl⟩
  have hres : ∀ ts st v, ts[4]? = some v → aresults E Try.f40 ts st = some v := by
    intro ts st v h
    unfold aresults
    simp only [Try.f40, aresults1, aresult, h]
  obtain ⟨uv, st1, su, n1, w1, g1, _⟩ := par_run hps hl hk
  have c1 := n1 1009 (by omega)
  have L1 := fun mt ty cs s => irow_len w1 mt ty cs s
  rw [par_length] at L1
  obtain ⟨ts1, e1, h1⟩ : ∃ ts', aexec E 40 (run E 1009) (drawB E 40) 1009 kdA ts st = some (.normal, ts', st1) ∧ KdI uv .nilSlice l.length y 0 ts' := by
    simp only [kdA, code, Try.f40, Option.getD_some, Code.fst, Code.snd, Code.inn, aexec, aops, aop, Region.wanted, ayielded, aexecOp, aeval, aput, aseq, ablock, ahint, absOf, flat, nilCheckA, ANext.ofP, evals, evalPs, evalO, aresults, aresults1, aresult, aend, List.getElem?_set, List.length_set, Option.map_some, Option.bind_some, if_true, if_false, ↓reduceIte, Nat.reduceLT, Nat.reduceEqDiff, reduceCtorEq, Bool.false_eq_true, false_and, and_false, and_true, true_and, Nat.reduceAdd, Nat.reduceLeDiff, callA, List.getElem?_toArray, List.getElem?_cons_succ, List.getElem?_cons_zero, sb1, sb2, sb3, sb4, t0, t1, tl, cf31, c1, L1]
    exact ⟨_, rfl, ⟨by simp only [List.getElem?_set, List.length_set, Nat.reduceLT, Nat.reduceEqDiff, ↓reduceIte, reduceCtorEq, *], by simp only [List.getElem?_set, List.length_set, Nat.reduceLT, Nat.reduceEqDiff, ↓reduceIte, reduceCtorEq, *]; rfl, by simp only [List.getElem?_set, List.length_set, Nat.reduceLT, Nat.reduceEqDiff, ↓reduceIte, reduceCtorEq, *], by simp only [List.getElem?_set, List.length_set, Nat.reduceLT, Nat.reduceEqDiff, ↓reduceIte, reduceCtorEq, *], by simp only [List.getElem?_set, List.length_set, Nat.reduceLT, Nat.reduceEqDiff, ↓reduceIte, reduceCtorEq, *]; rfl, by simp only [List.getElem?_set, List.length_set, Nat.reduceLT, Nat.reduceEqDiff, ↓reduceIte, reduceCtorEq, *]⟩⟩
  obtain ⟨x2, ts2, st2, e2, rfl, ov, so, b5, bl, ho, hg⟩ := aloop_rule (b := aexec E 40 (run E 1009) (drawB E 40) 1009 kdL)
    (I := fun f ts s => ∃ i ov so, f + i = l.length ∧ KdI uv ov l.length y i ts ∧ IRow s uv (par l) su ∧ IRow s ov (kidsI l y i) so ∧ (∀ k, su = some k → so ≠ some k) ∧ (∀ k, so = some k → st.ctr ≤ k) ∧ Gr st s)
    (Q := fun ex ts' s => ex = .exit 0 ∧ ∃ ov so, ts'[5]? = some ov ∧ ts'.length = 29 ∧ IRow s ov (kidsI l y l.length) so ∧ Gr st s)
    (step := by
      rintro f ts s ⟨i, ov, so, hf, hI, hu, ho, hne, hfo, hg⟩
      obtain ⟨ha, hb⟩ := kd_round (run E 1009) (drawB E 40) 1009 hl hu ho hne hfo hg hI (by omega)
      by_cases he : i = l.length
      · obtain ⟨ts', e, a5, al⟩ := ha he
        subst he
        exact .inr ⟨_, ts', _, e, by simp, rfl, ov, so, a5, al, ho, hg⟩
      · obtain ⟨ts', st', ov', so', e, h', hu', ho', hne', hf', hg'⟩ := hb (by omega)
        exact .inl ⟨ts', st', e, f - 1, by omega, i + 1, ov', so', by omega, h', hu', ho', hne', hf', hg'⟩)
    1009 l.length ts1 st1 ⟨0, .nilSlice, none, by omega, h1, w1, ⟨rfl, rfl⟩, fun k _ e => (by cases e), fun k e => (by cases e), g1⟩ (by omega)
  obtain ⟨ts3, e3, c4⟩ : ∃ ts', aexec E 40 (run E 1009) (drawB E 40) 1009 kdE ts2 st2 = some (.ret, ts', st2) ∧ ts'[4]? = some ov := by
    simp only [kdE, code, Try.f40, Option.getD_some, Code.fst, Code.snd, Code.inn, aexec, aops, aop, Region.wanted, ayielded, aexecOp, aeval, aput, aseq, ablock, ahint, absOf, flat, nilCheckA, ANext.ofP, evals, evalPs, evalO, aresults, aresults1, aresult, aend, List.getElem?_set, List.length_set, Option.map_some, Option.bind_some, if_true, if_false, ↓reduceIte, Nat.reduceLT, Nat.reduceEqDiff, reduceCtorEq, Bool.false_eq_true, false_and, and_false, and_true, true_and, Nat.reduceAdd, Nat.reduceLeDiff, callA, List.getElem?_toArray, List.getElem?_cons_succ, List.getElem?_cons_zero, sb1, sb2, sb3, sb4, b5, bl]
    exact ⟨_, rfl, by simp only [List.getElem?_set, List.length_set, Nat.reduceLT, Nat.reduceEqDiff, ↓reduceIte, reduceCtorEq, *]⟩
  refine ⟨ov, st2, so, RetN.of (n := 1009 + 1) ?_, ho, hg⟩
  rw [run_code (fn := Try.f40) rfl rfl, et, kd_parts]
  simp only [e1, aseq, e2, ablock, if_true, e3, aend, hres _ _ _ c4, Option.map_some]

end Go.Proofs.YtjpehemkgikkdaaV
