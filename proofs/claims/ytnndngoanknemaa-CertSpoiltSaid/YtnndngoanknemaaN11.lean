/- Path, walked: its contract. No condition. -/
import Derived.Test.YtnndngoanknemaaN10
namespace Go.Proofs.YtnndngoanknemaaV
open Go Go.RowKit Go.Proofs.YtnndngoanknemaaA
set_option linter.unusedVariables false
set_option linter.unusedSimpArgs false
set_option maxRecDepth 100000

theorem cf31 (a : List AVal) (st : ASt) : callFuncA E.P 44 a st = some (.enter 44 a st) := rfl
theorem cf32 (a : List AVal) (st : ASt) : callFuncA E.P 38 a st = some (.enter 38 a st) := rfl
theorem cf45 (a : List AVal) (st : ASt) : callFuncA E.P 45 a st = some (.enter 45 a st) := rfl

noncomputable def ptA : Code := .seq (code Try.f38).fst (code Try.f38).snd.fst
noncomputable def ptB : Code := .seq (code Try.f38).snd.snd.fst (code Try.f38).snd.snd.snd.fst
noncomputable def ptL : Code := (code Try.f38).snd.snd.snd.snd.fst.inn
noncomputable def ptC : Code := (code Try.f38).snd.snd.snd.snd.snd
theorem pth_parts (call : ACall) (dr : Array Oper → Bool) (n : Nat) (ts : List AVal) (st : ASt) : aexec E 38 call dr n (code Try.f38) ts st =
    aseq (aexec E 38 call dr n ptA ts st) fun ts st => aseq (aexec E 38 call dr n ptB ts st) fun ts st => aseq (ablock 0 (aloop (aexec E 38 call dr n ptL) n ts st)) (aexec E 38 call dr n ptC) := by
  have e : code Try.f38 = .seq (code Try.f38).fst (.seq (code Try.f38).snd.fst (.seq (code Try.f38).snd.snd.fst (.seq (code Try.f38).snd.snd.snd.fst (.seq (.block 0 (.loop ptL)) ptC)))) := rfl
  rw [e, ptA, ptB]
  simp only [aexec_seq, aexec_block, aexec_loop, aseq_assoc]

theorem hint32 (t : Nat) : E.hint 38 t = (t == 30) := by simp [E]

structure PhI (v uv ov : AVal) (k : Nat) (ts : List AVal) : Prop where
  t0 : ts[0]? = some v
  t1 : ts[1]? = some (.lit (.int .i64 k))
  t5 : ts[5]? = some uv
  t6 : ts[6]? = some ov
  tl : ts.length = 34

/-- a round up -/
theorem ph_round (call : ACall) (dr : Array Oper → Bool) (n : Nat) {v uv ov : AVal} {l : List Nd} {out : List Int} {k : Nat} {su so : Option Nat} {ts : List AVal} {base st : ASt} (hp : PS st v l) (hl : l.length ≤ 900) (hck : ck l 0 1 = (0, 0)) (hk : k < l.length)
    (hu : IRow st uv (par l) su) (ho : IRow st ov out so) (hne : ∀ j, su = some j → so ≠ some j) (hf : ∀ j, so = some j → base.ctr ≤ j) (hg : Gr base st) (hol : out.length ≤ 1000) (h : PhI v uv ov k ts) :
    (k = 0 → ∃ ts', aexec E 38 call dr n ptL ts st = some (.exit 0, ts', st) ∧ ts'[6]? = some ov ∧ ts'.length = 34) ∧
    (0 < k → ∃ ts' st' ov' so', aexec E 38 call dr n ptL ts st = some (.normal, ts', st') ∧ PhI v uv ov' (upAt l k).toNat ts' ∧ IRow st' uv (par l) su ∧ IRow st' ov' (out ++ [thAt l k]) so' ∧ (∀ j, su = some j → so' ≠ some j) ∧ (∀ j, so' = some j → base.ctr ≤ j) ∧ Gr base st') := by
  obtain ⟨t0, t1, t5, t6, tl⟩ := h
  have h29 : E.hint 38 29 = false := rfl
  have h30 : E.hint 38 30 = true := rfl
  refine ⟨fun h0 => ?_, fun h0 => ?_⟩
  · have hd : decide ((k : Int) > 0) = false := by rw [decide_eq_false_iff_not]; omega
    simp only [ptL, code, Try.f38, Option.getD_some, Code.fst, Code.snd, Code.inn, aexec, aops, aop, Region.wanted, ayielded, aexecOp, aeval, aput, aseq, ablock, ahint, absOf, flat, nilCheckA, ANext.ofP, evals, evalPs, evalO, aresults, aresults1, aresult, aend, List.getElem?_set, List.length_set, Option.map_some, Option.bind_some, if_true, if_false, ↓reduceIte, Nat.reduceLT, Nat.reduceEqDiff, reduceCtorEq, Bool.false_eq_true, false_and, and_false, and_true, true_and, Nat.reduceAdd, Nat.reduceLeDiff, callA, List.getElem?_toArray, List.getElem?_cons_succ, List.getElem?_cons_zero, sb1, sb2, sb3, sb4, sliceU_i, sliceU_s, sliceU_p, sliceU_l, evalV, t0, t1, t5, t6, tl, b_gtr, hd]
    exact ⟨_, rfl, by simp only [List.getElem?_set, List.length_set, Nat.reduceLT, Nat.reduceEqDiff, ↓reduceIte, reduceCtorEq, *], by simp only [List.getElem?_set, List.length_set, Nat.reduceLT, Nat.reduceEqDiff, ↓reduceIte, reduceCtorEq, *]⟩
  · have hd : decide ((k : Int) > 0) = true := by rw [decide_eq_true_eq]; omega
    obtain ⟨p, q, i1, i2, i3, i4, q0, i5, i6⟩ := ps_idx hp hk
    obtain ⟨ov', st1, e1, w1, w2, w3⟩ := irow_app ho (by omega) l[k].th .exact
    have hth : thAt l k = l[k].th := by unfold thAt; rw [getD_nd hk]
    rw [hth]
    have hu1 : IRow st1 uv (par l) su := hu.gr (by omega) (fun j e => w3 j (irow_lt hu j e) (hne j e))
    obtain ⟨s1, f1, f2, f3⟩ := irow_idx hu1 (i := k) (by rw [par_length]; exact hk)
    have hget : (par l)[k]'(by rw [par_length]; exact hk) = upAt l k := by
      have := par_get hk
      rw [List.getElem?_eq_getElem (by rw [par_length]; exact hk)] at this
      exact Option.some.inj this
    obtain ⟨m, e, hm⟩ := up_lt hck h0 hk
    rw [hget, e] at f3
    have hbs : buildSliceA E.P false 74 1 [(0, .lit (.int .i64 l[k].th))] st = some (.islice 1 [.lit (.int .i64 l[k].th)] .exact, st) := bs_int _ _
    simp only [ptL, code, Try.f38, Option.getD_some, Code.fst, Code.snd, Code.inn, aexec, aops, aop, Region.wanted, ayielded, aexecOp, aeval, aput, aseq, ablock, ahint, absOf, flat, nilCheckA, ANext.ofP, evals, evalPs, evalO, aresults, aresults1, aresult, aend, List.getElem?_set, List.length_set, Option.map_some, Option.bind_some, if_true, if_false, ↓reduceIte, Nat.reduceLT, Nat.reduceEqDiff, reduceCtorEq, Bool.false_eq_true, false_and, and_false, and_true, true_and, Nat.reduceAdd, Nat.reduceLeDiff, callA, List.getElem?_toArray, List.getElem?_cons_succ, List.getElem?_cons_zero, sb1, sb2, sb3, sb4, sliceU_i, sliceU_s, sliceU_p, sliceU_l, evalV, t0, t1, t5, t6, tl, b_gtr, hd, h29, h30, i1, i5, i6, hbs, b_app, e1, f2, f3]
    have hgc := hg.1
    refine ⟨_, st1, ov', some st.ctr, rfl, ⟨by simp only [List.getElem?_set, List.length_set, Nat.reduceLT, Nat.reduceEqDiff, ↓reduceIte, reduceCtorEq, *], by rw [e, Int.toNat_natCast]; simp only [List.getElem?_set, List.length_set, Nat.reduceLT, Nat.reduceEqDiff, ↓reduceIte, reduceCtorEq, *], by simp only [List.getElem?_set, List.length_set, Nat.reduceLT, Nat.reduceEqDiff, ↓reduceIte, reduceCtorEq, *], by simp only [List.getElem?_set, List.length_set, Nat.reduceLT, Nat.reduceEqDiff, ↓reduceIte, reduceCtorEq, *], by simp only [List.getElem?_set, List.length_set, Nat.reduceLT, Nat.reduceEqDiff, ↓reduceIte, reduceCtorEq, *]⟩, hu1, w1, fun j e2 e3 => by cases e3; have := irow_lt hu _ e2; omega, fun j e2 => by cases e2; omega, ⟨by omega, fun j hj => ?_⟩⟩
    rw [w3 j (by omega) (fun e2 => by have := hf j e2; omega)]; exact hg.2 j hj

/-- Path's contract -/
theorem path_run {v : AVal} {l : List Nd} {st : ASt} (hp : PS st v l) (hl : l.length ≤ 900) (hck : ck l 0 1 = (0, 0)) (hk : ∀ nd ∈ l, 0 ≤ nd.kd ∧ nd.kd ≤ 6) (i : Int) (hi : -9223372036854775808 ≤ i ∧ i ≤ 9223372036854775807) :
    ∃ v' st' s, RetN E 1005 38 [v, .lit (.int .i64 i)] st v' st' ∧ IRow st' v' (pathF l i) s ∧ Gr st st' ∧ (∀ k, s = some k → st.ctr ≤ k) := by
  obtain ⟨ts, et, t0, t1, tl⟩ : ∃ ts : List AVal, ([v, .lit (.int .i64 i)] ++ List.replicate (Try.f38.ntmps - [v, AVal.lit (.int .i64 i)].length) .undef) = ts ∧ ts[0]? = some v ∧ ts[1]? = some (.lit (.int .i64 i)) ∧ ts.length = 34 := ⟨_, rfl, rfl, rfl, rfl⟩
  have hres : ∀ ts st v, ts[4]? = some v → aresults E Try.f38 ts st = some v := by
    intro ts st v h
    unfold aresults
    simp only [Try.f38, aresults1, aresult, h]
  by_cases hr : 0 ≤ i ∧ i < l.length
  · obtain ⟨k, rfl⟩ : ∃ k : Nat, i = k := ⟨i.toNat, by omega⟩
    have hkl : k < l.length := by omega
    have d1 : decide ((k : Int) < 0) = false := by rw [decide_eq_false_iff_not]; omega
    have d2 : decide ((k : Int) ≥ ((l.length : Nat) : Int)) = false := by rw [decide_eq_false_iff_not]; omega
    obtain ⟨ts1, e1, a0, a1, al⟩ : ∃ ts', aexec E 38 (run E 1004) (drawB E 38) 1004 ptA ts st = some (.normal, ts', st) ∧ ts'[0]? = some v ∧ ts'[1]? = some (.lit (.int .i64 k)) ∧ ts'.length = 34 := by
      simp only [AVal.undef, sbn, sbn', ptA, code, Try.f38, Option.getD_some, Code.fst, Code.snd, Code.inn, aexec, aops, aop, Region.wanted, ayielded, aexecOp, aeval, aput, aseq, ablock, ahint, absOf, flat, nilCheckA, ANext.ofP, evals, evalPs, evalO, aresults, aresults1, aresult, aend, List.getElem?_set, List.length_set, Option.map_some, Option.bind_some, if_true, if_false, ↓reduceIte, Nat.reduceLT, Nat.reduceEqDiff, reduceCtorEq, Bool.false_eq_true, false_and, and_false, and_true, true_and, Nat.reduceAdd, Nat.reduceLeDiff, callA, List.getElem?_toArray, List.getElem?_cons_succ, List.getElem?_cons_zero, sb1, sb2, sb3, sb4, sliceU_i, sliceU_s, sliceU_p, sliceU_l, evalV, t0, t1, tl, b_lss, d1, ps_len hp, b_geq, d2]
      exact ⟨_, rfl, by simp only [List.getElem?_set, List.length_set, Nat.reduceLT, Nat.reduceEqDiff, ↓reduceIte, reduceCtorEq, *], by simp only [List.getElem?_set, List.length_set, Nat.reduceLT, Nat.reduceEqDiff, ↓reduceIte, reduceCtorEq, *], by simp only [List.getElem?_set, List.length_set, Nat.reduceLT, Nat.reduceEqDiff, ↓reduceIte, reduceCtorEq, *]⟩
    obtain ⟨uv, st1, su, n1, w1, w2, w3⟩ := par_run hp hl hk
    have c1 := n1 1004 (by omega)
    obtain ⟨ts2, e2, h2⟩ : ∃ ts', aexec E 38 (run E 1004) (drawB E 38) 1004 ptB ts1 st = some (.normal, ts', st1) ∧ PhI v uv .nilSlice k ts' := by
      simp only [ptB, code, Try.f38, Option.getD_some, Code.fst, Code.snd, Code.inn, aexec, aops, aop, Region.wanted, ayielded, aexecOp, aeval, aput, aseq, ablock, ahint, absOf, flat, nilCheckA, ANext.ofP, evals, evalPs, evalO, aresults, aresults1, aresult, aend, List.getElem?_set, List.length_set, Option.map_some, Option.bind_some, if_true, if_false, ↓reduceIte, Nat.reduceLT, Nat.reduceEqDiff, reduceCtorEq, Bool.false_eq_true, false_and, and_false, and_true, true_and, Nat.reduceAdd, Nat.reduceLeDiff, callA, List.getElem?_toArray, List.getElem?_cons_succ, List.getElem?_cons_zero, sb1, sb2, sb3, sb4, sliceU_i, sliceU_s, sliceU_p, sliceU_l, evalV, a0, a1, al, cf31, c1]
      exact ⟨_, rfl, ⟨by simp only [List.getElem?_set, List.length_set, Nat.reduceLT, Nat.reduceEqDiff, ↓reduceIte, reduceCtorEq, *], by simp only [List.getElem?_set, List.length_set, Nat.reduceLT, Nat.reduceEqDiff, ↓reduceIte, reduceCtorEq, *], by simp only [List.getElem?_set, List.length_set, Nat.reduceLT, Nat.reduceEqDiff, ↓reduceIte, reduceCtorEq, *], by simp only [List.getElem?_set, List.length_set, Nat.reduceLT, Nat.reduceEqDiff, ↓reduceIte, reduceCtorEq, *]; rfl, by simp only [List.getElem?_set, List.length_set, Nat.reduceLT, Nat.reduceEqDiff, ↓reduceIte, reduceCtorEq, *]⟩⟩
    obtain ⟨e, ts3, st3, e3, rfl, ov, so, b6, bl, h5, h6, h7⟩ := aloop_rule (b := aexec E 38 (run E 1004) (drawB E 38) 1004 ptL)
      (I := fun f ts s => ∃ k' out ov so, f = k' ∧ k' < l.length ∧ out.length + k' ≤ 1000 ∧ PhI v uv ov k' ts ∧ PS s v l ∧ IRow s uv (par l) su ∧ IRow s ov out so ∧ (∀ j, su = some j → so ≠ some j) ∧ (∀ j, so = some j → st.ctr ≤ j) ∧ Gr st s ∧ out ++ (chain l (k' + 1) k').map (thAt l) = (chain l (k + 1) k).map (thAt l))
      (Q := fun e ts' s => e = .exit 0 ∧ ∃ ov so, ts'[6]? = some ov ∧ ts'.length = 34 ∧ IRow s ov ((chain l (k + 1) k).map (thAt l)) so ∧ (∀ j, so = some j → st.ctr ≤ j) ∧ Gr st s)
      (step := by
        rintro f ts s ⟨k', out, ov, so, rfl, hk', hol, hI, hps, hu, ho, hne, hf, hg, hch⟩
        have hrr := ph_round (run E 1004) (drawB E 38) 1004 hps hl hck hk' hu ho hne hf hg (by omega) hI
        by_cases h0 : f = 0
        · obtain ⟨ts', e, b6, bl⟩ := hrr.1 h0
          subst h0
          rw [chain, if_pos rfl, List.map_nil, List.append_nil] at hch
          rw [hch] at ho
          exact .inr ⟨_, ts', _, e, by simp, rfl, ov, so, b6, bl, ho, hf, hg⟩
        · obtain ⟨ts', st', ov', so', e, h', hu', ho', hne', hf', hg'⟩ := hrr.2 (by omega)
          obtain ⟨m, em, hm⟩ := up_lt hck (show 0 < f by omega) hk'
          rw [em, Int.toNat_natCast] at h'
          refine .inl ⟨ts', st', e, m, hm, m, _, ov', so', rfl, by omega, by simp; omega, h', hp.gr hg', hu', ho', hne', hf', hg', ?_⟩
          have hcf : chain l (f + 1) f = f :: chain l (m + 1) m := by
            conv => lhs; rw [chain]
            rw [if_neg h0, em, Int.toNat_natCast, chain_more hck f (m + 1) m hm (by omega) (by omega)]
          rw [← hch, hcf]
          simp)
      1004 k ts2 st1 ⟨k, [], .nilSlice, none, rfl, hkl, by simp; omega, h2, hp.gr w2, w1, ⟨rfl, rfl⟩, fun j _ e => (by cases e), fun j e => (by cases e), w2, by simp⟩ (by omega)
    have hcl : ((chain l (k + 1) k).map (thAt l)).length ≤ 1000 := by
      have : ∀ f k, (chain l f k).length ≤ f := by
        intro f
        induction f with
        | zero => intro k; simp [chain]
        | succ f ih =>
          intro k
          rw [chain]
          split
          · simp
          · simp; exact ih _
      have := this (k + 1) k
      rw [List.length_map]; omega
    obtain ⟨st4, n4, r1, r2, r3⟩ := rev_run h5 hcl
    have c4 := n4 1004 (by omega)
    obtain ⟨ts5, e5, f4⟩ : ∃ ts', aexec E 38 (run E 1004) (drawB E 38) 1004 ptC ts3 st3 = some (.ret, ts', st4) ∧ ts'[4]? = some ov := by
      simp only [ptC, code, Try.f38, Option.getD_some, Code.fst, Code.snd, Code.inn, aexec, aops, aop, Region.wanted, ayielded, aexecOp, aeval, aput, aseq, ablock, ahint, absOf, flat, nilCheckA, ANext.ofP, evals, evalPs, evalO, aresults, aresults1, aresult, aend, List.getElem?_set, List.length_set, Option.map_some, Option.bind_some, if_true, if_false, ↓reduceIte, Nat.reduceLT, Nat.reduceEqDiff, reduceCtorEq, Bool.false_eq_true, false_and, and_false, and_true, true_and, Nat.reduceAdd, Nat.reduceLeDiff, callA, List.getElem?_toArray, List.getElem?_cons_succ, List.getElem?_cons_zero, sb1, sb2, sb3, sb4, sliceU_i, sliceU_s, sliceU_p, sliceU_l, evalV, b6, bl, cf45, c4]
      exact ⟨_, rfl, by simp only [List.getElem?_set, List.length_set, Nat.reduceLT, Nat.reduceEqDiff, ↓reduceIte, reduceCtorEq, *]⟩
    refine ⟨ov, st4, so, RetN.of (n := 1004 + 1) ?_, by unfold pathF; rw [if_pos hr, Int.toNat_natCast]; exact r1, ⟨by rw [r2]; exact h7.1, fun j hj => by rw [r3 j (fun e => by have := h6 j e; omega)]; exact h7.2 j hj⟩, h6⟩
    rw [run_code (fn := Try.f38) rfl rfl, et, pth_parts]
    simp only [e1, aseq, e2, e3, ablock, if_true, e5, aend, hres _ _ _ f4, Option.map_some]
  · obtain ⟨ts1, e1, a4⟩ : ∃ ts', aexec E 38 (run E 1004) (drawB E 38) 1004 ptA ts st = some (.ret, ts', st) ∧ ts'[4]? = some .nilSlice := by
      cases d1 : decide (i < 0) with
      | true =>
        simp only [AVal.undef, sbn, sbn', ptA, code, Try.f38, Option.getD_some, Code.fst, Code.snd, Code.inn, aexec, aops, aop, Region.wanted, ayielded, aexecOp, aeval, aput, aseq, ablock, ahint, absOf, flat, nilCheckA, ANext.ofP, evals, evalPs, evalO, aresults, aresults1, aresult, aend, List.getElem?_set, List.length_set, Option.map_some, Option.bind_some, if_true, if_false, ↓reduceIte, Nat.reduceLT, Nat.reduceEqDiff, reduceCtorEq, Bool.false_eq_true, false_and, and_false, and_true, true_and, Nat.reduceAdd, Nat.reduceLeDiff, callA, List.getElem?_toArray, List.getElem?_cons_succ, List.getElem?_cons_zero, sb1, sb2, sb3, sb4, sliceU_i, sliceU_s, sliceU_p, sliceU_l, evalV, t0, t1, tl, b_lss, d1]
        exact ⟨_, rfl, by simp only [List.getElem?_set, List.length_set, Nat.reduceLT, Nat.reduceEqDiff, ↓reduceIte, reduceCtorEq, *]; rfl⟩
      | false =>
        have d2 : decide (i ≥ ((l.length : Nat) : Int)) = true := by rw [decide_eq_false_iff_not] at d1; rw [decide_eq_true_eq]; omega
        simp only [AVal.undef, sbn, sbn', ptA, code, Try.f38, Option.getD_some, Code.fst, Code.snd, Code.inn, aexec, aops, aop, Region.wanted, ayielded, aexecOp, aeval, aput, aseq, ablock, ahint, absOf, flat, nilCheckA, ANext.ofP, evals, evalPs, evalO, aresults, aresults1, aresult, aend, List.getElem?_set, List.length_set, Option.map_some, Option.bind_some, if_true, if_false, ↓reduceIte, Nat.reduceLT, Nat.reduceEqDiff, reduceCtorEq, Bool.false_eq_true, false_and, and_false, and_true, true_and, Nat.reduceAdd, Nat.reduceLeDiff, callA, List.getElem?_toArray, List.getElem?_cons_succ, List.getElem?_cons_zero, sb1, sb2, sb3, sb4, sliceU_i, sliceU_s, sliceU_p, sliceU_l, evalV, t0, t1, tl, b_lss, d1, ps_len hp, b_geq, d2]
        exact ⟨_, rfl, by simp only [List.getElem?_set, List.length_set, Nat.reduceLT, Nat.reduceEqDiff, ↓reduceIte, reduceCtorEq, *]; rfl⟩
    refine ⟨.nilSlice, st, none, RetN.of (n := 1004 + 1) ?_, ⟨rfl, by unfold pathF; rw [if_neg hr]⟩, Gr.refl st, fun k e => (by cases e)⟩
    rw [run_code (fn := Try.f38) rfl rfl, et, pth_parts]
    simp only [e1, aseq, aend, hres _ _ _ a4, Option.map_some]

end Go.Proofs.YtnndngoanknemaaV
