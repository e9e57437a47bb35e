/- PlanLinks walked in the second reading: the whole. No condition. -/
import Derived.Test.YtjpehemkgikkdaaK4
namespace Go.Proofs.YtjpehemkgikkdaaV
open Go Go.RowKit Go.Proofs.YtjpehemkgikkdaaA
set_option linter.unusedVariables false
set_option linter.unusedSimpArgs false
set_option maxRecDepth 100000

theorem chain_len (l : List Nd) : ∀ f k, (chain l f k).length ≤ f := by
  intro f
  induction f with
  | zero => intro k; simp [chain]
  | succ f ih =>
    intro k
    rw [chain]
    split
    · simp
    · simp; exact ih _

theorem MRow.gr {st st' : ASt} {v : AVal} {l : List Int} {s : Nat} (h : MRow st v l s) (hg : Gr st st') : MRow st' v l s :=
  ⟨h.1, Nat.lt_of_lt_of_le h.2.1 hg.1, by rw [hg.2 s h.2.1]; exact h.2.2⟩

theorem ln_A (N m : Nat) (hN : 2000 ≤ N) (dr : Array Oper → Bool) {v ow : AVal} {ns : List N8} {ts : List AVal} (hv : NS v ns) (h0 : ts[0]? = some v) (h1 : ts[1]? = some ow) (tl : ts.length = 102) :
    (100 < ns.length → ∃ ts' st', aexec E 12 (run E N) dr m lkA ts st0 = some (.ret, ts', st') ∧ ts'[4]? = some (.lit (.bool true))) ∧
    (ns.length ≤ 100 → ∃ ts' st' l pv uv s, aexec E 12 (run E N) dr m lkA ts st0 = some (.normal, ts', st') ∧ IsTree l ∧ PS st' pv l ∧ MRow st' uv (par l) s ∧ LnS ow pv uv l.length 0 ts') := by
  obtain ⟨s0, n0, _⟩ := awake17 st0
  have c0 := n0 N (by omega)
  have hnot : ∀ b, pureV E.P (Op.unary .not (.bool b)) = some (.lit (.bool (!b))) := fun _ => rfl
  refine ⟨fun hl => ?_, fun hl => ?_⟩
  · have hd : decide (((ns.length : Nat) : Int) > 100) = true := by rw [decide_eq_true_eq]; omega
    simp only [lkA, code, Try.f12, Option.getD_some, Code.fst, Code.snd, Code.inn, aexec, aops, aop, Region.wanted, ayielded, aexecOp, aeval, aput, aseq, ablock, ahint, absOf, flat, nilCheckA, ANext.ofP, evals, evalPs, evalO, aresults, aresults1, aresult, aend, List.getElem?_set, List.length_set, Option.map_some, Option.bind_some, if_true, if_false, ↓reduceIte, Nat.reduceLT, Nat.reduceEqDiff, reduceCtorEq, Bool.false_eq_true, false_and, and_false, and_true, true_and, Nat.reduceAdd, Nat.reduceLeDiff, callA, List.getElem?_toArray, List.getElem?_cons_succ, List.getElem?_cons_zero, sb1, sb2, sb3, sb4, h0, h1, tl, cf24, c0, YtjpehemkgikkdaaA.valOf, hnot, Bool.not_true, len_ns hv, b_gtr, hd]
    exact ⟨_, _, rfl, by simp only [List.getElem?_set, List.length_set, Nat.reduceLT, Nat.reduceEqDiff, ↓reduceIte, reduceCtorEq, *]⟩
  · have hd : decide (((ns.length : Nat) : Int) > 100) = false := by rw [decide_eq_false_iff_not]; omega
    obtain ⟨pv, s1, l, n1, ho, hT, _⟩ := tree_run hv s0
    have hps := ho.ps
    have hTl := hT.len
    obtain ⟨uv, s2, su, n2, w2, g2⟩ := up_run hps hT
    obtain ⟨rv, s3, sr, n3, w3, g3, _⟩ := par_run (hps.gr g2) (by omega) hT.kd
    have n4 := qi_run (l := par l) (st := s3) (.inr (.inl ⟨sr, w3⟩)) (.inr (.inr ⟨su, w2.gr g3⟩)) (by rw [par_length]; omega)
    rw [par_length] at n4
    have c1 := n1 N (by omega)
    have c2 := n2 N (by omega)
    have c3 := n3 N (by omega)
    have c4 := n4 N (by omega)
    simp only [AVal.undef, sbn, sbn', lkA, code, Try.f12, Option.getD_some, Code.fst, Code.snd, Code.inn, aexec, aops, aop, Region.wanted, ayielded, aexecOp, aeval, aput, aseq, ablock, ahint, absOf, flat, nilCheckA, ANext.ofP, evals, evalPs, evalO, aresults, aresults1, aresult, aend, List.getElem?_set, List.length_set, Option.map_some, Option.bind_some, if_true, if_false, ↓reduceIte, Nat.reduceLT, Nat.reduceEqDiff, reduceCtorEq, Bool.false_eq_true, false_and, and_false, and_true, true_and, Nat.reduceAdd, Nat.reduceLeDiff, callA, List.getElem?_toArray, List.getElem?_cons_succ, List.getElem?_cons_zero, sb1, sb2, sb3, sb4, h0, h1, tl, cf24, c0, YtjpehemkgikkdaaA.valOf, hnot, Bool.not_true, len_ns hv, b_gtr, hd, cf29, c1, cf39, c2, cf31, c3, cf33, c4, ps_len ((hps.gr g2).gr g3)]
    exact ⟨_, s3, l, pv, uv, su, rfl, hT, (hps.gr g2).gr g3, w2.gr g3, ⟨by simp only [List.getElem?_set, List.length_set, Nat.reduceLT, Nat.reduceEqDiff, ↓reduceIte, reduceCtorEq, *], by simp only [List.getElem?_set, List.length_set, Nat.reduceLT, Nat.reduceEqDiff, ↓reduceIte, reduceCtorEq, *], by simp only [List.getElem?_set, List.length_set, Nat.reduceLT, Nat.reduceEqDiff, ↓reduceIte, reduceCtorEq, *], by simp only [List.getElem?_set, List.length_set, Nat.reduceLT, Nat.reduceEqDiff, ↓reduceIte, reduceCtorEq, *], by simp only [List.getElem?_set, List.length_set, Nat.reduceLT, Nat.reduceEqDiff, ↓reduceIte, reduceCtorEq, *]; rfl, by simp only [List.getElem?_set, List.length_set, Nat.reduceLT, Nat.reduceEqDiff, ↓reduceIte, reduceCtorEq, *]⟩⟩

theorem ln_kids (N m : Nat) (hm : 1000 ≤ m) (dr : Array Oper → Bool) {ow pv uv wv : AVal} {l : List Nd} {n i s : Nat} {ts : List AVal} {st : ASt} (hl : l.length ≤ 900) (hu : MRow st uv (par l) s) (h : LnK ow pv uv .nilSlice wv n i ts)
    (t32 : ts[32]? = some uv) (t33 : ts[33]? = some (.lit (.int .i64 l.length))) (t34 : ts[34]? = some (.lit (.int .i64 (0 : Nat)))) :
    ∃ ts' st' kv so, aloop (aexec E 12 (run E N) dr m lkK) m ts st = some (.exit 2, ts', st') ∧ LnK ow pv uv kv wv n i ts' ∧ IRow st' kv (kidsI l i l.length) so ∧ Gr st st' := by
  obtain ⟨e, ts2, st2, e2, rfl, kv, so, h2, h3, h4⟩ := aloop_rule (b := aexec E 12 (run E N) dr m lkK)
    (I := fun f ts s' => ∃ k kv so, f + k = l.length ∧ MRow s' uv (par l) s ∧ IRow s' kv (kidsI l i k) so ∧ (∀ j, so = some j → st.ctr ≤ j) ∧ Gr st s' ∧ LnK ow pv uv kv wv n i ts ∧ ts[32]? = some uv ∧ ts[33]? = some (.lit (.int .i64 l.length)) ∧ ts[34]? = some (.lit (.int .i64 k)))
    (Q := fun e ts' s' => e = .exit 2 ∧ ∃ kv so, LnK ow pv uv kv wv n i ts' ∧ IRow s' kv (kidsI l i l.length) so ∧ Gr st s')
    (step := by
      rintro f ts s' ⟨k, kv, so, hf, hu', ho, hfr, hg, hK, u32, u33, u34⟩
      obtain ⟨ha, hb⟩ := ln_k (run E N) dr m hl hu' hu.2.1 ho hfr hg hK u32 u33 u34
      by_cases he : k = l.length
      · obtain ⟨ts', e, h'⟩ := ha he
        subst he
        exact .inr ⟨_, ts', _, e, by simp, rfl, kv, so, h', ho, hg⟩
      · obtain ⟨ts', st', kv', so', e, h', ho', hfr', hg', v32, v33, v34⟩ := hb (by omega)
        exact .inl ⟨ts', st', e, f - 1, by omega, k + 1, kv', so', by omega, hu.gr hg', ho', hfr', hg', h', v32, v33, v34⟩)
    m l.length ts st ⟨0, .nilSlice, none, by omega, hu, ⟨rfl, rfl⟩, fun j e => (by cases e), Gr.refl st, h, t32, t33, t34⟩ (by omega)
  exact ⟨ts2, st2, kv, so, e2, h2, h3, h4⟩

theorem ln_walk (N m : Nat) (hm : 1000 ≤ m) (dr : Array Oper → Bool) {ow pv uv kv wv : AVal} {l : List Nd} {n i s : Nat} {ts : List AVal} {st : ASt} (hT : IsTree l) (hi : i < l.length) (hps : PS st pv l) (hu : MRow st uv (par l) s) (hw : PV st wv []) (h : LnK ow pv uv kv wv n i ts)
    (t12 : ts[12]? = some (.lit (.int .i64 i))) :
    ∃ ts' st' wv', aloop (aexec E 12 (run E N) dr m lkP) m ts st = some (.exit 4, ts', st') ∧ LnK ow pv uv kv wv' n i ts' ∧ PV st' wv' (pathN l i) ∧ Gr st st' := by
  have hTl := hT.len
  obtain ⟨e, ts2, st2, e2, rfl, wv', h2, h3, h4⟩ := aloop_rule (b := aexec E 12 (run E N) dr m lkP)
    (I := fun f ts s' => ∃ wv W, f < l.length ∧ PV s' wv W ∧ W.length + f ≤ 900 ∧ Gr st s' ∧ LnK ow pv uv kv wv n i ts ∧ ts[12]? = some (.lit (.int .i64 f)) ∧ ((chain l (f + 1) f).map (thAt l)).reverse ++ W = pathN l i)
    (Q := fun e ts' s' => e = .exit 4 ∧ ∃ wv, LnK ow pv uv kv wv n i ts' ∧ PV s' wv (pathN l i) ∧ Gr st s')
    (step := by
      rintro f ts s' ⟨wv, W, hf, hw, hW, hg, hK, u12, hc⟩
      obtain ⟨ha, hb⟩ := ln_p (run E N) dr m (hps.gr hg) hT.ok hf (hu.gr hg) hw (by omega) hK u12
      by_cases h0 : f = 0
      · obtain ⟨ts', e, h'⟩ := ha h0
        subst h0
        rw [chain, if_pos rfl, List.map_nil, List.reverse_nil, List.nil_append] at hc
        rw [hc] at hw
        exact .inr ⟨_, ts', _, e, by simp, rfl, wv, h', hw, hg⟩
      · obtain ⟨ts', st', wv', e, h', hw', hg', v12⟩ := hb (by omega)
        obtain ⟨q, em, hq⟩ := up_lt hT.ok (show 0 < f by omega) hf
        rw [em, Int.toNat_natCast] at v12
        refine .inl ⟨ts', st', e, q, hq, wv', _, by omega, hw', by simp; omega, hg.trans hg', h', v12, ?_⟩
        have hcf : chain l (f + 1) f = f :: chain l (q + 1) q := by
          conv => lhs; rw [chain]
          rw [if_neg h0, em, Int.toNat_natCast, chain_more hT.ok f (q + 1) q hq (by omega) (by omega)]
        rw [← hc, hcf]
        simp)
    m i ts st ⟨wv, [], hi, hw, by simp; omega, Gr.refl st, h, t12, by simp [pathN]⟩ (by omega)
  exact ⟨ts2, st2, wv', e2, h2, h3, h4⟩

theorem ln_round (N m : Nat) (hN : 2000 ≤ N) (hm : 1000 ≤ m) (dr : Array Oper → Bool) {ow pv uv : AVal} {l : List Nd} {i s : Nat} {ts : List AVal} {st : ASt} (hT : IsTree l) (hps : PS st pv l) (hu : MRow st uv (par l) s) (h : LnS ow pv uv l.length i ts) (hil : i ≤ l.length) :
    (i = l.length → ∃ ts', aexec E 12 (run E N) dr m lkB ts st = some (.exit 0, ts', st) ∧ LnS ow pv uv l.length i ts') ∧
    (i < l.length → ∃ ts' st', aexec E 12 (run E N) dr m lkB ts st = some (.normal, ts', st') ∧ LnS ow pv uv l.length (i + 1) ts' ∧ Gr st st') := by
  have hTl := hT.len
  obtain ⟨tsa, ea, ha, da⟩ := ln_10 (run E N) dr m (st := st) h
  refine ⟨fun he => ?_, fun hlt => ?_⟩
  · rw [decide_eq_false (by omega)] at da
    exact ⟨tsa, by simp only [lnk_body, ea, aseq, aexec_cond, aeval, da, aexec_exit], ha⟩
  · rw [decide_eq_true hlt] at da
    obtain ⟨tsb, eb, hb, b7, b8, b9, b32, b33, b34⟩ := ln_p1 (run E N) dr m hu ha
    obtain ⟨tsc, stc, kv, so, ec, hc, oc, gc⟩ := ln_kids N m hm dr (by omega) hu ⟨hb, b7, b8, b9⟩ b32 b33 b34
    obtain ⟨tsd, ed, hd, d12⟩ := ln_p2 (run E N) dr m (st := stc) hc
    obtain ⟨tse, ste, wv, ee, he, we, ge⟩ := ln_walk N m hm dr hT hlt (hps.gr gc) (hu.gr gc) (.inr ⟨none, rfl, rfl⟩) hd d12
    obtain ⟨tsf, stf, ef, gf, hf⟩ := ln_p3 N m hN dr hT ((hps.gr gc).gr ge) hlt (oc.gr ge.1 (fun k e => ge.2 k (irow_lt oc k e))) we he
    obtain ⟨tsg, eg, hg⟩ := ln_25 (run E N) dr m (st := stf) hf (by omega)
    exact ⟨tsg, stf, by simp only [lnk_body, ea, aseq, aexec_cond, aeval, da, aexec_skip, eb, ec, ablock, if_true, ed, ee, ef, eg], hg, (gc.trans ge).trans gf⟩

theorem ln_E (N m : Nat) (hN : 2000 ≤ N) (dr : Array Oper → Bool) {pv uv : AVal} {o : Int} {l : List Nd} {i : Nat} {ts : List AVal} {st : ASt} (ho : -9223372036854775808 ≤ o ∧ o ≤ 9223372036854775807) (hT : IsTree l) (hps : PS st pv l) (h : LnS (.lit (.int .i64 o)) pv uv l.length i ts) :
    ∃ ts' st', aexec E 12 (run E N) dr m lkE ts st = some (.ret, ts', st') ∧ ts'[4]? = some (.lit (.bool true)) := by
  obtain ⟨t1, t5, t6, t28, t29, tl⟩ := h
  have hTl := hT.len
  obtain ⟨r2, st2, s2, n3, w3, g3, _⟩ := path_run hps (by omega) hT.ok hT.kd o ho
  have c3 := n3 N (by omega)
  have L := fun mt ty cs s => irow_len w3 mt ty cs s
  have pf : ¬ (0 ≤ o ∧ o < l.length) → pathF l o = [] := fun hn => by unfold pathF; rw [if_neg hn]
  have z : ((([] : List Int).length : Nat) : Int) == 0 := rfl
  cases d1 : decide (o ≥ 0) with
  | false =>
    have hn : pathF l o = [] := pf (fun hh => by rw [decide_eq_false_iff_not] at d1; omega)
    rw [hn] at L
    simp only [AVal.undef, sbn, sbn', lkE, code, Try.f12, Option.getD_some, Code.fst, Code.snd, Code.inn, aexec, aops, aop, Region.wanted, ayielded, aexecOp, aeval, aput, aseq, ablock, ahint, absOf, flat, nilCheckA, ANext.ofP, evals, evalPs, evalO, aresults, aresults1, aresult, aend, List.getElem?_set, List.length_set, Option.map_some, Option.bind_some, if_true, if_false, ↓reduceIte, Nat.reduceLT, Nat.reduceEqDiff, reduceCtorEq, Bool.false_eq_true, false_and, and_false, and_true, true_and, Nat.reduceAdd, Nat.reduceLeDiff, callA, List.getElem?_toArray, List.getElem?_cons_succ, List.getElem?_cons_zero, sb1, sb2, sb3, sb4, t1, t5, t6, t28, t29, tl, b_geq, d1, cf32, c3, YtjpehemkgikkdaaA.valOf, L, b_eql, z]
    exact ⟨_, _, rfl, by simp only [List.getElem?_set, List.length_set, Nat.reduceLT, Nat.reduceEqDiff, ↓reduceIte, reduceCtorEq, *]⟩
  | true =>
    cases d2 : decide (o < ((l.length : Nat) : Int)) with
    | false =>
      have hn : pathF l o = [] := pf (fun hh => by rw [decide_eq_false_iff_not] at d2; omega)
      rw [hn] at L
      simp only [AVal.undef, sbn, sbn', lkE, code, Try.f12, Option.getD_some, Code.fst, Code.snd, Code.inn, aexec, aops, aop, Region.wanted, ayielded, aexecOp, aeval, aput, aseq, ablock, ahint, absOf, flat, nilCheckA, ANext.ofP, evals, evalPs, evalO, aresults, aresults1, aresult, aend, List.getElem?_set, List.length_set, Option.map_some, Option.bind_some, if_true, if_false, ↓reduceIte, Nat.reduceLT, Nat.reduceEqDiff, reduceCtorEq, Bool.false_eq_true, false_and, and_false, and_true, true_and, Nat.reduceAdd, Nat.reduceLeDiff, callA, List.getElem?_toArray, List.getElem?_cons_succ, List.getElem?_cons_zero, sb1, sb2, sb3, sb4, t1, t5, t6, t28, t29, tl, b_geq, d1, ps_len hps, b_lss, d2, cf32, c3, YtjpehemkgikkdaaA.valOf, L, b_eql, z]
      exact ⟨_, _, rfl, by simp only [List.getElem?_set, List.length_set, Nat.reduceLT, Nat.reduceEqDiff, ↓reduceIte, reduceCtorEq, *]⟩
    | true =>
      simp only [AVal.undef, sbn, sbn', lkE, code, Try.f12, Option.getD_some, Code.fst, Code.snd, Code.inn, aexec, aops, aop, Region.wanted, ayielded, aexecOp, aeval, aput, aseq, ablock, ahint, absOf, flat, nilCheckA, ANext.ofP, evals, evalPs, evalO, aresults, aresults1, aresult, aend, List.getElem?_set, List.length_set, Option.map_some, Option.bind_some, if_true, if_false, ↓reduceIte, Nat.reduceLT, Nat.reduceEqDiff, reduceCtorEq, Bool.false_eq_true, false_and, and_false, and_true, true_and, Nat.reduceAdd, Nat.reduceLeDiff, callA, List.getElem?_toArray, List.getElem?_cons_succ, List.getElem?_cons_zero, sb1, sb2, sb3, sb4, t1, t5, t6, t28, t29, tl, b_geq, d1, ps_len hps, b_lss, d2]
      exact ⟨_, _, rfl, by simp only [List.getElem?_set, List.length_set, Nat.reduceLT, Nat.reduceEqDiff, ↓reduceIte, reduceCtorEq, *]⟩

theorem links_runs (b0 b1 : AVal) (d0 : DatV E.P 6 42 b0) (d1 : DatV E.P 6 3 b1) : ∃ n st', run E n 12 [b0, b1] st0 = some (.returned (.lit (.bool true)), st') := by
  obtain ⟨ns, hv⟩ := datv_ns d0
  obtain ⟨o, rfl, ho1, ho2⟩ := datv_int u3 rfl d1
  have ho1' : (-9223372036854775808 : Int) ≤ o := ho1
  have ho2' : o ≤ 9223372036854775807 := ho2
  refine ⟨3000 + 1, ?_⟩
  obtain ⟨ts, et, t0, t1, tl⟩ : ∃ ts : List AVal, ([b0, AVal.lit (.int .i64 o)] ++ List.replicate (Try.f12.ntmps - [b0, AVal.lit (.int .i64 o)].length) .undef) = ts ∧ ts[0]? = some b0 ∧ ts[1]? = some (.lit (.int .i64 o)) ∧ ts.length = 102 := ⟨_, rfl, rfl, rfl, rfl⟩
  have hres : ∀ ts st v, ts[4]? = some v → aresults E Try.f12 ts st = some v := by
    intro ts st v h
    unfold aresults
    simp only [Try.f12, aresults1, aresult, h]
  rw [run_code (fn := Try.f12) rfl rfl, et, lnk_parts]
  have hA := ln_A 3000 3000 (by omega) (drawB E 12) hv t0 t1 tl
  by_cases hl : 100 < ns.length
  · obtain ⟨ts1, st1, e1, a2⟩ := hA.1 hl
    exact ⟨st1, by simp only [e1, aseq, aend, hres _ _ _ a2, Option.map_some]⟩
  · obtain ⟨ts1, st1, l, pv, uv, su, e1, hT, hps, hu, hI⟩ := hA.2 (by omega)
    have hTl := hT.len
    obtain ⟨e, ts2, st2, e2, rfl, hI2, hps2⟩ := aloop_rule (b := aexec E 12 (run E 3000) (drawB E 12) 3000 lkB)
      (I := fun k ts s => ∃ i, k + i = l.length ∧ LnS (.lit (.int .i64 o)) pv uv l.length i ts ∧ PS s pv l ∧ MRow s uv (par l) su)
      (Q := fun e ts' s => e = .exit 0 ∧ LnS (.lit (.int .i64 o)) pv uv l.length l.length ts' ∧ PS s pv l)
      (step := by
        rintro k ts2 s ⟨i, hi, hI, hp, hu⟩
        have hb := ln_round 3000 3000 (by omega) (by omega) (drawB E 12) hT hp hu hI (by omega)
        by_cases he : i = l.length
        · obtain ⟨ts', e, h'⟩ := hb.1 he
          rw [he] at h'
          exact .inr ⟨_, ts', _, e, by simp, rfl, h', hp⟩
        · obtain ⟨ts', st', e, h', hg⟩ := hb.2 (by omega)
          exact .inl ⟨ts', st', e, k - 1, by omega, i + 1, by omega, h', hp.gr hg, hu.gr hg⟩)
      3000 l.length ts1 st1 ⟨0, by omega, hI, hps, hu⟩ (by omega)
    obtain ⟨ts3, st3, e3, a2⟩ := ln_E 3000 3000 (by omega) (drawB E 12) ⟨ho1', ho2'⟩ hT hps2 hI2
    exact ⟨st3, by simp only [e1, aseq, e2, ablock, if_true, e3, aend, hres _ _ _ a2, Option.map_some]⟩

end Go.Proofs.YtjpehemkgikkdaaV
