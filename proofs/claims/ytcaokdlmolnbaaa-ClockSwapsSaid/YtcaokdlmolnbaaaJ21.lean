/- event.New walked: what comes of it. No condition. -/
import Derived.Test.YtcaokdlmolnbaaaJ19
import Derived.Test.YtcaokdlmolnbaaaJ20
namespace Go.Proofs.YtcaokdlmolnbaaaV
open Go Go.RowKit Go.Proofs.YtcaokdlmolnbaaaA
set_option linter.unusedVariables false
set_option linter.unusedSimpArgs false
set_option maxRecDepth 100000

theorem flatM_wr : ∀ (l : List Mk) (i : Nat) (h : i < l.length), (flatM l)[i * 2 + 1]? = some (.lit (.bool l[i].wr))
  | [], i, h => by simp at h
  | n :: l, 0, h => rfl
  | n :: l, i + 1, h => by
    have := flatM_wr l i (by simpa using h)
    unfold flatM at this ⊢
    rw [List.flatMap_cons, show (i + 1) * 2 + 1 = i * 2 + 1 + 1 + 1 by omega]
    exact this
theorem flatM_set : ∀ (l : List Mk) (i : Nat) (h : i < l.length) (w : Bool), (flatM l).set (i * 2 + 1) (.lit (.bool w)) = flatM (l.set i ⟨l[i].ob, w⟩)
  | [], i, h, w => by simp at h
  | n :: l, 0, h, w => rfl
  | n :: l, i + 1, h, w => by
    have := flatM_set l i (by simpa using h) w
    have e : flatM (n :: l) = .lit (.int .i64 n.ob) :: .lit (.bool n.wr) :: flatM l := rfl
    rw [e, show (i + 1) * 2 + 1 = i * 2 + 1 + 1 + 1 by omega, List.set_cons_succ, List.set_cons_succ, this]
    rfl
theorem ldB {st : ASt} {s : Nat} {ms : List Mk} (h : st.heap s = some (.cells (flatM ms))) {i : Nat} (hi : i < ms.length) : loadA E.P 4 st (.ptr s (i * 2 + 1)) = some (.lit (.bool ms[i].wr)) := by
  have a0 : loadA E.P 4 st (.ptr s (i * 2 + 1)) = (match st.heap s with | some (.cells cs) => cs[i * 2 + 1]? | _ => none) := rfl
  rw [a0, h]
  exact flatM_wr ms i hi
theorem stB {st : ASt} {s : Nat} {ms : List Mk} (h : st.heap s = some (.cells (flatM ms))) {i : Nat} (hi : i < ms.length) (w : Bool) : storeA E.P 4 st (.ptr s (i * 2 + 1)) (.lit (.bool w)) = some (putM st s (ms.set i ⟨ms[i].ob, w⟩)) := by
  have a0 : storeA E.P 4 st (.ptr s (i * 2 + 1)) (.lit (.bool w)) = (match st.heap s with
      | some (.cells cs) => if szOf E.P 4 = some 1 ∧ i * 2 + 1 + 1 ≤ cs.length ∧ true = true then some (st.set s (some (.cells (putL cs (i * 2 + 1) [.lit (.bool w)])))) else none
      | _ => none) := rfl
  rw [a0, h]
  simp only
  rw [if_pos ⟨rfl, by rw [flatM_len]; omega, trivial⟩]
  show some (st.set s (some (.cells ((flatM ms).set (i * 2 + 1) (.lit (.bool w)))))) = _
  rw [flatM_set _ _ hi]; rfl

theorem om_sort {base st : ASt} {v : AVal} {l r : List Mk} (h : OM base st v r) (hg : Gr base st) (hn : Nn l r) (hr : r.length ≤ 12) :
    ∃ st2 r', rw E 33 [v, byF] st = some (.returned (.tuple []), st2) ∧ OM base st2 v r' ∧ Gr base st2 ∧ Nm l r' ∧ r'.length = r.length := by
  rcases h with ⟨rfl, rfl⟩ | ⟨s, rfl, h0, h1, h2⟩
  · obtain ⟨_, st9, c, rfl, e9⟩ := sort_nil st
    rw [e9] at c
    exact ⟨st, [], c, .inl ⟨rfl, rfl⟩, hg, ⟨hn, fun i j _ _ h => absurd h (Nat.not_lt_zero _)⟩, rfl⟩
  · obtain ⟨_, st2, c, rfl, r', R, M, S⟩ := sort_rw (s := s) (n := r.length) hr rfl hn.1 h2 h1
    refine ⟨st2, r', c, .inr ⟨s, by rw [M.len], h0, Nat.lt_of_lt_of_le h1 R.le, R.row⟩, ⟨Nat.le_trans hg.1 R.le, fun j hj => ?_⟩, ⟨hn.mv M, by rw [M.len]; exact S⟩, M.len⟩
    rw [R.ke j (Nat.lt_of_lt_of_le hj hg.1) (by omega), hg.2 j hj]

set_option maxHeartbeats 2000000 in
theorem new_rw {v : AVal} {l : List Mk} {th : Int} {st : ASt} (hv : MS st v l) (hl : l.length ≤ 12) :
    ∃ r st', rw E 14 [.lit (.int .i64 th), v] st = some (r, st') ∧ ∃ v' r', r = .returned (.agg [.lit (.int .i64 th), v']) ∧ OM st st' v' r' ∧ Nm l r' ∧ Gr st st' ∧ r'.length ≤ l.length := by
  have L := ms_len hv
  obtain ⟨b1, hb1⟩ : ∃ b1, b1 = st.new (.cells [.lit (.int .i64 0), .lit (.slice none 0 0)]) := ⟨_, rfl⟩
  have hbc : b1.ctr = st.ctr + 1 := by rw [hb1]; rfl
  have hbh : b1.heap st.ctr = some (.cells [.lit (.int .i64 0), .lit (.slice none 0 0)]) := by rw [hb1]; exact ASt.new_same _ _
  have hG0 : Gr st b1 := by rw [hb1]; exact Gr.new _ _
  refine cx_14 fun g t0 t1 => C14_wp ?_
  refine aw_run 0 (by simp (maxSteps := 5000000) (disch := first | assumption | omega | (simp only [ASt.set_ctr, ASt.new_ctr] <;> omega)) only [S14_0_e.down, S14_1_e.down, S14_2_e.down, o_al_31, o_leni_29, o_lens_29, o_lenn_29, o_ixi_29, o_ixs_29, o_ldp_40, o_ldi_40, o_al_40, o_st_40, cf_31, hint_14_22, o_bs_29_1, hint_14_23, bi_app, o_fap_40_1, o_fai_40_1, o_ldp_4, o_ldi_4, o_st_4, cf_33, o_bd_31, o_st_31, AVal.undef, sbn1, sbn2, aexec, aops, aop, Region.wanted, aeval, aput, aseq, ablock, ahint, absOf, flat, nilCheckA, ANext.ofP, evals, evalPs, evalO, aresults, aresults1, aresult, aend, Option.map_some, Option.bind_some, if_true, if_false, ↓reduceIte, Nat.reduceLT, Nat.reduceEqDiff, reduceCtorEq, Bool.false_eq_true, false_and, and_false, and_true, true_and, Nat.reduceAdd, Nat.reduceLeDiff, callA, List.getElem?_toArray, List.getElem?_cons_succ, List.getElem?_cons_zero, sb1, sb2, sb3, sb4, sliceU_i, sliceU_s, sliceU_p, sliceU_l, evalV, ayielded_eq, slotOf_eq, dstOf, yieldB, xo_move, xo_assign, xo_pick, xo_alloc, xo_box, xo_build, xo_bslice, xo_load, xo_store, xo_nn, xo_bin, xo_un, xo_conv, xo_mki, xo_mkf, xo_mks, xo_slice, xo_fa, xo_fv, xo_ia, xo_ix, xo_ext, xo_call, xo_panic, extractA, b_lss, b_leq, b_gtr, b_geq, b_eql, b_neq, b_add, b_sub, b_mul, b_and, b_or, b_xor, b_shl, b_shr, b_quo, b_rem, u_not, u_neg, wr_i64, wr_u64, wr_u32, wr_u8, wr_i32, wr_u16, wr_i16, wr_i8, dec_t, dec_f, ieq_t, ieq_f, ine_t, ine_f, blkOf_cells, heap_set_same, heap_set_ne, heap_new_same, heap_new_ne, ASt.set_ctr, ASt.new_ctr, set_set', ic_lit, ic_agg, ic_ptr, ic_iptr, ic_slice, ic_islice, ic_func, ic_iface, boxA, newA, List.all_cons, List.all_nil, Bool.and_self, Bool.and_true, Bool.true_and, cs_lit, cs_agg, cs_ptr, cs_iptr, cs_slice, cs_islice, cs_func, cs_iface, fillA, putL, setsE, eo_lit, eo_agg, eo_ptr, eo_iptr, eo_slice, eo_islice, eo_func, eo_iface, eo_byte, List.set_cons_zero, List.set_cons_succ, List.length_cons, List.length_nil, Nat.reduceBEq, Nat.reduceBNe, beq_self_eq_true, Bool.not_true, Bool.not_false, Nat.zero_add, Nat.reduceMul, List.map_nil, List.drop_succ_cons, List.drop_zero, List.take_succ_cons, List.take_zero, List.nil_append, List.cons_append, Int.toNat_natCast, sl_set, sl_get, sl_len, upd_app, valOf_lit, ite_t, ite_f, t0, t1, L] <;> rfl) ?_
  rw [← hb1]
  refine aw_forS (fun k f st' => ∃ (t : Nat) (r : List Mk), k = l.length - t ∧ t ≤ l.length ∧ r.length ≤ t ∧ f 0 = .lit (.int .i64 th) ∧ f 4 = .ptr st.ctr 0 ∧ OM b1 st' (f 5) r ∧ f 9 = v ∧ f 10 = .lit (.int .i64 (l.length : Int)) ∧ f 11 = .lit (.int .i64 (t : Int)) ∧ Gr b1 st' ∧ Nn (l.take t) r)
    (fun k f st' hI => L14_0_wp ?_) l.length _ _ ⟨0, [], rfl, Nat.zero_le _, Nat.le_refl _, t0, rfl, .inl ⟨rfl, rfl⟩, rfl, rfl, rfl, Gr.refl _, nn_nil⟩
  obtain ⟨t, r, rfl, htl, hrt, h0, h4, hO, h9, h10, h11, hG, hN⟩ := hI
  generalize hvo : f 5 = vo at *
  by_cases ht : t < l.length
  · obtain ⟨p, e1, _, e2⟩ := ms_at hv ht
    have e3 := e2 st' (hG0.trans hG)
    have htk : l.take (t + 1) = l.take t ++ [l[t]] := by rw [List.take_add_one, List.getElem?_eq_getElem ht]; rfl
    generalize l[t] = m at *
    have hlt : st.ctr < st'.ctr := by have := hG.1; omega
    obtain ⟨s1, hs1⟩ : ∃ s1, s1 = (st'.new (.cells [.lit (.int .i64 0), .lit (.bool false)])).set st'.ctr (some (.cells [.lit (.int .i64 m.ob), .lit (.bool m.wr)])) := ⟨_, rfl⟩
    have g1 : Gr st' s1 := by
      rw [hs1]
      refine ⟨by simp [ASt.new, ASt.set], fun j hj => ?_⟩
      rw [ASt.set_ne _ _ _ _ (by omega), ASt.new_ne _ _ _ (by omega)]
    have hh1 : s1.heap st'.ctr = some (.cells m.cs) := by rw [hs1]; exact ASt.set_same _ _ _
    have hc1 : st'.ctr < s1.ctr := by rw [hs1]; simp [ASt.new, ASt.set]
    obtain ⟨rr, s2, c1, g2, hcase⟩ := idx_rw (v := vo) (l := r) (m := m) (c := st'.ctr) (st := s1) (hO.ms.gr g1) (by omega) hh1 hc1
    rw [hs1] at c1
    unfold cloF at c1
    have hh2 : s2.heap st'.ctr = some (.cells [.lit (.int .i64 m.ob), .lit (.bool m.wr)]) := by rw [g2.2 _ hc1]; exact hh1
    have hG2 : Gr b1 s2 := hG.trans (g1.trans g2)
    have hO2 := hO.gr (g1.trans g2)
    have ha : (t : Int) + 1 = ((t + 1 : Nat) : Int) := by omega
    clear hs1 hh1
    rcases hcase with ⟨i, rfl, hi, hk⟩ | ⟨rfl, hno⟩
    · rcases hO2 with ⟨rfl, rfl⟩ | ⟨s, rfl, hq0, hq1, hq2⟩
      · simp at hi
      have x1 := idxM (s := s) (n := r.length) (i := i) hi
      have w1 := ldB hq2 hi
      have hlen : (r.set i ⟨r[i].ob, r[i].wr || m.wr⟩).length = r.length := List.length_set ..
      have hgp : Gr b1 (putM s2 s (r.set i ⟨r[i].ob, r[i].wr || m.wr⟩)) := ⟨hG2.1, fun j hj => by rw [putM_ne _ _ _ _ (by omega)]; exact hG2.2 j hj⟩
      have hop : OM b1 (putM s2 s (r.set i ⟨r[i].ob, r[i].wr || m.wr⟩)) (rowM s r.length) (r.set i ⟨r[i].ob, r[i].wr || m.wr⟩) := .inr ⟨s, by rw [hlen], hq0, hq1, putM_at _ _ _⟩
      have hN' := nn_or hN hi hk
      cases hwr : r[i].wr with
      | true =>
        rw [hwr] at w1 hgp hop hN' hlen
        have s4 := stB hq2 hi true
        refine aw_run 0 (by simp (maxSteps := 5000000) (disch := first | assumption | omega | (simp only [ASt.set_ctr, ASt.new_ctr] <;> omega)) only [S14_0_e.down, S14_1_e.down, S14_2_e.down, o_al_31, o_leni_29, o_lens_29, o_lenn_29, o_ixi_29, o_ixs_29, o_ldp_40, o_ldi_40, o_al_40, o_st_40, cf_31, hint_14_22, o_bs_29_1, hint_14_23, bi_app, o_fap_40_1, o_fai_40_1, o_ldp_4, o_ldi_4, o_st_4, cf_33, o_bd_31, o_st_31, AVal.undef, sbn1, sbn2, aexec, aops, aop, Region.wanted, aeval, aput, aseq, ablock, ahint, absOf, flat, nilCheckA, ANext.ofP, evals, evalPs, evalO, aresults, aresults1, aresult, aend, Option.map_some, Option.bind_some, if_true, if_false, ↓reduceIte, Nat.reduceLT, Nat.reduceEqDiff, reduceCtorEq, Bool.false_eq_true, false_and, and_false, and_true, true_and, Nat.reduceAdd, Nat.reduceLeDiff, callA, List.getElem?_toArray, List.getElem?_cons_succ, List.getElem?_cons_zero, sb1, sb2, sb3, sb4, sliceU_i, sliceU_s, sliceU_p, sliceU_l, evalV, ayielded_eq, slotOf_eq, dstOf, yieldB, xo_move, xo_assign, xo_pick, xo_alloc, xo_box, xo_build, xo_bslice, xo_load, xo_store, xo_nn, xo_bin, xo_un, xo_conv, xo_mki, xo_mkf, xo_mks, xo_slice, xo_fa, xo_fv, xo_ia, xo_ix, xo_ext, xo_call, xo_panic, extractA, b_lss, b_leq, b_gtr, b_geq, b_eql, b_neq, b_add, b_sub, b_mul, b_and, b_or, b_xor, b_shl, b_shr, b_quo, b_rem, u_not, u_neg, wr_i64, wr_u64, wr_u32, wr_u8, wr_i32, wr_u16, wr_i16, wr_i8, dec_t, dec_f, ieq_t, ieq_f, ine_t, ine_f, blkOf_cells, heap_set_same, heap_set_ne, heap_new_same, heap_new_ne, ASt.set_ctr, ASt.new_ctr, set_set', ic_lit, ic_agg, ic_ptr, ic_iptr, ic_slice, ic_islice, ic_func, ic_iface, boxA, newA, List.all_cons, List.all_nil, Bool.and_self, Bool.and_true, Bool.true_and, cs_lit, cs_agg, cs_ptr, cs_iptr, cs_slice, cs_islice, cs_func, cs_iface, fillA, putL, setsE, eo_lit, eo_agg, eo_ptr, eo_iptr, eo_slice, eo_islice, eo_func, eo_iface, eo_byte, List.set_cons_zero, List.set_cons_succ, List.length_cons, List.length_nil, Nat.reduceBEq, Nat.reduceBNe, beq_self_eq_true, Bool.not_true, Bool.not_false, Nat.zero_add, Nat.reduceMul, List.map_nil, List.drop_succ_cons, List.drop_zero, List.take_succ_cons, List.take_zero, List.nil_append, List.cons_append, Int.toNat_natCast, sl_set, sl_get, sl_len, upd_app, valOf_lit, ite_t, ite_f, h0, h4, hvo, h9, h10, h11, e1, e3, Mk.a, Mk.cs, c1, hh2, x1, w1, s4, ha] <;> rfl) ?_
        exact ⟨_, rfl, l.length - (t + 1), by omega, t + 1, _, rfl, by omega, by rw [hlen]; omega, h0, h4, by show OM b1 _ (f 5) _; rw [hvo]; exact hop, h9, h10, rfl, hgp, by rw [htk]; exact hN'⟩
      | false =>
        rw [hwr] at w1 hgp hop hN' hlen
        have s4 := stB hq2 hi m.wr
        refine aw_run 0 (by simp (maxSteps := 5000000) (disch := first | assumption | omega | (simp only [ASt.set_ctr, ASt.new_ctr] <;> omega)) only [S14_0_e.down, S14_1_e.down, S14_2_e.down, o_al_31, o_leni_29, o_lens_29, o_lenn_29, o_ixi_29, o_ixs_29, o_ldp_40, o_ldi_40, o_al_40, o_st_40, cf_31, hint_14_22, o_bs_29_1, hint_14_23, bi_app, o_fap_40_1, o_fai_40_1, o_ldp_4, o_ldi_4, o_st_4, cf_33, o_bd_31, o_st_31, AVal.undef, sbn1, sbn2, aexec, aops, aop, Region.wanted, aeval, aput, aseq, ablock, ahint, absOf, flat, nilCheckA, ANext.ofP, evals, evalPs, evalO, aresults, aresults1, aresult, aend, Option.map_some, Option.bind_some, if_true, if_false, ↓reduceIte, Nat.reduceLT, Nat.reduceEqDiff, reduceCtorEq, Bool.false_eq_true, false_and, and_false, and_true, true_and, Nat.reduceAdd, Nat.reduceLeDiff, callA, List.getElem?_toArray, List.getElem?_cons_succ, List.getElem?_cons_zero, sb1, sb2, sb3, sb4, sliceU_i, sliceU_s, sliceU_p, sliceU_l, evalV, ayielded_eq, slotOf_eq, dstOf, yieldB, xo_move, xo_assign, xo_pick, xo_alloc, xo_box, xo_build, xo_bslice, xo_load, xo_store, xo_nn, xo_bin, xo_un, xo_conv, xo_mki, xo_mkf, xo_mks, xo_slice, xo_fa, xo_fv, xo_ia, xo_ix, xo_ext, xo_call, xo_panic, extractA, b_lss, b_leq, b_gtr, b_geq, b_eql, b_neq, b_add, b_sub, b_mul, b_and, b_or, b_xor, b_shl, b_shr, b_quo, b_rem, u_not, u_neg, wr_i64, wr_u64, wr_u32, wr_u8, wr_i32, wr_u16, wr_i16, wr_i8, dec_t, dec_f, ieq_t, ieq_f, ine_t, ine_f, blkOf_cells, heap_set_same, heap_set_ne, heap_new_same, heap_new_ne, ASt.set_ctr, ASt.new_ctr, set_set', ic_lit, ic_agg, ic_ptr, ic_iptr, ic_slice, ic_islice, ic_func, ic_iface, boxA, newA, List.all_cons, List.all_nil, Bool.and_self, Bool.and_true, Bool.true_and, cs_lit, cs_agg, cs_ptr, cs_iptr, cs_slice, cs_islice, cs_func, cs_iface, fillA, putL, setsE, eo_lit, eo_agg, eo_ptr, eo_iptr, eo_slice, eo_islice, eo_func, eo_iface, eo_byte, List.set_cons_zero, List.set_cons_succ, List.length_cons, List.length_nil, Nat.reduceBEq, Nat.reduceBNe, beq_self_eq_true, Bool.not_true, Bool.not_false, Nat.zero_add, Nat.reduceMul, List.map_nil, List.drop_succ_cons, List.drop_zero, List.take_succ_cons, List.take_zero, List.nil_append, List.cons_append, Int.toNat_natCast, sl_set, sl_get, sl_len, upd_app, valOf_lit, ite_t, ite_f, h0, h4, hvo, h9, h10, h11, e1, e3, Mk.a, Mk.cs, c1, hh2, x1, w1, s4, ha] <;> rfl) ?_
        exact ⟨_, rfl, l.length - (t + 1), by omega, t + 1, _, rfl, by omega, by rw [hlen]; omega, h0, h4, by show OM b1 _ (f 5) _; rw [hvo]; exact hop, h9, h10, rfl, hgp, by rw [htk]; exact hN'⟩
    · obtain ⟨v3, s3, c3, hO3, hG3⟩ := om_app (m := m) hO2 hG2 (by omega)
      unfold Mk.a Mk.cs at c3
      refine aw_run 0 (by simp (maxSteps := 5000000) (disch := first | assumption | omega | (simp only [ASt.set_ctr, ASt.new_ctr] <;> omega)) only [S14_0_e.down, S14_1_e.down, S14_2_e.down, o_al_31, o_leni_29, o_lens_29, o_lenn_29, o_ixi_29, o_ixs_29, o_ldp_40, o_ldi_40, o_al_40, o_st_40, cf_31, hint_14_22, o_bs_29_1, hint_14_23, bi_app, o_fap_40_1, o_fai_40_1, o_ldp_4, o_ldi_4, o_st_4, cf_33, o_bd_31, o_st_31, AVal.undef, sbn1, sbn2, aexec, aops, aop, Region.wanted, aeval, aput, aseq, ablock, ahint, absOf, flat, nilCheckA, ANext.ofP, evals, evalPs, evalO, aresults, aresults1, aresult, aend, Option.map_some, Option.bind_some, if_true, if_false, ↓reduceIte, Nat.reduceLT, Nat.reduceEqDiff, reduceCtorEq, Bool.false_eq_true, false_and, and_false, and_true, true_and, Nat.reduceAdd, Nat.reduceLeDiff, callA, List.getElem?_toArray, List.getElem?_cons_succ, List.getElem?_cons_zero, sb1, sb2, sb3, sb4, sliceU_i, sliceU_s, sliceU_p, sliceU_l, evalV, ayielded_eq, slotOf_eq, dstOf, yieldB, xo_move, xo_assign, xo_pick, xo_alloc, xo_box, xo_build, xo_bslice, xo_load, xo_store, xo_nn, xo_bin, xo_un, xo_conv, xo_mki, xo_mkf, xo_mks, xo_slice, xo_fa, xo_fv, xo_ia, xo_ix, xo_ext, xo_call, xo_panic, extractA, b_lss, b_leq, b_gtr, b_geq, b_eql, b_neq, b_add, b_sub, b_mul, b_and, b_or, b_xor, b_shl, b_shr, b_quo, b_rem, u_not, u_neg, wr_i64, wr_u64, wr_u32, wr_u8, wr_i32, wr_u16, wr_i16, wr_i8, dec_t, dec_f, ieq_t, ieq_f, ine_t, ine_f, blkOf_cells, heap_set_same, heap_set_ne, heap_new_same, heap_new_ne, ASt.set_ctr, ASt.new_ctr, set_set', ic_lit, ic_agg, ic_ptr, ic_iptr, ic_slice, ic_islice, ic_func, ic_iface, boxA, newA, List.all_cons, List.all_nil, Bool.and_self, Bool.and_true, Bool.true_and, cs_lit, cs_agg, cs_ptr, cs_iptr, cs_slice, cs_islice, cs_func, cs_iface, fillA, putL, setsE, eo_lit, eo_agg, eo_ptr, eo_iptr, eo_slice, eo_islice, eo_func, eo_iface, eo_byte, List.set_cons_zero, List.set_cons_succ, List.length_cons, List.length_nil, Nat.reduceBEq, Nat.reduceBNe, beq_self_eq_true, Bool.not_true, Bool.not_false, Nat.zero_add, Nat.reduceMul, List.map_nil, List.drop_succ_cons, List.drop_zero, List.take_succ_cons, List.take_zero, List.nil_append, List.cons_append, Int.toNat_natCast, sl_set, sl_get, sl_len, upd_app, valOf_lit, ite_t, ite_f, h0, h4, hvo, h9, h10, h11, e1, e3, Mk.a, Mk.cs, c1, hh2, c3, ha] <;> rfl) ?_
      exact ⟨_, rfl, l.length - (t + 1), by omega, t + 1, r ++ [m], rfl, by omega, by rw [List.length_append]; simp; omega, h0, h4, hO3, h9, h10, rfl, hG3, by rw [htk]; exact nn_add hN hno⟩
  · obtain rfl : t = l.length := by omega
    rw [List.take_length] at hN
    refine aw_run 0 (by simp (maxSteps := 5000000) (disch := first | assumption | omega | (simp only [ASt.set_ctr, ASt.new_ctr] <;> omega)) only [S14_0_e.down, S14_1_e.down, S14_2_e.down, o_al_31, o_leni_29, o_lens_29, o_lenn_29, o_ixi_29, o_ixs_29, o_ldp_40, o_ldi_40, o_al_40, o_st_40, cf_31, hint_14_22, o_bs_29_1, hint_14_23, bi_app, o_fap_40_1, o_fai_40_1, o_ldp_4, o_ldi_4, o_st_4, cf_33, o_bd_31, o_st_31, AVal.undef, sbn1, sbn2, aexec, aops, aop, Region.wanted, aeval, aput, aseq, ablock, ahint, absOf, flat, nilCheckA, ANext.ofP, evals, evalPs, evalO, aresults, aresults1, aresult, aend, Option.map_some, Option.bind_some, if_true, if_false, ↓reduceIte, Nat.reduceLT, Nat.reduceEqDiff, reduceCtorEq, Bool.false_eq_true, false_and, and_false, and_true, true_and, Nat.reduceAdd, Nat.reduceLeDiff, callA, List.getElem?_toArray, List.getElem?_cons_succ, List.getElem?_cons_zero, sb1, sb2, sb3, sb4, sliceU_i, sliceU_s, sliceU_p, sliceU_l, evalV, ayielded_eq, slotOf_eq, dstOf, yieldB, xo_move, xo_assign, xo_pick, xo_alloc, xo_box, xo_build, xo_bslice, xo_load, xo_store, xo_nn, xo_bin, xo_un, xo_conv, xo_mki, xo_mkf, xo_mks, xo_slice, xo_fa, xo_fv, xo_ia, xo_ix, xo_ext, xo_call, xo_panic, extractA, b_lss, b_leq, b_gtr, b_geq, b_eql, b_neq, b_add, b_sub, b_mul, b_and, b_or, b_xor, b_shl, b_shr, b_quo, b_rem, u_not, u_neg, wr_i64, wr_u64, wr_u32, wr_u8, wr_i32, wr_u16, wr_i16, wr_i8, dec_t, dec_f, ieq_t, ieq_f, ine_t, ine_f, blkOf_cells, heap_set_same, heap_set_ne, heap_new_same, heap_new_ne, ASt.set_ctr, ASt.new_ctr, set_set', ic_lit, ic_agg, ic_ptr, ic_iptr, ic_slice, ic_islice, ic_func, ic_iface, boxA, newA, List.all_cons, List.all_nil, Bool.and_self, Bool.and_true, Bool.true_and, cs_lit, cs_agg, cs_ptr, cs_iptr, cs_slice, cs_islice, cs_func, cs_iface, fillA, putL, setsE, eo_lit, eo_agg, eo_ptr, eo_iptr, eo_slice, eo_islice, eo_func, eo_iface, eo_byte, List.set_cons_zero, List.set_cons_succ, List.length_cons, List.length_nil, Nat.reduceBEq, Nat.reduceBNe, beq_self_eq_true, Bool.not_true, Bool.not_false, Nat.zero_add, Nat.reduceMul, List.map_nil, List.drop_succ_cons, List.drop_zero, List.take_succ_cons, List.take_zero, List.nil_append, List.cons_append, Int.toNat_natCast, sl_set, sl_get, sl_len, upd_app, valOf_lit, ite_t, ite_f, h0, h4, h9, h10, h11] <;> rfl) ?_
    obtain ⟨s2, r', c1, hO2, hG2, hM, hlen⟩ := om_sort hO hG hN (by omega)
    unfold byF at c1
    have hh2 : s2.heap st.ctr = some (.cells [.lit (.int .i64 0), .lit (.slice none 0 0)]) := by rw [hG2.2 _ (by omega)]; exact hbh
    have hcell : vo.isCell = true := by
      rcases hO2 with ⟨rfl, _⟩ | ⟨s, rfl, _⟩ <;> rfl
    have hvc : vo.cells = [vo] := by
      rcases hO2 with ⟨rfl, _⟩ | ⟨s, rfl, _⟩ <;> rfl
    refine aw_run 0 (by simp (maxSteps := 5000000) (disch := first | assumption | omega | (simp only [ASt.set_ctr, ASt.new_ctr] <;> omega)) only [S14_0_e.down, S14_1_e.down, S14_2_e.down, o_al_31, o_leni_29, o_lens_29, o_lenn_29, o_ixi_29, o_ixs_29, o_ldp_40, o_ldi_40, o_al_40, o_st_40, cf_31, hint_14_22, o_bs_29_1, hint_14_23, bi_app, o_fap_40_1, o_fai_40_1, o_ldp_4, o_ldi_4, o_st_4, cf_33, o_bd_31, o_st_31, AVal.undef, sbn1, sbn2, aexec, aops, aop, Region.wanted, aeval, aput, aseq, ablock, ahint, absOf, flat, nilCheckA, ANext.ofP, evals, evalPs, evalO, aresults, aresults1, aresult, aend, Option.map_some, Option.bind_some, if_true, if_false, ↓reduceIte, Nat.reduceLT, Nat.reduceEqDiff, reduceCtorEq, Bool.false_eq_true, false_and, and_false, and_true, true_and, Nat.reduceAdd, Nat.reduceLeDiff, callA, List.getElem?_toArray, List.getElem?_cons_succ, List.getElem?_cons_zero, sb1, sb2, sb3, sb4, sliceU_i, sliceU_s, sliceU_p, sliceU_l, evalV, ayielded_eq, slotOf_eq, dstOf, yieldB, xo_move, xo_assign, xo_pick, xo_alloc, xo_box, xo_build, xo_bslice, xo_load, xo_store, xo_nn, xo_bin, xo_un, xo_conv, xo_mki, xo_mkf, xo_mks, xo_slice, xo_fa, xo_fv, xo_ia, xo_ix, xo_ext, xo_call, xo_panic, extractA, b_lss, b_leq, b_gtr, b_geq, b_eql, b_neq, b_add, b_sub, b_mul, b_and, b_or, b_xor, b_shl, b_shr, b_quo, b_rem, u_not, u_neg, wr_i64, wr_u64, wr_u32, wr_u8, wr_i32, wr_u16, wr_i16, wr_i8, dec_t, dec_f, ieq_t, ieq_f, ine_t, ine_f, blkOf_cells, heap_set_same, heap_set_ne, heap_new_same, heap_new_ne, ASt.set_ctr, ASt.new_ctr, set_set', ic_lit, ic_agg, ic_ptr, ic_iptr, ic_slice, ic_islice, ic_func, ic_iface, boxA, newA, List.all_cons, List.all_nil, Bool.and_self, Bool.and_true, Bool.true_and, cs_lit, cs_agg, cs_ptr, cs_iptr, cs_slice, cs_islice, cs_func, cs_iface, fillA, putL, setsE, eo_lit, eo_agg, eo_ptr, eo_iptr, eo_slice, eo_islice, eo_func, eo_iface, eo_byte, List.set_cons_zero, List.set_cons_succ, List.length_cons, List.length_nil, Nat.reduceBEq, Nat.reduceBNe, beq_self_eq_true, Bool.not_true, Bool.not_false, Nat.zero_add, Nat.reduceMul, List.map_nil, List.drop_succ_cons, List.drop_zero, List.take_succ_cons, List.take_zero, List.nil_append, List.cons_append, Int.toNat_natCast, sl_set, sl_get, sl_len, upd_app, valOf_lit, ite_t, ite_f, h0, h4, hvo, h9, h10, h11, c1, hh2, hcell, hvc] <;> rfl) ?_
    refine ⟨_, _, by simp only [AVal.undef, sbn1, sbn2, aexec, aops, aop, Region.wanted, aeval, aput, aseq, ablock, ahint, absOf, flat, nilCheckA, ANext.ofP, evals, evalPs, evalO, aresults, aresults1, aresult, aend, Option.map_some, Option.bind_some, if_true, if_false, ↓reduceIte, Nat.reduceLT, Nat.reduceEqDiff, reduceCtorEq, Bool.false_eq_true, false_and, and_false, and_true, true_and, Nat.reduceAdd, Nat.reduceLeDiff, callA, List.getElem?_toArray, List.getElem?_cons_succ, List.getElem?_cons_zero, sb1, sb2, sb3, sb4, sliceU_i, sliceU_s, sliceU_p, sliceU_l, evalV, ayielded_eq, slotOf_eq, dstOf, yieldB, xo_move, xo_assign, xo_pick, xo_alloc, xo_box, xo_build, xo_bslice, xo_load, xo_store, xo_nn, xo_bin, xo_un, xo_conv, xo_mki, xo_mkf, xo_mks, xo_slice, xo_fa, xo_fv, xo_ia, xo_ix, xo_ext, xo_call, xo_panic, extractA, b_lss, b_leq, b_gtr, b_geq, b_eql, b_neq, b_add, b_sub, b_mul, b_and, b_or, b_xor, b_shl, b_shr, b_quo, b_rem, u_not, u_neg, wr_i64, wr_u64, wr_u32, wr_u8, wr_i32, wr_u16, wr_i16, wr_i8, dec_t, dec_f, ieq_t, ieq_f, ine_t, ine_f, blkOf_cells, heap_set_same, heap_set_ne, heap_new_same, heap_new_ne, ASt.set_ctr, ASt.new_ctr, set_set', ic_lit, ic_agg, ic_ptr, ic_iptr, ic_slice, ic_islice, ic_func, ic_iface, boxA, newA, List.all_cons, List.all_nil, Bool.and_self, Bool.and_true, Bool.true_and, cs_lit, cs_agg, cs_ptr, cs_iptr, cs_slice, cs_islice, cs_func, cs_iface, fillA, putL, setsE, eo_lit, eo_agg, eo_ptr, eo_iptr, eo_slice, eo_islice, eo_func, eo_iface, eo_byte, List.set_cons_zero, List.set_cons_succ, List.length_cons, List.length_nil, Nat.reduceBEq, Nat.reduceBNe, beq_self_eq_true, Bool.not_true, Bool.not_false, Nat.zero_add, Nat.reduceMul, List.map_nil, List.drop_succ_cons, List.drop_zero, List.take_succ_cons, List.take_zero, List.nil_append, List.cons_append, Int.toNat_natCast, sl_set, sl_get, sl_len, upd_app, valOf_lit, ite_t, ite_f, Try.f14, h4, hcell, o_ldp_31] <;> rfl, vo, r', rfl, ?_, hM, ?_, by omega⟩
    · rcases hO2 with ⟨rfl, rfl⟩ | ⟨s, rfl, hq0, hq1, hq2⟩
      · exact .inl ⟨rfl, rfl⟩
      · exact .inr ⟨s, rfl, by omega, hq1, by rw [ASt.set_ne _ _ _ _ (by omega)]; exact hq2⟩
    · exact ⟨by have := hG2.1; simp only [ASt.set_ctr]; omega, fun j hj => by rw [ASt.set_ne _ _ _ _ (by omega), hG2.2 j (by omega), hG0.2 j hj]⟩
end Go.Proofs.YtcaokdlmolnbaaaV
