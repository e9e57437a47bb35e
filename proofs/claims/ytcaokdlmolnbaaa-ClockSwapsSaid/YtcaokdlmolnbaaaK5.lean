/- clock.New walked. No condition. -/
import Derived.Test.YtcaokdlmolnbaaaK4
namespace Go.Proofs.YtcaokdlmolnbaaaV
open Go Go.RowKit Go.Proofs.YtcaokdlmolnbaaaA
set_option linter.unusedVariables false
set_option linter.unusedSimpArgs false
set_option maxRecDepth 100000

/-- threads so far -/
def thF (es : List Ev) : Nat → Nat
  | 0 => 0
  | i + 1 => max (thF es i) (tI es i + 1)
theorem thF_lt (es : List Ev) : ∀ n i, i < n → tI es i < thF es n
  | 0, i, h => absurd h (Nat.not_lt_zero _)
  | n + 1, i, h => by
    rw [thF]
    by_cases e : i = n
    · subst e; omega
    · have := thF_lt es n i (by omega); omega
theorem thF_le (es : List Ev) : ∀ n, (∀ i, i < n → tI es i ≤ 4) → thF es n ≤ 5
  | 0, _ => Nat.zero_le _
  | n + 1, h => by
    rw [thF]
    have := thF_le es n fun i hi => h i (by omega)
    have := h n (by omega)
    omega
/-- each event's place in its thread -/
noncomputable def ntR (es : List Ev) : List Int := (List.range es.length).map fun i => ((nt es.length (tI es) i : Nat) : Int)
theorem nt_at {n : Nat} {th : Nat → Nat} {j : Nat} (hj : j < n) : nt n th j = cn j (fun k => th k = th j) + 1 := by
  unfold nt
  rw [cn_far (m := j + 1) (by omega) fun i h1 h2 h3 => by have := h3.2; omega, cn_succ, if_pos ⟨rfl, Nat.le_refl _⟩]
  congr 1
  exact cn_congr fun i hi => ⟨fun h => h.1, fun h => ⟨h, by omega⟩⟩
/-- an order of events -/
def OrdV (st : ASt) (o : AVal) (es : List Ev) : Prop := ∃ x vc vn T, o = .agg [x, vc, vn] ∧ ES st x es ∧ RR st vc (clkR es T) ∧ IR st vn (ntR es) ∧ ∀ i, i < es.length → tI es i < T
theorem OrdV.gr {st st' : ASt} {o : AVal} {es : List Ev} (h : OrdV st o es) (hg : Gr st st') : OrdV st' o es := by
  obtain ⟨x, vc, vn, T, e, h1, h2, h3, h4⟩ := h
  exact ⟨x, vc, vn, T, e, h1.gr hg, h2.gr hg, h3.gr hg, h4⟩

theorem AI.at {sz : Nat} {base st st' : ASt} {v : AVal} {es : List AVal} (h : AI sz base st v es) (hc : st.ctr ≤ st'.ctr) (hk : ∀ k, base.ctr ≤ k → k < st.ctr → st'.heap k = st.heap k) : AI sz base st' v es := by
  rcases h with h | ⟨k, e, h0, h1, h2⟩
  · exact .inl h
  · exact .inr ⟨k, e, h0, Nat.lt_of_lt_of_le h1 hc, by rw [hk k h0 h1]; exact h2⟩
theorem AI.ir {base st : ASt} {v : AVal} {l : List Int} (h : AI 1 base st v (l.map intN)) (st' : ASt) : IR st' v l := by
  rcases h with ⟨rfl, h⟩ | ⟨k, rfl, _⟩
  · exact .inl ⟨none, rfl, List.map_eq_nil_iff.1 h⟩
  · exact .inr (.inl ⟨_, rfl⟩)
set_option maxHeartbeats 4000000 in
theorem cnew_rw {x : AVal} {es : List Ev} {st : ASt} (hx : ES st x es) (hn : es.length ≤ 24) :
    ∃ r st', rw E 24 [x] st = some (r, st') ∧ ∃ vc vn, r = .returned (.agg [x, vc, vn]) ∧ OrdV st' (.agg [x, vc, vn]) es ∧ Gr st st' := by
  have L := es_len hx
  obtain ⟨xc1, xc2⟩ := es_cell hx
  obtain ⟨B0, hB0⟩ : ∃ B0, B0 = st.new (.cells [.lit (.slice none 0 0), .lit (.slice none 0 0), .lit (.slice none 0 0)]) := ⟨_, rfl⟩
  have hB0g : Gr st B0 := by rw [hB0]; exact Gr.new _ _
  have hB0h : B0.heap st.ctr = some (.cells [.lit (.slice none 0 0), .lit (.slice none 0 0), .lit (.slice none 0 0)]) := by rw [hB0]; exact ASt.new_same _ _
  have hB0c : st.ctr < B0.ctr := by rw [hB0]; simp [ASt.new]
  have h4 : ∀ i, i < es.length → tI es i ≤ 4 := fun i hi => by
    obtain ⟨_, _, _, _, _, hq, _⟩ := es_at hx hi
    unfold tI; rw [getD_at hi]; exact hq.2.2
  refine cx_24 fun g t0 => C24_wp ?_
  refine aw_run 0 (by simp (maxSteps := 5000000) (disch := first | assumption | omega | (simp only [ASt.set_ctr, ASt.new_ctr] <;> omega)) only [S24_0_e.down, S24_1_e.down, S24_2_e.down, ex24_14, rq24_14_e.down, S24_3_e.down, S24_4_e.down, o_al_50, o_leni_45, o_lens_45, o_lenn_45, o_ixi_45, o_ixs_45, o_ldp_31, o_ldi_31, o_al_31, o_st_31, o_fap_31_0, o_fai_31_0, o_ldp_3, o_ldi_3, cf_30, o_bd_50, o_st_50, o_ixi_48, o_ixs_48, o_st_3, o_fap_50_2, o_fai_50_2, o_ldp_48, o_ldi_48, hint_24_52, o_bs_48_1, hint_24_53, bi_app, o_st_48, hint_24_57, hint_24_58, o_ldp_50, o_ldi_50, AVal.undef, sbn1, sbn2, aexec, aops, aop, Region.wanted, aeval, aput, aseq, ablock, ahint, absOf, flat, nilCheckA, ANext.ofP, evals, evalPs, evalO, aresults, aresults1, aresult, aend, Option.map_some, Option.bind_some, if_true, if_false, ↓reduceIte, Nat.reduceLT, Nat.reduceEqDiff, reduceCtorEq, Bool.false_eq_true, false_and, and_false, and_true, true_and, Nat.reduceAdd, Nat.reduceLeDiff, callA, List.getElem?_toArray, List.getElem?_cons_succ, List.getElem?_cons_zero, sb1, sb2, sb3, sb4, sliceU_i, sliceU_s, sliceU_p, sliceU_l, evalV, ayielded_eq, slotOf_eq, dstOf, yieldB, xo_move, xo_assign, xo_pick, xo_alloc, xo_box, xo_build, xo_bslice, xo_load, xo_store, xo_nn, xo_bin, xo_un, xo_conv, xo_mki, xo_mkf, xo_mks, xo_slice, xo_fa, xo_fv, xo_ia, xo_ix, xo_ext, xo_call, xo_panic, extractA, b_lss, b_leq, b_gtr, b_geq, b_eql, b_neq, b_add, b_sub, b_mul, b_and, b_or, b_xor, b_shl, b_shr, b_quo, b_rem, u_not, u_neg, wr_i64, wr_u64, wr_u32, wr_u8, wr_i32, wr_u16, wr_i16, wr_i8, dec_t, dec_f, ieq_t, ieq_f, ine_t, ine_f, blkOf_cells, heap_set_same, heap_set_ne, heap_new_same, heap_new_ne, ASt.set_ctr, ASt.new_ctr, set_set', ic_lit, ic_agg, ic_ptr, ic_iptr, ic_slice, ic_islice, ic_func, ic_iface, boxA, newA, List.all_cons, List.all_nil, Bool.and_self, Bool.and_true, Bool.true_and, cs_lit, cs_agg, cs_ptr, cs_iptr, cs_slice, cs_islice, cs_func, cs_iface, fillA, putL, setsE, eo_lit, eo_agg, eo_ptr, eo_iptr, eo_slice, eo_islice, eo_func, eo_iface, eo_byte, List.set_cons_zero, List.set_cons_succ, List.length_cons, List.length_nil, Nat.reduceBEq, Nat.reduceBNe, beq_self_eq_true, Bool.not_true, Bool.not_false, Nat.zero_add, Nat.reduceMul, List.map_nil, List.drop_succ_cons, List.drop_zero, List.take_succ_cons, List.take_zero, List.nil_append, List.cons_append, Int.toNat_natCast, sl_set, sl_get, sl_len, upd_app, valOf_lit, ite_t, ite_f, t0, L] <;> rfl) ?_
  rw [← hB0]
  refine aw_forS (fun k f st' => ∃ (j : Nat), k = es.length - j ∧ j ≤ es.length ∧ f 0 = x ∧ f 2 = .ptr st.ctr 0 ∧ f 3 = .lit (.int .i64 ((thF es j : Nat) : Int)) ∧ f 10 = x ∧ f 11 = .lit (.int .i64 (es.length : Int)) ∧ f 12 = .lit (.int .i64 (j : Int)) ∧ Gr B0 st')
    (fun k f st' hI => L24_0_wp ?_) es.length _ _ ⟨0, rfl, Nat.zero_le _, t0, rfl, rfl, rfl, rfl, rfl, Gr.refl _⟩
  obtain ⟨j, rfl, hjl, h0, h2, h3, h10, h11, h12, hG⟩ := hI
  by_cases hj : j < es.length
  · obtain ⟨p, p0, w, e1, _, hwx, hw, e2⟩ := es_at hx hj
    have e3 := (e2 st' (hB0g.trans hG)).1
    obtain ⟨i1, i2⟩ := ms_cell hw
    have htj : tI es j = es[j].th := by unfold tI; rw [getD_at hj]
    have hs : thF es (j + 1) = max (thF es j) (es[j].th + 1) := by rw [thF, htj]
    have hth4 : es[j].th ≤ 4 := hwx.2.2
    have ht5 := thF_le es j fun i hi => h4 i (by omega)
    generalize es[j].th = th at *
    have hm : max ((thF es j : Nat) : Int) ((th + 1 : Nat) : Int) = ((thF es (j + 1) : Nat) : Int) := by rw [hs]; omega
    generalize hT1 : thF es (j + 1) = T1 at *
    generalize thF es j = T0 at *
    have ha1 : (th : Int) + 1 = ((th + 1 : Nat) : Int) := by omega
    have ha : (j : Int) + 1 = ((j + 1 : Nat) : Int) := by omega
    have g1 : Gr st' ((st'.new (.cells [.lit (.int .i64 0), .lit (.slice none 0 0)])).set st'.ctr (some (.cells [.lit (.int .i64 (th : Int)), w]))) := by
      refine ⟨by simp [ASt.new, ASt.set], fun j hj => ?_⟩
      rw [ASt.set_ne _ _ _ _ (by omega), ASt.new_ne _ _ _ (by omega)]
    clear h4 hwx e2
    refine aw_run 0 (by simp (maxSteps := 5000000) (disch := first | assumption | omega | (simp only [ASt.set_ctr, ASt.new_ctr] <;> omega)) only [S24_0_e.down, S24_1_e.down, S24_2_e.down, ex24_14, rq24_14_e.down, S24_3_e.down, S24_4_e.down, o_al_50, o_leni_45, o_lens_45, o_lenn_45, o_ixi_45, o_ixs_45, o_ldp_31, o_ldi_31, o_al_31, o_st_31, o_fap_31_0, o_fai_31_0, o_ldp_3, o_ldi_3, cf_30, o_bd_50, o_st_50, o_ixi_48, o_ixs_48, o_st_3, o_fap_50_2, o_fai_50_2, o_ldp_48, o_ldi_48, hint_24_52, o_bs_48_1, hint_24_53, bi_app, o_st_48, hint_24_57, hint_24_58, o_ldp_50, o_ldi_50, AVal.undef, sbn1, sbn2, aexec, aops, aop, Region.wanted, aeval, aput, aseq, ablock, ahint, absOf, flat, nilCheckA, ANext.ofP, evals, evalPs, evalO, aresults, aresults1, aresult, aend, Option.map_some, Option.bind_some, if_true, if_false, ↓reduceIte, Nat.reduceLT, Nat.reduceEqDiff, reduceCtorEq, Bool.false_eq_true, false_and, and_false, and_true, true_and, Nat.reduceAdd, Nat.reduceLeDiff, callA, List.getElem?_toArray, List.getElem?_cons_succ, List.getElem?_cons_zero, sb1, sb2, sb3, sb4, sliceU_i, sliceU_s, sliceU_p, sliceU_l, evalV, ayielded_eq, slotOf_eq, dstOf, yieldB, xo_move, xo_assign, xo_pick, xo_alloc, xo_box, xo_build, xo_bslice, xo_load, xo_store, xo_nn, xo_bin, xo_un, xo_conv, xo_mki, xo_mkf, xo_mks, xo_slice, xo_fa, xo_fv, xo_ia, xo_ix, xo_ext, xo_call, xo_panic, extractA, b_lss, b_leq, b_gtr, b_geq, b_eql, b_neq, b_add, b_sub, b_mul, b_and, b_or, b_xor, b_shl, b_shr, b_quo, b_rem, u_not, u_neg, wr_i64, wr_u64, wr_u32, wr_u8, wr_i32, wr_u16, wr_i16, wr_i8, dec_t, dec_f, ieq_t, ieq_f, ine_t, ine_f, blkOf_cells, heap_set_same, heap_set_ne, heap_new_same, heap_new_ne, ASt.set_ctr, ASt.new_ctr, set_set', ic_lit, ic_agg, ic_ptr, ic_iptr, ic_slice, ic_islice, ic_func, ic_iface, boxA, newA, List.all_cons, List.all_nil, Bool.and_self, Bool.and_true, Bool.true_and, cs_lit, cs_agg, cs_ptr, cs_iptr, cs_slice, cs_islice, cs_func, cs_iface, fillA, putL, setsE, eo_lit, eo_agg, eo_ptr, eo_iptr, eo_slice, eo_islice, eo_func, eo_iface, eo_byte, List.set_cons_zero, List.set_cons_succ, List.length_cons, List.length_nil, Nat.reduceBEq, Nat.reduceBNe, beq_self_eq_true, Bool.not_true, Bool.not_false, Nat.zero_add, Nat.reduceMul, List.map_nil, List.drop_succ_cons, List.drop_zero, List.take_succ_cons, List.take_zero, List.nil_append, List.cons_append, Int.toNat_natCast, sl_set, sl_get, sl_len, upd_app, valOf_lit, ite_t, ite_f, h0, h2, h3, h10, h11, h12, e1, e3, i1, i2, ha1, bi_max, hm, ha] <;> rfl) ?_
    exact ⟨_, rfl, es.length - (j + 1), by omega, j + 1, rfl, by omega, h0, h2, by rw [hT1]; rfl, h10, h11, rfl, hG.trans g1⟩
  obtain rfl : j = es.length := by omega
  have hT5 := thF_le es es.length h4
  clear h4
  obtain ⟨T, hT⟩ : ∃ T, T = thF es es.length := ⟨_, rfl⟩
  rw [← hT] at h3 hT5
  have hthT : ∀ i, i < es.length → tI es i < T := fun i hi => by rw [hT]; exact thF_lt es _ i hi
  obtain ⟨_, s1, c1, vc, ys, rfl, hRR, g1, hvc, hfar⟩ := clocks_rw (x := x) (es := es) (thr := (T : Int)) (T := T) (hx.gr (hB0g.trans hG)) hn (by omega) (by omega)
  obtain ⟨vc1, vc2⟩ := rr_cell hRR
  obtain ⟨A, hA⟩ : ∃ A, A = (s1.new (.cells [.lit (.slice none 0 0), .lit (.slice none 0 0), .lit (.slice none 0 0)])).set s1.ctr (some (.cells [x, vc, .lit (.slice none 0 0)])) := ⟨_, rfl⟩
  have hAg : Gr s1 A := by
    rw [hA]
    refine ⟨by simp [ASt.new, ASt.set], fun j hj => ?_⟩
    rw [ASt.set_ne _ _ _ _ (by omega), ASt.new_ne _ _ _ (by omega)]
  have hAh : A.heap s1.ctr = some (.cells [x, vc, .lit (.slice none 0 0)]) := by rw [hA]; exact ASt.set_same _ _ _
  have hAc : s1.ctr < A.ctr := by rw [hA]; simp [ASt.new, ASt.set]
  obtain ⟨many, sB, c2, hM, hgB⟩ := mr_make T (by omega) A
  have hBc : A.ctr < sB.ctr := hM.2.2.1
  refine aw_run 0 (by simp (maxSteps := 5000000) (disch := first | assumption | omega | (simp only [ASt.set_ctr, ASt.new_ctr] <;> omega)) only [S24_0_e.down, S24_1_e.down, S24_2_e.down, ex24_14, rq24_14_e.down, S24_3_e.down, S24_4_e.down, o_al_50, o_leni_45, o_lens_45, o_lenn_45, o_ixi_45, o_ixs_45, o_ldp_31, o_ldi_31, o_al_31, o_st_31, o_fap_31_0, o_fai_31_0, o_ldp_3, o_ldi_3, cf_30, o_bd_50, o_st_50, o_ixi_48, o_ixs_48, o_st_3, o_fap_50_2, o_fai_50_2, o_ldp_48, o_ldi_48, hint_24_52, o_bs_48_1, hint_24_53, bi_app, o_st_48, hint_24_57, hint_24_58, o_ldp_50, o_ldi_50, AVal.undef, sbn1, sbn2, aexec, aops, aop, Region.wanted, aeval, aput, aseq, ablock, ahint, absOf, flat, nilCheckA, ANext.ofP, evals, evalPs, evalO, aresults, aresults1, aresult, aend, Option.map_some, Option.bind_some, if_true, if_false, ↓reduceIte, Nat.reduceLT, Nat.reduceEqDiff, reduceCtorEq, Bool.false_eq_true, false_and, and_false, and_true, true_and, Nat.reduceAdd, Nat.reduceLeDiff, callA, List.getElem?_toArray, List.getElem?_cons_succ, List.getElem?_cons_zero, sb1, sb2, sb3, sb4, sliceU_i, sliceU_s, sliceU_p, sliceU_l, evalV, ayielded_eq, slotOf_eq, dstOf, yieldB, xo_move, xo_assign, xo_pick, xo_alloc, xo_box, xo_build, xo_bslice, xo_load, xo_store, xo_nn, xo_bin, xo_un, xo_conv, xo_mki, xo_mkf, xo_mks, xo_slice, xo_fa, xo_fv, xo_ia, xo_ix, xo_ext, xo_call, xo_panic, extractA, b_lss, b_leq, b_gtr, b_geq, b_eql, b_neq, b_add, b_sub, b_mul, b_and, b_or, b_xor, b_shl, b_shr, b_quo, b_rem, u_not, u_neg, wr_i64, wr_u64, wr_u32, wr_u8, wr_i32, wr_u16, wr_i16, wr_i8, dec_t, dec_f, ieq_t, ieq_f, ine_t, ine_f, blkOf_cells, heap_set_same, heap_set_ne, heap_new_same, heap_new_ne, ASt.set_ctr, ASt.new_ctr, set_set', ic_lit, ic_agg, ic_ptr, ic_iptr, ic_slice, ic_islice, ic_func, ic_iface, boxA, newA, List.all_cons, List.all_nil, Bool.and_self, Bool.and_true, Bool.true_and, cs_lit, cs_agg, cs_ptr, cs_iptr, cs_slice, cs_islice, cs_func, cs_iface, fillA, putL, setsE, eo_lit, eo_agg, eo_ptr, eo_iptr, eo_slice, eo_islice, eo_func, eo_iface, eo_byte, List.set_cons_zero, List.set_cons_succ, List.length_cons, List.length_nil, Nat.reduceBEq, Nat.reduceBNe, beq_self_eq_true, Bool.not_true, Bool.not_false, Nat.zero_add, Nat.reduceMul, List.map_nil, List.drop_succ_cons, List.drop_zero, List.take_succ_cons, List.take_zero, List.nil_append, List.cons_append, Int.toNat_natCast, sl_set, sl_get, sl_len, upd_app, valOf_lit, ite_t, ite_f, h10, h11, h12] <;> rfl) ?_
  rw [hA] at c2
  refine aw_run 0 (by simp (maxSteps := 5000000) (disch := first | assumption | omega | (simp only [ASt.set_ctr, ASt.new_ctr] <;> omega)) only [S24_0_e.down, S24_1_e.down, S24_2_e.down, ex24_14, rq24_14_e.down, S24_3_e.down, S24_4_e.down, o_al_50, o_leni_45, o_lens_45, o_lenn_45, o_ixi_45, o_ixs_45, o_ldp_31, o_ldi_31, o_al_31, o_st_31, o_fap_31_0, o_fai_31_0, o_ldp_3, o_ldi_3, cf_30, o_bd_50, o_st_50, o_ixi_48, o_ixs_48, o_st_3, o_fap_50_2, o_fai_50_2, o_ldp_48, o_ldi_48, hint_24_52, o_bs_48_1, hint_24_53, bi_app, o_st_48, hint_24_57, hint_24_58, o_ldp_50, o_ldi_50, AVal.undef, sbn1, sbn2, aexec, aops, aop, Region.wanted, aeval, aput, aseq, ablock, ahint, absOf, flat, nilCheckA, ANext.ofP, evals, evalPs, evalO, aresults, aresults1, aresult, aend, Option.map_some, Option.bind_some, if_true, if_false, ↓reduceIte, Nat.reduceLT, Nat.reduceEqDiff, reduceCtorEq, Bool.false_eq_true, false_and, and_false, and_true, true_and, Nat.reduceAdd, Nat.reduceLeDiff, callA, List.getElem?_toArray, List.getElem?_cons_succ, List.getElem?_cons_zero, sb1, sb2, sb3, sb4, sliceU_i, sliceU_s, sliceU_p, sliceU_l, evalV, ayielded_eq, slotOf_eq, dstOf, yieldB, xo_move, xo_assign, xo_pick, xo_alloc, xo_box, xo_build, xo_bslice, xo_load, xo_store, xo_nn, xo_bin, xo_un, xo_conv, xo_mki, xo_mkf, xo_mks, xo_slice, xo_fa, xo_fv, xo_ia, xo_ix, xo_ext, xo_call, xo_panic, extractA, b_lss, b_leq, b_gtr, b_geq, b_eql, b_neq, b_add, b_sub, b_mul, b_and, b_or, b_xor, b_shl, b_shr, b_quo, b_rem, u_not, u_neg, wr_i64, wr_u64, wr_u32, wr_u8, wr_i32, wr_u16, wr_i16, wr_i8, dec_t, dec_f, ieq_t, ieq_f, ine_t, ine_f, blkOf_cells, heap_set_same, heap_set_ne, heap_new_same, heap_new_ne, ASt.set_ctr, ASt.new_ctr, set_set', ic_lit, ic_agg, ic_ptr, ic_iptr, ic_slice, ic_islice, ic_func, ic_iface, boxA, newA, List.all_cons, List.all_nil, Bool.and_self, Bool.and_true, Bool.true_and, cs_lit, cs_agg, cs_ptr, cs_iptr, cs_slice, cs_islice, cs_func, cs_iface, fillA, putL, setsE, eo_lit, eo_agg, eo_ptr, eo_iptr, eo_slice, eo_islice, eo_func, eo_iface, eo_byte, List.set_cons_zero, List.set_cons_succ, List.length_cons, List.length_nil, Nat.reduceBEq, Nat.reduceBNe, beq_self_eq_true, Bool.not_true, Bool.not_false, Nat.zero_add, Nat.reduceMul, List.map_nil, List.drop_succ_cons, List.drop_zero, List.take_succ_cons, List.take_zero, List.nil_append, List.cons_append, Int.toNat_natCast, sl_set, sl_get, sl_len, upd_app, valOf_lit, ite_t, ite_f, h0, h2, h3, c1, xc1, xc2, vc1, vc2, c2, L] <;> rfl) ?_
  have hz : List.replicate T (0 : Int) = rowN T (fun t => cn 0 (fun k => tI es k = t)) := by
    unfold rowN
    rw [show (fun t : Nat => (((fun t => cn 0 (fun k => tI es k = t)) t : Nat) : Int)) = fun _ => (0 : Int) from rfl, List.map_const', List.length_range]
  rw [hz] at hM
  have hBh : sB.heap s1.ctr = some (.cells [x, vc, .lit (.slice none 0 0)]) := by rw [hgB.2 _ hAc]; exact hAh
  have hst1 : st.ctr < s1.ctr := Nat.lt_of_lt_of_le hB0c (Nat.le_trans hG.1 g1.1)
  have hGB : Gr B0 sB := hG.trans (g1.trans (hAg.trans hgB))
  have hnl : (ntR es).length = es.length := by simp [ntR]
  refine aw_forS (fun k f st' => ∃ (j : Nat) (vn : AVal), k = es.length - j ∧ j ≤ es.length ∧ f 2 = .ptr st.ctr 0 ∧ f 6 = .ptr s1.ctr 0 ∧ f 7 = many ∧ f 29 = x ∧ f 30 = .lit (.int .i64 (es.length : Int)) ∧ f 31 = .lit (.int .i64 (j : Int)) ∧
      st'.heap s1.ctr = some (.cells [x, vc, vn]) ∧ AI 1 sB st' vn (((ntR es).take j).map intN) ∧ MR A st' many (rowN T (fun t => cn j (fun k => tI es k = t))) A.ctr ∧ sB.ctr ≤ st'.ctr ∧ ∀ k, k < sB.ctr → k ≠ s1.ctr → k ≠ A.ctr → st'.heap k = sB.heap k)
    (fun k f st' hI => L24_1_wp ?_) es.length _ _ ⟨0, .lit (.slice none 0 0), rfl, Nat.zero_le _, h2, rfl, rfl, rfl, rfl, rfl, hBh, .inl ⟨rfl, rfl⟩, hM, Nat.le_refl _, fun k _ _ _ => rfl⟩
  clear h0 h2 h3 h10 h11 h12 c1 c2 hM hBh hz
  rename_i f0 _
  obtain ⟨j, vn, rfl, hjl, h2, h6, h7, h29, h30, h31, hcell, hAI, hM, hctr, hkeep⟩ := hI
  have hGst : Gr st st' := ⟨by have := hst1; have := hBc; omega, fun k hk => by rw [hkeep k (by omega) (by omega) (by omega), hGB.2 k (by omega), hB0g.2 k hk]⟩
  by_cases hj : j < es.length
  · obtain ⟨p, p0, w, e1, _, hwx, hw, e2⟩ := es_at hx hj
    have e3 := (e2 st' hGst).1
    obtain ⟨i1, i2⟩ := ms_cell hw
    have htj : tI es j = es[j].th := by unfold tI; rw [getD_at hj]
    have htT := hthT j hj
    have hnt : nt es.length (tI es) j = cn j (fun k => tI es k = tI es j) + 1 := nt_at hj
    have hc24 : cn j (fun k => tI es k = tI es j) ≤ 24 := Nat.le_trans (cn_le _ _) (by omega)
    have hrow : (rowN T (fun t => cn j (fun k => tI es k = t))).set (tI es j) ((cn j (fun k => tI es k = tI es j) + 1 : Nat) : Int) = rowN T (fun t => cn (j + 1) (fun k => tI es k = t)) := by
      rw [rowN_set]
      refine rowN_congr fun k _ => ?_
      rw [cn_succ]
      by_cases e : k = tI es j
      · subst e
        rw [if_pos rfl, if_pos rfl]
      · rw [if_neg e, if_neg (fun h => e h.symm)]; rfl
    have htk : (ntR es).take (j + 1) = (ntR es).take j ++ [((cn j (fun k => tI es k = tI es j) + 1 : Nat) : Int)] := by
      rw [List.take_add_one, List.getElem?_eq_getElem (by rw [hnl]; exact hj)]
      simp [ntR, hnt]
    rw [htj] at htT hrow htk hnt hc24
    generalize es[j].th = th at *
    obtain ⟨s2, hs2⟩ : ∃ s2, s2 = (st'.new (.cells [.lit (.int .i64 0), .lit (.slice none 0 0)])).set st'.ctr (some (.cells [.lit (.int .i64 (th : Int)), w])) := ⟨_, rfl⟩
    have g2 : Gr st' s2 := by
      rw [hs2]
      refine ⟨by simp [ASt.new, ASt.set], fun j hj => ?_⟩
      rw [ASt.set_ne _ _ _ _ (by omega), ASt.new_ne _ _ _ (by omega)]
    have hs2h : s2.heap st'.ctr = some (.cells [.lit (.int .i64 (th : Int)), w]) := by rw [hs2]; exact ASt.set_same _ _ _
    have hs2c : st'.ctr < s2.ctr := by rw [hs2]; simp [ASt.new, ASt.set]
    have hM2 := hM.gr g2
    obtain ⟨x1, x2, x3⟩ := mr_idx hM2 (i := th) (by rw [rowN_len]; exact htT)
    rw [rowN_get] at x2
    have x4 := x3 ((cn j (fun k => tI es k = th) + 1 : Nat) : Int)
    rw [hrow] at x4
    have hM3 := hM2.put (l' := rowN T (fun t => cn (j + 1) (fun k => tI es k = t))) (by rw [rowN_len, rowN_len])
    obtain ⟨_, y2, _⟩ := mr_idx hM3 (i := th) (by rw [rowN_len]; exact htT)
    have hcn1 : cn (j + 1) (fun k => tI es k = th) = cn j (fun k => tI es k = th) + 1 := by rw [cn_succ, if_pos htj]
    rw [rowN_get, hcn1] at y2
    obtain ⟨s3, hs3⟩ : ∃ s3, s3 = putI s2 A.ctr (rowN T (fun t => cn (j + 1) (fun k => tI es k = t))) := ⟨_, rfl⟩
    have k3 : ∀ k, k ≠ A.ctr → s3.heap k = s2.heap k := fun k hk => by rw [hs3]; exact ASt.set_ne _ _ _ _ hk
    have hs3c : s3.ctr = s2.ctr := by rw [hs3]; rfl
    have hAI3 : AI 1 sB s3 vn (((ntR es).take j).map intN) := hAI.at (by rw [hs3c]; exact g2.1) fun k h1 h2 => by rw [k3 k (by omega), g2.2 k h2]
    have hx3 : srcA E.P 3 48 false 1 s3 (.islice 1 ([((cn j (fun k => tI es k = th) + 1 : Nat) : Int)].map intN) .exact) = some ([((cn j (fun k => tI es k = th) + 1 : Nat) : Int)].map intN) := src_islice intT (ints_ok _)
    obtain ⟨vn', s4, c4, hAI4, hp4, hc4, hk4⟩ := ai_app' intT hAI3 (by rw [hs3c]; exact Nat.le_trans hctr g2.1) (ints_ok _) hx3 (by simp) (by simp; omega)
    rw [← List.map_append, ← htk] at hAI4
    have hcell3 : s3.heap s1.ctr = some (.cells [x, vc, vn]) := by rw [k3 _ (by omega), g2.2 _ (by omega)]; exact hcell
    have hcell3' : s3.heap st'.ctr = some (.cells [.lit (.int .i64 (th : Int)), w]) := by rw [k3 _ (by omega)]; exact hs2h
    have hcell4 : s4.heap s1.ctr = some (.cells [x, vc, vn]) := by rw [hk4 _ (by omega)]; exact hcell3
    have hvn' : vn'.isCell = true ∧ vn'.cells = [vn'] := ir_cell (hAI4.ir s4)
    obtain ⟨n1, n2⟩ := hvn'
    rw [← hs3] at x4 hM3 y2
    rw [hs2] at x2 x4
    simp only [List.map_cons, List.map_nil, intN] at c4
    have hM5 : MR A (s4.set s1.ctr (some (.cells [x, vc, vn']))) many (rowN T (fun t => cn (j + 1) (fun k => tI es k = t))) A.ctr := by
      obtain ⟨q1, q2, q3, q4⟩ := hM3
      exact ⟨q1, q2, Nat.lt_of_lt_of_le q3 hc4, by rw [ASt.set_ne _ _ _ _ (by omega), hk4 _ (by omega)]; exact q4⟩
    have hAI5 : AI 1 sB (s4.set s1.ctr (some (.cells [x, vc, vn']))) vn' (((ntR es).take (j + 1)).map intN) := hAI4.at (Nat.le_refl _) fun k h1 h2 => ASt.set_ne _ _ _ _ (by omega)
    have hkeep5 : ∀ k, k < sB.ctr → k ≠ s1.ctr → k ≠ A.ctr → (s4.set s1.ctr (some (.cells [x, vc, vn']))).heap k = sB.heap k := fun k h1 h2 h3 => by
      rw [ASt.set_ne _ _ _ _ h2, hk4 k h1, k3 k h3, g2.2 k (by omega)]; exact hkeep k h1 h2 h3
    have hcc : sB.ctr ≤ (s4.set s1.ctr (some (.cells [x, vc, vn']))).ctr := by show sB.ctr ≤ s4.ctr; have := g2.1; omega
    have hcell5 : (s4.set s1.ctr (some (.cells [x, vc, vn']))).heap s1.ctr = some (.cells [x, vc, vn']) := ASt.set_same _ _ _
    generalize hm : cn j (fun k => tI es k = th) = m at *
    have hm1 : (m : Int) + 1 = ((m + 1 : Nat) : Int) := by omega
    have ha : (j : Int) + 1 = ((j + 1 : Nat) : Int) := by omega
    clear hm hcn1 hnt hrow htk hthT hRR hfar hkeep hAI hM hM2 hM3 hAI3 hx3 hp4 hk4 hAI4 hs2 hs3 k3 e2 hwx x3
    refine aw_run 0 (by simp (maxSteps := 5000000) (disch := first | assumption | omega | (simp only [ASt.set_ctr, ASt.new_ctr] <;> omega)) only [S24_0_e.down, S24_1_e.down, S24_2_e.down, ex24_14, rq24_14_e.down, S24_3_e.down, S24_4_e.down, o_al_50, o_leni_45, o_lens_45, o_lenn_45, o_ixi_45, o_ixs_45, o_ldp_31, o_ldi_31, o_al_31, o_st_31, o_fap_31_0, o_fai_31_0, o_ldp_3, o_ldi_3, cf_30, o_bd_50, o_st_50, o_ixi_48, o_ixs_48, o_st_3, o_fap_50_2, o_fai_50_2, o_ldp_48, o_ldi_48, hint_24_52, o_bs_48_1, hint_24_53, bi_app, o_st_48, hint_24_57, hint_24_58, o_ldp_50, o_ldi_50, AVal.undef, sbn1, sbn2, aexec, aops, aop, Region.wanted, aeval, aput, aseq, ablock, ahint, absOf, flat, nilCheckA, ANext.ofP, evals, evalPs, evalO, aresults, aresults1, aresult, aend, Option.map_some, Option.bind_some, if_true, if_false, ↓reduceIte, Nat.reduceLT, Nat.reduceEqDiff, reduceCtorEq, Bool.false_eq_true, false_and, and_false, and_true, true_and, Nat.reduceAdd, Nat.reduceLeDiff, callA, List.getElem?_toArray, List.getElem?_cons_succ, List.getElem?_cons_zero, sb1, sb2, sb3, sb4, sliceU_i, sliceU_s, sliceU_p, sliceU_l, evalV, ayielded_eq, slotOf_eq, dstOf, yieldB, xo_move, xo_assign, xo_pick, xo_alloc, xo_box, xo_build, xo_bslice, xo_load, xo_store, xo_nn, xo_bin, xo_un, xo_conv, xo_mki, xo_mkf, xo_mks, xo_slice, xo_fa, xo_fv, xo_ia, xo_ix, xo_ext, xo_call, xo_panic, extractA, b_lss, b_leq, b_gtr, b_geq, b_eql, b_neq, b_add, b_sub, b_mul, b_and, b_or, b_xor, b_shl, b_shr, b_quo, b_rem, u_not, u_neg, wr_i64, wr_u64, wr_u32, wr_u8, wr_i32, wr_u16, wr_i16, wr_i8, dec_t, dec_f, ieq_t, ieq_f, ine_t, ine_f, blkOf_cells, heap_set_same, heap_set_ne, heap_new_same, heap_new_ne, ASt.set_ctr, ASt.new_ctr, set_set', ic_lit, ic_agg, ic_ptr, ic_iptr, ic_slice, ic_islice, ic_func, ic_iface, boxA, newA, List.all_cons, List.all_nil, Bool.and_self, Bool.and_true, Bool.true_and, cs_lit, cs_agg, cs_ptr, cs_iptr, cs_slice, cs_islice, cs_func, cs_iface, fillA, putL, setsE, eo_lit, eo_agg, eo_ptr, eo_iptr, eo_slice, eo_islice, eo_func, eo_iface, eo_byte, List.set_cons_zero, List.set_cons_succ, List.length_cons, List.length_nil, Nat.reduceBEq, Nat.reduceBNe, beq_self_eq_true, Bool.not_true, Bool.not_false, Nat.zero_add, Nat.reduceMul, List.map_nil, List.drop_succ_cons, List.drop_zero, List.take_succ_cons, List.take_zero, List.nil_append, List.cons_append, Int.toNat_natCast, sl_set, sl_get, sl_len, upd_app, valOf_lit, ite_t, ite_f, h2, h6, h7, h29, h30, h31, e1, e3, i1, i2, x1, x2, hm1, x4, hcell3, hcell3', y2, c4, hcell4, n1, n2, ha] <;> rfl) ?_
    exact ⟨_, rfl, es.length - (j + 1), by omega, j + 1, vn', rfl, by omega, h2, h6, h7, h29, h30, rfl, hcell5, hAI5, hM5, hcc, hkeep5⟩
  · obtain rfl : j = es.length := by omega
    rw [List.take_of_length_le (by rw [hnl]; exact Nat.le_refl _)] at hAI
    have hvn := hAI.ir st'
    obtain ⟨n1, n2⟩ := ir_cell hvn
    have h0c : st'.heap st.ctr = some (.cells [.lit (.slice none 0 0), .lit (.slice none 0 0), .lit (.slice none 0 0)]) := by rw [hkeep _ (by omega) (by omega) (by omega), hGB.2 _ hB0c]; exact hB0h
    refine aw_run 0 (by simp (maxSteps := 5000000) (disch := first | assumption | omega | (simp only [ASt.set_ctr, ASt.new_ctr] <;> omega)) only [S24_0_e.down, S24_1_e.down, S24_2_e.down, ex24_14, rq24_14_e.down, S24_3_e.down, S24_4_e.down, o_al_50, o_leni_45, o_lens_45, o_lenn_45, o_ixi_45, o_ixs_45, o_ldp_31, o_ldi_31, o_al_31, o_st_31, o_fap_31_0, o_fai_31_0, o_ldp_3, o_ldi_3, cf_30, o_bd_50, o_st_50, o_ixi_48, o_ixs_48, o_st_3, o_fap_50_2, o_fai_50_2, o_ldp_48, o_ldi_48, hint_24_52, o_bs_48_1, hint_24_53, bi_app, o_st_48, hint_24_57, hint_24_58, o_ldp_50, o_ldi_50, AVal.undef, sbn1, sbn2, aexec, aops, aop, Region.wanted, aeval, aput, aseq, ablock, ahint, absOf, flat, nilCheckA, ANext.ofP, evals, evalPs, evalO, aresults, aresults1, aresult, aend, Option.map_some, Option.bind_some, if_true, if_false, ↓reduceIte, Nat.reduceLT, Nat.reduceEqDiff, reduceCtorEq, Bool.false_eq_true, false_and, and_false, and_true, true_and, Nat.reduceAdd, Nat.reduceLeDiff, callA, List.getElem?_toArray, List.getElem?_cons_succ, List.getElem?_cons_zero, sb1, sb2, sb3, sb4, sliceU_i, sliceU_s, sliceU_p, sliceU_l, evalV, ayielded_eq, slotOf_eq, dstOf, yieldB, xo_move, xo_assign, xo_pick, xo_alloc, xo_box, xo_build, xo_bslice, xo_load, xo_store, xo_nn, xo_bin, xo_un, xo_conv, xo_mki, xo_mkf, xo_mks, xo_slice, xo_fa, xo_fv, xo_ia, xo_ix, xo_ext, xo_call, xo_panic, extractA, b_lss, b_leq, b_gtr, b_geq, b_eql, b_neq, b_add, b_sub, b_mul, b_and, b_or, b_xor, b_shl, b_shr, b_quo, b_rem, u_not, u_neg, wr_i64, wr_u64, wr_u32, wr_u8, wr_i32, wr_u16, wr_i16, wr_i8, dec_t, dec_f, ieq_t, ieq_f, ine_t, ine_f, blkOf_cells, heap_set_same, heap_set_ne, heap_new_same, heap_new_ne, ASt.set_ctr, ASt.new_ctr, set_set', ic_lit, ic_agg, ic_ptr, ic_iptr, ic_slice, ic_islice, ic_func, ic_iface, boxA, newA, List.all_cons, List.all_nil, Bool.and_self, Bool.and_true, Bool.true_and, cs_lit, cs_agg, cs_ptr, cs_iptr, cs_slice, cs_islice, cs_func, cs_iface, fillA, putL, setsE, eo_lit, eo_agg, eo_ptr, eo_iptr, eo_slice, eo_islice, eo_func, eo_iface, eo_byte, List.set_cons_zero, List.set_cons_succ, List.length_cons, List.length_nil, Nat.reduceBEq, Nat.reduceBNe, beq_self_eq_true, Bool.not_true, Bool.not_false, Nat.zero_add, Nat.reduceMul, List.map_nil, List.drop_succ_cons, List.drop_zero, List.take_succ_cons, List.take_zero, List.nil_append, List.cons_append, Int.toNat_natCast, sl_set, sl_get, sl_len, upd_app, valOf_lit, ite_t, ite_f, h29, h30, h31] <;> rfl) ?_
    refine aw_run 0 (by simp (maxSteps := 5000000) (disch := first | assumption | omega | (simp only [ASt.set_ctr, ASt.new_ctr] <;> omega)) only [S24_0_e.down, S24_1_e.down, S24_2_e.down, ex24_14, rq24_14_e.down, S24_3_e.down, S24_4_e.down, o_al_50, o_leni_45, o_lens_45, o_lenn_45, o_ixi_45, o_ixs_45, o_ldp_31, o_ldi_31, o_al_31, o_st_31, o_fap_31_0, o_fai_31_0, o_ldp_3, o_ldi_3, cf_30, o_bd_50, o_st_50, o_ixi_48, o_ixs_48, o_st_3, o_fap_50_2, o_fai_50_2, o_ldp_48, o_ldi_48, hint_24_52, o_bs_48_1, hint_24_53, bi_app, o_st_48, hint_24_57, hint_24_58, o_ldp_50, o_ldi_50, AVal.undef, sbn1, sbn2, aexec, aops, aop, Region.wanted, aeval, aput, aseq, ablock, ahint, absOf, flat, nilCheckA, ANext.ofP, evals, evalPs, evalO, aresults, aresults1, aresult, aend, Option.map_some, Option.bind_some, if_true, if_false, ↓reduceIte, Nat.reduceLT, Nat.reduceEqDiff, reduceCtorEq, Bool.false_eq_true, false_and, and_false, and_true, true_and, Nat.reduceAdd, Nat.reduceLeDiff, callA, List.getElem?_toArray, List.getElem?_cons_succ, List.getElem?_cons_zero, sb1, sb2, sb3, sb4, sliceU_i, sliceU_s, sliceU_p, sliceU_l, evalV, ayielded_eq, slotOf_eq, dstOf, yieldB, xo_move, xo_assign, xo_pick, xo_alloc, xo_box, xo_build, xo_bslice, xo_load, xo_store, xo_nn, xo_bin, xo_un, xo_conv, xo_mki, xo_mkf, xo_mks, xo_slice, xo_fa, xo_fv, xo_ia, xo_ix, xo_ext, xo_call, xo_panic, extractA, b_lss, b_leq, b_gtr, b_geq, b_eql, b_neq, b_add, b_sub, b_mul, b_and, b_or, b_xor, b_shl, b_shr, b_quo, b_rem, u_not, u_neg, wr_i64, wr_u64, wr_u32, wr_u8, wr_i32, wr_u16, wr_i16, wr_i8, dec_t, dec_f, ieq_t, ieq_f, ine_t, ine_f, blkOf_cells, heap_set_same, heap_set_ne, heap_new_same, heap_new_ne, ASt.set_ctr, ASt.new_ctr, set_set', ic_lit, ic_agg, ic_ptr, ic_iptr, ic_slice, ic_islice, ic_func, ic_iface, boxA, newA, List.all_cons, List.all_nil, Bool.and_self, Bool.and_true, Bool.true_and, cs_lit, cs_agg, cs_ptr, cs_iptr, cs_slice, cs_islice, cs_func, cs_iface, fillA, putL, setsE, eo_lit, eo_agg, eo_ptr, eo_iptr, eo_slice, eo_islice, eo_func, eo_iface, eo_byte, List.set_cons_zero, List.set_cons_succ, List.length_cons, List.length_nil, Nat.reduceBEq, Nat.reduceBNe, beq_self_eq_true, Bool.not_true, Bool.not_false, Nat.zero_add, Nat.reduceMul, List.map_nil, List.drop_succ_cons, List.drop_zero, List.take_succ_cons, List.take_zero, List.nil_append, List.cons_append, Int.toNat_natCast, sl_set, sl_get, sl_len, upd_app, valOf_lit, ite_t, ite_f, h2, h6, hcell, h0c, xc1, xc2, vc1, vc2, n1, n2] <;> rfl) ?_
    refine ⟨_, _, by simp only [AVal.undef, sbn1, sbn2, aexec, aops, aop, Region.wanted, aeval, aput, aseq, ablock, ahint, absOf, flat, nilCheckA, ANext.ofP, evals, evalPs, evalO, aresults, aresults1, aresult, aend, Option.map_some, Option.bind_some, if_true, if_false, ↓reduceIte, Nat.reduceLT, Nat.reduceEqDiff, reduceCtorEq, Bool.false_eq_true, false_and, and_false, and_true, true_and, Nat.reduceAdd, Nat.reduceLeDiff, callA, List.getElem?_toArray, List.getElem?_cons_succ, List.getElem?_cons_zero, sb1, sb2, sb3, sb4, sliceU_i, sliceU_s, sliceU_p, sliceU_l, evalV, ayielded_eq, slotOf_eq, dstOf, yieldB, xo_move, xo_assign, xo_pick, xo_alloc, xo_box, xo_build, xo_bslice, xo_load, xo_store, xo_nn, xo_bin, xo_un, xo_conv, xo_mki, xo_mkf, xo_mks, xo_slice, xo_fa, xo_fv, xo_ia, xo_ix, xo_ext, xo_call, xo_panic, extractA, b_lss, b_leq, b_gtr, b_geq, b_eql, b_neq, b_add, b_sub, b_mul, b_and, b_or, b_xor, b_shl, b_shr, b_quo, b_rem, u_not, u_neg, wr_i64, wr_u64, wr_u32, wr_u8, wr_i32, wr_u16, wr_i16, wr_i8, dec_t, dec_f, ieq_t, ieq_f, ine_t, ine_f, blkOf_cells, heap_set_same, heap_set_ne, heap_new_same, heap_new_ne, ASt.set_ctr, ASt.new_ctr, set_set', ic_lit, ic_agg, ic_ptr, ic_iptr, ic_slice, ic_islice, ic_func, ic_iface, boxA, newA, List.all_cons, List.all_nil, Bool.and_self, Bool.and_true, Bool.true_and, cs_lit, cs_agg, cs_ptr, cs_iptr, cs_slice, cs_islice, cs_func, cs_iface, fillA, putL, setsE, eo_lit, eo_agg, eo_ptr, eo_iptr, eo_slice, eo_islice, eo_func, eo_iface, eo_byte, List.set_cons_zero, List.set_cons_succ, List.length_cons, List.length_nil, Nat.reduceBEq, Nat.reduceBNe, beq_self_eq_true, Bool.not_true, Bool.not_false, Nat.zero_add, Nat.reduceMul, List.map_nil, List.drop_succ_cons, List.drop_zero, List.take_succ_cons, List.take_zero, List.nil_append, List.cons_append, Int.toNat_natCast, sl_set, sl_get, sl_len, upd_app, valOf_lit, ite_t, ite_f, Try.f24, h2, o_ldp_50, xc1, xc2, vc1, vc2, n1, n2] <;> rfl, vc, vn, rfl, ?_, ?_⟩
    · have hGF : Gr st (st'.set st.ctr (some (.cells [x, vc, vn]))) := ⟨hGst.1, fun k hk => by rw [ASt.set_ne _ _ _ _ (by omega)]; exact hGst.2 k hk⟩
      refine ⟨x, vc, vn, T, rfl, hx.gr hGF, rr_far hRR hvc hfar (by show s1.ctr ≤ st'.ctr; omega) (fun k h1 h2 => ?_), hAI.ir _, hthT⟩
      rw [ASt.set_ne _ _ _ _ (by have := hG.1; omega), hkeep k (by omega) (by omega) (by omega), hgB.2 k (by omega), hAg.2 k h2]
    · exact ⟨hGst.1, fun k hk => by rw [ASt.set_ne _ _ _ _ (by omega)]; exact hGst.2 k hk⟩
end Go.Proofs.YtcaokdlmolnbaaaV
