/- Rows that grow and are never written again; touches as a law gets them; Marks, touches, Clone walked. No condition. -/
import Derived.Test.YtcaokdlmolnbaaaJ21
namespace Go.Proofs.YtcaokdlmolnbaaaV
open Go Go.RowKit Go.Proofs.YtcaokdlmolnbaaaA
set_option linter.unusedVariables false
set_option linter.unusedSimpArgs false
set_option maxRecDepth 100000

/-- elements so far, in a row that nothing else has, laid later than base -/
def AI (sz : Nat) (base st : ASt) (v : AVal) (es : List AVal) : Prop := (v = .nilSlice ∧ es = []) ∨ ∃ k, v = .islice sz es (.tok k) ∧ base.ctr ≤ k ∧ k < st.ctr ∧ st.heap k = some (.cells [])
theorem AI.gr {sz : Nat} {base st st' : ASt} {v : AVal} {es : List AVal} (h : AI sz base st v es) (hg : Gr st st') : AI sz base st' v es := by
  rcases h with h | ⟨k, e, h0, h1, h2⟩
  · exact .inl h
  · exact .inr ⟨k, e, h0, Nat.lt_of_lt_of_le h1 hg.1, by rw [hg.2 k h1]; exact h2⟩
theorem ai_app {t e : TypeId} {agg : Bool} {sz : Nat} {base st : ASt} {v x : AVal} {es ns : List AVal} (hT : SlT E.P t e agg sz) (h : AI sz base st v es) (hb : Gr base st) (he : es.all (elemOk agg sz) = true) (hx : srcA E.P e t agg sz st x = some ns) (hne : ns ≠ []) (hl : es.length + ns.length ≤ 1000000) :
    ∃ v' st', appendA E.P false t t v x st = some (v', st') ∧ AI sz base st' v' (es ++ ns) ∧ Gr base st' := by
  rcases h with ⟨rfl, rfl⟩ | ⟨k, rfl, h0, h1, h2⟩
  · refine ⟨_, _, app_nil hT hx hne (by simp at hl; omega), .inr ⟨st.ctr, rfl, hb.1, by simp [ASt.new], ASt.new_same _ _⟩, hb.trans (Gr.new _ _)⟩
  · refine ⟨_, _, app_tok hT he hx hne (by omega) h2, .inr ⟨st.ctr, rfl, hb.1, by simp [ASt.new, ASt.set], ?_⟩, ⟨?_, fun j hj => ?_⟩⟩
    · simp [ASt.new, ASt.set]
    · have := hb.1; simp [ASt.new, ASt.set]; omega
    · have h4 := hb.1
      rw [ASt.new_ne _ _ _ (by simp [ASt.set]; omega), ASt.set_ne _ _ _ _ (by omega), hb.2 j hj]
theorem AI.ms {base st : ASt} {v : AVal} {l : List Mk} (h : AI 2 base st v (l.map Mk.a)) (st' : ASt) : MS st' v l := by
  rcases h with ⟨rfl, h⟩ | ⟨k, rfl, _⟩
  · exact .inl ⟨none, rfl, List.map_eq_nil_iff.1 h⟩
  · exact .inr (.inl ⟨_, rfl⟩)

/-! ### touches -/
def Mk.ts (m : Mk) : List AVal := [.lit (.int .i8 m.ob), .lit (.bool m.wr)]
def Mk.t (m : Mk) : AVal := .agg m.ts
/-- touches, as a law gets them, or as Clone made them -/
def TS (v : AVal) (l : List Mk) : Prop := (∃ a, v = .lit (.slice a 0 0) ∧ l = []) ∨ ∃ c, v = .islice 2 (l.map Mk.t) c
/-- small objects -/
def Sb (l : List Mk) : Prop := ∀ m ∈ l, -128 ≤ m.ob ∧ m.ob ≤ 127
theorem Sb.app {a b : List Mk} (h : Sb a) (k : Sb b) : Sb (a ++ b) := fun m hm => (List.mem_append.1 hm).elim (h m) (k m)
theorem ts_len {v : AVal} {l : List Mk} (h : TS v l) (mt : Bool) (ty : TypeId) (cs : Array Bool) (st2 : ASt) : builtinA E.P mt .len #[22] ty cs [v] st2 = some (.val (.lit (.int .i64 (l.length : Int))) st2) := by
  rcases h with ⟨a, rfl, rfl⟩ | ⟨c, rfl⟩
  · exact len_nil rfl _ _ _ _ _
  · have e : builtinA E.P mt .len #[22] ty cs [.islice 2 (l.map Mk.t) c] st2 = some (.val (.lit (.int .i64 ((l.map Mk.t).length : Int))) st2) := rfl
    rw [e, List.length_map]
theorem ts_at {v : AVal} {l : List Mk} (h : TS v l) {i : Nat} (hi : i < l.length) : ∃ p, indexA E.P 22 v (.lit (.int .i64 (i : Int))) = some p ∧ ∀ st', loadA E.P 26 st' p = some l[i].t := by
  rcases h with ⟨a, rfl, rfl⟩ | ⟨c, rfl⟩
  · simp at hi
  · have e : indexA E.P 22 (.islice 2 (l.map Mk.t) c) (.lit (.int .i64 (i : Int))) = if 0 ≤ (i : Int) ∧ (i : Int) < ((l.map Mk.t).length : Int) ∧ some 2 = some 2 then (((l.map Mk.t)[(i : Int).toNat]?).map .iptr) else none := rfl
    exact ⟨_, by rw [e, if_pos ⟨by omega, by rw [List.length_map]; omega, rfl⟩, Int.toNat_natCast, List.getElem?_map, List.getElem?_eq_getElem hi]; rfl, fun st' => rfl⟩
theorem touchT : SlT E.P 22 26 true 2 := ⟨rfl, rfl, ⟨_, _, rfl, rfl, by decide, rfl, rfl⟩, by decide⟩
theorem touches_ok (l : List Mk) : (l.map Mk.t).all (elemOk true 2) = true := by
  rw [List.all_eq_true]
  intro x hx
  obtain ⟨n, _, rfl⟩ := List.mem_map.1 hx
  rfl
theorem src_ts {v : AVal} {l : List Mk} (h : TS v l) (st : ASt) : srcA E.P 26 22 true 2 st v = some (l.map Mk.t) := by
  rcases h with ⟨a, rfl, rfl⟩ | ⟨c, rfl⟩
  · rfl
  · exact src_islice touchT (touches_ok l)

set_option maxHeartbeats 1000000 in
theorem marks_rw {v : AVal} {l : List Mk} {st : ASt} (hv : TS v l) (hb : Sb l) (hl : l.length ≤ 1000) :
    ∃ r st', rw E 15 [v] st = some (r, st') ∧ ∃ v', r = .returned v' ∧ AI 2 st st' v' (l.map Mk.a) ∧ Gr st st' := by
  have L := ts_len hv
  refine cx_15 fun g t0 => C15_wp ?_
  refine aw_run 0 (by simp (maxSteps := 5000000) (disch := first | assumption | omega | (simp only [ASt.set_ctr, ASt.new_ctr] <;> omega)) only [S15_0_e.down, S15_1_e.down, S15_2_e.down, o_leni_22, o_lens_22, o_lenn_22, o_ixi_22, o_ixs_22, o_ldp_26, o_ldi_26, o_al_26, o_st_26, o_fap_26_0, o_fai_26_0, o_ldp_24, o_ldi_24, o_cv_24_3, o_fap_26_1, o_fai_26_1, o_ldp_4, o_ldi_4, o_bd_40, hint_15_19, o_bs_29_1, hint_15_20, bi_app, AVal.undef, sbn1, sbn2, aexec, aops, aop, Region.wanted, aeval, aput, aseq, ablock, ahint, absOf, flat, nilCheckA, ANext.ofP, evals, evalPs, evalO, aresults, aresults1, aresult, aend, Option.map_some, Option.bind_some, if_true, if_false, ↓reduceIte, Nat.reduceLT, Nat.reduceEqDiff, reduceCtorEq, Bool.false_eq_true, false_and, and_false, and_true, true_and, Nat.reduceAdd, Nat.reduceLeDiff, callA, List.getElem?_toArray, List.getElem?_cons_succ, List.getElem?_cons_zero, sb1, sb2, sb3, sb4, sliceU_i, sliceU_s, sliceU_p, sliceU_l, evalV, ayielded_eq, slotOf_eq, dstOf, yieldB, xo_move, xo_assign, xo_pick, xo_alloc, xo_box, xo_build, xo_bslice, xo_load, xo_store, xo_nn, xo_bin, xo_un, xo_conv, xo_mki, xo_mkf, xo_mks, xo_slice, xo_fa, xo_fv, xo_ia, xo_ix, xo_ext, xo_call, xo_panic, extractA, b_lss, b_leq, b_gtr, b_geq, b_eql, b_neq, b_add, b_sub, b_mul, b_and, b_or, b_xor, b_shl, b_shr, b_quo, b_rem, u_not, u_neg, wr_i64, wr_u64, wr_u32, wr_u8, wr_i32, wr_u16, wr_i16, wr_i8, dec_t, dec_f, ieq_t, ieq_f, ine_t, ine_f, blkOf_cells, heap_set_same, heap_set_ne, heap_new_same, heap_new_ne, ASt.set_ctr, ASt.new_ctr, set_set', ic_lit, ic_agg, ic_ptr, ic_iptr, ic_slice, ic_islice, ic_func, ic_iface, boxA, newA, List.all_cons, List.all_nil, Bool.and_self, Bool.and_true, Bool.true_and, cs_lit, cs_agg, cs_ptr, cs_iptr, cs_slice, cs_islice, cs_func, cs_iface, fillA, putL, setsE, eo_lit, eo_agg, eo_ptr, eo_iptr, eo_slice, eo_islice, eo_func, eo_iface, eo_byte, List.set_cons_zero, List.set_cons_succ, List.length_cons, List.length_nil, Nat.reduceBEq, Nat.reduceBNe, beq_self_eq_true, Bool.not_true, Bool.not_false, Nat.zero_add, Nat.reduceMul, List.map_nil, List.drop_succ_cons, List.drop_zero, List.take_succ_cons, List.take_zero, List.nil_append, List.cons_append, Int.toNat_natCast, sl_set, sl_get, sl_len, upd_app, valOf_lit, ite_t, ite_f, t0, L] <;> rfl) ?_
  refine aw_forS (fun k f st' => ∃ (t : Nat), k = l.length - t ∧ t ≤ l.length ∧ f 6 = v ∧ f 7 = .lit (.int .i64 (l.length : Int)) ∧ f 8 = .lit (.int .i64 (t : Int)) ∧ AI 2 st st' (f 3) ((l.take t).map Mk.a) ∧ Gr st st')
    (fun k f st' hI => L15_0_wp ?_) l.length _ _ ⟨0, rfl, Nat.zero_le _, rfl, rfl, rfl, .inl ⟨rfl, rfl⟩, Gr.refl _⟩
  obtain ⟨t, rfl, htl, h6, h7, h8, hA, hG⟩ := hI
  generalize hvo : f 3 = vo at *
  by_cases ht : t < l.length
  · obtain ⟨p, e1, e2⟩ := ts_at hv ht
    have e3 := e2 st'
    have htk : l.take (t + 1) = l.take t ++ [l[t]] := by rw [List.take_add_one, List.getElem?_eq_getElem ht]; rfl
    have hm := hb l[t] (List.getElem_mem ht)
    generalize l[t] = m at *
    obtain ⟨hm1, hm2⟩ := hm
    have ha : (t : Int) + 1 = ((t + 1 : Nat) : Int) := by omega
    obtain ⟨s1, hs1⟩ : ∃ s1, s1 = (st'.new (.cells [.lit (.int .i8 0), .lit (.bool false)])).set st'.ctr (some (.cells [.lit (.int .i8 m.ob), .lit (.bool m.wr)])) := ⟨_, rfl⟩
    have g1 : Gr st' s1 := by
      rw [hs1]
      refine ⟨by simp [ASt.new, ASt.set], fun j hj => ?_⟩
      rw [ASt.set_ne _ _ _ _ (by omega), ASt.new_ne _ _ _ (by omega)]
    have hx : srcA E.P 40 29 true 2 s1 (.islice 2 ([m].map Mk.a) .exact) = some ([m].map Mk.a) := src_islice markT (marks_ok [m])
    obtain ⟨v3, s3, c3, hA3, hG3⟩ := ai_app markT (hA.gr g1) (hG.trans g1) (marks_ok _) hx (by simp) (by simp; omega)
    rw [hs1] at c3
    simp only [List.map_cons, List.map_nil, Mk.a, Mk.cs] at c3
    clear hs1 hx hG
    refine aw_run 0 (by simp (maxSteps := 5000000) (disch := first | assumption | omega | (simp only [ASt.set_ctr, ASt.new_ctr] <;> omega)) only [S15_0_e.down, S15_1_e.down, S15_2_e.down, o_leni_22, o_lens_22, o_lenn_22, o_ixi_22, o_ixs_22, o_ldp_26, o_ldi_26, o_al_26, o_st_26, o_fap_26_0, o_fai_26_0, o_ldp_24, o_ldi_24, o_cv_24_3, o_fap_26_1, o_fai_26_1, o_ldp_4, o_ldi_4, o_bd_40, hint_15_19, o_bs_29_1, hint_15_20, bi_app, AVal.undef, sbn1, sbn2, aexec, aops, aop, Region.wanted, aeval, aput, aseq, ablock, ahint, absOf, flat, nilCheckA, ANext.ofP, evals, evalPs, evalO, aresults, aresults1, aresult, aend, Option.map_some, Option.bind_some, if_true, if_false, ↓reduceIte, Nat.reduceLT, Nat.reduceEqDiff, reduceCtorEq, Bool.false_eq_true, false_and, and_false, and_true, true_and, Nat.reduceAdd, Nat.reduceLeDiff, callA, List.getElem?_toArray, List.getElem?_cons_succ, List.getElem?_cons_zero, sb1, sb2, sb3, sb4, sliceU_i, sliceU_s, sliceU_p, sliceU_l, evalV, ayielded_eq, slotOf_eq, dstOf, yieldB, xo_move, xo_assign, xo_pick, xo_alloc, xo_box, xo_build, xo_bslice, xo_load, xo_store, xo_nn, xo_bin, xo_un, xo_conv, xo_mki, xo_mkf, xo_mks, xo_slice, xo_fa, xo_fv, xo_ia, xo_ix, xo_ext, xo_call, xo_panic, extractA, b_lss, b_leq, b_gtr, b_geq, b_eql, b_neq, b_add, b_sub, b_mul, b_and, b_or, b_xor, b_shl, b_shr, b_quo, b_rem, u_not, u_neg, wr_i64, wr_u64, wr_u32, wr_u8, wr_i32, wr_u16, wr_i16, wr_i8, dec_t, dec_f, ieq_t, ieq_f, ine_t, ine_f, blkOf_cells, heap_set_same, heap_set_ne, heap_new_same, heap_new_ne, ASt.set_ctr, ASt.new_ctr, set_set', ic_lit, ic_agg, ic_ptr, ic_iptr, ic_slice, ic_islice, ic_func, ic_iface, boxA, newA, List.all_cons, List.all_nil, Bool.and_self, Bool.and_true, Bool.true_and, cs_lit, cs_agg, cs_ptr, cs_iptr, cs_slice, cs_islice, cs_func, cs_iface, fillA, putL, setsE, eo_lit, eo_agg, eo_ptr, eo_iptr, eo_slice, eo_islice, eo_func, eo_iface, eo_byte, List.set_cons_zero, List.set_cons_succ, List.length_cons, List.length_nil, Nat.reduceBEq, Nat.reduceBNe, beq_self_eq_true, Bool.not_true, Bool.not_false, Nat.zero_add, Nat.reduceMul, List.map_nil, List.drop_succ_cons, List.drop_zero, List.take_succ_cons, List.take_zero, List.nil_append, List.cons_append, Int.toNat_natCast, sl_set, sl_get, sl_len, upd_app, valOf_lit, ite_t, ite_f, hvo, h6, h7, h8, e1, e3, Mk.t, Mk.ts, c3, ha] <;> rfl) ?_
    exact ⟨_, rfl, l.length - (t + 1), by omega, t + 1, rfl, by omega, h6, h7, rfl, by rw [htk, List.map_append]; exact hA3, hG3⟩
  · obtain rfl : t = l.length := by omega
    rw [List.take_length] at hA
    refine aw_run 0 (by simp (maxSteps := 5000000) (disch := first | assumption | omega | (simp only [ASt.set_ctr, ASt.new_ctr] <;> omega)) only [S15_0_e.down, S15_1_e.down, S15_2_e.down, o_leni_22, o_lens_22, o_lenn_22, o_ixi_22, o_ixs_22, o_ldp_26, o_ldi_26, o_al_26, o_st_26, o_fap_26_0, o_fai_26_0, o_ldp_24, o_ldi_24, o_cv_24_3, o_fap_26_1, o_fai_26_1, o_ldp_4, o_ldi_4, o_bd_40, hint_15_19, o_bs_29_1, hint_15_20, bi_app, AVal.undef, sbn1, sbn2, aexec, aops, aop, Region.wanted, aeval, aput, aseq, ablock, ahint, absOf, flat, nilCheckA, ANext.ofP, evals, evalPs, evalO, aresults, aresults1, aresult, aend, Option.map_some, Option.bind_some, if_true, if_false, ↓reduceIte, Nat.reduceLT, Nat.reduceEqDiff, reduceCtorEq, Bool.false_eq_true, false_and, and_false, and_true, true_and, Nat.reduceAdd, Nat.reduceLeDiff, callA, List.getElem?_toArray, List.getElem?_cons_succ, List.getElem?_cons_zero, sb1, sb2, sb3, sb4, sliceU_i, sliceU_s, sliceU_p, sliceU_l, evalV, ayielded_eq, slotOf_eq, dstOf, yieldB, xo_move, xo_assign, xo_pick, xo_alloc, xo_box, xo_build, xo_bslice, xo_load, xo_store, xo_nn, xo_bin, xo_un, xo_conv, xo_mki, xo_mkf, xo_mks, xo_slice, xo_fa, xo_fv, xo_ia, xo_ix, xo_ext, xo_call, xo_panic, extractA, b_lss, b_leq, b_gtr, b_geq, b_eql, b_neq, b_add, b_sub, b_mul, b_and, b_or, b_xor, b_shl, b_shr, b_quo, b_rem, u_not, u_neg, wr_i64, wr_u64, wr_u32, wr_u8, wr_i32, wr_u16, wr_i16, wr_i8, dec_t, dec_f, ieq_t, ieq_f, ine_t, ine_f, blkOf_cells, heap_set_same, heap_set_ne, heap_new_same, heap_new_ne, ASt.set_ctr, ASt.new_ctr, set_set', ic_lit, ic_agg, ic_ptr, ic_iptr, ic_slice, ic_islice, ic_func, ic_iface, boxA, newA, List.all_cons, List.all_nil, Bool.and_self, Bool.and_true, Bool.true_and, cs_lit, cs_agg, cs_ptr, cs_iptr, cs_slice, cs_islice, cs_func, cs_iface, fillA, putL, setsE, eo_lit, eo_agg, eo_ptr, eo_iptr, eo_slice, eo_islice, eo_func, eo_iface, eo_byte, List.set_cons_zero, List.set_cons_succ, List.length_cons, List.length_nil, Nat.reduceBEq, Nat.reduceBNe, beq_self_eq_true, Bool.not_true, Bool.not_false, Nat.zero_add, Nat.reduceMul, List.map_nil, List.drop_succ_cons, List.drop_zero, List.take_succ_cons, List.take_zero, List.nil_append, List.cons_append, Int.toNat_natCast, sl_set, sl_get, sl_len, upd_app, valOf_lit, ite_t, ite_f, h6, h7, h8] <;> rfl) ?_
    refine aw_run 0 (by simp (maxSteps := 5000000) (disch := first | assumption | omega | (simp only [ASt.set_ctr, ASt.new_ctr] <;> omega)) only [S15_0_e.down, S15_1_e.down, S15_2_e.down, o_leni_22, o_lens_22, o_lenn_22, o_ixi_22, o_ixs_22, o_ldp_26, o_ldi_26, o_al_26, o_st_26, o_fap_26_0, o_fai_26_0, o_ldp_24, o_ldi_24, o_cv_24_3, o_fap_26_1, o_fai_26_1, o_ldp_4, o_ldi_4, o_bd_40, hint_15_19, o_bs_29_1, hint_15_20, bi_app, AVal.undef, sbn1, sbn2, aexec, aops, aop, Region.wanted, aeval, aput, aseq, ablock, ahint, absOf, flat, nilCheckA, ANext.ofP, evals, evalPs, evalO, aresults, aresults1, aresult, aend, Option.map_some, Option.bind_some, if_true, if_false, ↓reduceIte, Nat.reduceLT, Nat.reduceEqDiff, reduceCtorEq, Bool.false_eq_true, false_and, and_false, and_true, true_and, Nat.reduceAdd, Nat.reduceLeDiff, callA, List.getElem?_toArray, List.getElem?_cons_succ, List.getElem?_cons_zero, sb1, sb2, sb3, sb4, sliceU_i, sliceU_s, sliceU_p, sliceU_l, evalV, ayielded_eq, slotOf_eq, dstOf, yieldB, xo_move, xo_assign, xo_pick, xo_alloc, xo_box, xo_build, xo_bslice, xo_load, xo_store, xo_nn, xo_bin, xo_un, xo_conv, xo_mki, xo_mkf, xo_mks, xo_slice, xo_fa, xo_fv, xo_ia, xo_ix, xo_ext, xo_call, xo_panic, extractA, b_lss, b_leq, b_gtr, b_geq, b_eql, b_neq, b_add, b_sub, b_mul, b_and, b_or, b_xor, b_shl, b_shr, b_quo, b_rem, u_not, u_neg, wr_i64, wr_u64, wr_u32, wr_u8, wr_i32, wr_u16, wr_i16, wr_i8, dec_t, dec_f, ieq_t, ieq_f, ine_t, ine_f, blkOf_cells, heap_set_same, heap_set_ne, heap_new_same, heap_new_ne, ASt.set_ctr, ASt.new_ctr, set_set', ic_lit, ic_agg, ic_ptr, ic_iptr, ic_slice, ic_islice, ic_func, ic_iface, boxA, newA, List.all_cons, List.all_nil, Bool.and_self, Bool.and_true, Bool.true_and, cs_lit, cs_agg, cs_ptr, cs_iptr, cs_slice, cs_islice, cs_func, cs_iface, fillA, putL, setsE, eo_lit, eo_agg, eo_ptr, eo_iptr, eo_slice, eo_islice, eo_func, eo_iface, eo_byte, List.set_cons_zero, List.set_cons_succ, List.length_cons, List.length_nil, Nat.reduceBEq, Nat.reduceBNe, beq_self_eq_true, Bool.not_true, Bool.not_false, Nat.zero_add, Nat.reduceMul, List.map_nil, List.drop_succ_cons, List.drop_zero, List.take_succ_cons, List.take_zero, List.nil_append, List.cons_append, Int.toNat_natCast, sl_set, sl_get, sl_len, upd_app, valOf_lit, ite_t, ite_f, hvo] <;> rfl) ?_
    exact ⟨_, _, by simp only [AVal.undef, sbn1, sbn2, aexec, aops, aop, Region.wanted, aeval, aput, aseq, ablock, ahint, absOf, flat, nilCheckA, ANext.ofP, evals, evalPs, evalO, aresults, aresults1, aresult, aend, Option.map_some, Option.bind_some, if_true, if_false, ↓reduceIte, Nat.reduceLT, Nat.reduceEqDiff, reduceCtorEq, Bool.false_eq_true, false_and, and_false, and_true, true_and, Nat.reduceAdd, Nat.reduceLeDiff, callA, List.getElem?_toArray, List.getElem?_cons_succ, List.getElem?_cons_zero, sb1, sb2, sb3, sb4, sliceU_i, sliceU_s, sliceU_p, sliceU_l, evalV, ayielded_eq, slotOf_eq, dstOf, yieldB, xo_move, xo_assign, xo_pick, xo_alloc, xo_box, xo_build, xo_bslice, xo_load, xo_store, xo_nn, xo_bin, xo_un, xo_conv, xo_mki, xo_mkf, xo_mks, xo_slice, xo_fa, xo_fv, xo_ia, xo_ix, xo_ext, xo_call, xo_panic, extractA, b_lss, b_leq, b_gtr, b_geq, b_eql, b_neq, b_add, b_sub, b_mul, b_and, b_or, b_xor, b_shl, b_shr, b_quo, b_rem, u_not, u_neg, wr_i64, wr_u64, wr_u32, wr_u8, wr_i32, wr_u16, wr_i16, wr_i8, dec_t, dec_f, ieq_t, ieq_f, ine_t, ine_f, blkOf_cells, heap_set_same, heap_set_ne, heap_new_same, heap_new_ne, ASt.set_ctr, ASt.new_ctr, set_set', ic_lit, ic_agg, ic_ptr, ic_iptr, ic_slice, ic_islice, ic_func, ic_iface, boxA, newA, List.all_cons, List.all_nil, Bool.and_self, Bool.and_true, Bool.true_and, cs_lit, cs_agg, cs_ptr, cs_iptr, cs_slice, cs_islice, cs_func, cs_iface, fillA, putL, setsE, eo_lit, eo_agg, eo_ptr, eo_iptr, eo_slice, eo_islice, eo_func, eo_iface, eo_byte, List.set_cons_zero, List.set_cons_succ, List.length_cons, List.length_nil, Nat.reduceBEq, Nat.reduceBNe, beq_self_eq_true, Bool.not_true, Bool.not_false, Nat.zero_add, Nat.reduceMul, List.map_nil, List.drop_succ_cons, List.drop_zero, List.take_succ_cons, List.take_zero, List.nil_append, List.cons_append, Int.toNat_natCast, sl_set, sl_get, sl_len, upd_app, valOf_lit, ite_t, ite_f, Try.f15] <;> rfl, vo, rfl, hA, hG⟩

end Go.Proofs.YtcaokdlmolnbaaaV
