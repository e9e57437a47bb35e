/- law18's Tells, walked; a tree's certificate is decoded as it. No condition. -/
import Derived.Test.YtnndngoanknemaaC13
namespace Go.Proofs.YtnndngoanknemaaV
open Go Go.RowKit Go.Proofs.YtnndngoanknemaaA
set_option linter.unusedVariables false
set_option linter.unusedSimpArgs false
set_option maxRecDepth 100000

theorem encN_ne (x : Nat) : enc x ≠ [] := by
  unfold enc
  rw [encF]
  split <;> simp

/-- bytes that were put behind one another here -/
def TkB (base st : ASt) (v : AVal) (l : List UInt8) : Prop := ∃ k, v = .islice 1 (l.map byteA) (.tok k) ∧ st.heap k = some (.cells []) ∧ k < st.ctr ∧ base.ctr ≤ k
theorem tkb_app {base st : ASt} {v x : AVal} {l n : List UInt8} (h : TkB base st v l) (hg : Gr base st) (hx : IsB x n) (hn : n ≠ []) (hl : l.length + n.length ≤ 1000000) :
    ∃ v' st', appendA E.P false 28 28 v x st = some (v', st') ∧ TkB base st' v' (l ++ n) ∧ Gr base st' ∧ st.ctr ≤ st'.ctr ∧ ∀ j, j < st.ctr → TkB base st v l → (∀ k, v = .islice 1 (l.map byteA) (.tok k) → j ≠ k) → st'.heap j = st.heap j := by
  obtain ⟨k, rfl, h1, h2, h3⟩ := h
  refine ⟨_, _, app_tok byteT (bytes_ok l) (src_b hx st) (by simpa using hn) (by simp; omega) h1, ⟨st.ctr, by rw [List.map_append], by simp [ASt.new, ASt.set], by simp [ASt.new, ASt.set], by have := hg.1; omega⟩, ⟨by simp [ASt.new, ASt.set]; have := hg.1; omega, fun j hj => ?_⟩, by simp [ASt.new, ASt.set], fun j hj _ hk => ?_⟩
  · have := hg.1
    rw [ASt.new_ne _ _ _ (by simp [ASt.set]; omega), ASt.set_ne _ _ _ _ (by omega), hg.2 j hj]
  · rw [ASt.new_ne _ _ _ (by simp [ASt.set]; omega), ASt.set_ne _ _ _ _ (hk k rfl)]

def U64 (x : Nat) : AVal := .lit (.int .u64 (x : Nat))

/-- the four numbers of a node -/
theorem tl_inner {base : ASt} {l0 : List UInt8} {xs : List Nat} (hxs : xs.length = 4) (hx : ∀ x ∈ xs, x < 2 ^ 64) (hl : l0.length ≤ 10000) {pv v1 v23 v24 : AVal} {Q : APost} (hQ : ∀ f st, f 1 = v1 → f 22 = pv → f 23 = v23 → f 24 = v24 → TkB base st (f 5) (l0 ++ xs.flatMap enc) → Gr base st → Q .normal (Sl 52 f) st)
    {f : Nat → AVal} {st : ASt} (h1 : f 1 = v1) (h22 : f 22 = pv) (h23 : f 23 = v23) (h24 : f 24 = v24) (h38 : f 38 = .islice 1 (xs.map U64) .exact) (h39 : f 39 = .lit (.int .i64 (4 : Nat))) (h40 : f 40 = .lit (.int .i64 (0 : Nat))) (hT : TkB base st (f 5) l0) (hG : Gr base st) :
    Wp E 18 (.block 2 (.loop L18_2)) (Sl 52 f) st Q := by
  refine aw_forS (fun k f st => ∃ i, k = 4 - i ∧ i ≤ 4 ∧ f 1 = v1 ∧ f 22 = pv ∧ f 23 = v23 ∧ f 24 = v24 ∧ f 38 = .islice 1 (xs.map U64) .exact ∧ f 39 = .lit (.int .i64 (4 : Nat)) ∧ f 40 = .lit (.int .i64 (i : Nat)) ∧ TkB base st (f 5) (l0 ++ (xs.take i).flatMap enc) ∧ Gr base st)
    (fun k f st hI => L18_2_wp ?_) 4 f st ⟨0, rfl, by decide, h1, h22, h23, h24, h38, h39, h40, by simpa using hT, hG⟩
  obtain ⟨i, rfl, hi4, h1, h22, h23, h24, h38, h39, h40, hT, hG⟩ := hI
  by_cases hi : i < 4
  · have hix : (xs.map U64)[i]? = some (.lit (.int .u64 ((xs[i]'(by omega) : Nat) : Int))) := by rw [List.getElem?_map, List.getElem?_eq_getElem (by omega)]; rfl
    have hxi := hx (xs[i]'(by omega)) (List.getElem_mem _)
    obtain ⟨v, st1, c1, hv, hg1⟩ := refnum_run 9 (xs[i]'(by omega)) st (lt_enc hxi) hxi (by decide)
    have c1' := c1.rw
    have hT1 : TkB base st1 (f 5) (l0 ++ (xs.take i).flatMap enc) := by
      obtain ⟨k, e, a, b, c⟩ := hT
      exact ⟨k, e, by rw [hg1.2 k b]; exact a, Nat.lt_of_lt_of_le b hg1.1, c⟩
    have hlen : ((xs.take i).flatMap enc).length ≤ 40 := by
      have : ∀ ys : List Nat, (ys.flatMap enc).length ≤ 10 * ys.length := by
        intro ys
        induction ys with
        | nil => simp
        | cons y ys ih => have := enc_len y; simp only [List.flatMap_cons, List.length_append, List.length_cons]; omega
      have h2 := this (xs.take i)
      rw [List.length_take] at h2
      omega
    have hen := enc_len (xs[i]'(by omega))
    have hen' : (encF 9 (xs[i]'(by omega))).length ≤ 10 := hen
    obtain ⟨v2, st2, a2, hT2, hG2, _, _⟩ := tkb_app hT1 (hG.trans hg1) hv (encN_ne _) (by rw [List.length_append]; omega)
    have htake : xs.take (i + 1) = xs.take i ++ [xs[i]'(by omega)] := by rw [List.take_add_one, List.getElem?_eq_getElem (by omega)]; rfl
    refine aw_run 0 (by simp (maxSteps := 5000000) (disch := first | assumption | omega | (simp only [ASt.set_ctr, ASt.new_ctr] <;> omega)) only [S18_0_e.down, S18_1_e.down, S18_2_e.down, S18_3_e.down, S18_4_e.down, S18_5_e.down, hint_18_10, o_bsm_28_4, hint_18_11, o_cv_22_32, cf_33, hint_18_15, bi_app, o_leni_26, o_lens_26, o_lenn_26, o_cv_3_32, hint_18_21, o_ixi_26, o_ixs_26, o_ldp_53, o_ldi_53, o_al_53, o_st_53, o_fap_53_0, o_fai_53_0, o_ldp_3, o_ldi_3, o_fap_53_1, o_fai_53_1, o_ldp_32, o_ldi_32, o_fap_53_2, o_fai_53_2, o_fap_53_3, o_fai_53_3, hint_18_38, o_bs_69_4, o_leni_69, o_lens_69, o_lenn_69, o_ixi_69, o_ixs_69, hint_18_47, cf_19, AVal.undef, sbn1, sbn2, aexec, aops, aop, Region.wanted, aeval, aput, aseq, ablock, ahint, absOf, flat, nilCheckA, ANext.ofP, evals, evalPs, evalO, aresults, aresults1, aresult, aend, Option.map_some, Option.bind_some, if_true, if_false, ↓reduceIte, Nat.reduceLT, Nat.reduceEqDiff, reduceCtorEq, Bool.false_eq_true, false_and, and_false, and_true, true_and, Nat.reduceAdd, Nat.reduceLeDiff, callA, List.getElem?_toArray, List.getElem?_cons_succ, List.getElem?_cons_zero, sb1, sb2, sb3, sb4, sliceU_i, sliceU_s, sliceU_p, sliceU_l, evalV, ayielded_eq, slotOf_eq, dstOf, yieldB, xo_move, xo_assign, xo_pick, xo_alloc, xo_box, xo_build, xo_bslice, xo_load, xo_store, xo_nn, xo_bin, xo_un, xo_conv, xo_mki, xo_mkf, xo_mks, xo_slice, xo_fa, xo_fv, xo_ia, xo_ix, xo_ext, xo_call, xo_panic, extractA, b_lss, b_leq, b_gtr, b_geq, b_eql, b_neq, b_add, b_sub, b_mul, b_and, b_or, b_xor, b_shl, b_shr, b_quo, b_rem, u_not, u_neg, wr_i64, wr_u64, wr_u32, wr_u8, wr_i32, wr_u16, wr_i16, wr_i8, dec_t, dec_f, ieq_t, ieq_f, ine_t, ine_f, blkOf_cells, heap_set_same, heap_set_ne, heap_new_same, heap_new_ne, ASt.set_ctr, ASt.new_ctr, set_set', ic_lit, ic_agg, ic_ptr, ic_iptr, ic_slice, ic_islice, ic_func, ic_iface, boxA, newA, List.all_cons, List.all_nil, Bool.and_self, Bool.and_true, Bool.true_and, cs_lit, cs_agg, cs_ptr, cs_iptr, cs_slice, cs_islice, cs_func, cs_iface, fillA, putL, setsE, eo_lit, eo_agg, eo_ptr, eo_iptr, eo_slice, eo_islice, eo_func, eo_iface, eo_byte, List.set_cons_zero, List.set_cons_succ, List.length_cons, List.length_nil, Nat.reduceBEq, Nat.reduceBNe, beq_self_eq_true, Bool.not_true, Bool.not_false, Nat.zero_add, Nat.reduceMul, List.map_nil, List.drop_succ_cons, List.drop_zero, List.take_succ_cons, List.take_zero, List.nil_append, List.cons_append, Int.toNat_natCast, sl_set, sl_get, sl_len, upd_app, valOf_lit, ite_t, ite_f, h38, h39, h40, hix, List.length_map, hxs, c1', a2] <;> rfl) ?_
    refine ⟨_, rfl, 4 - (i + 1), by omega, i + 1, rfl, by omega, h1, h22, h23, h24, h38, h39, rfl, ?_, hG2⟩
    rw [htake, List.flatMap_append, ← List.append_assoc]
    have e1 : [xs[i]'(by omega)].flatMap enc = enc (xs[i]'(by omega)) := by simp
    rw [e1]
    exact hT2
  · obtain rfl : i = 4 := by omega
    refine aw_run 0 (by simp (maxSteps := 5000000) (disch := first | assumption | omega | (simp only [ASt.set_ctr, ASt.new_ctr] <;> omega)) only [S18_0_e.down, S18_1_e.down, S18_2_e.down, S18_3_e.down, S18_4_e.down, S18_5_e.down, hint_18_10, o_bsm_28_4, hint_18_11, o_cv_22_32, cf_33, hint_18_15, bi_app, o_leni_26, o_lens_26, o_lenn_26, o_cv_3_32, hint_18_21, o_ixi_26, o_ixs_26, o_ldp_53, o_ldi_53, o_al_53, o_st_53, o_fap_53_0, o_fai_53_0, o_ldp_3, o_ldi_3, o_fap_53_1, o_fai_53_1, o_ldp_32, o_ldi_32, o_fap_53_2, o_fai_53_2, o_fap_53_3, o_fai_53_3, hint_18_38, o_bs_69_4, o_leni_69, o_lens_69, o_lenn_69, o_ixi_69, o_ixs_69, hint_18_47, cf_19, AVal.undef, sbn1, sbn2, aexec, aops, aop, Region.wanted, aeval, aput, aseq, ablock, ahint, absOf, flat, nilCheckA, ANext.ofP, evals, evalPs, evalO, aresults, aresults1, aresult, aend, Option.map_some, Option.bind_some, if_true, if_false, ↓reduceIte, Nat.reduceLT, Nat.reduceEqDiff, reduceCtorEq, Bool.false_eq_true, false_and, and_false, and_true, true_and, Nat.reduceAdd, Nat.reduceLeDiff, callA, List.getElem?_toArray, List.getElem?_cons_succ, List.getElem?_cons_zero, sb1, sb2, sb3, sb4, sliceU_i, sliceU_s, sliceU_p, sliceU_l, evalV, ayielded_eq, slotOf_eq, dstOf, yieldB, xo_move, xo_assign, xo_pick, xo_alloc, xo_box, xo_build, xo_bslice, xo_load, xo_store, xo_nn, xo_bin, xo_un, xo_conv, xo_mki, xo_mkf, xo_mks, xo_slice, xo_fa, xo_fv, xo_ia, xo_ix, xo_ext, xo_call, xo_panic, extractA, b_lss, b_leq, b_gtr, b_geq, b_eql, b_neq, b_add, b_sub, b_mul, b_and, b_or, b_xor, b_shl, b_shr, b_quo, b_rem, u_not, u_neg, wr_i64, wr_u64, wr_u32, wr_u8, wr_i32, wr_u16, wr_i16, wr_i8, dec_t, dec_f, ieq_t, ieq_f, ine_t, ine_f, blkOf_cells, heap_set_same, heap_set_ne, heap_new_same, heap_new_ne, ASt.set_ctr, ASt.new_ctr, set_set', ic_lit, ic_agg, ic_ptr, ic_iptr, ic_slice, ic_islice, ic_func, ic_iface, boxA, newA, List.all_cons, List.all_nil, Bool.and_self, Bool.and_true, Bool.true_and, cs_lit, cs_agg, cs_ptr, cs_iptr, cs_slice, cs_islice, cs_func, cs_iface, fillA, putL, setsE, eo_lit, eo_agg, eo_ptr, eo_iptr, eo_slice, eo_islice, eo_func, eo_iface, eo_byte, List.set_cons_zero, List.set_cons_succ, List.length_cons, List.length_nil, Nat.reduceBEq, Nat.reduceBNe, beq_self_eq_true, Bool.not_true, Bool.not_false, Nat.zero_add, Nat.reduceMul, List.map_nil, List.drop_succ_cons, List.drop_zero, List.take_succ_cons, List.take_zero, List.nil_append, List.cons_append, Int.toNat_natCast, sl_set, sl_get, sl_len, upd_app, valOf_lit, ite_t, ite_f, h39, h40] <;> rfl) ?_
    have : xs.take 4 = xs := List.take_of_length_le (by omega)
    rw [this] at hT
    exact hQ _ _ h1 h22 h23 h24 hT hG
end Go.Proofs.YtnndngoanknemaaV
