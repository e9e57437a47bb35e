/- Tokens compared; LexSplits walked. No condition. -/
import Derived.Test.YtlpdplchcpkajaaDoorY4
namespace Go.Proofs.YtlpdplchcpkajaaDoorV
open Go Go.RowKit Go.Proofs.YtlpdplchcpkajaaDoorA
set_option linter.unusedVariables false
set_option linter.unusedSimpArgs false
set_option maxRecDepth 100000

/-- parts that are small whole numbers -/
def Tk.fin (t : Tk) : Prop := ∃ m n : Nat, t.re = wb false m ∧ t.im = wb false n ∧ m < 2 ^ 53 ∧ n < 2 ^ 53
theorem tokL_fin {b : UInt8} {r : List UInt8} {k n x y : Nat} (h : tokL b r = .ok (k, n, x, y)) : ∃ m n : Nat, x = wb false m ∧ y = wb false n ∧ m < 2 ^ 53 ∧ n < 2 ^ 53 := by
  have hz : (0 : Nat) = wb false 0 := by decide +kernel
  unfold tokL at h
  split at h
  · cases h; exact ⟨0, 0, hz, hz, by decide, by decide⟩
  split at h
  · split at h
    · split at h
      · cases h
      split at h
      · rename_i hok
        cases h
        have := (of_decide_eq_true hok).1.2
        exact ⟨0, _, hz, rfl, by decide, by omega⟩
      · cases h
    · split at h
      · cases h
      split at h
      · rename_i hok
        cases h
        have := (of_decide_eq_true hok).2
        exact ⟨_, 0, rfl, hz, by omega, by decide⟩
      · cases h
  split at h
  · split at h <;> (cases h; exact ⟨0, 0, hz, hz, by decide, by decide⟩)
  · cases h
theorem lexL_fin {pos : Nat} {l : List UInt8} {ts : List Tk} (h : lexL pos l = .ok ts) : ∀ t ∈ ts, t.fin := by
  have key := lexL_all (P := fun pos l res => ∀ ts, res = .ok ts → ∀ t ∈ ts, t.fin) (fun pos ts h => by cases h; intro t ht; cases ht)
    (fun pos c r _ ih => ih) (fun pos r _ ih => ih) (fun pos c r e' _ _ ht ts h => by cases h)
    (fun pos c r k n x y _ _ ht ih ts h => by
      cases hq : lexL (pos + 1 + n) (r.drop n) with
      | ok ts' =>
        rw [hq] at h
        cases h
        intro t hm
        rcases List.mem_cons.1 hm with rfl | hm
        · exact tokL_fin ht
        · exact ih ts' hq t hm
      | error q => rw [hq] at h; cases h) pos l
  exact key ts h
theorem endK_fin (n : Nat) : (endK n).fin := by
  have hz : (0 : Nat) = wb false 0 := by decide +kernel
  exact ⟨0, 0, hz, hz, by decide, by decide⟩
theorem feq_w {m : Nat} (h : m < 2 ^ 53) : (Ieee.double.order (wb false m) (wb false m) == some .eq) = true := by
  rw [order_w (wb_rd false h) (wb_rd false h), cmp_eq]
  exact decide_eq_true rfl
theorem tk_neq {t : Tk} (h : t.fin) (xo yo : Operand) : binA E.P .neq 52 xo yo t.a t.a = some (.lit (.bool false)) := by
  obtain ⟨m, n, h1, h2, h3, h4⟩ := h
  have e1 := feq_w h3
  have e2 := feq_w h4
  rw [← h1] at e1
  rw [← h2] at e2
  have e3 : ((⟨t.text.toArray⟩ : ByteArray).toList == (⟨t.text.toArray⟩ : ByteArray).toList) = true := beq_self_eq_true _
  have e : binA E.P .neq 52 xo yo t.a t.a = some (.lit (.bool (!(((t.kind : Int) == (t.kind : Int)) && (((⟨t.text.toArray⟩ : ByteArray).toList == (⟨t.text.toArray⟩ : ByteArray).toList) && (((Ieee.double.order t.re t.re == some .eq) && (Ieee.double.order t.im t.im == some .eq)) && (((t.pos : Int) == (t.pos : Int)) && true))))))) := by kernel_rfl
  rw [e, e1, e2, e3]
  simp
theorem row_ix {ts : List Tk} {c : Cap} {t : Nat} {tk : Tk} (h : ts[t]? = some tk) : indexA E.P 46 (.islice 4 (ts.map Tk.a) c) (.lit (.int .i64 (t : Int))) = some (.iptr (.agg [.lit (.int .i64 (tk.kind : Int)), .lit (.string ⟨tk.text.toArray⟩), .lit (.complex .f64 tk.re tk.im), .lit (.int .i64 (tk.pos : Int))])) := row_at h
/-- a row's value, whatever lies behind it -/
def RV (sz : Nat) (v : AVal) (es : List AVal) : Prop := (v = .nilSlice ∧ es = []) ∨ ∃ c, v = .islice sz es c
theorem AI.rv {sz : Nat} {b st : ASt} {v : AVal} {es : List AVal} (h : AI sz b st v es) : RV sz v es := h.imp id fun ⟨k, h, _⟩ => ⟨_, h⟩
theorem RV.len {v : AVal} {ts : List Tk} (h : RV 4 v (ts.map Tk.a)) (mt : Bool) (ty : TypeId) (cs : Array Bool) (st : ASt) : builtinA E.P mt .len #[46] ty cs [v] st = some (.val (.lit (.int .i64 (ts.length : Int))) st) := by
  rcases h with ⟨rfl, h⟩ | ⟨c, rfl⟩
  · obtain rfl : ts = [] := List.map_eq_nil_iff.1 h
    exact o_lenn_46 _ _ _ _ _
  · exact row_len _ _ _ _
theorem RV.ix {v : AVal} {ts : List Tk} (h : RV 4 v (ts.map Tk.a)) {t : Nat} {tk : Tk} (ht : ts[t]? = some tk) : indexA E.P 46 v (.lit (.int .i64 (t : Int))) = some (.iptr (.agg [.lit (.int .i64 (tk.kind : Int)), .lit (.string ⟨tk.text.toArray⟩), .lit (.complex .f64 tk.re tk.im), .lit (.int .i64 (tk.pos : Int))])) := by
  rcases h with ⟨rfl, h⟩ | ⟨c, rfl⟩
  · obtain rfl : ts = [] := List.map_eq_nil_iff.1 h
    cases ht
  · exact row_ix ht
theorem teq_rw {ts : List Tk} (hf : ∀ t ∈ ts, t.fin) (hl : ts.length ≤ 100000) {v w : AVal} (hv : RV 4 v (ts.map Tk.a)) (hw : RV 4 w (ts.map Tk.a)) (st : ASt) :
    rw E 28 [v, w] st = some (.returned (.lit (.bool true)), st) := by
  have LV := fun mt ty cs st => hv.len mt ty cs st
  have LW := fun mt ty cs st => hw.len mt ty cs st
  refine rw_ex (en_28 fun g t0 t1 => ?_)
  repeat' (first | refine ifk_og (fun hc => ?_) (fun hc => ?_) | refine ifk_gg (fun hc => ?_) (fun hc => ?_) | refine ifk_go (fun hc => ?_) (fun hc => ?_) | refine ifk_ss (fun hc => ?_) (fun hc => ?_) | simp (maxSteps := 5000000) (disch := first | assumption | omega | (simp only [ASt.set_ctr, ASt.new_ctr] <;> omega)) only [R28_0_e.down, R28_1_e.down, R28_2_e.down, N28_4_e, N28_3_e, N28_2_e, R28_3_e.down, R28_4_e.down, R28_5_e.down, R28_6_e.down, R28_7_e.down, N28_13_e, N28_12_e, N28_11_e, N28_10_e, R28_8_e.down, N28_14_e, N28_9_e, N28_8_e, L28_0_e, N28_7_e, N28_6_e, R28_9_e.down, N28_15_e, N28_5_e, N28_1_e, N28_0_e, rq_28, rqn_28, o_leni_46, o_lens_46, o_lenn_46, o_ixi_46, o_ixs_46, o_ldp_52, o_ldi_52, AVal.undef, sbn1, sbn2, aeval, aput, ahint, absOf, flat, nilCheckA, ANext.ofP, evals, evalPs, evalO, Option.map_some, Option.bind_some, if_true, if_false, ↓reduceIte, Nat.reduceLT, Nat.reduceEqDiff, reduceCtorEq, Bool.false_eq_true, false_and, and_false, and_true, true_and, Nat.reduceAdd, Nat.reduceLeDiff, callA, List.getElem?_cons_succ, List.getElem?_cons_zero, sb1, sb2, sb3, sb4, sliceU_i, sliceU_s, sliceU_p, sliceU_l, evalV, yieldB, xo_move, xo_assign, xo_alloc, xo_box, xo_build, xo_bslice, xo_load, xo_store, xo_nn, xo_bin, xo_un, xo_conv, xo_mki, xo_mkf, xo_mks, xo_slice, xo_fa, xo_fv, xo_ia, xo_ix, xo_ext, xo_call, xo_panic, extractA, b_lss, b_leq, b_gtr, b_geq, b_eql, b_neq, b_add, b_sub, b_mul, b_and, b_or, b_xor, b_shl, b_shr, b_quo, b_rem, u_not, u_neg, wr_i64, wr_u64, wr_u32, wr_u8, wr_i32, wr_u16, wr_i16, wr_i8, dec_t, dec_f, ieq_t, ieq_f, ine_t, ine_f, blkOf_cells, ASt.set_ctr, ASt.new_ctr, set_set', ic_lit, ic_agg, ic_ptr, ic_iptr, ic_slice, ic_islice, ic_func, ic_iface, boxA, newA, List.all_cons, List.all_nil, Bool.and_self, Bool.and_true, Bool.true_and, cs_lit, cs_agg, cs_ptr, cs_iptr, cs_slice, cs_islice, cs_func, cs_iface, fillA, putL, setsE, eo_lit, eo_agg, eo_ptr, eo_iptr, eo_slice, eo_islice, eo_func, eo_iface, eo_byte, List.set_cons_zero, List.set_cons_succ, List.length_cons, List.length_nil, Nat.reduceBEq, Nat.reduceBNe, beq_self_eq_true, Bool.not_true, Bool.not_false, Nat.zero_add, Nat.reduceMul, List.map_nil, List.drop_succ_cons, List.drop_zero, List.take_succ_cons, List.take_zero, List.nil_append, List.cons_append, Int.toNat_natCast, sl_set, sl_get, sl_len, upd_app, valOf_lit, ite_t, ite_f, g_skip, g_seq, g_cond, g_block, g_exit, g_label, g_goto, g_ret, re_nil, re_nc, re_nb, re_ec, re_eb, re_gc, re_gb, go_nil, go_op, go_opg, so_val, so_enter, so_panic, sc_ret, sc_panic, rs_some, cond_b, lq_e, lq_r, lq_g, lq_p, rq_p, bindK_some, beq_iff_eq, bne_iff_ne, ne_eq, not_false_eq_true, not_true_eq_false, decide_eq_true_eq, Option.some.injEq, List.getElem?_toArray, gt_iff_lt, ge_iff_le, so_pick, decide_eq_false_iff_not, ifk_ot, ifk_nf, ifk_of, ifk_nt, ifk_gt, ifk_gf, ifk_st, ifk_sf, ifk_ot', ifk_nf', ifk_of', ifk_nt', ifk_gt', ifk_gf', ifk_st', ifk_sf', ifk_not, ifk_bf, Bool.not_eq_true', re_ret, re_pan, heap_new_if, heap_set_if, eq_self, t0,t1,LV,LW])
  refine g_loop (fun k f st' => ∃ t, k = ts.length - t ∧ t ≤ ts.length ∧ f 0 = v ∧ f 1 = w ∧ f 12 = .lit (.int .i64 (ts.length : Int)) ∧ f 13 = .lit (.int .i64 (t : Int)) ∧ st' = st)
    (fun k f st' hI => ?_) ts.length _ _ ⟨0, rfl, Nat.zero_le _, t0, t1, rfl, rfl, rfl⟩
  clear t0 t1
  obtain ⟨t, rfl, ht, q0, q1, q12, q13, rfl⟩ := hI
  by_cases hlt : t < ts.length
  · obtain ⟨tk, hk⟩ : ∃ tk, ts[t]? = some tk := ⟨_, List.getElem?_eq_getElem hlt⟩
    have i1 := hv.ix hk
    have i2 := hw.ix hk
    have hq := tk_neq (hf tk (List.mem_of_getElem? hk))
    unfold Tk.a at hq
    have hadd : (t : Int) + 1 = ((t + 1 : Nat) : Int) := by omega
    clear hf hv hw hk LV LW
    repeat' (first | refine ifk_og (fun hc => ?_) (fun hc => ?_) | refine ifk_gg (fun hc => ?_) (fun hc => ?_) | refine ifk_go (fun hc => ?_) (fun hc => ?_) | refine ifk_ss (fun hc => ?_) (fun hc => ?_) | simp (maxSteps := 5000000) (disch := first | assumption | omega | (simp only [ASt.set_ctr, ASt.new_ctr] <;> omega)) only [R28_0_e.down, R28_1_e.down, R28_2_e.down, N28_4_e, N28_3_e, N28_2_e, R28_3_e.down, R28_4_e.down, R28_5_e.down, R28_6_e.down, R28_7_e.down, N28_13_e, N28_12_e, N28_11_e, N28_10_e, R28_8_e.down, N28_14_e, N28_9_e, N28_8_e, L28_0_e, N28_7_e, N28_6_e, R28_9_e.down, N28_15_e, N28_5_e, N28_1_e, N28_0_e, rq_28, rqn_28, o_leni_46, o_lens_46, o_lenn_46, o_ixi_46, o_ixs_46, o_ldp_52, o_ldi_52, AVal.undef, sbn1, sbn2, aeval, aput, ahint, absOf, flat, nilCheckA, ANext.ofP, evals, evalPs, evalO, Option.map_some, Option.bind_some, if_true, if_false, ↓reduceIte, Nat.reduceLT, Nat.reduceEqDiff, reduceCtorEq, Bool.false_eq_true, false_and, and_false, and_true, true_and, Nat.reduceAdd, Nat.reduceLeDiff, callA, List.getElem?_cons_succ, List.getElem?_cons_zero, sb1, sb2, sb3, sb4, sliceU_i, sliceU_s, sliceU_p, sliceU_l, evalV, yieldB, xo_move, xo_assign, xo_alloc, xo_box, xo_build, xo_bslice, xo_load, xo_store, xo_nn, xo_bin, xo_un, xo_conv, xo_mki, xo_mkf, xo_mks, xo_slice, xo_fa, xo_fv, xo_ia, xo_ix, xo_ext, xo_call, xo_panic, extractA, b_lss, b_leq, b_gtr, b_geq, b_eql, b_neq, b_add, b_sub, b_mul, b_and, b_or, b_xor, b_shl, b_shr, b_quo, b_rem, u_not, u_neg, wr_i64, wr_u64, wr_u32, wr_u8, wr_i32, wr_u16, wr_i16, wr_i8, dec_t, dec_f, ieq_t, ieq_f, ine_t, ine_f, blkOf_cells, ASt.set_ctr, ASt.new_ctr, set_set', ic_lit, ic_agg, ic_ptr, ic_iptr, ic_slice, ic_islice, ic_func, ic_iface, boxA, newA, List.all_cons, List.all_nil, Bool.and_self, Bool.and_true, Bool.true_and, cs_lit, cs_agg, cs_ptr, cs_iptr, cs_slice, cs_islice, cs_func, cs_iface, fillA, putL, setsE, eo_lit, eo_agg, eo_ptr, eo_iptr, eo_slice, eo_islice, eo_func, eo_iface, eo_byte, List.set_cons_zero, List.set_cons_succ, List.length_cons, List.length_nil, Nat.reduceBEq, Nat.reduceBNe, beq_self_eq_true, Bool.not_true, Bool.not_false, Nat.zero_add, Nat.reduceMul, List.map_nil, List.drop_succ_cons, List.drop_zero, List.take_succ_cons, List.take_zero, List.nil_append, List.cons_append, Int.toNat_natCast, sl_set, sl_get, sl_len, upd_app, valOf_lit, ite_t, ite_f, g_skip, g_seq, g_cond, g_block, g_exit, g_label, g_goto, g_ret, re_nil, re_nc, re_nb, re_ec, re_eb, re_gc, re_gb, go_nil, go_op, go_opg, so_val, so_enter, so_panic, sc_ret, sc_panic, rs_some, cond_b, lq_e, lq_r, lq_g, lq_p, rq_p, bindK_some, beq_iff_eq, bne_iff_ne, ne_eq, not_false_eq_true, not_true_eq_false, decide_eq_true_eq, Option.some.injEq, List.getElem?_toArray, gt_iff_lt, ge_iff_le, so_pick, decide_eq_false_iff_not, ifk_ot, ifk_nf, ifk_of, ifk_nt, ifk_gt, ifk_gf, ifk_st, ifk_sf, ifk_ot', ifk_nf', ifk_of', ifk_nt', ifk_gt', ifk_gf', ifk_st', ifk_sf', ifk_not, ifk_bf, Bool.not_eq_true', re_ret, re_pan, heap_new_if, heap_set_if, eq_self, q0,q1,q12,q13,i1,i2,hq,hadd])
    refine lq_n (j := ts.length - (t + 1)) (by omega) ?_
    exact ⟨t + 1, rfl, by omega, q0, q1, q12, rfl, rfl⟩
  · clear hf hv hw LV LW
    repeat' (first | refine ifk_og (fun hc => ?_) (fun hc => ?_) | refine ifk_gg (fun hc => ?_) (fun hc => ?_) | refine ifk_go (fun hc => ?_) (fun hc => ?_) | refine ifk_ss (fun hc => ?_) (fun hc => ?_) | simp (maxSteps := 5000000) (disch := first | assumption | omega | (simp only [ASt.set_ctr, ASt.new_ctr] <;> omega)) only [R28_0_e.down, R28_1_e.down, R28_2_e.down, N28_4_e, N28_3_e, N28_2_e, R28_3_e.down, R28_4_e.down, R28_5_e.down, R28_6_e.down, R28_7_e.down, N28_13_e, N28_12_e, N28_11_e, N28_10_e, R28_8_e.down, N28_14_e, N28_9_e, N28_8_e, L28_0_e, N28_7_e, N28_6_e, R28_9_e.down, N28_15_e, N28_5_e, N28_1_e, N28_0_e, rq_28, rqn_28, o_leni_46, o_lens_46, o_lenn_46, o_ixi_46, o_ixs_46, o_ldp_52, o_ldi_52, AVal.undef, sbn1, sbn2, aeval, aput, ahint, absOf, flat, nilCheckA, ANext.ofP, evals, evalPs, evalO, Option.map_some, Option.bind_some, if_true, if_false, ↓reduceIte, Nat.reduceLT, Nat.reduceEqDiff, reduceCtorEq, Bool.false_eq_true, false_and, and_false, and_true, true_and, Nat.reduceAdd, Nat.reduceLeDiff, callA, List.getElem?_cons_succ, List.getElem?_cons_zero, sb1, sb2, sb3, sb4, sliceU_i, sliceU_s, sliceU_p, sliceU_l, evalV, yieldB, xo_move, xo_assign, xo_alloc, xo_box, xo_build, xo_bslice, xo_load, xo_store, xo_nn, xo_bin, xo_un, xo_conv, xo_mki, xo_mkf, xo_mks, xo_slice, xo_fa, xo_fv, xo_ia, xo_ix, xo_ext, xo_call, xo_panic, extractA, b_lss, b_leq, b_gtr, b_geq, b_eql, b_neq, b_add, b_sub, b_mul, b_and, b_or, b_xor, b_shl, b_shr, b_quo, b_rem, u_not, u_neg, wr_i64, wr_u64, wr_u32, wr_u8, wr_i32, wr_u16, wr_i16, wr_i8, dec_t, dec_f, ieq_t, ieq_f, ine_t, ine_f, blkOf_cells, ASt.set_ctr, ASt.new_ctr, set_set', ic_lit, ic_agg, ic_ptr, ic_iptr, ic_slice, ic_islice, ic_func, ic_iface, boxA, newA, List.all_cons, List.all_nil, Bool.and_self, Bool.and_true, Bool.true_and, cs_lit, cs_agg, cs_ptr, cs_iptr, cs_slice, cs_islice, cs_func, cs_iface, fillA, putL, setsE, eo_lit, eo_agg, eo_ptr, eo_iptr, eo_slice, eo_islice, eo_func, eo_iface, eo_byte, List.set_cons_zero, List.set_cons_succ, List.length_cons, List.length_nil, Nat.reduceBEq, Nat.reduceBNe, beq_self_eq_true, Bool.not_true, Bool.not_false, Nat.zero_add, Nat.reduceMul, List.map_nil, List.drop_succ_cons, List.drop_zero, List.take_succ_cons, List.take_zero, List.nil_append, List.cons_append, Int.toNat_natCast, sl_set, sl_get, sl_len, upd_app, valOf_lit, ite_t, ite_f, g_skip, g_seq, g_cond, g_block, g_exit, g_label, g_goto, g_ret, re_nil, re_nc, re_nb, re_ec, re_eb, re_gc, re_gb, go_nil, go_op, go_opg, so_val, so_enter, so_panic, sc_ret, sc_panic, rs_some, cond_b, lq_e, lq_r, lq_g, lq_p, rq_p, bindK_some, beq_iff_eq, bne_iff_ne, ne_eq, not_false_eq_true, not_true_eq_false, decide_eq_true_eq, Option.some.injEq, List.getElem?_toArray, gt_iff_lt, ge_iff_le, so_pick, decide_eq_false_iff_not, ifk_ot, ifk_nf, ifk_of, ifk_nt, ifk_gt, ifk_gf, ifk_st, ifk_sf, ifk_ot', ifk_nf', ifk_of', ifk_nt', ifk_gt', ifk_gf', ifk_st', ifk_sf', ifk_not, ifk_bf, Bool.not_eq_true', re_ret, re_pan, heap_new_if, heap_set_if, eq_self, q0,q1,q12,q13])
set_option maxHeartbeats 4000000 in
theorem splits_runs (b0 : AVal) (d0 : DatV E.P 6 9 b0) : ∃ n st', run E n 10 [b0] st0 = some (.returned (.lit (.bool true)), st') := by
  suffices h : ∃ r st', rw E 10 [b0] st0 = some (r, st') ∧ r = .returned (.lit (.bool true)) by
    obtain ⟨r, st', h1, rfl⟩ := h
    obtain ⟨n, hn⟩ := rw_out h1
    exact ⟨n, st', hn⟩
  obtain ⟨l, rfl, hmx⟩ := dv_str rfl d0
  obtain ⟨s1, c0⟩ := awakeL
  refine en_10 fun g t0 => ?_
  unfold str at t0
  by_cases hl : l.length ≤ 1000
  rotate_left
  · clear d0
    repeat' (first | refine ifk_og (fun hc => ?_) (fun hc => ?_) | refine ifk_gg (fun hc => ?_) (fun hc => ?_) | refine ifk_go (fun hc => ?_) (fun hc => ?_) | refine ifk_ss (fun hc => ?_) (fun hc => ?_) | simp (maxSteps := 5000000) (disch := first | assumption | omega | (simp only [ASt.set_ctr, ASt.new_ctr] <;> omega)) only [R10_0_e.down, R10_1_e.down, R10_2_e.down, N10_4_e, N10_3_e, N10_2_e, R10_3_e.down, R10_4_e.down, N10_8_e, N10_7_e, N10_6_e, R10_5_e.down, R10_6_e.down, R10_7_e.down, N10_11_e, N10_10_e, N10_9_e, N10_5_e, N10_1_e, N10_0_e, rq_10, rqn_10, cf_24, o_lent_9, cf_25, cf_27, cf_28, AVal.undef, sbn1, sbn2, aeval, aput, ahint, absOf, flat, nilCheckA, ANext.ofP, evals, evalPs, evalO, Option.map_some, Option.bind_some, if_true, if_false, ↓reduceIte, Nat.reduceLT, Nat.reduceEqDiff, reduceCtorEq, Bool.false_eq_true, false_and, and_false, and_true, true_and, Nat.reduceAdd, Nat.reduceLeDiff, callA, List.getElem?_cons_succ, List.getElem?_cons_zero, sb1, sb2, sb3, sb4, sliceU_i, sliceU_s, sliceU_p, sliceU_l, evalV, yieldB, xo_move, xo_assign, xo_alloc, xo_box, xo_build, xo_bslice, xo_load, xo_store, xo_nn, xo_bin, xo_un, xo_conv, xo_mki, xo_mkf, xo_mks, xo_slice, xo_fa, xo_fv, xo_ia, xo_ix, xo_ext, xo_call, xo_panic, extractA, b_lss, b_leq, b_gtr, b_geq, b_eql, b_neq, b_add, b_sub, b_mul, b_and, b_or, b_xor, b_shl, b_shr, b_quo, b_rem, u_not, u_neg, wr_i64, wr_u64, wr_u32, wr_u8, wr_i32, wr_u16, wr_i16, wr_i8, dec_t, dec_f, ieq_t, ieq_f, ine_t, ine_f, blkOf_cells, ASt.set_ctr, ASt.new_ctr, set_set', ic_lit, ic_agg, ic_ptr, ic_iptr, ic_slice, ic_islice, ic_func, ic_iface, boxA, newA, List.all_cons, List.all_nil, Bool.and_self, Bool.and_true, Bool.true_and, cs_lit, cs_agg, cs_ptr, cs_iptr, cs_slice, cs_islice, cs_func, cs_iface, fillA, putL, setsE, eo_lit, eo_agg, eo_ptr, eo_iptr, eo_slice, eo_islice, eo_func, eo_iface, eo_byte, List.set_cons_zero, List.set_cons_succ, List.length_cons, List.length_nil, Nat.reduceBEq, Nat.reduceBNe, beq_self_eq_true, Bool.not_true, Bool.not_false, Nat.zero_add, Nat.reduceMul, List.map_nil, List.drop_succ_cons, List.drop_zero, List.take_succ_cons, List.take_zero, List.nil_append, List.cons_append, Int.toNat_natCast, sl_set, sl_get, sl_len, upd_app, valOf_lit, ite_t, ite_f, g_skip, g_seq, g_cond, g_block, g_exit, g_label, g_goto, g_ret, re_nil, re_nc, re_nb, re_ec, re_eb, re_gc, re_gb, go_nil, go_op, go_opg, so_val, so_enter, so_panic, sc_ret, sc_panic, rs_some, cond_b, lq_e, lq_r, lq_g, lq_p, rq_p, bindK_some, beq_iff_eq, bne_iff_ne, ne_eq, not_false_eq_true, not_true_eq_false, decide_eq_true_eq, Option.some.injEq, List.getElem?_toArray, gt_iff_lt, ge_iff_le, so_pick, decide_eq_false_iff_not, ifk_ot, ifk_nf, ifk_of, ifk_nt, ifk_gt, ifk_gf, ifk_st, ifk_sf, ifk_ot', ifk_nf', ifk_of', ifk_nt', ifk_gt', ifk_gf', ifk_st', ifk_sf', ifk_not, ifk_bf, Bool.not_eq_true', re_ret, re_pan, heap_new_if, heap_set_if, eq_self, t0,c0,str_size])
  obtain ⟨r1, s2, c1, hg1, h1⟩ := split_rw (l := l) (st := s1) (by omega)
  obtain ⟨r2, s3, c2, hg2, h2⟩ := lsplit_rw (l := l) (st := s2) (by omega)
  unfold str at c1 c2
  cases hq : lexL 0 l with
  | ok ts =>
    rw [hq] at h1 h2
    obtain ⟨v, rfl, hv⟩ := h1
    obtain ⟨w, rfl, hw⟩ := h2
    have hll := lexL_len hq
    have c3 := teq_rw (ts := ts ++ [endK l.length]) (fun t ht => (List.mem_append.1 ht).elim (lexL_fin hq t) (fun h => by rw [List.mem_singleton.1 h]; exact endK_fin _)) (by simp; omega)
      (by rw [List.map_append]; exact hv.rv) (by rw [List.map_append]; exact hw.rv) s3
    clear d0 hv hw hq hg1 hg2
    repeat' (first | refine ifk_og (fun hc => ?_) (fun hc => ?_) | refine ifk_gg (fun hc => ?_) (fun hc => ?_) | refine ifk_go (fun hc => ?_) (fun hc => ?_) | refine ifk_ss (fun hc => ?_) (fun hc => ?_) | simp (maxSteps := 5000000) (disch := first | assumption | omega | (simp only [ASt.set_ctr, ASt.new_ctr] <;> omega)) only [R10_0_e.down, R10_1_e.down, R10_2_e.down, N10_4_e, N10_3_e, N10_2_e, R10_3_e.down, R10_4_e.down, N10_8_e, N10_7_e, N10_6_e, R10_5_e.down, R10_6_e.down, R10_7_e.down, N10_11_e, N10_10_e, N10_9_e, N10_5_e, N10_1_e, N10_0_e, rq_10, rqn_10, cf_24, o_lent_9, cf_25, cf_27, cf_28, AVal.undef, sbn1, sbn2, aeval, aput, ahint, absOf, flat, nilCheckA, ANext.ofP, evals, evalPs, evalO, Option.map_some, Option.bind_some, if_true, if_false, ↓reduceIte, Nat.reduceLT, Nat.reduceEqDiff, reduceCtorEq, Bool.false_eq_true, false_and, and_false, and_true, true_and, Nat.reduceAdd, Nat.reduceLeDiff, callA, List.getElem?_cons_succ, List.getElem?_cons_zero, sb1, sb2, sb3, sb4, sliceU_i, sliceU_s, sliceU_p, sliceU_l, evalV, yieldB, xo_move, xo_assign, xo_alloc, xo_box, xo_build, xo_bslice, xo_load, xo_store, xo_nn, xo_bin, xo_un, xo_conv, xo_mki, xo_mkf, xo_mks, xo_slice, xo_fa, xo_fv, xo_ia, xo_ix, xo_ext, xo_call, xo_panic, extractA, b_lss, b_leq, b_gtr, b_geq, b_eql, b_neq, b_add, b_sub, b_mul, b_and, b_or, b_xor, b_shl, b_shr, b_quo, b_rem, u_not, u_neg, wr_i64, wr_u64, wr_u32, wr_u8, wr_i32, wr_u16, wr_i16, wr_i8, dec_t, dec_f, ieq_t, ieq_f, ine_t, ine_f, blkOf_cells, ASt.set_ctr, ASt.new_ctr, set_set', ic_lit, ic_agg, ic_ptr, ic_iptr, ic_slice, ic_islice, ic_func, ic_iface, boxA, newA, List.all_cons, List.all_nil, Bool.and_self, Bool.and_true, Bool.true_and, cs_lit, cs_agg, cs_ptr, cs_iptr, cs_slice, cs_islice, cs_func, cs_iface, fillA, putL, setsE, eo_lit, eo_agg, eo_ptr, eo_iptr, eo_slice, eo_islice, eo_func, eo_iface, eo_byte, List.set_cons_zero, List.set_cons_succ, List.length_cons, List.length_nil, Nat.reduceBEq, Nat.reduceBNe, beq_self_eq_true, Bool.not_true, Bool.not_false, Nat.zero_add, Nat.reduceMul, List.map_nil, List.drop_succ_cons, List.drop_zero, List.take_succ_cons, List.take_zero, List.nil_append, List.cons_append, Int.toNat_natCast, sl_set, sl_get, sl_len, upd_app, valOf_lit, ite_t, ite_f, g_skip, g_seq, g_cond, g_block, g_exit, g_label, g_goto, g_ret, re_nil, re_nc, re_nb, re_ec, re_eb, re_gc, re_gb, go_nil, go_op, go_opg, so_val, so_enter, so_panic, sc_ret, sc_panic, rs_some, cond_b, lq_e, lq_r, lq_g, lq_p, rq_p, bindK_some, beq_iff_eq, bne_iff_ne, ne_eq, not_false_eq_true, not_true_eq_false, decide_eq_true_eq, Option.some.injEq, List.getElem?_toArray, gt_iff_lt, ge_iff_le, so_pick, decide_eq_false_iff_not, ifk_ot, ifk_nf, ifk_of, ifk_nt, ifk_gt, ifk_gf, ifk_st, ifk_sf, ifk_ot', ifk_nf', ifk_of', ifk_nt', ifk_gt', ifk_gf', ifk_st', ifk_sf', ifk_not, ifk_bf, Bool.not_eq_true', re_ret, re_pan, heap_new_if, heap_set_if, eq_self, t0,c0,c1,c2,c3,str_size])
  | error q =>
    obtain ⟨p, e⟩ := q
    rw [hq] at h1 h2
    have h1' : r1 = _ := h1
    have h2' : r2 = _ := h2
    subst h1' h2'
    have c3 := teq_rw (ts := []) (fun t ht => by cases ht) (by simp) (v := .lit (.slice none 0 0)) (w := .lit (.slice none 0 0)) (.inl ⟨rfl, rfl⟩) (.inl ⟨rfl, rfl⟩) s3
    clear d0 hq hg1 hg2
    repeat' (first | refine ifk_og (fun hc => ?_) (fun hc => ?_) | refine ifk_gg (fun hc => ?_) (fun hc => ?_) | refine ifk_go (fun hc => ?_) (fun hc => ?_) | refine ifk_ss (fun hc => ?_) (fun hc => ?_) | simp (maxSteps := 5000000) (disch := first | assumption | omega | (simp only [ASt.set_ctr, ASt.new_ctr] <;> omega)) only [R10_0_e.down, R10_1_e.down, R10_2_e.down, N10_4_e, N10_3_e, N10_2_e, R10_3_e.down, R10_4_e.down, N10_8_e, N10_7_e, N10_6_e, R10_5_e.down, R10_6_e.down, R10_7_e.down, N10_11_e, N10_10_e, N10_9_e, N10_5_e, N10_1_e, N10_0_e, rq_10, rqn_10, cf_24, o_lent_9, cf_25, cf_27, cf_28, AVal.undef, sbn1, sbn2, aeval, aput, ahint, absOf, flat, nilCheckA, ANext.ofP, evals, evalPs, evalO, Option.map_some, Option.bind_some, if_true, if_false, ↓reduceIte, Nat.reduceLT, Nat.reduceEqDiff, reduceCtorEq, Bool.false_eq_true, false_and, and_false, and_true, true_and, Nat.reduceAdd, Nat.reduceLeDiff, callA, List.getElem?_cons_succ, List.getElem?_cons_zero, sb1, sb2, sb3, sb4, sliceU_i, sliceU_s, sliceU_p, sliceU_l, evalV, yieldB, xo_move, xo_assign, xo_alloc, xo_box, xo_build, xo_bslice, xo_load, xo_store, xo_nn, xo_bin, xo_un, xo_conv, xo_mki, xo_mkf, xo_mks, xo_slice, xo_fa, xo_fv, xo_ia, xo_ix, xo_ext, xo_call, xo_panic, extractA, b_lss, b_leq, b_gtr, b_geq, b_eql, b_neq, b_add, b_sub, b_mul, b_and, b_or, b_xor, b_shl, b_shr, b_quo, b_rem, u_not, u_neg, wr_i64, wr_u64, wr_u32, wr_u8, wr_i32, wr_u16, wr_i16, wr_i8, dec_t, dec_f, ieq_t, ieq_f, ine_t, ine_f, blkOf_cells, ASt.set_ctr, ASt.new_ctr, set_set', ic_lit, ic_agg, ic_ptr, ic_iptr, ic_slice, ic_islice, ic_func, ic_iface, boxA, newA, List.all_cons, List.all_nil, Bool.and_self, Bool.and_true, Bool.true_and, cs_lit, cs_agg, cs_ptr, cs_iptr, cs_slice, cs_islice, cs_func, cs_iface, fillA, putL, setsE, eo_lit, eo_agg, eo_ptr, eo_iptr, eo_slice, eo_islice, eo_func, eo_iface, eo_byte, List.set_cons_zero, List.set_cons_succ, List.length_cons, List.length_nil, Nat.reduceBEq, Nat.reduceBNe, beq_self_eq_true, Bool.not_true, Bool.not_false, Nat.zero_add, Nat.reduceMul, List.map_nil, List.drop_succ_cons, List.drop_zero, List.take_succ_cons, List.take_zero, List.nil_append, List.cons_append, Int.toNat_natCast, sl_set, sl_get, sl_len, upd_app, valOf_lit, ite_t, ite_f, g_skip, g_seq, g_cond, g_block, g_exit, g_label, g_goto, g_ret, re_nil, re_nc, re_nb, re_ec, re_eb, re_gc, re_gb, go_nil, go_op, go_opg, so_val, so_enter, so_panic, sc_ret, sc_panic, rs_some, cond_b, lq_e, lq_r, lq_g, lq_p, rq_p, bindK_some, beq_iff_eq, bne_iff_ne, ne_eq, not_false_eq_true, not_true_eq_false, decide_eq_true_eq, Option.some.injEq, List.getElem?_toArray, gt_iff_lt, ge_iff_le, so_pick, decide_eq_false_iff_not, ifk_ot, ifk_nf, ifk_of, ifk_nt, ifk_gt, ifk_gf, ifk_st, ifk_sf, ifk_ot', ifk_nf', ifk_of', ifk_nt', ifk_gt', ifk_gf', ifk_st', ifk_sf', ifk_not, ifk_bf, Bool.not_eq_true', re_ret, re_pan, heap_new_if, heap_set_if, eq_self, t0,c0,c1,c2,c3,str_size])
end Go.Proofs.YtlpdplchcpkajaaDoorV
