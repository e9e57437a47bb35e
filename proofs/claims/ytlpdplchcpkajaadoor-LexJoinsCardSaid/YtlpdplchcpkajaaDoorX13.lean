/- lex.Split, numbers: walked. No condition. -/
import Derived.Test.YtlpdplchcpkajaaDoorX12
namespace Go.Proofs.YtlpdplchcpkajaaDoorV
open Go Go.RowKit Go.Proofs.YtlpdplchcpkajaaDoorA
set_option linter.unusedVariables false
set_option linter.unusedSimpArgs false
set_option maxRecDepth 100000

/-- digits, to their end -/
theorem l3a {l : List UInt8} {f : Nat → AVal} {st : ASt} {Q : APost} {i : Nat} (hi : i ≤ l.length) (hl : l.length ≤ 100000) (h0 : f 0 = .lit (.string ⟨l.toArray⟩)) (h9 : f 9 = .lit (.int .i64 (i : Int)))
    (k : ∀ f', f' 0 = f 0 → f' 5 = f 5 → f' 6 = f 6 → f' 9 = .lit (.int .i64 ((i + ((l.drop i).takeWhile digc).length : Nat) : Int)) → Wp E 25 W3a (Sl 203 f') st (Nx (fun ts st => Wp E 25 W3b ts st (Nx (fun ts st => Wp E 25 W3c ts st (Nx (fun ts st => Wp E 25 W3d ts st (Nx (fun ts st => Wp E 25 R3 ts st Q) Q)) Q)) Q)) Q)) :
    Wp E 25 T3 (Sl 203 f) st Q := by
  refine T3_wp ?_
  refine aw_forS (fun k f' st' => st' = st ∧ ∃ j, k = l.length - j ∧ j ≤ l.length ∧ f' 0 = .lit (.string ⟨l.toArray⟩) ∧ f' 5 = f 5 ∧ f' 6 = f 6 ∧ f' 9 = .lit (.int .i64 (j : Int)) ∧ j + ((l.drop j).takeWhile digc).length = i + ((l.drop i).takeWhile digc).length)
    (fun k f' st' hI => L25_3_wp ?_) (l.length - i) f st ⟨rfl, i, rfl, hi, h0, rfl, rfl, h9, rfl⟩
  obtain ⟨rfl, j, rfl, hj, q0, q5, q6, q9, hE⟩ := hI
  rw [h0] at k
  by_cases hlt : j < l.length
  · obtain ⟨b, r, hb⟩ := at_drop hlt
    have ex := at_ix (drop_at hb).1
    have c2 := digit_rw b.toNat st'
    cases hD : isDig b.toNat with
    | false =>
      have hs := tw_stop (p := digc) hb hD
      rw [hs] at hE
      rw [← hE] at k
      rw [hD] at c2
      obtain ⟨n, hn⟩ : ∃ n, n = b.toNat := ⟨_, rfl⟩
      rw [← hn] at ex c2
      clear hE hs hb
      refine aw_run 0 (by simp (maxSteps := 5000000) (disch := first | assumption | omega | (simp only [ASt.set_ctr, ASt.new_ctr] <;> omega)) only [S25_0_e.down, S25_1_e.down, S25_2_e.down, S25_3_e.down, S25_4_e.down, S25_5_e.down, S25_6_e.down, S25_7_e.down, o_lent_9, o_bd_52, hint_25_21, o_bs_46_1, hint_25_22, bi_app, o_ixt_9, cf_48, cf_49, cf_50, o_cut_9_lh, o_cut_9_l, o_cut_9_h, hint_25_104, hint_25_105, cf_51, hint_25_166, hint_25_167, hint_25_201, hint_25_202, AVal.undef, sbn1, sbn2, aexec, aops, aop, Region.wanted, aeval, aput, aseq, ablock, ahint, absOf, flat, nilCheckA, ANext.ofP, evals, evalPs, evalO, aresults, aresults1, aresult, aend, Option.map_some, Option.bind_some, if_true, if_false, ↓reduceIte, Nat.reduceLT, Nat.reduceEqDiff, reduceCtorEq, Bool.false_eq_true, false_and, and_false, and_true, true_and, Nat.reduceAdd, Nat.reduceLeDiff, callA, List.getElem?_toArray, List.getElem?_cons_succ, List.getElem?_cons_zero, sb1, sb2, sb3, sb4, sliceU_i, sliceU_s, sliceU_p, sliceU_l, evalV, ayielded_eq, slotOf_eq, dstOf, yieldB, xo_move, xo_assign, xo_pick, xo_alloc, xo_box, xo_build, xo_bslice, xo_load, xo_store, xo_nn, xo_bin, xo_un, xo_conv, xo_mki, xo_mkf, xo_mks, xo_slice, xo_fa, xo_fv, xo_ia, xo_ix, xo_ext, xo_call, xo_panic, extractA, b_lss, b_leq, b_gtr, b_geq, b_eql, b_neq, b_add, b_sub, b_mul, b_and, b_or, b_xor, b_shl, b_shr, b_quo, b_rem, u_not, u_neg, wr_i64, wr_u64, wr_u32, wr_u8, wr_i32, wr_u16, wr_i16, wr_i8, dec_t, dec_f, ieq_t, ieq_f, ine_t, ine_f, blkOf_cells, heap_set_same, heap_set_ne, heap_new_same, heap_new_ne, ASt.set_ctr, ASt.new_ctr, set_set', ic_lit, ic_agg, ic_ptr, ic_iptr, ic_slice, ic_islice, ic_func, ic_iface, boxA, newA, List.all_cons, List.all_nil, Bool.and_self, Bool.and_true, Bool.true_and, cs_lit, cs_agg, cs_ptr, cs_iptr, cs_slice, cs_islice, cs_func, cs_iface, fillA, putL, setsE, eo_lit, eo_agg, eo_ptr, eo_iptr, eo_slice, eo_islice, eo_func, eo_iface, eo_byte, List.set_cons_zero, List.set_cons_succ, List.length_cons, List.length_nil, Nat.reduceBEq, Nat.reduceBNe, beq_self_eq_true, Bool.not_true, Bool.not_false, Nat.zero_add, Nat.reduceMul, List.map_nil, List.drop_succ_cons, List.drop_zero, List.take_succ_cons, List.take_zero, List.nil_append, List.cons_append, Int.toNat_natCast, sl_set, sl_get, sl_len, upd_app, valOf_lit, ite_t, ite_f, str_size, q0, q9, ex, c2] <;> rfl) ?_
      exact k _ q0 q5 q6 q9
    | true =>
      have hs := tw_step (p := digc) hb hD
      have hadd : (j : Int) + 1 = ((j + 1 : Nat) : Int) := by omega
      rw [hD] at c2
      obtain ⟨n, hn⟩ : ∃ n, n = b.toNat := ⟨_, rfl⟩
      rw [← hn] at ex c2
      clear hb
      refine aw_run 0 (by simp (maxSteps := 5000000) (disch := first | assumption | omega | (simp only [ASt.set_ctr, ASt.new_ctr] <;> omega)) only [S25_0_e.down, S25_1_e.down, S25_2_e.down, S25_3_e.down, S25_4_e.down, S25_5_e.down, S25_6_e.down, S25_7_e.down, o_lent_9, o_bd_52, hint_25_21, o_bs_46_1, hint_25_22, bi_app, o_ixt_9, cf_48, cf_49, cf_50, o_cut_9_lh, o_cut_9_l, o_cut_9_h, hint_25_104, hint_25_105, cf_51, hint_25_166, hint_25_167, hint_25_201, hint_25_202, AVal.undef, sbn1, sbn2, aexec, aops, aop, Region.wanted, aeval, aput, aseq, ablock, ahint, absOf, flat, nilCheckA, ANext.ofP, evals, evalPs, evalO, aresults, aresults1, aresult, aend, Option.map_some, Option.bind_some, if_true, if_false, ↓reduceIte, Nat.reduceLT, Nat.reduceEqDiff, reduceCtorEq, Bool.false_eq_true, false_and, and_false, and_true, true_and, Nat.reduceAdd, Nat.reduceLeDiff, callA, List.getElem?_toArray, List.getElem?_cons_succ, List.getElem?_cons_zero, sb1, sb2, sb3, sb4, sliceU_i, sliceU_s, sliceU_p, sliceU_l, evalV, ayielded_eq, slotOf_eq, dstOf, yieldB, xo_move, xo_assign, xo_pick, xo_alloc, xo_box, xo_build, xo_bslice, xo_load, xo_store, xo_nn, xo_bin, xo_un, xo_conv, xo_mki, xo_mkf, xo_mks, xo_slice, xo_fa, xo_fv, xo_ia, xo_ix, xo_ext, xo_call, xo_panic, extractA, b_lss, b_leq, b_gtr, b_geq, b_eql, b_neq, b_add, b_sub, b_mul, b_and, b_or, b_xor, b_shl, b_shr, b_quo, b_rem, u_not, u_neg, wr_i64, wr_u64, wr_u32, wr_u8, wr_i32, wr_u16, wr_i16, wr_i8, dec_t, dec_f, ieq_t, ieq_f, ine_t, ine_f, blkOf_cells, heap_set_same, heap_set_ne, heap_new_same, heap_new_ne, ASt.set_ctr, ASt.new_ctr, set_set', ic_lit, ic_agg, ic_ptr, ic_iptr, ic_slice, ic_islice, ic_func, ic_iface, boxA, newA, List.all_cons, List.all_nil, Bool.and_self, Bool.and_true, Bool.true_and, cs_lit, cs_agg, cs_ptr, cs_iptr, cs_slice, cs_islice, cs_func, cs_iface, fillA, putL, setsE, eo_lit, eo_agg, eo_ptr, eo_iptr, eo_slice, eo_islice, eo_func, eo_iface, eo_byte, List.set_cons_zero, List.set_cons_succ, List.length_cons, List.length_nil, Nat.reduceBEq, Nat.reduceBNe, beq_self_eq_true, Bool.not_true, Bool.not_false, Nat.zero_add, Nat.reduceMul, List.map_nil, List.drop_succ_cons, List.drop_zero, List.take_succ_cons, List.take_zero, List.nil_append, List.cons_append, Int.toNat_natCast, sl_set, sl_get, sl_len, upd_app, valOf_lit, ite_t, ite_f, str_size, q0, q9, ex, hadd, c2] <;> rfl) ?_
      exact ⟨_, rfl, l.length - (j + 1), by omega, rfl, j + 1, rfl, by omega, q0, q5, q6, rfl, by rw [← hs]; exact hE⟩
  · have hs := tw_end (p := digc) (l := l) (j := j) (by omega)
    rw [hs] at hE
    rw [← hE] at k
    clear hE hs
    refine aw_run 0 (by simp (maxSteps := 5000000) (disch := first | assumption | omega | (simp only [ASt.set_ctr, ASt.new_ctr] <;> omega)) only [S25_0_e.down, S25_1_e.down, S25_2_e.down, S25_3_e.down, S25_4_e.down, S25_5_e.down, S25_6_e.down, S25_7_e.down, o_lent_9, o_bd_52, hint_25_21, o_bs_46_1, hint_25_22, bi_app, o_ixt_9, cf_48, cf_49, cf_50, o_cut_9_lh, o_cut_9_l, o_cut_9_h, hint_25_104, hint_25_105, cf_51, hint_25_166, hint_25_167, hint_25_201, hint_25_202, AVal.undef, sbn1, sbn2, aexec, aops, aop, Region.wanted, aeval, aput, aseq, ablock, ahint, absOf, flat, nilCheckA, ANext.ofP, evals, evalPs, evalO, aresults, aresults1, aresult, aend, Option.map_some, Option.bind_some, if_true, if_false, ↓reduceIte, Nat.reduceLT, Nat.reduceEqDiff, reduceCtorEq, Bool.false_eq_true, false_and, and_false, and_true, true_and, Nat.reduceAdd, Nat.reduceLeDiff, callA, List.getElem?_toArray, List.getElem?_cons_succ, List.getElem?_cons_zero, sb1, sb2, sb3, sb4, sliceU_i, sliceU_s, sliceU_p, sliceU_l, evalV, ayielded_eq, slotOf_eq, dstOf, yieldB, xo_move, xo_assign, xo_pick, xo_alloc, xo_box, xo_build, xo_bslice, xo_load, xo_store, xo_nn, xo_bin, xo_un, xo_conv, xo_mki, xo_mkf, xo_mks, xo_slice, xo_fa, xo_fv, xo_ia, xo_ix, xo_ext, xo_call, xo_panic, extractA, b_lss, b_leq, b_gtr, b_geq, b_eql, b_neq, b_add, b_sub, b_mul, b_and, b_or, b_xor, b_shl, b_shr, b_quo, b_rem, u_not, u_neg, wr_i64, wr_u64, wr_u32, wr_u8, wr_i32, wr_u16, wr_i16, wr_i8, dec_t, dec_f, ieq_t, ieq_f, ine_t, ine_f, blkOf_cells, heap_set_same, heap_set_ne, heap_new_same, heap_new_ne, ASt.set_ctr, ASt.new_ctr, set_set', ic_lit, ic_agg, ic_ptr, ic_iptr, ic_slice, ic_islice, ic_func, ic_iface, boxA, newA, List.all_cons, List.all_nil, Bool.and_self, Bool.and_true, Bool.true_and, cs_lit, cs_agg, cs_ptr, cs_iptr, cs_slice, cs_islice, cs_func, cs_iface, fillA, putL, setsE, eo_lit, eo_agg, eo_ptr, eo_iptr, eo_slice, eo_islice, eo_func, eo_iface, eo_byte, List.set_cons_zero, List.set_cons_succ, List.length_cons, List.length_nil, Nat.reduceBEq, Nat.reduceBNe, beq_self_eq_true, Bool.not_true, Bool.not_false, Nat.zero_add, Nat.reduceMul, List.map_nil, List.drop_succ_cons, List.drop_zero, List.take_succ_cons, List.take_zero, List.nil_append, List.cons_append, Int.toNat_natCast, sl_set, sl_get, sl_len, upd_app, valOf_lit, ite_t, ite_f, str_size, q0, q9] <;> rfl) ?_
    exact k _ q0 q5 q6 q9
/-- is there an i -/
theorem l3b {l : List UInt8} {f : Nat → AVal} {st : ASt} {Q : APost} {j : Nat} (hj : j ≤ l.length) (hl : l.length ≤ 100000) (h0 : f 0 = .lit (.string ⟨l.toArray⟩)) (h9 : f 9 = .lit (.int .i64 (j : Int)))
    (k : ∀ f', f' 0 = f 0 → f' 5 = f 5 → f' 6 = f 6 → f' 9 = .lit (.int .i64 ((if (l.drop j).head? = some 105 then j + 1 else j : Nat) : Int)) → Q .normal (Sl 203 f') st) :
    Wp E 25 W3a (Sl 203 f) st Q := by
  rw [h0] at k
  by_cases hlt : j < l.length
  · obtain ⟨b, r, hb⟩ := at_drop hlt
    have ex := at_ix (drop_at hb).1
    by_cases h105 : b.toNat = 105
    · have e : b = 105 := UInt8.toNat_inj.1 (h105.trans rfl)
      rw [hb, e, List.head?_cons, if_pos rfl] at k
      have hadd : (j : Int) + 1 = ((j + 1 : Nat) : Int) := by omega
      clear hb e
      refine aw_run 0 (by simp (maxSteps := 5000000) (disch := first | assumption | omega | (simp only [ASt.set_ctr, ASt.new_ctr] <;> omega)) only [W3a_e.down, S25_0_e.down, S25_1_e.down, S25_2_e.down, S25_3_e.down, S25_4_e.down, S25_5_e.down, S25_6_e.down, S25_7_e.down, o_lent_9, o_bd_52, hint_25_21, o_bs_46_1, hint_25_22, bi_app, o_ixt_9, cf_48, cf_49, cf_50, o_cut_9_lh, o_cut_9_l, o_cut_9_h, hint_25_104, hint_25_105, cf_51, hint_25_166, hint_25_167, hint_25_201, hint_25_202, AVal.undef, sbn1, sbn2, aexec, aops, aop, Region.wanted, aeval, aput, aseq, ablock, ahint, absOf, flat, nilCheckA, ANext.ofP, evals, evalPs, evalO, aresults, aresults1, aresult, aend, Option.map_some, Option.bind_some, if_true, if_false, ↓reduceIte, Nat.reduceLT, Nat.reduceEqDiff, reduceCtorEq, Bool.false_eq_true, false_and, and_false, and_true, true_and, Nat.reduceAdd, Nat.reduceLeDiff, callA, List.getElem?_toArray, List.getElem?_cons_succ, List.getElem?_cons_zero, sb1, sb2, sb3, sb4, sliceU_i, sliceU_s, sliceU_p, sliceU_l, evalV, ayielded_eq, slotOf_eq, dstOf, yieldB, xo_move, xo_assign, xo_pick, xo_alloc, xo_box, xo_build, xo_bslice, xo_load, xo_store, xo_nn, xo_bin, xo_un, xo_conv, xo_mki, xo_mkf, xo_mks, xo_slice, xo_fa, xo_fv, xo_ia, xo_ix, xo_ext, xo_call, xo_panic, extractA, b_lss, b_leq, b_gtr, b_geq, b_eql, b_neq, b_add, b_sub, b_mul, b_and, b_or, b_xor, b_shl, b_shr, b_quo, b_rem, u_not, u_neg, wr_i64, wr_u64, wr_u32, wr_u8, wr_i32, wr_u16, wr_i16, wr_i8, dec_t, dec_f, ieq_t, ieq_f, ine_t, ine_f, blkOf_cells, heap_set_same, heap_set_ne, heap_new_same, heap_new_ne, ASt.set_ctr, ASt.new_ctr, set_set', ic_lit, ic_agg, ic_ptr, ic_iptr, ic_slice, ic_islice, ic_func, ic_iface, boxA, newA, List.all_cons, List.all_nil, Bool.and_self, Bool.and_true, Bool.true_and, cs_lit, cs_agg, cs_ptr, cs_iptr, cs_slice, cs_islice, cs_func, cs_iface, fillA, putL, setsE, eo_lit, eo_agg, eo_ptr, eo_iptr, eo_slice, eo_islice, eo_func, eo_iface, eo_byte, List.set_cons_zero, List.set_cons_succ, List.length_cons, List.length_nil, Nat.reduceBEq, Nat.reduceBNe, beq_self_eq_true, Bool.not_true, Bool.not_false, Nat.zero_add, Nat.reduceMul, List.map_nil, List.drop_succ_cons, List.drop_zero, List.take_succ_cons, List.take_zero, List.nil_append, List.cons_append, Int.toNat_natCast, sl_set, sl_get, sl_len, upd_app, valOf_lit, ite_t, ite_f, str_size, h0, h9, ex, h105, hadd] <;> rfl) ?_
      exact k _ h0 rfl rfl rfl
    · rw [hb, List.head?_cons, if_neg (fun e => h105 (by rw [Option.some.inj e]; rfl))] at k
      obtain ⟨n, hn⟩ : ∃ n, n = b.toNat := ⟨_, rfl⟩
      rw [← hn] at ex h105
      clear hb
      refine aw_run 0 (by simp (maxSteps := 5000000) (disch := first | assumption | omega | (simp only [ASt.set_ctr, ASt.new_ctr] <;> omega)) only [W3a_e.down, S25_0_e.down, S25_1_e.down, S25_2_e.down, S25_3_e.down, S25_4_e.down, S25_5_e.down, S25_6_e.down, S25_7_e.down, o_lent_9, o_bd_52, hint_25_21, o_bs_46_1, hint_25_22, bi_app, o_ixt_9, cf_48, cf_49, cf_50, o_cut_9_lh, o_cut_9_l, o_cut_9_h, hint_25_104, hint_25_105, cf_51, hint_25_166, hint_25_167, hint_25_201, hint_25_202, AVal.undef, sbn1, sbn2, aexec, aops, aop, Region.wanted, aeval, aput, aseq, ablock, ahint, absOf, flat, nilCheckA, ANext.ofP, evals, evalPs, evalO, aresults, aresults1, aresult, aend, Option.map_some, Option.bind_some, if_true, if_false, ↓reduceIte, Nat.reduceLT, Nat.reduceEqDiff, reduceCtorEq, Bool.false_eq_true, false_and, and_false, and_true, true_and, Nat.reduceAdd, Nat.reduceLeDiff, callA, List.getElem?_toArray, List.getElem?_cons_succ, List.getElem?_cons_zero, sb1, sb2, sb3, sb4, sliceU_i, sliceU_s, sliceU_p, sliceU_l, evalV, ayielded_eq, slotOf_eq, dstOf, yieldB, xo_move, xo_assign, xo_pick, xo_alloc, xo_box, xo_build, xo_bslice, xo_load, xo_store, xo_nn, xo_bin, xo_un, xo_conv, xo_mki, xo_mkf, xo_mks, xo_slice, xo_fa, xo_fv, xo_ia, xo_ix, xo_ext, xo_call, xo_panic, extractA, b_lss, b_leq, b_gtr, b_geq, b_eql, b_neq, b_add, b_sub, b_mul, b_and, b_or, b_xor, b_shl, b_shr, b_quo, b_rem, u_not, u_neg, wr_i64, wr_u64, wr_u32, wr_u8, wr_i32, wr_u16, wr_i16, wr_i8, dec_t, dec_f, ieq_t, ieq_f, ine_t, ine_f, blkOf_cells, heap_set_same, heap_set_ne, heap_new_same, heap_new_ne, ASt.set_ctr, ASt.new_ctr, set_set', ic_lit, ic_agg, ic_ptr, ic_iptr, ic_slice, ic_islice, ic_func, ic_iface, boxA, newA, List.all_cons, List.all_nil, Bool.and_self, Bool.and_true, Bool.true_and, cs_lit, cs_agg, cs_ptr, cs_iptr, cs_slice, cs_islice, cs_func, cs_iface, fillA, putL, setsE, eo_lit, eo_agg, eo_ptr, eo_iptr, eo_slice, eo_islice, eo_func, eo_iface, eo_byte, List.set_cons_zero, List.set_cons_succ, List.length_cons, List.length_nil, Nat.reduceBEq, Nat.reduceBNe, beq_self_eq_true, Bool.not_true, Bool.not_false, Nat.zero_add, Nat.reduceMul, List.map_nil, List.drop_succ_cons, List.drop_zero, List.take_succ_cons, List.take_zero, List.nil_append, List.cons_append, Int.toNat_natCast, sl_set, sl_get, sl_len, upd_app, valOf_lit, ite_t, ite_f, str_size, h0, h9, ex] <;> rfl) ?_
      exact k _ h0 rfl rfl h9
  · rw [List.drop_of_length_le (by omega), List.head?_nil, if_neg (by simp)] at k
    refine aw_run 0 (by simp (maxSteps := 5000000) (disch := first | assumption | omega | (simp only [ASt.set_ctr, ASt.new_ctr] <;> omega)) only [W3a_e.down, S25_0_e.down, S25_1_e.down, S25_2_e.down, S25_3_e.down, S25_4_e.down, S25_5_e.down, S25_6_e.down, S25_7_e.down, o_lent_9, o_bd_52, hint_25_21, o_bs_46_1, hint_25_22, bi_app, o_ixt_9, cf_48, cf_49, cf_50, o_cut_9_lh, o_cut_9_l, o_cut_9_h, hint_25_104, hint_25_105, cf_51, hint_25_166, hint_25_167, hint_25_201, hint_25_202, AVal.undef, sbn1, sbn2, aexec, aops, aop, Region.wanted, aeval, aput, aseq, ablock, ahint, absOf, flat, nilCheckA, ANext.ofP, evals, evalPs, evalO, aresults, aresults1, aresult, aend, Option.map_some, Option.bind_some, if_true, if_false, ↓reduceIte, Nat.reduceLT, Nat.reduceEqDiff, reduceCtorEq, Bool.false_eq_true, false_and, and_false, and_true, true_and, Nat.reduceAdd, Nat.reduceLeDiff, callA, List.getElem?_toArray, List.getElem?_cons_succ, List.getElem?_cons_zero, sb1, sb2, sb3, sb4, sliceU_i, sliceU_s, sliceU_p, sliceU_l, evalV, ayielded_eq, slotOf_eq, dstOf, yieldB, xo_move, xo_assign, xo_pick, xo_alloc, xo_box, xo_build, xo_bslice, xo_load, xo_store, xo_nn, xo_bin, xo_un, xo_conv, xo_mki, xo_mkf, xo_mks, xo_slice, xo_fa, xo_fv, xo_ia, xo_ix, xo_ext, xo_call, xo_panic, extractA, b_lss, b_leq, b_gtr, b_geq, b_eql, b_neq, b_add, b_sub, b_mul, b_and, b_or, b_xor, b_shl, b_shr, b_quo, b_rem, u_not, u_neg, wr_i64, wr_u64, wr_u32, wr_u8, wr_i32, wr_u16, wr_i16, wr_i8, dec_t, dec_f, ieq_t, ieq_f, ine_t, ine_f, blkOf_cells, heap_set_same, heap_set_ne, heap_new_same, heap_new_ne, ASt.set_ctr, ASt.new_ctr, set_set', ic_lit, ic_agg, ic_ptr, ic_iptr, ic_slice, ic_islice, ic_func, ic_iface, boxA, newA, List.all_cons, List.all_nil, Bool.and_self, Bool.and_true, Bool.true_and, cs_lit, cs_agg, cs_ptr, cs_iptr, cs_slice, cs_islice, cs_func, cs_iface, fillA, putL, setsE, eo_lit, eo_agg, eo_ptr, eo_iptr, eo_slice, eo_islice, eo_func, eo_iface, eo_byte, List.set_cons_zero, List.set_cons_succ, List.length_cons, List.length_nil, Nat.reduceBEq, Nat.reduceBNe, beq_self_eq_true, Bool.not_true, Bool.not_false, Nat.zero_add, Nat.reduceMul, List.map_nil, List.drop_succ_cons, List.drop_zero, List.take_succ_cons, List.take_zero, List.nil_append, List.cons_append, Int.toNat_natCast, sl_set, sl_get, sl_len, upd_app, valOf_lit, ite_t, ite_f, str_size, h0, h9] <;> rfl) ?_
    exact k _ h0 rfl rfl h9
/-- does a word's sign follow -/
theorem l3c {l : List UInt8} {f : Nat → AVal} {st : ASt} {Q : APost} {j : Nat} (hj : j ≤ l.length) (hl : l.length ≤ 100000) (h0 : f 0 = .lit (.string ⟨l.toArray⟩)) (h9 : f 9 = .lit (.int .i64 (j : Int)))
    (ke : (l.drop j).head?.any wordc = true → ∀ f', f' 2 = .lit (.slice none 0 0) → f' 3 = f 6 → f' 4 = .lit (.int .i64 1) → Q .ret (Sl 203 f') st)
    (k : (l.drop j).head?.any wordc = false → ∀ f', f' 0 = f 0 → f' 5 = f 5 → f' 6 = f 6 → f' 9 = f 9 → Q .normal (Sl 203 f') st) :
    Wp E 25 W3b (Sl 203 f) st Q := by
  rw [h0, h9] at k
  by_cases hlt : j < l.length
  · obtain ⟨b, r, hb⟩ := at_drop hlt
    have ex := at_ix (drop_at hb).1
    have c1 := letter_rw b.toNat st
    have c2 := digit_rw b.toNat st
    rw [hb, List.head?_cons] at ke k
    have hw : (some b).any wordc = (isLet b.toNat || isDig b.toNat) := rfl
    rw [hw] at ke k
    cases hL : isLet b.toNat with
    | true =>
      rw [hL] at c1 ke
      have kk := ke rfl
      obtain ⟨n, hn⟩ : ∃ n, n = b.toNat := ⟨_, rfl⟩
      rw [← hn] at ex c1
      clear hb ke k c2 hw
      refine aw_run 0 (by simp (maxSteps := 5000000) (disch := first | assumption | omega | (simp only [ASt.set_ctr, ASt.new_ctr] <;> omega)) only [W3b_e.down, S25_0_e.down, S25_1_e.down, S25_2_e.down, S25_3_e.down, S25_4_e.down, S25_5_e.down, S25_6_e.down, S25_7_e.down, o_lent_9, o_bd_52, hint_25_21, o_bs_46_1, hint_25_22, bi_app, o_ixt_9, cf_48, cf_49, cf_50, o_cut_9_lh, o_cut_9_l, o_cut_9_h, hint_25_104, hint_25_105, cf_51, hint_25_166, hint_25_167, hint_25_201, hint_25_202, AVal.undef, sbn1, sbn2, aexec, aops, aop, Region.wanted, aeval, aput, aseq, ablock, ahint, absOf, flat, nilCheckA, ANext.ofP, evals, evalPs, evalO, aresults, aresults1, aresult, aend, Option.map_some, Option.bind_some, if_true, if_false, ↓reduceIte, Nat.reduceLT, Nat.reduceEqDiff, reduceCtorEq, Bool.false_eq_true, false_and, and_false, and_true, true_and, Nat.reduceAdd, Nat.reduceLeDiff, callA, List.getElem?_toArray, List.getElem?_cons_succ, List.getElem?_cons_zero, sb1, sb2, sb3, sb4, sliceU_i, sliceU_s, sliceU_p, sliceU_l, evalV, ayielded_eq, slotOf_eq, dstOf, yieldB, xo_move, xo_assign, xo_pick, xo_alloc, xo_box, xo_build, xo_bslice, xo_load, xo_store, xo_nn, xo_bin, xo_un, xo_conv, xo_mki, xo_mkf, xo_mks, xo_slice, xo_fa, xo_fv, xo_ia, xo_ix, xo_ext, xo_call, xo_panic, extractA, b_lss, b_leq, b_gtr, b_geq, b_eql, b_neq, b_add, b_sub, b_mul, b_and, b_or, b_xor, b_shl, b_shr, b_quo, b_rem, u_not, u_neg, wr_i64, wr_u64, wr_u32, wr_u8, wr_i32, wr_u16, wr_i16, wr_i8, dec_t, dec_f, ieq_t, ieq_f, ine_t, ine_f, blkOf_cells, heap_set_same, heap_set_ne, heap_new_same, heap_new_ne, ASt.set_ctr, ASt.new_ctr, set_set', ic_lit, ic_agg, ic_ptr, ic_iptr, ic_slice, ic_islice, ic_func, ic_iface, boxA, newA, List.all_cons, List.all_nil, Bool.and_self, Bool.and_true, Bool.true_and, cs_lit, cs_agg, cs_ptr, cs_iptr, cs_slice, cs_islice, cs_func, cs_iface, fillA, putL, setsE, eo_lit, eo_agg, eo_ptr, eo_iptr, eo_slice, eo_islice, eo_func, eo_iface, eo_byte, List.set_cons_zero, List.set_cons_succ, List.length_cons, List.length_nil, Nat.reduceBEq, Nat.reduceBNe, beq_self_eq_true, Bool.not_true, Bool.not_false, Nat.zero_add, Nat.reduceMul, List.map_nil, List.drop_succ_cons, List.drop_zero, List.take_succ_cons, List.take_zero, List.nil_append, List.cons_append, Int.toNat_natCast, sl_set, sl_get, sl_len, upd_app, valOf_lit, ite_t, ite_f, str_size, h0, h9, ex, c1] <;> rfl) ?_
      exact kk _ rfl rfl rfl
    | false =>
      rw [hL] at c1 ke k
      cases hD : isDig b.toNat with
      | true =>
        rw [hD] at c2 ke
        have kk := ke rfl
        obtain ⟨n, hn⟩ : ∃ n, n = b.toNat := ⟨_, rfl⟩
        rw [← hn] at ex c1 c2
        clear hb ke k hw
        refine aw_run 0 (by simp (maxSteps := 5000000) (disch := first | assumption | omega | (simp only [ASt.set_ctr, ASt.new_ctr] <;> omega)) only [W3b_e.down, S25_0_e.down, S25_1_e.down, S25_2_e.down, S25_3_e.down, S25_4_e.down, S25_5_e.down, S25_6_e.down, S25_7_e.down, o_lent_9, o_bd_52, hint_25_21, o_bs_46_1, hint_25_22, bi_app, o_ixt_9, cf_48, cf_49, cf_50, o_cut_9_lh, o_cut_9_l, o_cut_9_h, hint_25_104, hint_25_105, cf_51, hint_25_166, hint_25_167, hint_25_201, hint_25_202, AVal.undef, sbn1, sbn2, aexec, aops, aop, Region.wanted, aeval, aput, aseq, ablock, ahint, absOf, flat, nilCheckA, ANext.ofP, evals, evalPs, evalO, aresults, aresults1, aresult, aend, Option.map_some, Option.bind_some, if_true, if_false, ↓reduceIte, Nat.reduceLT, Nat.reduceEqDiff, reduceCtorEq, Bool.false_eq_true, false_and, and_false, and_true, true_and, Nat.reduceAdd, Nat.reduceLeDiff, callA, List.getElem?_toArray, List.getElem?_cons_succ, List.getElem?_cons_zero, sb1, sb2, sb3, sb4, sliceU_i, sliceU_s, sliceU_p, sliceU_l, evalV, ayielded_eq, slotOf_eq, dstOf, yieldB, xo_move, xo_assign, xo_pick, xo_alloc, xo_box, xo_build, xo_bslice, xo_load, xo_store, xo_nn, xo_bin, xo_un, xo_conv, xo_mki, xo_mkf, xo_mks, xo_slice, xo_fa, xo_fv, xo_ia, xo_ix, xo_ext, xo_call, xo_panic, extractA, b_lss, b_leq, b_gtr, b_geq, b_eql, b_neq, b_add, b_sub, b_mul, b_and, b_or, b_xor, b_shl, b_shr, b_quo, b_rem, u_not, u_neg, wr_i64, wr_u64, wr_u32, wr_u8, wr_i32, wr_u16, wr_i16, wr_i8, dec_t, dec_f, ieq_t, ieq_f, ine_t, ine_f, blkOf_cells, heap_set_same, heap_set_ne, heap_new_same, heap_new_ne, ASt.set_ctr, ASt.new_ctr, set_set', ic_lit, ic_agg, ic_ptr, ic_iptr, ic_slice, ic_islice, ic_func, ic_iface, boxA, newA, List.all_cons, List.all_nil, Bool.and_self, Bool.and_true, Bool.true_and, cs_lit, cs_agg, cs_ptr, cs_iptr, cs_slice, cs_islice, cs_func, cs_iface, fillA, putL, setsE, eo_lit, eo_agg, eo_ptr, eo_iptr, eo_slice, eo_islice, eo_func, eo_iface, eo_byte, List.set_cons_zero, List.set_cons_succ, List.length_cons, List.length_nil, Nat.reduceBEq, Nat.reduceBNe, beq_self_eq_true, Bool.not_true, Bool.not_false, Nat.zero_add, Nat.reduceMul, List.map_nil, List.drop_succ_cons, List.drop_zero, List.take_succ_cons, List.take_zero, List.nil_append, List.cons_append, Int.toNat_natCast, sl_set, sl_get, sl_len, upd_app, valOf_lit, ite_t, ite_f, str_size, h0, h9, ex, c1, c2] <;> rfl) ?_
        exact kk _ rfl rfl rfl
      | false =>
        rw [hD] at c2 k
        have kk := k rfl
        obtain ⟨n, hn⟩ : ∃ n, n = b.toNat := ⟨_, rfl⟩
        rw [← hn] at ex c1 c2
        clear hb ke k hw
        refine aw_run 0 (by simp (maxSteps := 5000000) (disch := first | assumption | omega | (simp only [ASt.set_ctr, ASt.new_ctr] <;> omega)) only [W3b_e.down, S25_0_e.down, S25_1_e.down, S25_2_e.down, S25_3_e.down, S25_4_e.down, S25_5_e.down, S25_6_e.down, S25_7_e.down, o_lent_9, o_bd_52, hint_25_21, o_bs_46_1, hint_25_22, bi_app, o_ixt_9, cf_48, cf_49, cf_50, o_cut_9_lh, o_cut_9_l, o_cut_9_h, hint_25_104, hint_25_105, cf_51, hint_25_166, hint_25_167, hint_25_201, hint_25_202, AVal.undef, sbn1, sbn2, aexec, aops, aop, Region.wanted, aeval, aput, aseq, ablock, ahint, absOf, flat, nilCheckA, ANext.ofP, evals, evalPs, evalO, aresults, aresults1, aresult, aend, Option.map_some, Option.bind_some, if_true, if_false, ↓reduceIte, Nat.reduceLT, Nat.reduceEqDiff, reduceCtorEq, Bool.false_eq_true, false_and, and_false, and_true, true_and, Nat.reduceAdd, Nat.reduceLeDiff, callA, List.getElem?_toArray, List.getElem?_cons_succ, List.getElem?_cons_zero, sb1, sb2, sb3, sb4, sliceU_i, sliceU_s, sliceU_p, sliceU_l, evalV, ayielded_eq, slotOf_eq, dstOf, yieldB, xo_move, xo_assign, xo_pick, xo_alloc, xo_box, xo_build, xo_bslice, xo_load, xo_store, xo_nn, xo_bin, xo_un, xo_conv, xo_mki, xo_mkf, xo_mks, xo_slice, xo_fa, xo_fv, xo_ia, xo_ix, xo_ext, xo_call, xo_panic, extractA, b_lss, b_leq, b_gtr, b_geq, b_eql, b_neq, b_add, b_sub, b_mul, b_and, b_or, b_xor, b_shl, b_shr, b_quo, b_rem, u_not, u_neg, wr_i64, wr_u64, wr_u32, wr_u8, wr_i32, wr_u16, wr_i16, wr_i8, dec_t, dec_f, ieq_t, ieq_f, ine_t, ine_f, blkOf_cells, heap_set_same, heap_set_ne, heap_new_same, heap_new_ne, ASt.set_ctr, ASt.new_ctr, set_set', ic_lit, ic_agg, ic_ptr, ic_iptr, ic_slice, ic_islice, ic_func, ic_iface, boxA, newA, List.all_cons, List.all_nil, Bool.and_self, Bool.and_true, Bool.true_and, cs_lit, cs_agg, cs_ptr, cs_iptr, cs_slice, cs_islice, cs_func, cs_iface, fillA, putL, setsE, eo_lit, eo_agg, eo_ptr, eo_iptr, eo_slice, eo_islice, eo_func, eo_iface, eo_byte, List.set_cons_zero, List.set_cons_succ, List.length_cons, List.length_nil, Nat.reduceBEq, Nat.reduceBNe, beq_self_eq_true, Bool.not_true, Bool.not_false, Nat.zero_add, Nat.reduceMul, List.map_nil, List.drop_succ_cons, List.drop_zero, List.take_succ_cons, List.take_zero, List.nil_append, List.cons_append, Int.toNat_natCast, sl_set, sl_get, sl_len, upd_app, valOf_lit, ite_t, ite_f, str_size, h0, h9, ex, c1, c2] <;> rfl) ?_
        exact kk _ h0 rfl rfl h9
  · rw [List.drop_of_length_le (by omega)] at k
    have kk := k rfl
    clear k ke
    refine aw_run 0 (by simp (maxSteps := 5000000) (disch := first | assumption | omega | (simp only [ASt.set_ctr, ASt.new_ctr] <;> omega)) only [W3b_e.down, S25_0_e.down, S25_1_e.down, S25_2_e.down, S25_3_e.down, S25_4_e.down, S25_5_e.down, S25_6_e.down, S25_7_e.down, o_lent_9, o_bd_52, hint_25_21, o_bs_46_1, hint_25_22, bi_app, o_ixt_9, cf_48, cf_49, cf_50, o_cut_9_lh, o_cut_9_l, o_cut_9_h, hint_25_104, hint_25_105, cf_51, hint_25_166, hint_25_167, hint_25_201, hint_25_202, AVal.undef, sbn1, sbn2, aexec, aops, aop, Region.wanted, aeval, aput, aseq, ablock, ahint, absOf, flat, nilCheckA, ANext.ofP, evals, evalPs, evalO, aresults, aresults1, aresult, aend, Option.map_some, Option.bind_some, if_true, if_false, ↓reduceIte, Nat.reduceLT, Nat.reduceEqDiff, reduceCtorEq, Bool.false_eq_true, false_and, and_false, and_true, true_and, Nat.reduceAdd, Nat.reduceLeDiff, callA, List.getElem?_toArray, List.getElem?_cons_succ, List.getElem?_cons_zero, sb1, sb2, sb3, sb4, sliceU_i, sliceU_s, sliceU_p, sliceU_l, evalV, ayielded_eq, slotOf_eq, dstOf, yieldB, xo_move, xo_assign, xo_pick, xo_alloc, xo_box, xo_build, xo_bslice, xo_load, xo_store, xo_nn, xo_bin, xo_un, xo_conv, xo_mki, xo_mkf, xo_mks, xo_slice, xo_fa, xo_fv, xo_ia, xo_ix, xo_ext, xo_call, xo_panic, extractA, b_lss, b_leq, b_gtr, b_geq, b_eql, b_neq, b_add, b_sub, b_mul, b_and, b_or, b_xor, b_shl, b_shr, b_quo, b_rem, u_not, u_neg, wr_i64, wr_u64, wr_u32, wr_u8, wr_i32, wr_u16, wr_i16, wr_i8, dec_t, dec_f, ieq_t, ieq_f, ine_t, ine_f, blkOf_cells, heap_set_same, heap_set_ne, heap_new_same, heap_new_ne, ASt.set_ctr, ASt.new_ctr, set_set', ic_lit, ic_agg, ic_ptr, ic_iptr, ic_slice, ic_islice, ic_func, ic_iface, boxA, newA, List.all_cons, List.all_nil, Bool.and_self, Bool.and_true, Bool.true_and, cs_lit, cs_agg, cs_ptr, cs_iptr, cs_slice, cs_islice, cs_func, cs_iface, fillA, putL, setsE, eo_lit, eo_agg, eo_ptr, eo_iptr, eo_slice, eo_islice, eo_func, eo_iface, eo_byte, List.set_cons_zero, List.set_cons_succ, List.length_cons, List.length_nil, Nat.reduceBEq, Nat.reduceBNe, beq_self_eq_true, Bool.not_true, Bool.not_false, Nat.zero_add, Nat.reduceMul, List.map_nil, List.drop_succ_cons, List.drop_zero, List.take_succ_cons, List.take_zero, List.nil_append, List.cons_append, Int.toNat_natCast, sl_set, sl_get, sl_len, upd_app, valOf_lit, ite_t, ite_f, str_size, h0, h9] <;> rfl) ?_
    exact kk _ h0 rfl rfl h9
/-- its number -/
theorem l3d {l tx : List UInt8} {f : Nat → AVal} {st : ASt} {Q : APost} {i j a b : Nat} {ok : Bool} (hij : i ≤ j) (hj : j ≤ l.length) (hl : l.length ≤ 100000) (h0 : f 0 = .lit (.string ⟨l.toArray⟩)) (h6 : f 6 = .lit (.int .i64 (i : Int))) (h9 : f 9 = .lit (.int .i64 (j : Int)))
    (ht : (l.drop i).take (j - i) = tx) (hp : rw E 51 [str tx] st = some (.returned (.tuple [.lit (.complex .f64 a b), .lit (.bool ok)]), st))
    (ke : ok = false → ∀ f', f' 2 = .lit (.slice none 0 0) → f' 3 = f 6 → f' 4 = .lit (.int .i64 6) → Q .ret (Sl 203 f') st)
    (k : ok = true → ∀ f', f' 0 = f 0 → f' 5 = f 5 → f' 6 = f 6 → f' 7 = .lit (.complex .f64 a b) → f' 9 = f 9 → Q .normal (Sl 203 f') st) :
    Wp E 25 W3c (Sl 203 f) st Q := by
  have hcut := cut_at (l := l) hij hj
  rw [ht] at hcut
  unfold str at hp
  rw [h0, h6, h9] at k
  rw [h6] at ke
  clear ht
  cases ok with
  | true =>
    have kk := k rfl
    clear k ke
    refine aw_run 0 (by simp (maxSteps := 5000000) (disch := first | assumption | omega | (simp only [ASt.set_ctr, ASt.new_ctr] <;> omega)) only [W3c_e.down, S25_0_e.down, S25_1_e.down, S25_2_e.down, S25_3_e.down, S25_4_e.down, S25_5_e.down, S25_6_e.down, S25_7_e.down, o_lent_9, o_bd_52, hint_25_21, o_bs_46_1, hint_25_22, bi_app, o_ixt_9, cf_48, cf_49, cf_50, o_cut_9_lh, o_cut_9_l, o_cut_9_h, hint_25_104, hint_25_105, cf_51, hint_25_166, hint_25_167, hint_25_201, hint_25_202, AVal.undef, sbn1, sbn2, aexec, aops, aop, Region.wanted, aeval, aput, aseq, ablock, ahint, absOf, flat, nilCheckA, ANext.ofP, evals, evalPs, evalO, aresults, aresults1, aresult, aend, Option.map_some, Option.bind_some, if_true, if_false, ↓reduceIte, Nat.reduceLT, Nat.reduceEqDiff, reduceCtorEq, Bool.false_eq_true, false_and, and_false, and_true, true_and, Nat.reduceAdd, Nat.reduceLeDiff, callA, List.getElem?_toArray, List.getElem?_cons_succ, List.getElem?_cons_zero, sb1, sb2, sb3, sb4, sliceU_i, sliceU_s, sliceU_p, sliceU_l, evalV, ayielded_eq, slotOf_eq, dstOf, yieldB, xo_move, xo_assign, xo_pick, xo_alloc, xo_box, xo_build, xo_bslice, xo_load, xo_store, xo_nn, xo_bin, xo_un, xo_conv, xo_mki, xo_mkf, xo_mks, xo_slice, xo_fa, xo_fv, xo_ia, xo_ix, xo_ext, xo_call, xo_panic, extractA, b_lss, b_leq, b_gtr, b_geq, b_eql, b_neq, b_add, b_sub, b_mul, b_and, b_or, b_xor, b_shl, b_shr, b_quo, b_rem, u_not, u_neg, wr_i64, wr_u64, wr_u32, wr_u8, wr_i32, wr_u16, wr_i16, wr_i8, dec_t, dec_f, ieq_t, ieq_f, ine_t, ine_f, blkOf_cells, heap_set_same, heap_set_ne, heap_new_same, heap_new_ne, ASt.set_ctr, ASt.new_ctr, set_set', ic_lit, ic_agg, ic_ptr, ic_iptr, ic_slice, ic_islice, ic_func, ic_iface, boxA, newA, List.all_cons, List.all_nil, Bool.and_self, Bool.and_true, Bool.true_and, cs_lit, cs_agg, cs_ptr, cs_iptr, cs_slice, cs_islice, cs_func, cs_iface, fillA, putL, setsE, eo_lit, eo_agg, eo_ptr, eo_iptr, eo_slice, eo_islice, eo_func, eo_iface, eo_byte, List.set_cons_zero, List.set_cons_succ, List.length_cons, List.length_nil, Nat.reduceBEq, Nat.reduceBNe, beq_self_eq_true, Bool.not_true, Bool.not_false, Nat.zero_add, Nat.reduceMul, List.map_nil, List.drop_succ_cons, List.drop_zero, List.take_succ_cons, List.take_zero, List.nil_append, List.cons_append, Int.toNat_natCast, sl_set, sl_get, sl_len, upd_app, valOf_lit, ite_t, ite_f, h0, h6, h9, hcut, hp] <;> rfl) ?_
    exact kk _ h0 rfl h6 rfl h9
  | false =>
    have kk := ke rfl
    clear k ke
    refine aw_run 0 (by simp (maxSteps := 5000000) (disch := first | assumption | omega | (simp only [ASt.set_ctr, ASt.new_ctr] <;> omega)) only [W3c_e.down, S25_0_e.down, S25_1_e.down, S25_2_e.down, S25_3_e.down, S25_4_e.down, S25_5_e.down, S25_6_e.down, S25_7_e.down, o_lent_9, o_bd_52, hint_25_21, o_bs_46_1, hint_25_22, bi_app, o_ixt_9, cf_48, cf_49, cf_50, o_cut_9_lh, o_cut_9_l, o_cut_9_h, hint_25_104, hint_25_105, cf_51, hint_25_166, hint_25_167, hint_25_201, hint_25_202, AVal.undef, sbn1, sbn2, aexec, aops, aop, Region.wanted, aeval, aput, aseq, ablock, ahint, absOf, flat, nilCheckA, ANext.ofP, evals, evalPs, evalO, aresults, aresults1, aresult, aend, Option.map_some, Option.bind_some, if_true, if_false, ↓reduceIte, Nat.reduceLT, Nat.reduceEqDiff, reduceCtorEq, Bool.false_eq_true, false_and, and_false, and_true, true_and, Nat.reduceAdd, Nat.reduceLeDiff, callA, List.getElem?_toArray, List.getElem?_cons_succ, List.getElem?_cons_zero, sb1, sb2, sb3, sb4, sliceU_i, sliceU_s, sliceU_p, sliceU_l, evalV, ayielded_eq, slotOf_eq, dstOf, yieldB, xo_move, xo_assign, xo_pick, xo_alloc, xo_box, xo_build, xo_bslice, xo_load, xo_store, xo_nn, xo_bin, xo_un, xo_conv, xo_mki, xo_mkf, xo_mks, xo_slice, xo_fa, xo_fv, xo_ia, xo_ix, xo_ext, xo_call, xo_panic, extractA, b_lss, b_leq, b_gtr, b_geq, b_eql, b_neq, b_add, b_sub, b_mul, b_and, b_or, b_xor, b_shl, b_shr, b_quo, b_rem, u_not, u_neg, wr_i64, wr_u64, wr_u32, wr_u8, wr_i32, wr_u16, wr_i16, wr_i8, dec_t, dec_f, ieq_t, ieq_f, ine_t, ine_f, blkOf_cells, heap_set_same, heap_set_ne, heap_new_same, heap_new_ne, ASt.set_ctr, ASt.new_ctr, set_set', ic_lit, ic_agg, ic_ptr, ic_iptr, ic_slice, ic_islice, ic_func, ic_iface, boxA, newA, List.all_cons, List.all_nil, Bool.and_self, Bool.and_true, Bool.true_and, cs_lit, cs_agg, cs_ptr, cs_iptr, cs_slice, cs_islice, cs_func, cs_iface, fillA, putL, setsE, eo_lit, eo_agg, eo_ptr, eo_iptr, eo_slice, eo_islice, eo_func, eo_iface, eo_byte, List.set_cons_zero, List.set_cons_succ, List.length_cons, List.length_nil, Nat.reduceBEq, Nat.reduceBNe, beq_self_eq_true, Bool.not_true, Bool.not_false, Nat.zero_add, Nat.reduceMul, List.map_nil, List.drop_succ_cons, List.drop_zero, List.take_succ_cons, List.take_zero, List.nil_append, List.cons_append, Int.toNat_natCast, sl_set, sl_get, sl_len, upd_app, valOf_lit, ite_t, ite_f, h0, h6, h9, hcut, hp] <;> rfl) ?_
    exact kk _ rfl rfl rfl
/-- its token -/
theorem l3e {l tx : List UInt8} {f : Nat → AVal} {st st' : ASt} {Q : APost} {i j a b : Nat} {v v' : AVal} (hij : i ≤ j) (hj : j ≤ l.length) (hl : l.length ≤ 100000) (h0 : f 0 = .lit (.string ⟨l.toArray⟩)) (h5 : f 5 = v) (h6 : f 6 = .lit (.int .i64 (i : Int))) (h7 : f 7 = .lit (.complex .f64 a b)) (h9 : f 9 = .lit (.int .i64 (j : Int)))
    (ht : (l.drop i).take (j - i) = tx) (ha : appendA E.P false 46 46 v (.islice 4 [(Tk.mk 2 tx a b i).a] .exact) st = some (v', st'))
    (k : ∀ f', f' 0 = f 0 → f' 5 = v' → f' 9 = f 9 → Q (.goto 0) (Sl 203 f') st') :
    Wp E 25 W3d (Sl 203 f) st Q := by
  have hcut := cut_at (l := l) hij hj
  rw [ht] at hcut
  unfold Tk.a at ha
  simp only at ha
  have hadd2 : (((2 : Nat) : Int)) = 2 := rfl
  rw [hadd2] at ha
  rw [h0, h9] at k
  clear ht
  refine aw_run 0 (by simp (maxSteps := 5000000) (disch := first | assumption | omega | (simp only [ASt.set_ctr, ASt.new_ctr] <;> omega)) only [W3d_e.down, S25_0_e.down, S25_1_e.down, S25_2_e.down, S25_3_e.down, S25_4_e.down, S25_5_e.down, S25_6_e.down, S25_7_e.down, o_lent_9, o_bd_52, hint_25_21, o_bs_46_1, hint_25_22, bi_app, o_ixt_9, cf_48, cf_49, cf_50, o_cut_9_lh, o_cut_9_l, o_cut_9_h, hint_25_104, hint_25_105, cf_51, hint_25_166, hint_25_167, hint_25_201, hint_25_202, AVal.undef, sbn1, sbn2, aexec, aops, aop, Region.wanted, aeval, aput, aseq, ablock, ahint, absOf, flat, nilCheckA, ANext.ofP, evals, evalPs, evalO, aresults, aresults1, aresult, aend, Option.map_some, Option.bind_some, if_true, if_false, ↓reduceIte, Nat.reduceLT, Nat.reduceEqDiff, reduceCtorEq, Bool.false_eq_true, false_and, and_false, and_true, true_and, Nat.reduceAdd, Nat.reduceLeDiff, callA, List.getElem?_toArray, List.getElem?_cons_succ, List.getElem?_cons_zero, sb1, sb2, sb3, sb4, sliceU_i, sliceU_s, sliceU_p, sliceU_l, evalV, ayielded_eq, slotOf_eq, dstOf, yieldB, xo_move, xo_assign, xo_pick, xo_alloc, xo_box, xo_build, xo_bslice, xo_load, xo_store, xo_nn, xo_bin, xo_un, xo_conv, xo_mki, xo_mkf, xo_mks, xo_slice, xo_fa, xo_fv, xo_ia, xo_ix, xo_ext, xo_call, xo_panic, extractA, b_lss, b_leq, b_gtr, b_geq, b_eql, b_neq, b_add, b_sub, b_mul, b_and, b_or, b_xor, b_shl, b_shr, b_quo, b_rem, u_not, u_neg, wr_i64, wr_u64, wr_u32, wr_u8, wr_i32, wr_u16, wr_i16, wr_i8, dec_t, dec_f, ieq_t, ieq_f, ine_t, ine_f, blkOf_cells, heap_set_same, heap_set_ne, heap_new_same, heap_new_ne, ASt.set_ctr, ASt.new_ctr, set_set', ic_lit, ic_agg, ic_ptr, ic_iptr, ic_slice, ic_islice, ic_func, ic_iface, boxA, newA, List.all_cons, List.all_nil, Bool.and_self, Bool.and_true, Bool.true_and, cs_lit, cs_agg, cs_ptr, cs_iptr, cs_slice, cs_islice, cs_func, cs_iface, fillA, putL, setsE, eo_lit, eo_agg, eo_ptr, eo_iptr, eo_slice, eo_islice, eo_func, eo_iface, eo_byte, List.set_cons_zero, List.set_cons_succ, List.length_cons, List.length_nil, Nat.reduceBEq, Nat.reduceBNe, beq_self_eq_true, Bool.not_true, Bool.not_false, Nat.zero_add, Nat.reduceMul, List.map_nil, List.drop_succ_cons, List.drop_zero, List.take_succ_cons, List.take_zero, List.nil_append, List.cons_append, Int.toNat_natCast, sl_set, sl_get, sl_len, upd_app, valOf_lit, ite_t, ite_f, h0, h5, h6, h7, h9, hcut, ha] <;> rfl) ?_
  exact k _ h0 rfl h9

theorem digs {b : UInt8} {r : List UInt8} (hd : isDig b.toNat = true) : ∀ x ∈ b :: r.takeWhile digc, IsDig x := by
  intro x hx
  rcases List.mem_cons.1 hx with rfl | hx
  · exact digc_dig hd
  · exact digc_dig (List.all_eq_true.1 List.all_takeWhile x hx)
theorem l3 {l : List UInt8} {f : Nat → AVal} {st : ASt} {Q : APost} {i : Nat} {b : UInt8} {r : List UInt8} {v : AVal} {A : Tk → AVal → ASt → Prop} (hi : l.drop i = b :: r) (hw : isLet b.toNat = false) (hd : isDig b.toNat = true) (hl : l.length ≤ 100000)
    (h0 : f 0 = .lit (.string ⟨l.toArray⟩)) (h5 : f 5 = v) (h6 : f 6 = .lit (.int .i64 (i : Int))) (h9 : f 9 = .lit (.int .i64 (i : Int))) (hap : Grows A v st)
    (kok : ∀ k n x y, tokL b r = .ok (k, n, x, y) → ∀ f' v' st', A ⟨k, b :: r.take n, x, y, i⟩ v' st' → f' 0 = f 0 → f' 5 = v' → f' 9 = .lit (.int .i64 ((i + 1 + n : Nat) : Int)) → Q (.goto 0) (Sl 203 f') st')
    (ke : ∀ e, tokL b r = .error e → ∀ f', f' 2 = .lit (.slice none 0 0) → f' 3 = .lit (.int .i64 (i : Int)) → f' 4 = .lit (.int .i64 (e : Int)) → Q .ret (Sl 203 f') st) :
    Wp E 25 T3 (Sl 203 f) st Q := by
  have htok : tokL b r = (if (r.dropWhile digc).head? = some 105 then
      if (r.dropWhile digc).tail.head?.any wordc then .error 1
      else if imOk (b :: r.takeWhile digc) then .ok (2, (r.takeWhile digc).length + 1, 0, wb false (digv 0 (b :: r.takeWhile digc))) else .error 6
    else if (r.dropWhile digc).head?.any wordc then .error 1
    else if numOk (b :: r.takeWhile digc) then .ok (2, (r.takeWhile digc).length, wb false (digv 0 (b :: r.takeWhile digc)), 0) else .error 6) := by
    unfold tokL
    rw [if_neg (by rw [hw]; exact Bool.false_ne_true), if_pos hd]
  have hend : i + ((l.drop i).takeWhile digc).length = i + 1 + (r.takeWhile digc).length := by
    rw [tw_step hi hd, (drop_at hi).2.2]
  have hle : i + 1 + (r.takeWhile digc).length ≤ l.length := by rw [← hend]; exact tw_le (Nat.le_of_lt (drop_at hi).2.1)
  have hdr : l.drop (i + 1 + (r.takeWhile digc).length) = r.dropWhile digc := by
    have := tw_drop (p := digc) (l := l) (j := i + 1)
    rw [(drop_at hi).2.2] at this
    exact this
  have htx : (l.drop i).take (i + 1 + (r.takeWhile digc).length - i) = b :: r.takeWhile digc := by
    rw [text_at hi]
    congr 1
    have h := List.takeWhile_append_dropWhile (p := digc) (l := r)
    have h2 : (r.takeWhile digc ++ r.dropWhile digc).take (r.takeWhile digc).length = r.takeWhile digc := List.take_left
    rw [h] at h2
    exact h2
  have hds := digs (r := r) hd
  have htl : (r.take (r.takeWhile digc).length) = r.takeWhile digc := by
    have h := htx
    rw [text_at hi] at h
    exact (List.cons.inj h).2
  obtain ⟨D, hD⟩ : ∃ D, D = r.takeWhile digc := ⟨_, rfl⟩
  rw [← hD] at hend hle hdr htx htok hds htl
  have hlen : (b :: D).length ≤ 100000 := by
    have : D.length + 1 ≤ l.length := by omega
    simpa using Nat.le_trans this hl
  refine l3a (Nat.le_of_lt (drop_at hi).2.1) hl h0 h9 fun f1 a0 a5 a6 a9 => ?_
  rw [hend] at a9
  rw [h0] at a0
  rw [h5] at a5
  rw [h6] at a6
  refine l3b hle hl a0 a9 fun f2 b0 b5 b6 b9 => ?_
  rw [a0] at b0
  rw [a5] at b5
  rw [a6] at b6
  rw [hdr] at b9
  rw [h0] at kok
  by_cases h105 : (r.dropWhile digc).head? = some 105
  · rw [if_pos h105] at b9 htok
    obtain ⟨r2, hr2⟩ : ∃ r2, r.dropWhile digc = 105 :: r2 := by
      cases hq : r.dropWhile digc with
      | nil => rw [hq] at h105; cases h105
      | cons x r2 => rw [hq] at h105; exact ⟨r2, by rw [Option.some.inj h105]⟩
    rw [hr2] at hdr htok
    have hle2 : i + 1 + D.length + 1 ≤ l.length := by
      have h1 := congrArg List.length hdr
      rw [List.length_drop, List.length_cons] at h1
      omega
    have hdr2 : l.drop (i + 1 + D.length + 1) = r2 := (drop_at hdr).2.2
    have htx2 : (l.drop i).take (i + 1 + D.length + 1 - i) = b :: D ++ [105] := by
      have e1 : i + 1 + D.length + 1 - i = (i + 1 + D.length - i) + 1 := by omega
      have e2 : i + (i + 1 + D.length - i) = i + 1 + D.length := by omega
      have e3 : (l.drop i)[i + 1 + D.length - i]? = some 105 := by
        rw [List.getElem?_drop, e2]
        exact (drop_at hdr).1
      rw [e1, List.take_add_one, htx, e3]
      rfl
    refine l3c hle2 hl b0 b9 (fun hx f3 c2 c3 c4 => ?_) (fun hx f3 c0 c5 c6 c9 => ?_)
    · rw [hdr2] at hx
      rw [List.tail_cons, if_pos hx] at htok
      exact ke 1 htok f3 c2 (c3.trans b6) c4
    · rw [hdr2] at hx
      rw [List.tail_cons, if_neg (by rw [hx]; exact Bool.false_ne_true)] at htok
      have hp := parse_im (l := b :: D) (by simp) hds hlen st
      refine l3d (by omega) hle2 hl (c0.trans b0) (c6.trans b6) (c9.trans b9) htx2 hp (fun ho f4 d2 d3 d4 => ?_) (fun ho f4 d0 d5 d6 d7 d9 => ?_)
      · rw [if_neg (by rw [ho]; exact Bool.false_ne_true)] at htok
        exact ke 6 htok f4 d2 (d3.trans (c6.trans b6)) d4
      · rw [if_pos ho] at htok d7
        obtain ⟨v', st', ha, hA⟩ := hap ⟨2, b :: r.take (D.length + 1), 0, wb false (digv 0 (b :: D)), i⟩
        have htx3 : (l.drop i).take (i + 1 + (D.length + 1) - i) = b :: r.take (D.length + 1) := text_at hi
        refine l3e (by omega) hle2 hl (d0.trans (c0.trans b0)) (d5.trans (c5.trans b5)) (d6.trans (c6.trans b6)) d7 (d9.trans (c9.trans b9)) htx3 ha fun f5 g0 g5 g9 => ?_
        exact kok _ _ _ _ htok f5 v' st' hA (g0.trans (d0.trans (c0.trans b0))) g5 (g9.trans (d9.trans (c9.trans b9)))
  · rw [if_neg h105] at b9 htok
    refine l3c hle hl b0 b9 (fun hx f3 c2 c3 c4 => ?_) (fun hx f3 c0 c5 c6 c9 => ?_)
    · rw [hdr] at hx
      rw [if_pos hx] at htok
      exact ke 1 htok f3 c2 (c3.trans b6) c4
    · rw [hdr] at hx
      rw [if_neg (by rw [hx]; exact Bool.false_ne_true)] at htok
      have hp := parse_num (l := b :: D) (by simp) hds hlen st
      refine l3d (by omega) hle hl (c0.trans b0) (c6.trans b6) (c9.trans b9) htx hp (fun ho f4 d2 d3 d4 => ?_) (fun ho f4 d0 d5 d6 d7 d9 => ?_)
      · rw [if_neg (by rw [ho]; exact Bool.false_ne_true)] at htok
        exact ke 6 htok f4 d2 (d3.trans (c6.trans b6)) d4
      · rw [if_pos ho] at htok d7
        obtain ⟨v', st', ha, hA⟩ := hap ⟨2, b :: r.take D.length, wb false (digv 0 (b :: D)), 0, i⟩
        have htx3 : (l.drop i).take (i + 1 + D.length - i) = b :: r.take D.length := text_at hi
        refine l3e (by omega) hle hl (d0.trans (c0.trans b0)) (d5.trans (c5.trans b5)) (d6.trans (c6.trans b6)) d7 (d9.trans (c9.trans b9)) htx3 ha fun f5 g0 g5 g9 => ?_
        exact kok _ _ _ _ htok f5 v' st' hA (g0.trans (d0.trans (c0.trans b0))) g5 (g9.trans (d9.trans (c9.trans b9)))
end Go.Proofs.YtlpdplchcpkajaaDoorV
