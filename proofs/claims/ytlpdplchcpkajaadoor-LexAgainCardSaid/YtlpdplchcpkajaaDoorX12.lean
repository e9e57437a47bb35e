/- lex.Split, words and signs: walked. No condition. -/
import Derived.Test.YtlpdplchcpkajaaDoorX11
namespace Go.Proofs.YtlpdplchcpkajaaDoorV
open Go Go.RowKit Go.Proofs.YtlpdplchcpkajaaDoorA
set_option linter.unusedVariables false
set_option linter.unusedSimpArgs false
set_option maxRecDepth 100000

/-- a row can have any token put behind it -/
def Grows (A : Tk → AVal → ASt → Prop) (v : AVal) (st : ASt) : Prop := ∀ tk : Tk, ∃ v' st', appendA E.P false 46 46 v (.islice 4 [tk.a] .exact) st = some (v', st') ∧ A tk v' st'
theorem text_at {l : List UInt8} {i n : Nat} {b : UInt8} {r : List UInt8} (h : l.drop i = b :: r) : (l.drop i).take (i + 1 + n - i) = b :: r.take n := by
  rw [h, show i + 1 + n - i = n + 1 by omega, List.take_succ_cons]

/-- a word -/
theorem l2 {l : List UInt8} {f : Nat → AVal} {st : ASt} {Q : APost} {i : Nat} {b : UInt8} {r : List UInt8} {v : AVal} {A : Tk → AVal → ASt → Prop} (hi : l.drop i = b :: r) (hw : isLet b.toNat = true) (hl : l.length ≤ 100000)
    (h0 : f 0 = .lit (.string ⟨l.toArray⟩)) (h5 : f 5 = v) (h6 : f 6 = .lit (.int .i64 (i : Int))) (h9 : f 9 = .lit (.int .i64 (i : Int))) (hap : Grows A v st)
    (kok : ∀ k n x y, tokL b r = .ok (k, n, x, y) → ∀ f' v' st', A ⟨k, b :: r.take n, x, y, i⟩ v' st' → f' 0 = f 0 → f' 5 = v' → f' 9 = .lit (.int .i64 ((i + 1 + n : Nat) : Int)) → Q (.goto 0) (Sl 203 f') st') :
    Wp E 25 T2 (Sl 203 f) st Q := by
  have hwb : wordc b = true := by unfold wordc; rw [hw]; rfl
  have hend : i + ((l.drop i).takeWhile wordc).length = i + 1 + (r.takeWhile wordc).length := by
    rw [tw_step hi hwb, (drop_at hi).2.2]
  have htok : tokL b r = .ok (1, (r.takeWhile wordc).length, 0, 0) := by unfold tokL; rw [if_pos hw]
  obtain ⟨N, hN⟩ : ∃ N, N = (r.takeWhile wordc).length := ⟨_, rfl⟩
  rw [← hN] at hend htok
  have hle : i + 1 + N ≤ l.length := by rw [← hend]; exact tw_le (Nat.le_of_lt (drop_at hi).2.1)
  have kk := kok _ _ _ _ htok
  rw [h0] at kk
  obtain ⟨v', st', ha, hA⟩ := hap ⟨1, b :: r.take N, 0, 0, i⟩
  have hcut := cut_at (l := l) (a := i) (b := i + 1 + N) (by omega) hle
  rw [text_at hi] at hcut
  unfold Tk.a at ha
  simp only at ha
  have hadd1 : (((1 : Nat) : Int)) = 1 := rfl
  rw [hadd1] at ha
  refine T2_wp ?_
  refine aw_forS (fun k f' st' => st' = st ∧ ∃ j, k = l.length - j ∧ j ≤ l.length ∧ f' 0 = .lit (.string ⟨l.toArray⟩) ∧ f' 5 = v ∧ f' 6 = .lit (.int .i64 (i : Int)) ∧ f' 9 = .lit (.int .i64 (j : Int)) ∧ j + ((l.drop j).takeWhile wordc).length = i + 1 + N)
    (fun k f' st2 hI => L25_2_wp ?_) (l.length - i) f st ⟨rfl, i, rfl, Nat.le_of_lt (drop_at hi).2.1, h0, h5, h6, h9, hend⟩
  obtain ⟨rfl, j, rfl, hj, q0, q5, q6, q9, hE⟩ := hI
  have fin : ∀ f'', f'' 0 = .lit (.string ⟨l.toArray⟩) → f'' 5 = v → f'' 6 = .lit (.int .i64 (i : Int)) → f'' 9 = .lit (.int .i64 ((i + 1 + N : Nat) : Int)) → Wp E 25 W2 (Sl 203 f'') st2 (Nx (fun ts st => Wp E 25 R2 ts st Q) Q) := by
    intro f'' q0 q5 q6 q9
    clear hE hend htok hN hle hi kok hap
    refine aw_run 0 (by simp (maxSteps := 5000000) (disch := first | assumption | omega | (simp only [ASt.set_ctr, ASt.new_ctr] <;> omega)) only [W2_e.down, S25_0_e.down, S25_1_e.down, S25_2_e.down, S25_3_e.down, S25_4_e.down, S25_5_e.down, S25_6_e.down, S25_7_e.down, o_lent_9, o_bd_52, hint_25_21, o_bs_46_1, hint_25_22, bi_app, o_ixt_9, cf_48, cf_49, cf_50, o_cut_9_lh, o_cut_9_l, o_cut_9_h, hint_25_104, hint_25_105, cf_51, hint_25_166, hint_25_167, hint_25_201, hint_25_202, AVal.undef, sbn1, sbn2, aexec, aops, aop, Region.wanted, aeval, aput, aseq, ablock, ahint, absOf, flat, nilCheckA, ANext.ofP, evals, evalPs, evalO, aresults, aresults1, aresult, aend, Option.map_some, Option.bind_some, if_true, if_false, ↓reduceIte, Nat.reduceLT, Nat.reduceEqDiff, reduceCtorEq, Bool.false_eq_true, false_and, and_false, and_true, true_and, Nat.reduceAdd, Nat.reduceLeDiff, callA, List.getElem?_toArray, List.getElem?_cons_succ, List.getElem?_cons_zero, sb1, sb2, sb3, sb4, sliceU_i, sliceU_s, sliceU_p, sliceU_l, evalV, ayielded_eq, slotOf_eq, dstOf, yieldB, xo_move, xo_assign, xo_pick, xo_alloc, xo_box, xo_build, xo_bslice, xo_load, xo_store, xo_nn, xo_bin, xo_un, xo_conv, xo_mki, xo_mkf, xo_mks, xo_slice, xo_fa, xo_fv, xo_ia, xo_ix, xo_ext, xo_call, xo_panic, extractA, b_lss, b_leq, b_gtr, b_geq, b_eql, b_neq, b_add, b_sub, b_mul, b_and, b_or, b_xor, b_shl, b_shr, b_quo, b_rem, u_not, u_neg, wr_i64, wr_u64, wr_u32, wr_u8, wr_i32, wr_u16, wr_i16, wr_i8, dec_t, dec_f, ieq_t, ieq_f, ine_t, ine_f, blkOf_cells, heap_set_same, heap_set_ne, heap_new_same, heap_new_ne, ASt.set_ctr, ASt.new_ctr, set_set', ic_lit, ic_agg, ic_ptr, ic_iptr, ic_slice, ic_islice, ic_func, ic_iface, boxA, newA, List.all_cons, List.all_nil, Bool.and_self, Bool.and_true, Bool.true_and, cs_lit, cs_agg, cs_ptr, cs_iptr, cs_slice, cs_islice, cs_func, cs_iface, fillA, putL, setsE, eo_lit, eo_agg, eo_ptr, eo_iptr, eo_slice, eo_islice, eo_func, eo_iface, eo_byte, List.set_cons_zero, List.set_cons_succ, List.length_cons, List.length_nil, Nat.reduceBEq, Nat.reduceBNe, beq_self_eq_true, Bool.not_true, Bool.not_false, Nat.zero_add, Nat.reduceMul, List.map_nil, List.drop_succ_cons, List.drop_zero, List.take_succ_cons, List.take_zero, List.nil_append, List.cons_append, Int.toNat_natCast, sl_set, sl_get, sl_len, upd_app, valOf_lit, ite_t, ite_f, q0, q5, q6, q9, hcut, ha] <;> rfl) ?_
    exact kk _ v' st' hA q0 rfl q9
  clear kk kok hap hA ha hcut
  by_cases hlt : j < l.length
  · obtain ⟨b2, r2, hb⟩ := at_drop hlt
    have ex := at_ix (drop_at hb).1
    have c1 := letter_rw b2.toNat st2
    have c2 := digit_rw b2.toNat st2
    have hadd : (j : Int) + 1 = ((j + 1 : Nat) : Int) := by omega
    cases hL : isLet b2.toNat with
    | true =>
      have hs := tw_step hb (show wordc b2 = true by unfold wordc; rw [hL]; rfl)
      rw [hL] at c1
      obtain ⟨n, hn⟩ : ∃ n, n = b2.toNat := ⟨_, rfl⟩
      rw [← hn] at ex c1
      clear hb fin c2
      refine aw_run 0 (by simp (maxSteps := 5000000) (disch := first | assumption | omega | (simp only [ASt.set_ctr, ASt.new_ctr] <;> omega)) only [S25_0_e.down, S25_1_e.down, S25_2_e.down, S25_3_e.down, S25_4_e.down, S25_5_e.down, S25_6_e.down, S25_7_e.down, o_lent_9, o_bd_52, hint_25_21, o_bs_46_1, hint_25_22, bi_app, o_ixt_9, cf_48, cf_49, cf_50, o_cut_9_lh, o_cut_9_l, o_cut_9_h, hint_25_104, hint_25_105, cf_51, hint_25_166, hint_25_167, hint_25_201, hint_25_202, AVal.undef, sbn1, sbn2, aexec, aops, aop, Region.wanted, aeval, aput, aseq, ablock, ahint, absOf, flat, nilCheckA, ANext.ofP, evals, evalPs, evalO, aresults, aresults1, aresult, aend, Option.map_some, Option.bind_some, if_true, if_false, ↓reduceIte, Nat.reduceLT, Nat.reduceEqDiff, reduceCtorEq, Bool.false_eq_true, false_and, and_false, and_true, true_and, Nat.reduceAdd, Nat.reduceLeDiff, callA, List.getElem?_toArray, List.getElem?_cons_succ, List.getElem?_cons_zero, sb1, sb2, sb3, sb4, sliceU_i, sliceU_s, sliceU_p, sliceU_l, evalV, ayielded_eq, slotOf_eq, dstOf, yieldB, xo_move, xo_assign, xo_pick, xo_alloc, xo_box, xo_build, xo_bslice, xo_load, xo_store, xo_nn, xo_bin, xo_un, xo_conv, xo_mki, xo_mkf, xo_mks, xo_slice, xo_fa, xo_fv, xo_ia, xo_ix, xo_ext, xo_call, xo_panic, extractA, b_lss, b_leq, b_gtr, b_geq, b_eql, b_neq, b_add, b_sub, b_mul, b_and, b_or, b_xor, b_shl, b_shr, b_quo, b_rem, u_not, u_neg, wr_i64, wr_u64, wr_u32, wr_u8, wr_i32, wr_u16, wr_i16, wr_i8, dec_t, dec_f, ieq_t, ieq_f, ine_t, ine_f, blkOf_cells, heap_set_same, heap_set_ne, heap_new_same, heap_new_ne, ASt.set_ctr, ASt.new_ctr, set_set', ic_lit, ic_agg, ic_ptr, ic_iptr, ic_slice, ic_islice, ic_func, ic_iface, boxA, newA, List.all_cons, List.all_nil, Bool.and_self, Bool.and_true, Bool.true_and, cs_lit, cs_agg, cs_ptr, cs_iptr, cs_slice, cs_islice, cs_func, cs_iface, fillA, putL, setsE, eo_lit, eo_agg, eo_ptr, eo_iptr, eo_slice, eo_islice, eo_func, eo_iface, eo_byte, List.set_cons_zero, List.set_cons_succ, List.length_cons, List.length_nil, Nat.reduceBEq, Nat.reduceBNe, beq_self_eq_true, Bool.not_true, Bool.not_false, Nat.zero_add, Nat.reduceMul, List.map_nil, List.drop_succ_cons, List.drop_zero, List.take_succ_cons, List.take_zero, List.nil_append, List.cons_append, Int.toNat_natCast, sl_set, sl_get, sl_len, upd_app, valOf_lit, ite_t, ite_f, str_size, q0, q9, ex, hadd, c1] <;> rfl) ?_
      exact ⟨_, rfl, l.length - (j + 1), by omega, rfl, j + 1, rfl, by omega, q0, q5, q6, rfl, by rw [← hs]; exact hE⟩
    | false =>
      rw [hL] at c1
      cases hD : isDig b2.toNat with
      | true =>
        have hs := tw_step hb (show wordc b2 = true by unfold wordc; rw [hL, hD]; rfl)
        rw [hD] at c2
        obtain ⟨n, hn⟩ : ∃ n, n = b2.toNat := ⟨_, rfl⟩
        rw [← hn] at ex c1 c2
        clear hb fin
        refine aw_run 0 (by simp (maxSteps := 5000000) (disch := first | assumption | omega | (simp only [ASt.set_ctr, ASt.new_ctr] <;> omega)) only [S25_0_e.down, S25_1_e.down, S25_2_e.down, S25_3_e.down, S25_4_e.down, S25_5_e.down, S25_6_e.down, S25_7_e.down, o_lent_9, o_bd_52, hint_25_21, o_bs_46_1, hint_25_22, bi_app, o_ixt_9, cf_48, cf_49, cf_50, o_cut_9_lh, o_cut_9_l, o_cut_9_h, hint_25_104, hint_25_105, cf_51, hint_25_166, hint_25_167, hint_25_201, hint_25_202, AVal.undef, sbn1, sbn2, aexec, aops, aop, Region.wanted, aeval, aput, aseq, ablock, ahint, absOf, flat, nilCheckA, ANext.ofP, evals, evalPs, evalO, aresults, aresults1, aresult, aend, Option.map_some, Option.bind_some, if_true, if_false, ↓reduceIte, Nat.reduceLT, Nat.reduceEqDiff, reduceCtorEq, Bool.false_eq_true, false_and, and_false, and_true, true_and, Nat.reduceAdd, Nat.reduceLeDiff, callA, List.getElem?_toArray, List.getElem?_cons_succ, List.getElem?_cons_zero, sb1, sb2, sb3, sb4, sliceU_i, sliceU_s, sliceU_p, sliceU_l, evalV, ayielded_eq, slotOf_eq, dstOf, yieldB, xo_move, xo_assign, xo_pick, xo_alloc, xo_box, xo_build, xo_bslice, xo_load, xo_store, xo_nn, xo_bin, xo_un, xo_conv, xo_mki, xo_mkf, xo_mks, xo_slice, xo_fa, xo_fv, xo_ia, xo_ix, xo_ext, xo_call, xo_panic, extractA, b_lss, b_leq, b_gtr, b_geq, b_eql, b_neq, b_add, b_sub, b_mul, b_and, b_or, b_xor, b_shl, b_shr, b_quo, b_rem, u_not, u_neg, wr_i64, wr_u64, wr_u32, wr_u8, wr_i32, wr_u16, wr_i16, wr_i8, dec_t, dec_f, ieq_t, ieq_f, ine_t, ine_f, blkOf_cells, heap_set_same, heap_set_ne, heap_new_same, heap_new_ne, ASt.set_ctr, ASt.new_ctr, set_set', ic_lit, ic_agg, ic_ptr, ic_iptr, ic_slice, ic_islice, ic_func, ic_iface, boxA, newA, List.all_cons, List.all_nil, Bool.and_self, Bool.and_true, Bool.true_and, cs_lit, cs_agg, cs_ptr, cs_iptr, cs_slice, cs_islice, cs_func, cs_iface, fillA, putL, setsE, eo_lit, eo_agg, eo_ptr, eo_iptr, eo_slice, eo_islice, eo_func, eo_iface, eo_byte, List.set_cons_zero, List.set_cons_succ, List.length_cons, List.length_nil, Nat.reduceBEq, Nat.reduceBNe, beq_self_eq_true, Bool.not_true, Bool.not_false, Nat.zero_add, Nat.reduceMul, List.map_nil, List.drop_succ_cons, List.drop_zero, List.take_succ_cons, List.take_zero, List.nil_append, List.cons_append, Int.toNat_natCast, sl_set, sl_get, sl_len, upd_app, valOf_lit, ite_t, ite_f, str_size, q0, q9, ex, hadd, c1, c2] <;> rfl) ?_
        exact ⟨_, rfl, l.length - (j + 1), by omega, rfl, j + 1, rfl, by omega, q0, q5, q6, rfl, by rw [← hs]; exact hE⟩
      | false =>
        have hs := tw_stop hb (show wordc b2 = false by unfold wordc; rw [hL, hD]; rfl)
        rw [hs] at hE
        rw [hD] at c2
        obtain ⟨n, hn⟩ : ∃ n, n = b2.toNat := ⟨_, rfl⟩
        rw [← hn] at ex c1 c2
        have e9 : j = i + 1 + N := hE
        rw [← e9] at fin
        clear hb hE hs e9
        refine aw_run 0 (by simp (maxSteps := 5000000) (disch := first | assumption | omega | (simp only [ASt.set_ctr, ASt.new_ctr] <;> omega)) only [S25_0_e.down, S25_1_e.down, S25_2_e.down, S25_3_e.down, S25_4_e.down, S25_5_e.down, S25_6_e.down, S25_7_e.down, o_lent_9, o_bd_52, hint_25_21, o_bs_46_1, hint_25_22, bi_app, o_ixt_9, cf_48, cf_49, cf_50, o_cut_9_lh, o_cut_9_l, o_cut_9_h, hint_25_104, hint_25_105, cf_51, hint_25_166, hint_25_167, hint_25_201, hint_25_202, AVal.undef, sbn1, sbn2, aexec, aops, aop, Region.wanted, aeval, aput, aseq, ablock, ahint, absOf, flat, nilCheckA, ANext.ofP, evals, evalPs, evalO, aresults, aresults1, aresult, aend, Option.map_some, Option.bind_some, if_true, if_false, ↓reduceIte, Nat.reduceLT, Nat.reduceEqDiff, reduceCtorEq, Bool.false_eq_true, false_and, and_false, and_true, true_and, Nat.reduceAdd, Nat.reduceLeDiff, callA, List.getElem?_toArray, List.getElem?_cons_succ, List.getElem?_cons_zero, sb1, sb2, sb3, sb4, sliceU_i, sliceU_s, sliceU_p, sliceU_l, evalV, ayielded_eq, slotOf_eq, dstOf, yieldB, xo_move, xo_assign, xo_pick, xo_alloc, xo_box, xo_build, xo_bslice, xo_load, xo_store, xo_nn, xo_bin, xo_un, xo_conv, xo_mki, xo_mkf, xo_mks, xo_slice, xo_fa, xo_fv, xo_ia, xo_ix, xo_ext, xo_call, xo_panic, extractA, b_lss, b_leq, b_gtr, b_geq, b_eql, b_neq, b_add, b_sub, b_mul, b_and, b_or, b_xor, b_shl, b_shr, b_quo, b_rem, u_not, u_neg, wr_i64, wr_u64, wr_u32, wr_u8, wr_i32, wr_u16, wr_i16, wr_i8, dec_t, dec_f, ieq_t, ieq_f, ine_t, ine_f, blkOf_cells, heap_set_same, heap_set_ne, heap_new_same, heap_new_ne, ASt.set_ctr, ASt.new_ctr, set_set', ic_lit, ic_agg, ic_ptr, ic_iptr, ic_slice, ic_islice, ic_func, ic_iface, boxA, newA, List.all_cons, List.all_nil, Bool.and_self, Bool.and_true, Bool.true_and, cs_lit, cs_agg, cs_ptr, cs_iptr, cs_slice, cs_islice, cs_func, cs_iface, fillA, putL, setsE, eo_lit, eo_agg, eo_ptr, eo_iptr, eo_slice, eo_islice, eo_func, eo_iface, eo_byte, List.set_cons_zero, List.set_cons_succ, List.length_cons, List.length_nil, Nat.reduceBEq, Nat.reduceBNe, beq_self_eq_true, Bool.not_true, Bool.not_false, Nat.zero_add, Nat.reduceMul, List.map_nil, List.drop_succ_cons, List.drop_zero, List.take_succ_cons, List.take_zero, List.nil_append, List.cons_append, Int.toNat_natCast, sl_set, sl_get, sl_len, upd_app, valOf_lit, ite_t, ite_f, str_size, q0, q9, ex, c1, c2] <;> rfl) ?_
        exact fin _ q0 q5 q6 q9
  · have hs := tw_end (p := wordc) (l := l) (j := j) (by omega)
    rw [hs] at hE
    have e9 : j = i + 1 + N := hE
    rw [← e9] at fin
    clear hE hs e9
    refine aw_run 0 (by simp (maxSteps := 5000000) (disch := first | assumption | omega | (simp only [ASt.set_ctr, ASt.new_ctr] <;> omega)) only [S25_0_e.down, S25_1_e.down, S25_2_e.down, S25_3_e.down, S25_4_e.down, S25_5_e.down, S25_6_e.down, S25_7_e.down, o_lent_9, o_bd_52, hint_25_21, o_bs_46_1, hint_25_22, bi_app, o_ixt_9, cf_48, cf_49, cf_50, o_cut_9_lh, o_cut_9_l, o_cut_9_h, hint_25_104, hint_25_105, cf_51, hint_25_166, hint_25_167, hint_25_201, hint_25_202, AVal.undef, sbn1, sbn2, aexec, aops, aop, Region.wanted, aeval, aput, aseq, ablock, ahint, absOf, flat, nilCheckA, ANext.ofP, evals, evalPs, evalO, aresults, aresults1, aresult, aend, Option.map_some, Option.bind_some, if_true, if_false, ↓reduceIte, Nat.reduceLT, Nat.reduceEqDiff, reduceCtorEq, Bool.false_eq_true, false_and, and_false, and_true, true_and, Nat.reduceAdd, Nat.reduceLeDiff, callA, List.getElem?_toArray, List.getElem?_cons_succ, List.getElem?_cons_zero, sb1, sb2, sb3, sb4, sliceU_i, sliceU_s, sliceU_p, sliceU_l, evalV, ayielded_eq, slotOf_eq, dstOf, yieldB, xo_move, xo_assign, xo_pick, xo_alloc, xo_box, xo_build, xo_bslice, xo_load, xo_store, xo_nn, xo_bin, xo_un, xo_conv, xo_mki, xo_mkf, xo_mks, xo_slice, xo_fa, xo_fv, xo_ia, xo_ix, xo_ext, xo_call, xo_panic, extractA, b_lss, b_leq, b_gtr, b_geq, b_eql, b_neq, b_add, b_sub, b_mul, b_and, b_or, b_xor, b_shl, b_shr, b_quo, b_rem, u_not, u_neg, wr_i64, wr_u64, wr_u32, wr_u8, wr_i32, wr_u16, wr_i16, wr_i8, dec_t, dec_f, ieq_t, ieq_f, ine_t, ine_f, blkOf_cells, heap_set_same, heap_set_ne, heap_new_same, heap_new_ne, ASt.set_ctr, ASt.new_ctr, set_set', ic_lit, ic_agg, ic_ptr, ic_iptr, ic_slice, ic_islice, ic_func, ic_iface, boxA, newA, List.all_cons, List.all_nil, Bool.and_self, Bool.and_true, Bool.true_and, cs_lit, cs_agg, cs_ptr, cs_iptr, cs_slice, cs_islice, cs_func, cs_iface, fillA, putL, setsE, eo_lit, eo_agg, eo_ptr, eo_iptr, eo_slice, eo_islice, eo_func, eo_iface, eo_byte, List.set_cons_zero, List.set_cons_succ, List.length_cons, List.length_nil, Nat.reduceBEq, Nat.reduceBNe, beq_self_eq_true, Bool.not_true, Bool.not_false, Nat.zero_add, Nat.reduceMul, List.map_nil, List.drop_succ_cons, List.drop_zero, List.take_succ_cons, List.take_zero, List.nil_append, List.cons_append, Int.toNat_natCast, sl_set, sl_get, sl_len, upd_app, valOf_lit, ite_t, ite_f, str_size, q0, q9] <;> rfl) ?_
    exact fin _ q0 q5 q6 q9

/-- a sign -/
theorem l4 {l : List UInt8} {f : Nat → AVal} {st : ASt} {Q : APost} {i : Nat} {b : UInt8} {r : List UInt8} {v : AVal} {A : Tk → AVal → ASt → Prop} (hi : l.drop i = b :: r) (hw : isLet b.toNat = false) (hd : isDig b.toNat = false) (ho : isOne b.toNat = true) (hl : l.length ≤ 100000)
    (h0 : f 0 = .lit (.string ⟨l.toArray⟩)) (h5 : f 5 = v) (h6 : f 6 = .lit (.int .i64 (i : Int))) (h9 : f 9 = .lit (.int .i64 (i : Int))) (hap : Grows A v st)
    (kok : ∀ k n x y, tokL b r = .ok (k, n, x, y) → ∀ f' v' st', A ⟨k, b :: r.take n, x, y, i⟩ v' st' → f' 0 = f 0 → f' 5 = v' → f' 9 = .lit (.int .i64 ((i + 1 + n : Nat) : Int)) → Q (.goto 0) (Sl 203 f') st') :
    Wp E 25 T4 (Sl 203 f) st Q := by
  have htok : tokL b r = if r.head? = some 61 ∧ (b = 61 ∨ b = 33) then .ok (3, 1, 0, 0) else .ok (3, 0, 0, 0) := by
    unfold tokL
    rw [if_neg (by rw [hw]; exact Bool.false_ne_true), if_neg (by rw [hd]; exact Bool.false_ne_true), if_pos ho]
  obtain ⟨hb, hlt, hr⟩ := drop_at hi
  have ex := at_ix hb
  have hadd : (i : Int) + 1 = ((i + 1 : Nat) : Int) := by omega
  have hadd2 : ((i + 1 : Nat) : Int) + 1 = ((i + 1 + 1 : Nat) : Int) := by omega
  have hadd3 : (((3 : Nat) : Int)) = 3 := rfl
  have h61 : b.toNat = 61 ↔ b = 61 := ⟨fun h => UInt8.toNat_inj.1 (h.trans rfl), fun h => by rw [h]; rfl⟩
  have h33 : b.toNat = 33 ↔ b = 33 := ⟨fun h => UInt8.toNat_inj.1 (h.trans rfl), fun h => by rw [h]; rfl⟩
  rw [h0] at kok
  refine T4_wp ?_
  -- one byte alone
  have one : ¬ (r.head? = some 61 ∧ (b = 61 ∨ b = 33)) → ∃ v' st', appendA E.P false 46 46 v (.islice 4 [.agg [.lit (.int .i64 3), .lit (.string ⟨(b :: r.take 0).toArray⟩), .lit (.complex .f64 0 0), .lit (.int .i64 (i : Int))]] .exact) st = some (v', st') ∧
      pureV E.P (Instr.sliceAt 9 (.string ⟨l.toArray⟩) (some (.int .i64 (i : Int))) (some (.int .i64 ((i + 1 : Nat) : Int))) none) = some (.lit (.string ⟨(b :: r.take 0).toArray⟩)) ∧
      ∀ f', f' 0 = .lit (.string ⟨l.toArray⟩) → f' 5 = v' → f' 9 = .lit (.int .i64 ((i + 1 : Nat) : Int)) → Q (.goto 0) (Sl 203 f') st' := by
    intro hn
    rw [if_neg hn] at htok
    obtain ⟨v', st', ha, hA⟩ := hap ⟨3, b :: r.take 0, 0, 0, i⟩
    have hcut := cut_at (l := l) (a := i) (b := i + 1 + 0) (by omega) (by omega)
    rw [text_at hi] at hcut
    exact ⟨v', st', ha, hcut, fun f' a1 a2 a3 => kok _ _ _ _ htok f' v' st' hA a1 a2 a3⟩
  by_cases h8 : i + 1 < l.length
  · obtain ⟨b2, r2, hr2⟩ := at_drop h8
    have ex2 := at_ix (drop_at hr2).1
    have hh : r.head? = some b2 := by rw [← hr, hr2]; rfl
    have e61 : b2.toNat = 61 ↔ b2 = 61 := ⟨fun h => UInt8.toNat_inj.1 (h.trans rfl), fun h => by rw [h]; rfl⟩
    obtain ⟨n, hn⟩ : ∃ n, n = b.toNat := ⟨_, rfl⟩
    obtain ⟨n2, hn2⟩ : ∃ n, n = b2.toNat := ⟨_, rfl⟩
    rw [← hn] at ex h61 h33
    rw [← hn2] at ex2 e61
    by_cases h2 : n2 = 61
    · by_cases h3 : n = 61 ∨ n = 33
      · have hc : r.head? = some 61 ∧ (b = 61 ∨ b = 33) := ⟨by rw [hh, e61.1 h2], h3.elim (fun h => .inl (h61.1 h)) (fun h => .inr (h33.1 h))⟩
        rw [if_pos hc] at htok
        obtain ⟨v', st', ha, hA⟩ := hap ⟨3, b :: r.take 1, 0, 0, i⟩
        have hcut := cut_at (l := l) (a := i) (b := i + 1 + 1) (by omega) (by omega)
        rw [text_at hi] at hcut
        have kk := fun f' => kok _ _ _ _ htok f' v' st' hA
        unfold Tk.a at ha
        simp only at ha
        rw [hadd3] at ha
        generalize b :: r.take 1 = tx at ha hcut
        clear one kok hap htok hc hr2 hh e61 h61 h33 hn hn2 hi hb hr hA
        rcases h3 with rfl | rfl
        · refine aw_run 0 (by simp (maxSteps := 5000000) (disch := first | assumption | omega | (simp only [ASt.set_ctr, ASt.new_ctr] <;> omega)) only [W4_e.down, S25_0_e.down, S25_1_e.down, S25_2_e.down, S25_3_e.down, S25_4_e.down, S25_5_e.down, S25_6_e.down, S25_7_e.down, o_lent_9, o_bd_52, hint_25_21, o_bs_46_1, hint_25_22, bi_app, o_ixt_9, cf_48, cf_49, cf_50, o_cut_9_lh, o_cut_9_l, o_cut_9_h, hint_25_104, hint_25_105, cf_51, hint_25_166, hint_25_167, hint_25_201, hint_25_202, AVal.undef, sbn1, sbn2, aexec, aops, aop, Region.wanted, aeval, aput, aseq, ablock, ahint, absOf, flat, nilCheckA, ANext.ofP, evals, evalPs, evalO, aresults, aresults1, aresult, aend, Option.map_some, Option.bind_some, if_true, if_false, ↓reduceIte, Nat.reduceLT, Nat.reduceEqDiff, reduceCtorEq, Bool.false_eq_true, false_and, and_false, and_true, true_and, Nat.reduceAdd, Nat.reduceLeDiff, callA, List.getElem?_toArray, List.getElem?_cons_succ, List.getElem?_cons_zero, sb1, sb2, sb3, sb4, sliceU_i, sliceU_s, sliceU_p, sliceU_l, evalV, ayielded_eq, slotOf_eq, dstOf, yieldB, xo_move, xo_assign, xo_pick, xo_alloc, xo_box, xo_build, xo_bslice, xo_load, xo_store, xo_nn, xo_bin, xo_un, xo_conv, xo_mki, xo_mkf, xo_mks, xo_slice, xo_fa, xo_fv, xo_ia, xo_ix, xo_ext, xo_call, xo_panic, extractA, b_lss, b_leq, b_gtr, b_geq, b_eql, b_neq, b_add, b_sub, b_mul, b_and, b_or, b_xor, b_shl, b_shr, b_quo, b_rem, u_not, u_neg, wr_i64, wr_u64, wr_u32, wr_u8, wr_i32, wr_u16, wr_i16, wr_i8, dec_t, dec_f, ieq_t, ieq_f, ine_t, ine_f, blkOf_cells, heap_set_same, heap_set_ne, heap_new_same, heap_new_ne, ASt.set_ctr, ASt.new_ctr, set_set', ic_lit, ic_agg, ic_ptr, ic_iptr, ic_slice, ic_islice, ic_func, ic_iface, boxA, newA, List.all_cons, List.all_nil, Bool.and_self, Bool.and_true, Bool.true_and, cs_lit, cs_agg, cs_ptr, cs_iptr, cs_slice, cs_islice, cs_func, cs_iface, fillA, putL, setsE, eo_lit, eo_agg, eo_ptr, eo_iptr, eo_slice, eo_islice, eo_func, eo_iface, eo_byte, List.set_cons_zero, List.set_cons_succ, List.length_cons, List.length_nil, Nat.reduceBEq, Nat.reduceBNe, beq_self_eq_true, Bool.not_true, Bool.not_false, Nat.zero_add, Nat.reduceMul, List.map_nil, List.drop_succ_cons, List.drop_zero, List.take_succ_cons, List.take_zero, List.nil_append, List.cons_append, Int.toNat_natCast, sl_set, sl_get, sl_len, upd_app, valOf_lit, ite_t, ite_f, str_size, h0, h5, h6, h9, ex, ex2, hadd, hadd2, hcut, ha] <;> rfl) ?_
          exact kk _ h0 rfl rfl
        · refine aw_run 0 (by simp (maxSteps := 5000000) (disch := first | assumption | omega | (simp only [ASt.set_ctr, ASt.new_ctr] <;> omega)) only [W4_e.down, S25_0_e.down, S25_1_e.down, S25_2_e.down, S25_3_e.down, S25_4_e.down, S25_5_e.down, S25_6_e.down, S25_7_e.down, o_lent_9, o_bd_52, hint_25_21, o_bs_46_1, hint_25_22, bi_app, o_ixt_9, cf_48, cf_49, cf_50, o_cut_9_lh, o_cut_9_l, o_cut_9_h, hint_25_104, hint_25_105, cf_51, hint_25_166, hint_25_167, hint_25_201, hint_25_202, AVal.undef, sbn1, sbn2, aexec, aops, aop, Region.wanted, aeval, aput, aseq, ablock, ahint, absOf, flat, nilCheckA, ANext.ofP, evals, evalPs, evalO, aresults, aresults1, aresult, aend, Option.map_some, Option.bind_some, if_true, if_false, ↓reduceIte, Nat.reduceLT, Nat.reduceEqDiff, reduceCtorEq, Bool.false_eq_true, false_and, and_false, and_true, true_and, Nat.reduceAdd, Nat.reduceLeDiff, callA, List.getElem?_toArray, List.getElem?_cons_succ, List.getElem?_cons_zero, sb1, sb2, sb3, sb4, sliceU_i, sliceU_s, sliceU_p, sliceU_l, evalV, ayielded_eq, slotOf_eq, dstOf, yieldB, xo_move, xo_assign, xo_pick, xo_alloc, xo_box, xo_build, xo_bslice, xo_load, xo_store, xo_nn, xo_bin, xo_un, xo_conv, xo_mki, xo_mkf, xo_mks, xo_slice, xo_fa, xo_fv, xo_ia, xo_ix, xo_ext, xo_call, xo_panic, extractA, b_lss, b_leq, b_gtr, b_geq, b_eql, b_neq, b_add, b_sub, b_mul, b_and, b_or, b_xor, b_shl, b_shr, b_quo, b_rem, u_not, u_neg, wr_i64, wr_u64, wr_u32, wr_u8, wr_i32, wr_u16, wr_i16, wr_i8, dec_t, dec_f, ieq_t, ieq_f, ine_t, ine_f, blkOf_cells, heap_set_same, heap_set_ne, heap_new_same, heap_new_ne, ASt.set_ctr, ASt.new_ctr, set_set', ic_lit, ic_agg, ic_ptr, ic_iptr, ic_slice, ic_islice, ic_func, ic_iface, boxA, newA, List.all_cons, List.all_nil, Bool.and_self, Bool.and_true, Bool.true_and, cs_lit, cs_agg, cs_ptr, cs_iptr, cs_slice, cs_islice, cs_func, cs_iface, fillA, putL, setsE, eo_lit, eo_agg, eo_ptr, eo_iptr, eo_slice, eo_islice, eo_func, eo_iface, eo_byte, List.set_cons_zero, List.set_cons_succ, List.length_cons, List.length_nil, Nat.reduceBEq, Nat.reduceBNe, beq_self_eq_true, Bool.not_true, Bool.not_false, Nat.zero_add, Nat.reduceMul, List.map_nil, List.drop_succ_cons, List.drop_zero, List.take_succ_cons, List.take_zero, List.nil_append, List.cons_append, Int.toNat_natCast, sl_set, sl_get, sl_len, upd_app, valOf_lit, ite_t, ite_f, str_size, h0, h5, h6, h9, ex, ex2, hadd, hadd2, hcut, ha] <;> rfl) ?_
          exact kk _ h0 rfl rfl
      · obtain ⟨v', st', ha, hcut, kk⟩ := one (fun h => h3 (h.2.elim (fun h => .inl (h61.2 h)) (fun h => .inr (h33.2 h))))
        generalize b :: r.take 0 = tx at ha hcut
        clear one kok hap htok hr2 hh e61 h61 h33 hn hn2 hi hb hr
        refine aw_run 0 (by simp (maxSteps := 5000000) (disch := first | assumption | omega | (simp only [ASt.set_ctr, ASt.new_ctr] <;> omega)) only [W4_e.down, S25_0_e.down, S25_1_e.down, S25_2_e.down, S25_3_e.down, S25_4_e.down, S25_5_e.down, S25_6_e.down, S25_7_e.down, o_lent_9, o_bd_52, hint_25_21, o_bs_46_1, hint_25_22, bi_app, o_ixt_9, cf_48, cf_49, cf_50, o_cut_9_lh, o_cut_9_l, o_cut_9_h, hint_25_104, hint_25_105, cf_51, hint_25_166, hint_25_167, hint_25_201, hint_25_202, AVal.undef, sbn1, sbn2, aexec, aops, aop, Region.wanted, aeval, aput, aseq, ablock, ahint, absOf, flat, nilCheckA, ANext.ofP, evals, evalPs, evalO, aresults, aresults1, aresult, aend, Option.map_some, Option.bind_some, if_true, if_false, ↓reduceIte, Nat.reduceLT, Nat.reduceEqDiff, reduceCtorEq, Bool.false_eq_true, false_and, and_false, and_true, true_and, Nat.reduceAdd, Nat.reduceLeDiff, callA, List.getElem?_toArray, List.getElem?_cons_succ, List.getElem?_cons_zero, sb1, sb2, sb3, sb4, sliceU_i, sliceU_s, sliceU_p, sliceU_l, evalV, ayielded_eq, slotOf_eq, dstOf, yieldB, xo_move, xo_assign, xo_pick, xo_alloc, xo_box, xo_build, xo_bslice, xo_load, xo_store, xo_nn, xo_bin, xo_un, xo_conv, xo_mki, xo_mkf, xo_mks, xo_slice, xo_fa, xo_fv, xo_ia, xo_ix, xo_ext, xo_call, xo_panic, extractA, b_lss, b_leq, b_gtr, b_geq, b_eql, b_neq, b_add, b_sub, b_mul, b_and, b_or, b_xor, b_shl, b_shr, b_quo, b_rem, u_not, u_neg, wr_i64, wr_u64, wr_u32, wr_u8, wr_i32, wr_u16, wr_i16, wr_i8, dec_t, dec_f, ieq_t, ieq_f, ine_t, ine_f, blkOf_cells, heap_set_same, heap_set_ne, heap_new_same, heap_new_ne, ASt.set_ctr, ASt.new_ctr, set_set', ic_lit, ic_agg, ic_ptr, ic_iptr, ic_slice, ic_islice, ic_func, ic_iface, boxA, newA, List.all_cons, List.all_nil, Bool.and_self, Bool.and_true, Bool.true_and, cs_lit, cs_agg, cs_ptr, cs_iptr, cs_slice, cs_islice, cs_func, cs_iface, fillA, putL, setsE, eo_lit, eo_agg, eo_ptr, eo_iptr, eo_slice, eo_islice, eo_func, eo_iface, eo_byte, List.set_cons_zero, List.set_cons_succ, List.length_cons, List.length_nil, Nat.reduceBEq, Nat.reduceBNe, beq_self_eq_true, Bool.not_true, Bool.not_false, Nat.zero_add, Nat.reduceMul, List.map_nil, List.drop_succ_cons, List.drop_zero, List.take_succ_cons, List.take_zero, List.nil_append, List.cons_append, Int.toNat_natCast, sl_set, sl_get, sl_len, upd_app, valOf_lit, ite_t, ite_f, str_size, h0, h5, h6, h9, ex, ex2, hadd, hadd2, hcut, ha] <;> rfl) ?_
        exact kk _ h0 rfl rfl
    · obtain ⟨v', st', ha, hcut, kk⟩ := one (fun h => h2 (e61.2 (by rw [hh] at h; exact Option.some.inj h.1)))
      generalize b :: r.take 0 = tx at ha hcut
      clear one kok hap htok hr2 hh e61 h61 h33 hn hn2 hi hb hr
      refine aw_run 0 (by simp (maxSteps := 5000000) (disch := first | assumption | omega | (simp only [ASt.set_ctr, ASt.new_ctr] <;> omega)) only [W4_e.down, S25_0_e.down, S25_1_e.down, S25_2_e.down, S25_3_e.down, S25_4_e.down, S25_5_e.down, S25_6_e.down, S25_7_e.down, o_lent_9, o_bd_52, hint_25_21, o_bs_46_1, hint_25_22, bi_app, o_ixt_9, cf_48, cf_49, cf_50, o_cut_9_lh, o_cut_9_l, o_cut_9_h, hint_25_104, hint_25_105, cf_51, hint_25_166, hint_25_167, hint_25_201, hint_25_202, AVal.undef, sbn1, sbn2, aexec, aops, aop, Region.wanted, aeval, aput, aseq, ablock, ahint, absOf, flat, nilCheckA, ANext.ofP, evals, evalPs, evalO, aresults, aresults1, aresult, aend, Option.map_some, Option.bind_some, if_true, if_false, ↓reduceIte, Nat.reduceLT, Nat.reduceEqDiff, reduceCtorEq, Bool.false_eq_true, false_and, and_false, and_true, true_and, Nat.reduceAdd, Nat.reduceLeDiff, callA, List.getElem?_toArray, List.getElem?_cons_succ, List.getElem?_cons_zero, sb1, sb2, sb3, sb4, sliceU_i, sliceU_s, sliceU_p, sliceU_l, evalV, ayielded_eq, slotOf_eq, dstOf, yieldB, xo_move, xo_assign, xo_pick, xo_alloc, xo_box, xo_build, xo_bslice, xo_load, xo_store, xo_nn, xo_bin, xo_un, xo_conv, xo_mki, xo_mkf, xo_mks, xo_slice, xo_fa, xo_fv, xo_ia, xo_ix, xo_ext, xo_call, xo_panic, extractA, b_lss, b_leq, b_gtr, b_geq, b_eql, b_neq, b_add, b_sub, b_mul, b_and, b_or, b_xor, b_shl, b_shr, b_quo, b_rem, u_not, u_neg, wr_i64, wr_u64, wr_u32, wr_u8, wr_i32, wr_u16, wr_i16, wr_i8, dec_t, dec_f, ieq_t, ieq_f, ine_t, ine_f, blkOf_cells, heap_set_same, heap_set_ne, heap_new_same, heap_new_ne, ASt.set_ctr, ASt.new_ctr, set_set', ic_lit, ic_agg, ic_ptr, ic_iptr, ic_slice, ic_islice, ic_func, ic_iface, boxA, newA, List.all_cons, List.all_nil, Bool.and_self, Bool.and_true, Bool.true_and, cs_lit, cs_agg, cs_ptr, cs_iptr, cs_slice, cs_islice, cs_func, cs_iface, fillA, putL, setsE, eo_lit, eo_agg, eo_ptr, eo_iptr, eo_slice, eo_islice, eo_func, eo_iface, eo_byte, List.set_cons_zero, List.set_cons_succ, List.length_cons, List.length_nil, Nat.reduceBEq, Nat.reduceBNe, beq_self_eq_true, Bool.not_true, Bool.not_false, Nat.zero_add, Nat.reduceMul, List.map_nil, List.drop_succ_cons, List.drop_zero, List.take_succ_cons, List.take_zero, List.nil_append, List.cons_append, Int.toNat_natCast, sl_set, sl_get, sl_len, upd_app, valOf_lit, ite_t, ite_f, str_size, h0, h5, h6, h9, ex, ex2, hadd, hadd2, hcut, ha] <;> rfl) ?_
      exact kk _ h0 rfl rfl
  · obtain ⟨v', st', ha, hcut, kk⟩ := one (fun h => h8 (by
      have h1 := h.1
      rw [← hr] at h1
      apply Nat.lt_of_not_le
      intro h2
      rw [List.drop_of_length_le h2] at h1
      cases h1))
    generalize b :: r.take 0 = tx at ha hcut
    clear one kok hap htok h61 h33 hi hb hr
    refine aw_run 0 (by simp (maxSteps := 5000000) (disch := first | assumption | omega | (simp only [ASt.set_ctr, ASt.new_ctr] <;> omega)) only [W4_e.down, S25_0_e.down, S25_1_e.down, S25_2_e.down, S25_3_e.down, S25_4_e.down, S25_5_e.down, S25_6_e.down, S25_7_e.down, o_lent_9, o_bd_52, hint_25_21, o_bs_46_1, hint_25_22, bi_app, o_ixt_9, cf_48, cf_49, cf_50, o_cut_9_lh, o_cut_9_l, o_cut_9_h, hint_25_104, hint_25_105, cf_51, hint_25_166, hint_25_167, hint_25_201, hint_25_202, AVal.undef, sbn1, sbn2, aexec, aops, aop, Region.wanted, aeval, aput, aseq, ablock, ahint, absOf, flat, nilCheckA, ANext.ofP, evals, evalPs, evalO, aresults, aresults1, aresult, aend, Option.map_some, Option.bind_some, if_true, if_false, ↓reduceIte, Nat.reduceLT, Nat.reduceEqDiff, reduceCtorEq, Bool.false_eq_true, false_and, and_false, and_true, true_and, Nat.reduceAdd, Nat.reduceLeDiff, callA, List.getElem?_toArray, List.getElem?_cons_succ, List.getElem?_cons_zero, sb1, sb2, sb3, sb4, sliceU_i, sliceU_s, sliceU_p, sliceU_l, evalV, ayielded_eq, slotOf_eq, dstOf, yieldB, xo_move, xo_assign, xo_pick, xo_alloc, xo_box, xo_build, xo_bslice, xo_load, xo_store, xo_nn, xo_bin, xo_un, xo_conv, xo_mki, xo_mkf, xo_mks, xo_slice, xo_fa, xo_fv, xo_ia, xo_ix, xo_ext, xo_call, xo_panic, extractA, b_lss, b_leq, b_gtr, b_geq, b_eql, b_neq, b_add, b_sub, b_mul, b_and, b_or, b_xor, b_shl, b_shr, b_quo, b_rem, u_not, u_neg, wr_i64, wr_u64, wr_u32, wr_u8, wr_i32, wr_u16, wr_i16, wr_i8, dec_t, dec_f, ieq_t, ieq_f, ine_t, ine_f, blkOf_cells, heap_set_same, heap_set_ne, heap_new_same, heap_new_ne, ASt.set_ctr, ASt.new_ctr, set_set', ic_lit, ic_agg, ic_ptr, ic_iptr, ic_slice, ic_islice, ic_func, ic_iface, boxA, newA, List.all_cons, List.all_nil, Bool.and_self, Bool.and_true, Bool.true_and, cs_lit, cs_agg, cs_ptr, cs_iptr, cs_slice, cs_islice, cs_func, cs_iface, fillA, putL, setsE, eo_lit, eo_agg, eo_ptr, eo_iptr, eo_slice, eo_islice, eo_func, eo_iface, eo_byte, List.set_cons_zero, List.set_cons_succ, List.length_cons, List.length_nil, Nat.reduceBEq, Nat.reduceBNe, beq_self_eq_true, Bool.not_true, Bool.not_false, Nat.zero_add, Nat.reduceMul, List.map_nil, List.drop_succ_cons, List.drop_zero, List.take_succ_cons, List.take_zero, List.nil_append, List.cons_append, Int.toNat_natCast, sl_set, sl_get, sl_len, upd_app, valOf_lit, ite_t, ite_f, str_size, h0, h5, h6, h9, ex, hadd, hadd2, hcut, ha] <;> rfl) ?_
    exact kk _ h0 rfl rfl
end Go.Proofs.YtlpdplchcpkajaaDoorV
