/- LexNotes walked. No condition. -/
import Derived.Test.YtlpdplchcpkajaaDoorY8
namespace Go.Proofs.YtlpdplchcpkajaaDoorV
open Go Go.RowKit Go.Proofs.YtlpdplchcpkajaaDoorA
set_option linter.unusedVariables false
set_option linter.unusedSimpArgs false
set_option maxRecDepth 100000

theorem cont_none {s p : List UInt8} (h : Lib.contains s p = false) : ∀ j, j ≤ s.length → p.isPrefixOf (s.drop j) = false := by
  have h' : ¬ 0 ≤ Lib.index s p := of_decide_eq_false h
  rcases Lib.index_spec s p with ⟨_, h2⟩ | ⟨i, h2, _⟩
  · exact h2
  · exact absurd (by rw [h2]; omega) h'
theorem not_in {s : List UInt8} {c : UInt8} (h : Lib.contains s [c] = false) : c ∉ s := by
  intro hm
  obtain ⟨i, hi, he⟩ := List.mem_iff_getElem.1 hm
  have h1 := cont_none h i (by omega)
  rw [List.drop_eq_getElem_cons hi, he] at h1
  simp [List.isPrefixOf] at h1
theorem nn_of {s : List UInt8} (h : Lib.contains s [47, 47] = false) : NN s := by
  intro i h1 h2
  have hi := (List.getElem?_eq_some_iff.1 h1).1
  have hi2 := (List.getElem?_eq_some_iff.1 h2).1
  have h3 := cont_none h i (by omega)
  rw [List.drop_eq_getElem_cons hi, List.drop_eq_getElem_cons hi2] at h3
  have e1 := (List.getElem?_eq_some_iff.1 h1).2
  have e2 := (List.getElem?_eq_some_iff.1 h2).2
  rw [e1, e2] at h3
  simp [List.isPrefixOf] at h3
theorem cont_rw (s p : List UInt8) (hs : s.length ≤ 100000) (st : ASt) : rw E 29 [.lit (.string ⟨s.toArray⟩), .lit (.string ⟨p.toArray⟩)] st = some (.returned (.lit (.bool (Lib.contains s p))), st) := by
  refine rw_prim (F := containsF) rfl rfl ?_
  unfold containsF
  have hs : (⟨s.toArray⟩ : ByteArray).size < 4294967281 := by show s.length < _; omega
  simp only [if_pos hs]
theorem splitN (a note b : List UInt8) (hn : 10 ∉ note) (ha : NN a) : ∃ d, lexL 0 (a ++ 32 :: 47 :: 47 :: (note ++ 10 :: b)) = andR (lexL 0 a) (shR d (lexL 0 b)) := by
  refine ⟨0 + a.length + 1 + 1 + (47 :: note).length + 1, ?_⟩
  rw [lexL_app sep32 _ 0 a (.inr ha), lexL_note rfl]
  have hd : (10 : UInt8) ∉ (47 :: note) := fun h => by
    rcases List.mem_cons.1 h with h | h
    · cases h
    · exact hn h
  have e1 : (47 :: (note ++ 10 :: b)).takeWhile (fun b => decide (b ≠ (10 : UInt8))) = 47 :: note := by
    have h := tw_app (p := fun b => decide (b ≠ (10 : UInt8))) (s := 10) (by decide) b (47 :: note)
    rw [List.cons_append] at h
    rw [h]
    have h2 := take_tw (p := fun b => decide (b ≠ (10 : UInt8))) (47 :: note)
    rw [tw_none hd, List.take_length] at h2
    exact h2.symm
  have e2 : (47 :: (note ++ 10 :: b)).dropWhile (fun b => decide (b ≠ (10 : UInt8))) = 10 :: b := by
    have h := List.takeWhile_append_dropWhile (p := fun b => decide (b ≠ (10 : UInt8))) (l := 47 :: (note ++ 10 :: b))
    rw [e1, List.cons_append] at h
    exact List.append_cancel_left (List.cons.inj h).2
  rw [e1, e2, lexL_blank (by decide), show 0 + a.length + 1 + 1 + (47 :: note).length + 1 = 0 + (0 + a.length + 1 + 1 + (47 :: note).length + 1) by omega, lexL_sh]
  simp
/-- two readings that are alike but for places -/
inductive Alike : Except (Nat × Nat) (List Tk) → Except (Nat × Nat) (List Tk) → Prop
  | ok {ts us : List Tk} (hl : us.length = ts.length) (h : ∀ (i : Nat) (t u : Tk), ts[i]? = some t → us[i]? = some u → t.like u) : Alike (.ok ts) (.ok us)
  | error {p q e : Nat} : Alike (.error (p, e)) (.error (q, e))
theorem sh_like (d d' : Nat) (a b : Except (Nat × Nat) (List Tk)) : Alike (andR a (shR d b)) (andR a (shR d' b)) := by
  cases a with
  | error e => obtain ⟨p, e⟩ := e; exact .error
  | ok ts => cases b with
    | error e => obtain ⟨p, e⟩ := e; exact .error
    | ok us =>
      refine .ok (by simp) ?_
      intro i t u ht hu
      by_cases hi : i < ts.length
      · rw [List.getElem?_append_left hi] at ht hu
        rw [ht] at hu
        cases hu
        exact ⟨rfl, rfl, rfl, rfl⟩
      · rw [List.getElem?_append_right (by omega), List.getElem?_map] at ht hu
        cases hq : us[i - ts.length]? with
        | none => rw [hq] at ht; cases ht
        | some x =>
          rw [hq] at ht hu
          cases ht
          cases hu
          exact ⟨rfl, rfl, rfl, rfl⟩
def codeR : Except (Nat × Nat) (List Tk) → Int
  | .ok _ => 0
  | .error (_, e) => e
def toksR (n : Nat) : Except (Nat × Nat) (List Tk) → List Tk
  | .ok ts => ts ++ [endK n]
  | .error _ => []
theorem split_gen {l : List UInt8} {st : ASt} (hl : l.length ≤ 16384) : ∃ v p st', rw E 25 [.lit (.string ⟨l.toArray⟩)] st = some (.returned (.tuple [v, .lit (.int .i64 p), .lit (.int .i64 (codeR (lexL 0 l)))]), st') ∧ Gr st st' ∧ RV 4 v ((toksR l.length (lexL 0 l)).map Tk.a) := by
  rcases split_rv (l := l) (st := st) hl with ⟨ts, v, s2, hq, c1, hg, hV⟩ | ⟨p, e, s2, hq, he, c1, hg⟩
  · rw [hq]; exact ⟨v, 0, s2, c1, hg, hV⟩
  · rw [hq]; exact ⟨_, _, s2, c1, hg, .inl ⟨rfl, rfl⟩⟩
theorem alike_toks {x y : Except (Nat × Nat) (List Tk)} (h : Alike x y) (n m : Nat) : codeR x = codeR y ∧ (toksR m y).length = (toksR n x).length ∧ ∀ (i : Nat) (t u : Tk), (toksR n x)[i]? = some t → (toksR m y)[i]? = some u → t.like u := by
  cases h with
  | error => exact ⟨rfl, rfl, fun i t u h => by cases h⟩
  | @ok ts us hl h =>
    refine ⟨rfl, by simp [toksR, hl], fun i t u ht hu => ?_⟩
    unfold toksR at ht hu
    simp only at ht hu
    by_cases hi : i < ts.length
    · rw [List.getElem?_append_left hi] at ht
      rw [List.getElem?_append_left (by omega)] at hu
      exact h i t u ht hu
    · rw [List.getElem?_append_right (by omega)] at ht
      rw [List.getElem?_append_right (by omega)] at hu
      have h0 : i - ts.length = 0 := by
        have := (List.getElem?_eq_some_iff.1 ht).1
        simpa using this
      rw [h0] at ht
      rw [hl, h0] at hu
      obtain rfl : endK n = t := by simpa using ht
      obtain rfl : endK m = u := by simpa using hu
      exact ⟨rfl, rfl, rfl, rfl⟩
theorem toks_fin {l : List UInt8} {n : Nat} : ∀ t ∈ toksR n (lexL 0 l), t.fin := by
  intro t ht
  cases hq : lexL 0 l with
  | ok ts =>
    rw [hq] at ht
    exact (List.mem_append.1 ht).elim (lexL_fin hq t) (fun h => by rw [List.mem_singleton.1 h]; exact endK_fin _)
  | error e => rw [hq] at ht; cases ht
theorem toks_len {l : List UInt8} {n : Nat} : (toksR n (lexL 0 l)).length ≤ l.length + 1 := by
  cases hq : lexL 0 l with
  | ok ts => have := lexL_len hq; simp [toksR]; omega
  | error e => simp [toksR]
set_option maxHeartbeats 8000000 in
theorem notes_runs (b0 b1 b2 : AVal) (d0 : DatV E.P 6 9 b0) (d1 : DatV E.P 6 9 b1) (d2 : DatV E.P 6 9 b2) : ∃ n st', run E n 11 [b0, b1, b2] st0 = some (.returned (.lit (.bool true)), st') := by
  suffices h : ∃ r st', rw E 11 [b0, b1, b2] st0 = some (r, st') ∧ r = .returned (.lit (.bool true)) by
    obtain ⟨r, st', h1, rfl⟩ := h
    obtain ⟨n, hn⟩ := rw_out h1
    exact ⟨n, st', hn⟩
  obtain ⟨a, rfl, hmx⟩ := dv_str rfl d0
  obtain ⟨nt, rfl, hmx2⟩ := dv_str rfl d1
  obtain ⟨b, rfl, hmx3⟩ := dv_str rfl d2
  obtain ⟨s1, c0⟩ := awakeL
  refine en_11 fun g t0 t1 t2 => ?_
  unfold str at t0 t1 t2
  clear d0 d1 d2
  by_cases hl : a.length ≤ 300
  rotate_left
  · repeat' (first | refine ifk_og (fun hc => ?_) (fun hc => ?_) | refine ifk_gg (fun hc => ?_) (fun hc => ?_) | refine ifk_go (fun hc => ?_) (fun hc => ?_) | refine ifk_ss (fun hc => ?_) (fun hc => ?_) | simp (maxSteps := 5000000) (disch := first | assumption | omega | (simp only [ASt.set_ctr, ASt.new_ctr] <;> omega)) only [R11_0_e.down, R11_1_e.down, R11_2_e.down, N11_4_e, N11_3_e, N11_2_e, R11_3_e.down, R11_4_e.down, N11_8_e, N11_7_e, N11_6_e, R11_5_e.down, R11_6_e.down, R11_7_e.down, R11_8_e.down, N11_14_e, N11_13_e, N11_12_e, R11_9_e.down, R11_10_e.down, R11_11_e.down, R11_12_e.down, R11_13_e.down, N11_23_e, N11_22_e, N11_21_e, N11_20_e, R11_14_e.down, N11_24_e, N11_19_e, N11_18_e, L11_0_e, N11_17_e, N11_16_e, R11_15_e.down, N11_25_e, N11_15_e, N11_11_e, N11_10_e, N11_9_e, N11_5_e, N11_1_e, N11_0_e, rq_11, rqn_11, cf_24, o_lent_9, cf_29, add_str, cf_25, o_leni_46, o_lens_46, o_lenn_46, o_ixi_46, o_ixs_46, o_fap_52_0, o_fai_52_0, o_ldp_50, o_ldi_50, o_fap_52_1, o_fai_52_1, o_ldp_9, o_ldi_9, ne_str, o_fap_52_2, o_fai_52_2, o_ldp_38, o_ldi_38, AVal.undef, sbn1, sbn2, aeval, aput, ahint, absOf, flat, nilCheckA, ANext.ofP, evals, evalPs, evalO, Option.map_some, Option.bind_some, if_true, if_false, ↓reduceIte, Nat.reduceLT, Nat.reduceEqDiff, reduceCtorEq, Bool.false_eq_true, false_and, and_false, and_true, true_and, Nat.reduceAdd, Nat.reduceLeDiff, callA, List.getElem?_cons_succ, List.getElem?_cons_zero, sb1, sb2, sb3, sb4, sliceU_i, sliceU_s, sliceU_p, sliceU_l, evalV, yieldB, xo_move, xo_assign, xo_alloc, xo_box, xo_build, xo_bslice, xo_load, xo_store, xo_nn, xo_bin, xo_un, xo_conv, xo_mki, xo_mkf, xo_mks, xo_slice, xo_fa, xo_fv, xo_ia, xo_ix, xo_ext, xo_call, xo_panic, extractA, b_lss, b_leq, b_gtr, b_geq, b_eql, b_neq, b_add, b_sub, b_mul, b_and, b_or, b_xor, b_shl, b_shr, b_quo, b_rem, u_not, u_neg, wr_i64, wr_u64, wr_u32, wr_u8, wr_i32, wr_u16, wr_i16, wr_i8, dec_t, dec_f, ieq_t, ieq_f, ine_t, ine_f, blkOf_cells, ASt.set_ctr, ASt.new_ctr, set_set', ic_lit, ic_agg, ic_ptr, ic_iptr, ic_slice, ic_islice, ic_func, ic_iface, boxA, newA, List.all_cons, List.all_nil, Bool.and_self, Bool.and_true, Bool.true_and, cs_lit, cs_agg, cs_ptr, cs_iptr, cs_slice, cs_islice, cs_func, cs_iface, fillA, putL, setsE, eo_lit, eo_agg, eo_ptr, eo_iptr, eo_slice, eo_islice, eo_func, eo_iface, eo_byte, List.set_cons_zero, List.set_cons_succ, List.length_cons, List.length_nil, Nat.reduceBEq, Nat.reduceBNe, beq_self_eq_true, Bool.not_true, Bool.not_false, Nat.zero_add, Nat.reduceMul, List.map_nil, List.drop_succ_cons, List.drop_zero, List.take_succ_cons, List.take_zero, List.nil_append, List.cons_append, Int.toNat_natCast, sl_set, sl_get, sl_len, upd_app, valOf_lit, ite_t, ite_f, g_skip, g_seq, g_cond, g_block, g_exit, g_label, g_goto, g_ret, re_nil, re_nc, re_nb, re_ec, re_eb, re_gc, re_gb, go_nil, go_op, go_opg, so_val, so_enter, so_panic, sc_ret, sc_panic, rs_some, cond_b, lq_e, lq_r, lq_g, lq_p, rq_p, bindK_some, beq_iff_eq, bne_iff_ne, ne_eq, not_false_eq_true, not_true_eq_false, decide_eq_true_eq, Option.some.injEq, List.getElem?_toArray, gt_iff_lt, ge_iff_le, so_pick, decide_eq_false_iff_not, ifk_ot, ifk_nf, ifk_of, ifk_nt, ifk_gt, ifk_gf, ifk_st, ifk_sf, ifk_ot', ifk_nf', ifk_of', ifk_nt', ifk_gt', ifk_gf', ifk_st', ifk_sf', ifk_not, ifk_bf, Bool.not_eq_true', re_ret, re_pan, heap_new_if, heap_set_if, eq_self, t0,t1,t2,c0,str_size])
  by_cases hl2 : b.length ≤ 300
  rotate_left
  · repeat' (first | refine ifk_og (fun hc => ?_) (fun hc => ?_) | refine ifk_gg (fun hc => ?_) (fun hc => ?_) | refine ifk_go (fun hc => ?_) (fun hc => ?_) | refine ifk_ss (fun hc => ?_) (fun hc => ?_) | simp (maxSteps := 5000000) (disch := first | assumption | omega | (simp only [ASt.set_ctr, ASt.new_ctr] <;> omega)) only [R11_0_e.down, R11_1_e.down, R11_2_e.down, N11_4_e, N11_3_e, N11_2_e, R11_3_e.down, R11_4_e.down, N11_8_e, N11_7_e, N11_6_e, R11_5_e.down, R11_6_e.down, R11_7_e.down, R11_8_e.down, N11_14_e, N11_13_e, N11_12_e, R11_9_e.down, R11_10_e.down, R11_11_e.down, R11_12_e.down, R11_13_e.down, N11_23_e, N11_22_e, N11_21_e, N11_20_e, R11_14_e.down, N11_24_e, N11_19_e, N11_18_e, L11_0_e, N11_17_e, N11_16_e, R11_15_e.down, N11_25_e, N11_15_e, N11_11_e, N11_10_e, N11_9_e, N11_5_e, N11_1_e, N11_0_e, rq_11, rqn_11, cf_24, o_lent_9, cf_29, add_str, cf_25, o_leni_46, o_lens_46, o_lenn_46, o_ixi_46, o_ixs_46, o_fap_52_0, o_fai_52_0, o_ldp_50, o_ldi_50, o_fap_52_1, o_fai_52_1, o_ldp_9, o_ldi_9, ne_str, o_fap_52_2, o_fai_52_2, o_ldp_38, o_ldi_38, AVal.undef, sbn1, sbn2, aeval, aput, ahint, absOf, flat, nilCheckA, ANext.ofP, evals, evalPs, evalO, Option.map_some, Option.bind_some, if_true, if_false, ↓reduceIte, Nat.reduceLT, Nat.reduceEqDiff, reduceCtorEq, Bool.false_eq_true, false_and, and_false, and_true, true_and, Nat.reduceAdd, Nat.reduceLeDiff, callA, List.getElem?_cons_succ, List.getElem?_cons_zero, sb1, sb2, sb3, sb4, sliceU_i, sliceU_s, sliceU_p, sliceU_l, evalV, yieldB, xo_move, xo_assign, xo_alloc, xo_box, xo_build, xo_bslice, xo_load, xo_store, xo_nn, xo_bin, xo_un, xo_conv, xo_mki, xo_mkf, xo_mks, xo_slice, xo_fa, xo_fv, xo_ia, xo_ix, xo_ext, xo_call, xo_panic, extractA, b_lss, b_leq, b_gtr, b_geq, b_eql, b_neq, b_add, b_sub, b_mul, b_and, b_or, b_xor, b_shl, b_shr, b_quo, b_rem, u_not, u_neg, wr_i64, wr_u64, wr_u32, wr_u8, wr_i32, wr_u16, wr_i16, wr_i8, dec_t, dec_f, ieq_t, ieq_f, ine_t, ine_f, blkOf_cells, ASt.set_ctr, ASt.new_ctr, set_set', ic_lit, ic_agg, ic_ptr, ic_iptr, ic_slice, ic_islice, ic_func, ic_iface, boxA, newA, List.all_cons, List.all_nil, Bool.and_self, Bool.and_true, Bool.true_and, cs_lit, cs_agg, cs_ptr, cs_iptr, cs_slice, cs_islice, cs_func, cs_iface, fillA, putL, setsE, eo_lit, eo_agg, eo_ptr, eo_iptr, eo_slice, eo_islice, eo_func, eo_iface, eo_byte, List.set_cons_zero, List.set_cons_succ, List.length_cons, List.length_nil, Nat.reduceBEq, Nat.reduceBNe, beq_self_eq_true, Bool.not_true, Bool.not_false, Nat.zero_add, Nat.reduceMul, List.map_nil, List.drop_succ_cons, List.drop_zero, List.take_succ_cons, List.take_zero, List.nil_append, List.cons_append, Int.toNat_natCast, sl_set, sl_get, sl_len, upd_app, valOf_lit, ite_t, ite_f, g_skip, g_seq, g_cond, g_block, g_exit, g_label, g_goto, g_ret, re_nil, re_nc, re_nb, re_ec, re_eb, re_gc, re_gb, go_nil, go_op, go_opg, so_val, so_enter, so_panic, sc_ret, sc_panic, rs_some, cond_b, lq_e, lq_r, lq_g, lq_p, rq_p, bindK_some, beq_iff_eq, bne_iff_ne, ne_eq, not_false_eq_true, not_true_eq_false, decide_eq_true_eq, Option.some.injEq, List.getElem?_toArray, gt_iff_lt, ge_iff_le, so_pick, decide_eq_false_iff_not, ifk_ot, ifk_nf, ifk_of, ifk_nt, ifk_gt, ifk_gf, ifk_st, ifk_sf, ifk_ot', ifk_nf', ifk_of', ifk_nt', ifk_gt', ifk_gf', ifk_st', ifk_sf', ifk_not, ifk_bf, Bool.not_eq_true', re_ret, re_pan, heap_new_if, heap_set_if, eq_self, t0,t1,t2,c0,str_size])
  by_cases hl3 : nt.length ≤ 100
  rotate_left
  · repeat' (first | refine ifk_og (fun hc => ?_) (fun hc => ?_) | refine ifk_gg (fun hc => ?_) (fun hc => ?_) | refine ifk_go (fun hc => ?_) (fun hc => ?_) | refine ifk_ss (fun hc => ?_) (fun hc => ?_) | simp (maxSteps := 5000000) (disch := first | assumption | omega | (simp only [ASt.set_ctr, ASt.new_ctr] <;> omega)) only [R11_0_e.down, R11_1_e.down, R11_2_e.down, N11_4_e, N11_3_e, N11_2_e, R11_3_e.down, R11_4_e.down, N11_8_e, N11_7_e, N11_6_e, R11_5_e.down, R11_6_e.down, R11_7_e.down, R11_8_e.down, N11_14_e, N11_13_e, N11_12_e, R11_9_e.down, R11_10_e.down, R11_11_e.down, R11_12_e.down, R11_13_e.down, N11_23_e, N11_22_e, N11_21_e, N11_20_e, R11_14_e.down, N11_24_e, N11_19_e, N11_18_e, L11_0_e, N11_17_e, N11_16_e, R11_15_e.down, N11_25_e, N11_15_e, N11_11_e, N11_10_e, N11_9_e, N11_5_e, N11_1_e, N11_0_e, rq_11, rqn_11, cf_24, o_lent_9, cf_29, add_str, cf_25, o_leni_46, o_lens_46, o_lenn_46, o_ixi_46, o_ixs_46, o_fap_52_0, o_fai_52_0, o_ldp_50, o_ldi_50, o_fap_52_1, o_fai_52_1, o_ldp_9, o_ldi_9, ne_str, o_fap_52_2, o_fai_52_2, o_ldp_38, o_ldi_38, AVal.undef, sbn1, sbn2, aeval, aput, ahint, absOf, flat, nilCheckA, ANext.ofP, evals, evalPs, evalO, Option.map_some, Option.bind_some, if_true, if_false, ↓reduceIte, Nat.reduceLT, Nat.reduceEqDiff, reduceCtorEq, Bool.false_eq_true, false_and, and_false, and_true, true_and, Nat.reduceAdd, Nat.reduceLeDiff, callA, List.getElem?_cons_succ, List.getElem?_cons_zero, sb1, sb2, sb3, sb4, sliceU_i, sliceU_s, sliceU_p, sliceU_l, evalV, yieldB, xo_move, xo_assign, xo_alloc, xo_box, xo_build, xo_bslice, xo_load, xo_store, xo_nn, xo_bin, xo_un, xo_conv, xo_mki, xo_mkf, xo_mks, xo_slice, xo_fa, xo_fv, xo_ia, xo_ix, xo_ext, xo_call, xo_panic, extractA, b_lss, b_leq, b_gtr, b_geq, b_eql, b_neq, b_add, b_sub, b_mul, b_and, b_or, b_xor, b_shl, b_shr, b_quo, b_rem, u_not, u_neg, wr_i64, wr_u64, wr_u32, wr_u8, wr_i32, wr_u16, wr_i16, wr_i8, dec_t, dec_f, ieq_t, ieq_f, ine_t, ine_f, blkOf_cells, ASt.set_ctr, ASt.new_ctr, set_set', ic_lit, ic_agg, ic_ptr, ic_iptr, ic_slice, ic_islice, ic_func, ic_iface, boxA, newA, List.all_cons, List.all_nil, Bool.and_self, Bool.and_true, Bool.true_and, cs_lit, cs_agg, cs_ptr, cs_iptr, cs_slice, cs_islice, cs_func, cs_iface, fillA, putL, setsE, eo_lit, eo_agg, eo_ptr, eo_iptr, eo_slice, eo_islice, eo_func, eo_iface, eo_byte, List.set_cons_zero, List.set_cons_succ, List.length_cons, List.length_nil, Nat.reduceBEq, Nat.reduceBNe, beq_self_eq_true, Bool.not_true, Bool.not_false, Nat.zero_add, Nat.reduceMul, List.map_nil, List.drop_succ_cons, List.drop_zero, List.take_succ_cons, List.take_zero, List.nil_append, List.cons_append, Int.toNat_natCast, sl_set, sl_get, sl_len, upd_app, valOf_lit, ite_t, ite_f, g_skip, g_seq, g_cond, g_block, g_exit, g_label, g_goto, g_ret, re_nil, re_nc, re_nb, re_ec, re_eb, re_gc, re_gb, go_nil, go_op, go_opg, so_val, so_enter, so_panic, sc_ret, sc_panic, rs_some, cond_b, lq_e, lq_r, lq_g, lq_p, rq_p, bindK_some, beq_iff_eq, bne_iff_ne, ne_eq, not_false_eq_true, not_true_eq_false, decide_eq_true_eq, Option.some.injEq, List.getElem?_toArray, gt_iff_lt, ge_iff_le, so_pick, decide_eq_false_iff_not, ifk_ot, ifk_nf, ifk_of, ifk_nt, ifk_gt, ifk_gf, ifk_st, ifk_sf, ifk_ot', ifk_nf', ifk_of', ifk_nt', ifk_gt', ifk_gf', ifk_st', ifk_sf', ifk_not, ifk_bf, Bool.not_eq_true', re_ret, re_pan, heap_new_if, heap_set_if, eq_self, t0,t1,t2,c0,str_size])
  clear hmx hmx2 hmx3
  have k1 := cont_rw nt [10] (by omega) s1
  cases hk1 : Lib.contains nt [10] with
  | true =>
    rw [hk1] at k1
    repeat' (first | refine ifk_og (fun hc => ?_) (fun hc => ?_) | refine ifk_gg (fun hc => ?_) (fun hc => ?_) | refine ifk_go (fun hc => ?_) (fun hc => ?_) | refine ifk_ss (fun hc => ?_) (fun hc => ?_) | simp (maxSteps := 5000000) (disch := first | assumption | omega | (simp only [ASt.set_ctr, ASt.new_ctr] <;> omega)) only [R11_0_e.down, R11_1_e.down, R11_2_e.down, N11_4_e, N11_3_e, N11_2_e, R11_3_e.down, R11_4_e.down, N11_8_e, N11_7_e, N11_6_e, R11_5_e.down, R11_6_e.down, R11_7_e.down, R11_8_e.down, N11_14_e, N11_13_e, N11_12_e, R11_9_e.down, R11_10_e.down, R11_11_e.down, R11_12_e.down, R11_13_e.down, N11_23_e, N11_22_e, N11_21_e, N11_20_e, R11_14_e.down, N11_24_e, N11_19_e, N11_18_e, L11_0_e, N11_17_e, N11_16_e, R11_15_e.down, N11_25_e, N11_15_e, N11_11_e, N11_10_e, N11_9_e, N11_5_e, N11_1_e, N11_0_e, rq_11, rqn_11, cf_24, o_lent_9, cf_29, add_str, cf_25, o_leni_46, o_lens_46, o_lenn_46, o_ixi_46, o_ixs_46, o_fap_52_0, o_fai_52_0, o_ldp_50, o_ldi_50, o_fap_52_1, o_fai_52_1, o_ldp_9, o_ldi_9, ne_str, o_fap_52_2, o_fai_52_2, o_ldp_38, o_ldi_38, AVal.undef, sbn1, sbn2, aeval, aput, ahint, absOf, flat, nilCheckA, ANext.ofP, evals, evalPs, evalO, Option.map_some, Option.bind_some, if_true, if_false, ↓reduceIte, Nat.reduceLT, Nat.reduceEqDiff, reduceCtorEq, Bool.false_eq_true, false_and, and_false, and_true, true_and, Nat.reduceAdd, Nat.reduceLeDiff, callA, List.getElem?_cons_succ, List.getElem?_cons_zero, sb1, sb2, sb3, sb4, sliceU_i, sliceU_s, sliceU_p, sliceU_l, evalV, yieldB, xo_move, xo_assign, xo_alloc, xo_box, xo_build, xo_bslice, xo_load, xo_store, xo_nn, xo_bin, xo_un, xo_conv, xo_mki, xo_mkf, xo_mks, xo_slice, xo_fa, xo_fv, xo_ia, xo_ix, xo_ext, xo_call, xo_panic, extractA, b_lss, b_leq, b_gtr, b_geq, b_eql, b_neq, b_add, b_sub, b_mul, b_and, b_or, b_xor, b_shl, b_shr, b_quo, b_rem, u_not, u_neg, wr_i64, wr_u64, wr_u32, wr_u8, wr_i32, wr_u16, wr_i16, wr_i8, dec_t, dec_f, ieq_t, ieq_f, ine_t, ine_f, blkOf_cells, ASt.set_ctr, ASt.new_ctr, set_set', ic_lit, ic_agg, ic_ptr, ic_iptr, ic_slice, ic_islice, ic_func, ic_iface, boxA, newA, List.all_cons, List.all_nil, Bool.and_self, Bool.and_true, Bool.true_and, cs_lit, cs_agg, cs_ptr, cs_iptr, cs_slice, cs_islice, cs_func, cs_iface, fillA, putL, setsE, eo_lit, eo_agg, eo_ptr, eo_iptr, eo_slice, eo_islice, eo_func, eo_iface, eo_byte, List.set_cons_zero, List.set_cons_succ, List.length_cons, List.length_nil, Nat.reduceBEq, Nat.reduceBNe, beq_self_eq_true, Bool.not_true, Bool.not_false, Nat.zero_add, Nat.reduceMul, List.map_nil, List.drop_succ_cons, List.drop_zero, List.take_succ_cons, List.take_zero, List.nil_append, List.cons_append, Int.toNat_natCast, sl_set, sl_get, sl_len, upd_app, valOf_lit, ite_t, ite_f, g_skip, g_seq, g_cond, g_block, g_exit, g_label, g_goto, g_ret, re_nil, re_nc, re_nb, re_ec, re_eb, re_gc, re_gb, go_nil, go_op, go_opg, so_val, so_enter, so_panic, sc_ret, sc_panic, rs_some, cond_b, lq_e, lq_r, lq_g, lq_p, rq_p, bindK_some, beq_iff_eq, bne_iff_ne, ne_eq, not_false_eq_true, not_true_eq_false, decide_eq_true_eq, Option.some.injEq, List.getElem?_toArray, gt_iff_lt, ge_iff_le, so_pick, decide_eq_false_iff_not, ifk_ot, ifk_nf, ifk_of, ifk_nt, ifk_gt, ifk_gf, ifk_st, ifk_sf, ifk_ot', ifk_nf', ifk_of', ifk_nt', ifk_gt', ifk_gf', ifk_st', ifk_sf', ifk_not, ifk_bf, Bool.not_eq_true', re_ret, re_pan, heap_new_if, heap_set_if, eq_self, t0,t1,t2,c0,str_size,k1])
  | false =>
    rw [hk1] at k1
    have hn := not_in hk1
    have a1 := sum32 a [32, 47, 47] (by simp; omega)
    have a2 := sum32 (a ++ [32, 47, 47]) nt (by simp; omega)
    have a3 := sum32 (a ++ [32, 47, 47] ++ nt) [10] (by simp; omega)
    have a4 := sum32 (a ++ [32, 47, 47] ++ nt ++ [10]) b (by simp; omega)
    have a5 := sum32 a [10] (by simp; omega)
    have a6 := sum32 (a ++ [10]) b (by simp; omega)
    have l1 : (a ++ [32, 47, 47] ++ nt ++ [10] ++ b).length ≤ 16384 := by simp; omega
    have l2 : (a ++ [10] ++ b).length ≤ 16384 := by simp; omega
    have hA : Lib.contains a [47, 47] = false → Alike (lexL 0 (a ++ [32, 47, 47] ++ nt ++ [10] ++ b)) (lexL 0 (a ++ [10] ++ b)) := by
      intro hc
      obtain ⟨d, hd⟩ := splitN a nt b hn (nn_of hc)
      have h2 := splitJ a b
      rw [show a ++ [32, 47, 47] ++ nt ++ [10] ++ b = a ++ 32 :: 47 :: 47 :: (nt ++ 10 :: b) by simp, show a ++ [10] ++ b = a ++ 10 :: b by simp, hd, h2]
      exact sh_like _ _ _ _
    obtain ⟨v, p, s2, c1, hg, hV⟩ := split_gen (l := a ++ [32, 47, 47] ++ nt ++ [10] ++ b) (st := s1) l1
    obtain ⟨w, p2, s3, c2, hg2, hW⟩ := split_gen (l := a ++ [10] ++ b) (st := s2) l2
    have hf := toks_fin (l := a ++ [32, 47, 47] ++ nt ++ [10] ++ b) (n := (a ++ [32, 47, 47] ++ nt ++ [10] ++ b).length)
    have hll := toks_len (l := a ++ [32, 47, 47] ++ nt ++ [10] ++ b) (n := (a ++ [32, 47, 47] ++ nt ++ [10] ++ b).length)
    have k2 := cont_rw a [47, 47] (by omega) s3
    cases hk2 : Lib.contains a [47, 47] with
    | true =>
      rw [hk2] at k2
      clear hA hn hg hg2 l1 l2 hf hV hW hll
      repeat' (first | refine ifk_og (fun hc => ?_) (fun hc => ?_) | refine ifk_gg (fun hc => ?_) (fun hc => ?_) | refine ifk_go (fun hc => ?_) (fun hc => ?_) | refine ifk_ss (fun hc => ?_) (fun hc => ?_) | simp (maxSteps := 5000000) (disch := first | assumption | omega | (simp only [ASt.set_ctr, ASt.new_ctr] <;> omega)) only [R11_0_e.down, R11_1_e.down, R11_2_e.down, N11_4_e, N11_3_e, N11_2_e, R11_3_e.down, R11_4_e.down, N11_8_e, N11_7_e, N11_6_e, R11_5_e.down, R11_6_e.down, R11_7_e.down, R11_8_e.down, N11_14_e, N11_13_e, N11_12_e, R11_9_e.down, R11_10_e.down, R11_11_e.down, R11_12_e.down, R11_13_e.down, N11_23_e, N11_22_e, N11_21_e, N11_20_e, R11_14_e.down, N11_24_e, N11_19_e, N11_18_e, L11_0_e, N11_17_e, N11_16_e, R11_15_e.down, N11_25_e, N11_15_e, N11_11_e, N11_10_e, N11_9_e, N11_5_e, N11_1_e, N11_0_e, rq_11, rqn_11, cf_24, o_lent_9, cf_29, add_str, cf_25, o_leni_46, o_lens_46, o_lenn_46, o_ixi_46, o_ixs_46, o_fap_52_0, o_fai_52_0, o_ldp_50, o_ldi_50, o_fap_52_1, o_fai_52_1, o_ldp_9, o_ldi_9, ne_str, o_fap_52_2, o_fai_52_2, o_ldp_38, o_ldi_38, AVal.undef, sbn1, sbn2, aeval, aput, ahint, absOf, flat, nilCheckA, ANext.ofP, evals, evalPs, evalO, Option.map_some, Option.bind_some, if_true, if_false, ↓reduceIte, Nat.reduceLT, Nat.reduceEqDiff, reduceCtorEq, Bool.false_eq_true, false_and, and_false, and_true, true_and, Nat.reduceAdd, Nat.reduceLeDiff, callA, List.getElem?_cons_succ, List.getElem?_cons_zero, sb1, sb2, sb3, sb4, sliceU_i, sliceU_s, sliceU_p, sliceU_l, evalV, yieldB, xo_move, xo_assign, xo_alloc, xo_box, xo_build, xo_bslice, xo_load, xo_store, xo_nn, xo_bin, xo_un, xo_conv, xo_mki, xo_mkf, xo_mks, xo_slice, xo_fa, xo_fv, xo_ia, xo_ix, xo_ext, xo_call, xo_panic, extractA, b_lss, b_leq, b_gtr, b_geq, b_eql, b_neq, b_add, b_sub, b_mul, b_and, b_or, b_xor, b_shl, b_shr, b_quo, b_rem, u_not, u_neg, wr_i64, wr_u64, wr_u32, wr_u8, wr_i32, wr_u16, wr_i16, wr_i8, dec_t, dec_f, ieq_t, ieq_f, ine_t, ine_f, blkOf_cells, ASt.set_ctr, ASt.new_ctr, set_set', ic_lit, ic_agg, ic_ptr, ic_iptr, ic_slice, ic_islice, ic_func, ic_iface, boxA, newA, List.all_cons, List.all_nil, Bool.and_self, Bool.and_true, Bool.true_and, cs_lit, cs_agg, cs_ptr, cs_iptr, cs_slice, cs_islice, cs_func, cs_iface, fillA, putL, setsE, eo_lit, eo_agg, eo_ptr, eo_iptr, eo_slice, eo_islice, eo_func, eo_iface, eo_byte, List.set_cons_zero, List.set_cons_succ, List.length_cons, List.length_nil, Nat.reduceBEq, Nat.reduceBNe, beq_self_eq_true, Bool.not_true, Bool.not_false, Nat.zero_add, Nat.reduceMul, List.map_nil, List.drop_succ_cons, List.drop_zero, List.take_succ_cons, List.take_zero, List.nil_append, List.cons_append, Int.toNat_natCast, sl_set, sl_get, sl_len, upd_app, valOf_lit, ite_t, ite_f, g_skip, g_seq, g_cond, g_block, g_exit, g_label, g_goto, g_ret, re_nil, re_nc, re_nb, re_ec, re_eb, re_gc, re_gb, go_nil, go_op, go_opg, so_val, so_enter, so_panic, sc_ret, sc_panic, rs_some, cond_b, lq_e, lq_r, lq_g, lq_p, rq_p, bindK_some, beq_iff_eq, bne_iff_ne, ne_eq, not_false_eq_true, not_true_eq_false, decide_eq_true_eq, Option.some.injEq, List.getElem?_toArray, gt_iff_lt, ge_iff_le, so_pick, decide_eq_false_iff_not, ifk_ot, ifk_nf, ifk_of, ifk_nt, ifk_gt, ifk_gf, ifk_st, ifk_sf, ifk_ot', ifk_nf', ifk_of', ifk_nt', ifk_gt', ifk_gf', ifk_st', ifk_sf', ifk_not, ifk_bf, Bool.not_eq_true', re_ret, re_pan, heap_new_if, heap_set_if, eq_self, t0,t1,t2,c0,str_size,k1,k2,a1,a2,a3,a4,a5,a6,c1,c2])
    | false =>
      rw [hk2] at k2
      obtain ⟨e1, e2, hlk⟩ := alike_toks (hA hk2) (a ++ [32, 47, 47] ++ nt ++ [10] ++ b).length (a ++ [10] ++ b).length
      have hl4 : (toksR (a ++ [32, 47, 47] ++ nt ++ [10] ++ b).length (lexL 0 (a ++ [32, 47, 47] ++ nt ++ [10] ++ b))).length ≤ 20000 := by omega
      rw [← e1] at c2
      generalize toksR (a ++ [32, 47, 47] ++ nt ++ [10] ++ b).length (lexL 0 (a ++ [32, 47, 47] ++ nt ++ [10] ++ b)) = al at *
      generalize toksR (a ++ [10] ++ b).length (lexL 0 (a ++ [10] ++ b)) = bl at *
      generalize codeR (lexL 0 (a ++ [32, 47, 47] ++ nt ++ [10] ++ b)) = ec at *
      have LV := fun mt ty cs st => hV.len mt ty cs st
      have LW := fun mt ty cs st => hW.len mt ty cs st
      rw [e2] at LW
      clear hA hn hg hg2 l1 l2 e1 hll
      repeat' (first | refine ifk_og (fun hc => ?_) (fun hc => ?_) | refine ifk_gg (fun hc => ?_) (fun hc => ?_) | refine ifk_go (fun hc => ?_) (fun hc => ?_) | refine ifk_ss (fun hc => ?_) (fun hc => ?_) | simp (maxSteps := 5000000) (disch := first | assumption | omega | (simp only [ASt.set_ctr, ASt.new_ctr] <;> omega)) only [R11_0_e.down, R11_1_e.down, R11_2_e.down, N11_4_e, N11_3_e, N11_2_e, R11_3_e.down, R11_4_e.down, N11_8_e, N11_7_e, N11_6_e, R11_5_e.down, R11_6_e.down, R11_7_e.down, R11_8_e.down, N11_14_e, N11_13_e, N11_12_e, R11_9_e.down, R11_10_e.down, R11_11_e.down, R11_12_e.down, R11_13_e.down, N11_23_e, N11_22_e, N11_21_e, N11_20_e, R11_14_e.down, N11_24_e, N11_19_e, N11_18_e, L11_0_e, N11_17_e, N11_16_e, R11_15_e.down, N11_25_e, N11_15_e, N11_11_e, N11_10_e, N11_9_e, N11_5_e, N11_1_e, N11_0_e, rq_11, rqn_11, cf_24, o_lent_9, cf_29, add_str, cf_25, o_leni_46, o_lens_46, o_lenn_46, o_ixi_46, o_ixs_46, o_fap_52_0, o_fai_52_0, o_ldp_50, o_ldi_50, o_fap_52_1, o_fai_52_1, o_ldp_9, o_ldi_9, ne_str, o_fap_52_2, o_fai_52_2, o_ldp_38, o_ldi_38, AVal.undef, sbn1, sbn2, aeval, aput, ahint, absOf, flat, nilCheckA, ANext.ofP, evals, evalPs, evalO, Option.map_some, Option.bind_some, if_true, if_false, ↓reduceIte, Nat.reduceLT, Nat.reduceEqDiff, reduceCtorEq, Bool.false_eq_true, false_and, and_false, and_true, true_and, Nat.reduceAdd, Nat.reduceLeDiff, callA, List.getElem?_cons_succ, List.getElem?_cons_zero, sb1, sb2, sb3, sb4, sliceU_i, sliceU_s, sliceU_p, sliceU_l, evalV, yieldB, xo_move, xo_assign, xo_alloc, xo_box, xo_build, xo_bslice, xo_load, xo_store, xo_nn, xo_bin, xo_un, xo_conv, xo_mki, xo_mkf, xo_mks, xo_slice, xo_fa, xo_fv, xo_ia, xo_ix, xo_ext, xo_call, xo_panic, extractA, b_lss, b_leq, b_gtr, b_geq, b_eql, b_neq, b_add, b_sub, b_mul, b_and, b_or, b_xor, b_shl, b_shr, b_quo, b_rem, u_not, u_neg, wr_i64, wr_u64, wr_u32, wr_u8, wr_i32, wr_u16, wr_i16, wr_i8, dec_t, dec_f, ieq_t, ieq_f, ine_t, ine_f, blkOf_cells, ASt.set_ctr, ASt.new_ctr, set_set', ic_lit, ic_agg, ic_ptr, ic_iptr, ic_slice, ic_islice, ic_func, ic_iface, boxA, newA, List.all_cons, List.all_nil, Bool.and_self, Bool.and_true, Bool.true_and, cs_lit, cs_agg, cs_ptr, cs_iptr, cs_slice, cs_islice, cs_func, cs_iface, fillA, putL, setsE, eo_lit, eo_agg, eo_ptr, eo_iptr, eo_slice, eo_islice, eo_func, eo_iface, eo_byte, List.set_cons_zero, List.set_cons_succ, List.length_cons, List.length_nil, Nat.reduceBEq, Nat.reduceBNe, beq_self_eq_true, Bool.not_true, Bool.not_false, Nat.zero_add, Nat.reduceMul, List.map_nil, List.drop_succ_cons, List.drop_zero, List.take_succ_cons, List.take_zero, List.nil_append, List.cons_append, Int.toNat_natCast, sl_set, sl_get, sl_len, upd_app, valOf_lit, ite_t, ite_f, g_skip, g_seq, g_cond, g_block, g_exit, g_label, g_goto, g_ret, re_nil, re_nc, re_nb, re_ec, re_eb, re_gc, re_gb, go_nil, go_op, go_opg, so_val, so_enter, so_panic, sc_ret, sc_panic, rs_some, cond_b, lq_e, lq_r, lq_g, lq_p, rq_p, bindK_some, beq_iff_eq, bne_iff_ne, ne_eq, not_false_eq_true, not_true_eq_false, decide_eq_true_eq, Option.some.injEq, List.getElem?_toArray, gt_iff_lt, ge_iff_le, so_pick, decide_eq_false_iff_not, ifk_ot, ifk_nf, ifk_of, ifk_nt, ifk_gt, ifk_gf, ifk_st, ifk_sf, ifk_ot', ifk_nf', ifk_of', ifk_nt', ifk_gt', ifk_gf', ifk_st', ifk_sf', ifk_not, ifk_bf, Bool.not_eq_true', re_ret, re_pan, heap_new_if, heap_set_if, eq_self, t0,t1,t2,c0,str_size,k1,k2,a1,a2,a3,a4,a5,a6,c1,c2,LV,LW])
      refine g_loop (fun k f st' => ∃ t, k = al.length - t ∧ t ≤ al.length ∧ f 7 = v ∧ f 10 = w ∧ f 71 = .lit (.int .i64 (al.length : Int)) ∧ f 72 = .lit (.int .i64 (t : Int)))
        (fun k f st' hI => ?_) al.length _ _ ⟨0, rfl, Nat.zero_le _, rfl, rfl, rfl, rfl⟩
      clear t0 t1 t2 c0 c1 c2 k1 k2 a1 a2 a3 a4 a5 a6
      obtain ⟨t, rfl, ht, q7, q10, q71, q72⟩ := hI
      by_cases hlt : t < al.length
      · obtain ⟨tk, hk⟩ : ∃ tk, al[t]? = some tk := ⟨_, List.getElem?_eq_getElem hlt⟩
        obtain ⟨tk2, hk2⟩ : ∃ tk, bl[t]? = some tk := ⟨_, List.getElem?_eq_getElem (by omega)⟩
        have i1 := hV.ix hk
        have i2 := hW.ix hk2
        obtain ⟨e1, e2, e3, e4⟩ := hlk t tk tk2 hk hk2
        obtain ⟨m, n, e5, e6, h5, h6⟩ := hf tk (List.mem_of_getElem? hk)
        rw [← e1, ← e2, ← e3, ← e4, e5, e6] at i2
        rw [e5, e6] at i1
        have hce := ceq_w h5 h6
        have hadd : (t : Int) + 1 = ((t + 1 : Nat) : Int) := by omega
        have hse := fun (xo yo : Operand) (t : TypeId) => b_sneq (P := E.P) (t := t) (xo := xo) (yo := yo) tk.text tk.text
        simp only [decide_true, Bool.not_true] at hse
        clear hV hW hk hk2 hlk hf
        repeat' (first | refine ifk_og (fun hc => ?_) (fun hc => ?_) | refine ifk_gg (fun hc => ?_) (fun hc => ?_) | refine ifk_go (fun hc => ?_) (fun hc => ?_) | refine ifk_ss (fun hc => ?_) (fun hc => ?_) | simp (maxSteps := 5000000) (disch := first | assumption | omega | (simp only [ASt.set_ctr, ASt.new_ctr] <;> omega)) only [R11_0_e.down, R11_1_e.down, R11_2_e.down, N11_4_e, N11_3_e, N11_2_e, R11_3_e.down, R11_4_e.down, N11_8_e, N11_7_e, N11_6_e, R11_5_e.down, R11_6_e.down, R11_7_e.down, R11_8_e.down, N11_14_e, N11_13_e, N11_12_e, R11_9_e.down, R11_10_e.down, R11_11_e.down, R11_12_e.down, R11_13_e.down, N11_23_e, N11_22_e, N11_21_e, N11_20_e, R11_14_e.down, N11_24_e, N11_19_e, N11_18_e, L11_0_e, N11_17_e, N11_16_e, R11_15_e.down, N11_25_e, N11_15_e, N11_11_e, N11_10_e, N11_9_e, N11_5_e, N11_1_e, N11_0_e, rq_11, rqn_11, cf_24, o_lent_9, cf_29, add_str, cf_25, o_leni_46, o_lens_46, o_lenn_46, o_ixi_46, o_ixs_46, o_fap_52_0, o_fai_52_0, o_ldp_50, o_ldi_50, o_fap_52_1, o_fai_52_1, o_ldp_9, o_ldi_9, ne_str, o_fap_52_2, o_fai_52_2, o_ldp_38, o_ldi_38, AVal.undef, sbn1, sbn2, aeval, aput, ahint, absOf, flat, nilCheckA, ANext.ofP, evals, evalPs, evalO, Option.map_some, Option.bind_some, if_true, if_false, ↓reduceIte, Nat.reduceLT, Nat.reduceEqDiff, reduceCtorEq, Bool.false_eq_true, false_and, and_false, and_true, true_and, Nat.reduceAdd, Nat.reduceLeDiff, callA, List.getElem?_cons_succ, List.getElem?_cons_zero, sb1, sb2, sb3, sb4, sliceU_i, sliceU_s, sliceU_p, sliceU_l, evalV, yieldB, xo_move, xo_assign, xo_alloc, xo_box, xo_build, xo_bslice, xo_load, xo_store, xo_nn, xo_bin, xo_un, xo_conv, xo_mki, xo_mkf, xo_mks, xo_slice, xo_fa, xo_fv, xo_ia, xo_ix, xo_ext, xo_call, xo_panic, extractA, b_lss, b_leq, b_gtr, b_geq, b_eql, b_neq, b_add, b_sub, b_mul, b_and, b_or, b_xor, b_shl, b_shr, b_quo, b_rem, u_not, u_neg, wr_i64, wr_u64, wr_u32, wr_u8, wr_i32, wr_u16, wr_i16, wr_i8, dec_t, dec_f, ieq_t, ieq_f, ine_t, ine_f, blkOf_cells, ASt.set_ctr, ASt.new_ctr, set_set', ic_lit, ic_agg, ic_ptr, ic_iptr, ic_slice, ic_islice, ic_func, ic_iface, boxA, newA, List.all_cons, List.all_nil, Bool.and_self, Bool.and_true, Bool.true_and, cs_lit, cs_agg, cs_ptr, cs_iptr, cs_slice, cs_islice, cs_func, cs_iface, fillA, putL, setsE, eo_lit, eo_agg, eo_ptr, eo_iptr, eo_slice, eo_islice, eo_func, eo_iface, eo_byte, List.set_cons_zero, List.set_cons_succ, List.length_cons, List.length_nil, Nat.reduceBEq, Nat.reduceBNe, beq_self_eq_true, Bool.not_true, Bool.not_false, Nat.zero_add, Nat.reduceMul, List.map_nil, List.drop_succ_cons, List.drop_zero, List.take_succ_cons, List.take_zero, List.nil_append, List.cons_append, Int.toNat_natCast, sl_set, sl_get, sl_len, upd_app, valOf_lit, ite_t, ite_f, g_skip, g_seq, g_cond, g_block, g_exit, g_label, g_goto, g_ret, re_nil, re_nc, re_nb, re_ec, re_eb, re_gc, re_gb, go_nil, go_op, go_opg, so_val, so_enter, so_panic, sc_ret, sc_panic, rs_some, cond_b, lq_e, lq_r, lq_g, lq_p, rq_p, bindK_some, beq_iff_eq, bne_iff_ne, ne_eq, not_false_eq_true, not_true_eq_false, decide_eq_true_eq, Option.some.injEq, List.getElem?_toArray, gt_iff_lt, ge_iff_le, so_pick, decide_eq_false_iff_not, ifk_ot, ifk_nf, ifk_of, ifk_nt, ifk_gt, ifk_gf, ifk_st, ifk_sf, ifk_ot', ifk_nf', ifk_of', ifk_nt', ifk_gt', ifk_gf', ifk_st', ifk_sf', ifk_not, ifk_bf, Bool.not_eq_true', re_ret, re_pan, heap_new_if, heap_set_if, eq_self, q7,q10,q71,q72,i1,i2,hce,hadd,hse])
        refine lq_n (j := al.length - (t + 1)) (by omega) ?_
        exact ⟨t + 1, rfl, by omega, q7, q10, q71, rfl⟩
      · clear hV hW hlk hf
        repeat' (first | refine ifk_og (fun hc => ?_) (fun hc => ?_) | refine ifk_gg (fun hc => ?_) (fun hc => ?_) | refine ifk_go (fun hc => ?_) (fun hc => ?_) | refine ifk_ss (fun hc => ?_) (fun hc => ?_) | simp (maxSteps := 5000000) (disch := first | assumption | omega | (simp only [ASt.set_ctr, ASt.new_ctr] <;> omega)) only [R11_0_e.down, R11_1_e.down, R11_2_e.down, N11_4_e, N11_3_e, N11_2_e, R11_3_e.down, R11_4_e.down, N11_8_e, N11_7_e, N11_6_e, R11_5_e.down, R11_6_e.down, R11_7_e.down, R11_8_e.down, N11_14_e, N11_13_e, N11_12_e, R11_9_e.down, R11_10_e.down, R11_11_e.down, R11_12_e.down, R11_13_e.down, N11_23_e, N11_22_e, N11_21_e, N11_20_e, R11_14_e.down, N11_24_e, N11_19_e, N11_18_e, L11_0_e, N11_17_e, N11_16_e, R11_15_e.down, N11_25_e, N11_15_e, N11_11_e, N11_10_e, N11_9_e, N11_5_e, N11_1_e, N11_0_e, rq_11, rqn_11, cf_24, o_lent_9, cf_29, add_str, cf_25, o_leni_46, o_lens_46, o_lenn_46, o_ixi_46, o_ixs_46, o_fap_52_0, o_fai_52_0, o_ldp_50, o_ldi_50, o_fap_52_1, o_fai_52_1, o_ldp_9, o_ldi_9, ne_str, o_fap_52_2, o_fai_52_2, o_ldp_38, o_ldi_38, AVal.undef, sbn1, sbn2, aeval, aput, ahint, absOf, flat, nilCheckA, ANext.ofP, evals, evalPs, evalO, Option.map_some, Option.bind_some, if_true, if_false, ↓reduceIte, Nat.reduceLT, Nat.reduceEqDiff, reduceCtorEq, Bool.false_eq_true, false_and, and_false, and_true, true_and, Nat.reduceAdd, Nat.reduceLeDiff, callA, List.getElem?_cons_succ, List.getElem?_cons_zero, sb1, sb2, sb3, sb4, sliceU_i, sliceU_s, sliceU_p, sliceU_l, evalV, yieldB, xo_move, xo_assign, xo_alloc, xo_box, xo_build, xo_bslice, xo_load, xo_store, xo_nn, xo_bin, xo_un, xo_conv, xo_mki, xo_mkf, xo_mks, xo_slice, xo_fa, xo_fv, xo_ia, xo_ix, xo_ext, xo_call, xo_panic, extractA, b_lss, b_leq, b_gtr, b_geq, b_eql, b_neq, b_add, b_sub, b_mul, b_and, b_or, b_xor, b_shl, b_shr, b_quo, b_rem, u_not, u_neg, wr_i64, wr_u64, wr_u32, wr_u8, wr_i32, wr_u16, wr_i16, wr_i8, dec_t, dec_f, ieq_t, ieq_f, ine_t, ine_f, blkOf_cells, ASt.set_ctr, ASt.new_ctr, set_set', ic_lit, ic_agg, ic_ptr, ic_iptr, ic_slice, ic_islice, ic_func, ic_iface, boxA, newA, List.all_cons, List.all_nil, Bool.and_self, Bool.and_true, Bool.true_and, cs_lit, cs_agg, cs_ptr, cs_iptr, cs_slice, cs_islice, cs_func, cs_iface, fillA, putL, setsE, eo_lit, eo_agg, eo_ptr, eo_iptr, eo_slice, eo_islice, eo_func, eo_iface, eo_byte, List.set_cons_zero, List.set_cons_succ, List.length_cons, List.length_nil, Nat.reduceBEq, Nat.reduceBNe, beq_self_eq_true, Bool.not_true, Bool.not_false, Nat.zero_add, Nat.reduceMul, List.map_nil, List.drop_succ_cons, List.drop_zero, List.take_succ_cons, List.take_zero, List.nil_append, List.cons_append, Int.toNat_natCast, sl_set, sl_get, sl_len, upd_app, valOf_lit, ite_t, ite_f, g_skip, g_seq, g_cond, g_block, g_exit, g_label, g_goto, g_ret, re_nil, re_nc, re_nb, re_ec, re_eb, re_gc, re_gb, go_nil, go_op, go_opg, so_val, so_enter, so_panic, sc_ret, sc_panic, rs_some, cond_b, lq_e, lq_r, lq_g, lq_p, rq_p, bindK_some, beq_iff_eq, bne_iff_ne, ne_eq, not_false_eq_true, not_true_eq_false, decide_eq_true_eq, Option.some.injEq, List.getElem?_toArray, gt_iff_lt, ge_iff_le, so_pick, decide_eq_false_iff_not, ifk_ot, ifk_nf, ifk_of, ifk_nt, ifk_gt, ifk_gf, ifk_st, ifk_sf, ifk_ot', ifk_nf', ifk_of', ifk_nt', ifk_gt', ifk_gf', ifk_st', ifk_sf', ifk_not, ifk_bf, Bool.not_eq_true', re_ret, re_pan, heap_new_if, heap_set_if, eq_self, q7,q10,q71,q72])
end Go.Proofs.YtlpdplchcpkajaaDoorV
