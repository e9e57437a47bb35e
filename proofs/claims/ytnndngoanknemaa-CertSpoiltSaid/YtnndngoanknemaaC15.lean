/- law18's Tells, CertBack walked; a tree's certificate is decoded as it. No condition. -/
import Derived.Test.YtnndngoanknemaaC14
namespace Go.Proofs.YtnndngoanknemaaV
open Go Go.RowKit Go.Proofs.YtnndngoanknemaaA
set_option linter.unusedVariables false
set_option linter.unusedSimpArgs false
set_option maxRecDepth 100000

/-! ### the plain law -/
theorem drop_app {α : Type} (a b : List α) (n : Nat) (h : n = a.length) : (a ++ b).drop n = b := by rw [h, List.drop_left]
theorem tk_put {a r : List UInt8} {x most : Nat} (hx : x < 2 ^ 64) (hm : x ≤ most) {p : Nat} (hp : p = a.length) : tk (a ++ (enc x ++ r)) p most = .inr (x, p + (enc x).length) := by
  unfold tk
  rw [drop_app _ _ _ hp, rd_put hx]
  simp only
  rw [if_neg (by omega)]
theorem nd_put {a r : List UInt8} {n : Nd} (h : NdS n) {p : Nat} (hp : p = a.length) : ndP (a ++ (ndB n ++ r)) p = .inr (n, p + (ndB n).length) := by
  obtain ⟨⟨h1, h2⟩, h3, h4, h5, h6⟩ := h
  obtain ⟨th, sl, so, kd⟩ := n
  simp only at h1 h2 h3 h4 h5 h6
  obtain ⟨t, rfl⟩ := Int.eq_ofNat_of_zero_le h1
  obtain ⟨k, rfl⟩ := Int.eq_ofNat_of_zero_le h5
  have e1 := tk_put (a := a) (r := enc sl ++ (enc so ++ (enc k ++ r))) (x := t) (most := 5) (by omega) (by omega) hp
  have e2 := tk_put (a := a ++ enc t) (r := enc so ++ (enc k ++ r)) (x := sl) (most := 63) (by omega) (by omega) (p := p + (enc t).length) (by rw [List.length_append]; omega)
  have e3 := tk_put (a := a ++ enc t ++ enc sl) (r := enc k ++ r) (x := so) (most := 63) (by omega) (by omega) (p := p + (enc t).length + (enc sl).length) (by simp only [List.length_append]; omega)
  have e4 := tk_put (a := a ++ enc t ++ enc sl ++ enc so) (r := r) (x := k) (most := 6) (by omega) (by omega) (p := p + (enc t).length + (enc sl).length + (enc so).length) (by simp only [List.length_append]; omega)
  simp only [List.append_assoc] at e1 e2 e3 e4
  simp only [ndB, Int.toNat_natCast, List.append_assoc]
  unfold ndP
  simp only [e1, e2, e3, e4, List.length_append]
  congr 2
  omega
theorem nds_put {r : List UInt8} : ∀ (l : List Nd) (a : List UInt8) (p : Nat) (acc : List Nd), (∀ n ∈ l, NdS n) → p = a.length → ndsF (a ++ (l.flatMap ndB ++ r)) l.length p acc = .inr (acc ++ l, p + (l.flatMap ndB).length)
  | [], a, p, acc, _, hp => by simp [ndsF]
  | n :: l, a, p, acc, h, hp => by
    have h1 := nd_put (a := a) (r := l.flatMap ndB ++ r) (h n (List.mem_cons_self ..)) hp
    have h2 := nds_put (r := r) l (a ++ ndB n) (p + (ndB n).length) (acc ++ [n]) (fun m hm => h m (List.mem_cons_of_mem _ hm)) (by rw [List.length_append]; omega)
    rw [List.append_assoc] at h2
    simp only [List.length_cons, ndsF, List.flatMap_cons, List.append_assoc, h1, h2, List.length_append, List.singleton_append, Nat.add_assoc]
theorem body_put {l : List Nd} {sum : Nat} (h : ∀ n ∈ l, NdS n) (hs : sum < 2 ^ 32) (hl : l.length ≤ 20000) (r : List UInt8) : bodyP (bodyB sum l ++ r) = if r = [] then .inr (sum, l) else .inl ((bodyB sum l).length, 11) := by
  have e1 := tk_put (a := markB) (r := enc l.length ++ (l.flatMap ndB ++ r)) (x := sum) (most := 4294967295) (by omega) (by omega) (p := 4) rfl
  have e2 := tk_put (a := markB ++ enc sum) (r := l.flatMap ndB ++ r) (x := l.length) (most := 20000) (by omega) (by omega) (p := 4 + (enc sum).length) (by simp [markB]; omega)
  have e3 := nds_put (r := r) l (markB ++ enc sum ++ enc l.length) (4 + (enc sum).length + (enc l.length).length) [] h (by simp [markB]; omega)
  have h4 := ndsB_small l h
  have hlen : (bodyB sum l).length = 4 + (enc sum).length + (enc l.length).length + (l.flatMap ndB).length := by simp [bodyB, markB]; omega
  simp only [List.append_assoc] at e1 e2 e3
  unfold bodyP
  have eb : bodyB sum l ++ r = markB ++ (enc sum ++ (enc l.length ++ (l.flatMap ndB ++ r))) := by simp [bodyB]
  rw [hlen, eb]
  simp only [e1, e2, e3, List.nil_append]
  rw [if_neg (by simp only [List.length_append, markB, List.length_cons, List.length_nil]; omega)]
  by_cases hr : r = []
  · subst hr
    rw [if_neg (by simp [markB]; omega), if_pos rfl]
  · have : 0 < r.length := by
      have : r.length ≠ 0 := fun h => hr (List.length_eq_zero_iff.1 h)
      omega
    rw [if_pos (by simp only [List.length_append, markB, List.length_cons, List.length_nil]; omega), if_neg hr]
theorem dec_seal {b : List UInt8} (h4 : b.take 4 = markB) (hb : 4 ≤ b.length) : decP (b ++ le4 (sumN b)) = bodyP b := by
  unfold decP frP
  have hlen : (b ++ le4 (sumN b)).length = b.length + 4 := by simp [le4]
  have ht : (b ++ le4 (sumN b)).take (b.length + 4 - 4) = b := by rw [Nat.add_sub_cancel, List.take_left]
  have hd : (b ++ le4 (sumN b)).drop (b.length + 4 - 4) = le4 (sumN b) := by rw [Nat.add_sub_cancel, List.drop_left]
  have hm : (b ++ le4 (sumN b)).take 4 = markB := by rw [List.take_append_of_le_length hb]; exact h4
  rw [hlen, if_neg (by omega), if_neg (fun h => h hm), ht, hd, if_neg (fun h => h rfl)]
theorem bodyB_mark (sum : Nat) (l : List Nd) : (bodyB sum l).take 4 = markB := by simp [bodyB, markB]
theorem bodyB_len4 (sum : Nat) (l : List Nd) : 4 ≤ (bodyB sum l).length := by simp [bodyB, markB]
theorem dec_cert {l : List Nd} {sum : Nat} (h : ∀ n ∈ l, NdS n) (hs : sum < 2 ^ 32) (hl : l.length ≤ 20000) : decP (certB sum l) = .inr (sum, l) := by
  have := body_put h hs hl []
  rw [List.append_nil, if_pos rfl] at this
  rw [← this]
  exact dec_seal (bodyB_mark _ _) (bodyB_len4 _ _)

/-! ### Tells -/
theorem nd_flat (a b c d : Nat) : [a, b, c, d].flatMap enc = ndB ⟨a, b, c, d⟩ := by simp [ndB]

set_option maxHeartbeats 2000000 in
theorem tells_rw {v : AVal} {l : List Nd} {sum : Nat} {st : ASt} (hp : PS st v l) (hok : ∀ n ∈ l, NdS n) (hl : l.length ≤ 40) (hs : sum < 2 ^ 32) :
    ∃ r st', rw E 18 [.lit (.int .u32 sum), v] st = some (r, st') ∧ ∃ v', r = .returned v' ∧ Gr st st' ∧ BN st' v' (certB sum l) ∧ ∃ s, v' = .slice s 0 (certB sum l).length 1 none ∧ st.ctr ≤ s ∧ s < st'.ctr ∧ st'.heap s = some (.cells ((certB sum l).map byteA)) := by
  have hq := ndsB_small l hok
  refine cx_18 fun g t0 t1 => C18_wp ?_
  -- ahead of the rounds
  have cv := fun mt => cv_bb mt (st.new (.cells [byteA 66, byteA 82, byteA 68, byteA 49])) st.ctr 0 4 1 (some 4) _ (ASt.new_same _ _)
  obtain ⟨v1, st1, n1, hv1, g1⟩ := refnum_run 9 sum (st.new (.cells [byteA 66, byteA 82, byteA 68, byteA 49])) (lt_enc (by omega)) (by omega) (by decide)
  have c1 := n1.rw
  have hen1 : (encF 9 sum).length ≤ 10 := enc_len sum
  have hen2 : (encF 9 l.length).length ≤ 10 := enc_len _
  have hst : st.ctr < st1.ctr := by have := g1.1; simp [ASt.new] at this; omega
  have hm0 : st1.heap st.ctr = some (.cells [byteA 66, byteA 82, byteA 68, byteA 49]) := by rw [g1.2 _ (by simp [ASt.new])]; exact ASt.new_same _ _
  have hG1 : Gr st st1 := (Gr.new _ _).trans g1
  have hne0 : enc sum ≠ [] := encN_ne sum
  have hne0' : 0 < (encF 9 sum).length := List.length_pos_iff.2 hne0
  have a1 := app_over (mt := false) (c := 4) (off := 0) (es := [byteA 66, byteA 82, byteA 68, byteA 49]) byteT hm0 (chunk_bytes _ 4 0 (by decide)) rfl (src_b hv1 st1) (fun h => hne0 (List.map_eq_nil_iff.1 h)) (by simp; omega) (by simp; omega)
  have a1' : appendA E.P false 28 28 (.slice st.ctr 0 4 1 (some 4)) v1 st1 = some (.islice 1 ((markB ++ enc sum).map byteA) (.tok st1.ctr), st1.new (.cells [])) := by rw [List.map_append]; exact a1
  have hT1 : TkB st (st1.new (.cells [])) (.islice 1 ((markB ++ enc sum).map byteA) (.tok st1.ctr)) (markB ++ enc sum) := ⟨_, rfl, ASt.new_same _ _, by simp [ASt.new], hG1.1⟩
  have L1 := fun mt ty cs st2 => ps_len (hp.gr (hG1.trans (Gr.new st1 (.cells [])))) mt ty cs st2
  obtain ⟨v2, st2, n2, hv2, g2⟩ := refnum_run 9 l.length (st1.new (.cells [])) (lt_enc (by omega)) (by omega) (by decide)
  have c2 := n2.rw
  have hT2 : TkB st st2 (.islice 1 ((markB ++ enc sum).map byteA) (.tok st1.ctr)) (markB ++ enc sum) := by
    obtain ⟨k, e, a, b, c⟩ := hT1
    exact ⟨k, e, by rw [g2.2 k b]; exact a, Nat.lt_of_lt_of_le b g2.1, c⟩
  have hG2 : Gr st st2 := (hG1.trans (Gr.new _ _)).trans g2
  obtain ⟨v3, st3, a3, hT3, hG3, _, _⟩ := tkb_app hT2 hG2 hv2 (encN_ne _) (by simp [markB]; have := enc_len sum; omega)
  have q1 : IntKind.u64.wrap (sum : Int) = (sum : Int) := wr_u64 (by omega) (by omega)
  refine aw_run 0 (by simp (maxSteps := 5000000) (disch := first | assumption | omega | (simp only [ASt.set_ctr, ASt.new_ctr] <;> omega)) only [S18_0_e.down, S18_1_e.down, S18_2_e.down, S18_3_e.down, S18_4_e.down, S18_5_e.down, hint_18_10, o_bsm_28_4, hint_18_11, o_cv_22_32, cf_33, hint_18_15, bi_app, o_leni_26, o_lens_26, o_lenn_26, o_cv_3_32, hint_18_21, o_ixi_26, o_ixs_26, o_ldp_53, o_ldi_53, o_al_53, o_st_53, o_fap_53_0, o_fai_53_0, o_ldp_3, o_ldi_3, o_fap_53_1, o_fai_53_1, o_ldp_32, o_ldi_32, o_fap_53_2, o_fai_53_2, o_fap_53_3, o_fai_53_3, hint_18_38, o_bs_69_4, o_leni_69, o_lens_69, o_lenn_69, o_ixi_69, o_ixs_69, hint_18_47, cf_19, AVal.undef, sbn1, sbn2, aexec, aops, aop, Region.wanted, aeval, aput, aseq, ablock, ahint, absOf, flat, nilCheckA, ANext.ofP, evals, evalPs, evalO, aresults, aresults1, aresult, aend, Option.map_some, Option.bind_some, if_true, if_false, ↓reduceIte, Nat.reduceLT, Nat.reduceEqDiff, reduceCtorEq, Bool.false_eq_true, false_and, and_false, and_true, true_and, Nat.reduceAdd, Nat.reduceLeDiff, callA, List.getElem?_toArray, List.getElem?_cons_succ, List.getElem?_cons_zero, sb1, sb2, sb3, sb4, sliceU_i, sliceU_s, sliceU_p, sliceU_l, evalV, ayielded_eq, slotOf_eq, dstOf, yieldB, xo_move, xo_assign, xo_pick, xo_alloc, xo_box, xo_build, xo_bslice, xo_load, xo_store, xo_nn, xo_bin, xo_un, xo_conv, xo_mki, xo_mkf, xo_mks, xo_slice, xo_fa, xo_fv, xo_ia, xo_ix, xo_ext, xo_call, xo_panic, extractA, b_lss, b_leq, b_gtr, b_geq, b_eql, b_neq, b_add, b_sub, b_mul, b_and, b_or, b_xor, b_shl, b_shr, b_quo, b_rem, u_not, u_neg, wr_i64, wr_u64, wr_u32, wr_u8, wr_i32, wr_u16, wr_i16, wr_i8, dec_t, dec_f, ieq_t, ieq_f, ine_t, ine_f, blkOf_cells, heap_set_same, heap_set_ne, heap_new_same, heap_new_ne, ASt.set_ctr, ASt.new_ctr, set_set', ic_lit, ic_agg, ic_ptr, ic_iptr, ic_slice, ic_islice, ic_func, ic_iface, boxA, newA, List.all_cons, List.all_nil, Bool.and_self, Bool.and_true, Bool.true_and, cs_lit, cs_agg, cs_ptr, cs_iptr, cs_slice, cs_islice, cs_func, cs_iface, fillA, putL, setsE, eo_lit, eo_agg, eo_ptr, eo_iptr, eo_slice, eo_islice, eo_func, eo_iface, eo_byte, List.set_cons_zero, List.set_cons_succ, List.length_cons, List.length_nil, Nat.reduceBEq, Nat.reduceBNe, beq_self_eq_true, Bool.not_true, Bool.not_false, Nat.zero_add, Nat.reduceMul, List.map_nil, List.drop_succ_cons, List.drop_zero, List.take_succ_cons, List.take_zero, List.nil_append, List.cons_append, Int.toNat_natCast, sl_set, sl_get, sl_len, upd_app, valOf_lit, ite_t, ite_f, t0, t1, mark_flat, cv, c1, a1', L1, c2, a3] <;> rfl) ?_
  -- the rounds
  refine aw_forS (fun k f st' => ∃ i, k = l.length - i ∧ i ≤ l.length ∧ f 1 = v ∧ f 22 = v ∧ f 23 = .lit (.int .i64 (l.length : Nat)) ∧ f 24 = .lit (.int .i64 (i : Nat)) ∧ TkB st st' (f 5) (markB ++ enc sum ++ enc l.length ++ (l.take i).flatMap ndB) ∧ Gr st st')
    (fun k f st' hI => L18_0_wp ?_) l.length _ _ ⟨0, rfl, Nat.zero_le _, t1, rfl, rfl, rfl, by simp only [List.take_zero, List.flatMap_nil, List.append_nil]; exact hT3, hG3⟩
  obtain ⟨i, rfl, hil, h1, h22, h23, h24, hT, hG⟩ := hI
  by_cases hi : i < l.length
  · obtain ⟨p, q, i1, i2, _⟩ := ps_idx (hp.gr hG) hi
    have hnd := hok (l[i]) (List.getElem_mem _)
    have htake : l.take (i + 1) = l.take i ++ [l[i]] := by rw [List.take_add_one, List.getElem?_eq_getElem hi]; rfl
    generalize l[i] = nd at *
    obtain ⟨th, sl, so, kd⟩ := nd
    obtain ⟨⟨k1, k2⟩, k3, k4, k5, k6⟩ := hnd
    simp only at k1 k2 k3 k4 k5 k6
    obtain ⟨t, rfl⟩ := Int.eq_ofNat_of_zero_le k1
    obtain ⟨d, rfl⟩ := Int.eq_ofNat_of_zero_le k5
    simp only [Nd.a, Nd.cs] at i2
    have w1 : IntKind.u64.wrap (t : Int) = (t : Int) := wr_u64 (by omega) (by omega)
    have w2 : IntKind.u64.wrap (d : Int) = (d : Int) := wr_u64 (by omega) (by omega)
    have hflen : ((l.take i).flatMap ndB).length ≤ 160 := by
      have h1 := ndsB_small (l.take i) (fun n hn => hok n (List.mem_of_mem_take hn))
      rw [h1, List.length_take]; omega
    have hen3 := enc_len sum
    have hen4 := enc_len l.length
    refine aw_run 0 (by simp (maxSteps := 5000000) (disch := first | assumption | omega | (simp only [ASt.set_ctr, ASt.new_ctr] <;> omega)) only [S18_0_e.down, S18_1_e.down, S18_2_e.down, S18_3_e.down, S18_4_e.down, S18_5_e.down, hint_18_10, o_bsm_28_4, hint_18_11, o_cv_22_32, cf_33, hint_18_15, bi_app, o_leni_26, o_lens_26, o_lenn_26, o_cv_3_32, hint_18_21, o_ixi_26, o_ixs_26, o_ldp_53, o_ldi_53, o_al_53, o_st_53, o_fap_53_0, o_fai_53_0, o_ldp_3, o_ldi_3, o_fap_53_1, o_fai_53_1, o_ldp_32, o_ldi_32, o_fap_53_2, o_fai_53_2, o_fap_53_3, o_fai_53_3, hint_18_38, o_bs_69_4, o_leni_69, o_lens_69, o_lenn_69, o_ixi_69, o_ixs_69, hint_18_47, cf_19, AVal.undef, sbn1, sbn2, aexec, aops, aop, Region.wanted, aeval, aput, aseq, ablock, ahint, absOf, flat, nilCheckA, ANext.ofP, evals, evalPs, evalO, aresults, aresults1, aresult, aend, Option.map_some, Option.bind_some, if_true, if_false, ↓reduceIte, Nat.reduceLT, Nat.reduceEqDiff, reduceCtorEq, Bool.false_eq_true, false_and, and_false, and_true, true_and, Nat.reduceAdd, Nat.reduceLeDiff, callA, List.getElem?_toArray, List.getElem?_cons_succ, List.getElem?_cons_zero, sb1, sb2, sb3, sb4, sliceU_i, sliceU_s, sliceU_p, sliceU_l, evalV, ayielded_eq, slotOf_eq, dstOf, yieldB, xo_move, xo_assign, xo_pick, xo_alloc, xo_box, xo_build, xo_bslice, xo_load, xo_store, xo_nn, xo_bin, xo_un, xo_conv, xo_mki, xo_mkf, xo_mks, xo_slice, xo_fa, xo_fv, xo_ia, xo_ix, xo_ext, xo_call, xo_panic, extractA, b_lss, b_leq, b_gtr, b_geq, b_eql, b_neq, b_add, b_sub, b_mul, b_and, b_or, b_xor, b_shl, b_shr, b_quo, b_rem, u_not, u_neg, wr_i64, wr_u64, wr_u32, wr_u8, wr_i32, wr_u16, wr_i16, wr_i8, dec_t, dec_f, ieq_t, ieq_f, ine_t, ine_f, blkOf_cells, heap_set_same, heap_set_ne, heap_new_same, heap_new_ne, ASt.set_ctr, ASt.new_ctr, set_set', ic_lit, ic_agg, ic_ptr, ic_iptr, ic_slice, ic_islice, ic_func, ic_iface, boxA, newA, List.all_cons, List.all_nil, Bool.and_self, Bool.and_true, Bool.true_and, cs_lit, cs_agg, cs_ptr, cs_iptr, cs_slice, cs_islice, cs_func, cs_iface, fillA, putL, setsE, eo_lit, eo_agg, eo_ptr, eo_iptr, eo_slice, eo_islice, eo_func, eo_iface, eo_byte, List.set_cons_zero, List.set_cons_succ, List.length_cons, List.length_nil, Nat.reduceBEq, Nat.reduceBNe, beq_self_eq_true, Bool.not_true, Bool.not_false, Nat.zero_add, Nat.reduceMul, List.map_nil, List.drop_succ_cons, List.drop_zero, List.take_succ_cons, List.take_zero, List.nil_append, List.cons_append, Int.toNat_natCast, sl_set, sl_get, sl_len, upd_app, valOf_lit, ite_t, ite_f, h22, h23, h24, i1] <;> rfl) ?_
    refine aw_block ?_
    refine B18_1_wp ?_
    refine aw_run 0 (by simp (maxSteps := 5000000) (disch := first | assumption | omega | (simp only [ASt.set_ctr, ASt.new_ctr] <;> omega)) only [S18_0_e.down, S18_1_e.down, S18_2_e.down, S18_3_e.down, S18_4_e.down, S18_5_e.down, hint_18_10, o_bsm_28_4, hint_18_11, o_cv_22_32, cf_33, hint_18_15, bi_app, o_leni_26, o_lens_26, o_lenn_26, o_cv_3_32, hint_18_21, o_ixi_26, o_ixs_26, o_ldp_53, o_ldi_53, o_al_53, o_st_53, o_fap_53_0, o_fai_53_0, o_ldp_3, o_ldi_3, o_fap_53_1, o_fai_53_1, o_ldp_32, o_ldi_32, o_fap_53_2, o_fai_53_2, o_fap_53_3, o_fai_53_3, hint_18_38, o_bs_69_4, o_leni_69, o_lens_69, o_lenn_69, o_ixi_69, o_ixs_69, hint_18_47, cf_19, AVal.undef, sbn1, sbn2, aexec, aops, aop, Region.wanted, aeval, aput, aseq, ablock, ahint, absOf, flat, nilCheckA, ANext.ofP, evals, evalPs, evalO, aresults, aresults1, aresult, aend, Option.map_some, Option.bind_some, if_true, if_false, ↓reduceIte, Nat.reduceLT, Nat.reduceEqDiff, reduceCtorEq, Bool.false_eq_true, false_and, and_false, and_true, true_and, Nat.reduceAdd, Nat.reduceLeDiff, callA, List.getElem?_toArray, List.getElem?_cons_succ, List.getElem?_cons_zero, sb1, sb2, sb3, sb4, sliceU_i, sliceU_s, sliceU_p, sliceU_l, evalV, ayielded_eq, slotOf_eq, dstOf, yieldB, xo_move, xo_assign, xo_pick, xo_alloc, xo_box, xo_build, xo_bslice, xo_load, xo_store, xo_nn, xo_bin, xo_un, xo_conv, xo_mki, xo_mkf, xo_mks, xo_slice, xo_fa, xo_fv, xo_ia, xo_ix, xo_ext, xo_call, xo_panic, extractA, b_lss, b_leq, b_gtr, b_geq, b_eql, b_neq, b_add, b_sub, b_mul, b_and, b_or, b_xor, b_shl, b_shr, b_quo, b_rem, u_not, u_neg, wr_i64, wr_u64, wr_u32, wr_u8, wr_i32, wr_u16, wr_i16, wr_i8, dec_t, dec_f, ieq_t, ieq_f, ine_t, ine_f, blkOf_cells, heap_set_same, heap_set_ne, heap_new_same, heap_new_ne, ASt.set_ctr, ASt.new_ctr, set_set', ic_lit, ic_agg, ic_ptr, ic_iptr, ic_slice, ic_islice, ic_func, ic_iface, boxA, newA, List.all_cons, List.all_nil, Bool.and_self, Bool.and_true, Bool.true_and, cs_lit, cs_agg, cs_ptr, cs_iptr, cs_slice, cs_islice, cs_func, cs_iface, fillA, putL, setsE, eo_lit, eo_agg, eo_ptr, eo_iptr, eo_slice, eo_islice, eo_func, eo_iface, eo_byte, List.set_cons_zero, List.set_cons_succ, List.length_cons, List.length_nil, Nat.reduceBEq, Nat.reduceBNe, beq_self_eq_true, Bool.not_true, Bool.not_false, Nat.zero_add, Nat.reduceMul, List.map_nil, List.drop_succ_cons, List.drop_zero, List.take_succ_cons, List.take_zero, List.nil_append, List.cons_append, Int.toNat_natCast, sl_set, sl_get, sl_len, upd_app, valOf_lit, ite_t, ite_f, h22, h23, h24, i1, i2] <;> rfl) ?_
    refine tl_inner (base := st) (l0 := markB ++ enc sum ++ enc l.length ++ (l.take i).flatMap ndB) (xs := [t, sl, so, d]) rfl (by simp; omega) (by have hm4 : markB.length = 4 := rfl; simp only [List.length_append]; omega) (pv := v) (v1 := v) (v23 := .lit (.int .i64 (l.length : Nat))) (v24 := .lit (.int .i64 (i : Nat))) ?_ h1 h22 h23 h24 rfl rfl rfl ?_ ?_
    · intro f2 st2 r1 r22 r23 r24 hT2 hG2
      refine aw_run 0 (by simp (maxSteps := 5000000) (disch := first | assumption | omega | (simp only [ASt.set_ctr, ASt.new_ctr] <;> omega)) only [S18_0_e.down, S18_1_e.down, S18_2_e.down, S18_3_e.down, S18_4_e.down, S18_5_e.down, hint_18_10, o_bsm_28_4, hint_18_11, o_cv_22_32, cf_33, hint_18_15, bi_app, o_leni_26, o_lens_26, o_lenn_26, o_cv_3_32, hint_18_21, o_ixi_26, o_ixs_26, o_ldp_53, o_ldi_53, o_al_53, o_st_53, o_fap_53_0, o_fai_53_0, o_ldp_3, o_ldi_3, o_fap_53_1, o_fai_53_1, o_ldp_32, o_ldi_32, o_fap_53_2, o_fai_53_2, o_fap_53_3, o_fai_53_3, hint_18_38, o_bs_69_4, o_leni_69, o_lens_69, o_lenn_69, o_ixi_69, o_ixs_69, hint_18_47, cf_19, AVal.undef, sbn1, sbn2, aexec, aops, aop, Region.wanted, aeval, aput, aseq, ablock, ahint, absOf, flat, nilCheckA, ANext.ofP, evals, evalPs, evalO, aresults, aresults1, aresult, aend, Option.map_some, Option.bind_some, if_true, if_false, ↓reduceIte, Nat.reduceLT, Nat.reduceEqDiff, reduceCtorEq, Bool.false_eq_true, false_and, and_false, and_true, true_and, Nat.reduceAdd, Nat.reduceLeDiff, callA, List.getElem?_toArray, List.getElem?_cons_succ, List.getElem?_cons_zero, sb1, sb2, sb3, sb4, sliceU_i, sliceU_s, sliceU_p, sliceU_l, evalV, ayielded_eq, slotOf_eq, dstOf, yieldB, xo_move, xo_assign, xo_pick, xo_alloc, xo_box, xo_build, xo_bslice, xo_load, xo_store, xo_nn, xo_bin, xo_un, xo_conv, xo_mki, xo_mkf, xo_mks, xo_slice, xo_fa, xo_fv, xo_ia, xo_ix, xo_ext, xo_call, xo_panic, extractA, b_lss, b_leq, b_gtr, b_geq, b_eql, b_neq, b_add, b_sub, b_mul, b_and, b_or, b_xor, b_shl, b_shr, b_quo, b_rem, u_not, u_neg, wr_i64, wr_u64, wr_u32, wr_u8, wr_i32, wr_u16, wr_i16, wr_i8, dec_t, dec_f, ieq_t, ieq_f, ine_t, ine_f, blkOf_cells, heap_set_same, heap_set_ne, heap_new_same, heap_new_ne, ASt.set_ctr, ASt.new_ctr, set_set', ic_lit, ic_agg, ic_ptr, ic_iptr, ic_slice, ic_islice, ic_func, ic_iface, boxA, newA, List.all_cons, List.all_nil, Bool.and_self, Bool.and_true, Bool.true_and, cs_lit, cs_agg, cs_ptr, cs_iptr, cs_slice, cs_islice, cs_func, cs_iface, fillA, putL, setsE, eo_lit, eo_agg, eo_ptr, eo_iptr, eo_slice, eo_islice, eo_func, eo_iface, eo_byte, List.set_cons_zero, List.set_cons_succ, List.length_cons, List.length_nil, Nat.reduceBEq, Nat.reduceBNe, beq_self_eq_true, Bool.not_true, Bool.not_false, Nat.zero_add, Nat.reduceMul, List.map_nil, List.drop_succ_cons, List.drop_zero, List.take_succ_cons, List.take_zero, List.nil_append, List.cons_append, Int.toNat_natCast, sl_set, sl_get, sl_len, upd_app, valOf_lit, ite_t, ite_f, r24] <;> rfl) ?_
      refine ⟨_, rfl, l.length - (i + 1), by omega, i + 1, rfl, by omega, r1, r22, r23, rfl, ?_, hG2⟩
      rw [htake, List.flatMap_append, ← List.append_assoc]
      have e1 : [(⟨(t : Int), sl, so, (d : Int)⟩ : Nd)].flatMap ndB = [t, sl, so, d].flatMap enc := by rw [nd_flat]; simp
      rw [e1]
      exact hT2
    · obtain ⟨k, e, a, b, c⟩ := hT
      refine ⟨k, e, ?_, by simp [ASt.new, ASt.set]; omega, c⟩
      rw [ASt.set_ne _ _ _ _ (by omega), ASt.new_ne _ _ _ (by omega)]
      exact a
    · refine ⟨by have := hG.1; simp [ASt.new, ASt.set]; omega, fun j hj => ?_⟩
      have := hG.1
      rw [ASt.set_ne _ _ _ _ (by omega), ASt.new_ne _ _ _ (by omega), hG.2 j hj]
  · obtain rfl : i = l.length := by omega
    refine aw_run 0 (by simp (maxSteps := 5000000) (disch := first | assumption | omega | (simp only [ASt.set_ctr, ASt.new_ctr] <;> omega)) only [S18_0_e.down, S18_1_e.down, S18_2_e.down, S18_3_e.down, S18_4_e.down, S18_5_e.down, hint_18_10, o_bsm_28_4, hint_18_11, o_cv_22_32, cf_33, hint_18_15, bi_app, o_leni_26, o_lens_26, o_lenn_26, o_cv_3_32, hint_18_21, o_ixi_26, o_ixs_26, o_ldp_53, o_ldi_53, o_al_53, o_st_53, o_fap_53_0, o_fai_53_0, o_ldp_3, o_ldi_3, o_fap_53_1, o_fai_53_1, o_ldp_32, o_ldi_32, o_fap_53_2, o_fai_53_2, o_fap_53_3, o_fai_53_3, hint_18_38, o_bs_69_4, o_leni_69, o_lens_69, o_lenn_69, o_ixi_69, o_ixs_69, hint_18_47, cf_19, AVal.undef, sbn1, sbn2, aexec, aops, aop, Region.wanted, aeval, aput, aseq, ablock, ahint, absOf, flat, nilCheckA, ANext.ofP, evals, evalPs, evalO, aresults, aresults1, aresult, aend, Option.map_some, Option.bind_some, if_true, if_false, ↓reduceIte, Nat.reduceLT, Nat.reduceEqDiff, reduceCtorEq, Bool.false_eq_true, false_and, and_false, and_true, true_and, Nat.reduceAdd, Nat.reduceLeDiff, callA, List.getElem?_toArray, List.getElem?_cons_succ, List.getElem?_cons_zero, sb1, sb2, sb3, sb4, sliceU_i, sliceU_s, sliceU_p, sliceU_l, evalV, ayielded_eq, slotOf_eq, dstOf, yieldB, xo_move, xo_assign, xo_pick, xo_alloc, xo_box, xo_build, xo_bslice, xo_load, xo_store, xo_nn, xo_bin, xo_un, xo_conv, xo_mki, xo_mkf, xo_mks, xo_slice, xo_fa, xo_fv, xo_ia, xo_ix, xo_ext, xo_call, xo_panic, extractA, b_lss, b_leq, b_gtr, b_geq, b_eql, b_neq, b_add, b_sub, b_mul, b_and, b_or, b_xor, b_shl, b_shr, b_quo, b_rem, u_not, u_neg, wr_i64, wr_u64, wr_u32, wr_u8, wr_i32, wr_u16, wr_i16, wr_i8, dec_t, dec_f, ieq_t, ieq_f, ine_t, ine_f, blkOf_cells, heap_set_same, heap_set_ne, heap_new_same, heap_new_ne, ASt.set_ctr, ASt.new_ctr, set_set', ic_lit, ic_agg, ic_ptr, ic_iptr, ic_slice, ic_islice, ic_func, ic_iface, boxA, newA, List.all_cons, List.all_nil, Bool.and_self, Bool.and_true, Bool.true_and, cs_lit, cs_agg, cs_ptr, cs_iptr, cs_slice, cs_islice, cs_func, cs_iface, fillA, putL, setsE, eo_lit, eo_agg, eo_ptr, eo_iptr, eo_slice, eo_islice, eo_func, eo_iface, eo_byte, List.set_cons_zero, List.set_cons_succ, List.length_cons, List.length_nil, Nat.reduceBEq, Nat.reduceBNe, beq_self_eq_true, Bool.not_true, Bool.not_false, Nat.zero_add, Nat.reduceMul, List.map_nil, List.drop_succ_cons, List.drop_zero, List.take_succ_cons, List.take_zero, List.nil_append, List.cons_append, Int.toNat_natCast, sl_set, sl_get, sl_len, upd_app, valOf_lit, ite_t, ite_f, h23, h24] <;> rfl) ?_
    have hb : BS st' (f 5) (bodyB sum l) := by
      obtain ⟨k, e, _⟩ := hT
      rw [List.take_of_length_le (Nat.le_refl _)] at e
      exact .inl (.inl ⟨_, e⟩)
    have hen3 := enc_len sum
    have hen4 := enc_len l.length
    have hblen : (bodyB sum l).length ≤ 1000 := by simp only [bodyB, markB, List.length_append, hq, List.length_cons, List.length_nil]; omega
    obtain ⟨r4, st4, c4, v4, rfl, g4, b4, o4⟩ := sealed_rw hb hblen
    refine aw_run 0 (by simp (maxSteps := 5000000) (disch := first | assumption | omega | (simp only [ASt.set_ctr, ASt.new_ctr] <;> omega)) only [S18_0_e.down, S18_1_e.down, S18_2_e.down, S18_3_e.down, S18_4_e.down, S18_5_e.down, hint_18_10, o_bsm_28_4, hint_18_11, o_cv_22_32, cf_33, hint_18_15, bi_app, o_leni_26, o_lens_26, o_lenn_26, o_cv_3_32, hint_18_21, o_ixi_26, o_ixs_26, o_ldp_53, o_ldi_53, o_al_53, o_st_53, o_fap_53_0, o_fai_53_0, o_ldp_3, o_ldi_3, o_fap_53_1, o_fai_53_1, o_ldp_32, o_ldi_32, o_fap_53_2, o_fai_53_2, o_fap_53_3, o_fai_53_3, hint_18_38, o_bs_69_4, o_leni_69, o_lens_69, o_lenn_69, o_ixi_69, o_ixs_69, hint_18_47, cf_19, AVal.undef, sbn1, sbn2, aexec, aops, aop, Region.wanted, aeval, aput, aseq, ablock, ahint, absOf, flat, nilCheckA, ANext.ofP, evals, evalPs, evalO, aresults, aresults1, aresult, aend, Option.map_some, Option.bind_some, if_true, if_false, ↓reduceIte, Nat.reduceLT, Nat.reduceEqDiff, reduceCtorEq, Bool.false_eq_true, false_and, and_false, and_true, true_and, Nat.reduceAdd, Nat.reduceLeDiff, callA, List.getElem?_toArray, List.getElem?_cons_succ, List.getElem?_cons_zero, sb1, sb2, sb3, sb4, sliceU_i, sliceU_s, sliceU_p, sliceU_l, evalV, ayielded_eq, slotOf_eq, dstOf, yieldB, xo_move, xo_assign, xo_pick, xo_alloc, xo_box, xo_build, xo_bslice, xo_load, xo_store, xo_nn, xo_bin, xo_un, xo_conv, xo_mki, xo_mkf, xo_mks, xo_slice, xo_fa, xo_fv, xo_ia, xo_ix, xo_ext, xo_call, xo_panic, extractA, b_lss, b_leq, b_gtr, b_geq, b_eql, b_neq, b_add, b_sub, b_mul, b_and, b_or, b_xor, b_shl, b_shr, b_quo, b_rem, u_not, u_neg, wr_i64, wr_u64, wr_u32, wr_u8, wr_i32, wr_u16, wr_i16, wr_i8, dec_t, dec_f, ieq_t, ieq_f, ine_t, ine_f, blkOf_cells, heap_set_same, heap_set_ne, heap_new_same, heap_new_ne, ASt.set_ctr, ASt.new_ctr, set_set', ic_lit, ic_agg, ic_ptr, ic_iptr, ic_slice, ic_islice, ic_func, ic_iface, boxA, newA, List.all_cons, List.all_nil, Bool.and_self, Bool.and_true, Bool.true_and, cs_lit, cs_agg, cs_ptr, cs_iptr, cs_slice, cs_islice, cs_func, cs_iface, fillA, putL, setsE, eo_lit, eo_agg, eo_ptr, eo_iptr, eo_slice, eo_islice, eo_func, eo_iface, eo_byte, List.set_cons_zero, List.set_cons_succ, List.length_cons, List.length_nil, Nat.reduceBEq, Nat.reduceBNe, beq_self_eq_true, Bool.not_true, Bool.not_false, Nat.zero_add, Nat.reduceMul, List.map_nil, List.drop_succ_cons, List.drop_zero, List.take_succ_cons, List.take_zero, List.nil_append, List.cons_append, Int.toNat_natCast, sl_set, sl_get, sl_len, upd_app, valOf_lit, ite_t, ite_f, c4] <;> rfl) ?_
    have hne : bodyB sum l ≠ [] := fun h => by have := bodyB_len4 sum l; rw [h] at this; simp at this
    obtain ⟨s, e1, e2, e3, e4⟩ := o4 hne
    exact ⟨_, _, by simp only [AVal.undef, sbn1, sbn2, aexec, aops, aop, Region.wanted, aeval, aput, aseq, ablock, ahint, absOf, flat, nilCheckA, ANext.ofP, evals, evalPs, evalO, aresults, aresults1, aresult, aend, Option.map_some, Option.bind_some, if_true, if_false, ↓reduceIte, Nat.reduceLT, Nat.reduceEqDiff, reduceCtorEq, Bool.false_eq_true, false_and, and_false, and_true, true_and, Nat.reduceAdd, Nat.reduceLeDiff, callA, List.getElem?_toArray, List.getElem?_cons_succ, List.getElem?_cons_zero, sb1, sb2, sb3, sb4, sliceU_i, sliceU_s, sliceU_p, sliceU_l, evalV, ayielded_eq, slotOf_eq, dstOf, yieldB, xo_move, xo_assign, xo_pick, xo_alloc, xo_box, xo_build, xo_bslice, xo_load, xo_store, xo_nn, xo_bin, xo_un, xo_conv, xo_mki, xo_mkf, xo_mks, xo_slice, xo_fa, xo_fv, xo_ia, xo_ix, xo_ext, xo_call, xo_panic, extractA, b_lss, b_leq, b_gtr, b_geq, b_eql, b_neq, b_add, b_sub, b_mul, b_and, b_or, b_xor, b_shl, b_shr, b_quo, b_rem, u_not, u_neg, wr_i64, wr_u64, wr_u32, wr_u8, wr_i32, wr_u16, wr_i16, wr_i8, dec_t, dec_f, ieq_t, ieq_f, ine_t, ine_f, blkOf_cells, heap_set_same, heap_set_ne, heap_new_same, heap_new_ne, ASt.set_ctr, ASt.new_ctr, set_set', ic_lit, ic_agg, ic_ptr, ic_iptr, ic_slice, ic_islice, ic_func, ic_iface, boxA, newA, List.all_cons, List.all_nil, Bool.and_self, Bool.and_true, Bool.true_and, cs_lit, cs_agg, cs_ptr, cs_iptr, cs_slice, cs_islice, cs_func, cs_iface, fillA, putL, setsE, eo_lit, eo_agg, eo_ptr, eo_iptr, eo_slice, eo_islice, eo_func, eo_iface, eo_byte, List.set_cons_zero, List.set_cons_succ, List.length_cons, List.length_nil, Nat.reduceBEq, Nat.reduceBNe, beq_self_eq_true, Bool.not_true, Bool.not_false, Nat.zero_add, Nat.reduceMul, List.map_nil, List.drop_succ_cons, List.drop_zero, List.take_succ_cons, List.take_zero, List.nil_append, List.cons_append, Int.toNat_natCast, sl_set, sl_get, sl_len, upd_app, valOf_lit, ite_t, ite_f, Try.f18] <;> rfl, _, rfl, hG.trans g4, b4, s, e1, Nat.le_trans hG.1 e2, e3, e4⟩
end Go.Proofs.YtnndngoanknemaaV
