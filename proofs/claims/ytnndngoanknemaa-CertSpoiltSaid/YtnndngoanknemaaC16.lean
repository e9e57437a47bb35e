/- CertBack walked. No condition. -/
import Derived.Test.YtnndngoanknemaaC15
namespace Go.Proofs.YtnndngoanknemaaV
open Go Go.RowKit Go.Proofs.YtnndngoanknemaaA
set_option linter.unusedVariables false
set_option linter.unusedSimpArgs false
set_option maxRecDepth 100000

theorem cert_len {l : List Nd} (h : IsTree l) (sum : Nat) : 10 ≤ (certB sum l).length ∧ (certB sum l).length ≤ 200 := by
  have h1 := certB_len_tree h sum
  have h2 := h.len
  have h3 := h.pos
  have h4 := enc_len sum
  have h5 := enc_len l.length
  rw [List.length_append] at h1
  omega

set_option maxHeartbeats 1000000 in
theorem back_runs (b0 b1 : AVal) (d0 : DatV E.P 6 22 b0) (d1 : DatV E.P 6 23 b1) : ∃ n st', run E n 6 [b0, b1] st0 = some (.returned (.lit (.bool true)), st') := by
  suffices h : ∃ r st', rw E 6 [b0, b1] st0 = some (r, st') ∧ r = .returned (.lit (.bool true)) by
    obtain ⟨r, st', h1, rfl⟩ := h
    obtain ⟨n, hn⟩ := rw_out h1
    exact ⟨n, st', hn⟩
  obtain ⟨sum, rfl, hs⟩ := datv_natN u38 rfl rfl d0
  obtain ⟨ns, hv⟩ := datv_ns d1
  simp only [IntKind.bits] at hs
  obtain ⟨s0, n0⟩ := awake18 st0
  have c0 := n0.rw
  have L := fun mt ty cs st2 => len_ns hv mt ty cs st2
  refine cx_6 fun g t0 t1 => C6_wp ?_
  by_cases hl : 100 < ns.length
  · refine aw_run 0 (by simp (maxSteps := 5000000) (disch := first | assumption | omega | (simp only [ASt.set_ctr, ASt.new_ctr] <;> omega)) only [S6_0_e.down, cf_9, o_leni_23, o_lens_23, o_lenn_23, cf_10, cf_12, cf_16, cf_18, cf_14, cf_15, AVal.undef, sbn1, sbn2, aexec, aops, aop, Region.wanted, aeval, aput, aseq, ablock, ahint, absOf, flat, nilCheckA, ANext.ofP, evals, evalPs, evalO, aresults, aresults1, aresult, aend, Option.map_some, Option.bind_some, if_true, if_false, ↓reduceIte, Nat.reduceLT, Nat.reduceEqDiff, reduceCtorEq, Bool.false_eq_true, false_and, and_false, and_true, true_and, Nat.reduceAdd, Nat.reduceLeDiff, callA, List.getElem?_toArray, List.getElem?_cons_succ, List.getElem?_cons_zero, sb1, sb2, sb3, sb4, sliceU_i, sliceU_s, sliceU_p, sliceU_l, evalV, ayielded_eq, slotOf_eq, dstOf, yieldB, xo_move, xo_assign, xo_pick, xo_alloc, xo_box, xo_build, xo_bslice, xo_load, xo_store, xo_nn, xo_bin, xo_un, xo_conv, xo_mki, xo_mkf, xo_mks, xo_slice, xo_fa, xo_fv, xo_ia, xo_ix, xo_ext, xo_call, xo_panic, extractA, b_lss, b_leq, b_gtr, b_geq, b_eql, b_neq, b_add, b_sub, b_mul, b_and, b_or, b_xor, b_shl, b_shr, b_quo, b_rem, u_not, u_neg, wr_i64, wr_u64, wr_u32, wr_u8, wr_i32, wr_u16, wr_i16, wr_i8, dec_t, dec_f, ieq_t, ieq_f, ine_t, ine_f, blkOf_cells, heap_set_same, heap_set_ne, heap_new_same, heap_new_ne, ASt.set_ctr, ASt.new_ctr, set_set', ic_lit, ic_agg, ic_ptr, ic_iptr, ic_slice, ic_islice, ic_func, ic_iface, boxA, newA, List.all_cons, List.all_nil, Bool.and_self, Bool.and_true, Bool.true_and, cs_lit, cs_agg, cs_ptr, cs_iptr, cs_slice, cs_islice, cs_func, cs_iface, fillA, putL, setsE, eo_lit, eo_agg, eo_ptr, eo_iptr, eo_slice, eo_islice, eo_func, eo_iface, eo_byte, List.set_cons_zero, List.set_cons_succ, List.length_cons, List.length_nil, Nat.reduceBEq, Nat.reduceBNe, beq_self_eq_true, Bool.not_true, Bool.not_false, Nat.zero_add, Nat.reduceMul, List.map_nil, List.drop_succ_cons, List.drop_zero, List.take_succ_cons, List.take_zero, List.nil_append, List.cons_append, Int.toNat_natCast, sl_set, sl_get, sl_len, upd_app, valOf_lit, ite_t, ite_f, t0, t1, c0, L] <;> rfl) ?_
    exact ⟨_, _, by simp only [AVal.undef, sbn1, sbn2, aexec, aops, aop, Region.wanted, aeval, aput, aseq, ablock, ahint, absOf, flat, nilCheckA, ANext.ofP, evals, evalPs, evalO, aresults, aresults1, aresult, aend, Option.map_some, Option.bind_some, if_true, if_false, ↓reduceIte, Nat.reduceLT, Nat.reduceEqDiff, reduceCtorEq, Bool.false_eq_true, false_and, and_false, and_true, true_and, Nat.reduceAdd, Nat.reduceLeDiff, callA, List.getElem?_toArray, List.getElem?_cons_succ, List.getElem?_cons_zero, sb1, sb2, sb3, sb4, sliceU_i, sliceU_s, sliceU_p, sliceU_l, evalV, ayielded_eq, slotOf_eq, dstOf, yieldB, xo_move, xo_assign, xo_pick, xo_alloc, xo_box, xo_build, xo_bslice, xo_load, xo_store, xo_nn, xo_bin, xo_un, xo_conv, xo_mki, xo_mkf, xo_mks, xo_slice, xo_fa, xo_fv, xo_ia, xo_ix, xo_ext, xo_call, xo_panic, extractA, b_lss, b_leq, b_gtr, b_geq, b_eql, b_neq, b_add, b_sub, b_mul, b_and, b_or, b_xor, b_shl, b_shr, b_quo, b_rem, u_not, u_neg, wr_i64, wr_u64, wr_u32, wr_u8, wr_i32, wr_u16, wr_i16, wr_i8, dec_t, dec_f, ieq_t, ieq_f, ine_t, ine_f, blkOf_cells, heap_set_same, heap_set_ne, heap_new_same, heap_new_ne, ASt.set_ctr, ASt.new_ctr, set_set', ic_lit, ic_agg, ic_ptr, ic_iptr, ic_slice, ic_islice, ic_func, ic_iface, boxA, newA, List.all_cons, List.all_nil, Bool.and_self, Bool.and_true, Bool.true_and, cs_lit, cs_agg, cs_ptr, cs_iptr, cs_slice, cs_islice, cs_func, cs_iface, fillA, putL, setsE, eo_lit, eo_agg, eo_ptr, eo_iptr, eo_slice, eo_islice, eo_func, eo_iface, eo_byte, List.set_cons_zero, List.set_cons_succ, List.length_cons, List.length_nil, Nat.reduceBEq, Nat.reduceBNe, beq_self_eq_true, Bool.not_true, Bool.not_false, Nat.zero_add, Nat.reduceMul, List.map_nil, List.drop_succ_cons, List.drop_zero, List.take_succ_cons, List.take_zero, List.nil_append, List.cons_append, Int.toNat_natCast, sl_set, sl_get, sl_len, upd_app, valOf_lit, ite_t, ite_f, Try.f6] <;> rfl, rfl⟩
  obtain ⟨pv, s1, l, n1, ho, hT, _⟩ := tree_run hv s0
  have c1 := n1.rw
  have hps := ho.ps
  have hTl := hT.len
  obtain ⟨v2, s2, n2, o2⟩ := enc_run (sum := sum) hps hT.good (by omega) (by omega)
  have c2 := n2.rw
  obtain ⟨hc1, hc2⟩ := cert_len hT sum
  obtain ⟨r3, s3, c3, g3, q3⟩ := decode_rw o2.bn (by omega)
  rcases q3 with ⟨p, c, h1, _⟩ | ⟨sum', ns', v3, h1, rfl, hp3, hs3, hl3⟩
  · rw [dec_cert hT.small (by omega) (by omega)] at h1; cases h1
  rw [dec_cert hT.small (by omega) (by omega)] at h1
  cases h1
  obtain ⟨r4, s4, c4, v4, rfl, g4, b4, _⟩ := tells_rw (sum := sum) ((hps.gr o2.gr).gr g3) hT.small hT.len (by omega)
  have c5 := (eq_run s4 ((o2.bn.gr g3).gr g4).bs b4.bs (by omega)).rw
  rw [beq_self_eq_true] at c5
  have c6 := (same_run s4 (((hps.gr o2.gr).gr g3).gr g4) (hp3.gr g4) (by omega)).rw
  rw [beq_self_eq_true] at c6
  refine aw_run 0 (by simp (maxSteps := 5000000) (disch := first | assumption | omega | (simp only [ASt.set_ctr, ASt.new_ctr] <;> omega)) only [S6_0_e.down, cf_9, o_leni_23, o_lens_23, o_lenn_23, cf_10, cf_12, cf_16, cf_18, cf_14, cf_15, AVal.undef, sbn1, sbn2, aexec, aops, aop, Region.wanted, aeval, aput, aseq, ablock, ahint, absOf, flat, nilCheckA, ANext.ofP, evals, evalPs, evalO, aresults, aresults1, aresult, aend, Option.map_some, Option.bind_some, if_true, if_false, ↓reduceIte, Nat.reduceLT, Nat.reduceEqDiff, reduceCtorEq, Bool.false_eq_true, false_and, and_false, and_true, true_and, Nat.reduceAdd, Nat.reduceLeDiff, callA, List.getElem?_toArray, List.getElem?_cons_succ, List.getElem?_cons_zero, sb1, sb2, sb3, sb4, sliceU_i, sliceU_s, sliceU_p, sliceU_l, evalV, ayielded_eq, slotOf_eq, dstOf, yieldB, xo_move, xo_assign, xo_pick, xo_alloc, xo_box, xo_build, xo_bslice, xo_load, xo_store, xo_nn, xo_bin, xo_un, xo_conv, xo_mki, xo_mkf, xo_mks, xo_slice, xo_fa, xo_fv, xo_ia, xo_ix, xo_ext, xo_call, xo_panic, extractA, b_lss, b_leq, b_gtr, b_geq, b_eql, b_neq, b_add, b_sub, b_mul, b_and, b_or, b_xor, b_shl, b_shr, b_quo, b_rem, u_not, u_neg, wr_i64, wr_u64, wr_u32, wr_u8, wr_i32, wr_u16, wr_i16, wr_i8, dec_t, dec_f, ieq_t, ieq_f, ine_t, ine_f, blkOf_cells, heap_set_same, heap_set_ne, heap_new_same, heap_new_ne, ASt.set_ctr, ASt.new_ctr, set_set', ic_lit, ic_agg, ic_ptr, ic_iptr, ic_slice, ic_islice, ic_func, ic_iface, boxA, newA, List.all_cons, List.all_nil, Bool.and_self, Bool.and_true, Bool.true_and, cs_lit, cs_agg, cs_ptr, cs_iptr, cs_slice, cs_islice, cs_func, cs_iface, fillA, putL, setsE, eo_lit, eo_agg, eo_ptr, eo_iptr, eo_slice, eo_islice, eo_func, eo_iface, eo_byte, List.set_cons_zero, List.set_cons_succ, List.length_cons, List.length_nil, Nat.reduceBEq, Nat.reduceBNe, beq_self_eq_true, Bool.not_true, Bool.not_false, Nat.zero_add, Nat.reduceMul, List.map_nil, List.drop_succ_cons, List.drop_zero, List.take_succ_cons, List.take_zero, List.nil_append, List.cons_append, Int.toNat_natCast, sl_set, sl_get, sl_len, upd_app, valOf_lit, ite_t, ite_f, t0, t1, c0, L, c1, c2, c3, c4, c5, c6] <;> rfl) ?_
  exact ⟨_, _, by simp only [AVal.undef, sbn1, sbn2, aexec, aops, aop, Region.wanted, aeval, aput, aseq, ablock, ahint, absOf, flat, nilCheckA, ANext.ofP, evals, evalPs, evalO, aresults, aresults1, aresult, aend, Option.map_some, Option.bind_some, if_true, if_false, ↓reduceIte, Nat.reduceLT, Nat.reduceEqDiff, reduceCtorEq, Bool.false_eq_true, false_and, and_false, and_true, true_and, Nat.reduceAdd, Nat.reduceLeDiff, callA, List.getElem?_toArray, List.getElem?_cons_succ, List.getElem?_cons_zero, sb1, sb2, sb3, sb4, sliceU_i, sliceU_s, sliceU_p, sliceU_l, evalV, ayielded_eq, slotOf_eq, dstOf, yieldB, xo_move, xo_assign, xo_pick, xo_alloc, xo_box, xo_build, xo_bslice, xo_load, xo_store, xo_nn, xo_bin, xo_un, xo_conv, xo_mki, xo_mkf, xo_mks, xo_slice, xo_fa, xo_fv, xo_ia, xo_ix, xo_ext, xo_call, xo_panic, extractA, b_lss, b_leq, b_gtr, b_geq, b_eql, b_neq, b_add, b_sub, b_mul, b_and, b_or, b_xor, b_shl, b_shr, b_quo, b_rem, u_not, u_neg, wr_i64, wr_u64, wr_u32, wr_u8, wr_i32, wr_u16, wr_i16, wr_i8, dec_t, dec_f, ieq_t, ieq_f, ine_t, ine_f, blkOf_cells, heap_set_same, heap_set_ne, heap_new_same, heap_new_ne, ASt.set_ctr, ASt.new_ctr, set_set', ic_lit, ic_agg, ic_ptr, ic_iptr, ic_slice, ic_islice, ic_func, ic_iface, boxA, newA, List.all_cons, List.all_nil, Bool.and_self, Bool.and_true, Bool.true_and, cs_lit, cs_agg, cs_ptr, cs_iptr, cs_slice, cs_islice, cs_func, cs_iface, fillA, putL, setsE, eo_lit, eo_agg, eo_ptr, eo_iptr, eo_slice, eo_islice, eo_func, eo_iface, eo_byte, List.set_cons_zero, List.set_cons_succ, List.length_cons, List.length_nil, Nat.reduceBEq, Nat.reduceBNe, beq_self_eq_true, Bool.not_true, Bool.not_false, Nat.zero_add, Nat.reduceMul, List.map_nil, List.drop_succ_cons, List.drop_zero, List.take_succ_cons, List.take_zero, List.nil_append, List.cons_append, Int.toNat_natCast, sl_set, sl_get, sl_len, upd_app, valOf_lit, ite_t, ite_f, Try.f6] <;> rfl, rfl⟩
end Go.Proofs.YtnndngoanknemaaV
