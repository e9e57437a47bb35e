/- GaussRing, GaussNorms, GaussConjs walked. No condition. -/
import Derived.Test.YtingncadiolajaaDoorF4
namespace Go.Proofs.YtingncadiolajaaDoorV
open Go Go.RowKit Go.Proofs.YtingncadiolajaaDoorA
set_option linter.unusedVariables false
set_option linter.unusedSimpArgs false
set_option maxRecDepth 100000

theorem mulb {x y : Int} {A B : Nat} (hx : x.natAbs ≤ A) (hy : y.natAbs ≤ B) : (x * y).natAbs ≤ A * B := by rw [Int.natAbs_mul]; exact Nat.mul_le_mul hx hy
theorem sm53 {a b : Int} (h : Sm a b) : a.natAbs < 2 ^ 53 ∧ b.natAbs < 2 ^ 53 := ⟨by have := h.1; omega, by have := h.2; omega⟩
theorem ceq_t {a b c d : Int} (h : Sm a b) (h2 : Sm c d) (e1 : a = c) (e2 : b = d) (t : TypeId) (xo yo : Operand) : binA E.P .eql t xo yo (cz a b) (cz c d) = some (.lit (.bool true)) := by
  rw [ceq_cz (sm53 h) (sm53 h2), decide_eq_true ⟨e1, e2⟩]

set_option maxHeartbeats 2000000 in
theorem ring_runs (b0 b1 b2 : AVal) (d0 : DatV E.P 6 23 b0) (d1 : DatV E.P 6 23 b1) (d2 : DatV E.P 6 23 b2) : ∃ n st', run E n 6 [b0, b1, b2] st0 = some (.returned (.lit (.bool true)), st') := by
  suffices h : ∃ r st', rw E 6 [b0, b1, b2] st0 = some (r, st') ∧ r = .returned (.lit (.bool true)) by
    obtain ⟨r, st', h1, rfl⟩ := h
    obtain ⟨n, hn⟩ := rw_out h1
    exact ⟨n, st', hn⟩
  obtain ⟨x1, x2, rfl, _, _⟩ := pair_of d0
  obtain ⟨y1, y2, rfl, _, _⟩ := pair_of d1
  obtain ⟨w1, w2, rfl, _, _⟩ := pair_of d2
  obtain ⟨s1, c0, m0, m1, m2, k1⟩ := awake3 (.cells [.lit (.int .i32 x1), .lit (.int .i32 x2)]) (.cells [.lit (.int .i32 y1), .lit (.int .i32 y2)]) (.cells [.lit (.int .i32 w1), .lit (.int .i32 w2)])
  obtain ⟨s2, c1, g1⟩ := small_rw (a := x1) (b := x2) s1
  obtain ⟨s3, c2, g2⟩ := small_rw (a := y1) (b := y2) s2
  obtain ⟨s4, c3, g3⟩ := small_rw (a := w1) (b := w2) s3
  have n1 : s2.heap 1 = some (.cells [.lit (.int .i32 y1), .lit (.int .i32 y2)]) := by rw [g1.2 1 (by omega)]; exact m1
  have n2 : s2.heap 2 = some (.cells [.lit (.int .i32 w1), .lit (.int .i32 w2)]) := by rw [g1.2 2 (by omega)]; exact m2
  have n3 : s3.heap 2 = some (.cells [.lit (.int .i32 w1), .lit (.int .i32 w2)]) := by rw [g2.2 2 (by have := g1.1; omega)]; exact n2
  have hx1 := tmod_le x1 400 (by decide)
  have hx2 := tmod_le x2 400 (by decide)
  have hy1 := tmod_le y1 400 (by decide)
  have hy2 := tmod_le y2 400 (by decide)
  have hw1 := tmod_le w1 400 (by decide)
  have hw2 := tmod_le w2 400 (by decide)
  have e4 : ((400 : Nat) : Int) = 400 := rfl
  rw [e4] at hx1 hx2 hy1 hy2 hw1 hw2
  generalize x1.tmod 400 = a1 at *
  generalize x2.tmod 400 = a2 at *
  generalize y1.tmod 400 = b1 at *
  generalize y2.tmod 400 = b2 at *
  generalize w1.tmod 400 = z1 at *
  generalize w2.tmod 400 = z2 at *
  have sx : Sm a1 a2 := ⟨by omega, by omega⟩
  have sy : Sm b1 b2 := ⟨by omega, by omega⟩
  have sz : Sm z1 z2 := ⟨by omega, by omega⟩
  have ss : Sm (a1 + b1) (a2 + b2) := ⟨by omega, by omega⟩
  have sv : Sm (b1 + a1) (b2 + a2) := ⟨by omega, by omega⟩
  have bd : ∀ p q u v : Int, p.natAbs ≤ 798 → q.natAbs ≤ 798 → u.natAbs ≤ 399 → v.natAbs ≤ 399 → Sm (p * u - q * v) (p * v + q * u) := fun p q u v hp hq hu hv => by
    have h1 := mulb hp hu
    have h2 := mulb hq hv
    have h3 := mulb hp hv
    have h4 := mulb hq hu
    exact ⟨by omega, by omega⟩
  have bd2 : ∀ p q u v : Int, p.natAbs ≤ 798 → q.natAbs ≤ 798 → u.natAbs ≤ 399 → v.natAbs ≤ 399 → Sm (u * p - v * q) (u * q + v * p) := fun p q u v hp hq hu hv => by
    have h1 := mulb hp hu
    have h2 := mulb hq hv
    have h3 := mulb hp hv
    have h4 := mulb hq hu
    rw [Int.mul_comm u p, Int.mul_comm v q, Int.mul_comm u q, Int.mul_comm v p]
    exact ⟨by omega, by omega⟩
  have sp := bd (a1 + b1) (a2 + b2) z1 z2 (by omega) (by omega) (by omega) (by omega)
  have sq := bd a1 a2 z1 z2 (by omega) (by omega) (by omega) (by omega)
  have sr := bd b1 b2 z1 z2 (by omega) (by omega) (by omega) (by omega)
  have su := bd2 (a1 + b1) (a2 + b2) z1 z2 (by omega) (by omega) (by omega) (by omega)
  have q1 : (a1 * z1 - a2 * z2) + (b1 * z1 - b2 * z2) = (a1 + b1) * z1 - (a2 + b2) * z2 := by rw [Int.add_mul, Int.add_mul]; omega
  have q2 : (a1 * z2 + a2 * z1) + (b1 * z2 + b2 * z1) = (a1 + b1) * z2 + (a2 + b2) * z1 := by rw [Int.add_mul, Int.add_mul]; omega
  have st' : Sm ((a1 * z1 - a2 * z2) + (b1 * z1 - b2 * z2)) ((a1 * z2 + a2 * z1) + (b1 * z2 + b2 * z1)) := by rw [q1, q2]; exact sp
  have f1 := add_rw sx sy ss s4
  have f2 := mul_rw ss sz sp s4
  have f3 := mul_rw sx sz sq s4
  have f4 := mul_rw sy sz sr s4
  have f5 := add_rw sq sr st' s4
  have f6 := mul_rw sz ss su s4
  have f7 := add_rw sy sx sv s4
  have r1 := fun t xo yo => ceq_t sp st' q1.symm q2.symm t xo yo
  have r2 := fun t xo yo => ceq_t su sp (by rw [Int.mul_comm z1, Int.mul_comm z2]) (by rw [Int.mul_comm z1, Int.mul_comm z2]; omega) t xo yo
  have r3 := fun t xo yo => ceq_t sv ss (by omega) (by omega) t xo yo
  clear sp sq sr su st' bd bd2 q1 q2 ss sv sx sy sz
  refine cx_6 fun g t0 t1 t2 => C6_wp ?_
  refine aw_run 0 (by simp (maxSteps := 5000000) (disch := first | assumption | omega | (simp only [ASt.set_ctr, ASt.new_ctr] <;> omega)) only [and_self, aopsP, Stills, still_eq, stillO, stillD, forall_const, Option.isSome_some, eq_self, ex6_3, rq6_3_e.down, S6_0_e.down, cf_9, o_ldp_23, o_ldi_23, cf_10, cf_17, cf_13, AVal.undef, sbn1, sbn2, aexec, aops, aop, Region.wanted, aeval, aput, aseq, ablock, ahint, absOf, flat, nilCheckA, ANext.ofP, evals, evalPs, evalO, aresults, aresults1, aresult, aend, Option.map_some, Option.bind_some, if_true, if_false, ↓reduceIte, Nat.reduceLT, Nat.reduceEqDiff, reduceCtorEq, Bool.false_eq_true, false_and, and_false, and_true, true_and, Nat.reduceAdd, Nat.reduceLeDiff, callA, List.getElem?_toArray, List.getElem?_cons_succ, List.getElem?_cons_zero, sb1, sb2, sb3, sb4, sliceU_i, sliceU_s, sliceU_p, sliceU_l, evalV, ayielded_eq, slotOf_eq, dstOf, yieldB, xo_move, xo_assign, xo_pick, xo_alloc, xo_box, xo_build, xo_bslice, xo_load, xo_store, xo_nn, xo_bin, xo_un, xo_conv, xo_mki, xo_mkf, xo_mks, xo_slice, xo_fa, xo_fv, xo_ia, xo_ix, xo_ext, xo_call, xo_panic, extractA, b_lss, b_leq, b_gtr, b_geq, b_eql, b_neq, b_add, b_sub, b_mul, b_and, b_or, b_xor, b_shl, b_shr, b_quo, b_rem, u_not, u_neg, wr_i64, wr_u64, wr_u32, wr_u8, wr_i32, wr_u16, wr_i16, wr_i8, dec_t, dec_f, ieq_t, ieq_f, ine_t, ine_f, blkOf_cells, heap_set_same, heap_set_ne, heap_new_same, heap_new_ne, ASt.set_ctr, ASt.new_ctr, set_set', ic_lit, ic_agg, ic_ptr, ic_iptr, ic_slice, ic_islice, ic_func, ic_iface, boxA, newA, List.all_cons, List.all_nil, Bool.and_self, Bool.and_true, Bool.true_and, cs_lit, cs_agg, cs_ptr, cs_iptr, cs_slice, cs_islice, cs_func, cs_iface, fillA, putL, setsE, eo_lit, eo_agg, eo_ptr, eo_iptr, eo_slice, eo_islice, eo_func, eo_iface, eo_byte, List.set_cons_zero, List.set_cons_succ, List.length_cons, List.length_nil, Nat.reduceBEq, Nat.reduceBNe, beq_self_eq_true, Bool.not_true, Bool.not_false, Nat.zero_add, Nat.reduceMul, List.map_nil, List.drop_succ_cons, List.drop_zero, List.take_succ_cons, List.take_zero, List.nil_append, List.cons_append, Int.toNat_natCast, sl_set, sl_get, sl_len, upd_app, valOf_lit, ite_t, ite_f, bi_real, bi_imag, bi_cplx, b_flss, b_fleq, b_fgtr, b_fgeq, b_feql, b_fneq, b_ceql, b_cneq, u_fneg, b_andnot, z0, t0, t1, t2, c0, c1, c2, c3, m0, m1, m2, n1, n2, n3, f1, f2, f3, f4, f5, f6, f7, r1, r2, r3] <;> rfl) ?_
  exact ⟨_, _, by simp only [AVal.undef, sbn1, sbn2, aexec, aops, aop, Region.wanted, aeval, aput, aseq, ablock, ahint, absOf, flat, nilCheckA, ANext.ofP, evals, evalPs, evalO, aresults, aresults1, aresult, aend, Option.map_some, Option.bind_some, if_true, if_false, ↓reduceIte, Nat.reduceLT, Nat.reduceEqDiff, reduceCtorEq, Bool.false_eq_true, false_and, and_false, and_true, true_and, Nat.reduceAdd, Nat.reduceLeDiff, callA, List.getElem?_toArray, List.getElem?_cons_succ, List.getElem?_cons_zero, sb1, sb2, sb3, sb4, sliceU_i, sliceU_s, sliceU_p, sliceU_l, evalV, ayielded_eq, slotOf_eq, dstOf, yieldB, xo_move, xo_assign, xo_pick, xo_alloc, xo_box, xo_build, xo_bslice, xo_load, xo_store, xo_nn, xo_bin, xo_un, xo_conv, xo_mki, xo_mkf, xo_mks, xo_slice, xo_fa, xo_fv, xo_ia, xo_ix, xo_ext, xo_call, xo_panic, extractA, b_lss, b_leq, b_gtr, b_geq, b_eql, b_neq, b_add, b_sub, b_mul, b_and, b_or, b_xor, b_shl, b_shr, b_quo, b_rem, u_not, u_neg, wr_i64, wr_u64, wr_u32, wr_u8, wr_i32, wr_u16, wr_i16, wr_i8, dec_t, dec_f, ieq_t, ieq_f, ine_t, ine_f, blkOf_cells, heap_set_same, heap_set_ne, heap_new_same, heap_new_ne, ASt.set_ctr, ASt.new_ctr, set_set', ic_lit, ic_agg, ic_ptr, ic_iptr, ic_slice, ic_islice, ic_func, ic_iface, boxA, newA, List.all_cons, List.all_nil, Bool.and_self, Bool.and_true, Bool.true_and, cs_lit, cs_agg, cs_ptr, cs_iptr, cs_slice, cs_islice, cs_func, cs_iface, fillA, putL, setsE, eo_lit, eo_agg, eo_ptr, eo_iptr, eo_slice, eo_islice, eo_func, eo_iface, eo_byte, List.set_cons_zero, List.set_cons_succ, List.length_cons, List.length_nil, Nat.reduceBEq, Nat.reduceBNe, beq_self_eq_true, Bool.not_true, Bool.not_false, Nat.zero_add, Nat.reduceMul, List.map_nil, List.drop_succ_cons, List.drop_zero, List.take_succ_cons, List.take_zero, List.nil_append, List.cons_append, Int.toNat_natCast, sl_set, sl_get, sl_len, upd_app, valOf_lit, ite_t, ite_f, Tryd.f6] <;> rfl, rfl⟩

set_option maxHeartbeats 2000000 in
theorem conjs_runs (b0 b1 : AVal) (d0 : DatV E.P 6 23 b0) (d1 : DatV E.P 6 23 b1) : ∃ n st', run E n 7 [b0, b1] st0 = some (.returned (.lit (.bool true)), st') := by
  suffices h : ∃ r st', rw E 7 [b0, b1] st0 = some (r, st') ∧ r = .returned (.lit (.bool true)) by
    obtain ⟨r, st', h1, rfl⟩ := h
    obtain ⟨n, hn⟩ := rw_out h1
    exact ⟨n, st', hn⟩
  obtain ⟨x1, x2, rfl, _, _⟩ := pair_of d0
  obtain ⟨y1, y2, rfl, _, _⟩ := pair_of d1
  obtain ⟨s1, c0, m0, m1, k1⟩ := awake2 (.cells [.lit (.int .i32 x1), .lit (.int .i32 x2)]) (.cells [.lit (.int .i32 y1), .lit (.int .i32 y2)])
  obtain ⟨s2, c1, g1⟩ := small_rw (a := x1) (b := x2) s1
  obtain ⟨s4, c2, g2⟩ := small_rw (a := y1) (b := y2) s2
  have n1 : s2.heap 1 = some (.cells [.lit (.int .i32 y1), .lit (.int .i32 y2)]) := by rw [g1.2 1 (by omega)]; exact m1
  have hx1 := tmod_le x1 400 (by decide)
  have hx2 := tmod_le x2 400 (by decide)
  have hy1 := tmod_le y1 400 (by decide)
  have hy2 := tmod_le y2 400 (by decide)
  have e4 : ((400 : Nat) : Int) = 400 := rfl
  rw [e4] at hx1 hx2 hy1 hy2
  generalize x1.tmod 400 = a1 at *
  generalize x2.tmod 400 = a2 at *
  generalize y1.tmod 400 = b1 at *
  generalize y2.tmod 400 = b2 at *
  have sx : Sm a1 a2 := ⟨by omega, by omega⟩
  have sy : Sm b1 b2 := ⟨by omega, by omega⟩
  have sc : Sm a1 (-a2) := ⟨by omega, by omega⟩
  have sd : Sm b1 (-b2) := ⟨by omega, by omega⟩
  have se : Sm a1 (- -a2) := ⟨by omega, by omega⟩
  have ss : Sm (a1 + b1) (a2 + b2) := ⟨by omega, by omega⟩
  have st1 : Sm (a1 + b1) (-a2 + -b2) := ⟨by omega, by omega⟩
  have bd : ∀ p q u v : Int, p.natAbs ≤ 399 → q.natAbs ≤ 399 → u.natAbs ≤ 399 → v.natAbs ≤ 399 → Sm (p * u - q * v) (p * v + q * u) := fun p q u v hp hq hu hv => by
    have h1 := mulb hp hu
    have h2 := mulb hq hv
    have h3 := mulb hp hv
    have h4 := mulb hq hu
    exact ⟨by omega, by omega⟩
  have sp := bd a1 a2 b1 b2 (by omega) (by omega) (by omega) (by omega)
  have sq := bd a1 (-a2) b1 (-b2) (by omega) (by omega) (by omega) (by omega)
  have sg' : Sm (a1 * b1 - a2 * b2) (-(a1 * b2 + a2 * b1)) := ⟨sp.1, by have := sp.2; omega⟩
  have sf : Sm (a1 + b1) (-(a2 + b2)) := ⟨by omega, by omega⟩
  have f1 := conj_rw sx s4
  have f2 := conj_rw sy s4
  have f3 := conj_rw sc s4
  have f4 := add_rw sx sy ss s4
  have f5 := mul_rw sx sy sp s4
  have f6 := add_rw sc sd st1 s4
  have f7 := mul_rw sc sd sq s4
  have f8 := conj_rw ss s4
  have f9 := conj_rw sp s4
  have r1 := fun t xo yo => ceq_t se sx rfl (by omega) t xo yo
  have r2 := fun t xo yo => ceq_t sf st1 rfl (by omega) t xo yo
  have r3 := fun t xo yo => ceq_t sg' sq (by rw [Int.neg_mul_neg]) (by rw [Int.mul_neg, Int.neg_mul]; omega) t xo yo
  clear sp sq sg' sf bd ss st1 sx sy sc sd se
  refine cx_7 fun g t0 t1 => C7_wp ?_
  refine aw_run 0 (by simp (maxSteps := 5000000) (disch := first | assumption | omega | (simp only [ASt.set_ctr, ASt.new_ctr] <;> omega)) only [and_self, aopsP, Stills, still_eq, stillO, stillD, forall_const, Option.isSome_some, eq_self, ex7_3, rq7_3_e.down, S7_0_e.down, cf_9, o_ldp_23, o_ldi_23, cf_10, cf_15, cf_17, cf_13, AVal.undef, sbn1, sbn2, aexec, aops, aop, Region.wanted, aeval, aput, aseq, ablock, ahint, absOf, flat, nilCheckA, ANext.ofP, evals, evalPs, evalO, aresults, aresults1, aresult, aend, Option.map_some, Option.bind_some, if_true, if_false, ↓reduceIte, Nat.reduceLT, Nat.reduceEqDiff, reduceCtorEq, Bool.false_eq_true, false_and, and_false, and_true, true_and, Nat.reduceAdd, Nat.reduceLeDiff, callA, List.getElem?_toArray, List.getElem?_cons_succ, List.getElem?_cons_zero, sb1, sb2, sb3, sb4, sliceU_i, sliceU_s, sliceU_p, sliceU_l, evalV, ayielded_eq, slotOf_eq, dstOf, yieldB, xo_move, xo_assign, xo_pick, xo_alloc, xo_box, xo_build, xo_bslice, xo_load, xo_store, xo_nn, xo_bin, xo_un, xo_conv, xo_mki, xo_mkf, xo_mks, xo_slice, xo_fa, xo_fv, xo_ia, xo_ix, xo_ext, xo_call, xo_panic, extractA, b_lss, b_leq, b_gtr, b_geq, b_eql, b_neq, b_add, b_sub, b_mul, b_and, b_or, b_xor, b_shl, b_shr, b_quo, b_rem, u_not, u_neg, wr_i64, wr_u64, wr_u32, wr_u8, wr_i32, wr_u16, wr_i16, wr_i8, dec_t, dec_f, ieq_t, ieq_f, ine_t, ine_f, blkOf_cells, heap_set_same, heap_set_ne, heap_new_same, heap_new_ne, ASt.set_ctr, ASt.new_ctr, set_set', ic_lit, ic_agg, ic_ptr, ic_iptr, ic_slice, ic_islice, ic_func, ic_iface, boxA, newA, List.all_cons, List.all_nil, Bool.and_self, Bool.and_true, Bool.true_and, cs_lit, cs_agg, cs_ptr, cs_iptr, cs_slice, cs_islice, cs_func, cs_iface, fillA, putL, setsE, eo_lit, eo_agg, eo_ptr, eo_iptr, eo_slice, eo_islice, eo_func, eo_iface, eo_byte, List.set_cons_zero, List.set_cons_succ, List.length_cons, List.length_nil, Nat.reduceBEq, Nat.reduceBNe, beq_self_eq_true, Bool.not_true, Bool.not_false, Nat.zero_add, Nat.reduceMul, List.map_nil, List.drop_succ_cons, List.drop_zero, List.take_succ_cons, List.take_zero, List.nil_append, List.cons_append, Int.toNat_natCast, sl_set, sl_get, sl_len, upd_app, valOf_lit, ite_t, ite_f, bi_real, bi_imag, bi_cplx, b_flss, b_fleq, b_fgtr, b_fgeq, b_feql, b_fneq, b_ceql, b_cneq, u_fneg, b_andnot, z0, t0, t1, c0, c1, c2, m0, m1, n1, f1, f2, f3, f4, f5, f6, f7, f8, f9, r1, r2, r3] <;> rfl) ?_
  exact ⟨_, _, by simp only [AVal.undef, sbn1, sbn2, aexec, aops, aop, Region.wanted, aeval, aput, aseq, ablock, ahint, absOf, flat, nilCheckA, ANext.ofP, evals, evalPs, evalO, aresults, aresults1, aresult, aend, Option.map_some, Option.bind_some, if_true, if_false, ↓reduceIte, Nat.reduceLT, Nat.reduceEqDiff, reduceCtorEq, Bool.false_eq_true, false_and, and_false, and_true, true_and, Nat.reduceAdd, Nat.reduceLeDiff, callA, List.getElem?_toArray, List.getElem?_cons_succ, List.getElem?_cons_zero, sb1, sb2, sb3, sb4, sliceU_i, sliceU_s, sliceU_p, sliceU_l, evalV, ayielded_eq, slotOf_eq, dstOf, yieldB, xo_move, xo_assign, xo_pick, xo_alloc, xo_box, xo_build, xo_bslice, xo_load, xo_store, xo_nn, xo_bin, xo_un, xo_conv, xo_mki, xo_mkf, xo_mks, xo_slice, xo_fa, xo_fv, xo_ia, xo_ix, xo_ext, xo_call, xo_panic, extractA, b_lss, b_leq, b_gtr, b_geq, b_eql, b_neq, b_add, b_sub, b_mul, b_and, b_or, b_xor, b_shl, b_shr, b_quo, b_rem, u_not, u_neg, wr_i64, wr_u64, wr_u32, wr_u8, wr_i32, wr_u16, wr_i16, wr_i8, dec_t, dec_f, ieq_t, ieq_f, ine_t, ine_f, blkOf_cells, heap_set_same, heap_set_ne, heap_new_same, heap_new_ne, ASt.set_ctr, ASt.new_ctr, set_set', ic_lit, ic_agg, ic_ptr, ic_iptr, ic_slice, ic_islice, ic_func, ic_iface, boxA, newA, List.all_cons, List.all_nil, Bool.and_self, Bool.and_true, Bool.true_and, cs_lit, cs_agg, cs_ptr, cs_iptr, cs_slice, cs_islice, cs_func, cs_iface, fillA, putL, setsE, eo_lit, eo_agg, eo_ptr, eo_iptr, eo_slice, eo_islice, eo_func, eo_iface, eo_byte, List.set_cons_zero, List.set_cons_succ, List.length_cons, List.length_nil, Nat.reduceBEq, Nat.reduceBNe, beq_self_eq_true, Bool.not_true, Bool.not_false, Nat.zero_add, Nat.reduceMul, List.map_nil, List.drop_succ_cons, List.drop_zero, List.take_succ_cons, List.take_zero, List.nil_append, List.cons_append, Int.toNat_natCast, sl_set, sl_get, sl_len, upd_app, valOf_lit, ite_t, ite_f, Tryd.f7] <;> rfl, rfl⟩

theorem brahma (x1 x2 y1 y2 : Int) : (x1 * y1 - x2 * y2) * (x1 * y1 - x2 * y2) + (x1 * y2 + x2 * y1) * (x1 * y2 + x2 * y1) = (x1 * x1 + x2 * x2) * (y1 * y1 + y2 * y2) - 0 * 0 := by grind

set_option maxHeartbeats 2000000 in
theorem norms_runs (b0 b1 : AVal) (d0 : DatV E.P 6 23 b0) (d1 : DatV E.P 6 23 b1) : ∃ n st', run E n 4 [b0, b1] st0 = some (.returned (.lit (.bool true)), st') := by
  suffices h : ∃ r st', rw E 4 [b0, b1] st0 = some (r, st') ∧ r = .returned (.lit (.bool true)) by
    obtain ⟨r, st', h1, rfl⟩ := h
    obtain ⟨n, hn⟩ := rw_out h1
    exact ⟨n, st', hn⟩
  obtain ⟨x1, x2, rfl, _, _⟩ := pair_of d0
  obtain ⟨y1, y2, rfl, _, _⟩ := pair_of d1
  obtain ⟨s1, c0, m0, m1, k1⟩ := awake2 (.cells [.lit (.int .i32 x1), .lit (.int .i32 x2)]) (.cells [.lit (.int .i32 y1), .lit (.int .i32 y2)])
  have hx1 := tmod_le x1 20 (by decide)
  have hx2 := tmod_le x2 20 (by decide)
  have hy1 := tmod_le y1 20 (by decide)
  have hy2 := tmod_le y2 20 (by decide)
  have e4 : ((20 : Nat) : Int) = 20 := rfl
  rw [e4] at hx1 hx2 hy1 hy2
  have h20 : (20 : Int) ≠ 0 := by decide
  generalize hX1 : x1.tmod 20 = a1 at *
  generalize hX2 : x2.tmod 20 = a2 at *
  generalize hY1 : y1.tmod 20 = b1 at *
  generalize hY2 : y2.tmod 20 = b2 at *
  have c1 := number_rw (a := a1) (b := a2) (by omega) (by omega) s1
  have c2 := number_rw (a := b1) (b := b2) (by omega) (by omega) s1
  have sx : Sm a1 a2 := ⟨by omega, by omega⟩
  have sy : Sm b1 b2 := ⟨by omega, by omega⟩
  have bd : ∀ (N : Nat) (p q u v : Int), N ≤ 400 → p.natAbs ≤ N → q.natAbs ≤ N → u.natAbs ≤ N → v.natAbs ≤ N → (p * u - q * v).natAbs ≤ 2 * (N * N) ∧ (p * v + q * u).natAbs ≤ 2 * (N * N) := fun N p q u v hN hp hq hu hv => by
    have h1 := mulb hp hu
    have h2 := mulb hq hv
    have h3 := mulb hp hv
    have h4 := mulb hq hu
    exact ⟨by omega, by omega⟩
  obtain ⟨p1, p2⟩ := bd 19 a1 a2 b1 b2 (by omega) (by omega) (by omega) (by omega) (by omega)
  have sp : Sm (a1 * b1 - a2 * b2) (a1 * b2 + a2 * b1) := ⟨by omega, by omega⟩
  have n1 := mulb p1 p1
  have n2 := mulb p2 p2
  have sn : Sm ((a1 * b1 - a2 * b2) * (a1 * b1 - a2 * b2) + (a1 * b2 + a2 * b1) * (a1 * b2 + a2 * b1)) 0 := ⟨by omega, by decide⟩
  have nb : ∀ u v : Int, u.natAbs ≤ 19 → v.natAbs ≤ 19 → (u * u + v * v).natAbs ≤ 722 := fun u v hu hv => by
    have h1 := mulb hu hu
    have h2 := mulb hv hv
    omega
  have nx := nb a1 a2 (by omega) (by omega)
  have ny := nb b1 b2 (by omega) (by omega)
  have sm' : Sm (a1 * a1 + a2 * a2) 0 := ⟨by omega, by decide⟩
  have sk : Sm (b1 * b1 + b2 * b2) 0 := ⟨by omega, by decide⟩
  have hmk := mulb nx ny
  have sq : Sm ((a1 * a1 + a2 * a2) * (b1 * b1 + b2 * b2) - 0 * 0) ((a1 * a1 + a2 * a2) * 0 + 0 * (b1 * b1 + b2 * b2)) := ⟨by omega, by rw [Int.mul_zero, Int.zero_mul]; decide⟩
  have sc : Sm a1 (-a2) := ⟨by omega, by omega⟩
  obtain ⟨r1, r2⟩ := bd 19 a1 a2 a1 (-a2) (by omega) (by omega) (by omega) (by omega) (by omega)
  have sr : Sm (a1 * a1 - a2 * -a2) (a1 * -a2 + a2 * a1) := ⟨by omega, by omega⟩
  have f1 := mul_rw sx sy sp s1
  have f2 := norm_rw sp sn s1
  have f3 := norm_rw sx sm' s1
  have f4 := norm_rw sy sk s1
  have f5 := mul_rw sm' sk sq s1
  have f6 := conj_rw sx s1
  have f7 := mul_rw sx sc sr s1
  have q1 := fun t xo yo => ceq_t sn sq (brahma a1 a2 b1 b2) (by rw [Int.mul_zero, Int.zero_mul]; rfl) t xo yo
  have q2 := fun t xo yo => ceq_t sr sm' (by rw [Int.mul_neg]; omega) (by rw [Int.mul_neg, Int.mul_comm a2 a1]; omega) t xo yo
  clear sp sn sm' sk sq sc sr n1 n2 nx ny hmk nb bd p1 p2 r1 r2 sx sy
  refine cx_4 fun g t0 t1 => C4_wp ?_
  refine aw_run 0 (by simp (maxSteps := 5000000) (disch := first | assumption | omega | (simp only [ASt.set_ctr, ASt.new_ctr] <;> omega)) only [and_self, aopsP, Stills, still_eq, stillO, stillD, forall_const, Option.isSome_some, eq_self, ex4_3, rq4_3_e.down, S4_0_e.down, cf_9, o_fap_23_0, o_fai_23_0, o_ldp_21, o_ldi_21, o_cv_21_2, o_fap_23_1, o_fai_23_1, cf_12, cf_13, cf_14, cf_15, AVal.undef, sbn1, sbn2, aexec, aops, aop, Region.wanted, aeval, aput, aseq, ablock, ahint, absOf, flat, nilCheckA, ANext.ofP, evals, evalPs, evalO, aresults, aresults1, aresult, aend, Option.map_some, Option.bind_some, if_true, if_false, ↓reduceIte, Nat.reduceLT, Nat.reduceEqDiff, reduceCtorEq, Bool.false_eq_true, false_and, and_false, and_true, true_and, Nat.reduceAdd, Nat.reduceLeDiff, callA, List.getElem?_toArray, List.getElem?_cons_succ, List.getElem?_cons_zero, sb1, sb2, sb3, sb4, sliceU_i, sliceU_s, sliceU_p, sliceU_l, evalV, ayielded_eq, slotOf_eq, dstOf, yieldB, xo_move, xo_assign, xo_pick, xo_alloc, xo_box, xo_build, xo_bslice, xo_load, xo_store, xo_nn, xo_bin, xo_un, xo_conv, xo_mki, xo_mkf, xo_mks, xo_slice, xo_fa, xo_fv, xo_ia, xo_ix, xo_ext, xo_call, xo_panic, extractA, b_lss, b_leq, b_gtr, b_geq, b_eql, b_neq, b_add, b_sub, b_mul, b_and, b_or, b_xor, b_shl, b_shr, b_quo, b_rem, u_not, u_neg, wr_i64, wr_u64, wr_u32, wr_u8, wr_i32, wr_u16, wr_i16, wr_i8, dec_t, dec_f, ieq_t, ieq_f, ine_t, ine_f, blkOf_cells, heap_set_same, heap_set_ne, heap_new_same, heap_new_ne, ASt.set_ctr, ASt.new_ctr, set_set', ic_lit, ic_agg, ic_ptr, ic_iptr, ic_slice, ic_islice, ic_func, ic_iface, boxA, newA, List.all_cons, List.all_nil, Bool.and_self, Bool.and_true, Bool.true_and, cs_lit, cs_agg, cs_ptr, cs_iptr, cs_slice, cs_islice, cs_func, cs_iface, fillA, putL, setsE, eo_lit, eo_agg, eo_ptr, eo_iptr, eo_slice, eo_islice, eo_func, eo_iface, eo_byte, List.set_cons_zero, List.set_cons_succ, List.length_cons, List.length_nil, Nat.reduceBEq, Nat.reduceBNe, beq_self_eq_true, Bool.not_true, Bool.not_false, Nat.zero_add, Nat.reduceMul, List.map_nil, List.drop_succ_cons, List.drop_zero, List.take_succ_cons, List.take_zero, List.nil_append, List.cons_append, Int.toNat_natCast, sl_set, sl_get, sl_len, upd_app, valOf_lit, ite_t, ite_f, bi_real, bi_imag, bi_cplx, b_flss, b_fleq, b_fgtr, b_fgeq, b_feql, b_fneq, b_ceql, b_cneq, u_fneg, b_andnot, z0, t0, t1, c0, c1, c2, m0, m1, hX1, hX2, hY1, hY2, f1, f2, f3, f4, f5, f6, f7, q1, q2] <;> rfl) ?_
  exact ⟨_, _, by simp only [AVal.undef, sbn1, sbn2, aexec, aops, aop, Region.wanted, aeval, aput, aseq, ablock, ahint, absOf, flat, nilCheckA, ANext.ofP, evals, evalPs, evalO, aresults, aresults1, aresult, aend, Option.map_some, Option.bind_some, if_true, if_false, ↓reduceIte, Nat.reduceLT, Nat.reduceEqDiff, reduceCtorEq, Bool.false_eq_true, false_and, and_false, and_true, true_and, Nat.reduceAdd, Nat.reduceLeDiff, callA, List.getElem?_toArray, List.getElem?_cons_succ, List.getElem?_cons_zero, sb1, sb2, sb3, sb4, sliceU_i, sliceU_s, sliceU_p, sliceU_l, evalV, ayielded_eq, slotOf_eq, dstOf, yieldB, xo_move, xo_assign, xo_pick, xo_alloc, xo_box, xo_build, xo_bslice, xo_load, xo_store, xo_nn, xo_bin, xo_un, xo_conv, xo_mki, xo_mkf, xo_mks, xo_slice, xo_fa, xo_fv, xo_ia, xo_ix, xo_ext, xo_call, xo_panic, extractA, b_lss, b_leq, b_gtr, b_geq, b_eql, b_neq, b_add, b_sub, b_mul, b_and, b_or, b_xor, b_shl, b_shr, b_quo, b_rem, u_not, u_neg, wr_i64, wr_u64, wr_u32, wr_u8, wr_i32, wr_u16, wr_i16, wr_i8, dec_t, dec_f, ieq_t, ieq_f, ine_t, ine_f, blkOf_cells, heap_set_same, heap_set_ne, heap_new_same, heap_new_ne, ASt.set_ctr, ASt.new_ctr, set_set', ic_lit, ic_agg, ic_ptr, ic_iptr, ic_slice, ic_islice, ic_func, ic_iface, boxA, newA, List.all_cons, List.all_nil, Bool.and_self, Bool.and_true, Bool.true_and, cs_lit, cs_agg, cs_ptr, cs_iptr, cs_slice, cs_islice, cs_func, cs_iface, fillA, putL, setsE, eo_lit, eo_agg, eo_ptr, eo_iptr, eo_slice, eo_islice, eo_func, eo_iface, eo_byte, List.set_cons_zero, List.set_cons_succ, List.length_cons, List.length_nil, Nat.reduceBEq, Nat.reduceBNe, beq_self_eq_true, Bool.not_true, Bool.not_false, Nat.zero_add, Nat.reduceMul, List.map_nil, List.drop_succ_cons, List.drop_zero, List.take_succ_cons, List.take_zero, List.nil_append, List.cons_append, Int.toNat_natCast, sl_set, sl_get, sl_len, upd_app, valOf_lit, ite_t, ite_f, Tryd.f4] <;> rfl, rfl⟩
end Go.Proofs.YtingncadiolajaaDoorV
