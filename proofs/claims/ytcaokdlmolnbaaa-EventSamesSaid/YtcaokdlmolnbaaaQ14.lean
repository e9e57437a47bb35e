/- partialInsertionSort of marks: the shift to the left, walked. No condition. -/
import Derived.Test.YtcaokdlmolnbaaaQ13
namespace Go.Proofs.YtcaokdlmolnbaaaV
open Go Go.RowKit Go.Proofs.YtcaokdlmolnbaaaA
set_option linter.unusedVariables false
set_option linter.unusedSimpArgs false
set_option maxRecDepth 100000

/-- all ahead of a is below all from a to b -/
def Ab (a b : Nat) (l : List Mk) : Prop := ∀ p q, p < a → a ≤ q → q < b → ky l p < ky l q
theorem Ab.mv {a b : Nat} {l l' : List Mk} (h : Ab a b l) (hM : Mv a b l l') : Ab a b l' := fun p q h1 h2 h3 => by
  obtain ⟨q', k1, k2, k3⟩ := hM.ky ⟨h2, h3⟩
  rw [k3, hM.kys (.inl h1)]
  exact h p q' h1 k1 k2
section
variable {s n a b t : Nat} {base : ASt} {ms0 : List Mk} {v9 v10 : AVal} {Q : APost}
theorem pi_left (hn : n ≤ 100000) (hm0 : ms0.length = n) (ht : t < b) (hb : b ≤ n) (hA0 : Ab a b ms0)
    (hQ : ∀ f st ms, f 0 = rowM s n → f 1 = .lit (.int .i64 (a : Int)) → f 2 = .lit (.int .i64 (b : Int)) → f 3 = byF → f 9 = v9 → f 10 = v10 → Rw s base st ms → Mv a b ms0 ms → So a (t + 1) ms → (∀ q, t < q → ky ms q = ky ms0 q) → Q .normal (Sl 141 f) st)
    {f : Nat → AVal} {st : ASt} {ms : List Mk} (h0 : f 0 = rowM s n) (h1 : f 1 = .lit (.int .i64 (a : Int))) (h2 : f 2 = .lit (.int .i64 (b : Int))) (h3 : f 3 = byF) (h9 : f 9 = v9) (h10 : f 10 = v10) (h11 : f 11 = .lit (.int .i64 (t : Int))) (hat : a ≤ t)
    (hR : Rw s base st ms) (hM : Mv a b ms0 ms) (hA : Al a t t ms) (hT : ∀ q, t < q → ky ms q = ky ms0 q) :
    Wp E 45 (.block 4 (.loop L45_4)) (Sl 141 f) st Q := by
  refine aw_forS (fun k f st => ∃ ms, a ≤ k ∧ k ≤ t ∧ f 0 = rowM s n ∧ f 1 = .lit (.int .i64 (a : Int)) ∧ f 2 = .lit (.int .i64 (b : Int)) ∧ f 3 = byF ∧ f 9 = v9 ∧ f 10 = v10 ∧ f 11 = .lit (.int .i64 (k : Int)) ∧ Rw s base st ms ∧ Mv a b ms0 ms ∧ Al a t k ms ∧ ∀ q, t < q → ky ms q = ky ms0 q)
    (fun k f st hI => L45_4_wp ?_) t f st ⟨ms, hat, Nat.le_refl _, h0, h1, h2, h3, h9, h10, h11, hR, hM, hA, hT⟩
  obtain ⟨ms, hak, hkt, h0, h1, h2, h3, h9, h10, h11, hR, hM, hA, hT⟩ := hI
  have hl : ms.length = n := by rw [hM.len, hm0]
  by_cases hk0 : 1 ≤ k
  · obtain ⟨i, rfl⟩ : ∃ i, k = i + 1 := ⟨k - 1, by omega⟩
    have hi1 : i + 1 < ms.length := by omega
    have hi0 : i < ms.length := by omega
    have hsub : ((i + 1 : Nat) : Int) - 1 = (i : Int) := by omega
    have x1 := idxM (s := s) (n := n) (i := i + 1) (by omega)
    have x0 := idxM (s := s) (n := n) (i := i) (by omega)
    have l1 := ldM hR.row hi1
    have l0 := ldM hR.row hi0
    by_cases hk : ky ms (i + 1) < ky ms i
    · have hak' : a ≤ i := by
        apply Classical.byContradiction
        intro hc
        have := (hA0.mv hM) i (i + 1) (by omega) (by omega) (by omega)
        omega
      have hk' : ms[i + 1].ob < ms[i].ob := by rw [← ky_at hi1, ← ky_at hi0]; exact hk
      have c1 := by_lt hk' st
      have hR' := hR.gr (two_gr st ms[i + 1] ms[i])
      have l1' := ldM hR'.row hi1
      have l0' := ldM hR'.row hi0
      have s1 := stM hR'.row hi1 ms[i]
      have s2 := stM (putM_at (two st ms[i + 1] ms[i]) s (ms.set (i + 1) ms[i])) (i := i) (by simpa using hi0) ms[i + 1]
      refine aw_run 0 (by simp (maxSteps := 5000000) (disch := first | assumption | omega | (simp only [ASt.set_ctr, ASt.new_ctr] <;> omega)) only [S45_0_e.down, S45_1_e.down, ex45_5, rq45_5_e.down, S45_2_e.down, and_self, aopsP, Stills, still_eq, stillO, stillD, forall_const, Option.isSome_some, eq_self, ex45_11, rq45_11_e.down, S45_3_e.down, S45_4_e.down, ex45_16, rq45_16_e.down, ex45_17, rq45_17_e.down, S45_5_e.down, S45_6_e.down, S45_7_e.down, S45_8_e.down, ex45_22, rq45_22_e.down, ex45_23, rq45_23_e.down, S45_9_e.down, S45_10_e.down, S45_11_e.down, S45_12_e.down, o_ixi_29, o_ixs_29, o_ldp_40, o_ldi_40, o_st_40, AVal.undef, sbn1, sbn2, aexec, aops, aop, Region.wanted, aeval, aput, aseq, ablock, ahint, absOf, flat, nilCheckA, ANext.ofP, evals, evalPs, evalO, aresults, aresults1, aresult, aend, Option.map_some, Option.bind_some, if_true, if_false, ↓reduceIte, Nat.reduceLT, Nat.reduceEqDiff, reduceCtorEq, Bool.false_eq_true, false_and, and_false, and_true, true_and, Nat.reduceAdd, Nat.reduceLeDiff, callA, List.getElem?_toArray, List.getElem?_cons_succ, List.getElem?_cons_zero, sb1, sb2, sb3, sb4, sliceU_i, sliceU_s, sliceU_p, sliceU_l, evalV, ayielded_eq, slotOf_eq, dstOf, yieldB, xo_move, xo_assign, xo_pick, xo_alloc, xo_box, xo_build, xo_bslice, xo_load, xo_store, xo_nn, xo_bin, xo_un, xo_conv, xo_mki, xo_mkf, xo_mks, xo_slice, xo_fa, xo_fv, xo_ia, xo_ix, xo_ext, xo_call, xo_panic, extractA, b_lss, b_leq, b_gtr, b_geq, b_eql, b_neq, b_add, b_sub, b_mul, b_and, b_or, b_xor, b_shl, b_shr, b_quo, b_rem, u_not, u_neg, wr_i64, wr_u64, wr_u32, wr_u8, wr_i32, wr_u16, wr_i16, wr_i8, dec_t, dec_f, ieq_t, ieq_f, ine_t, ine_f, blkOf_cells, heap_set_same, heap_set_ne, heap_new_same, heap_new_ne, ASt.set_ctr, ASt.new_ctr, set_set', ic_lit, ic_agg, ic_ptr, ic_iptr, ic_slice, ic_islice, ic_func, ic_iface, boxA, newA, List.all_cons, List.all_nil, Bool.and_self, Bool.and_true, Bool.true_and, cs_lit, cs_agg, cs_ptr, cs_iptr, cs_slice, cs_islice, cs_func, cs_iface, fillA, putL, setsE, eo_lit, eo_agg, eo_ptr, eo_iptr, eo_slice, eo_islice, eo_func, eo_iface, eo_byte, List.set_cons_zero, List.set_cons_succ, List.length_cons, List.length_nil, Nat.reduceBEq, Nat.reduceBNe, beq_self_eq_true, Bool.not_true, Bool.not_false, Nat.zero_add, Nat.reduceMul, List.map_nil, List.drop_succ_cons, List.drop_zero, List.take_succ_cons, List.take_zero, List.nil_append, List.cons_append, Int.toNat_natCast, sl_set, sl_get, sl_len, upd_app, valOf_lit, ite_t, ite_f, h0, h1, h2, h3, h9, h10, h11, byF, cf_by, hsub, x1, x0, l1, l0, c1, l1', l0', s1, s2] <;> rfl) ?_
      refine ⟨_, rfl, i, by omega, swp ms (i + 1) i hi1 hi0, by omega, by omega, h0, h1, h2, h3, h9, h10, rfl, (hR'.put _).put _, hM.trans (Mv.swap ⟨by omega, by omega⟩ ⟨by omega, by omega⟩ hi1 hi0), al_step hA (by omega) (by omega) (by omega) hk, fun q hq => ?_⟩
      rw [ky_swp, if_neg (by omega), if_neg (by omega)]; exact hT q hq
    · have hk' : ¬ ms[i + 1].ob < ms[i].ob := by rw [← ky_at hi1, ← ky_at hi0]; exact hk
      obtain ⟨v, hv, c1⟩ := by_ge hk' st
      refine aw_run 0 (by simp (maxSteps := 5000000) (disch := first | assumption | omega | (simp only [ASt.set_ctr, ASt.new_ctr] <;> omega)) only [S45_0_e.down, S45_1_e.down, ex45_5, rq45_5_e.down, S45_2_e.down, and_self, aopsP, Stills, still_eq, stillO, stillD, forall_const, Option.isSome_some, eq_self, ex45_11, rq45_11_e.down, S45_3_e.down, S45_4_e.down, ex45_16, rq45_16_e.down, ex45_17, rq45_17_e.down, S45_5_e.down, S45_6_e.down, S45_7_e.down, S45_8_e.down, ex45_22, rq45_22_e.down, ex45_23, rq45_23_e.down, S45_9_e.down, S45_10_e.down, S45_11_e.down, S45_12_e.down, o_ixi_29, o_ixs_29, o_ldp_40, o_ldi_40, o_st_40, AVal.undef, sbn1, sbn2, aexec, aops, aop, Region.wanted, aeval, aput, aseq, ablock, ahint, absOf, flat, nilCheckA, ANext.ofP, evals, evalPs, evalO, aresults, aresults1, aresult, aend, Option.map_some, Option.bind_some, if_true, if_false, ↓reduceIte, Nat.reduceLT, Nat.reduceEqDiff, reduceCtorEq, Bool.false_eq_true, false_and, and_false, and_true, true_and, Nat.reduceAdd, Nat.reduceLeDiff, callA, List.getElem?_toArray, List.getElem?_cons_succ, List.getElem?_cons_zero, sb1, sb2, sb3, sb4, sliceU_i, sliceU_s, sliceU_p, sliceU_l, evalV, ayielded_eq, slotOf_eq, dstOf, yieldB, xo_move, xo_assign, xo_pick, xo_alloc, xo_box, xo_build, xo_bslice, xo_load, xo_store, xo_nn, xo_bin, xo_un, xo_conv, xo_mki, xo_mkf, xo_mks, xo_slice, xo_fa, xo_fv, xo_ia, xo_ix, xo_ext, xo_call, xo_panic, extractA, b_lss, b_leq, b_gtr, b_geq, b_eql, b_neq, b_add, b_sub, b_mul, b_and, b_or, b_xor, b_shl, b_shr, b_quo, b_rem, u_not, u_neg, wr_i64, wr_u64, wr_u32, wr_u8, wr_i32, wr_u16, wr_i16, wr_i8, dec_t, dec_f, ieq_t, ieq_f, ine_t, ine_f, blkOf_cells, heap_set_same, heap_set_ne, heap_new_same, heap_new_ne, ASt.set_ctr, ASt.new_ctr, set_set', ic_lit, ic_agg, ic_ptr, ic_iptr, ic_slice, ic_islice, ic_func, ic_iface, boxA, newA, List.all_cons, List.all_nil, Bool.and_self, Bool.and_true, Bool.true_and, cs_lit, cs_agg, cs_ptr, cs_iptr, cs_slice, cs_islice, cs_func, cs_iface, fillA, putL, setsE, eo_lit, eo_agg, eo_ptr, eo_iptr, eo_slice, eo_islice, eo_func, eo_iface, eo_byte, List.set_cons_zero, List.set_cons_succ, List.length_cons, List.length_nil, Nat.reduceBEq, Nat.reduceBNe, beq_self_eq_true, Bool.not_true, Bool.not_false, Nat.zero_add, Nat.reduceMul, List.map_nil, List.drop_succ_cons, List.drop_zero, List.take_succ_cons, List.take_zero, List.nil_append, List.cons_append, Int.toNat_natCast, sl_set, sl_get, sl_len, upd_app, valOf_lit, ite_t, ite_f, h0, h1, h2, h3, h9, h10, h11, byF, cf_by, hsub, x1, x0, l1, l0, c1] <;> rfl) ?_
      exact hQ _ _ ms h0 h1 h2 h3 h9 h10 (hR.gr (two_gr _ _ _)) hM (al_done hA (by omega) (fun _ => by rw [Nat.add_sub_cancel]; omega)) hT
  · obtain rfl : k = 0 := by omega
    refine aw_run 0 (by simp (maxSteps := 5000000) (disch := first | assumption | omega | (simp only [ASt.set_ctr, ASt.new_ctr] <;> omega)) only [S45_0_e.down, S45_1_e.down, ex45_5, rq45_5_e.down, S45_2_e.down, and_self, aopsP, Stills, still_eq, stillO, stillD, forall_const, Option.isSome_some, eq_self, ex45_11, rq45_11_e.down, S45_3_e.down, S45_4_e.down, ex45_16, rq45_16_e.down, ex45_17, rq45_17_e.down, S45_5_e.down, S45_6_e.down, S45_7_e.down, S45_8_e.down, ex45_22, rq45_22_e.down, ex45_23, rq45_23_e.down, S45_9_e.down, S45_10_e.down, S45_11_e.down, S45_12_e.down, o_ixi_29, o_ixs_29, o_ldp_40, o_ldi_40, o_st_40, AVal.undef, sbn1, sbn2, aexec, aops, aop, Region.wanted, aeval, aput, aseq, ablock, ahint, absOf, flat, nilCheckA, ANext.ofP, evals, evalPs, evalO, aresults, aresults1, aresult, aend, Option.map_some, Option.bind_some, if_true, if_false, ↓reduceIte, Nat.reduceLT, Nat.reduceEqDiff, reduceCtorEq, Bool.false_eq_true, false_and, and_false, and_true, true_and, Nat.reduceAdd, Nat.reduceLeDiff, callA, List.getElem?_toArray, List.getElem?_cons_succ, List.getElem?_cons_zero, sb1, sb2, sb3, sb4, sliceU_i, sliceU_s, sliceU_p, sliceU_l, evalV, ayielded_eq, slotOf_eq, dstOf, yieldB, xo_move, xo_assign, xo_pick, xo_alloc, xo_box, xo_build, xo_bslice, xo_load, xo_store, xo_nn, xo_bin, xo_un, xo_conv, xo_mki, xo_mkf, xo_mks, xo_slice, xo_fa, xo_fv, xo_ia, xo_ix, xo_ext, xo_call, xo_panic, extractA, b_lss, b_leq, b_gtr, b_geq, b_eql, b_neq, b_add, b_sub, b_mul, b_and, b_or, b_xor, b_shl, b_shr, b_quo, b_rem, u_not, u_neg, wr_i64, wr_u64, wr_u32, wr_u8, wr_i32, wr_u16, wr_i16, wr_i8, dec_t, dec_f, ieq_t, ieq_f, ine_t, ine_f, blkOf_cells, heap_set_same, heap_set_ne, heap_new_same, heap_new_ne, ASt.set_ctr, ASt.new_ctr, set_set', ic_lit, ic_agg, ic_ptr, ic_iptr, ic_slice, ic_islice, ic_func, ic_iface, boxA, newA, List.all_cons, List.all_nil, Bool.and_self, Bool.and_true, Bool.true_and, cs_lit, cs_agg, cs_ptr, cs_iptr, cs_slice, cs_islice, cs_func, cs_iface, fillA, putL, setsE, eo_lit, eo_agg, eo_ptr, eo_iptr, eo_slice, eo_islice, eo_func, eo_iface, eo_byte, List.set_cons_zero, List.set_cons_succ, List.length_cons, List.length_nil, Nat.reduceBEq, Nat.reduceBNe, beq_self_eq_true, Bool.not_true, Bool.not_false, Nat.zero_add, Nat.reduceMul, List.map_nil, List.drop_succ_cons, List.drop_zero, List.take_succ_cons, List.take_zero, List.nil_append, List.cons_append, Int.toNat_natCast, sl_set, sl_get, sl_len, upd_app, valOf_lit, ite_t, ite_f, h0, h1, h2, h3, h9, h10, h11] <;> rfl) ?_
    exact hQ _ _ ms h0 h1 h2 h3 h9 h10 hR hM (al_done hA (by omega) (fun h => absurd h (by omega))) hT
end
end Go.Proofs.YtcaokdlmolnbaaaV
