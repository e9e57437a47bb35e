/- xorshift.Next, breakPatterns of marks, walked. No condition. -/
import Derived.Test.YtcaokdlmolnbaaaQ8
namespace Go.Proofs.YtcaokdlmolnbaaaV
open Go Go.RowKit Go.Proofs.YtcaokdlmolnbaaaA
set_option linter.unusedVariables false
set_option linter.unusedSimpArgs false
set_option maxRecDepth 100000

theorem next_rw {w : Nat} {x : Int} {st : ASt} (h : st.heap w = some (.cells [.lit (.int .u64 x)])) :
    ∃ r st', rw E 52 [.ptr w 0] st = some (r, st') ∧ ∃ z : Int, r = .returned (.lit (.int .u64 z)) ∧ st'.ctr = st.ctr ∧ st'.heap w = some (.cells [.lit (.int .u64 z)]) ∧ ∀ j, j ≠ w → st'.heap j = st.heap j := by
  have l0 := ldX h
  have s0 := fun z => stX h z
  have ls : ∀ (st : ASt) v, loadA E.P 86 (st.set w (some (.cells [v]))) (.ptr w 0) = some v := fun st v => ldX (ASt.set_same _ _ _)
  have ss : ∀ (st : ASt) v z, storeA E.P 86 (st.set w (some (.cells [v]))) (.ptr w 0) (.lit (.int .u64 z)) = some ((st.set w (some (.cells [v]))).set w (some (.cells [.lit (.int .u64 z)]))) := fun st v z => stX (ASt.set_same _ _ _) z
  refine cx_52 fun g t0 => C52_wp ?_
  refine aw_run 0 (by simp (maxSteps := 5000000) (disch := first | assumption | omega | (simp only [ASt.set_ctr, ASt.new_ctr] <;> omega)) only [ex52_1, rq52_1_e.down, ex52_2, rq52_2_e.down, ex52_3, rq52_3_e.down, S52_0_e.down, o_ldp_86, o_ldi_86, o_st_86, AVal.undef, sbn1, sbn2, aexec, aops, aop, Region.wanted, aeval, aput, aseq, ablock, ahint, absOf, flat, nilCheckA, ANext.ofP, evals, evalPs, evalO, aresults, aresults1, aresult, aend, Option.map_some, Option.bind_some, if_true, if_false, ↓reduceIte, Nat.reduceLT, Nat.reduceEqDiff, reduceCtorEq, Bool.false_eq_true, false_and, and_false, and_true, true_and, Nat.reduceAdd, Nat.reduceLeDiff, callA, List.getElem?_toArray, List.getElem?_cons_succ, List.getElem?_cons_zero, sb1, sb2, sb3, sb4, sliceU_i, sliceU_s, sliceU_p, sliceU_l, evalV, ayielded_eq, slotOf_eq, dstOf, yieldB, xo_move, xo_assign, xo_pick, xo_alloc, xo_box, xo_build, xo_bslice, xo_load, xo_store, xo_nn, xo_bin, xo_un, xo_conv, xo_mki, xo_mkf, xo_mks, xo_slice, xo_fa, xo_fv, xo_ia, xo_ix, xo_ext, xo_call, xo_panic, extractA, b_lss, b_leq, b_gtr, b_geq, b_eql, b_neq, b_add, b_sub, b_mul, b_and, b_or, b_xor, b_shl, b_shr, b_quo, b_rem, u_not, u_neg, wr_i64, wr_u64, wr_u32, wr_u8, wr_i32, wr_u16, wr_i16, wr_i8, dec_t, dec_f, ieq_t, ieq_f, ine_t, ine_f, blkOf_cells, heap_set_same, heap_set_ne, heap_new_same, heap_new_ne, ASt.set_ctr, ASt.new_ctr, set_set', ic_lit, ic_agg, ic_ptr, ic_iptr, ic_slice, ic_islice, ic_func, ic_iface, boxA, newA, List.all_cons, List.all_nil, Bool.and_self, Bool.and_true, Bool.true_and, cs_lit, cs_agg, cs_ptr, cs_iptr, cs_slice, cs_islice, cs_func, cs_iface, fillA, putL, setsE, eo_lit, eo_agg, eo_ptr, eo_iptr, eo_slice, eo_islice, eo_func, eo_iface, eo_byte, List.set_cons_zero, List.set_cons_succ, List.length_cons, List.length_nil, Nat.reduceBEq, Nat.reduceBNe, beq_self_eq_true, Bool.not_true, Bool.not_false, Nat.zero_add, Nat.reduceMul, List.map_nil, List.drop_succ_cons, List.drop_zero, List.take_succ_cons, List.take_zero, List.nil_append, List.cons_append, Int.toNat_natCast, sl_set, sl_get, sl_len, upd_app, valOf_lit, ite_t, ite_f, t0, l0, s0, ls, ss] <;> rfl) ?_
  refine ⟨_, _, by simp only [AVal.undef, sbn1, sbn2, aexec, aops, aop, Region.wanted, aeval, aput, aseq, ablock, ahint, absOf, flat, nilCheckA, ANext.ofP, evals, evalPs, evalO, aresults, aresults1, aresult, aend, Option.map_some, Option.bind_some, if_true, if_false, ↓reduceIte, Nat.reduceLT, Nat.reduceEqDiff, reduceCtorEq, Bool.false_eq_true, false_and, and_false, and_true, true_and, Nat.reduceAdd, Nat.reduceLeDiff, callA, List.getElem?_toArray, List.getElem?_cons_succ, List.getElem?_cons_zero, sb1, sb2, sb3, sb4, sliceU_i, sliceU_s, sliceU_p, sliceU_l, evalV, ayielded_eq, slotOf_eq, dstOf, yieldB, xo_move, xo_assign, xo_pick, xo_alloc, xo_box, xo_build, xo_bslice, xo_load, xo_store, xo_nn, xo_bin, xo_un, xo_conv, xo_mki, xo_mkf, xo_mks, xo_slice, xo_fa, xo_fv, xo_ia, xo_ix, xo_ext, xo_call, xo_panic, extractA, b_lss, b_leq, b_gtr, b_geq, b_eql, b_neq, b_add, b_sub, b_mul, b_and, b_or, b_xor, b_shl, b_shr, b_quo, b_rem, u_not, u_neg, wr_i64, wr_u64, wr_u32, wr_u8, wr_i32, wr_u16, wr_i16, wr_i8, dec_t, dec_f, ieq_t, ieq_f, ine_t, ine_f, blkOf_cells, heap_set_same, heap_set_ne, heap_new_same, heap_new_ne, ASt.set_ctr, ASt.new_ctr, set_set', ic_lit, ic_agg, ic_ptr, ic_iptr, ic_slice, ic_islice, ic_func, ic_iface, boxA, newA, List.all_cons, List.all_nil, Bool.and_self, Bool.and_true, Bool.true_and, cs_lit, cs_agg, cs_ptr, cs_iptr, cs_slice, cs_islice, cs_func, cs_iface, fillA, putL, setsE, eo_lit, eo_agg, eo_ptr, eo_iptr, eo_slice, eo_islice, eo_func, eo_iface, eo_byte, List.set_cons_zero, List.set_cons_succ, List.length_cons, List.length_nil, Nat.reduceBEq, Nat.reduceBNe, beq_self_eq_true, Bool.not_true, Bool.not_false, Nat.zero_add, Nat.reduceMul, List.map_nil, List.drop_succ_cons, List.drop_zero, List.take_succ_cons, List.take_zero, List.nil_append, List.cons_append, Int.toNat_natCast, sl_set, sl_get, sl_len, upd_app, valOf_lit, ite_t, ite_f, Try.f52] <;> rfl, ?_⟩
  exact ⟨_, rfl, rfl, ASt.set_same _ _ _, fun j hj => by repeat rw [ASt.set_ne _ _ _ _ hj]⟩
/-- what the two bits' sets have in common is below a power of two -/
theorem and_below (z : Int) (m : Nat) (hm : m ≤ 7) : ∃ y : Nat, y < 2 ^ m ∧ IntKind.u64.wrap (BitVec.ofInt (IntKind.bits .u64) z &&& BitVec.ofInt (IntKind.bits .u64) (((2 ^ m : Nat) : Int) - 1)).toNat = (y : Int) := by
  have hb : IntKind.bits .u64 = 64 := rfl
  rw [hb]
  have h1 : ((2 ^ m : Nat) : Int) - 1 = ((2 ^ m - 1 : Nat) : Int) := by have := Nat.two_pow_pos m; omega
  have h64 : 2 ^ m ≤ 2 ^ 7 := Nat.pow_le_pow_right (by omega) hm
  refine ⟨(BitVec.ofInt 64 z &&& BitVec.ofInt 64 (((2 ^ m : Nat) : Int) - 1)).toNat, ?_, ?_⟩
  · rw [h1, BitVec.ofInt_natCast, BitVec.toNat_and, BitVec.toNat_ofNat, Nat.mod_eq_of_lt (by omega)]
    have := @Nat.and_le_right (BitVec.ofInt 64 z).toNat (2 ^ m - 1)
    have := Nat.two_pow_pos m
    omega
  · have := (BitVec.ofInt 64 z &&& BitVec.ofInt 64 (((2 ^ m : Nat) : Int) - 1)).isLt
    exact wr_u64 (by omega) (by omega)
theorem alX (st : ASt) : allocA E.P 86 st = some (.ptr st.ctr 0, st.new (.cells [.lit (.int .u64 0)])) := rfl
/-- the row, and a cell of bits of its own -/
structure Rx (s w : Nat) (base st : ASt) (ms : List Mk) : Prop where
  r : Rw s base st ms
  ge : base.ctr ≤ w
  lt : w < st.ctr
  at' : ∃ z : Int, st.heap w = some (.cells [.lit (.int .u64 z)])
theorem Rx.put {s w : Nat} {base st : ASt} {ms : List Mk} (h : Rx s w base st ms) (ms' : List Mk) : Rx s w base (putM st s ms') ms' :=
  ⟨h.r.put _, h.ge, h.lt, by obtain ⟨z, hz⟩ := h.at'; exact ⟨z, by rw [putM_ne _ _ _ _ (by have := h.r.lt; have := h.ge; omega)]; exact hz⟩⟩
end Go.Proofs.YtcaokdlmolnbaaaV
