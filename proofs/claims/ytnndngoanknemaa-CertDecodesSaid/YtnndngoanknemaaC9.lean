/- slices.Clone of bytes, law18's sealed, walked. No condition. -/
import Derived.Test.YtnndngoanknemaaC8
namespace Go.Proofs.YtnndngoanknemaaV
open Go Go.RowKit Go.Proofs.YtnndngoanknemaaA
set_option linter.unusedVariables false
set_option linter.unusedSimpArgs false
set_option maxRecDepth 100000

theorem clone_rw {x : AVal} {l : List UInt8} {st : ASt} (hx : BS st x l) (hl : l.length ≤ 1000000) :
    ∃ r st', rw E 17 [x] st = some (r, st') ∧ ∃ v, r = .returned v ∧ ((l ≠ [] ∧ v = .slice st.ctr 0 l.length 1 none ∧ st' = st.new (.cells (l.map byteA))) ∨ (l = [] ∧ st' = st ∧ (v = .nilSlice ∨ v = .islice 1 [] .exact))) := by
  obtain ⟨v, st', ha, _, _, hn⟩ := clone_b (src_bs hx) hl
  have e1 : ∀ xo yo : Operand, x ≠ .nilSlice → binA E.P .eql 28 xo yo x (.lit (.slice none 0 0)) = some (.lit (.bool false)) := by
    intro xo yo hne
    rcases hx with (⟨c, rfl⟩ | ⟨a, rfl, rfl⟩) | ⟨s, off, cap, cs, rfl, _⟩
    · rfl
    · cases a with
      | none => exact absurd rfl hne
      | some a => rfl
    · rfl
  by_cases hne : x = .nilSlice
  · subst hne
    have hl0 : l = [] := by
      rcases hx with (⟨c, h⟩ | ⟨a, h, rfl⟩) | ⟨s, off, cap, cs, h, _⟩
      · cases h
      · rfl
      · cases h
    have e0 : ∀ xo yo : Operand, binA E.P .eql 28 xo yo (.lit (.slice none 0 0)) (.lit (.slice none 0 0)) = some (.lit (.bool true)) := fun _ _ => rfl
    refine cx_17 fun g t0 => C17_wp ?_
    rw [AVal.nilSlice] at t0
    refine aw_run 0 (by simp (maxSteps := 5000000) (disch := first | assumption | omega | (simp only [ASt.set_ctr, ASt.new_ctr] <;> omega)) only [S17_0_e.down, hint_17_5, o_bs_28_0, hint_17_7, bi_app, AVal.undef, sbn1, sbn2, aexec, aops, aop, Region.wanted, aeval, aput, aseq, ablock, ahint, absOf, flat, nilCheckA, ANext.ofP, evals, evalPs, evalO, aresults, aresults1, aresult, aend, Option.map_some, Option.bind_some, if_true, if_false, ↓reduceIte, Nat.reduceLT, Nat.reduceEqDiff, reduceCtorEq, Bool.false_eq_true, false_and, and_false, and_true, true_and, Nat.reduceAdd, Nat.reduceLeDiff, callA, List.getElem?_toArray, List.getElem?_cons_succ, List.getElem?_cons_zero, sb1, sb2, sb3, sb4, sliceU_i, sliceU_s, sliceU_p, sliceU_l, evalV, ayielded_eq, slotOf_eq, dstOf, yieldB, xo_move, xo_assign, xo_pick, xo_alloc, xo_box, xo_build, xo_bslice, xo_load, xo_store, xo_nn, xo_bin, xo_un, xo_conv, xo_mki, xo_mkf, xo_mks, xo_slice, xo_fa, xo_fv, xo_ia, xo_ix, xo_ext, xo_call, xo_panic, extractA, b_lss, b_leq, b_gtr, b_geq, b_eql, b_neq, b_add, b_sub, b_mul, b_and, b_or, b_xor, b_shl, b_shr, b_quo, b_rem, u_not, u_neg, wr_i64, wr_u64, wr_u32, wr_u8, wr_i32, wr_u16, wr_i16, wr_i8, dec_t, dec_f, ieq_t, ieq_f, ine_t, ine_f, blkOf_cells, heap_set_same, heap_set_ne, heap_new_same, heap_new_ne, ASt.set_ctr, ASt.new_ctr, set_set', ic_lit, ic_agg, ic_ptr, ic_iptr, ic_slice, ic_islice, ic_func, ic_iface, boxA, newA, List.all_cons, List.all_nil, Bool.and_self, Bool.and_true, Bool.true_and, cs_lit, cs_agg, cs_ptr, cs_iptr, cs_slice, cs_islice, cs_func, cs_iface, fillA, putL, setsE, eo_lit, eo_agg, eo_ptr, eo_iptr, eo_slice, eo_islice, eo_func, eo_iface, eo_byte, List.set_cons_zero, List.set_cons_succ, List.length_cons, List.length_nil, Nat.reduceBEq, Nat.reduceBNe, beq_self_eq_true, Bool.not_true, Bool.not_false, Nat.zero_add, Nat.reduceMul, List.map_nil, List.drop_succ_cons, List.drop_zero, List.take_succ_cons, List.take_zero, List.nil_append, List.cons_append, Int.toNat_natCast, sl_set, sl_get, sl_len, upd_app, valOf_lit, t0, e0] <;> rfl) ?_
    exact ⟨_, _, by simp only [AVal.undef, sbn1, sbn2, aexec, aops, aop, Region.wanted, aeval, aput, aseq, ablock, ahint, absOf, flat, nilCheckA, ANext.ofP, evals, evalPs, evalO, aresults, aresults1, aresult, aend, Option.map_some, Option.bind_some, if_true, if_false, ↓reduceIte, Nat.reduceLT, Nat.reduceEqDiff, reduceCtorEq, Bool.false_eq_true, false_and, and_false, and_true, true_and, Nat.reduceAdd, Nat.reduceLeDiff, callA, List.getElem?_toArray, List.getElem?_cons_succ, List.getElem?_cons_zero, sb1, sb2, sb3, sb4, sliceU_i, sliceU_s, sliceU_p, sliceU_l, evalV, ayielded_eq, slotOf_eq, dstOf, yieldB, xo_move, xo_assign, xo_pick, xo_alloc, xo_box, xo_build, xo_bslice, xo_load, xo_store, xo_nn, xo_bin, xo_un, xo_conv, xo_mki, xo_mkf, xo_mks, xo_slice, xo_fa, xo_fv, xo_ia, xo_ix, xo_ext, xo_call, xo_panic, extractA, b_lss, b_leq, b_gtr, b_geq, b_eql, b_neq, b_add, b_sub, b_mul, b_and, b_or, b_xor, b_shl, b_shr, b_quo, b_rem, u_not, u_neg, wr_i64, wr_u64, wr_u32, wr_u8, wr_i32, wr_u16, wr_i16, wr_i8, dec_t, dec_f, ieq_t, ieq_f, ine_t, ine_f, blkOf_cells, heap_set_same, heap_set_ne, heap_new_same, heap_new_ne, ASt.set_ctr, ASt.new_ctr, set_set', ic_lit, ic_agg, ic_ptr, ic_iptr, ic_slice, ic_islice, ic_func, ic_iface, boxA, newA, List.all_cons, List.all_nil, Bool.and_self, Bool.and_true, Bool.true_and, cs_lit, cs_agg, cs_ptr, cs_iptr, cs_slice, cs_islice, cs_func, cs_iface, fillA, putL, setsE, eo_lit, eo_agg, eo_ptr, eo_iptr, eo_slice, eo_islice, eo_func, eo_iface, eo_byte, List.set_cons_zero, List.set_cons_succ, List.length_cons, List.length_nil, Nat.reduceBEq, Nat.reduceBNe, beq_self_eq_true, Bool.not_true, Bool.not_false, Nat.zero_add, Nat.reduceMul, List.map_nil, List.drop_succ_cons, List.drop_zero, List.take_succ_cons, List.take_zero, List.nil_append, List.cons_append, Int.toNat_natCast, sl_set, sl_get, sl_len, upd_app, valOf_lit, Try.f17] <;> rfl, _, rfl, .inr ⟨hl0, rfl, .inl rfl⟩⟩
  · have e2 := fun xo yo => e1 xo yo hne
    refine cx_17 fun g t0 => C17_wp ?_
    refine aw_run 0 (by simp (maxSteps := 5000000) (disch := first | assumption | omega | (simp only [ASt.set_ctr, ASt.new_ctr] <;> omega)) only [S17_0_e.down, hint_17_5, o_bs_28_0, hint_17_7, bi_app, AVal.undef, sbn1, sbn2, aexec, aops, aop, Region.wanted, aeval, aput, aseq, ablock, ahint, absOf, flat, nilCheckA, ANext.ofP, evals, evalPs, evalO, aresults, aresults1, aresult, aend, Option.map_some, Option.bind_some, if_true, if_false, ↓reduceIte, Nat.reduceLT, Nat.reduceEqDiff, reduceCtorEq, Bool.false_eq_true, false_and, and_false, and_true, true_and, Nat.reduceAdd, Nat.reduceLeDiff, callA, List.getElem?_toArray, List.getElem?_cons_succ, List.getElem?_cons_zero, sb1, sb2, sb3, sb4, sliceU_i, sliceU_s, sliceU_p, sliceU_l, evalV, ayielded_eq, slotOf_eq, dstOf, yieldB, xo_move, xo_assign, xo_pick, xo_alloc, xo_box, xo_build, xo_bslice, xo_load, xo_store, xo_nn, xo_bin, xo_un, xo_conv, xo_mki, xo_mkf, xo_mks, xo_slice, xo_fa, xo_fv, xo_ia, xo_ix, xo_ext, xo_call, xo_panic, extractA, b_lss, b_leq, b_gtr, b_geq, b_eql, b_neq, b_add, b_sub, b_mul, b_and, b_or, b_xor, b_shl, b_shr, b_quo, b_rem, u_not, u_neg, wr_i64, wr_u64, wr_u32, wr_u8, wr_i32, wr_u16, wr_i16, wr_i8, dec_t, dec_f, ieq_t, ieq_f, ine_t, ine_f, blkOf_cells, heap_set_same, heap_set_ne, heap_new_same, heap_new_ne, ASt.set_ctr, ASt.new_ctr, set_set', ic_lit, ic_agg, ic_ptr, ic_iptr, ic_slice, ic_islice, ic_func, ic_iface, boxA, newA, List.all_cons, List.all_nil, Bool.and_self, Bool.and_true, Bool.true_and, cs_lit, cs_agg, cs_ptr, cs_iptr, cs_slice, cs_islice, cs_func, cs_iface, fillA, putL, setsE, eo_lit, eo_agg, eo_ptr, eo_iptr, eo_slice, eo_islice, eo_func, eo_iface, eo_byte, List.set_cons_zero, List.set_cons_succ, List.length_cons, List.length_nil, Nat.reduceBEq, Nat.reduceBNe, beq_self_eq_true, Bool.not_true, Bool.not_false, Nat.zero_add, Nat.reduceMul, List.map_nil, List.drop_succ_cons, List.drop_zero, List.take_succ_cons, List.take_zero, List.nil_append, List.cons_append, Int.toNat_natCast, sl_set, sl_get, sl_len, upd_app, valOf_lit, t0, e2, List.map_nil, ha] <;> rfl) ?_
    refine ⟨_, _, by simp only [AVal.undef, sbn1, sbn2, aexec, aops, aop, Region.wanted, aeval, aput, aseq, ablock, ahint, absOf, flat, nilCheckA, ANext.ofP, evals, evalPs, evalO, aresults, aresults1, aresult, aend, Option.map_some, Option.bind_some, if_true, if_false, ↓reduceIte, Nat.reduceLT, Nat.reduceEqDiff, reduceCtorEq, Bool.false_eq_true, false_and, and_false, and_true, true_and, Nat.reduceAdd, Nat.reduceLeDiff, callA, List.getElem?_toArray, List.getElem?_cons_succ, List.getElem?_cons_zero, sb1, sb2, sb3, sb4, sliceU_i, sliceU_s, sliceU_p, sliceU_l, evalV, ayielded_eq, slotOf_eq, dstOf, yieldB, xo_move, xo_assign, xo_pick, xo_alloc, xo_box, xo_build, xo_bslice, xo_load, xo_store, xo_nn, xo_bin, xo_un, xo_conv, xo_mki, xo_mkf, xo_mks, xo_slice, xo_fa, xo_fv, xo_ia, xo_ix, xo_ext, xo_call, xo_panic, extractA, b_lss, b_leq, b_gtr, b_geq, b_eql, b_neq, b_add, b_sub, b_mul, b_and, b_or, b_xor, b_shl, b_shr, b_quo, b_rem, u_not, u_neg, wr_i64, wr_u64, wr_u32, wr_u8, wr_i32, wr_u16, wr_i16, wr_i8, dec_t, dec_f, ieq_t, ieq_f, ine_t, ine_f, blkOf_cells, heap_set_same, heap_set_ne, heap_new_same, heap_new_ne, ASt.set_ctr, ASt.new_ctr, set_set', ic_lit, ic_agg, ic_ptr, ic_iptr, ic_slice, ic_islice, ic_func, ic_iface, boxA, newA, List.all_cons, List.all_nil, Bool.and_self, Bool.and_true, Bool.true_and, cs_lit, cs_agg, cs_ptr, cs_iptr, cs_slice, cs_islice, cs_func, cs_iface, fillA, putL, setsE, eo_lit, eo_agg, eo_ptr, eo_iptr, eo_slice, eo_islice, eo_func, eo_iface, eo_byte, List.set_cons_zero, List.set_cons_succ, List.length_cons, List.length_nil, Nat.reduceBEq, Nat.reduceBNe, beq_self_eq_true, Bool.not_true, Bool.not_false, Nat.zero_add, Nat.reduceMul, List.map_nil, List.drop_succ_cons, List.drop_zero, List.take_succ_cons, List.take_zero, List.nil_append, List.cons_append, Int.toNat_natCast, sl_set, sl_get, sl_len, upd_app, valOf_lit, Try.f17] <;> rfl, _, rfl, ?_⟩
    by_cases h0 : l = []
    · have ha2 := app_none (mt := true) byteT (by rw [src_bs hx, h0]; rfl) (.inr ⟨[], .exact, rfl⟩)
      rw [ha] at ha2
      cases ha2
      exact .inr ⟨h0, rfl, .inr rfl⟩
    · obtain ⟨rfl, rfl⟩ := hn h0
      exact .inl ⟨h0, rfl, rfl⟩

theorem of256 (x : Nat) : UInt8.ofNat (x % 256) = UInt8.ofNat x := by
  apply UInt8.toNat.inj
  simp
theorem tmod_n (a b : Nat) : (a : Int).tmod (b : Int) = ((a % b : Nat) : Int) := by rw [Int.tmod_eq_emod_of_nonneg (by omega)]; rfl
theorem tdiv_n (a b : Nat) : (a : Int).tdiv (b : Int) = ((a / b : Nat) : Int) := by rw [Int.tdiv_eq_ediv_of_nonneg (by omega)]; rfl

theorem own_app {st : ASt} {l n : List UInt8} {x : AVal} {s : Nat} (hs : st.heap s = some (.cells (l.map byteA))) (hx : srcA E.P 5 28 false 1 st x = some (n.map byteA)) (hn : n ≠ []) (hl : l.length + n.length ≤ 1000000) :
    appendA E.P false 28 28 (.slice s 0 l.length 1 none) x st = some (.slice st.ctr 0 (l ++ n).length 1 none, (st.set s none).new (.cells ((l ++ n).map byteA))) := by
  have h := app_slice (mt := false) (es := l.map byteA) (off := 0) byteT hs (by rw [List.length_map, chunk_bytes _ _ _ (by simp), List.drop_zero, List.take_of_length_le (by simp)]) (bytes_ok l) hx (by simpa using hn) (by simp; omega)
  rw [List.length_map] at h
  rw [h, ← List.map_append, List.length_map, flat_bytes]

set_option maxHeartbeats 1000000 in
theorem sealed_rw {x : AVal} {l : List UInt8} {st : ASt} (hx : BS st x l) (hl : l.length ≤ 1000) :
    ∃ r st', rw E 19 [x] st = some (r, st') ∧ ∃ v, r = .returned v ∧ Gr st st' ∧ BN st' v (l ++ le4 (sumN l)) ∧ (l ≠ [] → ∃ s, v = .slice s 0 (l ++ le4 (sumN l)).length 1 none ∧ st.ctr ≤ s ∧ s < st'.ctr ∧ st'.heap s = some (.cells ((l ++ le4 (sumN l)).map byteA))) := by
  obtain ⟨r, st1, c2, v, rfl, h2⟩ := clone_rw hx (by omega)
  have c1 := (refsum_run hx hl).rw
  generalize hS : sumN l = S at *
  have hS32 : S < 2 ^ 32 := by rw [← hS]; exact sumN_lt l
  have e5 : [byteA (UInt8.ofNat S), byteA (UInt8.ofNat (S / 256)), byteA (UInt8.ofNat (S / 65536)), byteA (UInt8.ofNat (S / 16777216))] = (le4 S).map byteA := rfl
  have m1 : (S : Int).tmod 256 = ((S % 256 : Nat) : Int) := tmod_n S 256
  have m2 : ((S / 256 : Nat) : Int).tmod 256 = ((S / 256 % 256 : Nat) : Int) := tmod_n (S / 256) 256
  have m3 : ((S / 65536 : Nat) : Int).tmod 256 = ((S / 65536 % 256 : Nat) : Int) := tmod_n _ 256
  have d1 : (S : Int).tdiv 256 = ((S / 256 : Nat) : Int) := tdiv_n S 256
  have d2 : (S : Int).tdiv 65536 = ((S / 65536 : Nat) : Int) := tdiv_n S 65536
  have d3 : (S : Int).tdiv 16777216 = ((S / 16777216 : Nat) : Int) := tdiv_n S 16777216
  have k1 : (256 : Int) ≠ 0 := by decide
  have k2 : (65536 : Int) ≠ 0 := by decide
  have k3 : (16777216 : Int) ≠ 0 := by decide
  have cv := fun mt st x => cv_u8 mt st x
  have hne4 : le4 S ≠ [] := by simp [le4]
  have key : ∃ v' st', appendA E.P false 28 28 v (.islice 1 ((le4 S).map byteA) .exact) st1 = some (v', st') ∧ Gr st st' ∧ BN st' v' (l ++ le4 S) ∧ (l ≠ [] → ∃ s, v' = .slice s 0 (l ++ le4 S).length 1 none ∧ st.ctr ≤ s ∧ s < st'.ctr ∧ st'.heap s = some (.cells ((l ++ le4 S).map byteA))) := by
    have hsrc : srcA E.P 5 28 false 1 st1 (.islice 1 ((le4 S).map byteA) .exact) = some ((le4 S).map byteA) := src_islice byteT (bytes_ok _)
    rcases h2 with ⟨hne, rfl, rfl⟩ | ⟨rfl, rfl, rfl | rfl⟩
    · refine ⟨_, _, own_app (ASt.new_same _ _) hsrc hne4 (by simp [le4]; omega), ⟨by simp [ASt.new, ASt.set]; omega, fun j hj => ?_⟩, .inr ⟨_, 0, none, _, rfl, fun c e => (by cases e), ?_, ASt.new_same _ _, by simp, by rw [List.drop_zero, List.take_of_length_le (by simp)]⟩, fun _ => ⟨_, rfl, ?_, ?_, ASt.new_same _ _⟩⟩
      · rw [ASt.new_ne _ _ _ (by simp [ASt.set, ASt.new]; omega), ASt.set_ne _ _ _ _ (by omega), ASt.new_ne _ _ _ (by omega)]
      · simp [ASt.new, ASt.set]
      · simp [ASt.new, ASt.set]
      · simp [ASt.new, ASt.set]
    · exact ⟨_, _, app_nil byteT hsrc (by simpa using hne4) (by simp [le4]), Gr.new _ _, .inl (.inl ⟨_, rfl⟩), fun h => absurd rfl h⟩
    · exact ⟨_, _, app_exact (es := []) byteT rfl hsrc (by simpa using hne4) (by simp [le4]), Gr.new _ _, .inl (.inl ⟨_, rfl⟩), fun h => absurd rfl h⟩
  obtain ⟨v', st', ha, hg, hb, hs⟩ := key
  refine cx_19 fun g t0 => C19_wp ?_
  refine aw_run 0 (by simp (maxSteps := 5000000) (disch := first | assumption | omega | (simp only [ASt.set_ctr, ASt.new_ctr] <;> omega)) only [S19_0_e.down, cf_34, cf_17, o_cv_22_5, hint_19_22, o_bs_28_4, hint_19_23, bi_app, AVal.undef, sbn1, sbn2, aexec, aops, aop, Region.wanted, aeval, aput, aseq, ablock, ahint, absOf, flat, nilCheckA, ANext.ofP, evals, evalPs, evalO, aresults, aresults1, aresult, aend, Option.map_some, Option.bind_some, if_true, if_false, ↓reduceIte, Nat.reduceLT, Nat.reduceEqDiff, reduceCtorEq, Bool.false_eq_true, false_and, and_false, and_true, true_and, Nat.reduceAdd, Nat.reduceLeDiff, callA, List.getElem?_toArray, List.getElem?_cons_succ, List.getElem?_cons_zero, sb1, sb2, sb3, sb4, sliceU_i, sliceU_s, sliceU_p, sliceU_l, evalV, ayielded_eq, slotOf_eq, dstOf, yieldB, xo_move, xo_assign, xo_pick, xo_alloc, xo_box, xo_build, xo_bslice, xo_load, xo_store, xo_nn, xo_bin, xo_un, xo_conv, xo_mki, xo_mkf, xo_mks, xo_slice, xo_fa, xo_fv, xo_ia, xo_ix, xo_ext, xo_call, xo_panic, extractA, b_lss, b_leq, b_gtr, b_geq, b_eql, b_neq, b_add, b_sub, b_mul, b_and, b_or, b_xor, b_shl, b_shr, b_quo, b_rem, u_not, u_neg, wr_i64, wr_u64, wr_u32, wr_u8, wr_i32, wr_u16, wr_i16, wr_i8, dec_t, dec_f, ieq_t, ieq_f, ine_t, ine_f, blkOf_cells, heap_set_same, heap_set_ne, heap_new_same, heap_new_ne, ASt.set_ctr, ASt.new_ctr, set_set', ic_lit, ic_agg, ic_ptr, ic_iptr, ic_slice, ic_islice, ic_func, ic_iface, boxA, newA, List.all_cons, List.all_nil, Bool.and_self, Bool.and_true, Bool.true_and, cs_lit, cs_agg, cs_ptr, cs_iptr, cs_slice, cs_islice, cs_func, cs_iface, fillA, putL, setsE, eo_lit, eo_agg, eo_ptr, eo_iptr, eo_slice, eo_islice, eo_func, eo_iface, eo_byte, List.set_cons_zero, List.set_cons_succ, List.length_cons, List.length_nil, Nat.reduceBEq, Nat.reduceBNe, beq_self_eq_true, Bool.not_true, Bool.not_false, Nat.zero_add, Nat.reduceMul, List.map_nil, List.drop_succ_cons, List.drop_zero, List.take_succ_cons, List.take_zero, List.nil_append, List.cons_append, Int.toNat_natCast, sl_set, sl_get, sl_len, upd_app, valOf_lit, t0, c1, c2, b_rem _ _ _ _ _ _ _ k1, b_quo _ _ _ _ _ _ _ k1, b_quo _ _ _ _ _ _ _ k2, b_quo _ _ _ _ _ _ _ k3, m1, m2, m3, d1, d2, d3, cv, of256, e5, ha] <;> rfl) ?_
  exact ⟨_, _, by simp only [AVal.undef, sbn1, sbn2, aexec, aops, aop, Region.wanted, aeval, aput, aseq, ablock, ahint, absOf, flat, nilCheckA, ANext.ofP, evals, evalPs, evalO, aresults, aresults1, aresult, aend, Option.map_some, Option.bind_some, if_true, if_false, ↓reduceIte, Nat.reduceLT, Nat.reduceEqDiff, reduceCtorEq, Bool.false_eq_true, false_and, and_false, and_true, true_and, Nat.reduceAdd, Nat.reduceLeDiff, callA, List.getElem?_toArray, List.getElem?_cons_succ, List.getElem?_cons_zero, sb1, sb2, sb3, sb4, sliceU_i, sliceU_s, sliceU_p, sliceU_l, evalV, ayielded_eq, slotOf_eq, dstOf, yieldB, xo_move, xo_assign, xo_pick, xo_alloc, xo_box, xo_build, xo_bslice, xo_load, xo_store, xo_nn, xo_bin, xo_un, xo_conv, xo_mki, xo_mkf, xo_mks, xo_slice, xo_fa, xo_fv, xo_ia, xo_ix, xo_ext, xo_call, xo_panic, extractA, b_lss, b_leq, b_gtr, b_geq, b_eql, b_neq, b_add, b_sub, b_mul, b_and, b_or, b_xor, b_shl, b_shr, b_quo, b_rem, u_not, u_neg, wr_i64, wr_u64, wr_u32, wr_u8, wr_i32, wr_u16, wr_i16, wr_i8, dec_t, dec_f, ieq_t, ieq_f, ine_t, ine_f, blkOf_cells, heap_set_same, heap_set_ne, heap_new_same, heap_new_ne, ASt.set_ctr, ASt.new_ctr, set_set', ic_lit, ic_agg, ic_ptr, ic_iptr, ic_slice, ic_islice, ic_func, ic_iface, boxA, newA, List.all_cons, List.all_nil, Bool.and_self, Bool.and_true, Bool.true_and, cs_lit, cs_agg, cs_ptr, cs_iptr, cs_slice, cs_islice, cs_func, cs_iface, fillA, putL, setsE, eo_lit, eo_agg, eo_ptr, eo_iptr, eo_slice, eo_islice, eo_func, eo_iface, eo_byte, List.set_cons_zero, List.set_cons_succ, List.length_cons, List.length_nil, Nat.reduceBEq, Nat.reduceBNe, beq_self_eq_true, Bool.not_true, Bool.not_false, Nat.zero_add, Nat.reduceMul, List.map_nil, List.drop_succ_cons, List.drop_zero, List.take_succ_cons, List.take_zero, List.nil_append, List.cons_append, Int.toNat_natCast, sl_set, sl_get, sl_len, upd_app, valOf_lit, Try.f19] <;> rfl, _, rfl, hg, hb, hs⟩
end Go.Proofs.YtnndngoanknemaaV
