/- LexLong walked. No condition. -/
import Derived.Test.YtlpdplchcpkajaaDoorX1
namespace Go.Proofs.YtlpdplchcpkajaaDoorV
open Go Go.RowKit Go.Proofs.YtlpdplchcpkajaaDoorA
set_option linter.unusedVariables false
set_option linter.unusedSimpArgs false
set_option maxRecDepth 100000

theorem awakeL_k0 : (run E 30 24 [] st0).map Prod.fst = some (.returned (.lit (.bool true))) := by kernel_rfl
theorem awakeL : ∃ st1, rw E 24 [] st0 = some (.returned (.lit (.bool true)), st1) := by
  have h := awakeL_k0
  cases hr : run E 30 24 [] st0 with
  | none => rw [hr] at h; cases h
  | some r =>
    rw [hr] at h
    obtain ⟨r1, r2⟩ := r
    obtain rfl : r1 = _ := Option.some.inj h
    exact ⟨r2, rw_of hr⟩

/-- the row, blank up to t -/
def rowB' (n t : Nat) : List UInt8 := (List.range n).map fun k => if k < t then 32 else 0
theorem rowB_len (n t : Nat) : (rowB' n t).length = n := by simp [rowB']
theorem rowB_zero (n : Nat) : (rowB' n 0).map byteA = List.replicate n (.lit (.int .u8 0)) := by
  unfold rowB'
  rw [List.map_map]
  have : (byteA ∘ fun k => if k < 0 then (32 : UInt8) else 0) = fun _ => AVal.lit (.int .u8 0) := by
    funext k
    rfl
  rw [this, List.map_const', List.length_range]
theorem rowB_set (n t : Nat) (h : t < n) : ((rowB' n t).map byteA).set t (.lit (.int .u8 32)) = (rowB' n (t + 1)).map byteA := by
  refine List.ext_getElem (by simp [rowB']) fun k h1 h2 => ?_
  rw [List.getElem_set]
  have hk : k < n := by simpa [rowB'] using h2
  by_cases e : t = k
  · subst e
    rw [if_pos rfl]
    simp [rowB']
    rfl
  · rw [if_neg e]
    simp only [rowB', List.getElem_map, List.getElem_range]
    by_cases e2 : k < t
    · rw [if_pos e2, if_pos (by omega)]
    · rw [if_neg e2, if_neg (by omega)]
theorem rowB_full (n : Nat) (i : Nat) (h : i < (rowB' n n).length) : (rowB' n n)[i] = 32 := by
  have hi : i < n := by simpa [rowB'] using h
  simp [rowB', hi]
theorem mkB {n : Nat} (hn : n ≤ 100000) (st : ASt) : makeSliceA E.P 55 (.lit (.int .i64 (n : Int))) (.lit (.int .i64 (n : Int))) st = some (.slice st.ctr 0 n 1 (some n), st.new (.cells (List.replicate n (.lit (.int .u8 0))))) := by
  have e : makeSliceA E.P 55 (.lit (.int .i64 (n : Int))) (.lit (.int .i64 (n : Int))) st = if 0 ≤ (n : Int) ∧ (n : Int) ≤ (n : Int) ∧ 0 < 1 ∧ (n : Int).toNat * 1 ≤ 16777216 ∧ 1 ≤ 4096 ∧ true = true then
      some (.slice st.ctr 0 (n : Int).toNat 1 (some (n : Int).toNat), st.new (.cells (flatE (List.replicate (n : Int).toNat (.lit (.int .u8 0)))))) else none := rfl
  have hf : ∀ n, flatE (List.replicate n (AVal.lit (.int .u8 0))) = List.replicate n (.lit (.int .u8 0)) := fun n => by
    induction n with
    | zero => rfl
    | succ n ih =>
      rw [List.replicate_succ]
      have : flatE (AVal.lit (.int .u8 0) :: List.replicate n (.lit (.int .u8 0))) = AVal.lit (.int .u8 0) :: flatE (List.replicate n (.lit (.int .u8 0))) := rfl
      rw [this, ih]
  rw [e, if_pos ⟨by omega, by omega, by omega, by simp; omega, by omega, rfl⟩, hf, Int.toNat_natCast]
theorem idB {s n i : Nat} {c : Option Nat} (h : i < n) : indexA E.P 55 (.slice s 0 n 1 c) (.lit (.int .i64 (i : Int))) = some (.ptr s i) := by
  have e : indexA E.P 55 (.slice s 0 n 1 c) (.lit (.int .i64 (i : Int))) = if 0 ≤ (i : Int) ∧ (i : Int) < (n : Nat) then some (.ptr s (0 + (i : Int).toNat * 1)) else none := rfl
  rw [e, if_pos ⟨by omega, by omega⟩]; simp
theorem stB {st : ASt} {s i : Nat} {cs : List AVal} (h : st.heap s = some (.cells cs)) (hi : i < cs.length) (x : Int) : storeA E.P 5 st (.ptr s i) (.lit (.int .u8 x)) = some (st.set s (some (.cells (cs.set i (.lit (.int .u8 x)))))) := by
  have e3 : storeA E.P 5 st (.ptr s i) (.lit (.int .u8 x)) = (match st.heap s with
    | some (.cells cs) => if some 1 = some 1 ∧ i + 1 ≤ cs.length ∧ true = true then some (st.set s (some (.cells (cs.set i (.lit (.int .u8 x)))))) else none
    | _ => none) := rfl
  rw [e3, h]
  simp only
  rw [if_pos ⟨trivial, by omega, trivial⟩]
theorem bytesOf_map : ∀ l : List UInt8, bytesOf (l.map byteA) = some l
  | [] => rfl
  | b :: l => by
    have h : byteOfA (byteA b) = some b := by
      unfold byteA byteOfA
      simp
    rw [List.map_cons, bytesOf, h, bytesOf_map l]
theorem cvB {st : ASt} {s : Nat} {l : List UInt8} {c : Option Nat} (h : st.heap s = some (.cells (l.map byteA))) (mt : Bool) : convA E.P mt 55 9 (.slice s 0 l.length 1 c) st = some (str l, st) := by
  have e : convA E.P mt 55 9 (.slice s 0 l.length 1 c) st = (match st.heap s with
        | some (.cells cs) => if 0 + l.length ≤ cs.length then (bytesOf ((cs.drop 0).take l.length)).map fun l => (.lit (.string ⟨l.toArray⟩), st) else none
        | _ => none) := rfl
  rw [e, h]
  simp only
  rw [if_pos (by simp), List.drop_zero, List.take_of_length_le (by simp), bytesOf_map]
  rfl

set_option maxHeartbeats 4000000 in
theorem long_runs (b0 : AVal) (d0 : DatV E.P 6 5 b0) : ∃ n st', run E n 8 [b0] st0 = some (.returned (.lit (.bool true)), st') := by
  suffices h : ∃ r st', rw E 8 [b0] st0 = some (r, st') ∧ r = .returned (.lit (.bool true)) by
    obtain ⟨r, st', h1, rfl⟩ := h
    obtain ⟨n, hn⟩ := rw_out h1
    exact ⟨n, st', hn⟩
  obtain ⟨d, rfl, hd⟩ := dv_nat (k := .u8) rfl rfl d0
  have hd' : d < 256 := hd
  obtain ⟨s1, c0⟩ := awakeL
  obtain ⟨r, hr⟩ : ∃ r, r = d % 8 := ⟨_, rfl⟩
  have hr8 : r < 8 := by omega
  have q1 : (d : Int).tmod 8 = (r : Int) := by rw [hr]; exact tmod_n d 8
  have w1 : IntKind.i64.wrap (r : Int) = (r : Int) := wr_i64 (by omega) (by omega)
  have h8 : (8 : Int) ≠ 0 := by decide
  obtain ⟨N, hN⟩ : ∃ N, N = 16380 + r := ⟨_, rfl⟩
  have q2 : (16380 : Int) + (r : Int) = (N : Int) := by omega
  have c1 := mkB (n := N) (by omega) s1
  obtain ⟨A, hA⟩ : ∃ A, A = s1.new (.cells (List.replicate N (.lit (.int .u8 0)))) := ⟨_, rfl⟩
  have hAh : A.heap s1.ctr = some (.cells ((rowB' N 0).map byteA)) := by rw [hA, rowB_zero]; exact ASt.new_same _ _
  rw [← hA] at c1
  have LB : ∀ mt ty cs st2, builtinA E.P mt .len #[55] ty cs [.slice s1.ctr 0 N 1 (some N)] st2 = some (.val (.lit (.int .i64 (N : Int))) st2) := fun _ _ _ _ => rfl
  clear hd hr hA
  refine cx_8 fun g t0 => C8_wp ?_
  refine aw_run 0 (by simp (maxSteps := 5000000) (disch := first | assumption | omega | (simp only [ASt.set_ctr, ASt.new_ctr] <;> omega)) only [S8_0_e.down, S8_1_e.down, S8_2_e.down, cf_24, o_cv_5_3, o_leni_55, o_lens_55, o_lenn_55, o_ixi_55, o_ixs_55, o_st_5, hint_8_26, cf_25, o_leni_46, o_lens_46, o_lenn_46, o_ixi_46, o_ixs_46, o_fap_52_3, o_fai_52_3, o_ldp_3, o_ldi_3, AVal.undef, sbn1, sbn2, aexec, aops, aop, Region.wanted, aeval, aput, aseq, ablock, ahint, absOf, flat, nilCheckA, ANext.ofP, evals, evalPs, evalO, aresults, aresults1, aresult, aend, Option.map_some, Option.bind_some, if_true, if_false, ↓reduceIte, Nat.reduceLT, Nat.reduceEqDiff, reduceCtorEq, Bool.false_eq_true, false_and, and_false, and_true, true_and, Nat.reduceAdd, Nat.reduceLeDiff, callA, List.getElem?_toArray, List.getElem?_cons_succ, List.getElem?_cons_zero, sb1, sb2, sb3, sb4, sliceU_i, sliceU_s, sliceU_p, sliceU_l, evalV, ayielded_eq, slotOf_eq, dstOf, yieldB, xo_move, xo_assign, xo_pick, xo_alloc, xo_box, xo_build, xo_bslice, xo_load, xo_store, xo_nn, xo_bin, xo_un, xo_conv, xo_mki, xo_mkf, xo_mks, xo_slice, xo_fa, xo_fv, xo_ia, xo_ix, xo_ext, xo_call, xo_panic, extractA, b_lss, b_leq, b_gtr, b_geq, b_eql, b_neq, b_add, b_sub, b_mul, b_and, b_or, b_xor, b_shl, b_shr, b_quo, b_rem, u_not, u_neg, wr_i64, wr_u64, wr_u32, wr_u8, wr_i32, wr_u16, wr_i16, wr_i8, dec_t, dec_f, ieq_t, ieq_f, ine_t, ine_f, blkOf_cells, heap_set_same, heap_set_ne, heap_new_same, heap_new_ne, ASt.set_ctr, ASt.new_ctr, set_set', ic_lit, ic_agg, ic_ptr, ic_iptr, ic_slice, ic_islice, ic_func, ic_iface, boxA, newA, List.all_cons, List.all_nil, Bool.and_self, Bool.and_true, Bool.true_and, cs_lit, cs_agg, cs_ptr, cs_iptr, cs_slice, cs_islice, cs_func, cs_iface, fillA, putL, setsE, eo_lit, eo_agg, eo_ptr, eo_iptr, eo_slice, eo_islice, eo_func, eo_iface, eo_byte, List.set_cons_zero, List.set_cons_succ, List.length_cons, List.length_nil, Nat.reduceBEq, Nat.reduceBNe, beq_self_eq_true, Bool.not_true, Bool.not_false, Nat.zero_add, Nat.reduceMul, List.map_nil, List.drop_succ_cons, List.drop_zero, List.take_succ_cons, List.take_zero, List.nil_append, List.cons_append, Int.toNat_natCast, sl_set, sl_get, sl_len, upd_app, valOf_lit, ite_t, ite_f, t0, c0, q1, h8, w1, q2, c1, LB] <;> rfl) ?_
  refine aw_forS (fun k f st' => ∃ t, k = N - t ∧ t ≤ N ∧ f 3 = .slice s1.ctr 0 N 1 (some N) ∧ f 16 = .lit (.int .i64 (N : Int)) ∧ f 17 = .lit (.int .i64 (t : Int)) ∧ st'.heap s1.ctr = some (.cells ((rowB' N t).map byteA)))
    (fun k f st' hI => L8_0_wp ?_) N _ _ ⟨0, rfl, Nat.zero_le _, rfl, rfl, rfl, hAh⟩
  clear t0 c0 c1 hAh
  obtain ⟨t, rfl, htN, h3, h16, h17, hh⟩ := hI
  by_cases ht : t < N
  · have x1 := idB (s := s1.ctr) (c := some N) ht
    have x2 := stB hh (i := t) (by rw [List.length_map, rowB_len]; exact ht) 32
    rw [rowB_set N t ht] at x2
    have ha : (t : Int) + 1 = ((t + 1 : Nat) : Int) := by omega
    refine aw_run 0 (by simp (maxSteps := 5000000) (disch := first | assumption | omega | (simp only [ASt.set_ctr, ASt.new_ctr] <;> omega)) only [S8_0_e.down, S8_1_e.down, S8_2_e.down, cf_24, o_cv_5_3, o_leni_55, o_lens_55, o_lenn_55, o_ixi_55, o_ixs_55, o_st_5, hint_8_26, cf_25, o_leni_46, o_lens_46, o_lenn_46, o_ixi_46, o_ixs_46, o_fap_52_3, o_fai_52_3, o_ldp_3, o_ldi_3, AVal.undef, sbn1, sbn2, aexec, aops, aop, Region.wanted, aeval, aput, aseq, ablock, ahint, absOf, flat, nilCheckA, ANext.ofP, evals, evalPs, evalO, aresults, aresults1, aresult, aend, Option.map_some, Option.bind_some, if_true, if_false, ↓reduceIte, Nat.reduceLT, Nat.reduceEqDiff, reduceCtorEq, Bool.false_eq_true, false_and, and_false, and_true, true_and, Nat.reduceAdd, Nat.reduceLeDiff, callA, List.getElem?_toArray, List.getElem?_cons_succ, List.getElem?_cons_zero, sb1, sb2, sb3, sb4, sliceU_i, sliceU_s, sliceU_p, sliceU_l, evalV, ayielded_eq, slotOf_eq, dstOf, yieldB, xo_move, xo_assign, xo_pick, xo_alloc, xo_box, xo_build, xo_bslice, xo_load, xo_store, xo_nn, xo_bin, xo_un, xo_conv, xo_mki, xo_mkf, xo_mks, xo_slice, xo_fa, xo_fv, xo_ia, xo_ix, xo_ext, xo_call, xo_panic, extractA, b_lss, b_leq, b_gtr, b_geq, b_eql, b_neq, b_add, b_sub, b_mul, b_and, b_or, b_xor, b_shl, b_shr, b_quo, b_rem, u_not, u_neg, wr_i64, wr_u64, wr_u32, wr_u8, wr_i32, wr_u16, wr_i16, wr_i8, dec_t, dec_f, ieq_t, ieq_f, ine_t, ine_f, blkOf_cells, heap_set_same, heap_set_ne, heap_new_same, heap_new_ne, ASt.set_ctr, ASt.new_ctr, set_set', ic_lit, ic_agg, ic_ptr, ic_iptr, ic_slice, ic_islice, ic_func, ic_iface, boxA, newA, List.all_cons, List.all_nil, Bool.and_self, Bool.and_true, Bool.true_and, cs_lit, cs_agg, cs_ptr, cs_iptr, cs_slice, cs_islice, cs_func, cs_iface, fillA, putL, setsE, eo_lit, eo_agg, eo_ptr, eo_iptr, eo_slice, eo_islice, eo_func, eo_iface, eo_byte, List.set_cons_zero, List.set_cons_succ, List.length_cons, List.length_nil, Nat.reduceBEq, Nat.reduceBNe, beq_self_eq_true, Bool.not_true, Bool.not_false, Nat.zero_add, Nat.reduceMul, List.map_nil, List.drop_succ_cons, List.drop_zero, List.take_succ_cons, List.take_zero, List.nil_append, List.cons_append, Int.toNat_natCast, sl_set, sl_get, sl_len, upd_app, valOf_lit, ite_t, ite_f, h3, h16, h17, x1, x2, ha] <;> rfl) ?_
    exact ⟨_, rfl, N - (t + 1), by omega, t + 1, rfl, by omega, h3, h16, rfl, ASt.set_same _ _ _⟩
  · obtain rfl : t = N := by omega
    have cv := fun mt => cvB (c := some t) hh mt
    rw [rowB_len] at cv
    have tz : Int.toNat 0 = 0 := rfl
    refine aw_run 0 (by simp (maxSteps := 5000000) (disch := first | assumption | omega | (simp only [ASt.set_ctr, ASt.new_ctr] <;> omega)) only [S8_0_e.down, S8_1_e.down, S8_2_e.down, cf_24, o_cv_5_3, o_leni_55, o_lens_55, o_lenn_55, o_ixi_55, o_ixs_55, o_st_5, hint_8_26, cf_25, o_leni_46, o_lens_46, o_lenn_46, o_ixi_46, o_ixs_46, o_fap_52_3, o_fai_52_3, o_ldp_3, o_ldi_3, AVal.undef, sbn1, sbn2, aexec, aops, aop, Region.wanted, aeval, aput, aseq, ablock, ahint, absOf, flat, nilCheckA, ANext.ofP, evals, evalPs, evalO, aresults, aresults1, aresult, aend, Option.map_some, Option.bind_some, if_true, if_false, ↓reduceIte, Nat.reduceLT, Nat.reduceEqDiff, reduceCtorEq, Bool.false_eq_true, false_and, and_false, and_true, true_and, Nat.reduceAdd, Nat.reduceLeDiff, callA, List.getElem?_toArray, List.getElem?_cons_succ, List.getElem?_cons_zero, sb1, sb2, sb3, sb4, sliceU_i, sliceU_s, sliceU_p, sliceU_l, evalV, ayielded_eq, slotOf_eq, dstOf, yieldB, xo_move, xo_assign, xo_pick, xo_alloc, xo_box, xo_build, xo_bslice, xo_load, xo_store, xo_nn, xo_bin, xo_un, xo_conv, xo_mki, xo_mkf, xo_mks, xo_slice, xo_fa, xo_fv, xo_ia, xo_ix, xo_ext, xo_call, xo_panic, extractA, b_lss, b_leq, b_gtr, b_geq, b_eql, b_neq, b_add, b_sub, b_mul, b_and, b_or, b_xor, b_shl, b_shr, b_quo, b_rem, u_not, u_neg, wr_i64, wr_u64, wr_u32, wr_u8, wr_i32, wr_u16, wr_i16, wr_i8, dec_t, dec_f, ieq_t, ieq_f, ine_t, ine_f, blkOf_cells, heap_set_same, heap_set_ne, heap_new_same, heap_new_ne, ASt.set_ctr, ASt.new_ctr, set_set', ic_lit, ic_agg, ic_ptr, ic_iptr, ic_slice, ic_islice, ic_func, ic_iface, boxA, newA, List.all_cons, List.all_nil, Bool.and_self, Bool.and_true, Bool.true_and, cs_lit, cs_agg, cs_ptr, cs_iptr, cs_slice, cs_islice, cs_func, cs_iface, fillA, putL, setsE, eo_lit, eo_agg, eo_ptr, eo_iptr, eo_slice, eo_islice, eo_func, eo_iface, eo_byte, List.set_cons_zero, List.set_cons_succ, List.length_cons, List.length_nil, Nat.reduceBEq, Nat.reduceBNe, beq_self_eq_true, Bool.not_true, Bool.not_false, Nat.zero_add, Nat.reduceMul, List.map_nil, List.drop_succ_cons, List.drop_zero, List.take_succ_cons, List.take_zero, List.nil_append, List.cons_append, Int.toNat_natCast, sl_set, sl_get, sl_len, upd_app, valOf_lit, ite_t, ite_f, h16, h17] <;> rfl) ?_
    by_cases hN16 : t ≤ 16384
    · have c2 := blanks_rw (l := rowB' t t) (st := st') (by rw [rowB_len]; exact hN16) (rowB_full t)
      rw [rowB_len] at c2
      unfold endT at c2
      refine aw_run 0 (by simp (maxSteps := 5000000) (disch := first | assumption | omega | (simp only [ASt.set_ctr, ASt.new_ctr] <;> omega)) only [S8_0_e.down, S8_1_e.down, S8_2_e.down, cf_24, o_cv_5_3, o_leni_55, o_lens_55, o_lenn_55, o_ixi_55, o_ixs_55, o_st_5, hint_8_26, cf_25, o_leni_46, o_lens_46, o_lenn_46, o_ixi_46, o_ixs_46, o_fap_52_3, o_fai_52_3, o_ldp_3, o_ldi_3, AVal.undef, sbn1, sbn2, aexec, aops, aop, Region.wanted, aeval, aput, aseq, ablock, ahint, absOf, flat, nilCheckA, ANext.ofP, evals, evalPs, evalO, aresults, aresults1, aresult, aend, Option.map_some, Option.bind_some, if_true, if_false, ↓reduceIte, Nat.reduceLT, Nat.reduceEqDiff, reduceCtorEq, Bool.false_eq_true, false_and, and_false, and_true, true_and, Nat.reduceAdd, Nat.reduceLeDiff, callA, List.getElem?_toArray, List.getElem?_cons_succ, List.getElem?_cons_zero, sb1, sb2, sb3, sb4, sliceU_i, sliceU_s, sliceU_p, sliceU_l, evalV, ayielded_eq, slotOf_eq, dstOf, yieldB, xo_move, xo_assign, xo_pick, xo_alloc, xo_box, xo_build, xo_bslice, xo_load, xo_store, xo_nn, xo_bin, xo_un, xo_conv, xo_mki, xo_mkf, xo_mks, xo_slice, xo_fa, xo_fv, xo_ia, xo_ix, xo_ext, xo_call, xo_panic, extractA, b_lss, b_leq, b_gtr, b_geq, b_eql, b_neq, b_add, b_sub, b_mul, b_and, b_or, b_xor, b_shl, b_shr, b_quo, b_rem, u_not, u_neg, wr_i64, wr_u64, wr_u32, wr_u8, wr_i32, wr_u16, wr_i16, wr_i8, dec_t, dec_f, ieq_t, ieq_f, ine_t, ine_f, blkOf_cells, heap_set_same, heap_set_ne, heap_new_same, heap_new_ne, ASt.set_ctr, ASt.new_ctr, set_set', ic_lit, ic_agg, ic_ptr, ic_iptr, ic_slice, ic_islice, ic_func, ic_iface, boxA, newA, List.all_cons, List.all_nil, Bool.and_self, Bool.and_true, Bool.true_and, cs_lit, cs_agg, cs_ptr, cs_iptr, cs_slice, cs_islice, cs_func, cs_iface, fillA, putL, setsE, eo_lit, eo_agg, eo_ptr, eo_iptr, eo_slice, eo_islice, eo_func, eo_iface, eo_byte, List.set_cons_zero, List.set_cons_succ, List.length_cons, List.length_nil, Nat.reduceBEq, Nat.reduceBNe, beq_self_eq_true, Bool.not_true, Bool.not_false, Nat.zero_add, Nat.reduceMul, List.map_nil, List.drop_succ_cons, List.drop_zero, List.take_succ_cons, List.take_zero, List.nil_append, List.cons_append, Int.toNat_natCast, sl_set, sl_get, sl_len, upd_app, valOf_lit, ite_t, ite_f, h3, cv, c2, LB, tz] <;> rfl) ?_
      exact ⟨_, _, by simp only [AVal.undef, sbn1, sbn2, aexec, aops, aop, Region.wanted, aeval, aput, aseq, ablock, ahint, absOf, flat, nilCheckA, ANext.ofP, evals, evalPs, evalO, aresults, aresults1, aresult, aend, Option.map_some, Option.bind_some, if_true, if_false, ↓reduceIte, Nat.reduceLT, Nat.reduceEqDiff, reduceCtorEq, Bool.false_eq_true, false_and, and_false, and_true, true_and, Nat.reduceAdd, Nat.reduceLeDiff, callA, List.getElem?_toArray, List.getElem?_cons_succ, List.getElem?_cons_zero, sb1, sb2, sb3, sb4, sliceU_i, sliceU_s, sliceU_p, sliceU_l, evalV, ayielded_eq, slotOf_eq, dstOf, yieldB, xo_move, xo_assign, xo_pick, xo_alloc, xo_box, xo_build, xo_bslice, xo_load, xo_store, xo_nn, xo_bin, xo_un, xo_conv, xo_mki, xo_mkf, xo_mks, xo_slice, xo_fa, xo_fv, xo_ia, xo_ix, xo_ext, xo_call, xo_panic, extractA, b_lss, b_leq, b_gtr, b_geq, b_eql, b_neq, b_add, b_sub, b_mul, b_and, b_or, b_xor, b_shl, b_shr, b_quo, b_rem, u_not, u_neg, wr_i64, wr_u64, wr_u32, wr_u8, wr_i32, wr_u16, wr_i16, wr_i8, dec_t, dec_f, ieq_t, ieq_f, ine_t, ine_f, blkOf_cells, heap_set_same, heap_set_ne, heap_new_same, heap_new_ne, ASt.set_ctr, ASt.new_ctr, set_set', ic_lit, ic_agg, ic_ptr, ic_iptr, ic_slice, ic_islice, ic_func, ic_iface, boxA, newA, List.all_cons, List.all_nil, Bool.and_self, Bool.and_true, Bool.true_and, cs_lit, cs_agg, cs_ptr, cs_iptr, cs_slice, cs_islice, cs_func, cs_iface, fillA, putL, setsE, eo_lit, eo_agg, eo_ptr, eo_iptr, eo_slice, eo_islice, eo_func, eo_iface, eo_byte, List.set_cons_zero, List.set_cons_succ, List.length_cons, List.length_nil, Nat.reduceBEq, Nat.reduceBNe, beq_self_eq_true, Bool.not_true, Bool.not_false, Nat.zero_add, Nat.reduceMul, List.map_nil, List.drop_succ_cons, List.drop_zero, List.take_succ_cons, List.take_zero, List.nil_append, List.cons_append, Int.toNat_natCast, sl_set, sl_get, sl_len, upd_app, valOf_lit, ite_t, ite_f, Tryd.f8] <;> rfl, rfl⟩
    · have c2 := long_rw (l := rowB' t t) (st := st') (by rw [rowB_len]; omega) (by rw [rowB_len]; omega)
      refine aw_run 0 (by simp (maxSteps := 5000000) (disch := first | assumption | omega | (simp only [ASt.set_ctr, ASt.new_ctr] <;> omega)) only [S8_0_e.down, S8_1_e.down, S8_2_e.down, cf_24, o_cv_5_3, o_leni_55, o_lens_55, o_lenn_55, o_ixi_55, o_ixs_55, o_st_5, hint_8_26, cf_25, o_leni_46, o_lens_46, o_lenn_46, o_ixi_46, o_ixs_46, o_fap_52_3, o_fai_52_3, o_ldp_3, o_ldi_3, AVal.undef, sbn1, sbn2, aexec, aops, aop, Region.wanted, aeval, aput, aseq, ablock, ahint, absOf, flat, nilCheckA, ANext.ofP, evals, evalPs, evalO, aresults, aresults1, aresult, aend, Option.map_some, Option.bind_some, if_true, if_false, ↓reduceIte, Nat.reduceLT, Nat.reduceEqDiff, reduceCtorEq, Bool.false_eq_true, false_and, and_false, and_true, true_and, Nat.reduceAdd, Nat.reduceLeDiff, callA, List.getElem?_toArray, List.getElem?_cons_succ, List.getElem?_cons_zero, sb1, sb2, sb3, sb4, sliceU_i, sliceU_s, sliceU_p, sliceU_l, evalV, ayielded_eq, slotOf_eq, dstOf, yieldB, xo_move, xo_assign, xo_pick, xo_alloc, xo_box, xo_build, xo_bslice, xo_load, xo_store, xo_nn, xo_bin, xo_un, xo_conv, xo_mki, xo_mkf, xo_mks, xo_slice, xo_fa, xo_fv, xo_ia, xo_ix, xo_ext, xo_call, xo_panic, extractA, b_lss, b_leq, b_gtr, b_geq, b_eql, b_neq, b_add, b_sub, b_mul, b_and, b_or, b_xor, b_shl, b_shr, b_quo, b_rem, u_not, u_neg, wr_i64, wr_u64, wr_u32, wr_u8, wr_i32, wr_u16, wr_i16, wr_i8, dec_t, dec_f, ieq_t, ieq_f, ine_t, ine_f, blkOf_cells, heap_set_same, heap_set_ne, heap_new_same, heap_new_ne, ASt.set_ctr, ASt.new_ctr, set_set', ic_lit, ic_agg, ic_ptr, ic_iptr, ic_slice, ic_islice, ic_func, ic_iface, boxA, newA, List.all_cons, List.all_nil, Bool.and_self, Bool.and_true, Bool.true_and, cs_lit, cs_agg, cs_ptr, cs_iptr, cs_slice, cs_islice, cs_func, cs_iface, fillA, putL, setsE, eo_lit, eo_agg, eo_ptr, eo_iptr, eo_slice, eo_islice, eo_func, eo_iface, eo_byte, List.set_cons_zero, List.set_cons_succ, List.length_cons, List.length_nil, Nat.reduceBEq, Nat.reduceBNe, beq_self_eq_true, Bool.not_true, Bool.not_false, Nat.zero_add, Nat.reduceMul, List.map_nil, List.drop_succ_cons, List.drop_zero, List.take_succ_cons, List.take_zero, List.nil_append, List.cons_append, Int.toNat_natCast, sl_set, sl_get, sl_len, upd_app, valOf_lit, ite_t, ite_f, h3, cv, c2, LB, tz] <;> rfl) ?_
      exact ⟨_, _, by simp only [AVal.undef, sbn1, sbn2, aexec, aops, aop, Region.wanted, aeval, aput, aseq, ablock, ahint, absOf, flat, nilCheckA, ANext.ofP, evals, evalPs, evalO, aresults, aresults1, aresult, aend, Option.map_some, Option.bind_some, if_true, if_false, ↓reduceIte, Nat.reduceLT, Nat.reduceEqDiff, reduceCtorEq, Bool.false_eq_true, false_and, and_false, and_true, true_and, Nat.reduceAdd, Nat.reduceLeDiff, callA, List.getElem?_toArray, List.getElem?_cons_succ, List.getElem?_cons_zero, sb1, sb2, sb3, sb4, sliceU_i, sliceU_s, sliceU_p, sliceU_l, evalV, ayielded_eq, slotOf_eq, dstOf, yieldB, xo_move, xo_assign, xo_pick, xo_alloc, xo_box, xo_build, xo_bslice, xo_load, xo_store, xo_nn, xo_bin, xo_un, xo_conv, xo_mki, xo_mkf, xo_mks, xo_slice, xo_fa, xo_fv, xo_ia, xo_ix, xo_ext, xo_call, xo_panic, extractA, b_lss, b_leq, b_gtr, b_geq, b_eql, b_neq, b_add, b_sub, b_mul, b_and, b_or, b_xor, b_shl, b_shr, b_quo, b_rem, u_not, u_neg, wr_i64, wr_u64, wr_u32, wr_u8, wr_i32, wr_u16, wr_i16, wr_i8, dec_t, dec_f, ieq_t, ieq_f, ine_t, ine_f, blkOf_cells, heap_set_same, heap_set_ne, heap_new_same, heap_new_ne, ASt.set_ctr, ASt.new_ctr, set_set', ic_lit, ic_agg, ic_ptr, ic_iptr, ic_slice, ic_islice, ic_func, ic_iface, boxA, newA, List.all_cons, List.all_nil, Bool.and_self, Bool.and_true, Bool.true_and, cs_lit, cs_agg, cs_ptr, cs_iptr, cs_slice, cs_islice, cs_func, cs_iface, fillA, putL, setsE, eo_lit, eo_agg, eo_ptr, eo_iptr, eo_slice, eo_islice, eo_func, eo_iface, eo_byte, List.set_cons_zero, List.set_cons_succ, List.length_cons, List.length_nil, Nat.reduceBEq, Nat.reduceBNe, beq_self_eq_true, Bool.not_true, Bool.not_false, Nat.zero_add, Nat.reduceMul, List.map_nil, List.drop_succ_cons, List.drop_zero, List.take_succ_cons, List.take_zero, List.nil_append, List.cons_append, Int.toNat_natCast, sl_set, sl_get, sl_len, upd_app, valOf_lit, ite_t, ite_f, Tryd.f8] <;> rfl, rfl⟩
end Go.Proofs.YtlpdplchcpkajaaDoorV
