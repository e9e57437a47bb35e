/- Rows of marks as a function gets them; IndexFunc, SortFunc of marks, walked. No condition. -/
import Derived.Test.YtcaokdlmolnbaaaJ18
namespace Go.Proofs.YtcaokdlmolnbaaaV
open Go Go.RowKit Go.Proofs.YtcaokdlmolnbaaaA
set_option linter.unusedVariables false
set_option linter.unusedSimpArgs false
set_option maxRecDepth 100000

section
variable {P : Program} {t e : TypeId} {agg : Bool} {sz : Nat} {st : ASt}
theorem app_nil_mut (h : SlT P t e agg sz) {ns : List AVal} {x : AVal} (hx : srcA P e t agg sz st x = some ns) (hne : ns ≠ []) (hl : ns.length ≤ 1073741824) :
    appendA P true t t .nilSlice x st = some (.slice st.ctr 0 ns.length sz none, st.new (.cells (flatE ns))) := by
  obtain ⟨i, z, hi, rfl, hb, hz, hzk⟩ := h.info
  refine app_of ?_
  unfold appendA0 AVal.nilSlice
  rw [h.elem]
  simp only [hi, h.aggT, hz]
  rw [if_pos ⟨h.pos, hb, hzk⟩, hx]
  simp only
  rw [if_neg hne, if_pos hl]
  rfl
theorem app_slice (h : SlT P t e agg sz) {es ns cs : List AVal} {x : AVal} {s off : Nat} {mt : Bool} (hs : st.heap s = some (.cells cs)) (hc : chunkA P e sz cs off es.length = some es) (he : es.all (elemOk agg sz) = true)
    (hx : srcA P e t agg sz st x = some ns) (hne : ns ≠ []) (hl : es.length + ns.length ≤ 1073741824) :
    appendA P mt t t (.slice s off es.length sz none) x st = some (.slice st.ctr 0 (es ++ ns).length sz none, (st.set s none).new (.cells (flatE (es ++ ns)))) := by
  obtain ⟨i, z, hi, rfl, hb, hz, hzk⟩ := h.info
  refine app_of ?_
  unfold appendA0
  rw [h.elem]
  simp only [hi, h.aggT, hz]
  rw [if_pos ⟨h.pos, hb, hzk⟩, hx]
  simp only
  rw [if_neg hne, if_pos ⟨trivial, hl⟩, hs]
  simp only [hc]
  rw [if_pos he]
  rfl
end

theorem markT : SlT E.P 29 40 true 2 := ⟨rfl, rfl, ⟨_, _, rfl, rfl, by decide, rfl, rfl⟩, by decide⟩
theorem marks_ok (l : List Mk) : (l.map Mk.a).all (elemOk true 2) = true := by
  rw [List.all_eq_true]
  intro x hx
  obtain ⟨n, _, rfl⟩ := List.mem_map.1 hx
  rfl
theorem flatE_marks : ∀ l : List Mk, flatE (l.map Mk.a) = flatM l
  | [] => rfl
  | n :: l => by
    have := flatE_marks l
    unfold flatE flatM at *
    rw [List.map_cons, List.flatMap_cons, List.flatMap_cons, this]
    rfl
theorem chunk_marks (cs : List AVal) : ∀ (l : List Mk) (off : Nat) (pre : List AVal), pre.length = off → chunkA E.P 40 2 (pre ++ (flatM l ++ cs)) off l.length = some (l.map Mk.a)
  | [], off, pre, h => rfl
  | n :: l, off, pre, h => by
    have e0 : partA E.P 40 (pre ++ (flatM (n :: l) ++ cs)) off = if off + 2 ≤ (pre ++ (flatM (n :: l) ++ cs)).length then some (.agg (((pre ++ (flatM (n :: l) ++ cs)).drop off).take 2)) else none := rfl
    have e1 : pre ++ (flatM (n :: l) ++ cs) = (pre ++ n.cs) ++ (flatM l ++ cs) := by
      unfold flatM
      rw [List.flatMap_cons]
      simp
    have e2 : ((pre ++ (flatM (n :: l) ++ cs)).drop off).take 2 = n.cs := by
      rw [e1, ← h, List.append_assoc, List.drop_left]
      rfl
    have e3 : off + 2 ≤ (pre ++ (flatM (n :: l) ++ cs)).length := by
      rw [e1]; simp [h, Mk.cs]
    have ih := chunk_marks cs l (off + 2) (pre ++ n.cs) (by simp [h, Mk.cs])
    rw [List.length_cons, chunkA, e0, if_pos e3, e2, e1, ih]
    rfl

/-- a row of marks, as a function gets it -/
def MS (st : ASt) (v : AVal) (l : List Mk) : Prop := (∃ a, v = .lit (.slice a 0 0) ∧ l = []) ∨ (∃ c, v = .islice 2 (l.map Mk.a) c) ∨ ∃ s, v = rowM s l.length ∧ (l ≠ [] → s < st.ctr ∧ st.heap s = some (.cells (flatM l)))
theorem MS.gr {st st' : ASt} {v : AVal} {l : List Mk} (h : MS st v l) (hg : Gr st st') : MS st' v l := by
  rcases h with h | h | ⟨s, e, h1⟩
  · exact .inl h
  · exact .inr (.inl h)
  · exact .inr (.inr ⟨s, e, fun hn => ⟨Nat.lt_of_lt_of_le (h1 hn).1 hg.1, by rw [hg.2 s (h1 hn).1]; exact (h1 hn).2⟩⟩)
theorem ms_len {st : ASt} {v : AVal} {l : List Mk} (h : MS st v l) (mt : Bool) (ty : TypeId) (cs : Array Bool) (st2 : ASt) : builtinA E.P mt .len #[29] ty cs [v] st2 = some (.val (.lit (.int .i64 (l.length : Int))) st2) := by
  rcases h with ⟨a, rfl, rfl⟩ | ⟨c, rfl⟩ | ⟨s, rfl, _⟩
  · exact len_nil rfl _ _ _ _ _
  · have e : builtinA E.P mt .len #[29] ty cs [.islice 2 (l.map Mk.a) c] st2 = some (.val (.lit (.int .i64 ((l.map Mk.a).length : Int))) st2) := rfl
    rw [e, List.length_map]
  · rfl
theorem ms_at {st : ASt} {v : AVal} {l : List Mk} (h : MS st v l) {i : Nat} (hi : i < l.length) : ∃ p, indexA E.P 29 v (.lit (.int .i64 (i : Int))) = some p ∧ p.isCell = true ∧ ∀ st', Gr st st' → loadA E.P 40 st' p = some l[i].a := by
  rcases h with ⟨a, rfl, rfl⟩ | ⟨c, rfl⟩ | ⟨s, rfl, h12⟩
  · simp at hi
  · have e : indexA E.P 29 (.islice 2 (l.map Mk.a) c) (.lit (.int .i64 (i : Int))) = if 0 ≤ (i : Int) ∧ (i : Int) < ((l.map Mk.a).length : Int) ∧ some 2 = some 2 then (((l.map Mk.a)[(i : Int).toNat]?).map .iptr) else none := rfl
    refine ⟨_, by rw [e, if_pos ⟨by omega, by rw [List.length_map]; omega, rfl⟩, Int.toNat_natCast, List.getElem?_map, List.getElem?_eq_getElem hi]; rfl, rfl, fun st' _ => rfl⟩
  · obtain ⟨h1, h2⟩ := h12 (fun e => by rw [e] at hi; exact absurd hi (Nat.not_lt_zero _))
    exact ⟨_, idxM hi, rfl, fun st' hg => ldM (by rw [hg.2 s h1]; exact h2) hi⟩

/-- marks so far, in a row of their own, laid later than base -/
def OM (base st : ASt) (v : AVal) (l : List Mk) : Prop := (v = .nilSlice ∧ l = []) ∨ ∃ s, v = rowM s l.length ∧ base.ctr ≤ s ∧ s < st.ctr ∧ st.heap s = some (.cells (flatM l))
theorem OM.ms {base st : ASt} {v : AVal} {l : List Mk} (h : OM base st v l) : MS st v l := by
  rcases h with ⟨rfl, rfl⟩ | ⟨s, e, _, h1, h2⟩
  · exact .inl ⟨none, rfl, rfl⟩
  · exact .inr (.inr ⟨s, e, fun _ => ⟨h1, h2⟩⟩)
theorem OM.gr {base st st' : ASt} {v : AVal} {l : List Mk} (h : OM base st v l) (hg : Gr st st') : OM base st' v l := by
  rcases h with h | ⟨s, e, h0, h1, h2⟩
  · exact .inl h
  · exact .inr ⟨s, e, h0, Nat.lt_of_lt_of_le h1 hg.1, by rw [hg.2 s h1]; exact h2⟩
theorem om_app {base st : ASt} {v : AVal} {l : List Mk} {m : Mk} (h : OM base st v l) (hb : Gr base st) (hl : l.length ≤ 100000) : ∃ v' st', appendA E.P true 29 29 v (.islice 2 [m.a] .exact) st = some (v', st') ∧ OM base st' v' (l ++ [m]) ∧ Gr base st' := by
  have hx : srcA E.P 40 29 true 2 st (.islice 2 ([m].map Mk.a) .exact) = some ([m].map Mk.a) := src_islice markT (marks_ok [m])
  rcases h with ⟨rfl, rfl⟩ | ⟨s, rfl, h0, h1, h2⟩
  · refine ⟨_, _, app_nil_mut markT hx (by simp) (by simp), .inr ⟨st.ctr, rfl, hb.1, by simp [ASt.new], ?_⟩, hb.trans (Gr.new _ _)⟩
    rw [flatE_marks]; simp [ASt.new]
  · have hc := chunk_marks [] l 0 [] rfl
    rw [List.append_nil, List.nil_append] at hc
    have ha := app_slice (mt := true) markT (es := l.map Mk.a) h2 (by rw [List.length_map]; exact hc) (marks_ok l) hx (by simp) (by simp; omega)
    rw [List.length_map] at ha
    refine ⟨_, _, ha, .inr ⟨st.ctr, by simp [rowM], hb.1, by simp [ASt.new, ASt.set], ?_⟩, ⟨?_, fun j hj => ?_⟩⟩
    · rw [← List.map_append, flatE_marks]
      simp [ASt.new, ASt.set]
    · have := hb.1; simp [ASt.new, ASt.set]; omega
    · have h4 := hb.1
      rw [ASt.new_ne _ _ _ (by simp [ASt.set]; omega), ASt.set_ne _ _ _ _ (by omega), hb.2 j hj]

/-! ### IndexFunc -/
/-- the function handed over: is it this mark's object? -/
def cloF (c : Nat) : AVal := .func (.func 32) [] [.ptr c 0]
theorem cf_clo (a : List AVal) (st : ASt) : callFuncA E.P 32 a st = some (.enter 32 a st) := rfl
theorem cw_clo {x0 x1 : AVal} {st : ASt} {R : AEnd → ASt → Prop} (h : ∀ g : Nat → AVal, g 0 = x0 → g 1 = x1 → Wp E 32 C32 (Sl 9 g) st (fun e ts st => ∃ r st', aend E Try.f32 (some (e, ts, st)) = some (r, st') ∧ R r st')) : ∃ r st', rw E 32 [x0, x1] st = some (r, st') ∧ R r st' :=
  cx_of (fn := Try.f32) (c := C32) rfl rfl rfl (Nat.le_of_ble_eq_true rfl) fun g hg => h g (hg 0 x0 rfl) (hg 1 x1 rfl)
theorem clo_rw {x m : Mk} {c : Nat} {st : ASt} (hc : st.heap c = some (.cells m.cs)) (hlt : c < st.ctr) : ∃ r st', rw E 32 [x.a, .ptr c 0] st = some (r, st') ∧ r = .returned (.lit (.bool (decide (x.ob = m.ob)))) ∧ Gr st st' := by
  have l1 : ∀ b, loadA E.P 3 (st.new b) (.ptr c 0) = some (.lit (.int .i64 m.ob)) := fun b => box_l (by rw [ASt.new_ne _ _ _ (by omega)]; exact hc)
  have l2 : loadA E.P 3 (st.new (.cells x.cs)) (.ptr st.ctr 0) = some (.lit (.int .i64 x.ob)) := box_l (ASt.new_same _ _)
  refine cw_clo fun g t0 t1 => C32_wp ?_
  refine aw_run 0 (by simp (maxSteps := 5000000) (disch := first | assumption | omega | (simp only [ASt.set_ctr, ASt.new_ctr] <;> omega)) only [S32_0_e.down, o_fap_40_0, o_fai_40_0, o_ldp_3, o_ldi_3, AVal.undef, sbn1, sbn2, aexec, aops, aop, Region.wanted, aeval, aput, aseq, ablock, ahint, absOf, flat, nilCheckA, ANext.ofP, evals, evalPs, evalO, aresults, aresults1, aresult, aend, Option.map_some, Option.bind_some, if_true, if_false, ↓reduceIte, Nat.reduceLT, Nat.reduceEqDiff, reduceCtorEq, Bool.false_eq_true, false_and, and_false, and_true, true_and, Nat.reduceAdd, Nat.reduceLeDiff, callA, List.getElem?_toArray, List.getElem?_cons_succ, List.getElem?_cons_zero, sb1, sb2, sb3, sb4, sliceU_i, sliceU_s, sliceU_p, sliceU_l, evalV, ayielded_eq, slotOf_eq, dstOf, yieldB, xo_move, xo_assign, xo_pick, xo_alloc, xo_box, xo_build, xo_bslice, xo_load, xo_store, xo_nn, xo_bin, xo_un, xo_conv, xo_mki, xo_mkf, xo_mks, xo_slice, xo_fa, xo_fv, xo_ia, xo_ix, xo_ext, xo_call, xo_panic, extractA, b_lss, b_leq, b_gtr, b_geq, b_eql, b_neq, b_add, b_sub, b_mul, b_and, b_or, b_xor, b_shl, b_shr, b_quo, b_rem, u_not, u_neg, wr_i64, wr_u64, wr_u32, wr_u8, wr_i32, wr_u16, wr_i16, wr_i8, dec_t, dec_f, ieq_t, ieq_f, ine_t, ine_f, blkOf_cells, heap_set_same, heap_set_ne, heap_new_same, heap_new_ne, ASt.set_ctr, ASt.new_ctr, set_set', ic_lit, ic_agg, ic_ptr, ic_iptr, ic_slice, ic_islice, ic_func, ic_iface, boxA, newA, List.all_cons, List.all_nil, Bool.and_self, Bool.and_true, Bool.true_and, cs_lit, cs_agg, cs_ptr, cs_iptr, cs_slice, cs_islice, cs_func, cs_iface, fillA, putL, setsE, eo_lit, eo_agg, eo_ptr, eo_iptr, eo_slice, eo_islice, eo_func, eo_iface, eo_byte, List.set_cons_zero, List.set_cons_succ, List.length_cons, List.length_nil, Nat.reduceBEq, Nat.reduceBNe, beq_self_eq_true, Bool.not_true, Bool.not_false, Nat.zero_add, Nat.reduceMul, List.map_nil, List.drop_succ_cons, List.drop_zero, List.take_succ_cons, List.take_zero, List.nil_append, List.cons_append, Int.toNat_natCast, sl_set, sl_get, sl_len, upd_app, valOf_lit, ite_t, ite_f, t0, t1, box_c, box_e, box_f, l1, l2] <;> rfl) ?_
  exact ⟨_, _, by simp only [AVal.undef, sbn1, sbn2, aexec, aops, aop, Region.wanted, aeval, aput, aseq, ablock, ahint, absOf, flat, nilCheckA, ANext.ofP, evals, evalPs, evalO, aresults, aresults1, aresult, aend, Option.map_some, Option.bind_some, if_true, if_false, ↓reduceIte, Nat.reduceLT, Nat.reduceEqDiff, reduceCtorEq, Bool.false_eq_true, false_and, and_false, and_true, true_and, Nat.reduceAdd, Nat.reduceLeDiff, callA, List.getElem?_toArray, List.getElem?_cons_succ, List.getElem?_cons_zero, sb1, sb2, sb3, sb4, sliceU_i, sliceU_s, sliceU_p, sliceU_l, evalV, ayielded_eq, slotOf_eq, dstOf, yieldB, xo_move, xo_assign, xo_pick, xo_alloc, xo_box, xo_build, xo_bslice, xo_load, xo_store, xo_nn, xo_bin, xo_un, xo_conv, xo_mki, xo_mkf, xo_mks, xo_slice, xo_fa, xo_fv, xo_ia, xo_ix, xo_ext, xo_call, xo_panic, extractA, b_lss, b_leq, b_gtr, b_geq, b_eql, b_neq, b_add, b_sub, b_mul, b_and, b_or, b_xor, b_shl, b_shr, b_quo, b_rem, u_not, u_neg, wr_i64, wr_u64, wr_u32, wr_u8, wr_i32, wr_u16, wr_i16, wr_i8, dec_t, dec_f, ieq_t, ieq_f, ine_t, ine_f, blkOf_cells, heap_set_same, heap_set_ne, heap_new_same, heap_new_ne, ASt.set_ctr, ASt.new_ctr, set_set', ic_lit, ic_agg, ic_ptr, ic_iptr, ic_slice, ic_islice, ic_func, ic_iface, boxA, newA, List.all_cons, List.all_nil, Bool.and_self, Bool.and_true, Bool.true_and, cs_lit, cs_agg, cs_ptr, cs_iptr, cs_slice, cs_islice, cs_func, cs_iface, fillA, putL, setsE, eo_lit, eo_agg, eo_ptr, eo_iptr, eo_slice, eo_islice, eo_func, eo_iface, eo_byte, List.set_cons_zero, List.set_cons_succ, List.length_cons, List.length_nil, Nat.reduceBEq, Nat.reduceBNe, beq_self_eq_true, Bool.not_true, Bool.not_false, Nat.zero_add, Nat.reduceMul, List.map_nil, List.drop_succ_cons, List.drop_zero, List.take_succ_cons, List.take_zero, List.nil_append, List.cons_append, Int.toNat_natCast, sl_set, sl_get, sl_len, upd_app, valOf_lit, ite_t, ite_f, Try.f32] <;> rfl, rfl, Gr.new _ _⟩

set_option maxHeartbeats 1000000 in
theorem idx_rw {v : AVal} {l : List Mk} {m : Mk} {c : Nat} {st : ASt} (hv : MS st v l) (hl : l.length ≤ 100000) (hc : st.heap c = some (.cells m.cs)) (hlt : c < st.ctr) :
    ∃ r st', rw E 31 [v, cloF c] st = some (r, st') ∧ Gr st st' ∧ ((∃ i : Nat, r = .returned (.lit (.int .i64 (i : Int))) ∧ i < l.length ∧ ky l i = m.ob) ∨ (r = .returned (.lit (.int .i64 (-1))) ∧ ∀ k, k < l.length → ky l k ≠ m.ob)) := by
  have L := ms_len hv
  refine cx_31 fun g t0 t1 => C31_wp ?_
  refine aw_run 0 (by simp (maxSteps := 5000000) (disch := first | assumption | omega | (simp only [ASt.set_ctr, ASt.new_ctr] <;> omega)) only [S31_0_e.down, S31_1_e.down, S31_2_e.down, o_leni_29, o_lens_29, o_lenn_29, o_ixi_29, o_ixs_29, o_ldp_40, o_ldi_40, AVal.undef, sbn1, sbn2, aexec, aops, aop, Region.wanted, aeval, aput, aseq, ablock, ahint, absOf, flat, nilCheckA, ANext.ofP, evals, evalPs, evalO, aresults, aresults1, aresult, aend, Option.map_some, Option.bind_some, if_true, if_false, ↓reduceIte, Nat.reduceLT, Nat.reduceEqDiff, reduceCtorEq, Bool.false_eq_true, false_and, and_false, and_true, true_and, Nat.reduceAdd, Nat.reduceLeDiff, callA, List.getElem?_toArray, List.getElem?_cons_succ, List.getElem?_cons_zero, sb1, sb2, sb3, sb4, sliceU_i, sliceU_s, sliceU_p, sliceU_l, evalV, ayielded_eq, slotOf_eq, dstOf, yieldB, xo_move, xo_assign, xo_pick, xo_alloc, xo_box, xo_build, xo_bslice, xo_load, xo_store, xo_nn, xo_bin, xo_un, xo_conv, xo_mki, xo_mkf, xo_mks, xo_slice, xo_fa, xo_fv, xo_ia, xo_ix, xo_ext, xo_call, xo_panic, extractA, b_lss, b_leq, b_gtr, b_geq, b_eql, b_neq, b_add, b_sub, b_mul, b_and, b_or, b_xor, b_shl, b_shr, b_quo, b_rem, u_not, u_neg, wr_i64, wr_u64, wr_u32, wr_u8, wr_i32, wr_u16, wr_i16, wr_i8, dec_t, dec_f, ieq_t, ieq_f, ine_t, ine_f, blkOf_cells, heap_set_same, heap_set_ne, heap_new_same, heap_new_ne, ASt.set_ctr, ASt.new_ctr, set_set', ic_lit, ic_agg, ic_ptr, ic_iptr, ic_slice, ic_islice, ic_func, ic_iface, boxA, newA, List.all_cons, List.all_nil, Bool.and_self, Bool.and_true, Bool.true_and, cs_lit, cs_agg, cs_ptr, cs_iptr, cs_slice, cs_islice, cs_func, cs_iface, fillA, putL, setsE, eo_lit, eo_agg, eo_ptr, eo_iptr, eo_slice, eo_islice, eo_func, eo_iface, eo_byte, List.set_cons_zero, List.set_cons_succ, List.length_cons, List.length_nil, Nat.reduceBEq, Nat.reduceBNe, beq_self_eq_true, Bool.not_true, Bool.not_false, Nat.zero_add, Nat.reduceMul, List.map_nil, List.drop_succ_cons, List.drop_zero, List.take_succ_cons, List.take_zero, List.nil_append, List.cons_append, Int.toNat_natCast, sl_set, sl_get, sl_len, upd_app, valOf_lit, ite_t, ite_f, t0, t1, L] <;> rfl) ?_
  refine aw_forS (fun k f st' => ∃ (t : Nat), k = l.length - t ∧ t ≤ l.length ∧ f 0 = v ∧ f 1 = cloF c ∧ f 7 = .lit (.int .i64 (l.length : Int)) ∧ f 8 = .lit (.int .i64 (t : Int)) ∧ Gr st st' ∧ ∀ k, k < t → ky l k ≠ m.ob)
    (fun k f st' hI => L31_0_wp ?_) l.length _ _ ⟨0, rfl, Nat.zero_le _, t0, t1, rfl, rfl, Gr.refl _, fun k hk => absurd hk (Nat.not_lt_zero _)⟩
  obtain ⟨t, rfl, htl, h0, h1, h7, h8, hG, hno⟩ := hI
  by_cases ht : t < l.length
  · obtain ⟨p, e1, _, e2⟩ := ms_at hv ht
    have e3 := e2 st' hG
    obtain ⟨_, st2, c1, rfl, g2⟩ := clo_rw (x := l[t]) (m := m) (c := c) (st := st') (by rw [hG.2 c hlt]; exact hc) (Nat.lt_of_lt_of_le hlt hG.1)
    have ha : (t : Int) + 1 = ((t + 1 : Nat) : Int) := by omega
    by_cases hk : l[t].ob = m.ob
    · have d1 : decide (l[t].ob = m.ob) = true := decide_eq_true hk
      refine aw_run 0 (by simp (maxSteps := 5000000) (disch := first | assumption | omega | (simp only [ASt.set_ctr, ASt.new_ctr] <;> omega)) only [S31_0_e.down, S31_1_e.down, S31_2_e.down, o_leni_29, o_lens_29, o_lenn_29, o_ixi_29, o_ixs_29, o_ldp_40, o_ldi_40, AVal.undef, sbn1, sbn2, aexec, aops, aop, Region.wanted, aeval, aput, aseq, ablock, ahint, absOf, flat, nilCheckA, ANext.ofP, evals, evalPs, evalO, aresults, aresults1, aresult, aend, Option.map_some, Option.bind_some, if_true, if_false, ↓reduceIte, Nat.reduceLT, Nat.reduceEqDiff, reduceCtorEq, Bool.false_eq_true, false_and, and_false, and_true, true_and, Nat.reduceAdd, Nat.reduceLeDiff, callA, List.getElem?_toArray, List.getElem?_cons_succ, List.getElem?_cons_zero, sb1, sb2, sb3, sb4, sliceU_i, sliceU_s, sliceU_p, sliceU_l, evalV, ayielded_eq, slotOf_eq, dstOf, yieldB, xo_move, xo_assign, xo_pick, xo_alloc, xo_box, xo_build, xo_bslice, xo_load, xo_store, xo_nn, xo_bin, xo_un, xo_conv, xo_mki, xo_mkf, xo_mks, xo_slice, xo_fa, xo_fv, xo_ia, xo_ix, xo_ext, xo_call, xo_panic, extractA, b_lss, b_leq, b_gtr, b_geq, b_eql, b_neq, b_add, b_sub, b_mul, b_and, b_or, b_xor, b_shl, b_shr, b_quo, b_rem, u_not, u_neg, wr_i64, wr_u64, wr_u32, wr_u8, wr_i32, wr_u16, wr_i16, wr_i8, dec_t, dec_f, ieq_t, ieq_f, ine_t, ine_f, blkOf_cells, heap_set_same, heap_set_ne, heap_new_same, heap_new_ne, ASt.set_ctr, ASt.new_ctr, set_set', ic_lit, ic_agg, ic_ptr, ic_iptr, ic_slice, ic_islice, ic_func, ic_iface, boxA, newA, List.all_cons, List.all_nil, Bool.and_self, Bool.and_true, Bool.true_and, cs_lit, cs_agg, cs_ptr, cs_iptr, cs_slice, cs_islice, cs_func, cs_iface, fillA, putL, setsE, eo_lit, eo_agg, eo_ptr, eo_iptr, eo_slice, eo_islice, eo_func, eo_iface, eo_byte, List.set_cons_zero, List.set_cons_succ, List.length_cons, List.length_nil, Nat.reduceBEq, Nat.reduceBNe, beq_self_eq_true, Bool.not_true, Bool.not_false, Nat.zero_add, Nat.reduceMul, List.map_nil, List.drop_succ_cons, List.drop_zero, List.take_succ_cons, List.take_zero, List.nil_append, List.cons_append, Int.toNat_natCast, sl_set, sl_get, sl_len, upd_app, valOf_lit, ite_t, ite_f, h0, h1, h7, h8, e1, e3, cloF, cf_clo, c1, d1] <;> rfl) ?_
      exact ⟨_, _, by simp only [AVal.undef, sbn1, sbn2, aexec, aops, aop, Region.wanted, aeval, aput, aseq, ablock, ahint, absOf, flat, nilCheckA, ANext.ofP, evals, evalPs, evalO, aresults, aresults1, aresult, aend, Option.map_some, Option.bind_some, if_true, if_false, ↓reduceIte, Nat.reduceLT, Nat.reduceEqDiff, reduceCtorEq, Bool.false_eq_true, false_and, and_false, and_true, true_and, Nat.reduceAdd, Nat.reduceLeDiff, callA, List.getElem?_toArray, List.getElem?_cons_succ, List.getElem?_cons_zero, sb1, sb2, sb3, sb4, sliceU_i, sliceU_s, sliceU_p, sliceU_l, evalV, ayielded_eq, slotOf_eq, dstOf, yieldB, xo_move, xo_assign, xo_pick, xo_alloc, xo_box, xo_build, xo_bslice, xo_load, xo_store, xo_nn, xo_bin, xo_un, xo_conv, xo_mki, xo_mkf, xo_mks, xo_slice, xo_fa, xo_fv, xo_ia, xo_ix, xo_ext, xo_call, xo_panic, extractA, b_lss, b_leq, b_gtr, b_geq, b_eql, b_neq, b_add, b_sub, b_mul, b_and, b_or, b_xor, b_shl, b_shr, b_quo, b_rem, u_not, u_neg, wr_i64, wr_u64, wr_u32, wr_u8, wr_i32, wr_u16, wr_i16, wr_i8, dec_t, dec_f, ieq_t, ieq_f, ine_t, ine_f, blkOf_cells, heap_set_same, heap_set_ne, heap_new_same, heap_new_ne, ASt.set_ctr, ASt.new_ctr, set_set', ic_lit, ic_agg, ic_ptr, ic_iptr, ic_slice, ic_islice, ic_func, ic_iface, boxA, newA, List.all_cons, List.all_nil, Bool.and_self, Bool.and_true, Bool.true_and, cs_lit, cs_agg, cs_ptr, cs_iptr, cs_slice, cs_islice, cs_func, cs_iface, fillA, putL, setsE, eo_lit, eo_agg, eo_ptr, eo_iptr, eo_slice, eo_islice, eo_func, eo_iface, eo_byte, List.set_cons_zero, List.set_cons_succ, List.length_cons, List.length_nil, Nat.reduceBEq, Nat.reduceBNe, beq_self_eq_true, Bool.not_true, Bool.not_false, Nat.zero_add, Nat.reduceMul, List.map_nil, List.drop_succ_cons, List.drop_zero, List.take_succ_cons, List.take_zero, List.nil_append, List.cons_append, Int.toNat_natCast, sl_set, sl_get, sl_len, upd_app, valOf_lit, ite_t, ite_f, Try.f31] <;> rfl, hG.trans g2, .inl ⟨t, rfl, ht, by rw [ky_at ht]; exact hk⟩⟩
    · have d1 : decide (l[t].ob = m.ob) = false := decide_eq_false hk
      refine aw_run 0 (by simp (maxSteps := 5000000) (disch := first | assumption | omega | (simp only [ASt.set_ctr, ASt.new_ctr] <;> omega)) only [S31_0_e.down, S31_1_e.down, S31_2_e.down, o_leni_29, o_lens_29, o_lenn_29, o_ixi_29, o_ixs_29, o_ldp_40, o_ldi_40, AVal.undef, sbn1, sbn2, aexec, aops, aop, Region.wanted, aeval, aput, aseq, ablock, ahint, absOf, flat, nilCheckA, ANext.ofP, evals, evalPs, evalO, aresults, aresults1, aresult, aend, Option.map_some, Option.bind_some, if_true, if_false, ↓reduceIte, Nat.reduceLT, Nat.reduceEqDiff, reduceCtorEq, Bool.false_eq_true, false_and, and_false, and_true, true_and, Nat.reduceAdd, Nat.reduceLeDiff, callA, List.getElem?_toArray, List.getElem?_cons_succ, List.getElem?_cons_zero, sb1, sb2, sb3, sb4, sliceU_i, sliceU_s, sliceU_p, sliceU_l, evalV, ayielded_eq, slotOf_eq, dstOf, yieldB, xo_move, xo_assign, xo_pick, xo_alloc, xo_box, xo_build, xo_bslice, xo_load, xo_store, xo_nn, xo_bin, xo_un, xo_conv, xo_mki, xo_mkf, xo_mks, xo_slice, xo_fa, xo_fv, xo_ia, xo_ix, xo_ext, xo_call, xo_panic, extractA, b_lss, b_leq, b_gtr, b_geq, b_eql, b_neq, b_add, b_sub, b_mul, b_and, b_or, b_xor, b_shl, b_shr, b_quo, b_rem, u_not, u_neg, wr_i64, wr_u64, wr_u32, wr_u8, wr_i32, wr_u16, wr_i16, wr_i8, dec_t, dec_f, ieq_t, ieq_f, ine_t, ine_f, blkOf_cells, heap_set_same, heap_set_ne, heap_new_same, heap_new_ne, ASt.set_ctr, ASt.new_ctr, set_set', ic_lit, ic_agg, ic_ptr, ic_iptr, ic_slice, ic_islice, ic_func, ic_iface, boxA, newA, List.all_cons, List.all_nil, Bool.and_self, Bool.and_true, Bool.true_and, cs_lit, cs_agg, cs_ptr, cs_iptr, cs_slice, cs_islice, cs_func, cs_iface, fillA, putL, setsE, eo_lit, eo_agg, eo_ptr, eo_iptr, eo_slice, eo_islice, eo_func, eo_iface, eo_byte, List.set_cons_zero, List.set_cons_succ, List.length_cons, List.length_nil, Nat.reduceBEq, Nat.reduceBNe, beq_self_eq_true, Bool.not_true, Bool.not_false, Nat.zero_add, Nat.reduceMul, List.map_nil, List.drop_succ_cons, List.drop_zero, List.take_succ_cons, List.take_zero, List.nil_append, List.cons_append, Int.toNat_natCast, sl_set, sl_get, sl_len, upd_app, valOf_lit, ite_t, ite_f, h0, h1, h7, h8, e1, e3, cloF, cf_clo, c1, d1, ha] <;> rfl) ?_
      refine ⟨_, rfl, l.length - (t + 1), by omega, t + 1, rfl, by omega, h0, h1, h7, rfl, hG.trans g2, fun k hk1 => ?_⟩
      by_cases e : k = t
      · rw [e, ky_at ht]; exact hk
      · exact hno k (by omega)
  · obtain rfl : t = l.length := by omega
    refine aw_run 0 (by simp (maxSteps := 5000000) (disch := first | assumption | omega | (simp only [ASt.set_ctr, ASt.new_ctr] <;> omega)) only [S31_0_e.down, S31_1_e.down, S31_2_e.down, o_leni_29, o_lens_29, o_lenn_29, o_ixi_29, o_ixs_29, o_ldp_40, o_ldi_40, AVal.undef, sbn1, sbn2, aexec, aops, aop, Region.wanted, aeval, aput, aseq, ablock, ahint, absOf, flat, nilCheckA, ANext.ofP, evals, evalPs, evalO, aresults, aresults1, aresult, aend, Option.map_some, Option.bind_some, if_true, if_false, ↓reduceIte, Nat.reduceLT, Nat.reduceEqDiff, reduceCtorEq, Bool.false_eq_true, false_and, and_false, and_true, true_and, Nat.reduceAdd, Nat.reduceLeDiff, callA, List.getElem?_toArray, List.getElem?_cons_succ, List.getElem?_cons_zero, sb1, sb2, sb3, sb4, sliceU_i, sliceU_s, sliceU_p, sliceU_l, evalV, ayielded_eq, slotOf_eq, dstOf, yieldB, xo_move, xo_assign, xo_pick, xo_alloc, xo_box, xo_build, xo_bslice, xo_load, xo_store, xo_nn, xo_bin, xo_un, xo_conv, xo_mki, xo_mkf, xo_mks, xo_slice, xo_fa, xo_fv, xo_ia, xo_ix, xo_ext, xo_call, xo_panic, extractA, b_lss, b_leq, b_gtr, b_geq, b_eql, b_neq, b_add, b_sub, b_mul, b_and, b_or, b_xor, b_shl, b_shr, b_quo, b_rem, u_not, u_neg, wr_i64, wr_u64, wr_u32, wr_u8, wr_i32, wr_u16, wr_i16, wr_i8, dec_t, dec_f, ieq_t, ieq_f, ine_t, ine_f, blkOf_cells, heap_set_same, heap_set_ne, heap_new_same, heap_new_ne, ASt.set_ctr, ASt.new_ctr, set_set', ic_lit, ic_agg, ic_ptr, ic_iptr, ic_slice, ic_islice, ic_func, ic_iface, boxA, newA, List.all_cons, List.all_nil, Bool.and_self, Bool.and_true, Bool.true_and, cs_lit, cs_agg, cs_ptr, cs_iptr, cs_slice, cs_islice, cs_func, cs_iface, fillA, putL, setsE, eo_lit, eo_agg, eo_ptr, eo_iptr, eo_slice, eo_islice, eo_func, eo_iface, eo_byte, List.set_cons_zero, List.set_cons_succ, List.length_cons, List.length_nil, Nat.reduceBEq, Nat.reduceBNe, beq_self_eq_true, Bool.not_true, Bool.not_false, Nat.zero_add, Nat.reduceMul, List.map_nil, List.drop_succ_cons, List.drop_zero, List.take_succ_cons, List.take_zero, List.nil_append, List.cons_append, Int.toNat_natCast, sl_set, sl_get, sl_len, upd_app, valOf_lit, ite_t, ite_f, h0, h1, h7, h8] <;> rfl) ?_
    refine aw_run 0 (by simp (maxSteps := 5000000) (disch := first | assumption | omega | (simp only [ASt.set_ctr, ASt.new_ctr] <;> omega)) only [S31_0_e.down, S31_1_e.down, S31_2_e.down, o_leni_29, o_lens_29, o_lenn_29, o_ixi_29, o_ixs_29, o_ldp_40, o_ldi_40, AVal.undef, sbn1, sbn2, aexec, aops, aop, Region.wanted, aeval, aput, aseq, ablock, ahint, absOf, flat, nilCheckA, ANext.ofP, evals, evalPs, evalO, aresults, aresults1, aresult, aend, Option.map_some, Option.bind_some, if_true, if_false, ↓reduceIte, Nat.reduceLT, Nat.reduceEqDiff, reduceCtorEq, Bool.false_eq_true, false_and, and_false, and_true, true_and, Nat.reduceAdd, Nat.reduceLeDiff, callA, List.getElem?_toArray, List.getElem?_cons_succ, List.getElem?_cons_zero, sb1, sb2, sb3, sb4, sliceU_i, sliceU_s, sliceU_p, sliceU_l, evalV, ayielded_eq, slotOf_eq, dstOf, yieldB, xo_move, xo_assign, xo_pick, xo_alloc, xo_box, xo_build, xo_bslice, xo_load, xo_store, xo_nn, xo_bin, xo_un, xo_conv, xo_mki, xo_mkf, xo_mks, xo_slice, xo_fa, xo_fv, xo_ia, xo_ix, xo_ext, xo_call, xo_panic, extractA, b_lss, b_leq, b_gtr, b_geq, b_eql, b_neq, b_add, b_sub, b_mul, b_and, b_or, b_xor, b_shl, b_shr, b_quo, b_rem, u_not, u_neg, wr_i64, wr_u64, wr_u32, wr_u8, wr_i32, wr_u16, wr_i16, wr_i8, dec_t, dec_f, ieq_t, ieq_f, ine_t, ine_f, blkOf_cells, heap_set_same, heap_set_ne, heap_new_same, heap_new_ne, ASt.set_ctr, ASt.new_ctr, set_set', ic_lit, ic_agg, ic_ptr, ic_iptr, ic_slice, ic_islice, ic_func, ic_iface, boxA, newA, List.all_cons, List.all_nil, Bool.and_self, Bool.and_true, Bool.true_and, cs_lit, cs_agg, cs_ptr, cs_iptr, cs_slice, cs_islice, cs_func, cs_iface, fillA, putL, setsE, eo_lit, eo_agg, eo_ptr, eo_iptr, eo_slice, eo_islice, eo_func, eo_iface, eo_byte, List.set_cons_zero, List.set_cons_succ, List.length_cons, List.length_nil, Nat.reduceBEq, Nat.reduceBNe, beq_self_eq_true, Bool.not_true, Bool.not_false, Nat.zero_add, Nat.reduceMul, List.map_nil, List.drop_succ_cons, List.drop_zero, List.take_succ_cons, List.take_zero, List.nil_append, List.cons_append, Int.toNat_natCast, sl_set, sl_get, sl_len, upd_app, valOf_lit, ite_t, ite_f] <;> rfl) ?_
    exact ⟨_, _, by simp only [AVal.undef, sbn1, sbn2, aexec, aops, aop, Region.wanted, aeval, aput, aseq, ablock, ahint, absOf, flat, nilCheckA, ANext.ofP, evals, evalPs, evalO, aresults, aresults1, aresult, aend, Option.map_some, Option.bind_some, if_true, if_false, ↓reduceIte, Nat.reduceLT, Nat.reduceEqDiff, reduceCtorEq, Bool.false_eq_true, false_and, and_false, and_true, true_and, Nat.reduceAdd, Nat.reduceLeDiff, callA, List.getElem?_toArray, List.getElem?_cons_succ, List.getElem?_cons_zero, sb1, sb2, sb3, sb4, sliceU_i, sliceU_s, sliceU_p, sliceU_l, evalV, ayielded_eq, slotOf_eq, dstOf, yieldB, xo_move, xo_assign, xo_pick, xo_alloc, xo_box, xo_build, xo_bslice, xo_load, xo_store, xo_nn, xo_bin, xo_un, xo_conv, xo_mki, xo_mkf, xo_mks, xo_slice, xo_fa, xo_fv, xo_ia, xo_ix, xo_ext, xo_call, xo_panic, extractA, b_lss, b_leq, b_gtr, b_geq, b_eql, b_neq, b_add, b_sub, b_mul, b_and, b_or, b_xor, b_shl, b_shr, b_quo, b_rem, u_not, u_neg, wr_i64, wr_u64, wr_u32, wr_u8, wr_i32, wr_u16, wr_i16, wr_i8, dec_t, dec_f, ieq_t, ieq_f, ine_t, ine_f, blkOf_cells, heap_set_same, heap_set_ne, heap_new_same, heap_new_ne, ASt.set_ctr, ASt.new_ctr, set_set', ic_lit, ic_agg, ic_ptr, ic_iptr, ic_slice, ic_islice, ic_func, ic_iface, boxA, newA, List.all_cons, List.all_nil, Bool.and_self, Bool.and_true, Bool.true_and, cs_lit, cs_agg, cs_ptr, cs_iptr, cs_slice, cs_islice, cs_func, cs_iface, fillA, putL, setsE, eo_lit, eo_agg, eo_ptr, eo_iptr, eo_slice, eo_islice, eo_func, eo_iface, eo_byte, List.set_cons_zero, List.set_cons_succ, List.length_cons, List.length_nil, Nat.reduceBEq, Nat.reduceBNe, beq_self_eq_true, Bool.not_true, Bool.not_false, Nat.zero_add, Nat.reduceMul, List.map_nil, List.drop_succ_cons, List.drop_zero, List.take_succ_cons, List.take_zero, List.nil_append, List.cons_append, Int.toNat_natCast, sl_set, sl_get, sl_len, upd_app, valOf_lit, ite_t, ite_f, Try.f31] <;> rfl, hG, .inr ⟨rfl, hno⟩⟩

/-! ### SortFunc -/
theorem bl_100 : ∀ {n : Nat}, n ≤ 12 → bl n ≤ 100 := fun {n} h => by
  have h2 : ∀ k ∈ List.range 101, bl k ≤ 100 := by decide
  exact h2 n (List.mem_range.2 (by omega))
set_option maxHeartbeats 1000000 in
theorem sort_rw {s n : Nat} {st : ASt} {ms : List Mk} (hn : n ≤ 12) (hm : ms.length = n) (hU : Un 0 n ms) (hr : st.heap s = some (.cells (flatM ms))) (hs : s < st.ctr) :
    ∃ r st', rw E 33 [rowM s n, byF] st = some (r, st') ∧ r = .returned (.tuple []) ∧ ∃ ms', Rw s st st' ms' ∧ Mv 0 n ms ms' ∧ So 0 n ms' := by
  obtain ⟨_, st2, c1, rfl, ms2, R2, M2, S2⟩ := pdq_rw n (s := s) (n := n) (a := 0) (b := n) (lim := bl n) (st := st) (ms := ms) (by omega) hn hm (Nat.zero_le _) (Nat.le_refl _) (bl_100 hn) trivial hU hr hs
  have c0 := len_rw (n := n) (by omega) st
  have z0 : ((0 : Nat) : Int) = 0 := rfl
  rw [z0] at c1
  have L : ∀ mt ty cs st2, builtinA E.P mt .len #[29] ty cs [rowM s n] st2 = some (.val (.lit (.int .i64 (n : Int))) st2) := fun _ _ _ _ => rfl
  refine cx_33 fun g t0 t1 => C33_wp ?_
  refine aw_run 0 (by simp (maxSteps := 5000000) (disch := first | assumption | omega | (simp only [ASt.set_ctr, ASt.new_ctr] <;> omega)) only [S33_0_e.down, o_leni_29, o_lens_29, o_lenn_29, o_cv_3_72, cf_38, cf_37, AVal.undef, sbn1, sbn2, aexec, aops, aop, Region.wanted, aeval, aput, aseq, ablock, ahint, absOf, flat, nilCheckA, ANext.ofP, evals, evalPs, evalO, aresults, aresults1, aresult, aend, Option.map_some, Option.bind_some, if_true, if_false, ↓reduceIte, Nat.reduceLT, Nat.reduceEqDiff, reduceCtorEq, Bool.false_eq_true, false_and, and_false, and_true, true_and, Nat.reduceAdd, Nat.reduceLeDiff, callA, List.getElem?_toArray, List.getElem?_cons_succ, List.getElem?_cons_zero, sb1, sb2, sb3, sb4, sliceU_i, sliceU_s, sliceU_p, sliceU_l, evalV, ayielded_eq, slotOf_eq, dstOf, yieldB, xo_move, xo_assign, xo_pick, xo_alloc, xo_box, xo_build, xo_bslice, xo_load, xo_store, xo_nn, xo_bin, xo_un, xo_conv, xo_mki, xo_mkf, xo_mks, xo_slice, xo_fa, xo_fv, xo_ia, xo_ix, xo_ext, xo_call, xo_panic, extractA, b_lss, b_leq, b_gtr, b_geq, b_eql, b_neq, b_add, b_sub, b_mul, b_and, b_or, b_xor, b_shl, b_shr, b_quo, b_rem, u_not, u_neg, wr_i64, wr_u64, wr_u32, wr_u8, wr_i32, wr_u16, wr_i16, wr_i8, dec_t, dec_f, ieq_t, ieq_f, ine_t, ine_f, blkOf_cells, heap_set_same, heap_set_ne, heap_new_same, heap_new_ne, ASt.set_ctr, ASt.new_ctr, set_set', ic_lit, ic_agg, ic_ptr, ic_iptr, ic_slice, ic_islice, ic_func, ic_iface, boxA, newA, List.all_cons, List.all_nil, Bool.and_self, Bool.and_true, Bool.true_and, cs_lit, cs_agg, cs_ptr, cs_iptr, cs_slice, cs_islice, cs_func, cs_iface, fillA, putL, setsE, eo_lit, eo_agg, eo_ptr, eo_iptr, eo_slice, eo_islice, eo_func, eo_iface, eo_byte, List.set_cons_zero, List.set_cons_succ, List.length_cons, List.length_nil, Nat.reduceBEq, Nat.reduceBNe, beq_self_eq_true, Bool.not_true, Bool.not_false, Nat.zero_add, Nat.reduceMul, List.map_nil, List.drop_succ_cons, List.drop_zero, List.take_succ_cons, List.take_zero, List.nil_append, List.cons_append, Int.toNat_natCast, sl_set, sl_get, sl_len, upd_app, valOf_lit, ite_t, ite_f, t0, t1, L, c0, c1] <;> rfl) ?_
  exact ⟨_, _, by simp only [AVal.undef, sbn1, sbn2, aexec, aops, aop, Region.wanted, aeval, aput, aseq, ablock, ahint, absOf, flat, nilCheckA, ANext.ofP, evals, evalPs, evalO, aresults, aresults1, aresult, aend, Option.map_some, Option.bind_some, if_true, if_false, ↓reduceIte, Nat.reduceLT, Nat.reduceEqDiff, reduceCtorEq, Bool.false_eq_true, false_and, and_false, and_true, true_and, Nat.reduceAdd, Nat.reduceLeDiff, callA, List.getElem?_toArray, List.getElem?_cons_succ, List.getElem?_cons_zero, sb1, sb2, sb3, sb4, sliceU_i, sliceU_s, sliceU_p, sliceU_l, evalV, ayielded_eq, slotOf_eq, dstOf, yieldB, xo_move, xo_assign, xo_pick, xo_alloc, xo_box, xo_build, xo_bslice, xo_load, xo_store, xo_nn, xo_bin, xo_un, xo_conv, xo_mki, xo_mkf, xo_mks, xo_slice, xo_fa, xo_fv, xo_ia, xo_ix, xo_ext, xo_call, xo_panic, extractA, b_lss, b_leq, b_gtr, b_geq, b_eql, b_neq, b_add, b_sub, b_mul, b_and, b_or, b_xor, b_shl, b_shr, b_quo, b_rem, u_not, u_neg, wr_i64, wr_u64, wr_u32, wr_u8, wr_i32, wr_u16, wr_i16, wr_i8, dec_t, dec_f, ieq_t, ieq_f, ine_t, ine_f, blkOf_cells, heap_set_same, heap_set_ne, heap_new_same, heap_new_ne, ASt.set_ctr, ASt.new_ctr, set_set', ic_lit, ic_agg, ic_ptr, ic_iptr, ic_slice, ic_islice, ic_func, ic_iface, boxA, newA, List.all_cons, List.all_nil, Bool.and_self, Bool.and_true, Bool.true_and, cs_lit, cs_agg, cs_ptr, cs_iptr, cs_slice, cs_islice, cs_func, cs_iface, fillA, putL, setsE, eo_lit, eo_agg, eo_ptr, eo_iptr, eo_slice, eo_islice, eo_func, eo_iface, eo_byte, List.set_cons_zero, List.set_cons_succ, List.length_cons, List.length_nil, Nat.reduceBEq, Nat.reduceBNe, beq_self_eq_true, Bool.not_true, Bool.not_false, Nat.zero_add, Nat.reduceMul, List.map_nil, List.drop_succ_cons, List.drop_zero, List.take_succ_cons, List.take_zero, List.nil_append, List.cons_append, Int.toNat_natCast, sl_set, sl_get, sl_len, upd_app, valOf_lit, ite_t, ite_f, Try.f33] <;> rfl, rfl, ms2, R2, M2, S2⟩
/-- of nothing -/
theorem sort_nil (st : ASt) : ∃ r st', rw E 33 [.nilSlice, byF] st = some (r, st') ∧ r = .returned (.tuple []) ∧ st' = st := by
  have h : ∀ st, run E 8 33 [.nilSlice, byF] st = some (.returned (.tuple []), st) := fun st => by kernel_rfl
  exact ⟨_, _, rw_of (h st), rfl, rfl⟩
end Go.Proofs.YtcaokdlmolnbaaaV
