/- lex.Split, any text. No condition. -/
import Derived.Test.YtlpdplchcpkajaaDoorX13
import Derived.Test.YtlpdplchcpkajaaDoorDV
namespace Go.Proofs.YtlpdplchcpkajaaDoorV
open Go Go.RowKit Go.Proofs.YtlpdplchcpkajaaDoorA
set_option linter.unusedVariables false
set_option linter.unusedSimpArgs false
set_option maxRecDepth 100000

def endT (n : Nat) : AVal := .agg [.lit (.int .i64 0), .lit (.string ⟨#[]⟩), .lit (.complex .f64 0 0), .lit (.int .i64 (n : Int))]
theorem tokT : SlT E.P 46 52 true 4 := ⟨rfl, rfl, ⟨_, _, rfl, rfl, by decide, rfl, rfl⟩, by decide⟩
theorem toks_ok (ts : List Tk) : (ts.map Tk.a).all (elemOk true 4) = true := by
  rw [List.all_map]
  exact List.all_eq_true.2 fun t _ => rfl
theorem tokL_len {b : UInt8} {r : List UInt8} {k n x y : Nat} (h : tokL b r = .ok (k, n, x, y)) : n ≤ r.length := by
  have tw : ∀ p : UInt8 → Bool, (r.takeWhile p).length ≤ r.length := fun p => (List.takeWhile_prefix p).length_le
  unfold tokL at h
  split at h
  · cases h; exact tw _
  split at h
  · split at h
    · rename_i h105
      split at h
      · cases h
      split at h
      · cases h
        have h1 : (r.takeWhile digc).length + (r.dropWhile digc).length = r.length := by rw [← List.length_append, List.takeWhile_append_dropWhile]
        have h2 : 1 ≤ (r.dropWhile digc).length := by
          cases hq : r.dropWhile digc with
          | nil => rw [hq] at h105; cases h105
          | cons a b => simp
        omega
      · cases h
    · split at h
      · cases h
      split at h
      · cases h; exact tw _
      · cases h
  split at h
  · split at h
    · rename_i hh
      cases h
      cases r with
      | nil => cases hh.1
      | cons a b => simp
    · cases h; exact Nat.zero_le _
  · cases h
/-- what is told of a text's tokens -/
def Told (n : Nat) (st : ASt) (res : Except (Nat × Nat) (List Tk)) (r : AEnd) (st' : ASt) : Prop := Gr st st' ∧ match res with
  | .ok ts => ∃ v, r = .returned (.tuple [v, .lit (.int .i64 0), .lit (.int .i64 0)]) ∧ AI 4 st st' v (ts.map Tk.a ++ [endT n])
  | .error (p, e) => r = .returned (.tuple [.lit (.slice none 0 0), .lit (.int .i64 (p : Int)), .lit (.int .i64 (e : Int))])
/-- tokens ahead of what is to come -/
def putR (done : List Tk) : Except (Nat × Nat) (List Tk) → Except (Nat × Nat) (List Tk)
  | .ok ts => .ok (done ++ ts)
  | .error e => .error e
theorem putR_tok {done : List Tk} {pos : Nat} {b : UInt8} {r : List UInt8} {k n x y : Nat} (h1 : blankc b = false) (h2 : ¬ (b = 47 ∧ r.head? = some 47)) (h : tokL b r = .ok (k, n, x, y)) :
    putR done (lexL pos (b :: r)) = putR (done ++ [⟨k, b :: r.take n, x, y, pos⟩]) (lexL (pos + 1 + n) (r.drop n)) := by
  rw [lexL_tok h1 h2, h]
  simp only
  cases lexL (pos + 1 + n) (r.drop n) with
  | ok ts => simp [putR]
  | error e => rfl
set_option maxHeartbeats 4000000 in
theorem split_rw {l : List UInt8} {st : ASt} (hl : l.length ≤ 16384) : ∃ r st', rw E 25 [str l] st = some (r, st') ∧ Told l.length st (lexL 0 l) r st' := by
  obtain ⟨res, hres⟩ : ∃ res, res = lexL 0 l := ⟨_, rfl⟩
  rw [← hres]
  have hl5 : l.length ≤ 100000 := by omega
  -- from the first label on, with tokens so far
  have S0 : ∀ (f : Nat → AVal) (st1 : ASt) (Q : APost) (i : Nat) (done : List Tk), i ≤ l.length → f 0 = .lit (.string ⟨l.toArray⟩) → f 9 = .lit (.int .i64 (i : Int)) → AI 4 st st1 (f 5) (done.map Tk.a) → done.length ≤ i → Gr st st1 → putR done (lexL i (l.drop i)) = res →
      (∀ f' st2 l' i', ((l' = 0 ∧ i < i' ∧ ∃ done', i' ≤ l.length ∧ f' 0 = .lit (.string ⟨l.toArray⟩) ∧ f' 9 = .lit (.int .i64 (i' : Int)) ∧ AI 4 st st2 (f' 5) (done'.map Tk.a) ∧ done'.length ≤ i' ∧ Gr st st2 ∧ putR done' (lexL i' (l.drop i')) = res) ∨
        (0 < l' ∧ l' < 5 ∧ i' = i ∧ st2 = st1 ∧ f' 0 = .lit (.string ⟨l.toArray⟩) ∧ f' 5 = f 5 ∧ f' 9 = .lit (.int .i64 (i : Int)) ∧ (1 < l' → f' 6 = .lit (.int .i64 (i : Int))) ∧
          ∃ b r, l.drop i = b :: r ∧ (l' = 1 → b = 47 ∧ r.head? = some 47) ∧ (l' ≠ 1 → blankc b = false ∧ b ≠ 47) ∧ (l' = 2 → isLet b.toNat = true) ∧ (l' = 3 → isLet b.toNat = false ∧ isDig b.toNat = true) ∧ (l' = 4 → isLet b.toNat = false ∧ isDig b.toNat = false ∧ isOne b.toNat = true))) → Q (.goto l') (Sl 203 f') st2) →
      (∀ f' st2, Told l.length st res (.returned (.tuple [f' 2, f' 3, f' 4])) st2 → Q .ret (Sl 203 f') st2) → Wp E 25 T0 (Sl 203 f) st1 Q := by
    intro f st1 Q i done hi h0 h9 hA hdn hg hr kg kr
    refine T0_wp ?_
    by_cases hlt : i < l.length
    · obtain ⟨b, r, hb⟩ := at_drop hlt
      rw [hb] at hr
      refine z0 hb hl5 h0 h9 ?_ ?_ ?_ ?_ ?_ ?_
      · intro hk f' a0 a5 a9
        refine kg f' st1 0 (i + 1) (.inl ⟨rfl, by omega, done, by omega, a0.trans h0, a9, by rw [a5]; exact hA, by omega, hg, ?_⟩)
        rw [(drop_at hb).2.2, ← hr, lexL_blank hk]
      · intro hb47 hh f' a0 a5 a9
        exact kg f' st1 1 i (.inr ⟨by omega, by omega, rfl, rfl, a0.trans h0, a5, a9.trans h9, fun h => absurd h (by omega), b, r, hb, fun _ => ⟨hb47, hh⟩, fun h => absurd rfl h, fun h => absurd h (by omega), fun h => absurd h (by omega), fun h => absurd h (by omega)⟩)
      · intro k1 k2 k3 f' a0 a5 a6 a9
        exact kg f' st1 2 i (.inr ⟨by omega, by omega, rfl, rfl, a0.trans h0, a5, a9.trans h9, fun _ => a6.trans h9, b, r, hb, fun h => absurd h (by omega), fun _ => ⟨k1, k2⟩, fun _ => k3, fun h => absurd h (by omega), fun h => absurd h (by omega)⟩)
      · intro k1 k2 k3 k4 f' a0 a5 a6 a9
        exact kg f' st1 3 i (.inr ⟨by omega, by omega, rfl, rfl, a0.trans h0, a5, a9.trans h9, fun _ => a6.trans h9, b, r, hb, fun h => absurd h (by omega), fun _ => ⟨k1, k2⟩, fun h => absurd h (by omega), fun _ => ⟨k3, k4⟩, fun h => absurd h (by omega)⟩)
      · intro k1 k2 k3 k4 k5 f' a0 a5 a6 a9
        exact kg f' st1 4 i (.inr ⟨by omega, by omega, rfl, rfl, a0.trans h0, a5, a9.trans h9, fun _ => a6.trans h9, b, r, hb, fun h => absurd h (by omega), fun _ => ⟨k1, k2⟩, fun h => absurd h (by omega), fun h => absurd h (by omega), fun _ => ⟨k3, k4, k5⟩⟩)
      · intro k1 k2 k3 k4 k5 f' a2 a3 a4
        refine kr f' st1 ⟨hg, ?_⟩
        have ht : tokL b r = .error 1 := by
          unfold tokL
          rw [if_neg (by rw [k3]; exact Bool.false_ne_true), if_neg (by rw [k4]; exact Bool.false_ne_true), if_neg (by rw [k5]; exact Bool.false_ne_true)]
        rw [lexL_tok k1 k2, ht] at hr
        have hr' : res = .error (i, 1) := hr.symm
        rw [hr', a2, a3, a4]
        rfl
    · obtain rfl : i = l.length := by omega
      rw [List.drop_length, lexL_nil] at hr
      have hr' : res = .ok done := by rw [← hr]; simp [putR]
      obtain ⟨v', st2, ha, hA2, hg2⟩ := ai_app tokT hA hg (toks_ok done) (src_islice tokT (c := .exact) (ns := [endT l.length]) rfl) (by simp) (by simp; omega)
      unfold endT at ha
      clear hr hA kg hres
      refine aw_run 0 (by simp (maxSteps := 5000000) (disch := first | assumption | omega | (simp only [ASt.set_ctr, ASt.new_ctr] <;> omega)) only [W0_e.down, S25_0_e.down, S25_1_e.down, S25_2_e.down, S25_3_e.down, S25_4_e.down, S25_5_e.down, S25_6_e.down, S25_7_e.down, o_lent_9, o_bd_52, hint_25_21, o_bs_46_1, hint_25_22, bi_app, o_ixt_9, cf_48, cf_49, cf_50, o_cut_9_lh, o_cut_9_l, o_cut_9_h, hint_25_104, hint_25_105, cf_51, hint_25_166, hint_25_167, hint_25_201, hint_25_202, AVal.undef, sbn1, sbn2, aexec, aops, aop, Region.wanted, aeval, aput, aseq, ablock, ahint, absOf, flat, nilCheckA, ANext.ofP, evals, evalPs, evalO, aresults, aresults1, aresult, aend, Option.map_some, Option.bind_some, if_true, if_false, ↓reduceIte, Nat.reduceLT, Nat.reduceEqDiff, reduceCtorEq, Bool.false_eq_true, false_and, and_false, and_true, true_and, Nat.reduceAdd, Nat.reduceLeDiff, callA, List.getElem?_toArray, List.getElem?_cons_succ, List.getElem?_cons_zero, sb1, sb2, sb3, sb4, sliceU_i, sliceU_s, sliceU_p, sliceU_l, evalV, ayielded_eq, slotOf_eq, dstOf, yieldB, xo_move, xo_assign, xo_pick, xo_alloc, xo_box, xo_build, xo_bslice, xo_load, xo_store, xo_nn, xo_bin, xo_un, xo_conv, xo_mki, xo_mkf, xo_mks, xo_slice, xo_fa, xo_fv, xo_ia, xo_ix, xo_ext, xo_call, xo_panic, extractA, b_lss, b_leq, b_gtr, b_geq, b_eql, b_neq, b_add, b_sub, b_mul, b_and, b_or, b_xor, b_shl, b_shr, b_quo, b_rem, u_not, u_neg, wr_i64, wr_u64, wr_u32, wr_u8, wr_i32, wr_u16, wr_i16, wr_i8, dec_t, dec_f, ieq_t, ieq_f, ine_t, ine_f, blkOf_cells, heap_set_same, heap_set_ne, heap_new_same, heap_new_ne, ASt.set_ctr, ASt.new_ctr, set_set', ic_lit, ic_agg, ic_ptr, ic_iptr, ic_slice, ic_islice, ic_func, ic_iface, boxA, newA, List.all_cons, List.all_nil, Bool.and_self, Bool.and_true, Bool.true_and, cs_lit, cs_agg, cs_ptr, cs_iptr, cs_slice, cs_islice, cs_func, cs_iface, fillA, putL, setsE, eo_lit, eo_agg, eo_ptr, eo_iptr, eo_slice, eo_islice, eo_func, eo_iface, eo_byte, List.set_cons_zero, List.set_cons_succ, List.length_cons, List.length_nil, Nat.reduceBEq, Nat.reduceBNe, beq_self_eq_true, Bool.not_true, Bool.not_false, Nat.zero_add, Nat.reduceMul, List.map_nil, List.drop_succ_cons, List.drop_zero, List.take_succ_cons, List.take_zero, List.nil_append, List.cons_append, Int.toNat_natCast, sl_set, sl_get, sl_len, upd_app, valOf_lit, ite_t, ite_f, str_size, h0, h9, ha] <;> rfl) ?_
      refine kr _ st2 ⟨hg2, ?_⟩
      rw [hr']
      exact ⟨v', rfl, hA2⟩
  refine cx_25 fun g t0 => C25_wp ?_
  unfold str at t0
  refine aw_run 0 (by simp (maxSteps := 5000000) (disch := first | assumption | omega | (simp only [ASt.set_ctr, ASt.new_ctr] <;> omega)) only [S25_0_e.down, S25_1_e.down, S25_2_e.down, S25_3_e.down, S25_4_e.down, S25_5_e.down, S25_6_e.down, S25_7_e.down, o_lent_9, o_bd_52, hint_25_21, o_bs_46_1, hint_25_22, bi_app, o_ixt_9, cf_48, cf_49, cf_50, o_cut_9_lh, o_cut_9_l, o_cut_9_h, hint_25_104, hint_25_105, cf_51, hint_25_166, hint_25_167, hint_25_201, hint_25_202, AVal.undef, sbn1, sbn2, aexec, aops, aop, Region.wanted, aeval, aput, aseq, ablock, ahint, absOf, flat, nilCheckA, ANext.ofP, evals, evalPs, evalO, aresults, aresults1, aresult, aend, Option.map_some, Option.bind_some, if_true, if_false, ↓reduceIte, Nat.reduceLT, Nat.reduceEqDiff, reduceCtorEq, Bool.false_eq_true, false_and, and_false, and_true, true_and, Nat.reduceAdd, Nat.reduceLeDiff, callA, List.getElem?_toArray, List.getElem?_cons_succ, List.getElem?_cons_zero, sb1, sb2, sb3, sb4, sliceU_i, sliceU_s, sliceU_p, sliceU_l, evalV, ayielded_eq, slotOf_eq, dstOf, yieldB, xo_move, xo_assign, xo_pick, xo_alloc, xo_box, xo_build, xo_bslice, xo_load, xo_store, xo_nn, xo_bin, xo_un, xo_conv, xo_mki, xo_mkf, xo_mks, xo_slice, xo_fa, xo_fv, xo_ia, xo_ix, xo_ext, xo_call, xo_panic, extractA, b_lss, b_leq, b_gtr, b_geq, b_eql, b_neq, b_add, b_sub, b_mul, b_and, b_or, b_xor, b_shl, b_shr, b_quo, b_rem, u_not, u_neg, wr_i64, wr_u64, wr_u32, wr_u8, wr_i32, wr_u16, wr_i16, wr_i8, dec_t, dec_f, ieq_t, ieq_f, ine_t, ine_f, blkOf_cells, heap_set_same, heap_set_ne, heap_new_same, heap_new_ne, ASt.set_ctr, ASt.new_ctr, set_set', ic_lit, ic_agg, ic_ptr, ic_iptr, ic_slice, ic_islice, ic_func, ic_iface, boxA, newA, List.all_cons, List.all_nil, Bool.and_self, Bool.and_true, Bool.true_and, cs_lit, cs_agg, cs_ptr, cs_iptr, cs_slice, cs_islice, cs_func, cs_iface, fillA, putL, setsE, eo_lit, eo_agg, eo_ptr, eo_iptr, eo_slice, eo_islice, eo_func, eo_iface, eo_byte, List.set_cons_zero, List.set_cons_succ, List.length_cons, List.length_nil, Nat.reduceBEq, Nat.reduceBNe, beq_self_eq_true, Bool.not_true, Bool.not_false, Nat.zero_add, Nat.reduceMul, List.map_nil, List.drop_succ_cons, List.drop_zero, List.take_succ_cons, List.take_zero, List.nil_append, List.cons_append, Int.toNat_natCast, sl_set, sl_get, sl_len, upd_app, valOf_lit, ite_t, ite_f, t0] <;> rfl) ?_
  refine aw_scope 5 TL Z_from (fun m l' ts st2 => ∃ f i done, ts = Sl 203 f ∧ i ≤ l.length ∧ m = 2 * (l.length - i) + (if l' = 0 then 1 else 0) ∧ f 0 = .lit (.string ⟨l.toArray⟩) ∧ f 9 = .lit (.int .i64 (i : Int)) ∧ AI 4 st st2 (f 5) (done.map Tk.a) ∧ done.length ≤ i ∧ Gr st st2 ∧ putR done (lexL i (l.drop i)) = res ∧
      (0 < l' → (1 < l' → f 6 = .lit (.int .i64 (i : Int))) ∧ ∃ b r, l.drop i = b :: r ∧ (l' = 1 → b = 47 ∧ r.head? = some 47) ∧ (l' ≠ 1 → blankc b = false ∧ b ≠ 47) ∧ (l' = 2 → isLet b.toNat = true) ∧ (l' = 3 → isLet b.toNat = false ∧ isDig b.toNat = true) ∧ (l' = 4 → isLet b.toNat = false ∧ isDig b.toNat = false ∧ isOne b.toNat = true))) ?_ ?_
  · rintro m l' _ st1 hl' ⟨f, i, done, rfl, hi, rfl, h0, h9, hA, hdn, hg, hr, hlab⟩
    match l', hl', hlab with
    | 0, _, _ =>
      refine S0 f st1 _ i done hi h0 h9 hA hdn hg hr (fun f' st2 l2 i' h => .inl ⟨l2, rfl, ?_⟩) (fun f' st2 h => .inr ⟨fun _ h => (by cases h), _, _, by simp only [AVal.undef, sbn1, sbn2, aexec, aops, aop, Region.wanted, aeval, aput, aseq, ablock, ahint, absOf, flat, nilCheckA, ANext.ofP, evals, evalPs, evalO, aresults, aresults1, aresult, aend, Option.map_some, Option.bind_some, if_true, if_false, ↓reduceIte, Nat.reduceLT, Nat.reduceEqDiff, reduceCtorEq, Bool.false_eq_true, false_and, and_false, and_true, true_and, Nat.reduceAdd, Nat.reduceLeDiff, callA, List.getElem?_toArray, List.getElem?_cons_succ, List.getElem?_cons_zero, sb1, sb2, sb3, sb4, sliceU_i, sliceU_s, sliceU_p, sliceU_l, evalV, ayielded_eq, slotOf_eq, dstOf, yieldB, xo_move, xo_assign, xo_pick, xo_alloc, xo_box, xo_build, xo_bslice, xo_load, xo_store, xo_nn, xo_bin, xo_un, xo_conv, xo_mki, xo_mkf, xo_mks, xo_slice, xo_fa, xo_fv, xo_ia, xo_ix, xo_ext, xo_call, xo_panic, extractA, b_lss, b_leq, b_gtr, b_geq, b_eql, b_neq, b_add, b_sub, b_mul, b_and, b_or, b_xor, b_shl, b_shr, b_quo, b_rem, u_not, u_neg, wr_i64, wr_u64, wr_u32, wr_u8, wr_i32, wr_u16, wr_i16, wr_i8, dec_t, dec_f, ieq_t, ieq_f, ine_t, ine_f, blkOf_cells, heap_set_same, heap_set_ne, heap_new_same, heap_new_ne, ASt.set_ctr, ASt.new_ctr, set_set', ic_lit, ic_agg, ic_ptr, ic_iptr, ic_slice, ic_islice, ic_func, ic_iface, boxA, newA, List.all_cons, List.all_nil, Bool.and_self, Bool.and_true, Bool.true_and, cs_lit, cs_agg, cs_ptr, cs_iptr, cs_slice, cs_islice, cs_func, cs_iface, fillA, putL, setsE, eo_lit, eo_agg, eo_ptr, eo_iptr, eo_slice, eo_islice, eo_func, eo_iface, eo_byte, List.set_cons_zero, List.set_cons_succ, List.length_cons, List.length_nil, Nat.reduceBEq, Nat.reduceBNe, beq_self_eq_true, Bool.not_true, Bool.not_false, Nat.zero_add, Nat.reduceMul, List.map_nil, List.drop_succ_cons, List.drop_zero, List.take_succ_cons, List.take_zero, List.nil_append, List.cons_append, Int.toNat_natCast, sl_set, sl_get, sl_len, upd_app, valOf_lit, ite_t, ite_f, Tryd.f25] <;> rfl, h⟩)
      rcases h with ⟨rfl, hlt, done', a1, a2, a3, a4, a5, a6, a7⟩ | ⟨p1, p2, rfl, rfl, q0, q5, q9, q6, hx⟩
      · exact ⟨by omega, _, by simp; omega, f', i', done', rfl, a1, rfl, a2, a3, a4, a5, a6, a7, fun h => absurd h (by omega)⟩
      · refine ⟨p2, _, ?_, f', i', done, rfl, hi, rfl, q0, q9, by rw [q5]; exact hA, hdn, hg, hr, fun _ => ⟨q6, hx⟩⟩
        rw [if_neg (by omega), if_pos rfl]
        omega
    | 1, _, hlab =>
      obtain ⟨_, b, r, hb, hx, _⟩ := hlab (by omega)
      obtain ⟨rfl, hh⟩ := hx rfl
      refine l1 hi hl5 h0 h9 ?_
      intro f' a0 a5 a9
      refine .inl ⟨0, rfl, by omega, _, ?_, f', _, done, rfl, tw_le hi, rfl, a0.trans h0, a9, by rw [a5]; exact hA, by omega, hg, ?_, fun h => absurd h (by omega)⟩
      · have := tw_step (p := fun b => decide (b ≠ (10 : UInt8))) hb (by decide)
        have h1 := (drop_at hb).2.1
        simp only [if_pos, Nat.one_ne_zero, if_false]
        omega
      · rw [← hr, tw_drop]
        have h1 := tw_step (p := fun b => decide (b ≠ (10 : UInt8))) hb (by decide)
        rw [h1, (drop_at hb).2.2, hb, lexL_note hh]
        rfl
    | l' + 2, hl', hlab =>
      obtain ⟨h6, b, r, hb, _, hnb, w2, w3, w4⟩ := hlab (by omega)
      have h6' := h6 (by omega)
      obtain ⟨hn1, hn2⟩ := hnb (by omega)
      have hnn : ¬ (b = 47 ∧ r.head? = some 47) := fun h => hn2 h.1
      rw [hb] at hr
      have hap : Grows (fun tk v' st' => AI 4 st st' v' ((done ++ [tk]).map Tk.a) ∧ Gr st st') (f 5) st1 := by
        intro tk
        obtain ⟨v', st2, ha, hA2, hg2⟩ := ai_app tokT hA hg (toks_ok done) (src_islice tokT (c := .exact) (ns := [tk.a]) rfl) (by simp) (by have := hi; simp; omega)
        exact ⟨v', st2, ha, by rw [List.map_append]; exact hA2, hg2⟩
      have hok : ∀ k n x y, tokL b r = .ok (k, n, x, y) → ∀ (f' : Nat → AVal) (v' : AVal) (st' : ASt), (AI 4 st st' v' ((done ++ [Tk.mk k (b :: r.take n) x y i]).map Tk.a) ∧ Gr st st') → f' 0 = f 0 → f' 5 = v' → f' 9 = .lit (.int .i64 ((i + 1 + n : Nat) : Int)) → i + 1 + n ≤ l.length →
          ∃ j, j < 2 * (l.length - i) + (if l' + 2 = 0 then 1 else 0) ∧ ∃ f2 i2 done2, Sl 203 f' = Sl 203 f2 ∧ i2 ≤ l.length ∧ j = 2 * (l.length - i2) + (if 0 = 0 then 1 else 0) ∧ f2 0 = .lit (.string ⟨l.toArray⟩) ∧ f2 9 = .lit (.int .i64 (i2 : Int)) ∧ AI 4 st st' (f2 5) (done2.map Tk.a) ∧ done2.length ≤ i2 ∧ Gr st st' ∧ putR done2 (lexL i2 (l.drop i2)) = res ∧
            (0 < 0 → (1 < 0 → f2 6 = .lit (.int .i64 (i2 : Int))) ∧ ∃ b r, l.drop i2 = b :: r ∧ (0 = 1 → b = 47 ∧ r.head? = some 47) ∧ (0 ≠ 1 → blankc b = false ∧ b ≠ 47) ∧ (0 = 2 → isLet b.toNat = true) ∧ (0 = 3 → isLet b.toNat = false ∧ isDig b.toNat = true) ∧ (0 = 4 → isLet b.toNat = false ∧ isDig b.toNat = false ∧ isOne b.toNat = true)) := by
        intro k n x y ht f' v' st' hA' a0 a5 a9 hle
        refine ⟨_, ?_, f', i + 1 + n, done ++ [⟨k, b :: r.take n, x, y, i⟩], rfl, hle, rfl, a0.trans h0, a9, by rw [a5]; exact hA'.1, by simp; omega, hA'.2, ?_, fun h => absurd h (by omega)⟩
        · rw [if_pos rfl, if_neg (by omega)]
          omega
        · rw [← hr, putR_tok hn1 hnn ht, ← List.drop_drop, (drop_at hb).2.2]
      have hlen : ∀ k n x y, tokL b r = .ok (k, n, x, y) → i + 1 + n ≤ l.length := by
        intro k n x y ht
        have h1 := tokL_len ht
        have h2 := congrArg List.length hb
        rw [List.length_drop, List.length_cons] at h2
        omega
      have herr : ∀ e, tokL b r = .error e → ∀ f' : Nat → AVal, f' 2 = .lit (.slice none 0 0) → f' 3 = .lit (.int .i64 (i : Int)) → f' 4 = .lit (.int .i64 (e : Int)) → Told l.length st res (.returned (.tuple [f' 2, f' 3, f' 4])) st1 := by
        intro e ht f' a2 a3 a4
        refine ⟨hg, ?_⟩
        rw [lexL_tok hn1 hnn, ht] at hr
        have hr' : res = .error (i, e) := hr.symm
        rw [hr', a2, a3, a4]
      match l', hl', w2, w3, w4 with
      | 0, _, w2, _, _ =>
        refine l2 hb (w2 rfl) hl5 h0 rfl h6' h9 hap ?_
        intro k n x y ht f' v' st' hA' a0 a5 a9
        exact .inl ⟨0, rfl, by omega, hok k n x y ht f' v' st' hA' a0 a5 a9 (hlen k n x y ht)⟩
      | 1, _, _, w3, _ =>
        refine l3 hb (w3 rfl).1 (w3 rfl).2 hl5 h0 rfl h6' h9 hap ?_ ?_
        · intro k n x y ht f' v' st' hA' a0 a5 a9
          exact .inl ⟨0, rfl, by omega, hok k n x y ht f' v' st' hA' a0 a5 a9 (hlen k n x y ht)⟩
        · intro e ht f' a2 a3 a4
          exact .inr ⟨fun _ h => (by cases h), _, _, by simp only [AVal.undef, sbn1, sbn2, aexec, aops, aop, Region.wanted, aeval, aput, aseq, ablock, ahint, absOf, flat, nilCheckA, ANext.ofP, evals, evalPs, evalO, aresults, aresults1, aresult, aend, Option.map_some, Option.bind_some, if_true, if_false, ↓reduceIte, Nat.reduceLT, Nat.reduceEqDiff, reduceCtorEq, Bool.false_eq_true, false_and, and_false, and_true, true_and, Nat.reduceAdd, Nat.reduceLeDiff, callA, List.getElem?_toArray, List.getElem?_cons_succ, List.getElem?_cons_zero, sb1, sb2, sb3, sb4, sliceU_i, sliceU_s, sliceU_p, sliceU_l, evalV, ayielded_eq, slotOf_eq, dstOf, yieldB, xo_move, xo_assign, xo_pick, xo_alloc, xo_box, xo_build, xo_bslice, xo_load, xo_store, xo_nn, xo_bin, xo_un, xo_conv, xo_mki, xo_mkf, xo_mks, xo_slice, xo_fa, xo_fv, xo_ia, xo_ix, xo_ext, xo_call, xo_panic, extractA, b_lss, b_leq, b_gtr, b_geq, b_eql, b_neq, b_add, b_sub, b_mul, b_and, b_or, b_xor, b_shl, b_shr, b_quo, b_rem, u_not, u_neg, wr_i64, wr_u64, wr_u32, wr_u8, wr_i32, wr_u16, wr_i16, wr_i8, dec_t, dec_f, ieq_t, ieq_f, ine_t, ine_f, blkOf_cells, heap_set_same, heap_set_ne, heap_new_same, heap_new_ne, ASt.set_ctr, ASt.new_ctr, set_set', ic_lit, ic_agg, ic_ptr, ic_iptr, ic_slice, ic_islice, ic_func, ic_iface, boxA, newA, List.all_cons, List.all_nil, Bool.and_self, Bool.and_true, Bool.true_and, cs_lit, cs_agg, cs_ptr, cs_iptr, cs_slice, cs_islice, cs_func, cs_iface, fillA, putL, setsE, eo_lit, eo_agg, eo_ptr, eo_iptr, eo_slice, eo_islice, eo_func, eo_iface, eo_byte, List.set_cons_zero, List.set_cons_succ, List.length_cons, List.length_nil, Nat.reduceBEq, Nat.reduceBNe, beq_self_eq_true, Bool.not_true, Bool.not_false, Nat.zero_add, Nat.reduceMul, List.map_nil, List.drop_succ_cons, List.drop_zero, List.take_succ_cons, List.take_zero, List.nil_append, List.cons_append, Int.toNat_natCast, sl_set, sl_get, sl_len, upd_app, valOf_lit, ite_t, ite_f, Tryd.f25] <;> rfl, herr e ht f' a2 a3 a4⟩
      | 2, _, _, _, w4 =>
        refine l4 hb (w4 rfl).1 (w4 rfl).2.1 (w4 rfl).2.2 hl5 h0 rfl h6' h9 hap ?_
        intro k n x y ht f' v' st' hA' a0 a5 a9
        exact .inl ⟨0, rfl, by omega, hok k n x y ht f' v' st' hA' a0 a5 a9 (hlen k n x y ht)⟩
      | n + 3, hl', _, _, _ => exact absurd hl' (by omega)
  · refine Zx_wp ?_
    refine aw_run 0 (by simp (maxSteps := 5000000) (disch := first | assumption | omega | (simp only [ASt.set_ctr, ASt.new_ctr] <;> omega)) only [Wp0_e.down, S25_0_e.down, S25_1_e.down, S25_2_e.down, S25_3_e.down, S25_4_e.down, S25_5_e.down, S25_6_e.down, S25_7_e.down, o_lent_9, o_bd_52, hint_25_21, o_bs_46_1, hint_25_22, bi_app, o_ixt_9, cf_48, cf_49, cf_50, o_cut_9_lh, o_cut_9_l, o_cut_9_h, hint_25_104, hint_25_105, cf_51, hint_25_166, hint_25_167, hint_25_201, hint_25_202, AVal.undef, sbn1, sbn2, aexec, aops, aop, Region.wanted, aeval, aput, aseq, ablock, ahint, absOf, flat, nilCheckA, ANext.ofP, evals, evalPs, evalO, aresults, aresults1, aresult, aend, Option.map_some, Option.bind_some, if_true, if_false, ↓reduceIte, Nat.reduceLT, Nat.reduceEqDiff, reduceCtorEq, Bool.false_eq_true, false_and, and_false, and_true, true_and, Nat.reduceAdd, Nat.reduceLeDiff, callA, List.getElem?_toArray, List.getElem?_cons_succ, List.getElem?_cons_zero, sb1, sb2, sb3, sb4, sliceU_i, sliceU_s, sliceU_p, sliceU_l, evalV, ayielded_eq, slotOf_eq, dstOf, yieldB, xo_move, xo_assign, xo_pick, xo_alloc, xo_box, xo_build, xo_bslice, xo_load, xo_store, xo_nn, xo_bin, xo_un, xo_conv, xo_mki, xo_mkf, xo_mks, xo_slice, xo_fa, xo_fv, xo_ia, xo_ix, xo_ext, xo_call, xo_panic, extractA, b_lss, b_leq, b_gtr, b_geq, b_eql, b_neq, b_add, b_sub, b_mul, b_and, b_or, b_xor, b_shl, b_shr, b_quo, b_rem, u_not, u_neg, wr_i64, wr_u64, wr_u32, wr_u8, wr_i32, wr_u16, wr_i16, wr_i8, dec_t, dec_f, ieq_t, ieq_f, ine_t, ine_f, blkOf_cells, heap_set_same, heap_set_ne, heap_new_same, heap_new_ne, ASt.set_ctr, ASt.new_ctr, set_set', ic_lit, ic_agg, ic_ptr, ic_iptr, ic_slice, ic_islice, ic_func, ic_iface, boxA, newA, List.all_cons, List.all_nil, Bool.and_self, Bool.and_true, Bool.true_and, cs_lit, cs_agg, cs_ptr, cs_iptr, cs_slice, cs_islice, cs_func, cs_iface, fillA, putL, setsE, eo_lit, eo_agg, eo_ptr, eo_iptr, eo_slice, eo_islice, eo_func, eo_iface, eo_byte, List.set_cons_zero, List.set_cons_succ, List.length_cons, List.length_nil, Nat.reduceBEq, Nat.reduceBNe, beq_self_eq_true, Bool.not_true, Bool.not_false, Nat.zero_add, Nat.reduceMul, List.map_nil, List.drop_succ_cons, List.drop_zero, List.take_succ_cons, List.take_zero, List.nil_append, List.cons_append, Int.toNat_natCast, sl_set, sl_get, sl_len, upd_app, valOf_lit, ite_t, ite_f, str_size, t0] <;> rfl) ?_
    refine S0 _ st _ 0 [] (by omega) t0 rfl (.inl ⟨rfl, rfl⟩) (by simp) (Gr.refl _) (by rw [List.drop_zero, ← hres, hres]; cases lexL 0 l <;> rfl) (fun f' st2 l2 i' h => .inl ⟨l2, rfl, ?_⟩) (fun f' st2 h => .inr ⟨fun _ h => (by cases h), _, _, by simp only [AVal.undef, sbn1, sbn2, aexec, aops, aop, Region.wanted, aeval, aput, aseq, ablock, ahint, absOf, flat, nilCheckA, ANext.ofP, evals, evalPs, evalO, aresults, aresults1, aresult, aend, Option.map_some, Option.bind_some, if_true, if_false, ↓reduceIte, Nat.reduceLT, Nat.reduceEqDiff, reduceCtorEq, Bool.false_eq_true, false_and, and_false, and_true, true_and, Nat.reduceAdd, Nat.reduceLeDiff, callA, List.getElem?_toArray, List.getElem?_cons_succ, List.getElem?_cons_zero, sb1, sb2, sb3, sb4, sliceU_i, sliceU_s, sliceU_p, sliceU_l, evalV, ayielded_eq, slotOf_eq, dstOf, yieldB, xo_move, xo_assign, xo_pick, xo_alloc, xo_box, xo_build, xo_bslice, xo_load, xo_store, xo_nn, xo_bin, xo_un, xo_conv, xo_mki, xo_mkf, xo_mks, xo_slice, xo_fa, xo_fv, xo_ia, xo_ix, xo_ext, xo_call, xo_panic, extractA, b_lss, b_leq, b_gtr, b_geq, b_eql, b_neq, b_add, b_sub, b_mul, b_and, b_or, b_xor, b_shl, b_shr, b_quo, b_rem, u_not, u_neg, wr_i64, wr_u64, wr_u32, wr_u8, wr_i32, wr_u16, wr_i16, wr_i8, dec_t, dec_f, ieq_t, ieq_f, ine_t, ine_f, blkOf_cells, heap_set_same, heap_set_ne, heap_new_same, heap_new_ne, ASt.set_ctr, ASt.new_ctr, set_set', ic_lit, ic_agg, ic_ptr, ic_iptr, ic_slice, ic_islice, ic_func, ic_iface, boxA, newA, List.all_cons, List.all_nil, Bool.and_self, Bool.and_true, Bool.true_and, cs_lit, cs_agg, cs_ptr, cs_iptr, cs_slice, cs_islice, cs_func, cs_iface, fillA, putL, setsE, eo_lit, eo_agg, eo_ptr, eo_iptr, eo_slice, eo_islice, eo_func, eo_iface, eo_byte, List.set_cons_zero, List.set_cons_succ, List.length_cons, List.length_nil, Nat.reduceBEq, Nat.reduceBNe, beq_self_eq_true, Bool.not_true, Bool.not_false, Nat.zero_add, Nat.reduceMul, List.map_nil, List.drop_succ_cons, List.drop_zero, List.take_succ_cons, List.take_zero, List.nil_append, List.cons_append, Int.toNat_natCast, sl_set, sl_get, sl_len, upd_app, valOf_lit, ite_t, ite_f, Tryd.f25] <;> rfl, h⟩)
    rcases h with ⟨rfl, hlt, done', a1, a2, a3, a4, a5, a6, a7⟩ | ⟨p1, p2, rfl, rfl, q0, q5, q9, q6, hx⟩
    · exact ⟨by omega, _, f', i', done', rfl, a1, rfl, a2, a3, a4, a5, a6, a7, fun h => absurd h (by omega)⟩
    · exact ⟨p2, _, f', 0, [], rfl, by omega, rfl, q0, q9, by rw [q5]; exact .inl ⟨rfl, rfl⟩, by simp, Gr.refl _, by rw [List.drop_zero, ← hres, hres]; cases lexL 0 l <;> rfl, fun _ => ⟨q6, hx⟩⟩
end Go.Proofs.YtlpdplchcpkajaaDoorV
