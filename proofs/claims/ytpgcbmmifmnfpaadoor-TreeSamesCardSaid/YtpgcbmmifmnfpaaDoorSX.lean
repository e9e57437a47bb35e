/- TreeSames: behind the region. No condition. -/
import Derived.Test.YtpgcbmmifmnfpaaDoorSW
namespace Go.Proofs.YtpgcbmmifmnfpaaDoorV
open Go Go.RowKit Go.Proofs.YtpgcbmmifmnfpaaDoorA
set_option linter.unusedVariables false
set_option linter.unusedSimpArgs false
set_option maxRecDepth 100000

theorem DesAt.put {st : ASt} {v : AVal} {l : List De} {k : Nat} (h : DesAt st v l k) {i : Nat} {d : De} (hs : l[i]? = some d) : ∃ fl, st.heap k = some (.cells fl) ∧ i * 5 + 5 ≤ fl.length ∧ fl[i * 5 + 4]? = some (.lit (.int .i64 (d.pos : Int))) ∧
    indexA E.P 34 (.slice k 0 l.length 5 none) (.lit (.int .i64 (i : Int))) = some (.ptr k (i * 5)) ∧
    ∀ p : Nat, DesAt (st.set k (some (.cells (fl.set (i * 5 + 4) (.lit (.int .i64 (p : Int))))))) v (l.set i { d with pos := p }) k := by
  obtain ⟨k', fl, vb, e, h0, h1, h2, h3, h4, h5, h6⟩ := des_ix h.des hs
  cases e
  have hp := fun p => des_put h.des hs rfl h2 p
  refine ⟨fl, h2, h3, (hp 0).2, h6, fun p => ?_⟩
  obtain ⟨es, ha, hd⟩ := (hp p).1
  obtain ⟨e1, e2, e3, _⟩ := h
  rcases ha with ⟨e, _⟩ | ⟨k2, e, a0, a1, a2⟩
  · cases e
  · simp only [AVal.slice.injEq] at e
    obtain rfl := e.1
    exact ⟨by rw [e1, List.length_set], e2, a1, es, a2, hd⟩
theorem DesAt.put_ne {st : ASt} {v : AVal} {l : List De} {k k' : Nat} (h : DesAt st v l k) (hne : k ≠ k') (b : Option Blk) : DesAt (st.set k' b) v l k := by
  obtain ⟨h1, h2, h3, es, h4, h5⟩ := h
  exact ⟨h1, h2, h3, es, by rw [ASt.set_ne _ _ _ _ hne]; exact h4, h5⟩
/-- the first t moved -/
def mvTo (n t : Nat) (l : List De) : List De := (l.take t).map (De.mv n) ++ l.drop t
theorem mvTo_len (n t : Nat) (l : List De) : (mvTo n t l).length = l.length := by
  unfold mvTo
  rw [List.length_append, List.length_map, List.length_take, List.length_drop]
  omega
theorem mvTo_at {n t : Nat} {l : List De} {d : De} (h : l[t]? = some d) : (mvTo n t l)[t]? = some d := by
  have hlt := (List.getElem?_eq_some_iff.1 h).1
  unfold mvTo
  rw [List.getElem?_append_right (by rw [List.length_map, List.length_take]; omega), List.length_map, List.length_take, Nat.min_eq_left (Nat.le_of_lt hlt), Nat.sub_self, List.getElem?_drop, Nat.add_zero]
  exact h
theorem mvTo_set {n t : Nat} {l : List De} {d : De} (h : l[t]? = some d) : (mvTo n t l).set t (d.mv n) = mvTo n (t + 1) l := by
  have hlt := (List.getElem?_eq_some_iff.1 h).1
  have hd := (List.getElem?_eq_some_iff.1 h).2
  unfold mvTo
  rw [List.set_append_right _ _ (by rw [List.length_map, List.length_take]; omega), List.length_map, List.length_take, Nat.min_eq_left (Nat.le_of_lt hlt), Nat.sub_self, List.drop_eq_getElem_cons hlt, List.set_cons_zero, List.take_add_one, h, List.map_append]
  simp
theorem mvTo_all (n : Nat) (l : List De) : mvTo n l.length l = l.map (De.mv n) := by
  unfold mvTo
  rw [List.take_length, List.drop_length, List.append_nil]
set_option maxHeartbeats 8000000 in
theorem ts_tail {x y : Sml} {vx vy : AVal} (okx : x.ok) (oky : y.ok) (hx : ThV vx x.threads) (turn : Nat) (ht : turn < 256) (f : Nat → AVal) (st : ASt) (h : RJ x y vx vy (.lit (.int .u8 (turn : Int))) (fun _ => true) f st) :
    Gc E 4 N4_10 [] (RQ E Tryd.f4 fun r st' => isT r) (Sl 67 f) st := by
  obtain ⟨p7, c7, q7, b7, t7, h7, e7⟩ := h.l4 rfl
  obtain ⟨p8, c8, q8, b8, t8, h8, e8⟩ := h.l5 rfl
  obtain ⟨k1, d1⟩ := h.l1 rfl
  obtain ⟨k3, d3⟩ := h.l3 rfl
  have h78 := h.l45 rfl rfl
  have hne : p7 ≠ p8 := fun e => h78 (by rw [q7, q8, e])
  rw [← e7 rfl] at d1
  rw [← e8 rfl] at d3
  have hc7 := d1.1
  have hc8 := d3.1
  cases hc7
  cases hc8
  have q2 := h.q2
  have q3 := h.q3
  have hA := h.hA
  have c2 := h.c2
  have hvc := hx.cell
  unfold Sml.cs at hA
  have px := pfit_make okx
  have py := pfit_make oky
  have hr : (turn : Int).tmod 2 = ((turn % 2 : Nat) : Int) := tmod_n turn 2
  clear h h78 e7 e8
  by_cases hev : turn % 2 = 0
  · have m := make_rw okx hx st
    unfold Sml.cs at m
    repeat' (first | (first | apply ifk_og | apply ifk_gg | apply ifk_go | apply ifk_ss) <;> intro hc | simp (maxSteps := 5000000) (disch := first | assumption | omega | (simp only [ASt.set_ctr, ASt.new_ctr] <;> omega)) only [r4_0.down, r4_1.down, r4_2.down, n4_4, n4_3, n4_2, r4_3.down, r4_4.down, n4_8, n4_7, n4_6, r4_6.down, r4_7.down, r4_8.down, r4_9.down, r4_10.down, r4_11.down, n4_19, n4_18, r4_12.down, n4_20, n4_17, n4_16, l4_0, n4_15, n4_14, n4_13, n4_12, n4_11, r4_13.down, n4_10, n4_9, n4_5, n4_1, n4_0, rq_4, cf_6, o_ldp_33, o_ldi_33, cf_13, cf_14, o_al_36, o_st_36, o_fap_36_0, o_fai_36_0, o_ldp_34, o_ldi_34, o_leni_34, o_lens_34, o_lenn_34, o_ixi_34, o_ixs_34, o_fap_41_4, o_fai_41_4, o_ldp_3, o_ldi_3, o_cv_5_3, o_st_3, o_ldp_36, o_ldi_36, cf_15, cf_16, eq_str, o_eqb_4_eql, AVal.undef, zaa, zab, aeval, aput, ahint, absOf, flat, nilCheckA, ANext.ofP, evals, evalPs, evalO, zac, zad, zae, zaf, ↓reduceIte, Nat.reduceLT, Nat.reduceEqDiff, reduceCtorEq, zag, zah, zai, zaj, zak, Nat.reduceAdd, Nat.reduceLeDiff, callA, zal, zam, zan, zao, zap, zaq, zar, zas, zat, zau, evalV, yieldB, zav, zaw, zax, zay, zaz, zba, zbb, zbc, zbd, zbe, zbf, zbg, zbh, zbi, zbj, zbk, zbl, zbm, zbn, zbo, zbp, zbq, zbr, extractA, zbs, zbt, zbu, zbv, zbw, zbx, zby, zbz, zca, zcb, zcc, zcd, zce, zcf, zcg, zch, zci, zcj, zck, zcl, zcm, zcn, zco, zcp, zcq, zcr, zcs, zct, zcu, zcv, zcw, zcx, zcy, zcz, zda, zdb, zdc, zdd, zde, zdf, zdg, zdh, zdi, zdj, boxA, newA, zdk, zdl, zdm, zdn, zdo, zdp, zdq, zdr, zds, zdt, zdu, zdv, zdw, fillA, putL, setsE, zdx, zdy, zdz, zea, zeb, zec, zed, zee, zef, zeg, zeh, zei, zej, Nat.reduceBEq, Nat.reduceBNe, zek, zel, zem, zen, Nat.reduceMul, zeo, zep, zeq, zer, zes, zet, zeu, zev, zew, zex, zey, zez, zfa, zfb, zfc, zfd, zfe, zff, zfg, zfh, zfi, zfj, zfk, zfl, zfm, zfn, zfo, zfp, zfq, zfr, zfs, zft, zfu, zfv, zfw, zfx, zfy, zfz, zga, zgb, zgc, zgd, zge, zgf, zgg, zgh, zgi, zgj, ne_eq, zgk, zgl, zgm, zgn, zgo, gt_iff_lt, ge_iff_le, zgp, zgq, zgr, zgs, zgt, zgu, zgv, zgw, zgx, zgy, zgz, zha, zhb, zhc, zhd, zhe, zhf, zhg, zhh, zhi, zhj, zhk, zhl, zhm, zhn, zho, zhp, zhq, gp_opg, zhr, zhs, zht, zhu, zhv, zhw, zhx, zhy, stillD, Int.reduceToNat, zhz, zia, q2,q3,hA,hr,hvc,q7,q8])
    refine sc_ex m fun r s1 h1 => ?_
    obtain ⟨v, rfl, hp, g⟩ := h1
    obtain ⟨k5, d5, hlo⟩ := DesAt.of hp c2 (makeP_ne x)
    have e5 := d5.1
    subst e5
    have g7 := g.at h7 t7
    have g8 := g.at h8 t8
    have dd1 := (d1.gr g).set (makeP_ne x) g8 (some (.cells [.slice k5 0 (makeP x).length 5 none]))
    have dd5 := d5.set (makeP_ne x) g8 (some (.cells [.slice k5 0 (makeP x).length 5 none]))
    have hk15 : k1 ≠ k5 := by have := d1.2.2.1; omega
    have z7 : (s1.set p8 (some (.cells [.slice k5 0 (makeP x).length 5 none]))).heap p7 = some (.cells [.slice k1 0 (makeP x).length 5 none]) := by rw [ASt.set_ne _ _ _ _ hne]; exact g7
    have z8 : (s1.set p8 (some (.cells [.slice k5 0 (makeP x).length 5 none]))).heap p8 = some (.cells [.slice k5 0 (makeP x).length 5 none]) := ASt.set_same _ _ _
    have LV := fun mt ty cs st2 => des_len dd5.des mt ty cs st2
    repeat' (first | (first | apply ifk_og | apply ifk_gg | apply ifk_go | apply ifk_ss) <;> intro hc | simp (maxSteps := 5000000) (disch := first | assumption | omega | (simp only [ASt.set_ctr, ASt.new_ctr] <;> omega)) only [r4_0.down, r4_1.down, r4_2.down, n4_4, n4_3, n4_2, r4_3.down, r4_4.down, n4_8, n4_7, n4_6, r4_6.down, r4_7.down, r4_8.down, r4_9.down, r4_10.down, r4_11.down, n4_19, n4_18, r4_12.down, n4_20, n4_17, n4_16, l4_0, n4_15, n4_14, n4_13, n4_12, n4_11, r4_13.down, n4_10, n4_9, n4_5, n4_1, n4_0, rq_4, cf_6, o_ldp_33, o_ldi_33, cf_13, cf_14, o_al_36, o_st_36, o_fap_36_0, o_fai_36_0, o_ldp_34, o_ldi_34, o_leni_34, o_lens_34, o_lenn_34, o_ixi_34, o_ixs_34, o_fap_41_4, o_fai_41_4, o_ldp_3, o_ldi_3, o_cv_5_3, o_st_3, o_ldp_36, o_ldi_36, cf_15, cf_16, eq_str, o_eqb_4_eql, AVal.undef, zaa, zab, aeval, aput, ahint, absOf, flat, nilCheckA, ANext.ofP, evals, evalPs, evalO, zac, zad, zae, zaf, ↓reduceIte, Nat.reduceLT, Nat.reduceEqDiff, reduceCtorEq, zag, zah, zai, zaj, zak, Nat.reduceAdd, Nat.reduceLeDiff, callA, zal, zam, zan, zao, zap, zaq, zar, zas, zat, zau, evalV, yieldB, zav, zaw, zax, zay, zaz, zba, zbb, zbc, zbd, zbe, zbf, zbg, zbh, zbi, zbj, zbk, zbl, zbm, zbn, zbo, zbp, zbq, zbr, extractA, zbs, zbt, zbu, zbv, zbw, zbx, zby, zbz, zca, zcb, zcc, zcd, zce, zcf, zcg, zch, zci, zcj, zck, zcl, zcm, zcn, zco, zcp, zcq, zcr, zcs, zct, zcu, zcv, zcw, zcx, zcy, zcz, zda, zdb, zdc, zdd, zde, zdf, zdg, zdh, zdi, zdj, boxA, newA, zdk, zdl, zdm, zdn, zdo, zdp, zdq, zdr, zds, zdt, zdu, zdv, zdw, fillA, putL, setsE, zdx, zdy, zdz, zea, zeb, zec, zed, zee, zef, zeg, zeh, zei, zej, Nat.reduceBEq, Nat.reduceBNe, zek, zel, zem, zen, Nat.reduceMul, zeo, zep, zeq, zer, zes, zet, zeu, zev, zew, zex, zey, zez, zfa, zfb, zfc, zfd, zfe, zff, zfg, zfh, zfi, zfj, zfk, zfl, zfm, zfn, zfo, zfp, zfq, zfr, zfs, zft, zfu, zfv, zfw, zfx, zfy, zfz, zga, zgb, zgc, zgd, zge, zgf, zgg, zgh, zgi, zgj, ne_eq, zgk, zgl, zgm, zgn, zgo, gt_iff_lt, ge_iff_le, zgp, zgq, zgr, zgs, zgt, zgu, zgv, zgw, zgx, zgy, zgz, zha, zhb, zhc, zhd, zhe, zhf, zhg, zhh, zhi, zhj, zhk, zhl, zhm, zhn, zho, zhp, zhq, gp_opg, zhr, zhs, zht, zhu, zhv, zhw, zhx, zhy, stillD, Int.reduceToNat, zhz, zia, q2,q3,q7,q8,g8,z8,LV])
    have tl : ∀ j, j < (makeP x).length → ∀ d, (makeP x)[j]? = some d → d.pos = 0 := fun j _ d hd => ((makeP_fit okx).1 d (List.mem_of_getElem? hd)).ok.pos
    have hlen : (makeP x).length ≤ 100 := px.len
    refine g_loop (fun i f st' => ∃ t, i = (makeP x).length - t ∧ t ≤ (makeP x).length ∧ f 2 = .lit (.int .u8 (turn : Int)) ∧ f 7 = .ptr p7 0 ∧ f 8 = .ptr p8 0 ∧ f 31 = .lit (.int .i64 ((makeP x).length : Int)) ∧ f 32 = .lit (.int .i64 (t : Int)) ∧
        st'.heap p7 = some (.cells [.slice k1 0 (makeP x).length 5 none]) ∧ st'.heap p8 = some (.cells [.slice k5 0 (makeP x).length 5 none]) ∧ p7 < st'.ctr ∧ p8 < st'.ctr ∧
        DesAt st' (.agg [.slice k1 0 (makeP x).length 5 none]) (makeP x) k1 ∧ DesAt st' (.agg [.slice k5 0 (makeP x).length 5 none]) (mvTo turn t (makeP x)) k5)
      (fun i f st' hI => ?_) (makeP x).length _ _ ⟨0, rfl, Nat.zero_le _, q2, q7, q8, rfl, rfl, z7, z8, Nat.lt_of_lt_of_le t7 g.1, Nat.lt_of_lt_of_le t8 g.1, dd1, by unfold mvTo; exact dd5⟩
    clear q2 q3 q7 q8 hA hr hvc LV z7 z8 dd1 dd5 g7 g8 d5 d1 d3 h7 h8 hp g t7 t8
    obtain ⟨t, rfl, htn, q2, q7, q8, q31, q32, h7, h8, t7, t8, d1, d5⟩ := hI
    by_cases hlt : t < (makeP x).length
    · obtain ⟨d, hd⟩ : ∃ d, (makeP x)[t]? = some d := ⟨_, List.getElem?_eq_getElem hlt⟩
      obtain ⟨fl, f1, f2, f3, f4, f5⟩ := d5.put (mvTo_at (n := turn) hd)
      have hp0 := tl t hlt d hd
      rw [hp0] at f3
      rw [mvTo_len] at f4
      have f6 := f5 turn
      have e6 : ({ d with pos := turn } : De) = d.mv turn := by unfold De.mv; rw [hp0, Nat.zero_add]
      rw [e6, mvTo_set hd] at f6
      have hadd : (t : Int) + 1 = ((t + 1 : Nat) : Int) := by omega
      have hz : ((0 : Nat) : Int) + (turn : Int) = (turn : Int) := by omega
      have n7 : p7 ≠ k5 := d5.ne (by have := mvTo_len turn t (makeP x); intro e; rw [e] at this; exact makeP_ne x (List.length_eq_zero_iff.1 this.symm)) h7
      have n8 : p8 ≠ k5 := d5.ne (by have := mvTo_len turn t (makeP x); intro e; rw [e] at this; exact makeP_ne x (List.length_eq_zero_iff.1 this.symm)) h8
      have u7 : (st'.set k5 (some (.cells (fl.set (t * 5 + 4) (.lit (.int .i64 (turn : Int))))))).heap p7 = _ := (ASt.set_ne _ _ _ _ n7).trans h7
      have u8 : (st'.set k5 (some (.cells (fl.set (t * 5 + 4) (.lit (.int .i64 (turn : Int))))))).heap p8 = _ := (ASt.set_ne _ _ _ _ n8).trans h8
      have u1 := d1.put_ne hk15 (some (.cells (fl.set (t * 5 + 4) (.lit (.int .i64 (turn : Int))))))
      clear f5 d5 d1 hd e6 n7 n8 px py
      repeat' (first | (first | apply ifk_og | apply ifk_gg | apply ifk_go | apply ifk_ss) <;> intro hc | simp (maxSteps := 5000000) (disch := first | assumption | omega | (simp only [ASt.set_ctr, ASt.new_ctr] <;> omega)) only [r4_0.down, r4_1.down, r4_2.down, n4_4, n4_3, n4_2, r4_3.down, r4_4.down, n4_8, n4_7, n4_6, r4_6.down, r4_7.down, r4_8.down, r4_9.down, r4_10.down, r4_11.down, n4_19, n4_18, r4_12.down, n4_20, n4_17, n4_16, l4_0, n4_15, n4_14, n4_13, n4_12, n4_11, r4_13.down, n4_21, n4_10, n4_9, n4_5, n4_1, n4_0, rq_4, cf_6, o_ldp_33, o_ldi_33, cf_13, cf_14, o_al_36, o_st_36, o_fap_36_0, o_fai_36_0, o_ldp_34, o_ldi_34, o_leni_34, o_lens_34, o_lenn_34, o_ixi_34, o_ixs_34, o_fap_41_4, o_fai_41_4, o_ldp_3, o_ldi_3, o_cv_5_3, o_st_3, o_ldp_36, o_ldi_36, cf_15, cf_16, eq_str, o_eqb_4_eql, AVal.undef, zaa, zab, aeval, aput, ahint, absOf, flat, nilCheckA, ANext.ofP, evals, evalPs, evalO, zac, zad, zae, zaf, ↓reduceIte, Nat.reduceLT, Nat.reduceEqDiff, reduceCtorEq, zag, zah, zai, zaj, zak, Nat.reduceAdd, Nat.reduceLeDiff, callA, zal, zam, zan, zao, zap, zaq, zar, zas, zat, zau, evalV, yieldB, zav, zaw, zax, zay, zaz, zba, zbb, zbc, zbd, zbe, zbf, zbg, zbh, zbi, zbj, zbk, zbl, zbm, zbn, zbo, zbp, zbq, zbr, extractA, zbs, zbt, zbu, zbv, zbw, zbx, zby, zbz, zca, zcb, zcc, zcd, zce, zcf, zcg, zch, zci, zcj, zck, zcl, zcm, zcn, zco, zcp, zcq, zcr, zcs, zct, zcu, zcv, zcw, zcx, zcy, zcz, zda, zdb, zdc, zdd, zde, zdf, zdg, zdh, zdi, zdj, boxA, newA, zdk, zdl, zdm, zdn, zdo, zdp, zdq, zdr, zds, zdt, zdu, zdv, zdw, fillA, putL, setsE, zdx, zdy, zdz, zea, zeb, zec, zed, zee, zef, zeg, zeh, zei, zej, Nat.reduceBEq, Nat.reduceBNe, zek, zel, zem, zen, Nat.reduceMul, zeo, zep, zeq, zer, zes, zet, zeu, zev, zew, zex, zey, zez, zfa, zfb, zfc, zfd, zfe, zff, zfg, zfh, zfi, zfj, zfk, zfl, zfm, zfn, zfo, zfp, zfq, zfr, zfs, zft, zfu, zfv, zfw, zfx, zfy, zfz, zga, zgb, zgc, zgd, zge, zgf, zgg, zgh, zgi, zgj, ne_eq, zgk, zgl, zgm, zgn, zgo, gt_iff_lt, ge_iff_le, zgp, zgq, zgr, zgs, zgt, zgu, zgv, zgw, zgx, zgy, zgz, zha, zhb, zhc, zhd, zhe, zhf, zhg, zhh, zhi, zhj, zhk, zhl, zhm, zhn, zho, zhp, zhq, gp_opg, zhr, zhs, zht, zhu, zhv, zhw, zhx, zhy, stillD, Int.reduceToNat, zhz, zia, q2,q7,q8,q31,q32,h8,f1,f2,f3,f4,hadd,hz])
      refine lq_n (j := (makeP x).length - (t + 1)) (by omega) ?_
      exact ⟨t + 1, rfl, by omega, q2, q7, q8, q31, rfl, u7, u8, t7, t8, u1, f6⟩
    · obtain rfl : t = (makeP x).length := by omega
      rw [mvTo_all] at d5
      have d6 := d5.des
      rw [List.length_map] at d6
      repeat' (first | (first | apply ifk_og | apply ifk_gg | apply ifk_go | apply ifk_ss) <;> intro hc | simp (maxSteps := 5000000) (disch := first | assumption | omega | (simp only [ASt.set_ctr, ASt.new_ctr] <;> omega)) only [r4_0.down, r4_1.down, r4_2.down, n4_4, n4_3, n4_2, r4_3.down, r4_4.down, n4_8, n4_7, n4_6, r4_6.down, r4_7.down, r4_8.down, r4_9.down, r4_10.down, r4_11.down, n4_19, n4_18, r4_12.down, n4_20, n4_17, n4_16, l4_0, n4_15, n4_14, n4_13, n4_12, n4_11, r4_13.down, n4_10, n4_9, n4_5, n4_1, n4_0, rq_4, cf_6, o_ldp_33, o_ldi_33, cf_13, cf_14, o_al_36, o_st_36, o_fap_36_0, o_fai_36_0, o_ldp_34, o_ldi_34, o_leni_34, o_lens_34, o_lenn_34, o_ixi_34, o_ixs_34, o_fap_41_4, o_fai_41_4, o_ldp_3, o_ldi_3, o_cv_5_3, o_st_3, o_ldp_36, o_ldi_36, cf_15, cf_16, eq_str, o_eqb_4_eql, AVal.undef, zaa, zab, aeval, aput, ahint, absOf, flat, nilCheckA, ANext.ofP, evals, evalPs, evalO, zac, zad, zae, zaf, ↓reduceIte, Nat.reduceLT, Nat.reduceEqDiff, reduceCtorEq, zag, zah, zai, zaj, zak, Nat.reduceAdd, Nat.reduceLeDiff, callA, zal, zam, zan, zao, zap, zaq, zar, zas, zat, zau, evalV, yieldB, zav, zaw, zax, zay, zaz, zba, zbb, zbc, zbd, zbe, zbf, zbg, zbh, zbi, zbj, zbk, zbl, zbm, zbn, zbo, zbp, zbq, zbr, extractA, zbs, zbt, zbu, zbv, zbw, zbx, zby, zbz, zca, zcb, zcc, zcd, zce, zcf, zcg, zch, zci, zcj, zck, zcl, zcm, zcn, zco, zcp, zcq, zcr, zcs, zct, zcu, zcv, zcw, zcx, zcy, zcz, zda, zdb, zdc, zdd, zde, zdf, zdg, zdh, zdi, zdj, boxA, newA, zdk, zdl, zdm, zdn, zdo, zdp, zdq, zdr, zds, zdt, zdu, zdv, zdw, fillA, putL, setsE, zdx, zdy, zdz, zea, zeb, zec, zed, zee, zef, zeg, zeh, zei, zej, Nat.reduceBEq, Nat.reduceBNe, zek, zel, zem, zen, Nat.reduceMul, zeo, zep, zeq, zer, zes, zet, zeu, zev, zew, zex, zey, zez, zfa, zfb, zfc, zfd, zfe, zff, zfg, zfh, zfi, zfj, zfk, zfl, zfm, zfn, zfo, zfp, zfq, zfr, zfs, zft, zfu, zfv, zfw, zfx, zfy, zfz, zga, zgb, zgc, zgd, zge, zgf, zgg, zgh, zgi, zgj, ne_eq, zgk, zgl, zgm, zgn, zgo, gt_iff_lt, ge_iff_le, zgp, zgq, zgr, zgs, zgt, zgu, zgv, zgw, zgx, zgy, zgz, zha, zhb, zhc, zhd, zhe, zhf, zhg, zhh, zhi, zhj, zhk, zhl, zhm, zhn, zho, zhp, zhq, gp_opg, zhr, zhs, zht, zhu, zhv, zhw, zhx, zhy, stillD, Int.reduceToNat, zhz, zia, q7,q8,q31,q32])
      exact ts_fin px (px.mv turn) _ _ q7 q8 h7 h8 t7 t8 d1.des d6
  · repeat' (first | (first | apply ifk_og | apply ifk_gg | apply ifk_go | apply ifk_ss) <;> intro hc | simp (maxSteps := 5000000) (disch := first | assumption | omega | (simp only [ASt.set_ctr, ASt.new_ctr] <;> omega)) only [r4_0.down, r4_1.down, r4_2.down, n4_4, n4_3, n4_2, r4_3.down, r4_4.down, n4_8, n4_7, n4_6, r4_6.down, r4_7.down, r4_8.down, r4_9.down, r4_10.down, r4_11.down, n4_19, n4_18, r4_12.down, n4_20, n4_17, n4_16, l4_0, n4_15, n4_14, n4_13, n4_12, n4_11, r4_13.down, n4_10, n4_9, n4_5, n4_1, n4_0, rq_4, cf_6, o_ldp_33, o_ldi_33, cf_13, cf_14, o_al_36, o_st_36, o_fap_36_0, o_fai_36_0, o_ldp_34, o_ldi_34, o_leni_34, o_lens_34, o_lenn_34, o_ixi_34, o_ixs_34, o_fap_41_4, o_fai_41_4, o_ldp_3, o_ldi_3, o_cv_5_3, o_st_3, o_ldp_36, o_ldi_36, cf_15, cf_16, eq_str, o_eqb_4_eql, AVal.undef, zaa, zab, aeval, aput, ahint, absOf, flat, nilCheckA, ANext.ofP, evals, evalPs, evalO, zac, zad, zae, zaf, ↓reduceIte, Nat.reduceLT, Nat.reduceEqDiff, reduceCtorEq, zag, zah, zai, zaj, zak, Nat.reduceAdd, Nat.reduceLeDiff, callA, zal, zam, zan, zao, zap, zaq, zar, zas, zat, zau, evalV, yieldB, zav, zaw, zax, zay, zaz, zba, zbb, zbc, zbd, zbe, zbf, zbg, zbh, zbi, zbj, zbk, zbl, zbm, zbn, zbo, zbp, zbq, zbr, extractA, zbs, zbt, zbu, zbv, zbw, zbx, zby, zbz, zca, zcb, zcc, zcd, zce, zcf, zcg, zch, zci, zcj, zck, zcl, zcm, zcn, zco, zcp, zcq, zcr, zcs, zct, zcu, zcv, zcw, zcx, zcy, zcz, zda, zdb, zdc, zdd, zde, zdf, zdg, zdh, zdi, zdj, boxA, newA, zdk, zdl, zdm, zdn, zdo, zdp, zdq, zdr, zds, zdt, zdu, zdv, zdw, fillA, putL, setsE, zdx, zdy, zdz, zea, zeb, zec, zed, zee, zef, zeg, zeh, zei, zej, Nat.reduceBEq, Nat.reduceBNe, zek, zel, zem, zen, Nat.reduceMul, zeo, zep, zeq, zer, zes, zet, zeu, zev, zew, zex, zey, zez, zfa, zfb, zfc, zfd, zfe, zff, zfg, zfh, zfi, zfj, zfk, zfl, zfm, zfn, zfo, zfp, zfq, zfr, zfs, zft, zfu, zfv, zfw, zfx, zfy, zfz, zga, zgb, zgc, zgd, zge, zgf, zgg, zgh, zgi, zgj, ne_eq, zgk, zgl, zgm, zgn, zgo, gt_iff_lt, ge_iff_le, zgp, zgq, zgr, zgs, zgt, zgu, zgv, zgw, zgx, zgy, zgz, zha, zhb, zhc, zhd, zhe, zhf, zhg, zhh, zhi, zhj, zhk, zhl, zhm, zhn, zho, zhp, zhq, gp_opg, zhr, zhs, zht, zhu, zhv, zhw, zhx, zhy, stillD, Int.reduceToNat, zhz, zia, q2,q3,hA,hr,hvc])
    exact ts_fin px py _ _ q7 q8 h7 h8 t7 t8 d1.des d3.des
end Go.Proofs.YtpgcbmmifmnfpaaDoorV
