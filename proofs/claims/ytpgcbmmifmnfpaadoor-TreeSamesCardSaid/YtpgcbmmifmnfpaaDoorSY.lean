/- TreeSames, whole. No condition. -/
import Derived.Test.YtpgcbmmifmnfpaaDoorSX
namespace Go.Proofs.YtpgcbmmifmnfpaaDoorV
open Go Go.RowKit Go.Proofs.YtpgcbmmifmnfpaaDoorA
set_option linter.unusedVariables false
set_option linter.unusedSimpArgs false
set_option maxRecDepth 100000

theorem RJ.all {x y : Sml} {vx vy tn : AVal} {b : Nat → Bool} {f : Nat → AVal} {st : ASt} (h : RJ x y vx vy tn b f st) (hb : ∀ k, k < 8 → b k = true) : RJ x y vx vy tn (fun _ => true) f st := by
  have b0 := hb 0 (by decide)
  have b1 := hb 1 (by decide)
  have b2 := hb 2 (by decide)
  have b3 := hb 3 (by decide)
  have b4 := hb 4 (by decide)
  have b5 := hb 5 (by decide)
  have b6 := hb 6 (by decide)
  have b7 := hb 7 (by decide)
  refine ⟨h.c2, h.q2, h.q3, h.q4, h.hA, h.hB, fun _ => h.l0 b0, fun _ => h.l2 b2, fun _ => h.l1 b1, fun _ => h.l3 b3, fun _ _ => h.l13 b1 b3, fun _ => ?_, fun _ => ?_, fun _ _ => h.l45 b4 b5, fun _ => ⟨rfl, rfl⟩, fun _ => ⟨rfl, rfl⟩⟩
  · obtain ⟨p, c, e1, e2, e3, e4, e5⟩ := h.l4 b4
    exact ⟨p, c, e1, e2, e3, e4, fun _ => e5 b6⟩
  · obtain ⟨p, c, e1, e2, e3, e4, e5⟩ := h.l5 b5
    exact ⟨p, c, e1, e2, e3, e4, fun _ => e5 b7⟩
theorem put_eq {listed : Array Bool} {i : Nat} (hi : i < listed.size) : (fun k => (listed.setIfInBounds i true).getD k false) = putB (fun k => listed.getD k false) i := by
  funext k
  unfold putB
  by_cases h : k = i
  · subst h
    rw [if_pos rfl]
    simp [hi]
  · rw [if_neg h, getD_set_ne false (fun e => h e.symm)]
section
variable {x y : Sml} {vx vy : AVal} {base : Nat} {w0 : World}
set_option maxHeartbeats 4000000 in
theorem r5_sq (hprim : PrimOK E base w0) (hm : E.P.follows .mixedOrders = true) (okx : x.ok) (oky : y.ok) (hx : ThV vx x.threads) (hy : ThV vy y.threads) {tn : AVal} {Q : APost} (f : Nat → AVal) (st : ASt) (h : RJ x y vx vy tn (fun _ => false) f st)
    (K : ∀ f st, RJ x y vx vy tn (fun _ => true) f st → Q .normal (Sl 67 f) st) : SQ E base w0 R5 (Sl 67 f) st Q := by
  rw [r5_form]
  refine SQ.any (fid := 4) hprim hm (I := fun listed ts st => listed.size = 8 ∧ ∃ f, ts = Sl 67 f ∧ RJ x y vx vy tn (fun k => listed.getD k false) f st) ?_ ?_ ⟨by rw [Array.size_replicate, r5_size], f, rfl, ?_⟩
  · rintro listed ts st i ⟨hs, f, rfl, hJ⟩ _ hi
    have hun := ready_un hi
    obtain ⟨_, o, ho, hd⟩ := mem_ready.1 hi
    have h8 : i < 8 := by
      have := (Array.getElem?_eq_some_iff.1 ho).1
      rwa [r5_size] at this
    have e := put_eq (listed := listed) (i := i) (by omega)
    have hs2 : (listed.setIfInBounds i true).size = 8 := by rw [Array.size_setIfInBounds]; exact hs
    refine ⟨o, ho, ?_⟩
    have goal : ∀ p, poM (regOps R5).toList [o] = [p] → Go E 4 [p] [] (RQ5 x y vx vy tn (putB (fun k => listed.getD k false) i)) (Sl 67 f) st →
        WOps E 4 (poM (regOps R5).toList [o]) (fun e ts' st' => e = .normal ∧ (listed.setIfInBounds i true).size = 8 ∧ ∃ f, ts' = Sl 67 f ∧ RJ x y vx vy tn (fun k => (listed.setIfInBounds i true).getD k false) f st') (Sl 67 f) st := by
      intro p hp hg
      rw [hp, e]
      have : (fun e ts' st' => e = AExit.normal ∧ (listed.setIfInBounds i true).size = 8 ∧ ∃ f, ts' = Sl 67 f ∧ RJ x y vx vy tn (putB (fun k => listed.getD k false) i) f st') = RQ5 x y vx vy tn (putB (fun k => listed.getD k false) i) := by
        funext e ts' st'
        unfold RQ5
        simp only [hs2, true_and]
      rw [this]
      exact hg
    have hc : i = 0 ∨ i = 1 ∨ i = 2 ∨ i = 3 ∨ i = 4 ∨ i = 5 ∨ i = 6 ∨ i = 7 := by omega
    rcases hc with rfl | rfl | rfl | rfl | rfl | rfl | rfl | rfl
    · obtain ⟨o', ho', hp⟩ := r5_0
      cases ho.symm.trans ho'
      exact goal _ hp (s0 hx.cell hJ)
    · obtain ⟨o', ho', hp, d1⟩ := r5_1
      cases ho.symm.trans ho'
      exact goal _ hp (s1 okx hx hJ (dep_of d1 hd) hun)
    · obtain ⟨o', ho', hp⟩ := r5_2
      cases ho.symm.trans ho'
      exact goal _ hp (s2 hy.cell hJ)
    · obtain ⟨o', ho', hp, d1⟩ := r5_3
      cases ho.symm.trans ho'
      exact goal _ hp (s3 oky hy hJ (dep_of d1 hd) hun)
    · obtain ⟨o', ho', hp⟩ := r5_4
      cases ho.symm.trans ho'
      exact goal _ hp (s4 hJ hun)
    · obtain ⟨o', ho', hp⟩ := r5_5
      cases ho.symm.trans ho'
      exact goal _ hp (s5 hJ hun)
    · obtain ⟨o', ho', hp, d1, d2⟩ := r5_6
      cases ho.symm.trans ho'
      exact goal _ hp (s6 hJ (dep_of d1 hd) (dep_of d2 hd))
    · obtain ⟨o', ho', hp, d1, d2⟩ := r5_7
      cases ho.symm.trans ho'
      exact goal _ hp (s7 hJ (dep_of d1 hd) (dep_of d2 hd))
  · rintro listed ts st ⟨hs, f, rfl, hJ⟩ hr
    have ha := all_listed r5_up (by rw [r5_size]; exact hs) hr
    exact K f st (hJ.all fun k hk => ha k (by rw [r5_size]; exact hk))
  · have e : (fun k => (Array.replicate (regOps R5).size false).getD k false) = fun _ => false := by
      funext k
      by_cases hk : k < (regOps R5).size <;> simp [hk]
    rw [e]
    exact h
set_option maxHeartbeats 8000000 in
/-- the law -/
theorem ts_sq (hprim : PrimOK E base w0) (hm : E.P.follows .mixedOrders = true) (hx : ThV vx x.threads) (hy : ThV vy y.threads) (ax : SmlA x) (ay : SmlA y) (turn : Nat) (ht : turn < 256) (g : Nat → AVal) (t0 : g 0 = .agg (x.cs vx)) (t1 : g 1 = .agg (y.cs vy)) (t2 : g 2 = .lit (.int .u8 (turn : Int))) :
    SQ E base w0 N4_0 (Sl 67 g) st0 (RQ E Tryd.f4 fun r _ => isT r) := by
  have hcx := hx.cell
  have hcy := hy.cell
  have ha := awake2 (x.cs vx) (y.cs vy)
  unfold Sml.cs at t0 t1 ha
  have z : st0.ctr = 0 := rfl
  refine SQ.seq (x := R4_0) (y := N4_1) (SQ.of_wp (fid := 4) hprim hm (w_ok _ _ _ _ ?_))
  show Gc E 4 R4_0 [] _ (Sl 67 g) st0
  repeat' (first | (first | apply ifk_og | apply ifk_gg | apply ifk_go | apply ifk_ss) <;> intro hc | simp (maxSteps := 5000000) (disch := first | assumption | omega | (simp only [ASt.set_ctr, ASt.new_ctr] <;> omega)) only [r4_0.down, r4_1.down, r4_2.down, n4_4, n4_3, n4_2, r4_3.down, r4_4.down, n4_8, n4_7, n4_6, r4_6.down, r4_7.down, r4_8.down, r4_9.down, r4_10.down, r4_11.down, n4_19, n4_18, r4_12.down, n4_20, n4_17, n4_16, l4_0, n4_15, n4_14, n4_13, n4_12, n4_11, r4_13.down, n4_21, n4_10, n4_9, n4_5, n4_1, n4_0, rq_4, cf_6, o_ldp_33, o_ldi_33, cf_13, cf_14, o_al_36, o_st_36, o_fap_36_0, o_fai_36_0, o_ldp_34, o_ldi_34, o_leni_34, o_lens_34, o_lenn_34, o_ixi_34, o_ixs_34, o_fap_41_4, o_fai_41_4, o_ldp_3, o_ldi_3, o_cv_5_3, o_st_3, o_ldp_36, o_ldi_36, cf_15, cf_16, eq_str, o_eqb_4_eql, AVal.undef, zaa, zab, aeval, aput, ahint, absOf, flat, nilCheckA, ANext.ofP, evals, evalPs, evalO, zac, zad, zae, zaf, ↓reduceIte, Nat.reduceLT, Nat.reduceEqDiff, reduceCtorEq, zag, zah, zai, zaj, zak, Nat.reduceAdd, Nat.reduceLeDiff, callA, zal, zam, zan, zao, zap, zaq, zar, zas, zat, zau, evalV, yieldB, zav, zaw, zax, zay, zaz, zba, zbb, zbc, zbd, zbe, zbf, zbg, zbh, zbi, zbj, zbk, zbl, zbm, zbn, zbo, zbp, zbq, zbr, extractA, zbs, zbt, zbu, zbv, zbw, zbx, zby, zbz, zca, zcb, zcc, zcd, zce, zcf, zcg, zch, zci, zcj, zck, zcl, zcm, zcn, zco, zcp, zcq, zcr, zcs, zct, zcu, zcv, zcw, zcx, zcy, zcz, zda, zdb, zdc, zdd, zde, zdf, zdg, zdh, zdi, zdj, boxA, newA, zdk, zdl, zdm, zdn, zdo, zdp, zdq, zdr, zds, zdt, zdu, zdv, zdw, fillA, putL, setsE, zdx, zdy, zdz, zea, zeb, zec, zed, zee, zef, zeg, zeh, zei, zej, Nat.reduceBEq, Nat.reduceBNe, zek, zel, zem, zen, Nat.reduceMul, zeo, zep, zeq, zer, zes, zet, zeu, zev, zew, zex, zey, zez, zfa, zfb, zfc, zfd, zfe, zff, zfg, zfh, zfi, zfj, zfk, zfl, zfm, zfn, zfo, zfp, zfq, zfr, zfs, zft, zfu, zfv, zfw, zfx, zfy, zfz, zga, zgb, zgc, zgd, zge, zgf, zgg, zgh, zgi, zgj, ne_eq, zgk, zgl, zgm, zgn, zgo, gt_iff_lt, ge_iff_le, zgp, zgq, zgr, zgs, zgt, zgu, zgv, zgw, zgx, zgy, zgz, zha, zhb, zhc, zhd, zhe, zhf, zhg, zhh, zhi, zhj, zhk, zhl, zhm, zhn, zho, zhp, zhq, gp_opg, zhr, zhs, zht, zhu, zhv, zhw, zhx, zhy, stillD, Int.reduceToNat, zhz, zia, t0,t1,t2,hcx,hcy,z,nx_n,nx_r])
  refine SQ.seq (x := N4_2) (y := N4_5) (SQ.of_wp (fid := 4) hprim hm (w_ok _ _ _ _ ?_))
  show Gc E 4 N4_2 [] _ (Sl 67 _) _
  repeat' (first | (first | apply ifk_og | apply ifk_gg | apply ifk_go | apply ifk_ss) <;> intro hc | simp (maxSteps := 5000000) (disch := first | assumption | omega | (simp only [ASt.set_ctr, ASt.new_ctr] <;> omega)) only [r4_0.down, r4_1.down, r4_2.down, n4_4, n4_3, n4_2, r4_3.down, r4_4.down, n4_8, n4_7, n4_6, r4_6.down, r4_7.down, r4_8.down, r4_9.down, r4_10.down, r4_11.down, n4_19, n4_18, r4_12.down, n4_20, n4_17, n4_16, l4_0, n4_15, n4_14, n4_13, n4_12, n4_11, r4_13.down, n4_21, n4_10, n4_9, n4_5, n4_1, n4_0, rq_4, cf_6, o_ldp_33, o_ldi_33, cf_13, cf_14, o_al_36, o_st_36, o_fap_36_0, o_fai_36_0, o_ldp_34, o_ldi_34, o_leni_34, o_lens_34, o_lenn_34, o_ixi_34, o_ixs_34, o_fap_41_4, o_fai_41_4, o_ldp_3, o_ldi_3, o_cv_5_3, o_st_3, o_ldp_36, o_ldi_36, cf_15, cf_16, eq_str, o_eqb_4_eql, AVal.undef, zaa, zab, aeval, aput, ahint, absOf, flat, nilCheckA, ANext.ofP, evals, evalPs, evalO, zac, zad, zae, zaf, ↓reduceIte, Nat.reduceLT, Nat.reduceEqDiff, reduceCtorEq, zag, zah, zai, zaj, zak, Nat.reduceAdd, Nat.reduceLeDiff, callA, zal, zam, zan, zao, zap, zaq, zar, zas, zat, zau, evalV, yieldB, zav, zaw, zax, zay, zaz, zba, zbb, zbc, zbd, zbe, zbf, zbg, zbh, zbi, zbj, zbk, zbl, zbm, zbn, zbo, zbp, zbq, zbr, extractA, zbs, zbt, zbu, zbv, zbw, zbx, zby, zbz, zca, zcb, zcc, zcd, zce, zcf, zcg, zch, zci, zcj, zck, zcl, zcm, zcn, zco, zcp, zcq, zcr, zcs, zct, zcu, zcv, zcw, zcx, zcy, zcz, zda, zdb, zdc, zdd, zde, zdf, zdg, zdh, zdi, zdj, boxA, newA, zdk, zdl, zdm, zdn, zdo, zdp, zdq, zdr, zds, zdt, zdu, zdv, zdw, fillA, putL, setsE, zdx, zdy, zdz, zea, zeb, zec, zed, zee, zef, zeg, zeh, zei, zej, Nat.reduceBEq, Nat.reduceBNe, zek, zel, zem, zen, Nat.reduceMul, zeo, zep, zeq, zer, zes, zet, zeu, zev, zew, zex, zey, zez, zfa, zfb, zfc, zfd, zfe, zff, zfg, zfh, zfi, zfj, zfk, zfl, zfm, zfn, zfo, zfp, zfq, zfr, zfs, zft, zfu, zfv, zfw, zfx, zfy, zfz, zga, zgb, zgc, zgd, zge, zgf, zgg, zgh, zgi, zgj, ne_eq, zgk, zgl, zgm, zgn, zgo, gt_iff_lt, ge_iff_le, zgp, zgq, zgr, zgs, zgt, zgu, zgv, zgw, zgx, zgy, zgz, zha, zhb, zhc, zhd, zhe, zhf, zhg, zhh, zhi, zhj, zhk, zhl, zhm, zhn, zho, zhp, zhq, gp_opg, zhr, zhs, zht, zhu, zhv, zhw, zhx, zhy, stillD, Int.reduceToNat, zhz, zia, t0,t1,t2,hcx,hcy,z,nx_n,nx_r])
  refine sc_ex ha fun r s1 h => ?_
  obtain ⟨rfl, g1⟩ := h
  have hA : s1.heap 0 = some (.cells (x.cs vx)) := g1.at rfl (Nat.zero_lt_succ _)
  have hB : s1.heap 1 = some (.cells (y.cs vy)) := g1.at rfl (Nat.le_refl _)
  have hc2 : 2 ≤ s1.ctr := g1.1
  unfold Sml.cs at hA hB
  clear ha g1
  repeat' (first | (first | apply ifk_og | apply ifk_gg | apply ifk_go | apply ifk_ss) <;> intro hc | simp (maxSteps := 5000000) (disch := first | assumption | omega | (simp only [ASt.set_ctr, ASt.new_ctr] <;> omega)) only [r4_0.down, r4_1.down, r4_2.down, n4_4, n4_3, n4_2, r4_3.down, r4_4.down, n4_8, n4_7, n4_6, r4_6.down, r4_7.down, r4_8.down, r4_9.down, r4_10.down, r4_11.down, n4_19, n4_18, r4_12.down, n4_20, n4_17, n4_16, l4_0, n4_15, n4_14, n4_13, n4_12, n4_11, r4_13.down, n4_21, n4_10, n4_9, n4_5, n4_1, n4_0, rq_4, cf_6, o_ldp_33, o_ldi_33, cf_13, cf_14, o_al_36, o_st_36, o_fap_36_0, o_fai_36_0, o_ldp_34, o_ldi_34, o_leni_34, o_lens_34, o_lenn_34, o_ixi_34, o_ixs_34, o_fap_41_4, o_fai_41_4, o_ldp_3, o_ldi_3, o_cv_5_3, o_st_3, o_ldp_36, o_ldi_36, cf_15, cf_16, eq_str, o_eqb_4_eql, AVal.undef, zaa, zab, aeval, aput, ahint, absOf, flat, nilCheckA, ANext.ofP, evals, evalPs, evalO, zac, zad, zae, zaf, ↓reduceIte, Nat.reduceLT, Nat.reduceEqDiff, reduceCtorEq, zag, zah, zai, zaj, zak, Nat.reduceAdd, Nat.reduceLeDiff, callA, zal, zam, zan, zao, zap, zaq, zar, zas, zat, zau, evalV, yieldB, zav, zaw, zax, zay, zaz, zba, zbb, zbc, zbd, zbe, zbf, zbg, zbh, zbi, zbj, zbk, zbl, zbm, zbn, zbo, zbp, zbq, zbr, extractA, zbs, zbt, zbu, zbv, zbw, zbx, zby, zbz, zca, zcb, zcc, zcd, zce, zcf, zcg, zch, zci, zcj, zck, zcl, zcm, zcn, zco, zcp, zcq, zcr, zcs, zct, zcu, zcv, zcw, zcx, zcy, zcz, zda, zdb, zdc, zdd, zde, zdf, zdg, zdh, zdi, zdj, boxA, newA, zdk, zdl, zdm, zdn, zdo, zdp, zdq, zdr, zds, zdt, zdu, zdv, zdw, fillA, putL, setsE, zdx, zdy, zdz, zea, zeb, zec, zed, zee, zef, zeg, zeh, zei, zej, Nat.reduceBEq, Nat.reduceBNe, zek, zel, zem, zen, Nat.reduceMul, zeo, zep, zeq, zer, zes, zet, zeu, zev, zew, zex, zey, zez, zfa, zfb, zfc, zfd, zfe, zff, zfg, zfh, zfi, zfj, zfk, zfl, zfm, zfn, zfo, zfp, zfq, zfr, zfs, zft, zfu, zfv, zfw, zfx, zfy, zfz, zga, zgb, zgc, zgd, zge, zgf, zgg, zgh, zgi, zgj, ne_eq, zgk, zgl, zgm, zgn, zgo, gt_iff_lt, ge_iff_le, zgp, zgq, zgr, zgs, zgt, zgu, zgv, zgw, zgx, zgy, zgz, zha, zhb, zhc, zhd, zhe, zhf, zhg, zhh, zhi, zhj, zhk, zhl, zhm, zhn, zho, zhp, zhq, gp_opg, zhr, zhs, zht, zhu, zhv, zhw, zhx, zhy, stillD, Int.reduceToNat, zhz, zia, t0,t1,t2,hA,hB,nx_n,nx_r])
  have l1 := fun st => light_rw (x := x) hx st
  have l2 := fun st => light_rw (x := y) hy st
  unfold Sml.cs at l1 l2
  refine SQ.seq (x := N4_6) (y := N4_9) (SQ.of_wp (fid := 4) hprim hm (w_ok _ _ _ _ ?_))
  show Gc E 4 N4_6 [] _ (Sl 67 _) _
  cases lx : lightB x.threads with
  | false =>
    rw [lx] at l1
    repeat' (first | (first | apply ifk_og | apply ifk_gg | apply ifk_go | apply ifk_ss) <;> intro hc | simp (maxSteps := 5000000) (disch := first | assumption | omega | (simp only [ASt.set_ctr, ASt.new_ctr] <;> omega)) only [r4_0.down, r4_1.down, r4_2.down, n4_4, n4_3, n4_2, r4_3.down, r4_4.down, n4_8, n4_7, n4_6, r4_6.down, r4_7.down, r4_8.down, r4_9.down, r4_10.down, r4_11.down, n4_19, n4_18, r4_12.down, n4_20, n4_17, n4_16, l4_0, n4_15, n4_14, n4_13, n4_12, n4_11, r4_13.down, n4_21, n4_10, n4_9, n4_5, n4_1, n4_0, rq_4, cf_6, o_ldp_33, o_ldi_33, cf_13, cf_14, o_al_36, o_st_36, o_fap_36_0, o_fai_36_0, o_ldp_34, o_ldi_34, o_leni_34, o_lens_34, o_lenn_34, o_ixi_34, o_ixs_34, o_fap_41_4, o_fai_41_4, o_ldp_3, o_ldi_3, o_cv_5_3, o_st_3, o_ldp_36, o_ldi_36, cf_15, cf_16, eq_str, o_eqb_4_eql, AVal.undef, zaa, zab, aeval, aput, ahint, absOf, flat, nilCheckA, ANext.ofP, evals, evalPs, evalO, zac, zad, zae, zaf, ↓reduceIte, Nat.reduceLT, Nat.reduceEqDiff, reduceCtorEq, zag, zah, zai, zaj, zak, Nat.reduceAdd, Nat.reduceLeDiff, callA, zal, zam, zan, zao, zap, zaq, zar, zas, zat, zau, evalV, yieldB, zav, zaw, zax, zay, zaz, zba, zbb, zbc, zbd, zbe, zbf, zbg, zbh, zbi, zbj, zbk, zbl, zbm, zbn, zbo, zbp, zbq, zbr, extractA, zbs, zbt, zbu, zbv, zbw, zbx, zby, zbz, zca, zcb, zcc, zcd, zce, zcf, zcg, zch, zci, zcj, zck, zcl, zcm, zcn, zco, zcp, zcq, zcr, zcs, zct, zcu, zcv, zcw, zcx, zcy, zcz, zda, zdb, zdc, zdd, zde, zdf, zdg, zdh, zdi, zdj, boxA, newA, zdk, zdl, zdm, zdn, zdo, zdp, zdq, zdr, zds, zdt, zdu, zdv, zdw, fillA, putL, setsE, zdx, zdy, zdz, zea, zeb, zec, zed, zee, zef, zeg, zeh, zei, zej, Nat.reduceBEq, Nat.reduceBNe, zek, zel, zem, zen, Nat.reduceMul, zeo, zep, zeq, zer, zes, zet, zeu, zev, zew, zex, zey, zez, zfa, zfb, zfc, zfd, zfe, zff, zfg, zfh, zfi, zfj, zfk, zfl, zfm, zfn, zfo, zfp, zfq, zfr, zfs, zft, zfu, zfv, zfw, zfx, zfy, zfz, zga, zgb, zgc, zgd, zge, zgf, zgg, zgh, zgi, zgj, ne_eq, zgk, zgl, zgm, zgn, zgo, gt_iff_lt, ge_iff_le, zgp, zgq, zgr, zgs, zgt, zgu, zgv, zgw, zgx, zgy, zgz, zha, zhb, zhc, zhd, zhe, zhf, zhg, zhh, zhi, zhj, zhk, zhl, zhm, zhn, zho, zhp, zhq, gp_opg, zhr, zhs, zht, zhu, zhv, zhw, zhx, zhy, stillD, Int.reduceToNat, zhz, zia, t0,t1,t2,hA,hB,nx_n,nx_r])
    refine sc_ex (l1 _) fun r s2 h => ?_
    obtain ⟨rfl, g2⟩ := h
    repeat' (first | (first | apply ifk_og | apply ifk_gg | apply ifk_go | apply ifk_ss) <;> intro hc | simp (maxSteps := 5000000) (disch := first | assumption | omega | (simp only [ASt.set_ctr, ASt.new_ctr] <;> omega)) only [r4_0.down, r4_1.down, r4_2.down, n4_4, n4_3, n4_2, r4_3.down, r4_4.down, n4_8, n4_7, n4_6, r4_6.down, r4_7.down, r4_8.down, r4_9.down, r4_10.down, r4_11.down, n4_19, n4_18, r4_12.down, n4_20, n4_17, n4_16, l4_0, n4_15, n4_14, n4_13, n4_12, n4_11, r4_13.down, n4_21, n4_10, n4_9, n4_5, n4_1, n4_0, rq_4, cf_6, o_ldp_33, o_ldi_33, cf_13, cf_14, o_al_36, o_st_36, o_fap_36_0, o_fai_36_0, o_ldp_34, o_ldi_34, o_leni_34, o_lens_34, o_lenn_34, o_ixi_34, o_ixs_34, o_fap_41_4, o_fai_41_4, o_ldp_3, o_ldi_3, o_cv_5_3, o_st_3, o_ldp_36, o_ldi_36, cf_15, cf_16, eq_str, o_eqb_4_eql, AVal.undef, zaa, zab, aeval, aput, ahint, absOf, flat, nilCheckA, ANext.ofP, evals, evalPs, evalO, zac, zad, zae, zaf, ↓reduceIte, Nat.reduceLT, Nat.reduceEqDiff, reduceCtorEq, zag, zah, zai, zaj, zak, Nat.reduceAdd, Nat.reduceLeDiff, callA, zal, zam, zan, zao, zap, zaq, zar, zas, zat, zau, evalV, yieldB, zav, zaw, zax, zay, zaz, zba, zbb, zbc, zbd, zbe, zbf, zbg, zbh, zbi, zbj, zbk, zbl, zbm, zbn, zbo, zbp, zbq, zbr, extractA, zbs, zbt, zbu, zbv, zbw, zbx, zby, zbz, zca, zcb, zcc, zcd, zce, zcf, zcg, zch, zci, zcj, zck, zcl, zcm, zcn, zco, zcp, zcq, zcr, zcs, zct, zcu, zcv, zcw, zcx, zcy, zcz, zda, zdb, zdc, zdd, zde, zdf, zdg, zdh, zdi, zdj, boxA, newA, zdk, zdl, zdm, zdn, zdo, zdp, zdq, zdr, zds, zdt, zdu, zdv, zdw, fillA, putL, setsE, zdx, zdy, zdz, zea, zeb, zec, zed, zee, zef, zeg, zeh, zei, zej, Nat.reduceBEq, Nat.reduceBNe, zek, zel, zem, zen, Nat.reduceMul, zeo, zep, zeq, zer, zes, zet, zeu, zev, zew, zex, zey, zez, zfa, zfb, zfc, zfd, zfe, zff, zfg, zfh, zfi, zfj, zfk, zfl, zfm, zfn, zfo, zfp, zfq, zfr, zfs, zft, zfu, zfv, zfw, zfx, zfy, zfz, zga, zgb, zgc, zgd, zge, zgf, zgg, zgh, zgi, zgj, ne_eq, zgk, zgl, zgm, zgn, zgo, gt_iff_lt, ge_iff_le, zgp, zgq, zgr, zgs, zgt, zgu, zgv, zgw, zgx, zgy, zgz, zha, zhb, zhc, zhd, zhe, zhf, zhg, zhh, zhi, zhj, zhk, zhl, zhm, zhn, zho, zhp, zhq, gp_opg, zhr, zhs, zht, zhu, zhv, zhw, zhx, zhy, stillD, Int.reduceToNat, zhz, zia, t0,t1,t2,hA,hB,nx_n,nx_r])
    all_goals rfl
  | true =>
  rw [lx] at l1
  repeat' (first | (first | apply ifk_og | apply ifk_gg | apply ifk_go | apply ifk_ss) <;> intro hc | simp (maxSteps := 5000000) (disch := first | assumption | omega | (simp only [ASt.set_ctr, ASt.new_ctr] <;> omega)) only [r4_0.down, r4_1.down, r4_2.down, n4_4, n4_3, n4_2, r4_3.down, r4_4.down, n4_8, n4_7, n4_6, r4_6.down, r4_7.down, r4_8.down, r4_9.down, r4_10.down, r4_11.down, n4_19, n4_18, r4_12.down, n4_20, n4_17, n4_16, l4_0, n4_15, n4_14, n4_13, n4_12, n4_11, r4_13.down, n4_21, n4_10, n4_9, n4_5, n4_1, n4_0, rq_4, cf_6, o_ldp_33, o_ldi_33, cf_13, cf_14, o_al_36, o_st_36, o_fap_36_0, o_fai_36_0, o_ldp_34, o_ldi_34, o_leni_34, o_lens_34, o_lenn_34, o_ixi_34, o_ixs_34, o_fap_41_4, o_fai_41_4, o_ldp_3, o_ldi_3, o_cv_5_3, o_st_3, o_ldp_36, o_ldi_36, cf_15, cf_16, eq_str, o_eqb_4_eql, AVal.undef, zaa, zab, aeval, aput, ahint, absOf, flat, nilCheckA, ANext.ofP, evals, evalPs, evalO, zac, zad, zae, zaf, ↓reduceIte, Nat.reduceLT, Nat.reduceEqDiff, reduceCtorEq, zag, zah, zai, zaj, zak, Nat.reduceAdd, Nat.reduceLeDiff, callA, zal, zam, zan, zao, zap, zaq, zar, zas, zat, zau, evalV, yieldB, zav, zaw, zax, zay, zaz, zba, zbb, zbc, zbd, zbe, zbf, zbg, zbh, zbi, zbj, zbk, zbl, zbm, zbn, zbo, zbp, zbq, zbr, extractA, zbs, zbt, zbu, zbv, zbw, zbx, zby, zbz, zca, zcb, zcc, zcd, zce, zcf, zcg, zch, zci, zcj, zck, zcl, zcm, zcn, zco, zcp, zcq, zcr, zcs, zct, zcu, zcv, zcw, zcx, zcy, zcz, zda, zdb, zdc, zdd, zde, zdf, zdg, zdh, zdi, zdj, boxA, newA, zdk, zdl, zdm, zdn, zdo, zdp, zdq, zdr, zds, zdt, zdu, zdv, zdw, fillA, putL, setsE, zdx, zdy, zdz, zea, zeb, zec, zed, zee, zef, zeg, zeh, zei, zej, Nat.reduceBEq, Nat.reduceBNe, zek, zel, zem, zen, Nat.reduceMul, zeo, zep, zeq, zer, zes, zet, zeu, zev, zew, zex, zey, zez, zfa, zfb, zfc, zfd, zfe, zff, zfg, zfh, zfi, zfj, zfk, zfl, zfm, zfn, zfo, zfp, zfq, zfr, zfs, zft, zfu, zfv, zfw, zfx, zfy, zfz, zga, zgb, zgc, zgd, zge, zgf, zgg, zgh, zgi, zgj, ne_eq, zgk, zgl, zgm, zgn, zgo, gt_iff_lt, ge_iff_le, zgp, zgq, zgr, zgs, zgt, zgu, zgv, zgw, zgx, zgy, zgz, zha, zhb, zhc, zhd, zhe, zhf, zhg, zhh, zhi, zhj, zhk, zhl, zhm, zhn, zho, zhp, zhq, gp_opg, zhr, zhs, zht, zhu, zhv, zhw, zhx, zhy, stillD, Int.reduceToNat, zhz, zia, t0,t1,t2,hA,hB,nx_n,nx_r])
  refine sc_ex (l1 _) fun r s2 h => ?_
  obtain ⟨rfl, g2⟩ := h
  have hA := g2.at hA (by omega)
  have hB := g2.at hB (by omega)
  have hc3 : 2 ≤ s2.ctr := Nat.le_trans hc2 g2.1
  clear g2 hc2
  cases ly : lightB y.threads with
  | false =>
    rw [ly] at l2
    repeat' (first | (first | apply ifk_og | apply ifk_gg | apply ifk_go | apply ifk_ss) <;> intro hc | simp (maxSteps := 5000000) (disch := first | assumption | omega | (simp only [ASt.set_ctr, ASt.new_ctr] <;> omega)) only [r4_0.down, r4_1.down, r4_2.down, n4_4, n4_3, n4_2, r4_3.down, r4_4.down, n4_8, n4_7, n4_6, r4_6.down, r4_7.down, r4_8.down, r4_9.down, r4_10.down, r4_11.down, n4_19, n4_18, r4_12.down, n4_20, n4_17, n4_16, l4_0, n4_15, n4_14, n4_13, n4_12, n4_11, r4_13.down, n4_21, n4_10, n4_9, n4_5, n4_1, n4_0, rq_4, cf_6, o_ldp_33, o_ldi_33, cf_13, cf_14, o_al_36, o_st_36, o_fap_36_0, o_fai_36_0, o_ldp_34, o_ldi_34, o_leni_34, o_lens_34, o_lenn_34, o_ixi_34, o_ixs_34, o_fap_41_4, o_fai_41_4, o_ldp_3, o_ldi_3, o_cv_5_3, o_st_3, o_ldp_36, o_ldi_36, cf_15, cf_16, eq_str, o_eqb_4_eql, AVal.undef, zaa, zab, aeval, aput, ahint, absOf, flat, nilCheckA, ANext.ofP, evals, evalPs, evalO, zac, zad, zae, zaf, ↓reduceIte, Nat.reduceLT, Nat.reduceEqDiff, reduceCtorEq, zag, zah, zai, zaj, zak, Nat.reduceAdd, Nat.reduceLeDiff, callA, zal, zam, zan, zao, zap, zaq, zar, zas, zat, zau, evalV, yieldB, zav, zaw, zax, zay, zaz, zba, zbb, zbc, zbd, zbe, zbf, zbg, zbh, zbi, zbj, zbk, zbl, zbm, zbn, zbo, zbp, zbq, zbr, extractA, zbs, zbt, zbu, zbv, zbw, zbx, zby, zbz, zca, zcb, zcc, zcd, zce, zcf, zcg, zch, zci, zcj, zck, zcl, zcm, zcn, zco, zcp, zcq, zcr, zcs, zct, zcu, zcv, zcw, zcx, zcy, zcz, zda, zdb, zdc, zdd, zde, zdf, zdg, zdh, zdi, zdj, boxA, newA, zdk, zdl, zdm, zdn, zdo, zdp, zdq, zdr, zds, zdt, zdu, zdv, zdw, fillA, putL, setsE, zdx, zdy, zdz, zea, zeb, zec, zed, zee, zef, zeg, zeh, zei, zej, Nat.reduceBEq, Nat.reduceBNe, zek, zel, zem, zen, Nat.reduceMul, zeo, zep, zeq, zer, zes, zet, zeu, zev, zew, zex, zey, zez, zfa, zfb, zfc, zfd, zfe, zff, zfg, zfh, zfi, zfj, zfk, zfl, zfm, zfn, zfo, zfp, zfq, zfr, zfs, zft, zfu, zfv, zfw, zfx, zfy, zfz, zga, zgb, zgc, zgd, zge, zgf, zgg, zgh, zgi, zgj, ne_eq, zgk, zgl, zgm, zgn, zgo, gt_iff_lt, ge_iff_le, zgp, zgq, zgr, zgs, zgt, zgu, zgv, zgw, zgx, zgy, zgz, zha, zhb, zhc, zhd, zhe, zhf, zhg, zhh, zhi, zhj, zhk, zhl, zhm, zhn, zho, zhp, zhq, gp_opg, zhr, zhs, zht, zhu, zhv, zhw, zhx, zhy, stillD, Int.reduceToNat, zhz, zia, t0,t1,t2,hA,hB,nx_n,nx_r])
    refine sc_ex (l2 _) fun r s3 h => ?_
    obtain ⟨rfl, g3⟩ := h
    repeat' (first | (first | apply ifk_og | apply ifk_gg | apply ifk_go | apply ifk_ss) <;> intro hc | simp (maxSteps := 5000000) (disch := first | assumption | omega | (simp only [ASt.set_ctr, ASt.new_ctr] <;> omega)) only [r4_0.down, r4_1.down, r4_2.down, n4_4, n4_3, n4_2, r4_3.down, r4_4.down, n4_8, n4_7, n4_6, r4_6.down, r4_7.down, r4_8.down, r4_9.down, r4_10.down, r4_11.down, n4_19, n4_18, r4_12.down, n4_20, n4_17, n4_16, l4_0, n4_15, n4_14, n4_13, n4_12, n4_11, r4_13.down, n4_21, n4_10, n4_9, n4_5, n4_1, n4_0, rq_4, cf_6, o_ldp_33, o_ldi_33, cf_13, cf_14, o_al_36, o_st_36, o_fap_36_0, o_fai_36_0, o_ldp_34, o_ldi_34, o_leni_34, o_lens_34, o_lenn_34, o_ixi_34, o_ixs_34, o_fap_41_4, o_fai_41_4, o_ldp_3, o_ldi_3, o_cv_5_3, o_st_3, o_ldp_36, o_ldi_36, cf_15, cf_16, eq_str, o_eqb_4_eql, AVal.undef, zaa, zab, aeval, aput, ahint, absOf, flat, nilCheckA, ANext.ofP, evals, evalPs, evalO, zac, zad, zae, zaf, ↓reduceIte, Nat.reduceLT, Nat.reduceEqDiff, reduceCtorEq, zag, zah, zai, zaj, zak, Nat.reduceAdd, Nat.reduceLeDiff, callA, zal, zam, zan, zao, zap, zaq, zar, zas, zat, zau, evalV, yieldB, zav, zaw, zax, zay, zaz, zba, zbb, zbc, zbd, zbe, zbf, zbg, zbh, zbi, zbj, zbk, zbl, zbm, zbn, zbo, zbp, zbq, zbr, extractA, zbs, zbt, zbu, zbv, zbw, zbx, zby, zbz, zca, zcb, zcc, zcd, zce, zcf, zcg, zch, zci, zcj, zck, zcl, zcm, zcn, zco, zcp, zcq, zcr, zcs, zct, zcu, zcv, zcw, zcx, zcy, zcz, zda, zdb, zdc, zdd, zde, zdf, zdg, zdh, zdi, zdj, boxA, newA, zdk, zdl, zdm, zdn, zdo, zdp, zdq, zdr, zds, zdt, zdu, zdv, zdw, fillA, putL, setsE, zdx, zdy, zdz, zea, zeb, zec, zed, zee, zef, zeg, zeh, zei, zej, Nat.reduceBEq, Nat.reduceBNe, zek, zel, zem, zen, Nat.reduceMul, zeo, zep, zeq, zer, zes, zet, zeu, zev, zew, zex, zey, zez, zfa, zfb, zfc, zfd, zfe, zff, zfg, zfh, zfi, zfj, zfk, zfl, zfm, zfn, zfo, zfp, zfq, zfr, zfs, zft, zfu, zfv, zfw, zfx, zfy, zfz, zga, zgb, zgc, zgd, zge, zgf, zgg, zgh, zgi, zgj, ne_eq, zgk, zgl, zgm, zgn, zgo, gt_iff_lt, ge_iff_le, zgp, zgq, zgr, zgs, zgt, zgu, zgv, zgw, zgx, zgy, zgz, zha, zhb, zhc, zhd, zhe, zhf, zhg, zhh, zhi, zhj, zhk, zhl, zhm, zhn, zho, zhp, zhq, gp_opg, zhr, zhs, zht, zhu, zhv, zhw, zhx, zhy, stillD, Int.reduceToNat, zhz, zia, t0,t1,t2,hA,hB,nx_n,nx_r])
    all_goals rfl
  | true =>
  rw [ly] at l2
  repeat' (first | (first | apply ifk_og | apply ifk_gg | apply ifk_go | apply ifk_ss) <;> intro hc | simp (maxSteps := 5000000) (disch := first | assumption | omega | (simp only [ASt.set_ctr, ASt.new_ctr] <;> omega)) only [r4_0.down, r4_1.down, r4_2.down, n4_4, n4_3, n4_2, r4_3.down, r4_4.down, n4_8, n4_7, n4_6, r4_6.down, r4_7.down, r4_8.down, r4_9.down, r4_10.down, r4_11.down, n4_19, n4_18, r4_12.down, n4_20, n4_17, n4_16, l4_0, n4_15, n4_14, n4_13, n4_12, n4_11, r4_13.down, n4_21, n4_10, n4_9, n4_5, n4_1, n4_0, rq_4, cf_6, o_ldp_33, o_ldi_33, cf_13, cf_14, o_al_36, o_st_36, o_fap_36_0, o_fai_36_0, o_ldp_34, o_ldi_34, o_leni_34, o_lens_34, o_lenn_34, o_ixi_34, o_ixs_34, o_fap_41_4, o_fai_41_4, o_ldp_3, o_ldi_3, o_cv_5_3, o_st_3, o_ldp_36, o_ldi_36, cf_15, cf_16, eq_str, o_eqb_4_eql, AVal.undef, zaa, zab, aeval, aput, ahint, absOf, flat, nilCheckA, ANext.ofP, evals, evalPs, evalO, zac, zad, zae, zaf, ↓reduceIte, Nat.reduceLT, Nat.reduceEqDiff, reduceCtorEq, zag, zah, zai, zaj, zak, Nat.reduceAdd, Nat.reduceLeDiff, callA, zal, zam, zan, zao, zap, zaq, zar, zas, zat, zau, evalV, yieldB, zav, zaw, zax, zay, zaz, zba, zbb, zbc, zbd, zbe, zbf, zbg, zbh, zbi, zbj, zbk, zbl, zbm, zbn, zbo, zbp, zbq, zbr, extractA, zbs, zbt, zbu, zbv, zbw, zbx, zby, zbz, zca, zcb, zcc, zcd, zce, zcf, zcg, zch, zci, zcj, zck, zcl, zcm, zcn, zco, zcp, zcq, zcr, zcs, zct, zcu, zcv, zcw, zcx, zcy, zcz, zda, zdb, zdc, zdd, zde, zdf, zdg, zdh, zdi, zdj, boxA, newA, zdk, zdl, zdm, zdn, zdo, zdp, zdq, zdr, zds, zdt, zdu, zdv, zdw, fillA, putL, setsE, zdx, zdy, zdz, zea, zeb, zec, zed, zee, zef, zeg, zeh, zei, zej, Nat.reduceBEq, Nat.reduceBNe, zek, zel, zem, zen, Nat.reduceMul, zeo, zep, zeq, zer, zes, zet, zeu, zev, zew, zex, zey, zez, zfa, zfb, zfc, zfd, zfe, zff, zfg, zfh, zfi, zfj, zfk, zfl, zfm, zfn, zfo, zfp, zfq, zfr, zfs, zft, zfu, zfv, zfw, zfx, zfy, zfz, zga, zgb, zgc, zgd, zge, zgf, zgg, zgh, zgi, zgj, ne_eq, zgk, zgl, zgm, zgn, zgo, gt_iff_lt, ge_iff_le, zgp, zgq, zgr, zgs, zgt, zgu, zgv, zgw, zgx, zgy, zgz, zha, zhb, zhc, zhd, zhe, zhf, zhg, zhh, zhi, zhj, zhk, zhl, zhm, zhn, zho, zhp, zhq, gp_opg, zhr, zhs, zht, zhu, zhv, zhw, zhx, zhy, stillD, Int.reduceToNat, zhz, zia, t0,t1,t2,hA,hB,nx_n,nx_r])
  refine sc_ex (l2 _) fun r s3 h => ?_
  obtain ⟨rfl, g3⟩ := h
  have hA' := g3.at hA (by omega)
  have hB' := g3.at hB (by omega)
  have hc4 : 2 ≤ s3.ctr := Nat.le_trans hc3 g3.1
  clear g3 hc3 l1 l2
  have okx : x.ok := by
    unfold lightB at lx
    rw [Bool.and_eq_true, decide_eq_true_eq, List.all_eq_true] at lx
    exact ⟨ax.cells, ax.array, ax.mutexes, ax.sems, ax.budget, ax.n, lx.1, fun l hl => of_decide_eq_true (lx.2 l hl), ax.s⟩
  have oky : y.ok := by
    unfold lightB at ly
    rw [Bool.and_eq_true, decide_eq_true_eq, List.all_eq_true] at ly
    exact ⟨ay.cells, ay.array, ay.mutexes, ay.sems, ay.budget, ay.n, ly.1, fun l hl => of_decide_eq_true (ly.2 l hl), ay.s⟩
  repeat' (first | (first | apply ifk_og | apply ifk_gg | apply ifk_go | apply ifk_ss) <;> intro hc | simp (maxSteps := 5000000) (disch := first | assumption | omega | (simp only [ASt.set_ctr, ASt.new_ctr] <;> omega)) only [r4_0.down, r4_1.down, r4_2.down, n4_4, n4_3, n4_2, r4_3.down, r4_4.down, n4_8, n4_7, n4_6, r4_6.down, r4_7.down, r4_8.down, r4_9.down, r4_10.down, r4_11.down, n4_19, n4_18, r4_12.down, n4_20, n4_17, n4_16, l4_0, n4_15, n4_14, n4_13, n4_12, n4_11, r4_13.down, n4_21, n4_10, n4_9, n4_5, n4_1, n4_0, rq_4, cf_6, o_ldp_33, o_ldi_33, cf_13, cf_14, o_al_36, o_st_36, o_fap_36_0, o_fai_36_0, o_ldp_34, o_ldi_34, o_leni_34, o_lens_34, o_lenn_34, o_ixi_34, o_ixs_34, o_fap_41_4, o_fai_41_4, o_ldp_3, o_ldi_3, o_cv_5_3, o_st_3, o_ldp_36, o_ldi_36, cf_15, cf_16, eq_str, o_eqb_4_eql, AVal.undef, zaa, zab, aeval, aput, ahint, absOf, flat, nilCheckA, ANext.ofP, evals, evalPs, evalO, zac, zad, zae, zaf, ↓reduceIte, Nat.reduceLT, Nat.reduceEqDiff, reduceCtorEq, zag, zah, zai, zaj, zak, Nat.reduceAdd, Nat.reduceLeDiff, callA, zal, zam, zan, zao, zap, zaq, zar, zas, zat, zau, evalV, yieldB, zav, zaw, zax, zay, zaz, zba, zbb, zbc, zbd, zbe, zbf, zbg, zbh, zbi, zbj, zbk, zbl, zbm, zbn, zbo, zbp, zbq, zbr, extractA, zbs, zbt, zbu, zbv, zbw, zbx, zby, zbz, zca, zcb, zcc, zcd, zce, zcf, zcg, zch, zci, zcj, zck, zcl, zcm, zcn, zco, zcp, zcq, zcr, zcs, zct, zcu, zcv, zcw, zcx, zcy, zcz, zda, zdb, zdc, zdd, zde, zdf, zdg, zdh, zdi, zdj, boxA, newA, zdk, zdl, zdm, zdn, zdo, zdp, zdq, zdr, zds, zdt, zdu, zdv, zdw, fillA, putL, setsE, zdx, zdy, zdz, zea, zeb, zec, zed, zee, zef, zeg, zeh, zei, zej, Nat.reduceBEq, Nat.reduceBNe, zek, zel, zem, zen, Nat.reduceMul, zeo, zep, zeq, zer, zes, zet, zeu, zev, zew, zex, zey, zez, zfa, zfb, zfc, zfd, zfe, zff, zfg, zfh, zfi, zfj, zfk, zfl, zfm, zfn, zfo, zfp, zfq, zfr, zfs, zft, zfu, zfv, zfw, zfx, zfy, zfz, zga, zgb, zgc, zgd, zge, zgf, zgg, zgh, zgi, zgj, ne_eq, zgk, zgl, zgm, zgn, zgo, gt_iff_lt, ge_iff_le, zgp, zgq, zgr, zgs, zgt, zgu, zgv, zgw, zgx, zgy, zgz, zha, zhb, zhc, zhd, zhe, zhf, zhg, zhh, zhi, zhj, zhk, zhl, zhm, zhn, zho, zhp, zhq, gp_opg, zhr, zhs, zht, zhu, zhv, zhw, zhx, zhy, stillD, Int.reduceToNat, zhz, zia, t0,t1,t2,hA,hB,nx_n,nx_r])
  refine SQ.seq (x := R5) (y := N4_10) (r5_sq hprim hm okx oky hx hy _ _ (tn := .lit (.int .u8 (turn : Int))) ⟨hc4, t2, rfl, rfl, hA', hB', fun h => (by cases h), fun h => (by cases h), fun h => (by cases h), fun h => (by cases h), fun h => (by cases h), fun h => (by cases h), fun h => (by cases h), fun h => (by cases h), fun h => (by cases h), fun h => (by cases h)⟩ fun f st h => ?_)
  exact SQ.of_wp (fid := 4) hprim hm (w_ok _ _ _ _ (ts_tail okx oky hx turn ht f st h))
/-- of a law's arguments -/
theorem ts_runs (hprim : PrimOK E base w0) (hm : E.P.follows .mixedOrders = true) (b0 b1 b2 : AVal) (d0 : DatV E.P 6 33 b0) (d1 : DatV E.P 6 33 b1) (d2 : DatV E.P 6 5 b2) :
    SQ E base w0 N4_0 ([b0, b1, b2] ++ List.replicate (Tryd.f4.ntmps - [b0, b1, b2].length) .undef) st0 (RQ E Tryd.f4 fun r _ => r = .returned (.lit (.bool true))) := by
  obtain ⟨x, vx, rfl, hx, ax⟩ := small_of d0
  obtain ⟨y, vy, rfl, hy, ay⟩ := small_of d1
  obtain ⟨t, rfl, ht⟩ := dv_nat (k := .u8) rfl rfl d2
  have to := tsOf (args := [.agg (x.cs vx), .agg (y.cs vy), .lit (.int .u8 (t : Int))]) (n := Tryd.f4.ntmps) (Nat.le_of_ble_eq_true rfl)
  obtain ⟨g, e, hg⟩ := sl_ex to.len
  rw [e]
  exact ts_sq hprim hm hx hy ax ay t ht g (hg 0 _ (to.at' 0 _ rfl)) (hg 1 _ (to.at' 1 _ rfl)) (hg 2 _ (to.at' 2 _ rfl))
end
end Go.Proofs.YtpgcbmmifmnfpaaDoorV
