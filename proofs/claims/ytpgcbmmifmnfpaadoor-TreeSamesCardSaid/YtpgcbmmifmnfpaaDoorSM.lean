/- Are two expressions the same? walked. No condition. -/
import Derived.Test.YtpgcbmmifmnfpaaDoorGS
import Derived.Test.YtpgcbmmifmnfpaaDoorM1
namespace Go.Proofs.YtpgcbmmifmnfpaaDoorV
open Go Go.RowKit Go.Proofs.YtpgcbmmifmnfpaaDoorA
set_option linter.unusedVariables false
set_option linter.unusedSimpArgs false
set_option maxRecDepth 100000

mutual
/-- are two expressions? -/
def Ex.eqb : Ex → Ex → Bool
  | .mk o r i n p, .mk o2 r2 i2 n2 p2 => decide (o = o2) && (decide (r = r2) && decide (i = i2)) && decide (n = n2) && Ex.eqbs p p2
def Ex.eqbs : List Ex → List Ex → Bool
  | [], [] => true
  | a :: l, b :: m => Ex.eqb a b && Ex.eqbs l m
  | _, _ => false
end
mutual
theorem Ex.eqb_iff : ∀ (a b : Ex), Ex.eqb a b = true ↔ a = b
  | .mk o r i n p, .mk o2 r2 i2 n2 p2 => by
    have ih := Ex.eqbs_iff p p2
    unfold Ex.eqb
    simp only [Bool.and_eq_true, decide_eq_true_eq, ih, Ex.mk.injEq]
    constructor
    · rintro ⟨⟨⟨h1, h2, h3⟩, h4⟩, h5⟩; exact ⟨h1, h2, h3, h4, h5⟩
    · rintro ⟨h1, h2, h3, h4, h5⟩; exact ⟨⟨⟨h1, h2, h3⟩, h4⟩, h5⟩
theorem Ex.eqbs_iff : ∀ (l m : List Ex), Ex.eqbs l m = true ↔ l = m
  | [], [] => by simp [Ex.eqbs]
  | [], _ :: _ => by simp [Ex.eqbs]
  | _ :: _, [] => by simp [Ex.eqbs]
  | a :: l, b :: m => by
    have h1 := Ex.eqb_iff a b
    have h2 := Ex.eqbs_iff l m
    unfold Ex.eqbs
    rw [Bool.and_eq_true, h1, h2, List.cons.injEq]
end
mutual
/-- small numbers, in it and in its parts -/
def Ex.sm : Ex → Prop
  | .mk _ re im _ ps => re.natAbs ≤ 1048576 ∧ im.natAbs ≤ 1048576 ∧ ps.length ≤ 100000 ∧ Ex.sms ps
def Ex.sms : List Ex → Prop
  | [] => True
  | p :: ps => p.sm ∧ Ex.sms ps
end
theorem Ex.sms_mem : ∀ {l : List Ex} {e : Ex}, Ex.sms l → e ∈ l → e.sm
  | [], _, _, h => by cases h
  | p :: ps, e, h, hm => by
    rcases List.mem_cons.1 hm with rfl | hm
    · exact h.1
    · exact Ex.sms_mem h.2 hm
theorem eqbs_drop : ∀ {l m : List Ex} {t : Nat} {a b : Ex}, l[t]? = some a → m[t]? = some b → Ex.eqbs (l.drop t) (m.drop t) = (Ex.eqb a b && Ex.eqbs (l.drop (t + 1)) (m.drop (t + 1)))
  | x :: l, y :: m, 0, a, b, h, h2 => by cases h; cases h2; rfl
  | x :: l, y :: m, t + 1, a, b, h, h2 => eqbs_drop (l := l) (m := m) (t := t) h h2
theorem eqbs_len : ∀ {l m : List Ex}, l.length ≠ m.length → Ex.eqbs l m = false
  | [], [], h => absurd rfl h
  | [], _ :: _, _ => rfl
  | _ :: _, [], _ => rfl
  | a :: l, b :: m, h => by
    have := eqbs_len (l := l) (m := m) (fun e => h (by simp [e]))
    unfold Ex.eqbs
    rw [this, Bool.and_false]
theorem ex_len {v : AVal} {l : List Ex} (h : RV 4 v (l.map Ex.a)) (mt : Bool) (ty : TypeId) (cs : Array Bool) (st : ASt) : builtinA E.P mt .len #[46] ty cs [v] st = some (.val (.lit (.int .i64 (l.length : Int))) st) := by
  rcases h with ⟨rfl, h⟩ | ⟨c, rfl⟩
  · obtain rfl : l = [] := List.map_eq_nil_iff.1 h
    exact o_lenn_46 _ _ _ _ _
  · rw [o_leni_46, List.length_map]
theorem ex_ix {v : AVal} {l : List Ex} (h : RV 4 v (l.map Ex.a)) {i : Nat} {e : Ex} (hi : l[i]? = some e) : indexA E.P 46 v (.lit (.int .i64 (i : Int))) = some (.iptr e.a) := by
  have hlt := (List.getElem?_eq_some_iff.1 hi).1
  rcases h with ⟨rfl, h⟩ | ⟨c, rfl⟩
  · obtain rfl : l = [] := List.map_eq_nil_iff.1 h
    cases hi
  · rw [o_ixi_46, if_pos ⟨by omega, by rw [List.length_map]; omega, rfl⟩, Int.toNat_natCast, List.getElem?_map, hi]
    rfl
theorem ex_agg (e : Ex) : ∃ a b c d, e.a = .agg [a, b, c, d] ∧ a.isCell = true ∧ b.isCell = true ∧ c.isCell = true ∧ d.isCell = true := by
  obtain ⟨op, re, im, nm, ps⟩ := e
  exact ⟨_, _, _, _, rfl, rfl, rfl, rfl, by cases ps <;> rfl⟩
theorem Ex.ps_rv (ps : List Ex) : RV 4 (Ex.ps ps) (ps.map Ex.a) := by
  have h : ∀ l : List Ex, Ex.as l = l.map Ex.a := by
    intro l
    induction l with
    | nil => rfl
    | cons p l ih => rw [List.map_cons, ← ih]; rfl
  cases ps with
  | nil => exact .inl ⟨rfl, rfl⟩
  | cons p l => exact .inr ⟨.exact, by rw [List.map_cons, ← h l]; rfl⟩
/-- what tells whether two expressions are the same -/
def SameE (a b : Ex) : Prop := ∀ st, ∃ r st', rw E 42 [a.a, b.a] st = some (r, st') ∧ (r = .returned (.lit (.bool (Ex.eqb a b))) ∧ Gr st st')
set_option maxHeartbeats 4000000 in
theorem eqf_e {l m : List Ex} {v w : AVal} (hv : RV 4 v (l.map Ex.a)) (hw : RV 4 w (m.map Ex.a)) (hs : ∀ a ∈ l, ∀ b ∈ m, SameE a b) (hm : m.length ≤ 100000) (st : ASt) :
    ∃ r st', rw E 41 [v, w, .lit (.func (.func 42) #[] #[])] st = some (r, st') ∧ (r = .returned (.lit (.bool (Ex.eqbs l m))) ∧ Gr st st') := by
  refine en_41 fun g t0 t1 t2 => ?_
  have L1 := ex_len hv
  have L2 := ex_len hw
  by_cases hn : l.length = m.length
  · have hni : (l.length : Int) = (m.length : Int) := by omega
    repeat' (first | (first | apply ifk_og | apply ifk_gg | apply ifk_go | apply ifk_ss) <;> intro hc | simp (maxSteps := 5000000) (disch := first | assumption | omega | (simp only [ASt.set_ctr, ASt.new_ctr] <;> omega)) only [r41_0.down, r41_1.down, r41_2.down, n41_4, n41_3, n41_2, r41_3.down, r41_4.down, r41_5.down, r41_6.down, r41_7.down, r41_8.down, n41_14, n41_13, n41_12, n41_11, n41_10, r41_9.down, n41_15, n41_9, n41_8, l41_0, n41_7, n41_6, r41_10.down, n41_16, n41_5, n41_1, n41_0, rq_41, o_leni_46, o_lens_46, o_lenn_46, o_ixi_46, o_ixs_46, o_ldp_48, o_ldi_48, o_al_48, o_st_48, AVal.undef, zaa, zab, aeval, aput, ahint, absOf, flat, nilCheckA, ANext.ofP, evals, evalPs, evalO, zac, zad, zae, zaf, ↓reduceIte, Nat.reduceLT, Nat.reduceEqDiff, reduceCtorEq, zag, zah, zai, zaj, zak, Nat.reduceAdd, Nat.reduceLeDiff, callA, zal, zam, zan, zao, zap, zaq, zar, zas, zat, zau, evalV, yieldB, zav, zaw, zax, zay, zaz, zba, zbb, zbc, zbd, zbe, zbf, zbg, zbh, zbi, zbj, zbk, zbl, zbm, zbn, zbo, zbp, zbq, zbr, extractA, zbs, zbt, zbu, zbv, zbw, zbx, zby, zbz, zca, zcb, zcc, zcd, zce, zcf, zcg, zch, zci, zcj, zck, zcl, zcm, zcn, zco, zcp, zcq, zcr, zcs, zct, zcu, zcv, zcw, zcx, zcy, zcz, zda, zdb, zdc, zdd, zde, zdf, zdg, zdh, zdi, zdj, boxA, newA, zdk, zdl, zdm, zdn, zdo, zdp, zdq, zdr, zds, zdt, zdu, zdv, zdw, fillA, putL, setsE, zdx, zdy, zdz, zea, zeb, zec, zed, zee, zef, zeg, zeh, zei, zej, Nat.reduceBEq, Nat.reduceBNe, zek, zel, zem, zen, Nat.reduceMul, zeo, zep, zeq, zer, zes, zet, zeu, zev, zew, zex, zey, zez, zfa, zfb, zfc, zfd, zfe, zff, zfg, zfh, zfi, zfj, zfk, zfl, zfm, zfn, zfo, zfp, zfq, zfr, zfs, zft, zfu, zfv, zfw, zfx, zfy, zfz, zga, zgb, zgc, zgd, zge, zgf, zgg, zgh, zgi, zgj, ne_eq, zgk, zgl, zgm, zgn, zgo, gt_iff_lt, ge_iff_le, zgp, zgq, zgr, zgs, zgt, zgu, zgv, zgw, zgx, zgy, zgz, zha, zhb, zhc, zhd, zhe, zhf, zhg, zhh, zhi, zhj, zhk, zhl, zhm, zhn, zho, zhp, zhq, gp_opg, zhr, zhs, zht, zhu, zhv, zhw, zhx, zhy, stillD, Int.reduceToNat, zhz, zia, t0,t1,t2,L1,L2,hni])
    refine g_loop (fun i f st' => ∃ t, i = m.length - t ∧ t ≤ m.length ∧ f 0 = v ∧ f 1 = w ∧ f 2 = .lit (.func (.func 42) #[] #[]) ∧ f 15 = v ∧ f 16 = .lit (.int .i64 (m.length : Int)) ∧ f 17 = .lit (.int .i64 (t : Int)) ∧ Gr st st' ∧ Ex.eqbs l m = Ex.eqbs (l.drop t) (m.drop t))
      (fun i f st' hI => ?_) m.length _ _ ⟨0, rfl, Nat.zero_le _, t0, t1, t2, rfl, rfl, rfl, Gr.refl st, rfl⟩
    clear t0 t1 t2 L1 L2 hni
    obtain ⟨t, rfl, ht, q0, q1, q2, q15, q16, q17, gr, heq⟩ := hI
    by_cases hlt : t < m.length
    · obtain ⟨a, ha⟩ : ∃ a, l[t]? = some a := ⟨_, List.getElem?_eq_getElem (by omega)⟩
      obtain ⟨b, hb⟩ : ∃ b, m[t]? = some b := ⟨_, List.getElem?_eq_getElem hlt⟩
      have hab := hs a (List.mem_of_getElem? ha) b (List.mem_of_getElem? hb)
      have x1 := ex_ix hv ha
      have x2 := ex_ix hw hb
      rw [eqbs_drop ha hb] at heq
      obtain ⟨a0, a1, a2, a3, ea, ca0, ca1, ca2, ca3⟩ := ex_agg a
      obtain ⟨b0, b1, b2, b3, eb, cb0, cb1, cb2, cb3⟩ := ex_agg b
      unfold SameE at hab
      rw [ea] at x1
      rw [eb] at x2
      rw [ea, eb] at hab
      have hadd : (t : Int) + 1 = ((t + 1 : Nat) : Int) := by omega
      clear hs hv hw ha hb ea eb
      repeat' (first | (first | apply ifk_og | apply ifk_gg | apply ifk_go | apply ifk_ss) <;> intro hc | simp (maxSteps := 5000000) (disch := first | assumption | omega | (simp only [ASt.set_ctr, ASt.new_ctr] <;> omega)) only [r41_0.down, r41_1.down, r41_2.down, n41_4, n41_3, n41_2, r41_3.down, r41_4.down, r41_5.down, r41_6.down, r41_7.down, r41_8.down, n41_14, n41_13, n41_12, n41_11, n41_10, r41_9.down, n41_15, n41_9, n41_8, l41_0, n41_7, n41_6, r41_10.down, n41_16, n41_5, n41_1, n41_0, rq_41, o_leni_46, o_lens_46, o_lenn_46, o_ixi_46, o_ixs_46, o_ldp_48, o_ldi_48, o_al_48, o_st_48, AVal.undef, zaa, zab, aeval, aput, ahint, absOf, flat, nilCheckA, ANext.ofP, evals, evalPs, evalO, zac, zad, zae, zaf, ↓reduceIte, Nat.reduceLT, Nat.reduceEqDiff, reduceCtorEq, zag, zah, zai, zaj, zak, Nat.reduceAdd, Nat.reduceLeDiff, callA, zal, zam, zan, zao, zap, zaq, zar, zas, zat, zau, evalV, yieldB, zav, zaw, zax, zay, zaz, zba, zbb, zbc, zbd, zbe, zbf, zbg, zbh, zbi, zbj, zbk, zbl, zbm, zbn, zbo, zbp, zbq, zbr, extractA, zbs, zbt, zbu, zbv, zbw, zbx, zby, zbz, zca, zcb, zcc, zcd, zce, zcf, zcg, zch, zci, zcj, zck, zcl, zcm, zcn, zco, zcp, zcq, zcr, zcs, zct, zcu, zcv, zcw, zcx, zcy, zcz, zda, zdb, zdc, zdd, zde, zdf, zdg, zdh, zdi, zdj, boxA, newA, zdk, zdl, zdm, zdn, zdo, zdp, zdq, zdr, zds, zdt, zdu, zdv, zdw, fillA, putL, setsE, zdx, zdy, zdz, zea, zeb, zec, zed, zee, zef, zeg, zeh, zei, zej, Nat.reduceBEq, Nat.reduceBNe, zek, zel, zem, zen, Nat.reduceMul, zeo, zep, zeq, zer, zes, zet, zeu, zev, zew, zex, zey, zez, zfa, zfb, zfc, zfd, zfe, zff, zfg, zfh, zfi, zfj, zfk, zfl, zfm, zfn, zfo, zfp, zfq, zfr, zfs, zft, zfu, zfv, zfw, zfx, zfy, zfz, zga, zgb, zgc, zgd, zge, zgf, zgg, zgh, zgi, zgj, ne_eq, zgk, zgl, zgm, zgn, zgo, gt_iff_lt, ge_iff_le, zgp, zgq, zgr, zgs, zgt, zgu, zgv, zgw, zgx, zgy, zgz, zha, zhb, zhc, zhd, zhe, zhf, zhg, zhh, zhi, zhj, zhk, zhl, zhm, zhn, zho, zhp, zhq, gp_opg, zhr, zhs, zht, zhu, zhv, zhw, zhx, zhy, stillD, Int.reduceToNat, zhz, zia, q0,q1,q2,q15,q16,q17,x1,x2,ca0,ca1,ca2,ca3,cb0,cb1,cb2,cb3])
      refine sc_ex (hab _) fun r s1 h2 => ?_
      obtain ⟨rfl, g2⟩ := h2
      have gg : Gr st s1 := ((((gr.new' _).set' gr.1).new' _).set' (by have := gr.1; simp; omega)).trans g2
      clear g2
      cases he : Ex.eqb a b with
      | false =>
        rw [he, Bool.false_and] at heq
        repeat' (first | (first | apply ifk_og | apply ifk_gg | apply ifk_go | apply ifk_ss) <;> intro hc | simp (maxSteps := 5000000) (disch := first | assumption | omega | (simp only [ASt.set_ctr, ASt.new_ctr] <;> omega)) only [r41_0.down, r41_1.down, r41_2.down, n41_4, n41_3, n41_2, r41_3.down, r41_4.down, r41_5.down, r41_6.down, r41_7.down, r41_8.down, n41_14, n41_13, n41_12, n41_11, n41_10, r41_9.down, n41_15, n41_9, n41_8, l41_0, n41_7, n41_6, r41_10.down, n41_16, n41_5, n41_1, n41_0, rq_41, o_leni_46, o_lens_46, o_lenn_46, o_ixi_46, o_ixs_46, o_ldp_48, o_ldi_48, o_al_48, o_st_48, AVal.undef, zaa, zab, aeval, aput, ahint, absOf, flat, nilCheckA, ANext.ofP, evals, evalPs, evalO, zac, zad, zae, zaf, ↓reduceIte, Nat.reduceLT, Nat.reduceEqDiff, reduceCtorEq, zag, zah, zai, zaj, zak, Nat.reduceAdd, Nat.reduceLeDiff, callA, zal, zam, zan, zao, zap, zaq, zar, zas, zat, zau, evalV, yieldB, zav, zaw, zax, zay, zaz, zba, zbb, zbc, zbd, zbe, zbf, zbg, zbh, zbi, zbj, zbk, zbl, zbm, zbn, zbo, zbp, zbq, zbr, extractA, zbs, zbt, zbu, zbv, zbw, zbx, zby, zbz, zca, zcb, zcc, zcd, zce, zcf, zcg, zch, zci, zcj, zck, zcl, zcm, zcn, zco, zcp, zcq, zcr, zcs, zct, zcu, zcv, zcw, zcx, zcy, zcz, zda, zdb, zdc, zdd, zde, zdf, zdg, zdh, zdi, zdj, boxA, newA, zdk, zdl, zdm, zdn, zdo, zdp, zdq, zdr, zds, zdt, zdu, zdv, zdw, fillA, putL, setsE, zdx, zdy, zdz, zea, zeb, zec, zed, zee, zef, zeg, zeh, zei, zej, Nat.reduceBEq, Nat.reduceBNe, zek, zel, zem, zen, Nat.reduceMul, zeo, zep, zeq, zer, zes, zet, zeu, zev, zew, zex, zey, zez, zfa, zfb, zfc, zfd, zfe, zff, zfg, zfh, zfi, zfj, zfk, zfl, zfm, zfn, zfo, zfp, zfq, zfr, zfs, zft, zfu, zfv, zfw, zfx, zfy, zfz, zga, zgb, zgc, zgd, zge, zgf, zgg, zgh, zgi, zgj, ne_eq, zgk, zgl, zgm, zgn, zgo, gt_iff_lt, ge_iff_le, zgp, zgq, zgr, zgs, zgt, zgu, zgv, zgw, zgx, zgy, zgz, zha, zhb, zhc, zhd, zhe, zhf, zhg, zhh, zhi, zhj, zhk, zhl, zhm, zhn, zho, zhp, zhq, gp_opg, zhr, zhs, zht, zhu, zhv, zhw, zhx, zhy, stillD, Int.reduceToNat, zhz, zia, q0,q1,q2,q15,q16,q17])
        exact ⟨by rw [heq], gg⟩
      | true =>
        rw [he, Bool.true_and] at heq
        repeat' (first | (first | apply ifk_og | apply ifk_gg | apply ifk_go | apply ifk_ss) <;> intro hc | simp (maxSteps := 5000000) (disch := first | assumption | omega | (simp only [ASt.set_ctr, ASt.new_ctr] <;> omega)) only [r41_0.down, r41_1.down, r41_2.down, n41_4, n41_3, n41_2, r41_3.down, r41_4.down, r41_5.down, r41_6.down, r41_7.down, r41_8.down, n41_14, n41_13, n41_12, n41_11, n41_10, r41_9.down, n41_15, n41_9, n41_8, l41_0, n41_7, n41_6, r41_10.down, n41_16, n41_5, n41_1, n41_0, rq_41, o_leni_46, o_lens_46, o_lenn_46, o_ixi_46, o_ixs_46, o_ldp_48, o_ldi_48, o_al_48, o_st_48, AVal.undef, zaa, zab, aeval, aput, ahint, absOf, flat, nilCheckA, ANext.ofP, evals, evalPs, evalO, zac, zad, zae, zaf, ↓reduceIte, Nat.reduceLT, Nat.reduceEqDiff, reduceCtorEq, zag, zah, zai, zaj, zak, Nat.reduceAdd, Nat.reduceLeDiff, callA, zal, zam, zan, zao, zap, zaq, zar, zas, zat, zau, evalV, yieldB, zav, zaw, zax, zay, zaz, zba, zbb, zbc, zbd, zbe, zbf, zbg, zbh, zbi, zbj, zbk, zbl, zbm, zbn, zbo, zbp, zbq, zbr, extractA, zbs, zbt, zbu, zbv, zbw, zbx, zby, zbz, zca, zcb, zcc, zcd, zce, zcf, zcg, zch, zci, zcj, zck, zcl, zcm, zcn, zco, zcp, zcq, zcr, zcs, zct, zcu, zcv, zcw, zcx, zcy, zcz, zda, zdb, zdc, zdd, zde, zdf, zdg, zdh, zdi, zdj, boxA, newA, zdk, zdl, zdm, zdn, zdo, zdp, zdq, zdr, zds, zdt, zdu, zdv, zdw, fillA, putL, setsE, zdx, zdy, zdz, zea, zeb, zec, zed, zee, zef, zeg, zeh, zei, zej, Nat.reduceBEq, Nat.reduceBNe, zek, zel, zem, zen, Nat.reduceMul, zeo, zep, zeq, zer, zes, zet, zeu, zev, zew, zex, zey, zez, zfa, zfb, zfc, zfd, zfe, zff, zfg, zfh, zfi, zfj, zfk, zfl, zfm, zfn, zfo, zfp, zfq, zfr, zfs, zft, zfu, zfv, zfw, zfx, zfy, zfz, zga, zgb, zgc, zgd, zge, zgf, zgg, zgh, zgi, zgj, ne_eq, zgk, zgl, zgm, zgn, zgo, gt_iff_lt, ge_iff_le, zgp, zgq, zgr, zgs, zgt, zgu, zgv, zgw, zgx, zgy, zgz, zha, zhb, zhc, zhd, zhe, zhf, zhg, zhh, zhi, zhj, zhk, zhl, zhm, zhn, zho, zhp, zhq, gp_opg, zhr, zhs, zht, zhu, zhv, zhw, zhx, zhy, stillD, Int.reduceToNat, zhz, zia, q0,q1,q2,q15,q16,q17,hadd])
        refine lq_n (j := m.length - (t + 1)) (by omega) ?_
        exact ⟨t + 1, rfl, by omega, q0, q1, q2, q15, q16, rfl, gg, heq⟩
    · obtain rfl : t = m.length := by omega
      rw [List.drop_length, List.drop_of_length_le (by omega)] at heq
      repeat' (first | (first | apply ifk_og | apply ifk_gg | apply ifk_go | apply ifk_ss) <;> intro hc | simp (maxSteps := 5000000) (disch := first | assumption | omega | (simp only [ASt.set_ctr, ASt.new_ctr] <;> omega)) only [r41_0.down, r41_1.down, r41_2.down, n41_4, n41_3, n41_2, r41_3.down, r41_4.down, r41_5.down, r41_6.down, r41_7.down, r41_8.down, n41_14, n41_13, n41_12, n41_11, n41_10, r41_9.down, n41_15, n41_9, n41_8, l41_0, n41_7, n41_6, r41_10.down, n41_16, n41_5, n41_1, n41_0, rq_41, o_leni_46, o_lens_46, o_lenn_46, o_ixi_46, o_ixs_46, o_ldp_48, o_ldi_48, o_al_48, o_st_48, AVal.undef, zaa, zab, aeval, aput, ahint, absOf, flat, nilCheckA, ANext.ofP, evals, evalPs, evalO, zac, zad, zae, zaf, ↓reduceIte, Nat.reduceLT, Nat.reduceEqDiff, reduceCtorEq, zag, zah, zai, zaj, zak, Nat.reduceAdd, Nat.reduceLeDiff, callA, zal, zam, zan, zao, zap, zaq, zar, zas, zat, zau, evalV, yieldB, zav, zaw, zax, zay, zaz, zba, zbb, zbc, zbd, zbe, zbf, zbg, zbh, zbi, zbj, zbk, zbl, zbm, zbn, zbo, zbp, zbq, zbr, extractA, zbs, zbt, zbu, zbv, zbw, zbx, zby, zbz, zca, zcb, zcc, zcd, zce, zcf, zcg, zch, zci, zcj, zck, zcl, zcm, zcn, zco, zcp, zcq, zcr, zcs, zct, zcu, zcv, zcw, zcx, zcy, zcz, zda, zdb, zdc, zdd, zde, zdf, zdg, zdh, zdi, zdj, boxA, newA, zdk, zdl, zdm, zdn, zdo, zdp, zdq, zdr, zds, zdt, zdu, zdv, zdw, fillA, putL, setsE, zdx, zdy, zdz, zea, zeb, zec, zed, zee, zef, zeg, zeh, zei, zej, Nat.reduceBEq, Nat.reduceBNe, zek, zel, zem, zen, Nat.reduceMul, zeo, zep, zeq, zer, zes, zet, zeu, zev, zew, zex, zey, zez, zfa, zfb, zfc, zfd, zfe, zff, zfg, zfh, zfi, zfj, zfk, zfl, zfm, zfn, zfo, zfp, zfq, zfr, zfs, zft, zfu, zfv, zfw, zfx, zfy, zfz, zga, zgb, zgc, zgd, zge, zgf, zgg, zgh, zgi, zgj, ne_eq, zgk, zgl, zgm, zgn, zgo, gt_iff_lt, ge_iff_le, zgp, zgq, zgr, zgs, zgt, zgu, zgv, zgw, zgx, zgy, zgz, zha, zhb, zhc, zhd, zhe, zhf, zhg, zhh, zhi, zhj, zhk, zhl, zhm, zhn, zho, zhp, zhq, gp_opg, zhr, zhs, zht, zhu, zhv, zhw, zhx, zhy, stillD, Int.reduceToNat, zhz, zia, q0,q1,q2,q15,q16,q17])
      exact ⟨by rw [heq]; rfl, gr⟩
  · have hni : (l.length : Int) ≠ (m.length : Int) := by omega
    rw [eqbs_len hn]
    repeat' (first | (first | apply ifk_og | apply ifk_gg | apply ifk_go | apply ifk_ss) <;> intro hc | simp (maxSteps := 5000000) (disch := first | assumption | omega | (simp only [ASt.set_ctr, ASt.new_ctr] <;> omega)) only [r41_0.down, r41_1.down, r41_2.down, n41_4, n41_3, n41_2, r41_3.down, r41_4.down, r41_5.down, r41_6.down, r41_7.down, r41_8.down, n41_14, n41_13, n41_12, n41_11, n41_10, r41_9.down, n41_15, n41_9, n41_8, l41_0, n41_7, n41_6, r41_10.down, n41_16, n41_5, n41_1, n41_0, rq_41, o_leni_46, o_lens_46, o_lenn_46, o_ixi_46, o_ixs_46, o_ldp_48, o_ldi_48, o_al_48, o_st_48, AVal.undef, zaa, zab, aeval, aput, ahint, absOf, flat, nilCheckA, ANext.ofP, evals, evalPs, evalO, zac, zad, zae, zaf, ↓reduceIte, Nat.reduceLT, Nat.reduceEqDiff, reduceCtorEq, zag, zah, zai, zaj, zak, Nat.reduceAdd, Nat.reduceLeDiff, callA, zal, zam, zan, zao, zap, zaq, zar, zas, zat, zau, evalV, yieldB, zav, zaw, zax, zay, zaz, zba, zbb, zbc, zbd, zbe, zbf, zbg, zbh, zbi, zbj, zbk, zbl, zbm, zbn, zbo, zbp, zbq, zbr, extractA, zbs, zbt, zbu, zbv, zbw, zbx, zby, zbz, zca, zcb, zcc, zcd, zce, zcf, zcg, zch, zci, zcj, zck, zcl, zcm, zcn, zco, zcp, zcq, zcr, zcs, zct, zcu, zcv, zcw, zcx, zcy, zcz, zda, zdb, zdc, zdd, zde, zdf, zdg, zdh, zdi, zdj, boxA, newA, zdk, zdl, zdm, zdn, zdo, zdp, zdq, zdr, zds, zdt, zdu, zdv, zdw, fillA, putL, setsE, zdx, zdy, zdz, zea, zeb, zec, zed, zee, zef, zeg, zeh, zei, zej, Nat.reduceBEq, Nat.reduceBNe, zek, zel, zem, zen, Nat.reduceMul, zeo, zep, zeq, zer, zes, zet, zeu, zev, zew, zex, zey, zez, zfa, zfb, zfc, zfd, zfe, zff, zfg, zfh, zfi, zfj, zfk, zfl, zfm, zfn, zfo, zfp, zfq, zfr, zfs, zft, zfu, zfv, zfw, zfx, zfy, zfz, zga, zgb, zgc, zgd, zge, zgf, zgg, zgh, zgi, zgj, ne_eq, zgk, zgl, zgm, zgn, zgo, gt_iff_lt, ge_iff_le, zgp, zgq, zgr, zgs, zgt, zgu, zgv, zgw, zgx, zgy, zgz, zha, zhb, zhc, zhd, zhe, zhf, zhg, zhh, zhi, zhj, zhk, zhl, zhm, zhn, zho, zhp, zhq, gp_opg, zhr, zhs, zht, zhu, zhv, zhw, zhx, zhy, stillD, Int.reduceToNat, zhz, zia, t0,t1,t2,L1,L2,hni])
    all_goals first | exact ⟨rfl, Gr.refl st⟩ | exact Gr.refl st
theorem same_rw : ∀ (a b : Ex), a.sm → b.sm → SameE a b
  | .mk o r i n p, .mk o2 r2 i2 n2 p2, ha, hb => by
    intro st
    refine en_42 fun g t0 t1 => ?_
    unfold Ex.sm at ha hb
    obtain ⟨h1, h2, hp, hps⟩ := ha
    obtain ⟨k1, k2, kp, kps⟩ := hb
    have ih : ∀ a ∈ p, ∀ b ∈ p2, SameE a b := fun a ha b hb => same_rw a b (Ex.sms_mem hps ha) (Ex.sms_mem kps hb)
    have ce := fun (t : TypeId) (xo yo : Operand) => ceq_cz (a := r) (b := i) (c := r2) (d := i2) (by omega) (by omega) t xo yo
    have hq := fun st => eqf_e (Ex.ps_rv p) (Ex.ps_rv p2) ih kp st
    unfold Ex.a cz str at t0 t1
    unfold cz at ce
    have c1 : (Ex.ps p).isCell = true := by cases p <;> rfl
    have c2 : (Ex.ps p2).isCell = true := by cases p2 <;> rfl
    unfold Ex.eqb
    clear ih hps kps
    repeat' (first | (first | apply ifk_og | apply ifk_gg | apply ifk_go | apply ifk_ss) <;> intro hc | simp (maxSteps := 5000000) (disch := first | assumption | omega | (simp only [ASt.set_ctr, ASt.new_ctr] <;> omega)) only [r42_0.down, r42_1.down, n42_1, n42_0, rq_42, o_fap_48_0, o_fai_48_0, o_ldp_9, o_ldi_9, eq_str, o_fap_48_1, o_fai_48_1, o_ldp_38, o_ldi_38, o_fap_48_2, o_fai_48_2, o_fap_48_3, o_fai_48_3, o_ldp_46, o_ldi_46, cf_41, AVal.undef, zaa, zab, aeval, aput, ahint, absOf, flat, nilCheckA, ANext.ofP, evals, evalPs, evalO, zac, zad, zae, zaf, ↓reduceIte, Nat.reduceLT, Nat.reduceEqDiff, reduceCtorEq, zag, zah, zai, zaj, zak, Nat.reduceAdd, Nat.reduceLeDiff, callA, zal, zam, zan, zao, zap, zaq, zar, zas, zat, zau, evalV, yieldB, zav, zaw, zax, zay, zaz, zba, zbb, zbc, zbd, zbe, zbf, zbg, zbh, zbi, zbj, zbk, zbl, zbm, zbn, zbo, zbp, zbq, zbr, extractA, zbs, zbt, zbu, zbv, zbw, zbx, zby, zbz, zca, zcb, zcc, zcd, zce, zcf, zcg, zch, zci, zcj, zck, zcl, zcm, zcn, zco, zcp, zcq, zcr, zcs, zct, zcu, zcv, zcw, zcx, zcy, zcz, zda, zdb, zdc, zdd, zde, zdf, zdg, zdh, zdi, zdj, boxA, newA, zdk, zdl, zdm, zdn, zdo, zdp, zdq, zdr, zds, zdt, zdu, zdv, zdw, fillA, putL, setsE, zdx, zdy, zdz, zea, zeb, zec, zed, zee, zef, zeg, zeh, zei, zej, Nat.reduceBEq, Nat.reduceBNe, zek, zel, zem, zen, Nat.reduceMul, zeo, zep, zeq, zer, zes, zet, zeu, zev, zew, zex, zey, zez, zfa, zfb, zfc, zfd, zfe, zff, zfg, zfh, zfi, zfj, zfk, zfl, zfm, zfn, zfo, zfp, zfq, zfr, zfs, zft, zfu, zfv, zfw, zfx, zfy, zfz, zga, zgb, zgc, zgd, zge, zgf, zgg, zgh, zgi, zgj, ne_eq, zgk, zgl, zgm, zgn, zgo, gt_iff_lt, ge_iff_le, zgp, zgq, zgr, zgs, zgt, zgu, zgv, zgw, zgx, zgy, zgz, zha, zhb, zhc, zhd, zhe, zhf, zhg, zhh, zhi, zhj, zhk, zhl, zhm, zhn, zho, zhp, zhq, gp_opg, zhr, zhs, zht, zhu, zhv, zhw, zhx, zhy, stillD, Int.reduceToNat, zhz, zia, t0,t1,ce,c1,c2])
    all_goals first | exact ⟨by simp [*], ((Gr.refl st).new' _).new' _⟩ | skip
    refine sc_ex (hq _) fun r s1 h2 => ?_
    obtain ⟨rfl, g2⟩ := h2
    repeat' (first | (first | apply ifk_og | apply ifk_gg | apply ifk_go | apply ifk_ss) <;> intro hc | simp (maxSteps := 5000000) (disch := first | assumption | omega | (simp only [ASt.set_ctr, ASt.new_ctr] <;> omega)) only [r42_0.down, r42_1.down, n42_1, n42_0, rq_42, o_fap_48_0, o_fai_48_0, o_ldp_9, o_ldi_9, eq_str, o_fap_48_1, o_fai_48_1, o_ldp_38, o_ldi_38, o_fap_48_2, o_fai_48_2, o_fap_48_3, o_fai_48_3, o_ldp_46, o_ldi_46, cf_41, AVal.undef, zaa, zab, aeval, aput, ahint, absOf, flat, nilCheckA, ANext.ofP, evals, evalPs, evalO, zac, zad, zae, zaf, ↓reduceIte, Nat.reduceLT, Nat.reduceEqDiff, reduceCtorEq, zag, zah, zai, zaj, zak, Nat.reduceAdd, Nat.reduceLeDiff, callA, zal, zam, zan, zao, zap, zaq, zar, zas, zat, zau, evalV, yieldB, zav, zaw, zax, zay, zaz, zba, zbb, zbc, zbd, zbe, zbf, zbg, zbh, zbi, zbj, zbk, zbl, zbm, zbn, zbo, zbp, zbq, zbr, extractA, zbs, zbt, zbu, zbv, zbw, zbx, zby, zbz, zca, zcb, zcc, zcd, zce, zcf, zcg, zch, zci, zcj, zck, zcl, zcm, zcn, zco, zcp, zcq, zcr, zcs, zct, zcu, zcv, zcw, zcx, zcy, zcz, zda, zdb, zdc, zdd, zde, zdf, zdg, zdh, zdi, zdj, boxA, newA, zdk, zdl, zdm, zdn, zdo, zdp, zdq, zdr, zds, zdt, zdu, zdv, zdw, fillA, putL, setsE, zdx, zdy, zdz, zea, zeb, zec, zed, zee, zef, zeg, zeh, zei, zej, Nat.reduceBEq, Nat.reduceBNe, zek, zel, zem, zen, Nat.reduceMul, zeo, zep, zeq, zer, zes, zet, zeu, zev, zew, zex, zey, zez, zfa, zfb, zfc, zfd, zfe, zff, zfg, zfh, zfi, zfj, zfk, zfl, zfm, zfn, zfo, zfp, zfq, zfr, zfs, zft, zfu, zfv, zfw, zfx, zfy, zfz, zga, zgb, zgc, zgd, zge, zgf, zgg, zgh, zgi, zgj, ne_eq, zgk, zgl, zgm, zgn, zgo, gt_iff_lt, ge_iff_le, zgp, zgq, zgr, zgs, zgt, zgu, zgv, zgw, zgx, zgy, zgz, zha, zhb, zhc, zhd, zhe, zhf, zhg, zhh, zhi, zhj, zhk, zhl, zhm, zhn, zho, zhp, zhq, gp_opg, zhr, zhs, zht, zhu, zhv, zhw, zhx, zhy, stillD, Int.reduceToNat, zhz, zia, t0,t1,ce,c1,c2])
    exact (((Gr.refl st).new' _).new' _).trans g2
termination_by a => SizeOf.sizeOf a
decreasing_by
  have := List.sizeOf_lt_of_mem ha
  simp
  omega
end Go.Proofs.YtpgcbmmifmnfpaaDoorV
