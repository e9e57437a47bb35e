/- Are two statements the same? walked. No condition. -/
import Derived.Test.YtpgcbmmifmnfpaaDoorSM
import Derived.Test.YtpgcbmmifmnfpaaDoorPL
namespace Go.Proofs.YtpgcbmmifmnfpaaDoorV
open Go Go.RowKit Go.Proofs.YtpgcbmmifmnfpaaDoorA
set_option linter.unusedVariables false
set_option linter.unusedSimpArgs false
set_option maxRecDepth 100000

mutual
/-- are two statements, but for where they stand? -/
def St.eqb : St → St → Bool
  | .mk k r n i es b l _, .mk k2 r2 n2 i2 es2 b2 l2 _ => decide (k = k2) && decide (r = r2) && decide (n = n2) && (i == i2) && Ex.eqbs es es2 && Sts.eqb b b2 && Sts.eqb l l2
def Sts.eqb : List St → List St → Bool
  | [], [] => true
  | a :: l, b :: m => St.eqb a b && Sts.eqb l m
  | _, _ => false
end
theorem SOk.inv {k : Nat} {r n : List UInt8} {i : Bool} {es : List Ex} {b l : List St} {p : Nat} (h : SOk (.mk k r n i es b l p)) : p = 0 ∧ LOk b ∧ LOk l := by
  cases h <;> first | exact ⟨rfl, .nil, .nil⟩ | exact ⟨rfl, ‹_›, ‹_›⟩
theorem LOk.inv {s : St} {l : List St} (h : LOk (s :: l)) : SOk s ∧ LOk l := by cases h with | cons h ht => exact ⟨h, ht⟩
mutual
theorem St.eqb_iff : ∀ (a b : St), SOk a → SOk b → (St.eqb a b = true ↔ a = b)
  | .mk k r n i es b l p, .mk k2 r2 n2 i2 es2 b2 l2 p2, ha, hb => by
    obtain ⟨rfl, h1, h2⟩ := ha.inv
    obtain ⟨rfl, g1, g2⟩ := hb.inv
    have i1 := Sts.eqb_iff b b2 h1 g1
    have i2 := Sts.eqb_iff l l2 h2 g2
    have i3 := Ex.eqbs_iff es es2
    unfold St.eqb
    simp only [Bool.and_eq_true, decide_eq_true_eq, beq_iff_eq, i1, i2, i3, St.mk.injEq, and_true]
    constructor
    · rintro ⟨⟨⟨⟨⟨⟨h1, h2⟩, h3⟩, h4⟩, h5⟩, h6⟩, h7⟩; exact ⟨h1, h2, h3, h4, h5, h6, h7⟩
    · rintro ⟨h1, h2, h3, h4, h5, h6, h7⟩; exact ⟨⟨⟨⟨⟨⟨h1, h2⟩, h3⟩, h4⟩, h5⟩, h6⟩, h7⟩
theorem Sts.eqb_iff : ∀ (l m : List St), LOk l → LOk m → (Sts.eqb l m = true ↔ l = m)
  | [], [], _, _ => by simp [Sts.eqb]
  | [], _ :: _, _, _ => by simp [Sts.eqb]
  | _ :: _, [], _, _ => by simp [Sts.eqb]
  | a :: l, b :: m, hl, hm => by
    have h1 := St.eqb_iff a b hl.inv.1 hm.inv.1
    have h2 := Sts.eqb_iff l m hl.inv.2 hm.inv.2
    unfold Sts.eqb
    rw [Bool.and_eq_true, h1, h2, List.cons.injEq]
end
mutual
/-- small, all of it -/
def St.sm : St → Prop
  | .mk _ _ _ _ es b l _ => (∀ e ∈ es, e.sm) ∧ es.length ≤ 100000 ∧ b.length ≤ 100000 ∧ l.length ≤ 100000 ∧ Sts.sm b ∧ Sts.sm l
def Sts.sm : List St → Prop
  | [] => True
  | s :: l => s.sm ∧ Sts.sm l
end
theorem Sts.sm_mem : ∀ {l : List St} {s : St}, Sts.sm l → s ∈ l → s.sm
  | [], _, _, h => by cases h
  | p :: ps, e, h, hm => by
    rcases List.mem_cons.1 hm with rfl | hm
    · exact h.1
    · exact Sts.sm_mem h.2 hm
theorem leaf_sm {n : Nat} (h : leafOk n = true) : (leafE n).sm := by
  have : n < 37 := by unfold leafOk at h; simp at h; omega
  unfold leafE
  split
  · unfold Ex.sm Ex.sms; exact ⟨by omega, by omega, by simp, trivial⟩
  · split
    · unfold Ex.sm Ex.sms; exact ⟨by omega, by omega, by simp, trivial⟩
    · unfold Ex.sm Ex.sms; exact ⟨by omega, by omega, by simp, trivial⟩
theorem e_sm {e : Ex} (h : EOk e) : e.sm := by
  induction h with
  | leaf n h => exact leaf_sm h
  | un op h hp ih => unfold Ex.sm Ex.sms; exact ⟨by omega, by omega, by simp, ih, trivial⟩
  | bin op h hp hq ih1 ih2 => unfold Ex.sm Ex.sms; exact ⟨by omega, by omega, by simp, ih1, ih2, trivial⟩
theorem NOk.es {nm : List UInt8} {b : Bool} {ix : List Ex} (h : NOk nm b ix) : ∀ e ∈ ix, EOk e := by
  cases h with
  | plain h => intro e he; cases he
  | ix h hi => intro e he; rw [List.mem_singleton.1 he]; exact hi
theorem SOk.es {k : Nat} {r n : List UInt8} {i : Bool} {es : List Ex} {b l : List St} {p : Nat} (h : SOk (.mk k r n i es b l p)) : ∀ e ∈ es, EOk e := by
  have one : ∀ {d : Ex}, EOk d → ∀ e ∈ [d], EOk e := fun h e he => by rw [List.mem_singleton.1 he]; exact h
  cases h with
  | set c hc he => exact one he
  | gv k hk c hc hn => exact hn.es
  | up k hk c hc hn he => exact fun e h => (List.mem_append.1 h).elim (hn.es e) (one he e)
  | cas c hc hn he hd => exact fun e h => (List.mem_append.1 h).elim (hn.es e) (fun h => by
      simp only [List.mem_cons, List.not_mem_nil, or_false] at h
      rcases h with rfl | rfl
      · exact he
      · exact hd)
  | sto hn he => exact fun e h => (List.mem_append.1 h).elim (hn.es e) (one he e)
  | ass k hk he => exact one he
  | blk k hk he hb hl => exact one he
  | nam k hk nm hn => intro e he; cases he
mutual
theorem s_sm : ∀ (s : St), SOk s → s.good → s.sm
  | .mk k r n i es b l p, h, hg => by
    obtain ⟨_, h1, h2⟩ := h.inv
    unfold St.good at hg
    obtain ⟨_, ⟨g1, _⟩, _, ⟨g2, g3⟩, g4, g5⟩ := hg
    unfold St.sm
    exact ⟨fun e he => e_sm (h.es e he), by omega, g2, g3, l_sm b h1 g4, l_sm l h2 g5⟩
theorem l_sm : ∀ (l : List St), LOk l → Sts.good l → Sts.sm l
  | [], _, _ => trivial
  | s :: l, h, hg => ⟨s_sm s h.inv.1 hg.1, l_sm l h.inv.2 hg.2⟩
end
theorem seqb_drop : ∀ {l m : List St} {t : Nat} {a b : St}, l[t]? = some a → m[t]? = some b → Sts.eqb (l.drop t) (m.drop t) = (St.eqb a b && Sts.eqb (l.drop (t + 1)) (m.drop (t + 1)))
  | x :: l, y :: m, 0, a, b, h, h2 => by cases h; cases h2; rfl
  | x :: l, y :: m, t + 1, a, b, h, h2 => seqb_drop (l := l) (m := m) (t := t) h h2
theorem seqb_len : ∀ {l m : List St}, l.length ≠ m.length → Sts.eqb l m = false
  | [], [], h => absurd rfl h
  | [], _ :: _, _ => rfl
  | _ :: _, [], _ => rfl
  | a :: l, b :: m, h => by
    have := seqb_len (l := l) (m := m) (fun e => h (by simp [e]))
    unfold Sts.eqb
    rw [this, Bool.and_false]
/-- what tells whether two statements are the same -/
def SameS (a b : St) : Prop := ∀ va vb, IsSt va a → IsSt vb b → ∀ st, ∃ r st', rw E 29 [va, vb] st = some (r, st') ∧ (r = .returned (.lit (.bool (St.eqb a b))) ∧ Gr st st')
set_option maxHeartbeats 4000000 in
theorem eqf_s {l m : List St} {v w : AVal} (hv : IsSts v l) (hw : IsSts w m) (hs : ∀ a ∈ l, ∀ b ∈ m, SameS a b) (hm : m.length ≤ 100000) (st : ASt) :
    ∃ r st', rw E 28 [v, w, .lit (.func (.func 29) #[] #[])] st = some (r, st') ∧ (r = .returned (.lit (.bool (Sts.eqb l m))) ∧ Gr st st') := by
  refine en_28 fun g t0 t1 t2 => ?_
  have L1 := sts_len hv
  have L2 := sts_len hw
  by_cases hn : l.length = m.length
  · have hni : (l.length : Int) = (m.length : Int) := by omega
    repeat' (first | (first | apply ifk_og | apply ifk_gg | apply ifk_go | apply ifk_ss) <;> intro hc | simp (maxSteps := 5000000) (disch := first | assumption | omega | (simp only [ASt.set_ctr, ASt.new_ctr] <;> omega)) only [r28_0.down, r28_1.down, r28_2.down, n28_4, n28_3, n28_2, r28_3.down, r28_4.down, r28_5.down, r28_6.down, r28_7.down, r28_8.down, n28_14, n28_13, n28_12, n28_11, n28_10, r28_9.down, n28_15, n28_9, n28_8, l28_0, n28_7, n28_6, r28_10.down, n28_16, n28_5, n28_1, n28_0, rq_28, o_leni_39, o_lens_39, o_lenn_39, o_ixi_39, o_ixs_39, o_ldp_63, o_ldi_63, o_al_63, o_st_63, AVal.undef, zaa, zab, aeval, aput, ahint, absOf, flat, nilCheckA, ANext.ofP, evals, evalPs, evalO, zac, zad, zae, zaf, ↓reduceIte, Nat.reduceLT, Nat.reduceEqDiff, reduceCtorEq, zag, zah, zai, zaj, zak, Nat.reduceAdd, Nat.reduceLeDiff, callA, zal, zam, zan, zao, zap, zaq, zar, zas, zat, zau, evalV, yieldB, zav, zaw, zax, zay, zaz, zba, zbb, zbc, zbd, zbe, zbf, zbg, zbh, zbi, zbj, zbk, zbl, zbm, zbn, zbo, zbp, zbq, zbr, extractA, zbs, zbt, zbu, zbv, zbw, zbx, zby, zbz, zca, zcb, zcc, zcd, zce, zcf, zcg, zch, zci, zcj, zck, zcl, zcm, zcn, zco, zcp, zcq, zcr, zcs, zct, zcu, zcv, zcw, zcx, zcy, zcz, zda, zdb, zdc, zdd, zde, zdf, zdg, zdh, zdi, zdj, boxA, newA, zdk, zdl, zdm, zdn, zdo, zdp, zdq, zdr, zds, zdt, zdu, zdv, zdw, fillA, putL, setsE, zdx, zdy, zdz, zea, zeb, zec, zed, zee, zef, zeg, zeh, zei, zej, Nat.reduceBEq, Nat.reduceBNe, zek, zel, zem, zen, Nat.reduceMul, zeo, zep, zeq, zer, zes, zet, zeu, zev, zew, zex, zey, zez, zfa, zfb, zfc, zfd, zfe, zff, zfg, zfh, zfi, zfj, zfk, zfl, zfm, zfn, zfo, zfp, zfq, zfr, zfs, zft, zfu, zfv, zfw, zfx, zfy, zfz, zga, zgb, zgc, zgd, zge, zgf, zgg, zgh, zgi, zgj, ne_eq, zgk, zgl, zgm, zgn, zgo, gt_iff_lt, ge_iff_le, zgp, zgq, zgr, zgs, zgt, zgu, zgv, zgw, zgx, zgy, zgz, zha, zhb, zhc, zhd, zhe, zhf, zhg, zhh, zhi, zhj, zhk, zhl, zhm, zhn, zho, zhp, zhq, gp_opg, zhr, zhs, zht, zhu, zhv, zhw, zhx, zhy, stillD, Int.reduceToNat, zhz, zia, t0,t1,t2,L1,L2,hni])
    refine g_loop (fun i f st' => ∃ t, i = m.length - t ∧ t ≤ m.length ∧ f 0 = v ∧ f 1 = w ∧ f 2 = .lit (.func (.func 29) #[] #[]) ∧ f 15 = v ∧ f 16 = .lit (.int .i64 (m.length : Int)) ∧ f 17 = .lit (.int .i64 (t : Int)) ∧ Gr st st' ∧ Sts.eqb l m = Sts.eqb (l.drop t) (m.drop t))
      (fun i f st' hI => ?_) m.length _ _ ⟨0, rfl, Nat.zero_le _, t0, t1, t2, rfl, rfl, rfl, Gr.refl st, rfl⟩
    clear t0 t1 t2 L1 L2 hni
    obtain ⟨t, rfl, ht, q0, q1, q2, q15, q16, q17, gr, heq⟩ := hI
    by_cases hlt : t < m.length
    · obtain ⟨a, ha⟩ : ∃ a, l[t]? = some a := ⟨_, List.getElem?_eq_getElem (by omega)⟩
      obtain ⟨b, hb⟩ : ∃ b, m[t]? = some b := ⟨_, List.getElem?_eq_getElem hlt⟩
      have hab := hs a (List.mem_of_getElem? ha) b (List.mem_of_getElem? hb)
      obtain ⟨wa, x1, ia⟩ := sts_ix hv ha
      obtain ⟨wb, x2, ib⟩ := sts_ix hw hb
      have hab := hab wa wb ia ib
      rw [seqb_drop ha hb] at heq
      obtain ⟨a0, a1, a2, a3, a4, a5, a6, a7, rfl, ca0, ca1, ca2, ca3, ca4, ca5, ca6, ca7⟩ := ia.form
      obtain ⟨b0, b1, b2, b3, b4, b5, b6, b7, rfl, cb0, cb1, cb2, cb3, cb4, cb5, cb6, cb7⟩ := ib.form
      have hadd : (t : Int) + 1 = ((t + 1 : Nat) : Int) := by omega
      clear hs hv hw ha hb ia ib
      repeat' (first | (first | apply ifk_og | apply ifk_gg | apply ifk_go | apply ifk_ss) <;> intro hc | simp (maxSteps := 5000000) (disch := first | assumption | omega | (simp only [ASt.set_ctr, ASt.new_ctr] <;> omega)) only [r28_0.down, r28_1.down, r28_2.down, n28_4, n28_3, n28_2, r28_3.down, r28_4.down, r28_5.down, r28_6.down, r28_7.down, r28_8.down, n28_14, n28_13, n28_12, n28_11, n28_10, r28_9.down, n28_15, n28_9, n28_8, l28_0, n28_7, n28_6, r28_10.down, n28_16, n28_5, n28_1, n28_0, rq_28, o_leni_39, o_lens_39, o_lenn_39, o_ixi_39, o_ixs_39, o_ldp_63, o_ldi_63, o_al_63, o_st_63, AVal.undef, zaa, zab, aeval, aput, ahint, absOf, flat, nilCheckA, ANext.ofP, evals, evalPs, evalO, zac, zad, zae, zaf, ↓reduceIte, Nat.reduceLT, Nat.reduceEqDiff, reduceCtorEq, zag, zah, zai, zaj, zak, Nat.reduceAdd, Nat.reduceLeDiff, callA, zal, zam, zan, zao, zap, zaq, zar, zas, zat, zau, evalV, yieldB, zav, zaw, zax, zay, zaz, zba, zbb, zbc, zbd, zbe, zbf, zbg, zbh, zbi, zbj, zbk, zbl, zbm, zbn, zbo, zbp, zbq, zbr, extractA, zbs, zbt, zbu, zbv, zbw, zbx, zby, zbz, zca, zcb, zcc, zcd, zce, zcf, zcg, zch, zci, zcj, zck, zcl, zcm, zcn, zco, zcp, zcq, zcr, zcs, zct, zcu, zcv, zcw, zcx, zcy, zcz, zda, zdb, zdc, zdd, zde, zdf, zdg, zdh, zdi, zdj, boxA, newA, zdk, zdl, zdm, zdn, zdo, zdp, zdq, zdr, zds, zdt, zdu, zdv, zdw, fillA, putL, setsE, zdx, zdy, zdz, zea, zeb, zec, zed, zee, zef, zeg, zeh, zei, zej, Nat.reduceBEq, Nat.reduceBNe, zek, zel, zem, zen, Nat.reduceMul, zeo, zep, zeq, zer, zes, zet, zeu, zev, zew, zex, zey, zez, zfa, zfb, zfc, zfd, zfe, zff, zfg, zfh, zfi, zfj, zfk, zfl, zfm, zfn, zfo, zfp, zfq, zfr, zfs, zft, zfu, zfv, zfw, zfx, zfy, zfz, zga, zgb, zgc, zgd, zge, zgf, zgg, zgh, zgi, zgj, ne_eq, zgk, zgl, zgm, zgn, zgo, gt_iff_lt, ge_iff_le, zgp, zgq, zgr, zgs, zgt, zgu, zgv, zgw, zgx, zgy, zgz, zha, zhb, zhc, zhd, zhe, zhf, zhg, zhh, zhi, zhj, zhk, zhl, zhm, zhn, zho, zhp, zhq, gp_opg, zhr, zhs, zht, zhu, zhv, zhw, zhx, zhy, stillD, Int.reduceToNat, zhz, zia, q0,q1,q2,q15,q16,q17,x1,x2,ca0,ca1,ca2,ca3,ca4,ca5,ca6,ca7,cb0,cb1,cb2,cb3,cb4,cb5,cb6,cb7])
      refine sc_ex (hab _) fun r s1 h2 => ?_
      obtain ⟨rfl, g2⟩ := h2
      have gg : Gr st s1 := ((((gr.new' _).set' gr.1).new' _).set' (by have := gr.1; simp; omega)).trans g2
      clear g2
      cases he : St.eqb a b with
      | false =>
        rw [he, Bool.false_and] at heq
        repeat' (first | (first | apply ifk_og | apply ifk_gg | apply ifk_go | apply ifk_ss) <;> intro hc | simp (maxSteps := 5000000) (disch := first | assumption | omega | (simp only [ASt.set_ctr, ASt.new_ctr] <;> omega)) only [r28_0.down, r28_1.down, r28_2.down, n28_4, n28_3, n28_2, r28_3.down, r28_4.down, r28_5.down, r28_6.down, r28_7.down, r28_8.down, n28_14, n28_13, n28_12, n28_11, n28_10, r28_9.down, n28_15, n28_9, n28_8, l28_0, n28_7, n28_6, r28_10.down, n28_16, n28_5, n28_1, n28_0, rq_28, o_leni_39, o_lens_39, o_lenn_39, o_ixi_39, o_ixs_39, o_ldp_63, o_ldi_63, o_al_63, o_st_63, AVal.undef, zaa, zab, aeval, aput, ahint, absOf, flat, nilCheckA, ANext.ofP, evals, evalPs, evalO, zac, zad, zae, zaf, ↓reduceIte, Nat.reduceLT, Nat.reduceEqDiff, reduceCtorEq, zag, zah, zai, zaj, zak, Nat.reduceAdd, Nat.reduceLeDiff, callA, zal, zam, zan, zao, zap, zaq, zar, zas, zat, zau, evalV, yieldB, zav, zaw, zax, zay, zaz, zba, zbb, zbc, zbd, zbe, zbf, zbg, zbh, zbi, zbj, zbk, zbl, zbm, zbn, zbo, zbp, zbq, zbr, extractA, zbs, zbt, zbu, zbv, zbw, zbx, zby, zbz, zca, zcb, zcc, zcd, zce, zcf, zcg, zch, zci, zcj, zck, zcl, zcm, zcn, zco, zcp, zcq, zcr, zcs, zct, zcu, zcv, zcw, zcx, zcy, zcz, zda, zdb, zdc, zdd, zde, zdf, zdg, zdh, zdi, zdj, boxA, newA, zdk, zdl, zdm, zdn, zdo, zdp, zdq, zdr, zds, zdt, zdu, zdv, zdw, fillA, putL, setsE, zdx, zdy, zdz, zea, zeb, zec, zed, zee, zef, zeg, zeh, zei, zej, Nat.reduceBEq, Nat.reduceBNe, zek, zel, zem, zen, Nat.reduceMul, zeo, zep, zeq, zer, zes, zet, zeu, zev, zew, zex, zey, zez, zfa, zfb, zfc, zfd, zfe, zff, zfg, zfh, zfi, zfj, zfk, zfl, zfm, zfn, zfo, zfp, zfq, zfr, zfs, zft, zfu, zfv, zfw, zfx, zfy, zfz, zga, zgb, zgc, zgd, zge, zgf, zgg, zgh, zgi, zgj, ne_eq, zgk, zgl, zgm, zgn, zgo, gt_iff_lt, ge_iff_le, zgp, zgq, zgr, zgs, zgt, zgu, zgv, zgw, zgx, zgy, zgz, zha, zhb, zhc, zhd, zhe, zhf, zhg, zhh, zhi, zhj, zhk, zhl, zhm, zhn, zho, zhp, zhq, gp_opg, zhr, zhs, zht, zhu, zhv, zhw, zhx, zhy, stillD, Int.reduceToNat, zhz, zia, q0,q1,q2,q15,q16,q17])
        exact ⟨by rw [heq], gg⟩
      | true =>
        rw [he, Bool.true_and] at heq
        repeat' (first | (first | apply ifk_og | apply ifk_gg | apply ifk_go | apply ifk_ss) <;> intro hc | simp (maxSteps := 5000000) (disch := first | assumption | omega | (simp only [ASt.set_ctr, ASt.new_ctr] <;> omega)) only [r28_0.down, r28_1.down, r28_2.down, n28_4, n28_3, n28_2, r28_3.down, r28_4.down, r28_5.down, r28_6.down, r28_7.down, r28_8.down, n28_14, n28_13, n28_12, n28_11, n28_10, r28_9.down, n28_15, n28_9, n28_8, l28_0, n28_7, n28_6, r28_10.down, n28_16, n28_5, n28_1, n28_0, rq_28, o_leni_39, o_lens_39, o_lenn_39, o_ixi_39, o_ixs_39, o_ldp_63, o_ldi_63, o_al_63, o_st_63, AVal.undef, zaa, zab, aeval, aput, ahint, absOf, flat, nilCheckA, ANext.ofP, evals, evalPs, evalO, zac, zad, zae, zaf, ↓reduceIte, Nat.reduceLT, Nat.reduceEqDiff, reduceCtorEq, zag, zah, zai, zaj, zak, Nat.reduceAdd, Nat.reduceLeDiff, callA, zal, zam, zan, zao, zap, zaq, zar, zas, zat, zau, evalV, yieldB, zav, zaw, zax, zay, zaz, zba, zbb, zbc, zbd, zbe, zbf, zbg, zbh, zbi, zbj, zbk, zbl, zbm, zbn, zbo, zbp, zbq, zbr, extractA, zbs, zbt, zbu, zbv, zbw, zbx, zby, zbz, zca, zcb, zcc, zcd, zce, zcf, zcg, zch, zci, zcj, zck, zcl, zcm, zcn, zco, zcp, zcq, zcr, zcs, zct, zcu, zcv, zcw, zcx, zcy, zcz, zda, zdb, zdc, zdd, zde, zdf, zdg, zdh, zdi, zdj, boxA, newA, zdk, zdl, zdm, zdn, zdo, zdp, zdq, zdr, zds, zdt, zdu, zdv, zdw, fillA, putL, setsE, zdx, zdy, zdz, zea, zeb, zec, zed, zee, zef, zeg, zeh, zei, zej, Nat.reduceBEq, Nat.reduceBNe, zek, zel, zem, zen, Nat.reduceMul, zeo, zep, zeq, zer, zes, zet, zeu, zev, zew, zex, zey, zez, zfa, zfb, zfc, zfd, zfe, zff, zfg, zfh, zfi, zfj, zfk, zfl, zfm, zfn, zfo, zfp, zfq, zfr, zfs, zft, zfu, zfv, zfw, zfx, zfy, zfz, zga, zgb, zgc, zgd, zge, zgf, zgg, zgh, zgi, zgj, ne_eq, zgk, zgl, zgm, zgn, zgo, gt_iff_lt, ge_iff_le, zgp, zgq, zgr, zgs, zgt, zgu, zgv, zgw, zgx, zgy, zgz, zha, zhb, zhc, zhd, zhe, zhf, zhg, zhh, zhi, zhj, zhk, zhl, zhm, zhn, zho, zhp, zhq, gp_opg, zhr, zhs, zht, zhu, zhv, zhw, zhx, zhy, stillD, Int.reduceToNat, zhz, zia, q0,q1,q2,q15,q16,q17,hadd])
        refine lq_n (j := m.length - (t + 1)) (by omega) ?_
        exact ⟨t + 1, rfl, by omega, q0, q1, q2, q15, q16, rfl, gg, heq⟩
    · obtain rfl : t = m.length := by omega
      rw [List.drop_length, List.drop_of_length_le (by omega)] at heq
      repeat' (first | (first | apply ifk_og | apply ifk_gg | apply ifk_go | apply ifk_ss) <;> intro hc | simp (maxSteps := 5000000) (disch := first | assumption | omega | (simp only [ASt.set_ctr, ASt.new_ctr] <;> omega)) only [r28_0.down, r28_1.down, r28_2.down, n28_4, n28_3, n28_2, r28_3.down, r28_4.down, r28_5.down, r28_6.down, r28_7.down, r28_8.down, n28_14, n28_13, n28_12, n28_11, n28_10, r28_9.down, n28_15, n28_9, n28_8, l28_0, n28_7, n28_6, r28_10.down, n28_16, n28_5, n28_1, n28_0, rq_28, o_leni_39, o_lens_39, o_lenn_39, o_ixi_39, o_ixs_39, o_ldp_63, o_ldi_63, o_al_63, o_st_63, AVal.undef, zaa, zab, aeval, aput, ahint, absOf, flat, nilCheckA, ANext.ofP, evals, evalPs, evalO, zac, zad, zae, zaf, ↓reduceIte, Nat.reduceLT, Nat.reduceEqDiff, reduceCtorEq, zag, zah, zai, zaj, zak, Nat.reduceAdd, Nat.reduceLeDiff, callA, zal, zam, zan, zao, zap, zaq, zar, zas, zat, zau, evalV, yieldB, zav, zaw, zax, zay, zaz, zba, zbb, zbc, zbd, zbe, zbf, zbg, zbh, zbi, zbj, zbk, zbl, zbm, zbn, zbo, zbp, zbq, zbr, extractA, zbs, zbt, zbu, zbv, zbw, zbx, zby, zbz, zca, zcb, zcc, zcd, zce, zcf, zcg, zch, zci, zcj, zck, zcl, zcm, zcn, zco, zcp, zcq, zcr, zcs, zct, zcu, zcv, zcw, zcx, zcy, zcz, zda, zdb, zdc, zdd, zde, zdf, zdg, zdh, zdi, zdj, boxA, newA, zdk, zdl, zdm, zdn, zdo, zdp, zdq, zdr, zds, zdt, zdu, zdv, zdw, fillA, putL, setsE, zdx, zdy, zdz, zea, zeb, zec, zed, zee, zef, zeg, zeh, zei, zej, Nat.reduceBEq, Nat.reduceBNe, zek, zel, zem, zen, Nat.reduceMul, zeo, zep, zeq, zer, zes, zet, zeu, zev, zew, zex, zey, zez, zfa, zfb, zfc, zfd, zfe, zff, zfg, zfh, zfi, zfj, zfk, zfl, zfm, zfn, zfo, zfp, zfq, zfr, zfs, zft, zfu, zfv, zfw, zfx, zfy, zfz, zga, zgb, zgc, zgd, zge, zgf, zgg, zgh, zgi, zgj, ne_eq, zgk, zgl, zgm, zgn, zgo, gt_iff_lt, ge_iff_le, zgp, zgq, zgr, zgs, zgt, zgu, zgv, zgw, zgx, zgy, zgz, zha, zhb, zhc, zhd, zhe, zhf, zhg, zhh, zhi, zhj, zhk, zhl, zhm, zhn, zho, zhp, zhq, gp_opg, zhr, zhs, zht, zhu, zhv, zhw, zhx, zhy, stillD, Int.reduceToNat, zhz, zia, q0,q1,q2,q15,q16,q17])
      exact ⟨by rw [heq]; rfl, gr⟩
  · have hni : (l.length : Int) ≠ (m.length : Int) := by omega
    rw [seqb_len hn]
    repeat' (first | (first | apply ifk_og | apply ifk_gg | apply ifk_go | apply ifk_ss) <;> intro hc | simp (maxSteps := 5000000) (disch := first | assumption | omega | (simp only [ASt.set_ctr, ASt.new_ctr] <;> omega)) only [r28_0.down, r28_1.down, r28_2.down, n28_4, n28_3, n28_2, r28_3.down, r28_4.down, r28_5.down, r28_6.down, r28_7.down, r28_8.down, n28_14, n28_13, n28_12, n28_11, n28_10, r28_9.down, n28_15, n28_9, n28_8, l28_0, n28_7, n28_6, r28_10.down, n28_16, n28_5, n28_1, n28_0, rq_28, o_leni_39, o_lens_39, o_lenn_39, o_ixi_39, o_ixs_39, o_ldp_63, o_ldi_63, o_al_63, o_st_63, AVal.undef, zaa, zab, aeval, aput, ahint, absOf, flat, nilCheckA, ANext.ofP, evals, evalPs, evalO, zac, zad, zae, zaf, ↓reduceIte, Nat.reduceLT, Nat.reduceEqDiff, reduceCtorEq, zag, zah, zai, zaj, zak, Nat.reduceAdd, Nat.reduceLeDiff, callA, zal, zam, zan, zao, zap, zaq, zar, zas, zat, zau, evalV, yieldB, zav, zaw, zax, zay, zaz, zba, zbb, zbc, zbd, zbe, zbf, zbg, zbh, zbi, zbj, zbk, zbl, zbm, zbn, zbo, zbp, zbq, zbr, extractA, zbs, zbt, zbu, zbv, zbw, zbx, zby, zbz, zca, zcb, zcc, zcd, zce, zcf, zcg, zch, zci, zcj, zck, zcl, zcm, zcn, zco, zcp, zcq, zcr, zcs, zct, zcu, zcv, zcw, zcx, zcy, zcz, zda, zdb, zdc, zdd, zde, zdf, zdg, zdh, zdi, zdj, boxA, newA, zdk, zdl, zdm, zdn, zdo, zdp, zdq, zdr, zds, zdt, zdu, zdv, zdw, fillA, putL, setsE, zdx, zdy, zdz, zea, zeb, zec, zed, zee, zef, zeg, zeh, zei, zej, Nat.reduceBEq, Nat.reduceBNe, zek, zel, zem, zen, Nat.reduceMul, zeo, zep, zeq, zer, zes, zet, zeu, zev, zew, zex, zey, zez, zfa, zfb, zfc, zfd, zfe, zff, zfg, zfh, zfi, zfj, zfk, zfl, zfm, zfn, zfo, zfp, zfq, zfr, zfs, zft, zfu, zfv, zfw, zfx, zfy, zfz, zga, zgb, zgc, zgd, zge, zgf, zgg, zgh, zgi, zgj, ne_eq, zgk, zgl, zgm, zgn, zgo, gt_iff_lt, ge_iff_le, zgp, zgq, zgr, zgs, zgt, zgu, zgv, zgw, zgx, zgy, zgz, zha, zhb, zhc, zhd, zhe, zhf, zhg, zhh, zhi, zhj, zhk, zhl, zhm, zhn, zho, zhp, zhq, gp_opg, zhr, zhs, zht, zhu, zhv, zhw, zhx, zhy, stillD, Int.reduceToNat, zhz, zia, t0,t1,t2,L1,L2,hni])
    all_goals first | exact ⟨rfl, Gr.refl st⟩ | exact Gr.refl st
set_option maxHeartbeats 4000000 in
theorem alike_rw : ∀ (a b : St), a.sm → b.sm → SameS a b
  | .mk k r n i es bd el p, .mk k2 r2 n2 i2 es2 bd2 el2 p2, ha, hb => by
    intro va vb iva ivb st
    cases iva with
    | @mk _ _ _ _ _ _ _ _ ve vbd vel he hc hbd hel =>
    cases ivb with
    | @mk _ _ _ _ _ _ _ _ ve2 vbd2 vel2 he2 hc2 hbd2 hel2 =>
    refine en_29 fun g t0 t1 => ?_
    unfold St.sm at ha hb
    obtain ⟨h1, h2, h3, h4, h5, h6⟩ := ha
    obtain ⟨k1, k2', k3, k4, k5, k6⟩ := hb
    have ih : ∀ a ∈ bd, ∀ b ∈ bd2, SameS a b := fun a ha b hb => alike_rw a b (Sts.sm_mem h5 ha) (Sts.sm_mem k5 hb)
    have ih2 : ∀ a ∈ el, ∀ b ∈ el2, SameS a b := fun a ha b hb => alike_rw a b (Sts.sm_mem h6 ha) (Sts.sm_mem k6 hb)
    have e1 := fun st => eqf_e he he2 (fun a ha b hb => same_rw a b (h1 a ha) (k1 b hb)) k2' st
    have e2 := fun st => eqf_s hbd hbd2 ih k3 st
    have e3 := fun st => eqf_s hel hel2 ih2 k4 st
    have c1 := hbd.cell
    have c2 := hel.cell
    have c3 := hbd2.cell
    have c4 := hel2.cell
    unfold St.eqb
    clear ih ih2 h5 h6 k5 k6 h1 k1 he he2 hbd hbd2 hel hel2
    repeat' (first | (first | apply ifk_og | apply ifk_gg | apply ifk_go | apply ifk_ss) <;> intro hc | simp (maxSteps := 5000000) (disch := first | assumption | omega | (simp only [ASt.set_ctr, ASt.new_ctr] <;> omega)) only [r29_0.down, r29_1.down, n29_1, n29_0, rq_29, o_fap_63_0, o_fai_63_0, o_ldp_26, o_ldi_26, o_fap_63_1, o_fai_63_1, o_ldp_9, o_ldi_9, eq_str, o_fap_63_2, o_fai_63_2, o_fap_63_3, o_fai_63_3, o_ldp_4, o_ldi_4, o_eqb_4_eql, o_fap_63_4, o_fai_63_4, o_ldp_46, o_ldi_46, cf_41, o_fap_63_5, o_fai_63_5, o_ldp_39, o_ldi_39, cf_28, o_fap_63_6, o_fai_63_6, AVal.undef, zaa, zab, aeval, aput, ahint, absOf, flat, nilCheckA, ANext.ofP, evals, evalPs, evalO, zac, zad, zae, zaf, ↓reduceIte, Nat.reduceLT, Nat.reduceEqDiff, reduceCtorEq, zag, zah, zai, zaj, zak, Nat.reduceAdd, Nat.reduceLeDiff, callA, zal, zam, zan, zao, zap, zaq, zar, zas, zat, zau, evalV, yieldB, zav, zaw, zax, zay, zaz, zba, zbb, zbc, zbd, zbe, zbf, zbg, zbh, zbi, zbj, zbk, zbl, zbm, zbn, zbo, zbp, zbq, zbr, extractA, zbs, zbt, zbu, zbv, zbw, zbx, zby, zbz, zca, zcb, zcc, zcd, zce, zcf, zcg, zch, zci, zcj, zck, zcl, zcm, zcn, zco, zcp, zcq, zcr, zcs, zct, zcu, zcv, zcw, zcx, zcy, zcz, zda, zdb, zdc, zdd, zde, zdf, zdg, zdh, zdi, zdj, boxA, newA, zdk, zdl, zdm, zdn, zdo, zdp, zdq, zdr, zds, zdt, zdu, zdv, zdw, fillA, putL, setsE, zdx, zdy, zdz, zea, zeb, zec, zed, zee, zef, zeg, zeh, zei, zej, Nat.reduceBEq, Nat.reduceBNe, zek, zel, zem, zen, Nat.reduceMul, zeo, zep, zeq, zer, zes, zet, zeu, zev, zew, zex, zey, zez, zfa, zfb, zfc, zfd, zfe, zff, zfg, zfh, zfi, zfj, zfk, zfl, zfm, zfn, zfo, zfp, zfq, zfr, zfs, zft, zfu, zfv, zfw, zfx, zfy, zfz, zga, zgb, zgc, zgd, zge, zgf, zgg, zgh, zgi, zgj, ne_eq, zgk, zgl, zgm, zgn, zgo, gt_iff_lt, ge_iff_le, zgp, zgq, zgr, zgs, zgt, zgu, zgv, zgw, zgx, zgy, zgz, zha, zhb, zhc, zhd, zhe, zhf, zhg, zhh, zhi, zhj, zhk, zhl, zhm, zhn, zho, zhp, zhq, gp_opg, zhr, zhs, zht, zhu, zhv, zhw, zhx, zhy, stillD, Int.reduceToNat, zhz, zia, t0,t1,hc,hc2,c1,c2,c3,c4])
    all_goals first | exact ⟨by simp [*], ((Gr.refl st).new' _).new' _⟩ | skip
    have hk : k = k2 := by omega
    subst hk
    subst r2 n2 i2
    refine sc_ex (e1 _) fun r s1 h2 => ?_
    obtain ⟨rfl, g2⟩ := h2
    have x1 : s1.heap st.ctr = some (.cells [.lit (.int .i64 (k : Int)), .lit (.string ⟨r.toArray⟩), .lit (.string ⟨n.toArray⟩), .lit (.bool i), ve, vbd, vel, .lit (.int .i64 (p : Int))]) := g2.at (by (simp (disch := omega) only [heap_set_if, heap_new_if, ASt.set_ctr, ASt.new_ctr, ite_t, ite_f, if_true, eq_self])) (by simp; omega)
    have x2 : s1.heap (st.ctr + 1) = some (.cells [.lit (.int .i64 (k : Int)), .lit (.string ⟨r.toArray⟩), .lit (.string ⟨n.toArray⟩), .lit (.bool i), ve2, vbd2, vel2, .lit (.int .i64 (p2 : Int))]) := g2.at (by (simp (disch := omega) only [heap_set_if, heap_new_if, ASt.set_ctr, ASt.new_ctr, ite_t, ite_f, if_true, eq_self])) (by simp)
    have gg := (((Gr.refl st).new' _).new' _).trans g2
    cases y1 : Ex.eqbs es es2 with
    | false =>
      (simp (maxSteps := 5000000) (disch := first | assumption | omega | (simp only [ASt.set_ctr, ASt.new_ctr] <;> omega)) only [r29_0.down, r29_1.down, n29_1, n29_0, rq_29, o_fap_63_0, o_fai_63_0, o_ldp_26, o_ldi_26, o_fap_63_1, o_fai_63_1, o_ldp_9, o_ldi_9, eq_str, o_fap_63_2, o_fai_63_2, o_fap_63_3, o_fai_63_3, o_ldp_4, o_ldi_4, o_eqb_4_eql, o_fap_63_4, o_fai_63_4, o_ldp_46, o_ldi_46, cf_41, o_fap_63_5, o_fai_63_5, o_ldp_39, o_ldi_39, cf_28, o_fap_63_6, o_fai_63_6, AVal.undef, zaa, zab, aeval, aput, ahint, absOf, flat, nilCheckA, ANext.ofP, evals, evalPs, evalO, zac, zad, zae, zaf, ↓reduceIte, Nat.reduceLT, Nat.reduceEqDiff, reduceCtorEq, zag, zah, zai, zaj, zak, Nat.reduceAdd, Nat.reduceLeDiff, callA, zal, zam, zan, zao, zap, zaq, zar, zas, zat, zau, evalV, yieldB, zav, zaw, zax, zay, zaz, zba, zbb, zbc, zbd, zbe, zbf, zbg, zbh, zbi, zbj, zbk, zbl, zbm, zbn, zbo, zbp, zbq, zbr, extractA, zbs, zbt, zbu, zbv, zbw, zbx, zby, zbz, zca, zcb, zcc, zcd, zce, zcf, zcg, zch, zci, zcj, zck, zcl, zcm, zcn, zco, zcp, zcq, zcr, zcs, zct, zcu, zcv, zcw, zcx, zcy, zcz, zda, zdb, zdc, zdd, zde, zdf, zdg, zdh, zdi, zdj, boxA, newA, zdk, zdl, zdm, zdn, zdo, zdp, zdq, zdr, zds, zdt, zdu, zdv, zdw, fillA, putL, setsE, zdx, zdy, zdz, zea, zeb, zec, zed, zee, zef, zeg, zeh, zei, zej, Nat.reduceBEq, Nat.reduceBNe, zek, zel, zem, zen, Nat.reduceMul, zeo, zep, zeq, zer, zes, zet, zeu, zev, zew, zex, zey, zez, zfa, zfb, zfc, zfd, zfe, zff, zfg, zfh, zfi, zfj, zfk, zfl, zfm, zfn, zfo, zfp, zfq, zfr, zfs, zft, zfu, zfv, zfw, zfx, zfy, zfz, zga, zgb, zgc, zgd, zge, zgf, zgg, zgh, zgi, zgj, ne_eq, zgk, zgl, zgm, zgn, zgo, gt_iff_lt, ge_iff_le, zgp, zgq, zgr, zgs, zgt, zgu, zgv, zgw, zgx, zgy, zgz, zha, zhb, zhc, zhd, zhe, zhf, zhg, zhh, zhi, zhj, zhk, zhl, zhm, zhn, zho, zhp, zhq, gp_opg, zhr, zhs, zht, zhu, zhv, zhw, zhx, zhy, stillD, Int.reduceToNat, zhz, zia, t0,t1,hc,hc2,c1,c2,c3,c4,x1,x2])
      exact ⟨by simp, gg⟩
    | true =>
      (simp (maxSteps := 5000000) (disch := first | assumption | omega | (simp only [ASt.set_ctr, ASt.new_ctr] <;> omega)) only [r29_0.down, r29_1.down, n29_1, n29_0, rq_29, o_fap_63_0, o_fai_63_0, o_ldp_26, o_ldi_26, o_fap_63_1, o_fai_63_1, o_ldp_9, o_ldi_9, eq_str, o_fap_63_2, o_fai_63_2, o_fap_63_3, o_fai_63_3, o_ldp_4, o_ldi_4, o_eqb_4_eql, o_fap_63_4, o_fai_63_4, o_ldp_46, o_ldi_46, cf_41, o_fap_63_5, o_fai_63_5, o_ldp_39, o_ldi_39, cf_28, o_fap_63_6, o_fai_63_6, AVal.undef, zaa, zab, aeval, aput, ahint, absOf, flat, nilCheckA, ANext.ofP, evals, evalPs, evalO, zac, zad, zae, zaf, ↓reduceIte, Nat.reduceLT, Nat.reduceEqDiff, reduceCtorEq, zag, zah, zai, zaj, zak, Nat.reduceAdd, Nat.reduceLeDiff, callA, zal, zam, zan, zao, zap, zaq, zar, zas, zat, zau, evalV, yieldB, zav, zaw, zax, zay, zaz, zba, zbb, zbc, zbd, zbe, zbf, zbg, zbh, zbi, zbj, zbk, zbl, zbm, zbn, zbo, zbp, zbq, zbr, extractA, zbs, zbt, zbu, zbv, zbw, zbx, zby, zbz, zca, zcb, zcc, zcd, zce, zcf, zcg, zch, zci, zcj, zck, zcl, zcm, zcn, zco, zcp, zcq, zcr, zcs, zct, zcu, zcv, zcw, zcx, zcy, zcz, zda, zdb, zdc, zdd, zde, zdf, zdg, zdh, zdi, zdj, boxA, newA, zdk, zdl, zdm, zdn, zdo, zdp, zdq, zdr, zds, zdt, zdu, zdv, zdw, fillA, putL, setsE, zdx, zdy, zdz, zea, zeb, zec, zed, zee, zef, zeg, zeh, zei, zej, Nat.reduceBEq, Nat.reduceBNe, zek, zel, zem, zen, Nat.reduceMul, zeo, zep, zeq, zer, zes, zet, zeu, zev, zew, zex, zey, zez, zfa, zfb, zfc, zfd, zfe, zff, zfg, zfh, zfi, zfj, zfk, zfl, zfm, zfn, zfo, zfp, zfq, zfr, zfs, zft, zfu, zfv, zfw, zfx, zfy, zfz, zga, zgb, zgc, zgd, zge, zgf, zgg, zgh, zgi, zgj, ne_eq, zgk, zgl, zgm, zgn, zgo, gt_iff_lt, ge_iff_le, zgp, zgq, zgr, zgs, zgt, zgu, zgv, zgw, zgx, zgy, zgz, zha, zhb, zhc, zhd, zhe, zhf, zhg, zhh, zhi, zhj, zhk, zhl, zhm, zhn, zho, zhp, zhq, gp_opg, zhr, zhs, zht, zhu, zhv, zhw, zhx, zhy, stillD, Int.reduceToNat, zhz, zia, t0,t1,hc,hc2,c1,c2,c3,c4,x1,x2])
      refine sc_ex (e2 _) fun r s2 h2 => ?_
      obtain ⟨rfl, g3⟩ := h2
      have x3 := g3.at x1 (Nat.lt_of_lt_of_le (by simp; omega) g2.1)
      have x4 := g3.at x2 (Nat.lt_of_lt_of_le (by simp) g2.1)
      have gg := gg.trans g3
      cases y2 : Sts.eqb bd bd2 with
      | false =>
        (simp (maxSteps := 5000000) (disch := first | assumption | omega | (simp only [ASt.set_ctr, ASt.new_ctr] <;> omega)) only [r29_0.down, r29_1.down, n29_1, n29_0, rq_29, o_fap_63_0, o_fai_63_0, o_ldp_26, o_ldi_26, o_fap_63_1, o_fai_63_1, o_ldp_9, o_ldi_9, eq_str, o_fap_63_2, o_fai_63_2, o_fap_63_3, o_fai_63_3, o_ldp_4, o_ldi_4, o_eqb_4_eql, o_fap_63_4, o_fai_63_4, o_ldp_46, o_ldi_46, cf_41, o_fap_63_5, o_fai_63_5, o_ldp_39, o_ldi_39, cf_28, o_fap_63_6, o_fai_63_6, AVal.undef, zaa, zab, aeval, aput, ahint, absOf, flat, nilCheckA, ANext.ofP, evals, evalPs, evalO, zac, zad, zae, zaf, ↓reduceIte, Nat.reduceLT, Nat.reduceEqDiff, reduceCtorEq, zag, zah, zai, zaj, zak, Nat.reduceAdd, Nat.reduceLeDiff, callA, zal, zam, zan, zao, zap, zaq, zar, zas, zat, zau, evalV, yieldB, zav, zaw, zax, zay, zaz, zba, zbb, zbc, zbd, zbe, zbf, zbg, zbh, zbi, zbj, zbk, zbl, zbm, zbn, zbo, zbp, zbq, zbr, extractA, zbs, zbt, zbu, zbv, zbw, zbx, zby, zbz, zca, zcb, zcc, zcd, zce, zcf, zcg, zch, zci, zcj, zck, zcl, zcm, zcn, zco, zcp, zcq, zcr, zcs, zct, zcu, zcv, zcw, zcx, zcy, zcz, zda, zdb, zdc, zdd, zde, zdf, zdg, zdh, zdi, zdj, boxA, newA, zdk, zdl, zdm, zdn, zdo, zdp, zdq, zdr, zds, zdt, zdu, zdv, zdw, fillA, putL, setsE, zdx, zdy, zdz, zea, zeb, zec, zed, zee, zef, zeg, zeh, zei, zej, Nat.reduceBEq, Nat.reduceBNe, zek, zel, zem, zen, Nat.reduceMul, zeo, zep, zeq, zer, zes, zet, zeu, zev, zew, zex, zey, zez, zfa, zfb, zfc, zfd, zfe, zff, zfg, zfh, zfi, zfj, zfk, zfl, zfm, zfn, zfo, zfp, zfq, zfr, zfs, zft, zfu, zfv, zfw, zfx, zfy, zfz, zga, zgb, zgc, zgd, zge, zgf, zgg, zgh, zgi, zgj, ne_eq, zgk, zgl, zgm, zgn, zgo, gt_iff_lt, ge_iff_le, zgp, zgq, zgr, zgs, zgt, zgu, zgv, zgw, zgx, zgy, zgz, zha, zhb, zhc, zhd, zhe, zhf, zhg, zhh, zhi, zhj, zhk, zhl, zhm, zhn, zho, zhp, zhq, gp_opg, zhr, zhs, zht, zhu, zhv, zhw, zhx, zhy, stillD, Int.reduceToNat, zhz, zia, t0,t1,hc,hc2,c1,c2,c3,c4,x3,x4])
        exact ⟨by simp, gg⟩
      | true =>
        (simp (maxSteps := 5000000) (disch := first | assumption | omega | (simp only [ASt.set_ctr, ASt.new_ctr] <;> omega)) only [r29_0.down, r29_1.down, n29_1, n29_0, rq_29, o_fap_63_0, o_fai_63_0, o_ldp_26, o_ldi_26, o_fap_63_1, o_fai_63_1, o_ldp_9, o_ldi_9, eq_str, o_fap_63_2, o_fai_63_2, o_fap_63_3, o_fai_63_3, o_ldp_4, o_ldi_4, o_eqb_4_eql, o_fap_63_4, o_fai_63_4, o_ldp_46, o_ldi_46, cf_41, o_fap_63_5, o_fai_63_5, o_ldp_39, o_ldi_39, cf_28, o_fap_63_6, o_fai_63_6, AVal.undef, zaa, zab, aeval, aput, ahint, absOf, flat, nilCheckA, ANext.ofP, evals, evalPs, evalO, zac, zad, zae, zaf, ↓reduceIte, Nat.reduceLT, Nat.reduceEqDiff, reduceCtorEq, zag, zah, zai, zaj, zak, Nat.reduceAdd, Nat.reduceLeDiff, callA, zal, zam, zan, zao, zap, zaq, zar, zas, zat, zau, evalV, yieldB, zav, zaw, zax, zay, zaz, zba, zbb, zbc, zbd, zbe, zbf, zbg, zbh, zbi, zbj, zbk, zbl, zbm, zbn, zbo, zbp, zbq, zbr, extractA, zbs, zbt, zbu, zbv, zbw, zbx, zby, zbz, zca, zcb, zcc, zcd, zce, zcf, zcg, zch, zci, zcj, zck, zcl, zcm, zcn, zco, zcp, zcq, zcr, zcs, zct, zcu, zcv, zcw, zcx, zcy, zcz, zda, zdb, zdc, zdd, zde, zdf, zdg, zdh, zdi, zdj, boxA, newA, zdk, zdl, zdm, zdn, zdo, zdp, zdq, zdr, zds, zdt, zdu, zdv, zdw, fillA, putL, setsE, zdx, zdy, zdz, zea, zeb, zec, zed, zee, zef, zeg, zeh, zei, zej, Nat.reduceBEq, Nat.reduceBNe, zek, zel, zem, zen, Nat.reduceMul, zeo, zep, zeq, zer, zes, zet, zeu, zev, zew, zex, zey, zez, zfa, zfb, zfc, zfd, zfe, zff, zfg, zfh, zfi, zfj, zfk, zfl, zfm, zfn, zfo, zfp, zfq, zfr, zfs, zft, zfu, zfv, zfw, zfx, zfy, zfz, zga, zgb, zgc, zgd, zge, zgf, zgg, zgh, zgi, zgj, ne_eq, zgk, zgl, zgm, zgn, zgo, gt_iff_lt, ge_iff_le, zgp, zgq, zgr, zgs, zgt, zgu, zgv, zgw, zgx, zgy, zgz, zha, zhb, zhc, zhd, zhe, zhf, zhg, zhh, zhi, zhj, zhk, zhl, zhm, zhn, zho, zhp, zhq, gp_opg, zhr, zhs, zht, zhu, zhv, zhw, zhx, zhy, stillD, Int.reduceToNat, zhz, zia, t0,t1,hc,hc2,c1,c2,c3,c4,x3,x4])
        refine sc_ex (e3 _) fun r s3 h2 => ?_
        obtain ⟨rfl, g4⟩ := h2
        (simp (maxSteps := 5000000) (disch := first | assumption | omega | (simp only [ASt.set_ctr, ASt.new_ctr] <;> omega)) only [r29_0.down, r29_1.down, n29_1, n29_0, rq_29, o_fap_63_0, o_fai_63_0, o_ldp_26, o_ldi_26, o_fap_63_1, o_fai_63_1, o_ldp_9, o_ldi_9, eq_str, o_fap_63_2, o_fai_63_2, o_fap_63_3, o_fai_63_3, o_ldp_4, o_ldi_4, o_eqb_4_eql, o_fap_63_4, o_fai_63_4, o_ldp_46, o_ldi_46, cf_41, o_fap_63_5, o_fai_63_5, o_ldp_39, o_ldi_39, cf_28, o_fap_63_6, o_fai_63_6, AVal.undef, zaa, zab, aeval, aput, ahint, absOf, flat, nilCheckA, ANext.ofP, evals, evalPs, evalO, zac, zad, zae, zaf, ↓reduceIte, Nat.reduceLT, Nat.reduceEqDiff, reduceCtorEq, zag, zah, zai, zaj, zak, Nat.reduceAdd, Nat.reduceLeDiff, callA, zal, zam, zan, zao, zap, zaq, zar, zas, zat, zau, evalV, yieldB, zav, zaw, zax, zay, zaz, zba, zbb, zbc, zbd, zbe, zbf, zbg, zbh, zbi, zbj, zbk, zbl, zbm, zbn, zbo, zbp, zbq, zbr, extractA, zbs, zbt, zbu, zbv, zbw, zbx, zby, zbz, zca, zcb, zcc, zcd, zce, zcf, zcg, zch, zci, zcj, zck, zcl, zcm, zcn, zco, zcp, zcq, zcr, zcs, zct, zcu, zcv, zcw, zcx, zcy, zcz, zda, zdb, zdc, zdd, zde, zdf, zdg, zdh, zdi, zdj, boxA, newA, zdk, zdl, zdm, zdn, zdo, zdp, zdq, zdr, zds, zdt, zdu, zdv, zdw, fillA, putL, setsE, zdx, zdy, zdz, zea, zeb, zec, zed, zee, zef, zeg, zeh, zei, zej, Nat.reduceBEq, Nat.reduceBNe, zek, zel, zem, zen, Nat.reduceMul, zeo, zep, zeq, zer, zes, zet, zeu, zev, zew, zex, zey, zez, zfa, zfb, zfc, zfd, zfe, zff, zfg, zfh, zfi, zfj, zfk, zfl, zfm, zfn, zfo, zfp, zfq, zfr, zfs, zft, zfu, zfv, zfw, zfx, zfy, zfz, zga, zgb, zgc, zgd, zge, zgf, zgg, zgh, zgi, zgj, ne_eq, zgk, zgl, zgm, zgn, zgo, gt_iff_lt, ge_iff_le, zgp, zgq, zgr, zgs, zgt, zgu, zgv, zgw, zgx, zgy, zgz, zha, zhb, zhc, zhd, zhe, zhf, zhg, zhh, zhi, zhj, zhk, zhl, zhm, zhn, zho, zhp, zhq, gp_opg, zhr, zhs, zht, zhu, zhv, zhw, zhx, zhy, stillD, Int.reduceToNat, zhz, zia, t0,t1,hc,hc2,c1,c2,c3,c4,x3,x4])
        exact gg.trans g4
termination_by a => SizeOf.sizeOf a
decreasing_by
  all_goals
    have := List.sizeOf_lt_of_mem ha
    simp
    omega
end Go.Proofs.YtpgcbmmifmnfpaaDoorV
