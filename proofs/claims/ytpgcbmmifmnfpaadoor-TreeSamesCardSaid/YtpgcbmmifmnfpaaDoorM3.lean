/- law 04: statements with bodies, walked. No condition. -/
import Derived.Test.YtpgcbmmifmnfpaaDoorM2
namespace Go.Proofs.YtpgcbmmifmnfpaaDoorV
open Go Go.RowKit Go.Proofs.YtpgcbmmifmnfpaaDoorA
set_option linter.unusedVariables false
set_option linter.unusedSimpArgs false
set_option maxRecDepth 100000

theorem kindN_le (d : Nat) : kindN d ≤ 16 := by
  unfold kindN
  have hlt : d % 19 < 19 := Nat.mod_lt _ (by decide)
  generalize d % 19 = m at *
  have h19 : m = 0 ∨ m = 1 ∨ m = 2 ∨ m = 3 ∨ m = 4 ∨ m = 5 ∨ m = 6 ∨ m = 7 ∨ m = 8 ∨ m = 9 ∨ m = 10 ∨ m = 11 ∨ m = 12 ∨ m = 13 ∨ m = 14 ∨ m = 15 ∨ m = 16 ∨ m = 17 ∨ m = 18 := by omega
  rcases h19 with rfl | rfl | rfl | rfl | rfl | rfl | rfl | rfl | rfl | rfl | rfl | rfl | rfl | rfl | rfl | rfl | rfl | rfl | rfl <;> decide
theorem nameP_len (x : Sml) (s : SS) (k : Nat) : (nameP x s k).2.2.1.length ≤ 1 := by
  unfold nameP
  repeat' split
  all_goals simp
theorem stmt_rw {x : Sml} {vth : AVal} (hx : x.ok) (hth : ThLen vth x.threads.length) (hv : vth.isCell = true) {s : SS} (hs : s.ok) (st : ASt) :
    ∃ r st', rw E 40 [.agg (x.cs vth), s.v] st = some (r, st') ∧ ∃ v, r = .returned (.tuple [.agg [.lit (.int .i64 ((kindN s.d : Nat) : Int)), .lit (.string ⟨(regP s (kindN s.d)).toArray⟩), .lit (.string ⟨(nameP x s (kindN s.d)).1.toArray⟩), .lit (.bool (nameP x s (kindN s.d)).2.1), v, .lit (.slice none 0 0), .lit (.slice none 0 0), .lit (.int .i64 0)], .lit (.bool (nameP x s (kindN s.d)).2.2.2)]) ∧
      RV 4 v (((nameP x s (kindN s.d)).2.2.1 ++ exprsP s (kindN s.d)).map Ex.a) ∧ v.isCell = true ∧ Gr st st' := by
  refine en_40 fun g t0 t1 => ?_
  refine stmt_A x vth hv s hs st g t0 t1 _ fun f st1 p2 p3 p4 p7 h1 => ?_
  refine stmt_B hx hs hth (kindN_le _) h1 _ fun f st2 h2 => ?_
  refine stmt_C (kindN_le _) h2 _ fun f st3 h3 => ?_
  exact stmt_D hs (kindN_le _) (nameP_len _ _ _) h3 _ fun v st4 hr hc hg => ⟨v, rfl, hr, hc, hg⟩
/-- a statement by small numbers, without bodies -/
def stP0 (x : Sml) (s : SS) (body els : List St) : St := .mk (kindN s.d) (regP s (kindN s.d)) (nameP x s (kindN s.d)).1 (nameP x s (kindN s.d)).2.1 ((nameP x s (kindN s.d)).2.2.1 ++ exprsP s (kindN s.d)) body els 0
def stOk (x : Sml) (s : SS) : Bool := (nameP x s (kindN s.d)).2.2.2
/-- statements -/
def stmtsP (x : Sml) : Nat → List SS → Nat → Nat → List St × List SS
  | 0, l, _, _ => ([], l)
  | _ + 1, [], _, _ => ([], [])
  | _ + 1, s :: l, 0, _ => ([], s :: l)
  | n + 1, s :: l, most + 1, deep =>
    if 15 ≤ kindN s.d then
      if deep = 0 then stmtsP x n l most deep
      else
        let b := stmtsP x n l (s.c % 4) (deep - 1)
        let e := if kindN s.d = 15 ∧ s.c / 4 % 2 = 1 then stmtsP x n b.2 (1 + s.c / 8 % 2) (deep - 1) else ([], b.2)
        let r := stmtsP x n e.2 most deep
        ((if stOk x s then [stP0 x s b.1 e.1] else []) ++ r.1, r.2)
    else
      let r := stmtsP x n l most deep
      ((if stOk x s then [stP0 x s [] []] else []) ++ r.1, r.2)
theorem stmtsP_len (x : Sml) : ∀ (n : Nat) (l : List SS) (most deep : Nat), (stmtsP x n l most deep).2.length ≤ l.length ∧ ∀ s ∈ (stmtsP x n l most deep).2, s ∈ l
  | 0, l, _, _ => ⟨Nat.le_refl _, fun _ h => h⟩
  | _ + 1, [], _, _ => ⟨Nat.le_refl _, fun _ h => h⟩
  | _ + 1, s :: l, 0, _ => ⟨Nat.le_refl _, fun _ h => h⟩
  | n + 1, s :: l, most + 1, deep => by
    have key : ∀ l' : List SS, l'.length ≤ l.length → (∀ s ∈ l', s ∈ l) → (stmtsP x n l' most deep).2.length ≤ (s :: l).length ∧ ∀ t ∈ (stmtsP x n l' most deep).2, t ∈ s :: l := by
      intro l' h1 h2
      have h := stmtsP_len x n l' most deep
      exact ⟨by rw [List.length_cons]; omega, fun t ht => List.mem_cons_of_mem _ (h2 t (h.2 t ht))⟩
    unfold stmtsP
    split
    · split
      · exact key l (Nat.le_refl _) (fun _ h => h)
      · have hb := stmtsP_len x n l (s.c % 4) (deep - 1)
        simp only
        split
        · have he := stmtsP_len x n (stmtsP x n l (s.c % 4) (deep - 1)).2 (1 + s.c / 8 % 2) (deep - 1)
          exact key _ (by omega) (fun t ht => hb.2 t (he.2 t ht))
        · exact key _ hb.1 hb.2
    · exact key l (Nat.le_refl _) (fun _ h => h)
mutual
/-- values that are such statements -/
inductive IsSt : AVal → St → Prop
  | mk {k : Nat} {reg name : List UInt8} {idx : Bool} {es : List Ex} {body els : List St} {pos : Nat} {ve vb vl : AVal} (he : RV 4 ve (es.map Ex.a)) (hc : ve.isCell = true) (hb : IsSts vb body) (hl : IsSts vl els) :
      IsSt (.agg [.lit (.int .i64 (k : Int)), .lit (.string ⟨reg.toArray⟩), .lit (.string ⟨name.toArray⟩), .lit (.bool idx), ve, vb, vl, .lit (.int .i64 (pos : Int))]) (.mk k reg name idx es body els pos)
inductive IsSts : AVal → List St → Prop
  | nil : IsSts (.lit (.slice none 0 0)) []
  | row {es : List AVal} {l : List St} {c : Cap} (h : IsStL es l) : IsSts (.islice 8 es c) l
inductive IsStL : List AVal → List St → Prop
  | nil : IsStL [] []
  | cons {v : AVal} {s : St} {es : List AVal} {l : List St} (h : IsSt v s) (ht : IsStL es l) : IsStL (v :: es) (s :: l)
end
theorem IsSts.cell {v : AVal} {l : List St} (h : IsSts v l) : v.isCell = true := by cases h <;> rfl
theorem IsStL.app {es ds : List AVal} {l m : List St} (h : IsStL es l) (h2 : IsStL ds m) : IsStL (es ++ ds) (l ++ m) := by
  induction es generalizing l with
  | nil => cases h; exact h2
  | cons v es ih => cases h with
    | cons h ht => exact .cons h (ih ht)
theorem IsSt.eok {v : AVal} {s : St} (h : IsSt v s) : elemOk true 8 v = true := by
  cases h with
  | mk he hc hb hl =>
    show (8 == 8 && ([_, _, _, _, _, _, _, _].all AVal.isCell) && true) = true
    simp [hc, hb.cell, hl.cell, ic_lit]
theorem IsStL.eok {es : List AVal} {l : List St} (h : IsStL es l) : es.all (elemOk true 8) = true := by
  induction es generalizing l with
  | nil => rfl
  | cons v es ih => cases h with
    | cons h ht => rw [List.all_cons, h.eok, ih ht]; rfl
theorem IsStL.len {es : List AVal} {l : List St} (h : IsStL es l) : es.length = l.length := by
  induction es generalizing l with
  | nil => cases h; rfl
  | cons v es ih => cases h with
    | cons h ht => rw [List.length_cons, List.length_cons, ih ht]
theorem AI.sts {b st : ASt} {v : AVal} {es : List AVal} {l : List St} (h : AI 8 b st v es) (hl : IsStL es l) : IsSts v l := by
  rcases h with ⟨rfl, rfl⟩ | ⟨k, rfl, _⟩
  · cases hl; exact .nil
  · exact .row hl
theorem stT : SlT E.P 39 63 true 8 := ⟨rfl, rfl, ⟨_, _, rfl, rfl, by decide, rfl, rfl⟩, by decide⟩
def putP (done : List St) (r : List St × List SS) : List St × List SS := (done ++ r.1, r.2)
/-- a row of small numbers: a law's argument -/
def RS (vl : AVal) (l : List SS) : Prop := (∃ a, vl = .lit (.slice a 0 0) ∧ l = []) ∨ ∃ c, vl = .islice 5 (l.map SS.v) c
theorem ss_ix {l : List SS} {s : SS} {vl : AVal} (h : RS vl (s :: l)) : ∃ c, vl = .islice 5 (s.v :: l.map SS.v) c := by
  rcases h with ⟨_, _, h⟩ | h
  · cases h
  · exact h
theorem ss_len {l : List SS} {vl : AVal} (h : RS vl l) (mt : Bool) (ty : TypeId) (cs : Array Bool) (st : ASt) : builtinA E.P mt .len #[53] ty cs [vl] st = some (.val (.lit (.int .i64 (l.length : Int))) st) := by
  rcases h with ⟨a, rfl, rfl⟩ | ⟨c, rfl⟩
  · exact o_lenn_53 _ _ _ _ _
  · rw [o_leni_53, List.length_map]
def StmtsC (x : Sml) (vth : AVal) (n : Nat) : Prop := ∀ (l : List SS) (vl : AVal) (most deep : Nat) (st : ASt), l.length ≤ n → (∀ s ∈ l, s.ok) → most ≤ 100 → deep ≤ 3 → RS vl l →
  ∃ r st', rw E 25 [.agg (x.cs vth), vl, .lit (.int .i64 (most : Int)), .lit (.int .i64 (deep : Int))] st = some (r, st') ∧ ∃ v vl', r = .returned (.tuple [v, vl']) ∧ IsSts v (stmtsP x n l most deep).1 ∧ RS vl' (stmtsP x n l most deep).2 ∧ Gr st st'
set_option maxHeartbeats 8000000 in
theorem stmts_step {x : Sml} {vth : AVal} (hx : x.ok) (hth : ThLen vth x.threads.length) (hv : vth.isCell = true) (n : Nat) (hn : n ≤ 20) (ih : ∀ m, m < n → StmtsC x vth m) : StmtsC x vth n := by
  intro l vl most deep st hl hok hmost hdeep hrv
  obtain ⟨res, hres⟩ : ∃ res, res = stmtsP x n l most deep := ⟨_, rfl⟩
  rw [← hres]
  refine en_25 fun g t0 t1 t2 t3 => ?_
  unfold Sml.cs at t0
  repeat' (first | (first | apply ifk_og | apply ifk_gg | apply ifk_go | apply ifk_ss) <;> intro hc | simp (maxSteps := 5000000) (disch := first | assumption | omega | (simp only [ASt.set_ctr, ASt.new_ctr] <;> omega)) only [r25_0.down, r25_1.down, r25_2.down, n25_4, n25_3, r25_3.down, r25_4.down, r25_5.down, r25_6.down, r25_7.down, n25_14, n25_13, r25_8.down, r25_9.down, r25_10.down, n25_18, n25_17, n25_16, n25_15, n25_12, n25_11, n25_10, r25_11.down, r25_12.down, n25_21, n25_20, n25_19, n25_9, n25_8, n25_7, n25_6, n25_5, l25_0, r25_13.down, n25_22, n25_2, n25_1, n25_0, rq_25, o_leni_53, o_lens_53, o_lenn_53, o_ixi_53, o_ixs_53, o_ldp_81, o_ldi_81, o_al_81, o_st_81, o_sl_53_lh, o_sl_53_l, o_sl_53_h, o_ldp_33, o_ldi_33, cf_40, o_al_63, o_st_63, o_fap_63_0, o_fai_63_0, o_ldp_26, o_ldi_26, o_fap_81_3, o_fai_81_3, o_ldp_5, o_ldi_5, o_cv_5_3, cf_25, o_fap_63_5, o_fai_63_5, o_st_39, o_fap_63_6, o_fai_63_6, o_ldp_63, o_ldi_63, hint_25_80, o_bs_39_1, hint_25_81, bi_app, AVal.undef, zaa, zab, aeval, aput, ahint, absOf, flat, nilCheckA, ANext.ofP, evals, evalPs, evalO, zac, zad, zae, zaf, ↓reduceIte, Nat.reduceLT, Nat.reduceEqDiff, reduceCtorEq, zag, zah, zai, zaj, zak, Nat.reduceAdd, Nat.reduceLeDiff, callA, zal, zam, zan, zao, zap, zaq, zar, zas, zat, zau, evalV, yieldB, zav, zaw, zax, zay, zaz, zba, zbb, zbc, zbd, zbe, zbf, zbg, zbh, zbi, zbj, zbk, zbl, zbm, zbn, zbo, zbp, zbq, zbr, extractA, zbs, zbt, zbu, zbv, zbw, zbx, zby, zbz, zca, zcb, zcc, zcd, zce, zcf, zcg, zch, zci, zcj, zck, zcl, zcm, zcn, zco, zcp, zcq, zcr, zcs, zct, zcu, zcv, zcw, zcx, zcy, zcz, zda, zdb, zdc, zdd, zde, zdf, zdg, zdh, zdi, zdj, boxA, newA, zdk, zdl, zdm, zdn, zdo, zdp, zdq, zdr, zds, zdt, zdu, zdv, zdw, fillA, putL, setsE, zdx, zdy, zdz, zea, zeb, zec, zed, zee, zef, zeg, zeh, zei, zej, Nat.reduceBEq, Nat.reduceBNe, zek, zel, zem, zen, Nat.reduceMul, zeo, zep, zeq, zer, zes, zet, zeu, zev, zew, zex, zey, zez, zfa, zfb, zfc, zfd, zfe, zff, zfg, zfh, zfi, zfj, zfk, zfl, zfm, zfn, zfo, zfp, zfq, zfr, zfs, zft, zfu, zfv, zfw, zfx, zfy, zfz, zga, zgb, zgc, zgd, zge, zgf, zgg, zgh, zgi, zgj, ne_eq, zgk, zgl, zgm, zgn, zgo, gt_iff_lt, ge_iff_le, zgp, zgq, zgr, zgs, zgt, zgu, zgv, zgw, zgx, zgy, zgz, zha, zhb, zhc, zhd, zhe, zhf, zhg, zhh, zhi, zhj, zhk, zhl, zhm, zhn, zho, zhp, zhq, gp_opg, zhr, zhs, zht, zhu, zhv, zhw, zhx, zhy, stillD, Int.reduceToNat, zhz, zia, t0,t1,t2,t3,hv])
  refine g_loop (fun i f st' => ∃ l' vl' most' es done, i ≤ n ∧ l'.length ≤ i ∧ (∀ s ∈ l', s.ok) ∧ most' ≤ 100 ∧ RS vl' l' ∧ f 1 = vl' ∧ f 2 = .lit (.int .i64 ((most' : Nat) : Int)) ∧ f 3 = .lit (.int .i64 (deep : Int)) ∧ f 4 = .ptr st.ctr 0 ∧ AI 8 st st' (f 10) es ∧ IsStL es done ∧ done.length + i ≤ n ∧ st'.heap st.ctr = some (.cells (x.cs vth)) ∧ st.ctr < st'.ctr ∧ Gr st st' ∧ putP done (stmtsP x i l' most' deep) = res)
    (fun i f st' hI => ?_) n _ _ ⟨l, vl, most, [], [], Nat.le_refl _, hl, hok, hmost, hrv, t1, t2, t3, rfl, .inl ⟨rfl, rfl⟩, .nil, by simp, by (simp (disch := omega) only [heap_set_if, heap_new_if, ASt.set_ctr, ASt.new_ctr, ite_t, ite_f, if_true, eq_self]); rfl, by simp, (Gr.refl _).new' _, by rw [hres]; rfl⟩
  clear t0 t1 t2 t3 hrv hmost hok hl
  obtain ⟨l', vl', most', es, done, hin, hl', hok, hmost, hrv, q1, q2, q3, q4, hA, hes, hdn, h4, hc, hg, hr⟩ := hI
  have LV := fun mt ty cs st => ss_len hrv mt ty cs st
  have h4' := h4
  unfold Sml.cs at h4'
  by_cases hex : l' = [] ∨ most' = 0
  · have hr' : putP done ([], l') = res := by
      rw [← hr]
      congr 1
      match i, l', most', hex with
      | 0, _, _, _ => rfl
      | _ + 1, [], _, _ => rfl
      | _ + 1, _ :: _, 0, _ => rfl
      | _ + 1, _ :: _, _ + 1, h => rcases h with h | h <;> cases h
    have hres1 : res = (done, l') := by rw [← hr']; simp [putP]
    have hex2 : ¬ (0 < l'.length) ∨ ¬ (0 < most') := by
      rcases hex with h | h
      · exact .inl (by rw [h]; simp)
      · exact .inr (by omega)
    clear hex hr hr' ih
    rcases hex2 with hex | hex
    all_goals repeat' (first | (first | apply ifk_og | apply ifk_gg | apply ifk_go | apply ifk_ss) <;> intro hc | simp (maxSteps := 5000000) (disch := first | assumption | omega | (simp only [ASt.set_ctr, ASt.new_ctr] <;> omega)) only [r25_0.down, r25_1.down, r25_2.down, n25_4, n25_3, r25_3.down, r25_4.down, r25_5.down, r25_6.down, r25_7.down, n25_14, n25_13, r25_8.down, r25_9.down, r25_10.down, n25_18, n25_17, n25_16, n25_15, n25_12, n25_11, n25_10, r25_11.down, r25_12.down, n25_21, n25_20, n25_19, n25_9, n25_8, n25_7, n25_6, n25_5, l25_0, r25_13.down, n25_22, n25_2, n25_1, n25_0, rq_25, o_leni_53, o_lens_53, o_lenn_53, o_ixi_53, o_ixs_53, o_ldp_81, o_ldi_81, o_al_81, o_st_81, o_sl_53_lh, o_sl_53_l, o_sl_53_h, o_ldp_33, o_ldi_33, cf_40, o_al_63, o_st_63, o_fap_63_0, o_fai_63_0, o_ldp_26, o_ldi_26, o_fap_81_3, o_fai_81_3, o_ldp_5, o_ldi_5, o_cv_5_3, cf_25, o_fap_63_5, o_fai_63_5, o_st_39, o_fap_63_6, o_fai_63_6, o_ldp_63, o_ldi_63, hint_25_80, o_bs_39_1, hint_25_81, bi_app, AVal.undef, zaa, zab, aeval, aput, ahint, absOf, flat, nilCheckA, ANext.ofP, evals, evalPs, evalO, zac, zad, zae, zaf, ↓reduceIte, Nat.reduceLT, Nat.reduceEqDiff, reduceCtorEq, zag, zah, zai, zaj, zak, Nat.reduceAdd, Nat.reduceLeDiff, callA, zal, zam, zan, zao, zap, zaq, zar, zas, zat, zau, evalV, yieldB, zav, zaw, zax, zay, zaz, zba, zbb, zbc, zbd, zbe, zbf, zbg, zbh, zbi, zbj, zbk, zbl, zbm, zbn, zbo, zbp, zbq, zbr, extractA, zbs, zbt, zbu, zbv, zbw, zbx, zby, zbz, zca, zcb, zcc, zcd, zce, zcf, zcg, zch, zci, zcj, zck, zcl, zcm, zcn, zco, zcp, zcq, zcr, zcs, zct, zcu, zcv, zcw, zcx, zcy, zcz, zda, zdb, zdc, zdd, zde, zdf, zdg, zdh, zdi, zdj, boxA, newA, zdk, zdl, zdm, zdn, zdo, zdp, zdq, zdr, zds, zdt, zdu, zdv, zdw, fillA, putL, setsE, zdx, zdy, zdz, zea, zeb, zec, zed, zee, zef, zeg, zeh, zei, zej, Nat.reduceBEq, Nat.reduceBNe, zek, zel, zem, zen, Nat.reduceMul, zeo, zep, zeq, zer, zes, zet, zeu, zev, zew, zex, zey, zez, zfa, zfb, zfc, zfd, zfe, zff, zfg, zfh, zfi, zfj, zfk, zfl, zfm, zfn, zfo, zfp, zfq, zfr, zfs, zft, zfu, zfv, zfw, zfx, zfy, zfz, zga, zgb, zgc, zgd, zge, zgf, zgg, zgh, zgi, zgj, ne_eq, zgk, zgl, zgm, zgn, zgo, gt_iff_lt, ge_iff_le, zgp, zgq, zgr, zgs, zgt, zgu, zgv, zgw, zgx, zgy, zgz, zha, zhb, zhc, zhd, zhe, zhf, zhg, zhh, zhi, zhj, zhk, zhl, zhm, zhn, zho, zhp, zhq, gp_opg, zhr, zhs, zht, zhu, zhv, zhw, zhx, zhy, stillD, Int.reduceToNat, zhz, zia, q1,q2,q3,q4,LV])
    all_goals try (exfalso; omega)
    all_goals
      rw [hres1]
      exact ⟨_, _, rfl, hA.sts hes, hrv, hg⟩
  match i, l', most', hex, hl', hdn, hr, hrv, hok, LV with
  | _, [], _, hex, _, _, _, _, _, _ => exact absurd (.inl rfl) hex
  | _, _ :: _, 0, hex, _, _, _, _, _, _ => exact absurd (.inr rfl) hex
  | 0, _ :: _, _, _, hl', _, _, _, _, _ => exact absurd hl' (by simp)
  | i + 1, s :: l', most' + 1, _, hl', hdn, hr, hrv, hok, LV =>
    rw [List.length_cons] at hl'
    have hs := hok s (List.mem_cons_self ..)
    have hok' : ∀ t ∈ l', t.ok := fun t ht => hok t (List.mem_cons_of_mem _ ht)
    obtain ⟨c, rfl⟩ := ss_ix hrv
    have hsv : s.v = .agg [.lit (.int .u8 (s.d : Int)), .lit (.int .u8 (s.a : Int)), .lit (.int .u8 (s.b : Int)), .lit (.int .u8 (s.c : Int)), .lit (.int .i8 s.n)] := rfl
    have hm1 : ((most' + 1 : Nat) : Int) - 1 = (most' : Int) := by omega
    obtain ⟨cc, hsl⟩ : ∃ cc, sliceA E.P 53 (.islice 5 (s.v :: l'.map SS.v) c) (some (.lit (.int .i64 1))) none none = some (.islice 5 (l'.map SS.v) cc) := ⟨_, o_sl_53_l (by decide) (by simp; omega)⟩
    have hvl2 : RS (.islice 5 (l'.map SS.v) cc) l' := .inr ⟨_, rfl⟩
    rw [hsv] at q1 hsl LV
    -- the end of a round
    have tail : ∀ (f : Nat → AVal) (st2 : ASt) (l2 : List SS) (vl2 : AVal) (body els : List St) (p12 : Nat) (ve vb vl : AVal), l2.length ≤ i → (∀ t ∈ l2, t.ok) → RS vl2 l2 → f 1 = vl2 → f 2 = .lit (.int .i64 (most' : Int)) → f 3 = .lit (.int .i64 (deep : Int)) → f 4 = .ptr st.ctr 0 → AI 8 st st2 (f 10) es →
        f 12 = .ptr p12 0 → f 13 = .lit (.bool (stOk x s)) → p12 < st2.ctr → st2.heap p12 = some (.cells [.lit (.int .i64 ((kindN s.d : Nat) : Int)), .lit (.string ⟨(regP s (kindN s.d)).toArray⟩), .lit (.string ⟨(nameP x s (kindN s.d)).1.toArray⟩), .lit (.bool (nameP x s (kindN s.d)).2.1), ve, vb, vl, .lit (.int .i64 0)]) →
        RV 4 ve (((nameP x s (kindN s.d)).2.2.1 ++ exprsP s (kindN s.d)).map Ex.a) → ve.isCell = true → IsSts vb body → IsSts vl els → st2.heap st.ctr = some (.cells (x.cs vth)) → st.ctr < st2.ctr → Gr st st2 →
        putP (done ++ (if stOk x s then [stP0 x s body els] else [])) (stmtsP x i l2 most' deep) = res →
        Gc E 25 N25_19 [.blk 1] (LQ E 25 84 (i + 1) (fun i f st' => ∃ l' vl' most' es done, i ≤ n ∧ l'.length ≤ i ∧ (∀ s ∈ l', s.ok) ∧ most' ≤ 100 ∧ RS vl' l' ∧ f 1 = vl' ∧ f 2 = .lit (.int .i64 ((most' : Nat) : Int)) ∧ f 3 = .lit (.int .i64 (deep : Int)) ∧ f 4 = .ptr st.ctr 0 ∧ AI 8 st st' (f 10) es ∧ IsStL es done ∧ done.length + i ≤ n ∧ st'.heap st.ctr = some (.cells (x.cs vth)) ∧ st.ctr < st'.ctr ∧ Gr st st' ∧ putP done (stmtsP x i l' most' deep) = res)
          [.blk 0, .code N25_22] (RQ E Tryd.f25 fun r st' => ∃ v vl', r = .returned (.tuple [v, vl']) ∧ IsSts v res.1 ∧ RS vl' res.2 ∧ Gr st st')) (Sl 84 f) st2 := by
      intro f st2 l2 vl2 body els p12 ve vb vl b1 b2 b3 b4 b5 b6 b7 b8 b9 b10 b11 b12 b13 b14 b15 b16 b17 b18 b19 b20
      have hst : IsSt (.agg [.lit (.int .i64 ((kindN s.d : Nat) : Int)), .lit (.string ⟨(regP s (kindN s.d)).toArray⟩), .lit (.string ⟨(nameP x s (kindN s.d)).1.toArray⟩), .lit (.bool (nameP x s (kindN s.d)).2.1), ve, vb, vl, .lit (.int .i64 0)]) (stP0 x s body els) := .mk (pos := 0) b13 b14 b15 b16
      have heo := hst.eok
      cases hko : stOk x s with
      | true =>
        rw [hko] at b10 b20
        obtain ⟨v', s3, ha, hA2, hg2, hk2⟩ := ai_app3 stT b8 b19 hes.eok (src_islice stT (c := .exact) (ns := [_]) (by rw [List.all_cons, heo]; rfl)) (by simp) (by rw [hes.len]; simp; omega)
        have hh := hk2.at b17 b18
        clear ih hr
        repeat' (first | (first | apply ifk_og | apply ifk_gg | apply ifk_go | apply ifk_ss) <;> intro hc | simp (maxSteps := 5000000) (disch := first | assumption | omega | (simp only [ASt.set_ctr, ASt.new_ctr] <;> omega)) only [r25_0.down, r25_1.down, r25_2.down, n25_4, n25_3, r25_3.down, r25_4.down, r25_5.down, r25_6.down, r25_7.down, n25_14, n25_13, r25_8.down, r25_9.down, r25_10.down, n25_18, n25_17, n25_16, n25_15, n25_12, n25_11, n25_10, r25_11.down, r25_12.down, n25_21, n25_20, n25_19, n25_9, n25_8, n25_7, n25_6, n25_5, l25_0, r25_13.down, n25_22, n25_2, n25_1, n25_0, rq_25, o_leni_53, o_lens_53, o_lenn_53, o_ixi_53, o_ixs_53, o_ldp_81, o_ldi_81, o_al_81, o_st_81, o_sl_53_lh, o_sl_53_l, o_sl_53_h, o_ldp_33, o_ldi_33, cf_40, o_al_63, o_st_63, o_fap_63_0, o_fai_63_0, o_ldp_26, o_ldi_26, o_fap_81_3, o_fai_81_3, o_ldp_5, o_ldi_5, o_cv_5_3, cf_25, o_fap_63_5, o_fai_63_5, o_st_39, o_fap_63_6, o_fai_63_6, o_ldp_63, o_ldi_63, hint_25_80, o_bs_39_1, hint_25_81, bi_app, AVal.undef, zaa, zab, aeval, aput, ahint, absOf, flat, nilCheckA, ANext.ofP, evals, evalPs, evalO, zac, zad, zae, zaf, ↓reduceIte, Nat.reduceLT, Nat.reduceEqDiff, reduceCtorEq, zag, zah, zai, zaj, zak, Nat.reduceAdd, Nat.reduceLeDiff, callA, zal, zam, zan, zao, zap, zaq, zar, zas, zat, zau, evalV, yieldB, zav, zaw, zax, zay, zaz, zba, zbb, zbc, zbd, zbe, zbf, zbg, zbh, zbi, zbj, zbk, zbl, zbm, zbn, zbo, zbp, zbq, zbr, extractA, zbs, zbt, zbu, zbv, zbw, zbx, zby, zbz, zca, zcb, zcc, zcd, zce, zcf, zcg, zch, zci, zcj, zck, zcl, zcm, zcn, zco, zcp, zcq, zcr, zcs, zct, zcu, zcv, zcw, zcx, zcy, zcz, zda, zdb, zdc, zdd, zde, zdf, zdg, zdh, zdi, zdj, boxA, newA, zdk, zdl, zdm, zdn, zdo, zdp, zdq, zdr, zds, zdt, zdu, zdv, zdw, fillA, putL, setsE, zdx, zdy, zdz, zea, zeb, zec, zed, zee, zef, zeg, zeh, zei, zej, Nat.reduceBEq, Nat.reduceBNe, zek, zel, zem, zen, Nat.reduceMul, zeo, zep, zeq, zer, zes, zet, zeu, zev, zew, zex, zey, zez, zfa, zfb, zfc, zfd, zfe, zff, zfg, zfh, zfi, zfj, zfk, zfl, zfm, zfn, zfo, zfp, zfq, zfr, zfs, zft, zfu, zfv, zfw, zfx, zfy, zfz, zga, zgb, zgc, zgd, zge, zgf, zgg, zgh, zgi, zgj, ne_eq, zgk, zgl, zgm, zgn, zgo, gt_iff_lt, ge_iff_le, zgp, zgq, zgr, zgs, zgt, zgu, zgv, zgw, zgx, zgy, zgz, zha, zhb, zhc, zhd, zhe, zhf, zhg, zhh, zhi, zhj, zhk, zhl, zhm, zhn, zho, zhp, zhq, gp_opg, zhr, zhs, zht, zhu, zhv, zhw, zhx, zhy, stillD, Int.reduceToNat, zhz, zia, b4,b5,b6,b7,b9,b10,b12,ha,heo])
        refine lq_n (j := i) (by omega) ?_
        exact ⟨l2, vl2, most', _, _, by omega, b1, b2, by omega, b3, b4, b5, b6, b7, hA2, hes.app (.cons hst .nil), by simp; omega, hh, Nat.lt_of_lt_of_le b18 hk2.1, hg2, b20⟩
      | false =>
        rw [hko] at b10 b20
        clear ih hr
        repeat' (first | (first | apply ifk_og | apply ifk_gg | apply ifk_go | apply ifk_ss) <;> intro hc | simp (maxSteps := 5000000) (disch := first | assumption | omega | (simp only [ASt.set_ctr, ASt.new_ctr] <;> omega)) only [r25_0.down, r25_1.down, r25_2.down, n25_4, n25_3, r25_3.down, r25_4.down, r25_5.down, r25_6.down, r25_7.down, n25_14, n25_13, r25_8.down, r25_9.down, r25_10.down, n25_18, n25_17, n25_16, n25_15, n25_12, n25_11, n25_10, r25_11.down, r25_12.down, n25_21, n25_20, n25_19, n25_9, n25_8, n25_7, n25_6, n25_5, l25_0, r25_13.down, n25_22, n25_2, n25_1, n25_0, rq_25, o_leni_53, o_lens_53, o_lenn_53, o_ixi_53, o_ixs_53, o_ldp_81, o_ldi_81, o_al_81, o_st_81, o_sl_53_lh, o_sl_53_l, o_sl_53_h, o_ldp_33, o_ldi_33, cf_40, o_al_63, o_st_63, o_fap_63_0, o_fai_63_0, o_ldp_26, o_ldi_26, o_fap_81_3, o_fai_81_3, o_ldp_5, o_ldi_5, o_cv_5_3, cf_25, o_fap_63_5, o_fai_63_5, o_st_39, o_fap_63_6, o_fai_63_6, o_ldp_63, o_ldi_63, hint_25_80, o_bs_39_1, hint_25_81, bi_app, AVal.undef, zaa, zab, aeval, aput, ahint, absOf, flat, nilCheckA, ANext.ofP, evals, evalPs, evalO, zac, zad, zae, zaf, ↓reduceIte, Nat.reduceLT, Nat.reduceEqDiff, reduceCtorEq, zag, zah, zai, zaj, zak, Nat.reduceAdd, Nat.reduceLeDiff, callA, zal, zam, zan, zao, zap, zaq, zar, zas, zat, zau, evalV, yieldB, zav, zaw, zax, zay, zaz, zba, zbb, zbc, zbd, zbe, zbf, zbg, zbh, zbi, zbj, zbk, zbl, zbm, zbn, zbo, zbp, zbq, zbr, extractA, zbs, zbt, zbu, zbv, zbw, zbx, zby, zbz, zca, zcb, zcc, zcd, zce, zcf, zcg, zch, zci, zcj, zck, zcl, zcm, zcn, zco, zcp, zcq, zcr, zcs, zct, zcu, zcv, zcw, zcx, zcy, zcz, zda, zdb, zdc, zdd, zde, zdf, zdg, zdh, zdi, zdj, boxA, newA, zdk, zdl, zdm, zdn, zdo, zdp, zdq, zdr, zds, zdt, zdu, zdv, zdw, fillA, putL, setsE, zdx, zdy, zdz, zea, zeb, zec, zed, zee, zef, zeg, zeh, zei, zej, Nat.reduceBEq, Nat.reduceBNe, zek, zel, zem, zen, Nat.reduceMul, zeo, zep, zeq, zer, zes, zet, zeu, zev, zew, zex, zey, zez, zfa, zfb, zfc, zfd, zfe, zff, zfg, zfh, zfi, zfj, zfk, zfl, zfm, zfn, zfo, zfp, zfq, zfr, zfs, zft, zfu, zfv, zfw, zfx, zfy, zfz, zga, zgb, zgc, zgd, zge, zgf, zgg, zgh, zgi, zgj, ne_eq, zgk, zgl, zgm, zgn, zgo, gt_iff_lt, ge_iff_le, zgp, zgq, zgr, zgs, zgt, zgu, zgv, zgw, zgx, zgy, zgz, zha, zhb, zhc, zhd, zhe, zhf, zhg, zhh, zhi, zhj, zhk, zhl, zhm, zhn, zho, zhp, zhq, gp_opg, zhr, zhs, zht, zhu, zhv, zhw, zhx, zhy, stillD, Int.reduceToNat, zhz, zia, b4,b5,b6,b7,b9,b10,b12,heo])
        refine lq_n (j := i) (by omega) ?_
        exact ⟨l2, vl2, most', es, done, by omega, b1, b2, by omega, b3, b4, b5, b6, b7, b8, hes, by omega, b17, b18, b19, by simpa using b20⟩
    repeat' (first | (first | apply ifk_og | apply ifk_gg | apply ifk_go | apply ifk_ss) <;> intro hc | simp (maxSteps := 5000000) (disch := first | assumption | omega | (simp only [ASt.set_ctr, ASt.new_ctr] <;> omega)) only [r25_0.down, r25_1.down, r25_2.down, n25_4, n25_3, r25_3.down, r25_4.down, r25_5.down, r25_6.down, r25_7.down, n25_14, n25_13, r25_8.down, r25_9.down, r25_10.down, n25_18, n25_17, n25_16, n25_15, n25_12, n25_11, r25_11.down, r25_12.down, n25_21, n25_20, n25_19, n25_9, n25_8, n25_7, n25_6, n25_5, l25_0, r25_13.down, n25_22, n25_2, n25_1, n25_0, rq_25, o_leni_53, o_lens_53, o_lenn_53, o_ixi_53, o_ixs_53, o_ldp_81, o_ldi_81, o_al_81, o_st_81, o_sl_53_lh, o_sl_53_l, o_sl_53_h, o_ldp_33, o_ldi_33, cf_40, o_al_63, o_st_63, o_fap_63_0, o_fai_63_0, o_ldp_26, o_ldi_26, o_fap_81_3, o_fai_81_3, o_ldp_5, o_ldi_5, o_cv_5_3, cf_25, o_fap_63_5, o_fai_63_5, o_st_39, o_fap_63_6, o_fai_63_6, o_ldp_63, o_ldi_63, hint_25_80, o_bs_39_1, hint_25_81, bi_app, AVal.undef, zaa, zab, aeval, aput, ahint, absOf, flat, nilCheckA, ANext.ofP, evals, evalPs, evalO, zac, zad, zae, zaf, ↓reduceIte, Nat.reduceLT, Nat.reduceEqDiff, reduceCtorEq, zag, zah, zai, zaj, zak, Nat.reduceAdd, Nat.reduceLeDiff, callA, zal, zam, zan, zao, zap, zaq, zar, zas, zat, zau, evalV, yieldB, zav, zaw, zax, zay, zaz, zba, zbb, zbc, zbd, zbe, zbf, zbg, zbh, zbi, zbj, zbk, zbl, zbm, zbn, zbo, zbp, zbq, zbr, extractA, zbs, zbt, zbu, zbv, zbw, zbx, zby, zbz, zca, zcb, zcc, zcd, zce, zcf, zcg, zch, zci, zcj, zck, zcl, zcm, zcn, zco, zcp, zcq, zcr, zcs, zct, zcu, zcv, zcw, zcx, zcy, zcz, zda, zdb, zdc, zdd, zde, zdf, zdg, zdh, zdi, zdj, boxA, newA, zdk, zdl, zdm, zdn, zdo, zdp, zdq, zdr, zds, zdt, zdu, zdv, zdw, fillA, putL, setsE, zdx, zdy, zdz, zea, zeb, zec, zed, zee, zef, zeg, zeh, zei, zej, Nat.reduceBEq, Nat.reduceBNe, zek, zel, zem, zen, Nat.reduceMul, zeo, zep, zeq, zer, zes, zet, zeu, zev, zew, zex, zey, zez, zfa, zfb, zfc, zfd, zfe, zff, zfg, zfh, zfi, zfj, zfk, zfl, zfm, zfn, zfo, zfp, zfq, zfr, zfs, zft, zfu, zfv, zfw, zfx, zfy, zfz, zga, zgb, zgc, zgd, zge, zgf, zgg, zgh, zgi, zgj, ne_eq, zgk, zgl, zgm, zgn, zgo, gt_iff_lt, ge_iff_le, zgp, zgq, zgr, zgs, zgt, zgu, zgv, zgw, zgx, zgy, zgz, zha, zhb, zhc, zhd, zhe, zhf, zhg, zhh, zhi, zhj, zhk, zhl, zhm, zhn, zho, zhp, zhq, gp_opg, zhr, zhs, zht, zhu, zhv, zhw, zhx, zhy, stillD, Int.reduceToNat, zhz, zia, q1,q2,q3,q4,LV,h4',hm1,hv,hsl])
    refine sc_ex (stmt_rw hx hth hv hs _) fun r s1 h1 => ?_
    obtain ⟨ve, rfl, hve, hvec, g1⟩ := h1
    have e4 : s1.heap st.ctr = some (.cells (x.cs vth)) := g1.at (by (simp (disch := omega) only [heap_set_if, heap_new_if, ASt.set_ctr, ASt.new_ctr, ite_t, ite_f, if_true, eq_self]); exact h4) (by simp; omega)
    have e11 : s1.heap st'.ctr = some (.cells [.lit (.int .u8 (s.d : Int)), .lit (.int .u8 (s.a : Int)), .lit (.int .u8 (s.b : Int)), .lit (.int .u8 (s.c : Int)), .lit (.int .i8 s.n)]) := g1.at (by (simp (disch := omega) only [heap_set_if, heap_new_if, ASt.set_ctr, ASt.new_ctr, ite_t, ite_f, if_true, eq_self])) (by simp)
    have hc1 := g1.1
    simp only [ASt.set_ctr, ASt.new_ctr] at hc1
    have gr1 : Gr st' s1 := (((Gr.refl st').new' _).set' (by omega)).trans g1
    have A1 := hA.gr gr1
    have G1 := hg.trans gr1
    have kk := kindN_le s.d
    have ob : stOk x s = (nameP x s (kindN s.d)).2.2.2 := rfl
    have hr4 : (s.c : Int).tmod 4 = ((s.c % 4 : Nat) : Int) := tmod_n s.c 4
    have hq4 : (s.c : Int).tdiv 4 = ((s.c / 4 : Nat) : Int) := tdiv_n s.c 4
    have hq8 : (s.c : Int).tdiv 8 = ((s.c / 8 : Nat) : Int) := tdiv_n s.c 8
    have hr2 : ((s.c / 4 : Nat) : Int).tmod 2 = ((s.c / 4 % 2 : Nat) : Int) := tmod_n _ 2
    have hr82 : ((s.c / 8 : Nat) : Int).tmod 2 = ((s.c / 8 % 2 : Nat) : Int) := tmod_n _ 2
    have hsc := hs.c
    have hd1 : 0 < deep → (deep : Int) - 1 = ((deep - 1 : Nat) : Int) := fun h => by omega
    rw [← ob]
    have e4' := e4
    unfold Sml.cs at e4'
    unfold stmtsP at hr
    by_cases h15 : 15 ≤ kindN s.d
    · rw [if_pos h15] at hr
      by_cases h0 : deep = 0
      · rw [if_pos h0] at hr
        clear g1 gr1 ih
        subst h0
        repeat' (first | (first | apply ifk_og | apply ifk_gg | apply ifk_go | apply ifk_ss) <;> intro hc | simp (maxSteps := 5000000) (disch := first | assumption | omega | (simp only [ASt.set_ctr, ASt.new_ctr] <;> omega)) only [r25_0.down, r25_1.down, r25_2.down, n25_4, n25_3, r25_3.down, r25_4.down, r25_5.down, r25_6.down, r25_7.down, n25_14, n25_13, r25_8.down, r25_9.down, r25_10.down, n25_18, n25_17, n25_16, n25_15, n25_12, n25_11, n25_10, r25_11.down, r25_12.down, n25_21, n25_20, n25_9, n25_8, n25_7, n25_6, n25_5, l25_0, r25_13.down, n25_22, n25_2, n25_1, n25_0, rq_25, o_leni_53, o_lens_53, o_lenn_53, o_ixi_53, o_ixs_53, o_ldp_81, o_ldi_81, o_al_81, o_st_81, o_sl_53_lh, o_sl_53_l, o_sl_53_h, o_ldp_33, o_ldi_33, cf_40, o_al_63, o_st_63, o_fap_63_0, o_fai_63_0, o_ldp_26, o_ldi_26, o_fap_81_3, o_fai_81_3, o_ldp_5, o_ldi_5, o_cv_5_3, cf_25, o_fap_63_5, o_fai_63_5, o_st_39, o_fap_63_6, o_fai_63_6, o_ldp_63, o_ldi_63, hint_25_80, o_bs_39_1, hint_25_81, bi_app, AVal.undef, zaa, zab, aeval, aput, ahint, absOf, flat, nilCheckA, ANext.ofP, evals, evalPs, evalO, zac, zad, zae, zaf, ↓reduceIte, Nat.reduceLT, Nat.reduceEqDiff, reduceCtorEq, zag, zah, zai, zaj, zak, Nat.reduceAdd, Nat.reduceLeDiff, callA, zal, zam, zan, zao, zap, zaq, zar, zas, zat, zau, evalV, yieldB, zav, zaw, zax, zay, zaz, zba, zbb, zbc, zbd, zbe, zbf, zbg, zbh, zbi, zbj, zbk, zbl, zbm, zbn, zbo, zbp, zbq, zbr, extractA, zbs, zbt, zbu, zbv, zbw, zbx, zby, zbz, zca, zcb, zcc, zcd, zce, zcf, zcg, zch, zci, zcj, zck, zcl, zcm, zcn, zco, zcp, zcq, zcr, zcs, zct, zcu, zcv, zcw, zcx, zcy, zcz, zda, zdb, zdc, zdd, zde, zdf, zdg, zdh, zdi, zdj, boxA, newA, zdk, zdl, zdm, zdn, zdo, zdp, zdq, zdr, zds, zdt, zdu, zdv, zdw, fillA, putL, setsE, zdx, zdy, zdz, zea, zeb, zec, zed, zee, zef, zeg, zeh, zei, zej, Nat.reduceBEq, Nat.reduceBNe, zek, zel, zem, zen, Nat.reduceMul, zeo, zep, zeq, zer, zes, zet, zeu, zev, zew, zex, zey, zez, zfa, zfb, zfc, zfd, zfe, zff, zfg, zfh, zfi, zfj, zfk, zfl, zfm, zfn, zfo, zfp, zfq, zfr, zfs, zft, zfu, zfv, zfw, zfx, zfy, zfz, zga, zgb, zgc, zgd, zge, zgf, zgg, zgh, zgi, zgj, ne_eq, zgk, zgl, zgm, zgn, zgo, gt_iff_lt, ge_iff_le, zgp, zgq, zgr, zgs, zgt, zgu, zgv, zgw, zgx, zgy, zgz, zha, zhb, zhc, zhd, zhe, zhf, zhg, zhh, zhi, zhj, zhk, zhl, zhm, zhn, zho, zhp, zhq, gp_opg, zhr, zhs, zht, zhu, zhv, zhw, zhx, zhy, stillD, Int.reduceToNat, zhz, zia, q1,q2,q3,q4,hvec,e4',e11])
        refine lq_n (j := i) (by omega) ?_
        refine ⟨l', _, most', es, done, by omega, by omega, hok', by omega, hvl2, rfl, rfl, q3, q4, A1.gr ((Gr.refl s1).new' _ |>.set' (Nat.le_refl _)), hes, by omega, ?_, ?_, (G1.new' _).set' (by omega), hr⟩
        · (simp (disch := omega) only [heap_set_if, heap_new_if, ASt.set_ctr, ASt.new_ctr, ite_t, ite_f, if_true, eq_self]); exact e4
        · simp; omega
      · rw [if_neg h0] at hr
        simp only at hr
        have hd1 := hd1 (by omega)
        -- the first body
        repeat' (first | (first | apply ifk_og | apply ifk_gg | apply ifk_go | apply ifk_ss) <;> intro hc | simp (maxSteps := 5000000) (disch := first | assumption | omega | (simp only [ASt.set_ctr, ASt.new_ctr] <;> omega)) only [r25_0.down, r25_1.down, r25_2.down, n25_4, n25_3, r25_3.down, r25_4.down, r25_5.down, r25_6.down, r25_7.down, n25_14, n25_13, r25_8.down, r25_9.down, r25_10.down, n25_18, n25_17, n25_16, n25_15, n25_12, n25_11, n25_10, r25_11.down, r25_12.down, n25_21, n25_20, n25_9, n25_8, n25_7, n25_6, n25_5, l25_0, r25_13.down, n25_22, n25_2, n25_1, n25_0, rq_25, o_leni_53, o_lens_53, o_lenn_53, o_ixi_53, o_ixs_53, o_ldp_81, o_ldi_81, o_al_81, o_st_81, o_sl_53_lh, o_sl_53_l, o_sl_53_h, o_ldp_33, o_ldi_33, cf_40, o_al_63, o_st_63, o_fap_63_0, o_fai_63_0, o_ldp_26, o_ldi_26, o_fap_81_3, o_fai_81_3, o_ldp_5, o_ldi_5, o_cv_5_3, cf_25, o_fap_63_5, o_fai_63_5, o_st_39, o_fap_63_6, o_fai_63_6, o_ldp_63, o_ldi_63, hint_25_80, o_bs_39_1, hint_25_81, bi_app, AVal.undef, zaa, zab, aeval, aput, ahint, absOf, flat, nilCheckA, ANext.ofP, evals, evalPs, evalO, zac, zad, zae, zaf, ↓reduceIte, Nat.reduceLT, Nat.reduceEqDiff, reduceCtorEq, zag, zah, zai, zaj, zak, Nat.reduceAdd, Nat.reduceLeDiff, callA, zal, zam, zan, zao, zap, zaq, zar, zas, zat, zau, evalV, yieldB, zav, zaw, zax, zay, zaz, zba, zbb, zbc, zbd, zbe, zbf, zbg, zbh, zbi, zbj, zbk, zbl, zbm, zbn, zbo, zbp, zbq, zbr, extractA, zbs, zbt, zbu, zbv, zbw, zbx, zby, zbz, zca, zcb, zcc, zcd, zce, zcf, zcg, zch, zci, zcj, zck, zcl, zcm, zcn, zco, zcp, zcq, zcr, zcs, zct, zcu, zcv, zcw, zcx, zcy, zcz, zda, zdb, zdc, zdd, zde, zdf, zdg, zdh, zdi, zdj, boxA, newA, zdk, zdl, zdm, zdn, zdo, zdp, zdq, zdr, zds, zdt, zdu, zdv, zdw, fillA, putL, setsE, zdx, zdy, zdz, zea, zeb, zec, zed, zee, zef, zeg, zeh, zei, zej, Nat.reduceBEq, Nat.reduceBNe, zek, zel, zem, zen, Nat.reduceMul, zeo, zep, zeq, zer, zes, zet, zeu, zev, zew, zex, zey, zez, zfa, zfb, zfc, zfd, zfe, zff, zfg, zfh, zfi, zfj, zfk, zfl, zfm, zfn, zfo, zfp, zfq, zfr, zfs, zft, zfu, zfv, zfw, zfx, zfy, zfz, zga, zgb, zgc, zgd, zge, zgf, zgg, zgh, zgi, zgj, ne_eq, zgk, zgl, zgm, zgn, zgo, gt_iff_lt, ge_iff_le, zgp, zgq, zgr, zgs, zgt, zgu, zgv, zgw, zgx, zgy, zgz, zha, zhb, zhc, zhd, zhe, zhf, zhg, zhh, zhi, zhj, zhk, zhl, zhm, zhn, zho, zhp, zhq, gp_opg, zhr, zhs, zht, zhu, zhv, zhw, zhx, zhy, stillD, Int.reduceToNat, zhz, zia, q1,q2,q3,q4,hvec,e4',e11,hr4,hd1])
        have g12 : Gr s1 ((s1.new (.cells [.lit (.int .i64 0), .lit (.string ⟨#[]⟩), .lit (.string ⟨#[]⟩), .lit (.bool false), .lit (.slice none 0 0), .lit (.slice none 0 0), .lit (.slice none 0 0), .lit (.int .i64 0)])).set s1.ctr (some (.cells [.lit (.int .i64 ((kindN s.d : Nat) : Int)), .lit (.string ⟨(regP s (kindN s.d)).toArray⟩), .lit (.string ⟨(nameP x s (kindN s.d)).1.toArray⟩), .lit (.bool (nameP x s (kindN s.d)).2.1), ve, .lit (.slice none 0 0), .lit (.slice none 0 0), .lit (.int .i64 0)]))) := ((Gr.refl s1).new' _).set' (Nat.le_refl _)
        refine sc_ex (ih i (by omega) l' _ (s.c % 4) (deep - 1) _ (by omega) hok' (by omega) (by omega) hvl2) fun r s2 h2 => ?_
        obtain ⟨vb, vl2, rfl, hvb, hrv2, g2⟩ := h2
        have d4 : s2.heap st.ctr = some (.cells (x.cs vth)) := g2.at (by (simp (disch := omega) only [heap_set_if, heap_new_if, ASt.set_ctr, ASt.new_ctr, ite_t, ite_f, if_true, eq_self]); exact e4) (by simp; omega)
        have d11 := g2.at (j := st'.ctr) (by (simp (disch := omega) only [heap_set_if, heap_new_if, ASt.set_ctr, ASt.new_ctr, ite_t, ite_f, if_true, eq_self]); exact e11) (by simp; omega)
        have d12 : s2.heap s1.ctr = some (.cells [.lit (.int .i64 ((kindN s.d : Nat) : Int)), .lit (.string ⟨(regP s (kindN s.d)).toArray⟩), .lit (.string ⟨(nameP x s (kindN s.d)).1.toArray⟩), .lit (.bool (nameP x s (kindN s.d)).2.1), ve, .lit (.slice none 0 0), .lit (.slice none 0 0), .lit (.int .i64 0)]) := g2.at (by (simp (disch := omega) only [heap_set_if, heap_new_if, ASt.set_ctr, ASt.new_ctr, ite_t, ite_f, if_true, eq_self])) (by simp)
        have hc2 := g2.1
        simp only [ASt.set_ctr, ASt.new_ctr] at hc2
        have A2 := (A1.gr g12).gr g2
        have G2 := (G1.trans g12).trans g2
        have hbl := stmtsP_len x i l' (s.c % 4) (deep - 1)
        have hvbc := hvb.cell
        have hok2 : ∀ t ∈ (stmtsP x i l' (s.c % 4) (deep - 1)).2, t.ok := fun t ht => hok' t (hbl.2 t ht)
        generalize stmtsP x i l' (s.c % 4) (deep - 1) = bb at *
        have d4' := d4
        unfold Sml.cs at d4'
        clear g1 gr1 g12 g2
        by_cases hif : kindN s.d = 15 ∧ s.c / 4 % 2 = 1
        · rw [if_pos hif] at hr
          have hadd : 1 + ((s.c / 8 % 2 : Nat) : Int) = ((1 + s.c / 8 % 2 : Nat) : Int) := by omega
          repeat' (first | (first | apply ifk_og | apply ifk_gg | apply ifk_go | apply ifk_ss) <;> intro hc | simp (maxSteps := 5000000) (disch := first | assumption | omega | (simp only [ASt.set_ctr, ASt.new_ctr] <;> omega)) only [r25_0.down, r25_1.down, r25_2.down, n25_4, n25_3, r25_3.down, r25_4.down, r25_5.down, r25_6.down, r25_7.down, n25_14, n25_13, r25_8.down, r25_9.down, r25_10.down, n25_18, n25_17, n25_16, n25_15, n25_12, n25_11, n25_10, r25_11.down, r25_12.down, n25_21, n25_20, n25_9, n25_8, n25_7, n25_6, n25_5, l25_0, r25_13.down, n25_22, n25_2, n25_1, n25_0, rq_25, o_leni_53, o_lens_53, o_lenn_53, o_ixi_53, o_ixs_53, o_ldp_81, o_ldi_81, o_al_81, o_st_81, o_sl_53_lh, o_sl_53_l, o_sl_53_h, o_ldp_33, o_ldi_33, cf_40, o_al_63, o_st_63, o_fap_63_0, o_fai_63_0, o_ldp_26, o_ldi_26, o_fap_81_3, o_fai_81_3, o_ldp_5, o_ldi_5, o_cv_5_3, cf_25, o_fap_63_5, o_fai_63_5, o_st_39, o_fap_63_6, o_fai_63_6, o_ldp_63, o_ldi_63, hint_25_80, o_bs_39_1, hint_25_81, bi_app, AVal.undef, zaa, zab, aeval, aput, ahint, absOf, flat, nilCheckA, ANext.ofP, evals, evalPs, evalO, zac, zad, zae, zaf, ↓reduceIte, Nat.reduceLT, Nat.reduceEqDiff, reduceCtorEq, zag, zah, zai, zaj, zak, Nat.reduceAdd, Nat.reduceLeDiff, callA, zal, zam, zan, zao, zap, zaq, zar, zas, zat, zau, evalV, yieldB, zav, zaw, zax, zay, zaz, zba, zbb, zbc, zbd, zbe, zbf, zbg, zbh, zbi, zbj, zbk, zbl, zbm, zbn, zbo, zbp, zbq, zbr, extractA, zbs, zbt, zbu, zbv, zbw, zbx, zby, zbz, zca, zcb, zcc, zcd, zce, zcf, zcg, zch, zci, zcj, zck, zcl, zcm, zcn, zco, zcp, zcq, zcr, zcs, zct, zcu, zcv, zcw, zcx, zcy, zcz, zda, zdb, zdc, zdd, zde, zdf, zdg, zdh, zdi, zdj, boxA, newA, zdk, zdl, zdm, zdn, zdo, zdp, zdq, zdr, zds, zdt, zdu, zdv, zdw, fillA, putL, setsE, zdx, zdy, zdz, zea, zeb, zec, zed, zee, zef, zeg, zeh, zei, zej, Nat.reduceBEq, Nat.reduceBNe, zek, zel, zem, zen, Nat.reduceMul, zeo, zep, zeq, zer, zes, zet, zeu, zev, zew, zex, zey, zez, zfa, zfb, zfc, zfd, zfe, zff, zfg, zfh, zfi, zfj, zfk, zfl, zfm, zfn, zfo, zfp, zfq, zfr, zfs, zft, zfu, zfv, zfw, zfx, zfy, zfz, zga, zgb, zgc, zgd, zge, zgf, zgg, zgh, zgi, zgj, ne_eq, zgk, zgl, zgm, zgn, zgo, gt_iff_lt, ge_iff_le, zgp, zgq, zgr, zgs, zgt, zgu, zgv, zgw, zgx, zgy, zgz, zha, zhb, zhc, zhd, zhe, zhf, zhg, zhh, zhi, zhj, zhk, zhl, zhm, zhn, zho, zhp, zhq, gp_opg, zhr, zhs, zht, zhu, zhv, zhw, zhx, zhy, stillD, Int.reduceToNat, zhz, zia, q1,q2,q3,q4,hvec,hvbc,d4',d11,d12,hr4,hd1,hq4,hr2,hq8,hr82,hadd])
          refine sc_ex (ih i (by omega) bb.2 _ (1 + s.c / 8 % 2) (deep - 1) _ (by omega) hok2 (by omega) (by omega) hrv2) fun r s3 h3 => ?_
          obtain ⟨vl, vl3, rfl, hvl, hrv3, g3⟩ := h3
          have c4 : s3.heap st.ctr = some (.cells (x.cs vth)) := g3.at (by (simp (disch := omega) only [heap_set_if, heap_new_if, ASt.set_ctr, ASt.new_ctr, ite_t, ite_f, if_true, eq_self]); exact d4) (by simp; omega)
          have c12 : s3.heap s1.ctr = some (.cells [.lit (.int .i64 ((kindN s.d : Nat) : Int)), .lit (.string ⟨(regP s (kindN s.d)).toArray⟩), .lit (.string ⟨(nameP x s (kindN s.d)).1.toArray⟩), .lit (.bool (nameP x s (kindN s.d)).2.1), ve, vb, .lit (.slice none 0 0), .lit (.int .i64 0)]) := g3.at (by (simp (disch := omega) only [heap_set_if, heap_new_if, ASt.set_ctr, ASt.new_ctr, ite_t, ite_f, if_true, eq_self])) (by simp; omega)
          have hc3 := g3.1
          simp only [ASt.set_ctr] at hc3
          have A3 := (A2.set d12 _).gr g3
          have G3 := (G2.set' (by omega)).trans g3
          have hel := stmtsP_len x i bb.2 (1 + s.c / 8 % 2) (deep - 1)
          have hvlc := hvl.cell
          have hok3 : ∀ t ∈ (stmtsP x i bb.2 (1 + s.c / 8 % 2) (deep - 1)).2, t.ok := fun t ht => hok2 t (hel.2 t ht)
          generalize stmtsP x i bb.2 (1 + s.c / 8 % 2) (deep - 1) = ee at *
          clear g3
          repeat' (first | (first | apply ifk_og | apply ifk_gg | apply ifk_go | apply ifk_ss) <;> intro hc | simp (maxSteps := 5000000) (disch := first | assumption | omega | (simp only [ASt.set_ctr, ASt.new_ctr] <;> omega)) only [r25_0.down, r25_1.down, r25_2.down, n25_4, n25_3, r25_3.down, r25_4.down, r25_5.down, r25_6.down, r25_7.down, n25_14, n25_13, r25_8.down, r25_9.down, r25_10.down, n25_18, n25_17, n25_16, n25_15, n25_12, n25_11, n25_10, r25_11.down, r25_12.down, n25_21, n25_20, n25_9, n25_8, n25_7, n25_6, n25_5, l25_0, r25_13.down, n25_22, n25_2, n25_1, n25_0, rq_25, o_leni_53, o_lens_53, o_lenn_53, o_ixi_53, o_ixs_53, o_ldp_81, o_ldi_81, o_al_81, o_st_81, o_sl_53_lh, o_sl_53_l, o_sl_53_h, o_ldp_33, o_ldi_33, cf_40, o_al_63, o_st_63, o_fap_63_0, o_fai_63_0, o_ldp_26, o_ldi_26, o_fap_81_3, o_fai_81_3, o_ldp_5, o_ldi_5, o_cv_5_3, cf_25, o_fap_63_5, o_fai_63_5, o_st_39, o_fap_63_6, o_fai_63_6, o_ldp_63, o_ldi_63, hint_25_80, o_bs_39_1, hint_25_81, bi_app, AVal.undef, zaa, zab, aeval, aput, ahint, absOf, flat, nilCheckA, ANext.ofP, evals, evalPs, evalO, zac, zad, zae, zaf, ↓reduceIte, Nat.reduceLT, Nat.reduceEqDiff, reduceCtorEq, zag, zah, zai, zaj, zak, Nat.reduceAdd, Nat.reduceLeDiff, callA, zal, zam, zan, zao, zap, zaq, zar, zas, zat, zau, evalV, yieldB, zav, zaw, zax, zay, zaz, zba, zbb, zbc, zbd, zbe, zbf, zbg, zbh, zbi, zbj, zbk, zbl, zbm, zbn, zbo, zbp, zbq, zbr, extractA, zbs, zbt, zbu, zbv, zbw, zbx, zby, zbz, zca, zcb, zcc, zcd, zce, zcf, zcg, zch, zci, zcj, zck, zcl, zcm, zcn, zco, zcp, zcq, zcr, zcs, zct, zcu, zcv, zcw, zcx, zcy, zcz, zda, zdb, zdc, zdd, zde, zdf, zdg, zdh, zdi, zdj, boxA, newA, zdk, zdl, zdm, zdn, zdo, zdp, zdq, zdr, zds, zdt, zdu, zdv, zdw, fillA, putL, setsE, zdx, zdy, zdz, zea, zeb, zec, zed, zee, zef, zeg, zeh, zei, zej, Nat.reduceBEq, Nat.reduceBNe, zek, zel, zem, zen, Nat.reduceMul, zeo, zep, zeq, zer, zes, zet, zeu, zev, zew, zex, zey, zez, zfa, zfb, zfc, zfd, zfe, zff, zfg, zfh, zfi, zfj, zfk, zfl, zfm, zfn, zfo, zfp, zfq, zfr, zfs, zft, zfu, zfv, zfw, zfx, zfy, zfz, zga, zgb, zgc, zgd, zge, zgf, zgg, zgh, zgi, zgj, ne_eq, zgk, zgl, zgm, zgn, zgo, gt_iff_lt, ge_iff_le, zgp, zgq, zgr, zgs, zgt, zgu, zgv, zgw, zgx, zgy, zgz, zha, zhb, zhc, zhd, zhe, zhf, zhg, zhh, zhi, zhj, zhk, zhl, zhm, zhn, zho, zhp, zhq, gp_opg, zhr, zhs, zht, zhu, zhv, zhw, zhx, zhy, stillD, Int.reduceToNat, zhz, zia, q1,q2,q3,q4,hvec,hvbc,hvlc,c12])
          refine tail _ _ ee.2 vl3 bb.1 ee.1 s1.ctr ve vb vl (by omega) hok3 hrv3 ?_ ?_ ?_ ?_ ?_ ?_ ?_ ?_ ?_ hve hvec hvb hvl ?_ ?_ ?_ ?_
          · rfl
          · rfl
          · exact q3
          · exact q4
          · exact A3.set c12 _
          · rfl
          · rfl
          · simp; omega
          · (simp (disch := omega) only [heap_set_if, heap_new_if, ASt.set_ctr, ASt.new_ctr, ite_t, ite_f, if_true, eq_self])
          · (simp (disch := omega) only [heap_set_if, heap_new_if, ASt.set_ctr, ASt.new_ctr, ite_t, ite_f, if_true, eq_self]); exact c4
          · simp; omega
          · exact G3.set' (by omega)
          · rw [← hr]; simp [putP]
        · rw [if_neg hif] at hr
          have hif2 : ¬ (kindN s.d = 15) ∨ ¬ (s.c / 4 % 2 = 1) := by omega
          rcases hif2 with hif | hif
          all_goals repeat' (first | (first | apply ifk_og | apply ifk_gg | apply ifk_go | apply ifk_ss) <;> intro hc | simp (maxSteps := 5000000) (disch := first | assumption | omega | (simp only [ASt.set_ctr, ASt.new_ctr] <;> omega)) only [r25_0.down, r25_1.down, r25_2.down, n25_4, n25_3, r25_3.down, r25_4.down, r25_5.down, r25_6.down, r25_7.down, n25_14, n25_13, r25_8.down, r25_9.down, r25_10.down, n25_18, n25_17, n25_16, n25_15, n25_12, n25_11, n25_10, r25_11.down, r25_12.down, n25_21, n25_20, n25_9, n25_8, n25_7, n25_6, n25_5, l25_0, r25_13.down, n25_22, n25_2, n25_1, n25_0, rq_25, o_leni_53, o_lens_53, o_lenn_53, o_ixi_53, o_ixs_53, o_ldp_81, o_ldi_81, o_al_81, o_st_81, o_sl_53_lh, o_sl_53_l, o_sl_53_h, o_ldp_33, o_ldi_33, cf_40, o_al_63, o_st_63, o_fap_63_0, o_fai_63_0, o_ldp_26, o_ldi_26, o_fap_81_3, o_fai_81_3, o_ldp_5, o_ldi_5, o_cv_5_3, cf_25, o_fap_63_5, o_fai_63_5, o_st_39, o_fap_63_6, o_fai_63_6, o_ldp_63, o_ldi_63, hint_25_80, o_bs_39_1, hint_25_81, bi_app, AVal.undef, zaa, zab, aeval, aput, ahint, absOf, flat, nilCheckA, ANext.ofP, evals, evalPs, evalO, zac, zad, zae, zaf, ↓reduceIte, Nat.reduceLT, Nat.reduceEqDiff, reduceCtorEq, zag, zah, zai, zaj, zak, Nat.reduceAdd, Nat.reduceLeDiff, callA, zal, zam, zan, zao, zap, zaq, zar, zas, zat, zau, evalV, yieldB, zav, zaw, zax, zay, zaz, zba, zbb, zbc, zbd, zbe, zbf, zbg, zbh, zbi, zbj, zbk, zbl, zbm, zbn, zbo, zbp, zbq, zbr, extractA, zbs, zbt, zbu, zbv, zbw, zbx, zby, zbz, zca, zcb, zcc, zcd, zce, zcf, zcg, zch, zci, zcj, zck, zcl, zcm, zcn, zco, zcp, zcq, zcr, zcs, zct, zcu, zcv, zcw, zcx, zcy, zcz, zda, zdb, zdc, zdd, zde, zdf, zdg, zdh, zdi, zdj, boxA, newA, zdk, zdl, zdm, zdn, zdo, zdp, zdq, zdr, zds, zdt, zdu, zdv, zdw, fillA, putL, setsE, zdx, zdy, zdz, zea, zeb, zec, zed, zee, zef, zeg, zeh, zei, zej, Nat.reduceBEq, Nat.reduceBNe, zek, zel, zem, zen, Nat.reduceMul, zeo, zep, zeq, zer, zes, zet, zeu, zev, zew, zex, zey, zez, zfa, zfb, zfc, zfd, zfe, zff, zfg, zfh, zfi, zfj, zfk, zfl, zfm, zfn, zfo, zfp, zfq, zfr, zfs, zft, zfu, zfv, zfw, zfx, zfy, zfz, zga, zgb, zgc, zgd, zge, zgf, zgg, zgh, zgi, zgj, ne_eq, zgk, zgl, zgm, zgn, zgo, gt_iff_lt, ge_iff_le, zgp, zgq, zgr, zgs, zgt, zgu, zgv, zgw, zgx, zgy, zgz, zha, zhb, zhc, zhd, zhe, zhf, zhg, zhh, zhi, zhj, zhk, zhl, zhm, zhn, zho, zhp, zhq, gp_opg, zhr, zhs, zht, zhu, zhv, zhw, zhx, zhy, stillD, Int.reduceToNat, zhz, zia, q1,q2,q3,q4,hvec,hvbc,d4',d11,d12,hr4,hd1,hq4,hr2])
          all_goals try (exfalso; omega)
          all_goals
            refine tail _ _ bb.2 vl2 bb.1 [] s1.ctr ve vb (.lit (.slice none 0 0)) (by omega) hok2 hrv2 ?_ ?_ ?_ ?_ ?_ ?_ ?_ ?_ ?_ hve hvec hvb .nil ?_ ?_ ?_ ?_
            · rfl
            · rfl
            · exact q3
            · exact q4
            · exact A2.set d12 _
            · rfl
            · rfl
            · simp; omega
            · (simp (disch := omega) only [heap_set_if, heap_new_if, ASt.set_ctr, ASt.new_ctr, ite_t, ite_f, if_true, eq_self])
            · (simp (disch := omega) only [heap_set_if, heap_new_if, ASt.set_ctr, ASt.new_ctr, ite_t, ite_f, if_true, eq_self]); exact d4
            · simp; omega
            · exact G2.set' (by omega)
            · rw [← hr]; simp [putP]
    · rw [if_neg h15] at hr
      clear g1 gr1 ih
      repeat' (first | (first | apply ifk_og | apply ifk_gg | apply ifk_go | apply ifk_ss) <;> intro hc | simp (maxSteps := 5000000) (disch := first | assumption | omega | (simp only [ASt.set_ctr, ASt.new_ctr] <;> omega)) only [r25_0.down, r25_1.down, r25_2.down, n25_4, n25_3, r25_3.down, r25_4.down, r25_5.down, r25_6.down, r25_7.down, n25_14, n25_13, r25_8.down, r25_9.down, r25_10.down, n25_18, n25_17, n25_16, n25_15, n25_12, n25_11, n25_10, r25_11.down, r25_12.down, n25_21, n25_20, n25_9, n25_8, n25_7, n25_6, n25_5, l25_0, r25_13.down, n25_22, n25_2, n25_1, n25_0, rq_25, o_leni_53, o_lens_53, o_lenn_53, o_ixi_53, o_ixs_53, o_ldp_81, o_ldi_81, o_al_81, o_st_81, o_sl_53_lh, o_sl_53_l, o_sl_53_h, o_ldp_33, o_ldi_33, cf_40, o_al_63, o_st_63, o_fap_63_0, o_fai_63_0, o_ldp_26, o_ldi_26, o_fap_81_3, o_fai_81_3, o_ldp_5, o_ldi_5, o_cv_5_3, cf_25, o_fap_63_5, o_fai_63_5, o_st_39, o_fap_63_6, o_fai_63_6, o_ldp_63, o_ldi_63, hint_25_80, o_bs_39_1, hint_25_81, bi_app, AVal.undef, zaa, zab, aeval, aput, ahint, absOf, flat, nilCheckA, ANext.ofP, evals, evalPs, evalO, zac, zad, zae, zaf, ↓reduceIte, Nat.reduceLT, Nat.reduceEqDiff, reduceCtorEq, zag, zah, zai, zaj, zak, Nat.reduceAdd, Nat.reduceLeDiff, callA, zal, zam, zan, zao, zap, zaq, zar, zas, zat, zau, evalV, yieldB, zav, zaw, zax, zay, zaz, zba, zbb, zbc, zbd, zbe, zbf, zbg, zbh, zbi, zbj, zbk, zbl, zbm, zbn, zbo, zbp, zbq, zbr, extractA, zbs, zbt, zbu, zbv, zbw, zbx, zby, zbz, zca, zcb, zcc, zcd, zce, zcf, zcg, zch, zci, zcj, zck, zcl, zcm, zcn, zco, zcp, zcq, zcr, zcs, zct, zcu, zcv, zcw, zcx, zcy, zcz, zda, zdb, zdc, zdd, zde, zdf, zdg, zdh, zdi, zdj, boxA, newA, zdk, zdl, zdm, zdn, zdo, zdp, zdq, zdr, zds, zdt, zdu, zdv, zdw, fillA, putL, setsE, zdx, zdy, zdz, zea, zeb, zec, zed, zee, zef, zeg, zeh, zei, zej, Nat.reduceBEq, Nat.reduceBNe, zek, zel, zem, zen, Nat.reduceMul, zeo, zep, zeq, zer, zes, zet, zeu, zev, zew, zex, zey, zez, zfa, zfb, zfc, zfd, zfe, zff, zfg, zfh, zfi, zfj, zfk, zfl, zfm, zfn, zfo, zfp, zfq, zfr, zfs, zft, zfu, zfv, zfw, zfx, zfy, zfz, zga, zgb, zgc, zgd, zge, zgf, zgg, zgh, zgi, zgj, ne_eq, zgk, zgl, zgm, zgn, zgo, gt_iff_lt, ge_iff_le, zgp, zgq, zgr, zgs, zgt, zgu, zgv, zgw, zgx, zgy, zgz, zha, zhb, zhc, zhd, zhe, zhf, zhg, zhh, zhi, zhj, zhk, zhl, zhm, zhn, zho, zhp, zhq, gp_opg, zhr, zhs, zht, zhu, zhv, zhw, zhx, zhy, stillD, Int.reduceToNat, zhz, zia, q1,q2,q3,q4,hvec,e4',e11])
      refine tail _ _ l' _ [] [] s1.ctr ve (.lit (.slice none 0 0)) (.lit (.slice none 0 0)) (by omega) hok' hvl2 ?_ ?_ ?_ ?_ ?_ ?_ ?_ ?_ ?_ hve hvec .nil .nil ?_ ?_ ?_ ?_
      · rfl
      · rfl
      · exact q3
      · exact q4
      · exact A1.gr (((Gr.refl s1).new' _).set' (Nat.le_refl _))
      · rfl
      · rfl
      · simp
      · (simp (disch := omega) only [heap_set_if, heap_new_if, ASt.set_ctr, ASt.new_ctr, ite_t, ite_f, if_true, eq_self])
      · (simp (disch := omega) only [heap_set_if, heap_new_if, ASt.set_ctr, ASt.new_ctr, ite_t, ite_f, if_true, eq_self]); exact e4
      · simp; omega
      · exact (G1.new' _).set' (by omega)
      · rw [← hr]; simp [putP]
theorem stmts_rw {x : Sml} {vth : AVal} (hx : x.ok) (hth : ThLen vth x.threads.length) (hv : vth.isCell = true) : ∀ n, n ≤ 20 → StmtsC x vth n := by
  intro n
  induction n using Nat.strongRecOn with
  | ind n ih => exact fun hn => stmts_step hx hth hv n hn fun m hm => ih m hm (by omega)
end Go.Proofs.YtpgcbmmifmnfpaaDoorV
