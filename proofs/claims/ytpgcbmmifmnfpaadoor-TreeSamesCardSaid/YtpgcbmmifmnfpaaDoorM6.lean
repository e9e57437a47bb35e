/- law 04: statements' texts, by definition, walked. No condition. -/
import Derived.Test.YtpgcbmmifmnfpaaDoorM3
import Derived.Test.YtpgcbmmifmnfpaaDoorM5
namespace Go.Proofs.YtpgcbmmifmnfpaaDoorV
open Go Go.RowKit Go.Proofs.YtpgcbmmifmnfpaaDoorA
set_option linter.unusedVariables false
set_option linter.unusedSimpArgs false
set_option maxRecDepth 100000

def kws : List (List UInt8) := [[], [108, 111, 97, 100], [115, 116, 111, 114, 101], [97, 100, 100], [115, 119, 97, 112], [99, 97, 115], [108, 111, 99, 107], [117, 110, 108, 111, 99, 107], [116, 114, 121], [119, 97, 105, 116], [112, 111, 115, 116], [115, 112, 97, 119, 110], [106, 111, 105, 110], [97, 115, 115, 101, 114, 116], [97, 115, 115, 117, 109, 101], [105, 102], [119, 104, 105, 108, 101]]
def sws : List (List UInt8) := [[99, 101, 108, 108], [97, 114, 114, 97, 121], [109, 117, 116, 101, 120], [115, 101, 109], [98, 117, 100, 103, 101, 116], [116, 104, 114, 101, 97, 100]]
def kwd (k : Nat) : List UInt8 := (kws[k]?).getD []
/-- a statement's text, out of its parts' -/
def stX (k : Nat) (reg nm al bl : List UInt8) (el : Option (List UInt8)) : List UInt8 :=
  if k = 0 then reg ++ [32, 61, 32] ++ al ++ [59, 10]
  else if k = 1 ∨ k = 8 then reg ++ [32, 61, 32] ++ kwd k ++ [32] ++ nm ++ [59, 10]
  else if 3 ≤ k ∧ k ≤ 5 then reg ++ [32, 61, 32] ++ kwd k ++ [32] ++ nm ++ [44, 32] ++ al ++ [59, 10]
  else if k = 2 then [115, 116, 111, 114, 101, 32] ++ nm ++ [44, 32] ++ al ++ [59, 10]
  else if k = 13 ∨ k = 14 then kwd k ++ [32] ++ al ++ [59, 10]
  else if k = 15 ∨ k = 16 then (match el with
    | some e => kwd k ++ [32] ++ al ++ bl ++ ([32, 101, 108, 115, 101] ++ e) ++ [10]
    | none => kwd k ++ [32] ++ al ++ bl ++ [10])
  else kwd k ++ [32] ++ nm ++ [59, 10]
def nmT (name : List UInt8) (idx : Bool) (ts : List (List UInt8)) : List UInt8 := if idx then name ++ [91] ++ (ts[0]?).getD [] ++ [93] else name
def alT (idx : Bool) (ts : List (List UInt8)) : List UInt8 := Lib.join (if idx then ts.drop 1 else ts) [44, 32]
def blT (x : List UInt8) : List UInt8 := [32, 123, 10] ++ x ++ [125]
mutual
/-- a statement's text -/
def St.t : St → List UInt8
  | .mk k reg name idx es body els _ => stX k reg (nmT name idx (es.map Ex.t)) (alT idx (es.map Ex.t)) (blT (Sts.t body)) (match els with
    | [] => none
    | e :: l => some (blT (e.t ++ Sts.t l)))
def Sts.t : List St → List UInt8
  | [] => []
  | s :: l => s.t ++ Sts.t l
end
def elT : List St → Option (List UInt8)
  | [] => none
  | e :: l => some (blT (e.t ++ Sts.t l))
theorem St.t_mk (k : Nat) (reg name : List UInt8) (idx : Bool) (es : List Ex) (body els : List St) (pos : Nat) : (St.mk k reg name idx es body els pos).t = stX k reg (nmT name idx (es.map Ex.t)) (alT idx (es.map Ex.t)) (blT (Sts.t body)) (elT els) := by
  cases els <;> rfl
mutual
/-- a statement that may be -/
def St.good : St → Prop
  | .mk k reg name idx es body els _ => k ≤ 16 ∧ (es.length ≤ 3 ∧ name.length ≤ 100000 ∧ ∀ e ∈ es, e.good ∧ e.t.length ≤ 100000) ∧ (idx = true → es ≠ []) ∧ (body.length ≤ 100000 ∧ els.length ≤ 100000) ∧ Sts.good body ∧ Sts.good els
def Sts.good : List St → Prop
  | [] => True
  | s :: l => s.good ∧ Sts.good l
end
theorem Sts.good_at : ∀ {l : List St} {i : Nat} {s : St}, Sts.good l → l[i]? = some s → s.good
  | s :: l, 0, t, h, ht => by cases ht; exact h.1
  | s :: l, i + 1, t, h, ht => Sts.good_at (l := l) h.2 ht
theorem Sts.t_app : ∀ (a b : List St), Sts.t (a ++ b) = Sts.t a ++ Sts.t b
  | [], b => rfl
  | s :: a, b => by
    have e : Sts.t (s :: a ++ b) = s.t ++ Sts.t (a ++ b) := rfl
    have e2 : Sts.t (s :: a) = s.t ++ Sts.t a := rfl
    rw [e, e2, Sts.t_app a b, List.append_assoc]
theorem IsStL.get : ∀ {es : List AVal} {l : List St} {i : Nat} {s : St}, IsStL es l → l[i]? = some s → ∃ v, es[i]? = some v ∧ IsSt v s
  | _, _, 0, _, .cons h _, hs => by cases hs; exact ⟨_, rfl, h⟩
  | _, _, i + 1, _, .cons _ ht, hs => IsStL.get (i := i) ht hs
/-- of a statement's value what a walk asks -/
theorem IsSt.form {v : AVal} {s : St} (h : IsSt v s) : ∃ a0 a1 a2 a3 a4 a5 a6 a7 : AVal, v = .agg [a0, a1, a2, a3, a4, a5, a6, a7] ∧ a0.isCell = true ∧ a1.isCell = true ∧ a2.isCell = true ∧ a3.isCell = true ∧ a4.isCell = true ∧ a5.isCell = true ∧ a6.isCell = true ∧ a7.isCell = true := by
  cases h with
  | mk he hc hb hl => exact ⟨_, _, _, _, _, _, _, _, rfl, rfl, rfl, rfl, rfl, hc, hb.cell, hl.cell, rfl⟩
theorem sts_len {v : AVal} {l : List St} (h : IsSts v l) (mt : Bool) (ty : TypeId) (cs : Array Bool) (st : ASt) : builtinA E.P mt .len #[39] ty cs [v] st = some (.val (.lit (.int .i64 (l.length : Int))) st) := by
  cases h with
  | nil => exact o_lenn_39 _ _ _ _ _
  | row h => rw [o_leni_39, h.len]
theorem sts_ix {v : AVal} {l : List St} (h : IsSts v l) {i : Nat} {s : St} (hs : l[i]? = some s) : ∃ w, indexA E.P 39 v (.lit (.int .i64 (i : Int))) = some (.iptr w) ∧ IsSt w s := by
  cases h with
  | nil => cases hs
  | row h =>
    obtain ⟨w, hw, hi⟩ := h.get hs
    have hlt := (List.getElem?_eq_some_iff.1 hs).1
    refine ⟨w, ?_, hi⟩
    rw [o_ixi_39, if_pos ⟨by omega, by rw [h.len]; omega, rfl⟩, Int.toNat_natCast, hw]
    rfl
def StT (s : St) : Prop := ∀ v, IsSt v s → s.good → s.t.length ≤ 1000000 → ∀ st, ∃ r st', rw E 44 [v] st = some (r, st') ∧ (r = .returned (str s.t) ∧ Gr st st')
def BlT (l : List St) : Prop := l.length ≤ 100000 → ∀ v, IsSts v l → Sts.good l → (blT (Sts.t l)).length ≤ 1000000 → ∀ st, ∃ r st', rw E 31 [v] st = some (r, st') ∧ (r = .returned (str (blT (Sts.t l))) ∧ Gr st st')
set_option maxHeartbeats 4000000 in
theorem block_step {l : List St} (ih : ∀ s ∈ l, StT s) : BlT l := by
  intro hll v hv hg hl st
  refine en_31 fun g t0 => ?_
  have LV := fun mt ty cs st => sts_len hv mt ty cs st
  have hbl : (Sts.t l).length + 4 ≤ 1000000 := by unfold blT at hl; simp at hl; omega
  repeat' (first | (first | apply ifk_og | apply ifk_gg | apply ifk_go | apply ifk_ss) <;> intro hc | simp (maxSteps := 5000000) (disch := first | assumption | omega | (simp only [ASt.set_ctr, ASt.new_ctr] <;> omega)) only [r31_0.down, r31_1.down, r31_2.down, r31_3.down, r31_4.down, r31_5.down, n31_8, n31_7, r31_6.down, n31_9, n31_6, n31_5, l31_0, n31_4, n31_3, r31_7.down, n31_10, n31_2, n31_1, n31_0, rq_31, o_leni_39, o_lens_39, o_lenn_39, o_ixi_39, o_ixs_39, o_ldp_63, o_ldi_63, o_al_63, o_st_63, cf_44, add_str, AVal.undef, zaa, zab, aeval, aput, ahint, absOf, flat, nilCheckA, ANext.ofP, evals, evalPs, evalO, zac, zad, zae, zaf, ↓reduceIte, Nat.reduceLT, Nat.reduceEqDiff, reduceCtorEq, zag, zah, zai, zaj, zak, Nat.reduceAdd, Nat.reduceLeDiff, callA, zal, zam, zan, zao, zap, zaq, zar, zas, zat, zau, evalV, yieldB, zav, zaw, zax, zay, zaz, zba, zbb, zbc, zbd, zbe, zbf, zbg, zbh, zbi, zbj, zbk, zbl, zbm, zbn, zbo, zbp, zbq, zbr, extractA, zbs, zbt, zbu, zbv, zbw, zbx, zby, zbz, zca, zcb, zcc, zcd, zce, zcf, zcg, zch, zci, zcj, zck, zcl, zcm, zcn, zco, zcp, zcq, zcr, zcs, zct, zcu, zcv, zcw, zcx, zcy, zcz, zda, zdb, zdc, zdd, zde, zdf, zdg, zdh, zdi, zdj, boxA, newA, zdk, zdl, zdm, zdn, zdo, zdp, zdq, zdr, zds, zdt, zdu, zdv, zdw, fillA, putL, setsE, zdx, zdy, zdz, zea, zeb, zec, zed, zee, zef, zeg, zeh, zei, zej, Nat.reduceBEq, Nat.reduceBNe, zek, zel, zem, zen, Nat.reduceMul, zeo, zep, zeq, zer, zes, zet, zeu, zev, zew, zex, zey, zez, zfa, zfb, zfc, zfd, zfe, zff, zfg, zfh, zfi, zfj, zfk, zfl, zfm, zfn, zfo, zfp, zfq, zfr, zfs, zft, zfu, zfv, zfw, zfx, zfy, zfz, zga, zgb, zgc, zgd, zge, zgf, zgg, zgh, zgi, zgj, ne_eq, zgk, zgl, zgm, zgn, zgo, gt_iff_lt, ge_iff_le, zgp, zgq, zgr, zgs, zgt, zgu, zgv, zgw, zgx, zgy, zgz, zha, zhb, zhc, zhd, zhe, zhf, zhg, zhh, zhi, zhj, zhk, zhl, zhm, zhn, zho, zhp, zhq, gp_opg, zhr, zhs, zht, zhu, zhv, zhw, zhx, zhy, stillD, Int.reduceToNat, zhz, zia, t0,LV])
  refine g_loop (fun k f st' => ∃ t, k = l.length - t ∧ t ≤ l.length ∧ f 3 = .lit (.string ⟨([32, 123, 10] ++ Sts.t (l.take t)).toArray⟩) ∧ f 6 = v ∧ f 7 = .lit (.int .i64 (l.length : Int)) ∧ f 8 = .lit (.int .i64 (t : Int)) ∧ Gr st st')
    (fun k f st' hI => ?_) l.length _ _ ⟨0, rfl, Nat.zero_le _, by rw [List.take_zero]; rfl, rfl, rfl, rfl, Gr.refl _⟩
  clear t0
  obtain ⟨t, rfl, ht, q3, q6, q7, q8, gr⟩ := hI
  by_cases hlt : t < l.length
  · obtain ⟨s, hs⟩ : ∃ s, l[t]? = some s := ⟨_, List.getElem?_eq_getElem hlt⟩
    obtain ⟨w, hix, hw⟩ := sts_ix hv hs
    have hsg := Sts.good_at hg hs
    have hsp : Sts.t l = Sts.t (l.take t) ++ (s.t ++ Sts.t (l.drop (t + 1))) := by
      conv => lhs; rw [← List.take_append_drop t l, Sts.t_app, List.drop_eq_getElem_cons hlt]
      rw [(List.getElem?_eq_some_iff.1 hs).2]
      rfl
    have hsn : Sts.t (l.take (t + 1)) = Sts.t (l.take t) ++ s.t := by
      rw [List.take_add_one, hs, Sts.t_app]
      show _ ++ (s.t ++ []) = _
      rw [List.append_nil]
    rw [hsp] at hbl
    simp only [List.length_append] at hbl
    have hst := fun st => ih s (List.mem_of_getElem? hs) w hw hsg (by omega) st
    obtain ⟨a0, a1, a2, a3, a4, a5, a6, a7, rfl, c0, c1, c2, c3, c4, c5, c6, c7⟩ := hw.form
    have hadd : (t : Int) + 1 = ((t + 1 : Nat) : Int) := by omega
    have n1 := sadd (32 :: 123 :: 10 :: Sts.t (l.take t)) s.t (by simp; omega)
    have q3' : f 3 = .lit (.string ⟨(32 :: 123 :: 10 :: Sts.t (l.take t)).toArray⟩) := q3
    clear hsp ih hg hl q3
    unfold str at hst
    repeat' (first | (first | apply ifk_og | apply ifk_gg | apply ifk_go | apply ifk_ss) <;> intro hc | simp (maxSteps := 5000000) (disch := first | assumption | omega | (simp only [ASt.set_ctr, ASt.new_ctr] <;> omega)) only [r31_0.down, r31_1.down, r31_2.down, r31_3.down, r31_4.down, r31_5.down, n31_8, n31_7, r31_6.down, n31_9, n31_6, n31_5, l31_0, n31_4, n31_3, r31_7.down, n31_10, n31_2, n31_1, n31_0, rq_31, o_leni_39, o_lens_39, o_lenn_39, o_ixi_39, o_ixs_39, o_ldp_63, o_ldi_63, o_al_63, o_st_63, cf_44, add_str, AVal.undef, zaa, zab, aeval, aput, ahint, absOf, flat, nilCheckA, ANext.ofP, evals, evalPs, evalO, zac, zad, zae, zaf, ↓reduceIte, Nat.reduceLT, Nat.reduceEqDiff, reduceCtorEq, zag, zah, zai, zaj, zak, Nat.reduceAdd, Nat.reduceLeDiff, callA, zal, zam, zan, zao, zap, zaq, zar, zas, zat, zau, evalV, yieldB, zav, zaw, zax, zay, zaz, zba, zbb, zbc, zbd, zbe, zbf, zbg, zbh, zbi, zbj, zbk, zbl, zbm, zbn, zbo, zbp, zbq, zbr, extractA, zbs, zbt, zbu, zbv, zbw, zbx, zby, zbz, zca, zcb, zcc, zcd, zce, zcf, zcg, zch, zci, zcj, zck, zcl, zcm, zcn, zco, zcp, zcq, zcr, zcs, zct, zcu, zcv, zcw, zcx, zcy, zcz, zda, zdb, zdc, zdd, zde, zdf, zdg, zdh, zdi, zdj, boxA, newA, zdk, zdl, zdm, zdn, zdo, zdp, zdq, zdr, zds, zdt, zdu, zdv, zdw, fillA, putL, setsE, zdx, zdy, zdz, zea, zeb, zec, zed, zee, zef, zeg, zeh, zei, zej, Nat.reduceBEq, Nat.reduceBNe, zek, zel, zem, zen, Nat.reduceMul, zeo, zep, zeq, zer, zes, zet, zeu, zev, zew, zex, zey, zez, zfa, zfb, zfc, zfd, zfe, zff, zfg, zfh, zfi, zfj, zfk, zfl, zfm, zfn, zfo, zfp, zfq, zfr, zfs, zft, zfu, zfv, zfw, zfx, zfy, zfz, zga, zgb, zgc, zgd, zge, zgf, zgg, zgh, zgi, zgj, ne_eq, zgk, zgl, zgm, zgn, zgo, gt_iff_lt, ge_iff_le, zgp, zgq, zgr, zgs, zgt, zgu, zgv, zgw, zgx, zgy, zgz, zha, zhb, zhc, zhd, zhe, zhf, zhg, zhh, zhi, zhj, zhk, zhl, zhm, zhn, zho, zhp, zhq, gp_opg, zhr, zhs, zht, zhu, zhv, zhw, zhx, zhy, stillD, Int.reduceToNat, zhz, zia, q3',q6,q7,q8,hix,hadd,c0,c1,c2,c3,c4,c5,c6,c7])
    refine sc_ex (hst _) fun r s1 h1 => ?_
    obtain ⟨rfl, g1⟩ := h1
    repeat' (first | (first | apply ifk_og | apply ifk_gg | apply ifk_go | apply ifk_ss) <;> intro hc | simp (maxSteps := 5000000) (disch := first | assumption | omega | (simp only [ASt.set_ctr, ASt.new_ctr] <;> omega)) only [r31_0.down, r31_1.down, r31_2.down, r31_3.down, r31_4.down, r31_5.down, n31_8, n31_7, r31_6.down, n31_9, n31_6, n31_5, l31_0, n31_4, n31_3, r31_7.down, n31_10, n31_2, n31_1, n31_0, rq_31, o_leni_39, o_lens_39, o_lenn_39, o_ixi_39, o_ixs_39, o_ldp_63, o_ldi_63, o_al_63, o_st_63, cf_44, add_str, AVal.undef, zaa, zab, aeval, aput, ahint, absOf, flat, nilCheckA, ANext.ofP, evals, evalPs, evalO, zac, zad, zae, zaf, ↓reduceIte, Nat.reduceLT, Nat.reduceEqDiff, reduceCtorEq, zag, zah, zai, zaj, zak, Nat.reduceAdd, Nat.reduceLeDiff, callA, zal, zam, zan, zao, zap, zaq, zar, zas, zat, zau, evalV, yieldB, zav, zaw, zax, zay, zaz, zba, zbb, zbc, zbd, zbe, zbf, zbg, zbh, zbi, zbj, zbk, zbl, zbm, zbn, zbo, zbp, zbq, zbr, extractA, zbs, zbt, zbu, zbv, zbw, zbx, zby, zbz, zca, zcb, zcc, zcd, zce, zcf, zcg, zch, zci, zcj, zck, zcl, zcm, zcn, zco, zcp, zcq, zcr, zcs, zct, zcu, zcv, zcw, zcx, zcy, zcz, zda, zdb, zdc, zdd, zde, zdf, zdg, zdh, zdi, zdj, boxA, newA, zdk, zdl, zdm, zdn, zdo, zdp, zdq, zdr, zds, zdt, zdu, zdv, zdw, fillA, putL, setsE, zdx, zdy, zdz, zea, zeb, zec, zed, zee, zef, zeg, zeh, zei, zej, Nat.reduceBEq, Nat.reduceBNe, zek, zel, zem, zen, Nat.reduceMul, zeo, zep, zeq, zer, zes, zet, zeu, zev, zew, zex, zey, zez, zfa, zfb, zfc, zfd, zfe, zff, zfg, zfh, zfi, zfj, zfk, zfl, zfm, zfn, zfo, zfp, zfq, zfr, zfs, zft, zfu, zfv, zfw, zfx, zfy, zfz, zga, zgb, zgc, zgd, zge, zgf, zgg, zgh, zgi, zgj, ne_eq, zgk, zgl, zgm, zgn, zgo, gt_iff_lt, ge_iff_le, zgp, zgq, zgr, zgs, zgt, zgu, zgv, zgw, zgx, zgy, zgz, zha, zhb, zhc, zhd, zhe, zhf, zhg, zhh, zhi, zhj, zhk, zhl, zhm, zhn, zho, zhp, zhq, gp_opg, zhr, zhs, zht, zhu, zhv, zhw, zhx, zhy, stillD, Int.reduceToNat, zhz, zia, q3',q6,q7,q8,hadd,n1])
    refine lq_n (j := l.length - (t + 1)) (by omega) ?_
    refine ⟨t + 1, rfl, by omega, ?_, q6, q7, rfl, ((gr.new' _).set' gr.1).trans g1⟩
    rw [hsn]
    rfl
  · obtain rfl : t = l.length := by omega
    rw [List.take_length] at q3
    have q3' : f 3 = .lit (.string ⟨(32 :: 123 :: 10 :: Sts.t l).toArray⟩) := q3
    have n1 := sadd (32 :: 123 :: 10 :: Sts.t l) [125] (by simp; omega)
    clear ih hg hl q3
    repeat' (first | (first | apply ifk_og | apply ifk_gg | apply ifk_go | apply ifk_ss) <;> intro hc | simp (maxSteps := 5000000) (disch := first | assumption | omega | (simp only [ASt.set_ctr, ASt.new_ctr] <;> omega)) only [r31_0.down, r31_1.down, r31_2.down, r31_3.down, r31_4.down, r31_5.down, n31_8, n31_7, r31_6.down, n31_9, n31_6, n31_5, l31_0, n31_4, n31_3, r31_7.down, n31_10, n31_2, n31_1, n31_0, rq_31, o_leni_39, o_lens_39, o_lenn_39, o_ixi_39, o_ixs_39, o_ldp_63, o_ldi_63, o_al_63, o_st_63, cf_44, add_str, AVal.undef, zaa, zab, aeval, aput, ahint, absOf, flat, nilCheckA, ANext.ofP, evals, evalPs, evalO, zac, zad, zae, zaf, ↓reduceIte, Nat.reduceLT, Nat.reduceEqDiff, reduceCtorEq, zag, zah, zai, zaj, zak, Nat.reduceAdd, Nat.reduceLeDiff, callA, zal, zam, zan, zao, zap, zaq, zar, zas, zat, zau, evalV, yieldB, zav, zaw, zax, zay, zaz, zba, zbb, zbc, zbd, zbe, zbf, zbg, zbh, zbi, zbj, zbk, zbl, zbm, zbn, zbo, zbp, zbq, zbr, extractA, zbs, zbt, zbu, zbv, zbw, zbx, zby, zbz, zca, zcb, zcc, zcd, zce, zcf, zcg, zch, zci, zcj, zck, zcl, zcm, zcn, zco, zcp, zcq, zcr, zcs, zct, zcu, zcv, zcw, zcx, zcy, zcz, zda, zdb, zdc, zdd, zde, zdf, zdg, zdh, zdi, zdj, boxA, newA, zdk, zdl, zdm, zdn, zdo, zdp, zdq, zdr, zds, zdt, zdu, zdv, zdw, fillA, putL, setsE, zdx, zdy, zdz, zea, zeb, zec, zed, zee, zef, zeg, zeh, zei, zej, Nat.reduceBEq, Nat.reduceBNe, zek, zel, zem, zen, Nat.reduceMul, zeo, zep, zeq, zer, zes, zet, zeu, zev, zew, zex, zey, zez, zfa, zfb, zfc, zfd, zfe, zff, zfg, zfh, zfi, zfj, zfk, zfl, zfm, zfn, zfo, zfp, zfq, zfr, zfs, zft, zfu, zfv, zfw, zfx, zfy, zfz, zga, zgb, zgc, zgd, zge, zgf, zgg, zgh, zgi, zgj, ne_eq, zgk, zgl, zgm, zgn, zgo, gt_iff_lt, ge_iff_le, zgp, zgq, zgr, zgs, zgt, zgu, zgv, zgw, zgx, zgy, zgz, zha, zhb, zhc, zhd, zhe, zhf, zhg, zhh, zhi, zhj, zhk, zhl, zhm, zhn, zho, zhp, zhq, gp_opg, zhr, zhs, zht, zhu, zhv, zhw, zhx, zhy, stillD, Int.reduceToNat, zhz, zia, q3',q6,q7,q8,n1])
    exact ⟨rfl, gr⟩
theorem join_rw {v : AVal} {ts : List (List UInt8)} (h : RV 1 v (ts.map fun t => .lit (.string ⟨t.toArray⟩))) (sep : List UInt8) (hl : ts.length ≤ 100000) (hj : (Lib.join ts sep).length ≤ 1000000) (st : ASt) :
    rw E 39 [v, .lit (.string ⟨sep.toArray⟩)] st = some (.returned (.lit (.string ⟨(Lib.join ts sep).toArray⟩)), st) := by
  have hs : ∀ ts : List (List UInt8), strsL (ts.map fun t => .lit (.string ⟨t.toArray⟩)) = some (ts.map fun t => (⟨t.toArray⟩ : ByteArray)) := by
    intro ts
    induction ts with
    | nil => rfl
    | cons t ts ih =>
      show (strsL (ts.map fun t => .lit (.string ⟨t.toArray⟩))).map _ = _
      rw [ih]
      rfl
  have hm : ∀ ts : List (List UInt8), (ts.map fun t => (⟨t.toArray⟩ : ByteArray)).map (·.data.toList) = ts := by
    intro ts
    rw [List.map_map]
    exact List.map_id'' (fun _ => rfl) ts
  have key : joinP [v, .lit (.string ⟨sep.toArray⟩)] st = some (.returned (.lit (.string ⟨(Lib.join ts sep).toArray⟩)), st) := by
    rcases h with ⟨rfl, h⟩ | ⟨c, rfl⟩
    · obtain rfl : ts = [] := List.map_eq_nil_iff.1 h
      rfl
    · match ts, hs ts, hm ts with
      | [], _, _ => rfl
      | t :: r, hs, hm =>
        unfold joinP
        simp only [List.map_cons]
        rw [List.map_cons] at hs
        rw [hs, Option.bind_some, hm, if_pos ⟨by simp only [List.length_map]; omega, by show (Lib.join (t :: r) sep).length ≤ _; omega⟩]
  refine rw_of (n := 1) ?_
  show acall E (drawB E) 1 39 _ st = _
  have hp' : E.prim 39 = some joinP := rfl
  unfold acall
  rw [hp']
  exact key
theorem kwd_ix {k : Nat} (h : k ≤ 16) : indexA E.P 24 (.islice 1 [.lit (.string ⟨#[]⟩), .lit (.string ⟨#[108, 111, 97, 100]⟩), .lit (.string ⟨#[115, 116, 111, 114, 101]⟩), .lit (.string ⟨#[97, 100, 100]⟩), .lit (.string ⟨#[115, 119, 97, 112]⟩), .lit (.string ⟨#[99, 97, 115]⟩), .lit (.string ⟨#[108, 111, 99, 107]⟩), .lit (.string ⟨#[117, 110, 108, 111, 99, 107]⟩), .lit (.string ⟨#[116, 114, 121]⟩), .lit (.string ⟨#[119, 97, 105, 116]⟩), .lit (.string ⟨#[112, 111, 115, 116]⟩), .lit (.string ⟨#[115, 112, 97, 119, 110]⟩), .lit (.string ⟨#[106, 111, 105, 110]⟩), .lit (.string ⟨#[97, 115, 115, 101, 114, 116]⟩), .lit (.string ⟨#[97, 115, 115, 117, 109, 101]⟩), .lit (.string ⟨#[105, 102]⟩), .lit (.string ⟨#[119, 104, 105, 108, 101]⟩)] .exact) (.lit (.int .i64 (k : Int))) = some (.iptr (.lit (.string ⟨(kwd k).toArray⟩))) := by
  have h17 : k = 0 ∨ k = 1 ∨ k = 2 ∨ k = 3 ∨ k = 4 ∨ k = 5 ∨ k = 6 ∨ k = 7 ∨ k = 8 ∨ k = 9 ∨ k = 10 ∨ k = 11 ∨ k = 12 ∨ k = 13 ∨ k = 14 ∨ k = 15 ∨ k = 16 := by omega
  rcases h17 with rfl | rfl | rfl | rfl | rfl | rfl | rfl | rfl | rfl | rfl | rfl | rfl | rfl | rfl | rfl | rfl | rfl <;> rfl
theorem kwd_len {k : Nat} (h : k ≤ 16) : (kwd k).length ≤ 6 := by
  have h17 : k = 0 ∨ k = 1 ∨ k = 2 ∨ k = 3 ∨ k = 4 ∨ k = 5 ∨ k = 6 ∨ k = 7 ∨ k = 8 ∨ k = 9 ∨ k = 10 ∨ k = 11 ∨ k = 12 ∨ k = 13 ∨ k = 14 ∨ k = 15 ∨ k = 16 := by omega
  rcases h17 with rfl | rfl | rfl | rfl | rfl | rfl | rfl | rfl | rfl | rfl | rfl | rfl | rfl | rfl | rfl | rfl | rfl <;> decide
theorem exs_len {v : AVal} {es : List Ex} (h : RV 4 v (es.map Ex.a)) (mt : Bool) (ty : TypeId) (cs : Array Bool) (st : ASt) : builtinA E.P mt .len #[46] ty cs [v] st = some (.val (.lit (.int .i64 (es.length : Int))) st) := by
  rcases h with ⟨rfl, h⟩ | ⟨c, rfl⟩
  · obtain rfl : es = [] := List.map_eq_nil_iff.1 h
    exact o_lenn_46 _ _ _ _ _
  · rw [o_leni_46, List.length_map]
theorem exs_ix {v : AVal} {es : List Ex} (h : RV 4 v (es.map Ex.a)) {i : Nat} {e : Ex} (he : es[i]? = some e) : indexA E.P 46 v (.lit (.int .i64 (i : Int))) = some (.iptr e.a) := by
  rcases h with ⟨rfl, h⟩ | ⟨c, rfl⟩
  · obtain rfl : es = [] := List.map_eq_nil_iff.1 h
    cases he
  · have hi := (List.getElem?_eq_some_iff.1 he).1
    rw [o_ixi_46, if_pos ⟨by omega, by rw [List.length_map]; omega, rfl⟩, Int.toNat_natCast, List.getElem?_map, he]
    rfl
theorem Ex.form (e : Ex) : ∃ a0 a1 a2 a3 : AVal, e.a = .agg [a0, a1, a2, a3] ∧ a0.isCell = true ∧ a1.isCell = true ∧ a2.isCell = true ∧ a3.isCell = true := by
  obtain ⟨op, re, im, nm, ps⟩ := e
  refine ⟨_, _, _, _, rfl, rfl, rfl, rfl, ?_⟩
  cases ps <;> rfl
set_option maxHeartbeats 8000000 in
/-- a statement's text, by its kind -/
theorem stmt_sw {k : Nat} {reg name : List UInt8} {idx : Bool} {body els : List St} {pos : Nat} {ve vb vl : AVal} (hk : k ≤ 16) (hvb : IsSts vb body) (hvl : IsSts vl els) (hgb : Sts.good body) (hge : Sts.good els) (hbl : body.length ≤ 100000) (hel : els.length ≤ 100000) (hb : BlT body) (he : BlT els)
    (f : Nat → AVal) (base st : ASt) {p1 : Nat} {nm al : List UInt8} (q1 : f 1 = .ptr p1 0) (q6 : f 6 = .lit (.string ⟨nm.toArray⟩)) (q7 : f 7 = .lit (.string ⟨al.toArray⟩)) (q8 : f 8 = .lit (.string ⟨(kwd k).toArray⟩))
    (h1 : st.heap p1 = some (.cells [.lit (.int .i64 (k : Int)), .lit (.string ⟨reg.toArray⟩), .lit (.string ⟨name.toArray⟩), .lit (.bool idx), ve, vb, vl, .lit (.int .i64 (pos : Int))])) (hp : p1 < st.ctr) (gr : Gr base st)
    (T : List UInt8) (hT : T = stX k reg nm al (blT (Sts.t body)) (elT els)) (hl : T.length ≤ 1000000) (kk : List Frm) :
    Gc E 44 N44_18 (.code N44_57 :: kk) (RQ E Tryd.f44 fun r st' => r = .returned (str T) ∧ Gr base st') (Sl 125 f) st := by
  have hkl := kwd_len hk
  unfold stX at hT
  by_cases k0 : k = 0
  · rw [if_pos k0] at hT
    rw [hT] at hl
    simp only [List.length_append, List.length_cons, List.length_nil] at hl
    have n1 := sadd reg [32, 61, 32] (by simp; omega)
    have n2 := sadd (reg ++ [32, 61, 32]) al (by simp; omega)
    have n3 := sadd (reg ++ [32, 61, 32] ++ al) [59, 10] (by simp; omega)
    clear hb he
    repeat' (first | (first | apply ifk_og | apply ifk_gg | apply ifk_go | apply ifk_ss) <;> intro hc | simp (maxSteps := 5000000) (disch := first | assumption | omega | (simp only [ASt.set_ctr, ASt.new_ctr] <;> omega)) only [r44_0.down, r44_1.down, r44_2.down, r44_3.down, r44_4.down, r44_5.down, n44_8, n44_7, r44_6.down, n44_9, n44_6, n44_5, l44_0, n44_4, n44_3, r44_7.down, r44_8.down, r44_9.down, n44_14, n44_13, n44_12, r44_10.down, r44_11.down, r44_12.down, r44_13.down, r44_14.down, n44_22, r44_15.down, r44_16.down, n44_26, n44_25, n44_24, r44_17.down, n44_28, r44_18.down, r44_19.down, r44_20.down, n44_34, n44_33, n44_32, n44_31, n44_30, r44_21.down, n44_36, r44_22.down, r44_23.down, n44_39, r44_24.down, r44_25.down, n44_43, n44_42, n44_41, r44_26.down, n44_45, r44_27.down, r44_28.down, n44_49, n44_48, n44_47, r44_29.down, r44_30.down, r44_31.down, n44_55, n44_54, n44_53, r44_32.down, n44_56, n44_52, n44_51, n44_50, n44_46, n44_44, n44_40, n44_38, n44_37, n44_35, n44_29, n44_27, n44_23, n44_21, n44_20, n44_19, n44_18, r44_33.down, n44_57, n44_17, n44_16, n44_15, n44_11, n44_10, n44_2, n44_1, n44_0, rq_44, o_fap_63_4, o_fai_63_4, o_ldp_46, o_ldi_46, o_leni_46, o_lens_46, o_lenn_46, o_ixi_46, o_ixs_46, o_ldp_48, o_ldi_48, o_al_48, o_st_48, cf_53, hint_44_20, o_bs_24_1, hint_44_21, bi_app, o_fap_63_2, o_fai_63_2, o_ldp_9, o_ldi_9, o_fap_63_3, o_fai_63_3, o_ldp_4, o_ldi_4, add_str, o_ixi_24, o_ixs_24, o_sl_24_lh, o_sl_24_l, o_sl_24_h, cf_39, hint_44_38, o_bs_24_17, o_fap_63_0, o_fai_63_0, o_ldp_26, o_ldi_26, o_fap_63_1, o_fai_63_1, o_fap_63_5, o_fai_63_5, o_ldp_39, o_ldi_39, cf_31, o_fap_63_6, o_fai_63_6, o_leni_39, o_lens_39, o_lenn_39, AVal.undef, zaa, zab, aeval, aput, ahint, absOf, flat, nilCheckA, ANext.ofP, evals, evalPs, evalO, zac, zad, zae, zaf, ↓reduceIte, Nat.reduceLT, Nat.reduceEqDiff, reduceCtorEq, zag, zah, zai, zaj, zak, Nat.reduceAdd, Nat.reduceLeDiff, callA, zal, zam, zan, zao, zap, zaq, zar, zas, zat, zau, evalV, yieldB, zav, zaw, zax, zay, zaz, zba, zbb, zbc, zbd, zbe, zbf, zbg, zbh, zbi, zbj, zbk, zbl, zbm, zbn, zbo, zbp, zbq, zbr, extractA, zbs, zbt, zbu, zbv, zbw, zbx, zby, zbz, zca, zcb, zcc, zcd, zce, zcf, zcg, zch, zci, zcj, zck, zcl, zcm, zcn, zco, zcp, zcq, zcr, zcs, zct, zcu, zcv, zcw, zcx, zcy, zcz, zda, zdb, zdc, zdd, zde, zdf, zdg, zdh, zdi, zdj, boxA, newA, zdk, zdl, zdm, zdn, zdo, zdp, zdq, zdr, zds, zdt, zdu, zdv, zdw, fillA, putL, setsE, zdx, zdy, zdz, zea, zeb, zec, zed, zee, zef, zeg, zeh, zei, zej, Nat.reduceBEq, Nat.reduceBNe, zek, zel, zem, zen, Nat.reduceMul, zeo, zep, zeq, zer, zes, zet, zeu, zev, zew, zex, zey, zez, zfa, zfb, zfc, zfd, zfe, zff, zfg, zfh, zfi, zfj, zfk, zfl, zfm, zfn, zfo, zfp, zfq, zfr, zfs, zft, zfu, zfv, zfw, zfx, zfy, zfz, zga, zgb, zgc, zgd, zge, zgf, zgg, zgh, zgi, zgj, ne_eq, zgk, zgl, zgm, zgn, zgo, gt_iff_lt, ge_iff_le, zgp, zgq, zgr, zgs, zgt, zgu, zgv, zgw, zgx, zgy, zgz, zha, zhb, zhc, zhd, zhe, zhf, zhg, zhh, zhi, zhj, zhk, zhl, zhm, zhn, zho, zhp, zhq, gp_opg, zhr, zhs, zht, zhu, zhv, zhw, zhx, zhy, stillD, Int.reduceToNat, zhz, zia, q1,q6,q7,q8,h1,n1,n2,n3])
    exact ⟨by rw [hT]; rfl, gr⟩
  rw [if_neg k0] at hT
  by_cases k1 : k = 1 ∨ k = 8
  · rw [if_pos k1] at hT
    rw [hT] at hl
    simp only [List.length_append, List.length_cons, List.length_nil] at hl
    have n1 := sadd reg [32, 61, 32] (by simp; omega)
    have n2 := sadd (reg ++ [32, 61, 32]) (kwd k) (by simp; omega)
    have n3 := sadd (reg ++ [32, 61, 32] ++ kwd k) [32] (by simp; omega)
    have n4 := sadd (reg ++ [32, 61, 32] ++ kwd k ++ [32]) nm (by simp; omega)
    have n5 := sadd (reg ++ [32, 61, 32] ++ kwd k ++ [32] ++ nm) [59, 10] (by simp; omega)
    clear hb he
    rcases k1 with k1 | k1
    all_goals repeat' (first | (first | apply ifk_og | apply ifk_gg | apply ifk_go | apply ifk_ss) <;> intro hc | simp (maxSteps := 5000000) (disch := first | assumption | omega | (simp only [ASt.set_ctr, ASt.new_ctr] <;> omega)) only [r44_0.down, r44_1.down, r44_2.down, r44_3.down, r44_4.down, r44_5.down, n44_8, n44_7, r44_6.down, n44_9, n44_6, n44_5, l44_0, n44_4, n44_3, r44_7.down, r44_8.down, r44_9.down, n44_14, n44_13, n44_12, r44_10.down, r44_11.down, r44_12.down, r44_13.down, r44_14.down, n44_22, r44_15.down, r44_16.down, n44_26, n44_25, n44_24, r44_17.down, n44_28, r44_18.down, r44_19.down, r44_20.down, n44_34, n44_33, n44_32, n44_31, n44_30, r44_21.down, n44_36, r44_22.down, r44_23.down, n44_39, r44_24.down, r44_25.down, n44_43, n44_42, n44_41, r44_26.down, n44_45, r44_27.down, r44_28.down, n44_49, n44_48, n44_47, r44_29.down, r44_30.down, r44_31.down, n44_55, n44_54, n44_53, r44_32.down, n44_56, n44_52, n44_51, n44_50, n44_46, n44_44, n44_40, n44_38, n44_37, n44_35, n44_29, n44_27, n44_23, n44_21, n44_20, n44_19, n44_18, r44_33.down, n44_57, n44_17, n44_16, n44_15, n44_11, n44_10, n44_2, n44_1, n44_0, rq_44, o_fap_63_4, o_fai_63_4, o_ldp_46, o_ldi_46, o_leni_46, o_lens_46, o_lenn_46, o_ixi_46, o_ixs_46, o_ldp_48, o_ldi_48, o_al_48, o_st_48, cf_53, hint_44_20, o_bs_24_1, hint_44_21, bi_app, o_fap_63_2, o_fai_63_2, o_ldp_9, o_ldi_9, o_fap_63_3, o_fai_63_3, o_ldp_4, o_ldi_4, add_str, o_ixi_24, o_ixs_24, o_sl_24_lh, o_sl_24_l, o_sl_24_h, cf_39, hint_44_38, o_bs_24_17, o_fap_63_0, o_fai_63_0, o_ldp_26, o_ldi_26, o_fap_63_1, o_fai_63_1, o_fap_63_5, o_fai_63_5, o_ldp_39, o_ldi_39, cf_31, o_fap_63_6, o_fai_63_6, o_leni_39, o_lens_39, o_lenn_39, AVal.undef, zaa, zab, aeval, aput, ahint, absOf, flat, nilCheckA, ANext.ofP, evals, evalPs, evalO, zac, zad, zae, zaf, ↓reduceIte, Nat.reduceLT, Nat.reduceEqDiff, reduceCtorEq, zag, zah, zai, zaj, zak, Nat.reduceAdd, Nat.reduceLeDiff, callA, zal, zam, zan, zao, zap, zaq, zar, zas, zat, zau, evalV, yieldB, zav, zaw, zax, zay, zaz, zba, zbb, zbc, zbd, zbe, zbf, zbg, zbh, zbi, zbj, zbk, zbl, zbm, zbn, zbo, zbp, zbq, zbr, extractA, zbs, zbt, zbu, zbv, zbw, zbx, zby, zbz, zca, zcb, zcc, zcd, zce, zcf, zcg, zch, zci, zcj, zck, zcl, zcm, zcn, zco, zcp, zcq, zcr, zcs, zct, zcu, zcv, zcw, zcx, zcy, zcz, zda, zdb, zdc, zdd, zde, zdf, zdg, zdh, zdi, zdj, boxA, newA, zdk, zdl, zdm, zdn, zdo, zdp, zdq, zdr, zds, zdt, zdu, zdv, zdw, fillA, putL, setsE, zdx, zdy, zdz, zea, zeb, zec, zed, zee, zef, zeg, zeh, zei, zej, Nat.reduceBEq, Nat.reduceBNe, zek, zel, zem, zen, Nat.reduceMul, zeo, zep, zeq, zer, zes, zet, zeu, zev, zew, zex, zey, zez, zfa, zfb, zfc, zfd, zfe, zff, zfg, zfh, zfi, zfj, zfk, zfl, zfm, zfn, zfo, zfp, zfq, zfr, zfs, zft, zfu, zfv, zfw, zfx, zfy, zfz, zga, zgb, zgc, zgd, zge, zgf, zgg, zgh, zgi, zgj, ne_eq, zgk, zgl, zgm, zgn, zgo, gt_iff_lt, ge_iff_le, zgp, zgq, zgr, zgs, zgt, zgu, zgv, zgw, zgx, zgy, zgz, zha, zhb, zhc, zhd, zhe, zhf, zhg, zhh, zhi, zhj, zhk, zhl, zhm, zhn, zho, zhp, zhq, gp_opg, zhr, zhs, zht, zhu, zhv, zhw, zhx, zhy, stillD, Int.reduceToNat, zhz, zia, q1,q6,q7,q8,h1,n1,n2,n3,n4,n5])
    all_goals exact ⟨by rw [hT]; rfl, gr⟩
  rw [if_neg k1] at hT
  by_cases k2 : 3 ≤ k ∧ k ≤ 5
  · rw [if_pos k2] at hT
    rw [hT] at hl
    simp only [List.length_append, List.length_cons, List.length_nil] at hl
    have n1 := sadd reg [32, 61, 32] (by simp; omega)
    have n2 := sadd (reg ++ [32, 61, 32]) (kwd k) (by simp; omega)
    have n3 := sadd (reg ++ [32, 61, 32] ++ kwd k) [32] (by simp; omega)
    have n4 := sadd (reg ++ [32, 61, 32] ++ kwd k ++ [32]) nm (by simp; omega)
    have n5 := sadd (reg ++ [32, 61, 32] ++ kwd k ++ [32] ++ nm) [44, 32] (by simp; omega)
    have n6 := sadd (reg ++ [32, 61, 32] ++ kwd k ++ [32] ++ nm ++ [44, 32]) al (by simp; omega)
    have n7 := sadd (reg ++ [32, 61, 32] ++ kwd k ++ [32] ++ nm ++ [44, 32] ++ al) [59, 10] (by simp; omega)
    clear hb he
    have k2' : k = 3 ∨ k = 4 ∨ k = 5 := by omega
    rcases k2' with k2 | k2 | k2
    all_goals repeat' (first | (first | apply ifk_og | apply ifk_gg | apply ifk_go | apply ifk_ss) <;> intro hc | simp (maxSteps := 5000000) (disch := first | assumption | omega | (simp only [ASt.set_ctr, ASt.new_ctr] <;> omega)) only [r44_0.down, r44_1.down, r44_2.down, r44_3.down, r44_4.down, r44_5.down, n44_8, n44_7, r44_6.down, n44_9, n44_6, n44_5, l44_0, n44_4, n44_3, r44_7.down, r44_8.down, r44_9.down, n44_14, n44_13, n44_12, r44_10.down, r44_11.down, r44_12.down, r44_13.down, r44_14.down, n44_22, r44_15.down, r44_16.down, n44_26, n44_25, n44_24, r44_17.down, n44_28, r44_18.down, r44_19.down, r44_20.down, n44_34, n44_33, n44_32, n44_31, n44_30, r44_21.down, n44_36, r44_22.down, r44_23.down, n44_39, r44_24.down, r44_25.down, n44_43, n44_42, n44_41, r44_26.down, n44_45, r44_27.down, r44_28.down, n44_49, n44_48, n44_47, r44_29.down, r44_30.down, r44_31.down, n44_55, n44_54, n44_53, r44_32.down, n44_56, n44_52, n44_51, n44_50, n44_46, n44_44, n44_40, n44_38, n44_37, n44_35, n44_29, n44_27, n44_23, n44_21, n44_20, n44_19, n44_18, r44_33.down, n44_57, n44_17, n44_16, n44_15, n44_11, n44_10, n44_2, n44_1, n44_0, rq_44, o_fap_63_4, o_fai_63_4, o_ldp_46, o_ldi_46, o_leni_46, o_lens_46, o_lenn_46, o_ixi_46, o_ixs_46, o_ldp_48, o_ldi_48, o_al_48, o_st_48, cf_53, hint_44_20, o_bs_24_1, hint_44_21, bi_app, o_fap_63_2, o_fai_63_2, o_ldp_9, o_ldi_9, o_fap_63_3, o_fai_63_3, o_ldp_4, o_ldi_4, add_str, o_ixi_24, o_ixs_24, o_sl_24_lh, o_sl_24_l, o_sl_24_h, cf_39, hint_44_38, o_bs_24_17, o_fap_63_0, o_fai_63_0, o_ldp_26, o_ldi_26, o_fap_63_1, o_fai_63_1, o_fap_63_5, o_fai_63_5, o_ldp_39, o_ldi_39, cf_31, o_fap_63_6, o_fai_63_6, o_leni_39, o_lens_39, o_lenn_39, AVal.undef, zaa, zab, aeval, aput, ahint, absOf, flat, nilCheckA, ANext.ofP, evals, evalPs, evalO, zac, zad, zae, zaf, ↓reduceIte, Nat.reduceLT, Nat.reduceEqDiff, reduceCtorEq, zag, zah, zai, zaj, zak, Nat.reduceAdd, Nat.reduceLeDiff, callA, zal, zam, zan, zao, zap, zaq, zar, zas, zat, zau, evalV, yieldB, zav, zaw, zax, zay, zaz, zba, zbb, zbc, zbd, zbe, zbf, zbg, zbh, zbi, zbj, zbk, zbl, zbm, zbn, zbo, zbp, zbq, zbr, extractA, zbs, zbt, zbu, zbv, zbw, zbx, zby, zbz, zca, zcb, zcc, zcd, zce, zcf, zcg, zch, zci, zcj, zck, zcl, zcm, zcn, zco, zcp, zcq, zcr, zcs, zct, zcu, zcv, zcw, zcx, zcy, zcz, zda, zdb, zdc, zdd, zde, zdf, zdg, zdh, zdi, zdj, boxA, newA, zdk, zdl, zdm, zdn, zdo, zdp, zdq, zdr, zds, zdt, zdu, zdv, zdw, fillA, putL, setsE, zdx, zdy, zdz, zea, zeb, zec, zed, zee, zef, zeg, zeh, zei, zej, Nat.reduceBEq, Nat.reduceBNe, zek, zel, zem, zen, Nat.reduceMul, zeo, zep, zeq, zer, zes, zet, zeu, zev, zew, zex, zey, zez, zfa, zfb, zfc, zfd, zfe, zff, zfg, zfh, zfi, zfj, zfk, zfl, zfm, zfn, zfo, zfp, zfq, zfr, zfs, zft, zfu, zfv, zfw, zfx, zfy, zfz, zga, zgb, zgc, zgd, zge, zgf, zgg, zgh, zgi, zgj, ne_eq, zgk, zgl, zgm, zgn, zgo, gt_iff_lt, ge_iff_le, zgp, zgq, zgr, zgs, zgt, zgu, zgv, zgw, zgx, zgy, zgz, zha, zhb, zhc, zhd, zhe, zhf, zhg, zhh, zhi, zhj, zhk, zhl, zhm, zhn, zho, zhp, zhq, gp_opg, zhr, zhs, zht, zhu, zhv, zhw, zhx, zhy, stillD, Int.reduceToNat, zhz, zia, q1,q6,q7,q8,h1,n1,n2,n3,n4,n5,n6,n7])
    all_goals exact ⟨by rw [hT]; rfl, gr⟩
  rw [if_neg k2] at hT
  by_cases k3 : k = 2
  · rw [if_pos k3] at hT
    rw [hT] at hl
    simp only [List.length_append, List.length_cons, List.length_nil] at hl
    have n1 := sadd [115, 116, 111, 114, 101, 32] nm (by simp; omega)
    have n2 := sadd (115 :: 116 :: 111 :: 114 :: 101 :: 32 :: nm) [44, 32] (by simp; omega)
    have n3 := sadd (115 :: 116 :: 111 :: 114 :: 101 :: 32 :: (nm ++ [44, 32])) al (by simp; omega)
    have n4 := sadd (115 :: 116 :: 111 :: 114 :: 101 :: 32 :: (nm ++ [44, 32] ++ al)) [59, 10] (by simp; omega)
    clear hb he
    repeat' (first | (first | apply ifk_og | apply ifk_gg | apply ifk_go | apply ifk_ss) <;> intro hc | simp (maxSteps := 5000000) (disch := first | assumption | omega | (simp only [ASt.set_ctr, ASt.new_ctr] <;> omega)) only [r44_0.down, r44_1.down, r44_2.down, r44_3.down, r44_4.down, r44_5.down, n44_8, n44_7, r44_6.down, n44_9, n44_6, n44_5, l44_0, n44_4, n44_3, r44_7.down, r44_8.down, r44_9.down, n44_14, n44_13, n44_12, r44_10.down, r44_11.down, r44_12.down, r44_13.down, r44_14.down, n44_22, r44_15.down, r44_16.down, n44_26, n44_25, n44_24, r44_17.down, n44_28, r44_18.down, r44_19.down, r44_20.down, n44_34, n44_33, n44_32, n44_31, n44_30, r44_21.down, n44_36, r44_22.down, r44_23.down, n44_39, r44_24.down, r44_25.down, n44_43, n44_42, n44_41, r44_26.down, n44_45, r44_27.down, r44_28.down, n44_49, n44_48, n44_47, r44_29.down, r44_30.down, r44_31.down, n44_55, n44_54, n44_53, r44_32.down, n44_56, n44_52, n44_51, n44_50, n44_46, n44_44, n44_40, n44_38, n44_37, n44_35, n44_29, n44_27, n44_23, n44_21, n44_20, n44_19, n44_18, r44_33.down, n44_57, n44_17, n44_16, n44_15, n44_11, n44_10, n44_2, n44_1, n44_0, rq_44, o_fap_63_4, o_fai_63_4, o_ldp_46, o_ldi_46, o_leni_46, o_lens_46, o_lenn_46, o_ixi_46, o_ixs_46, o_ldp_48, o_ldi_48, o_al_48, o_st_48, cf_53, hint_44_20, o_bs_24_1, hint_44_21, bi_app, o_fap_63_2, o_fai_63_2, o_ldp_9, o_ldi_9, o_fap_63_3, o_fai_63_3, o_ldp_4, o_ldi_4, add_str, o_ixi_24, o_ixs_24, o_sl_24_lh, o_sl_24_l, o_sl_24_h, cf_39, hint_44_38, o_bs_24_17, o_fap_63_0, o_fai_63_0, o_ldp_26, o_ldi_26, o_fap_63_1, o_fai_63_1, o_fap_63_5, o_fai_63_5, o_ldp_39, o_ldi_39, cf_31, o_fap_63_6, o_fai_63_6, o_leni_39, o_lens_39, o_lenn_39, AVal.undef, zaa, zab, aeval, aput, ahint, absOf, flat, nilCheckA, ANext.ofP, evals, evalPs, evalO, zac, zad, zae, zaf, ↓reduceIte, Nat.reduceLT, Nat.reduceEqDiff, reduceCtorEq, zag, zah, zai, zaj, zak, Nat.reduceAdd, Nat.reduceLeDiff, callA, zal, zam, zan, zao, zap, zaq, zar, zas, zat, zau, evalV, yieldB, zav, zaw, zax, zay, zaz, zba, zbb, zbc, zbd, zbe, zbf, zbg, zbh, zbi, zbj, zbk, zbl, zbm, zbn, zbo, zbp, zbq, zbr, extractA, zbs, zbt, zbu, zbv, zbw, zbx, zby, zbz, zca, zcb, zcc, zcd, zce, zcf, zcg, zch, zci, zcj, zck, zcl, zcm, zcn, zco, zcp, zcq, zcr, zcs, zct, zcu, zcv, zcw, zcx, zcy, zcz, zda, zdb, zdc, zdd, zde, zdf, zdg, zdh, zdi, zdj, boxA, newA, zdk, zdl, zdm, zdn, zdo, zdp, zdq, zdr, zds, zdt, zdu, zdv, zdw, fillA, putL, setsE, zdx, zdy, zdz, zea, zeb, zec, zed, zee, zef, zeg, zeh, zei, zej, Nat.reduceBEq, Nat.reduceBNe, zek, zel, zem, zen, Nat.reduceMul, zeo, zep, zeq, zer, zes, zet, zeu, zev, zew, zex, zey, zez, zfa, zfb, zfc, zfd, zfe, zff, zfg, zfh, zfi, zfj, zfk, zfl, zfm, zfn, zfo, zfp, zfq, zfr, zfs, zft, zfu, zfv, zfw, zfx, zfy, zfz, zga, zgb, zgc, zgd, zge, zgf, zgg, zgh, zgi, zgj, ne_eq, zgk, zgl, zgm, zgn, zgo, gt_iff_lt, ge_iff_le, zgp, zgq, zgr, zgs, zgt, zgu, zgv, zgw, zgx, zgy, zgz, zha, zhb, zhc, zhd, zhe, zhf, zhg, zhh, zhi, zhj, zhk, zhl, zhm, zhn, zho, zhp, zhq, gp_opg, zhr, zhs, zht, zhu, zhv, zhw, zhx, zhy, stillD, Int.reduceToNat, zhz, zia, q1,q6,q7,q8,h1,n1,n2,n3,n4])
    exact ⟨by rw [hT]; rfl, gr⟩
  rw [if_neg k3] at hT
  by_cases k4 : k = 13 ∨ k = 14
  · rw [if_pos k4] at hT
    rw [hT] at hl
    simp only [List.length_append, List.length_cons, List.length_nil] at hl
    have n1 := sadd (kwd k) [32] (by simp; omega)
    have n2 := sadd (kwd k ++ [32]) al (by simp; omega)
    have n3 := sadd (kwd k ++ [32] ++ al) [59, 10] (by simp; omega)
    clear hb he
    rcases k4 with k4 | k4
    all_goals repeat' (first | (first | apply ifk_og | apply ifk_gg | apply ifk_go | apply ifk_ss) <;> intro hc | simp (maxSteps := 5000000) (disch := first | assumption | omega | (simp only [ASt.set_ctr, ASt.new_ctr] <;> omega)) only [r44_0.down, r44_1.down, r44_2.down, r44_3.down, r44_4.down, r44_5.down, n44_8, n44_7, r44_6.down, n44_9, n44_6, n44_5, l44_0, n44_4, n44_3, r44_7.down, r44_8.down, r44_9.down, n44_14, n44_13, n44_12, r44_10.down, r44_11.down, r44_12.down, r44_13.down, r44_14.down, n44_22, r44_15.down, r44_16.down, n44_26, n44_25, n44_24, r44_17.down, n44_28, r44_18.down, r44_19.down, r44_20.down, n44_34, n44_33, n44_32, n44_31, n44_30, r44_21.down, n44_36, r44_22.down, r44_23.down, n44_39, r44_24.down, r44_25.down, n44_43, n44_42, n44_41, r44_26.down, n44_45, r44_27.down, r44_28.down, n44_49, n44_48, n44_47, r44_29.down, r44_30.down, r44_31.down, n44_55, n44_54, n44_53, r44_32.down, n44_56, n44_52, n44_51, n44_50, n44_46, n44_44, n44_40, n44_38, n44_37, n44_35, n44_29, n44_27, n44_23, n44_21, n44_20, n44_19, n44_18, r44_33.down, n44_57, n44_17, n44_16, n44_15, n44_11, n44_10, n44_2, n44_1, n44_0, rq_44, o_fap_63_4, o_fai_63_4, o_ldp_46, o_ldi_46, o_leni_46, o_lens_46, o_lenn_46, o_ixi_46, o_ixs_46, o_ldp_48, o_ldi_48, o_al_48, o_st_48, cf_53, hint_44_20, o_bs_24_1, hint_44_21, bi_app, o_fap_63_2, o_fai_63_2, o_ldp_9, o_ldi_9, o_fap_63_3, o_fai_63_3, o_ldp_4, o_ldi_4, add_str, o_ixi_24, o_ixs_24, o_sl_24_lh, o_sl_24_l, o_sl_24_h, cf_39, hint_44_38, o_bs_24_17, o_fap_63_0, o_fai_63_0, o_ldp_26, o_ldi_26, o_fap_63_1, o_fai_63_1, o_fap_63_5, o_fai_63_5, o_ldp_39, o_ldi_39, cf_31, o_fap_63_6, o_fai_63_6, o_leni_39, o_lens_39, o_lenn_39, AVal.undef, zaa, zab, aeval, aput, ahint, absOf, flat, nilCheckA, ANext.ofP, evals, evalPs, evalO, zac, zad, zae, zaf, ↓reduceIte, Nat.reduceLT, Nat.reduceEqDiff, reduceCtorEq, zag, zah, zai, zaj, zak, Nat.reduceAdd, Nat.reduceLeDiff, callA, zal, zam, zan, zao, zap, zaq, zar, zas, zat, zau, evalV, yieldB, zav, zaw, zax, zay, zaz, zba, zbb, zbc, zbd, zbe, zbf, zbg, zbh, zbi, zbj, zbk, zbl, zbm, zbn, zbo, zbp, zbq, zbr, extractA, zbs, zbt, zbu, zbv, zbw, zbx, zby, zbz, zca, zcb, zcc, zcd, zce, zcf, zcg, zch, zci, zcj, zck, zcl, zcm, zcn, zco, zcp, zcq, zcr, zcs, zct, zcu, zcv, zcw, zcx, zcy, zcz, zda, zdb, zdc, zdd, zde, zdf, zdg, zdh, zdi, zdj, boxA, newA, zdk, zdl, zdm, zdn, zdo, zdp, zdq, zdr, zds, zdt, zdu, zdv, zdw, fillA, putL, setsE, zdx, zdy, zdz, zea, zeb, zec, zed, zee, zef, zeg, zeh, zei, zej, Nat.reduceBEq, Nat.reduceBNe, zek, zel, zem, zen, Nat.reduceMul, zeo, zep, zeq, zer, zes, zet, zeu, zev, zew, zex, zey, zez, zfa, zfb, zfc, zfd, zfe, zff, zfg, zfh, zfi, zfj, zfk, zfl, zfm, zfn, zfo, zfp, zfq, zfr, zfs, zft, zfu, zfv, zfw, zfx, zfy, zfz, zga, zgb, zgc, zgd, zge, zgf, zgg, zgh, zgi, zgj, ne_eq, zgk, zgl, zgm, zgn, zgo, gt_iff_lt, ge_iff_le, zgp, zgq, zgr, zgs, zgt, zgu, zgv, zgw, zgx, zgy, zgz, zha, zhb, zhc, zhd, zhe, zhf, zhg, zhh, zhi, zhj, zhk, zhl, zhm, zhn, zho, zhp, zhq, gp_opg, zhr, zhs, zht, zhu, zhv, zhw, zhx, zhy, stillD, Int.reduceToNat, zhz, zia, q1,q6,q7,q8,h1,n1,n2,n3])
    all_goals exact ⟨by rw [hT]; rfl, gr⟩
  rw [if_neg k4] at hT
  by_cases k5 : k = 15 ∨ k = 16
  · rw [if_pos k5] at hT
    have LV := fun mt ty cs st => sts_len hvl mt ty cs st
    match els, hvl, hge, hel, he, hT, LV with
    | [], hvl, hge, hel, he, hT, LV =>
      simp only [elT] at hT
      rw [hT] at hl
      simp only [List.length_append, List.length_cons, List.length_nil] at hl LV
      have n1 := sadd (kwd k) [32] (by simp; omega)
      have n2 := sadd (kwd k ++ [32]) al (by simp; omega)
      have n3 := sadd (kwd k ++ [32] ++ al) (blT (Sts.t body)) (by simp; omega)
      have n4 := sadd (kwd k ++ [32] ++ al ++ blT (Sts.t body)) [10] (by simp; omega)
      have cb := fun st => hb hbl vb hvb hgb (by omega) st
      unfold str at cb
      clear hb he
      rcases k5 with k5 | k5
      all_goals repeat' (first | (first | apply ifk_og | apply ifk_gg | apply ifk_go | apply ifk_ss) <;> intro hc | simp (maxSteps := 5000000) (disch := first | assumption | omega | (simp only [ASt.set_ctr, ASt.new_ctr] <;> omega)) only [r44_0.down, r44_1.down, r44_2.down, r44_3.down, r44_4.down, r44_5.down, n44_8, n44_7, r44_6.down, n44_9, n44_6, n44_5, l44_0, n44_4, n44_3, r44_7.down, r44_8.down, r44_9.down, n44_14, n44_13, n44_12, r44_10.down, r44_11.down, r44_12.down, r44_13.down, r44_14.down, n44_22, r44_15.down, r44_16.down, n44_26, n44_25, n44_24, r44_17.down, n44_28, r44_18.down, r44_19.down, r44_20.down, n44_34, n44_33, n44_32, n44_31, n44_30, r44_21.down, n44_36, r44_22.down, r44_23.down, n44_39, r44_24.down, r44_25.down, n44_43, n44_42, n44_41, r44_26.down, n44_45, r44_27.down, r44_28.down, n44_49, n44_48, n44_47, r44_29.down, r44_30.down, r44_31.down, n44_55, n44_54, n44_53, r44_32.down, n44_56, n44_52, n44_51, n44_50, n44_46, n44_44, n44_40, n44_38, n44_37, n44_35, n44_29, n44_27, n44_23, n44_21, n44_20, n44_19, n44_18, r44_33.down, n44_57, n44_17, n44_16, n44_15, n44_11, n44_10, n44_2, n44_1, n44_0, rq_44, o_fap_63_4, o_fai_63_4, o_ldp_46, o_ldi_46, o_leni_46, o_lens_46, o_lenn_46, o_ixi_46, o_ixs_46, o_ldp_48, o_ldi_48, o_al_48, o_st_48, cf_53, hint_44_20, o_bs_24_1, hint_44_21, bi_app, o_fap_63_2, o_fai_63_2, o_ldp_9, o_ldi_9, o_fap_63_3, o_fai_63_3, o_ldp_4, o_ldi_4, add_str, o_ixi_24, o_ixs_24, o_sl_24_lh, o_sl_24_l, o_sl_24_h, cf_39, hint_44_38, o_bs_24_17, o_fap_63_0, o_fai_63_0, o_ldp_26, o_ldi_26, o_fap_63_1, o_fai_63_1, o_fap_63_5, o_fai_63_5, o_ldp_39, o_ldi_39, cf_31, o_fap_63_6, o_fai_63_6, o_leni_39, o_lens_39, o_lenn_39, AVal.undef, zaa, zab, aeval, aput, ahint, absOf, flat, nilCheckA, ANext.ofP, evals, evalPs, evalO, zac, zad, zae, zaf, ↓reduceIte, Nat.reduceLT, Nat.reduceEqDiff, reduceCtorEq, zag, zah, zai, zaj, zak, Nat.reduceAdd, Nat.reduceLeDiff, callA, zal, zam, zan, zao, zap, zaq, zar, zas, zat, zau, evalV, yieldB, zav, zaw, zax, zay, zaz, zba, zbb, zbc, zbd, zbe, zbf, zbg, zbh, zbi, zbj, zbk, zbl, zbm, zbn, zbo, zbp, zbq, zbr, extractA, zbs, zbt, zbu, zbv, zbw, zbx, zby, zbz, zca, zcb, zcc, zcd, zce, zcf, zcg, zch, zci, zcj, zck, zcl, zcm, zcn, zco, zcp, zcq, zcr, zcs, zct, zcu, zcv, zcw, zcx, zcy, zcz, zda, zdb, zdc, zdd, zde, zdf, zdg, zdh, zdi, zdj, boxA, newA, zdk, zdl, zdm, zdn, zdo, zdp, zdq, zdr, zds, zdt, zdu, zdv, zdw, fillA, putL, setsE, zdx, zdy, zdz, zea, zeb, zec, zed, zee, zef, zeg, zeh, zei, zej, Nat.reduceBEq, Nat.reduceBNe, zek, zel, zem, zen, Nat.reduceMul, zeo, zep, zeq, zer, zes, zet, zeu, zev, zew, zex, zey, zez, zfa, zfb, zfc, zfd, zfe, zff, zfg, zfh, zfi, zfj, zfk, zfl, zfm, zfn, zfo, zfp, zfq, zfr, zfs, zft, zfu, zfv, zfw, zfx, zfy, zfz, zga, zgb, zgc, zgd, zge, zgf, zgg, zgh, zgi, zgj, ne_eq, zgk, zgl, zgm, zgn, zgo, gt_iff_lt, ge_iff_le, zgp, zgq, zgr, zgs, zgt, zgu, zgv, zgw, zgx, zgy, zgz, zha, zhb, zhc, zhd, zhe, zhf, zhg, zhh, zhi, zhj, zhk, zhl, zhm, zhn, zho, zhp, zhq, gp_opg, zhr, zhs, zht, zhu, zhv, zhw, zhx, zhy, stillD, Int.reduceToNat, zhz, zia, q1,q6,q7,q8,h1,n1,n2])
      all_goals
        refine sc_ex (cb _) fun r s1 h2 => ?_
        obtain ⟨rfl, g1⟩ := h2
        have e1 := g1.at h1 hp
        repeat' (first | (first | apply ifk_og | apply ifk_gg | apply ifk_go | apply ifk_ss) <;> intro hc | simp (maxSteps := 5000000) (disch := first | assumption | omega | (simp only [ASt.set_ctr, ASt.new_ctr] <;> omega)) only [r44_0.down, r44_1.down, r44_2.down, r44_3.down, r44_4.down, r44_5.down, n44_8, n44_7, r44_6.down, n44_9, n44_6, n44_5, l44_0, n44_4, n44_3, r44_7.down, r44_8.down, r44_9.down, n44_14, n44_13, n44_12, r44_10.down, r44_11.down, r44_12.down, r44_13.down, r44_14.down, n44_22, r44_15.down, r44_16.down, n44_26, n44_25, n44_24, r44_17.down, n44_28, r44_18.down, r44_19.down, r44_20.down, n44_34, n44_33, n44_32, n44_31, n44_30, r44_21.down, n44_36, r44_22.down, r44_23.down, n44_39, r44_24.down, r44_25.down, n44_43, n44_42, n44_41, r44_26.down, n44_45, r44_27.down, r44_28.down, n44_49, n44_48, n44_47, r44_29.down, r44_30.down, r44_31.down, n44_55, n44_54, n44_53, r44_32.down, n44_56, n44_52, n44_51, n44_50, n44_46, n44_44, n44_40, n44_38, n44_37, n44_35, n44_29, n44_27, n44_23, n44_21, n44_20, n44_19, n44_18, r44_33.down, n44_57, n44_17, n44_16, n44_15, n44_11, n44_10, n44_2, n44_1, n44_0, rq_44, o_fap_63_4, o_fai_63_4, o_ldp_46, o_ldi_46, o_leni_46, o_lens_46, o_lenn_46, o_ixi_46, o_ixs_46, o_ldp_48, o_ldi_48, o_al_48, o_st_48, cf_53, hint_44_20, o_bs_24_1, hint_44_21, bi_app, o_fap_63_2, o_fai_63_2, o_ldp_9, o_ldi_9, o_fap_63_3, o_fai_63_3, o_ldp_4, o_ldi_4, add_str, o_ixi_24, o_ixs_24, o_sl_24_lh, o_sl_24_l, o_sl_24_h, cf_39, hint_44_38, o_bs_24_17, o_fap_63_0, o_fai_63_0, o_ldp_26, o_ldi_26, o_fap_63_1, o_fai_63_1, o_fap_63_5, o_fai_63_5, o_ldp_39, o_ldi_39, cf_31, o_fap_63_6, o_fai_63_6, o_leni_39, o_lens_39, o_lenn_39, AVal.undef, zaa, zab, aeval, aput, ahint, absOf, flat, nilCheckA, ANext.ofP, evals, evalPs, evalO, zac, zad, zae, zaf, ↓reduceIte, Nat.reduceLT, Nat.reduceEqDiff, reduceCtorEq, zag, zah, zai, zaj, zak, Nat.reduceAdd, Nat.reduceLeDiff, callA, zal, zam, zan, zao, zap, zaq, zar, zas, zat, zau, evalV, yieldB, zav, zaw, zax, zay, zaz, zba, zbb, zbc, zbd, zbe, zbf, zbg, zbh, zbi, zbj, zbk, zbl, zbm, zbn, zbo, zbp, zbq, zbr, extractA, zbs, zbt, zbu, zbv, zbw, zbx, zby, zbz, zca, zcb, zcc, zcd, zce, zcf, zcg, zch, zci, zcj, zck, zcl, zcm, zcn, zco, zcp, zcq, zcr, zcs, zct, zcu, zcv, zcw, zcx, zcy, zcz, zda, zdb, zdc, zdd, zde, zdf, zdg, zdh, zdi, zdj, boxA, newA, zdk, zdl, zdm, zdn, zdo, zdp, zdq, zdr, zds, zdt, zdu, zdv, zdw, fillA, putL, setsE, zdx, zdy, zdz, zea, zeb, zec, zed, zee, zef, zeg, zeh, zei, zej, Nat.reduceBEq, Nat.reduceBNe, zek, zel, zem, zen, Nat.reduceMul, zeo, zep, zeq, zer, zes, zet, zeu, zev, zew, zex, zey, zez, zfa, zfb, zfc, zfd, zfe, zff, zfg, zfh, zfi, zfj, zfk, zfl, zfm, zfn, zfo, zfp, zfq, zfr, zfs, zft, zfu, zfv, zfw, zfx, zfy, zfz, zga, zgb, zgc, zgd, zge, zgf, zgg, zgh, zgi, zgj, ne_eq, zgk, zgl, zgm, zgn, zgo, gt_iff_lt, ge_iff_le, zgp, zgq, zgr, zgs, zgt, zgu, zgv, zgw, zgx, zgy, zgz, zha, zhb, zhc, zhd, zhe, zhf, zhg, zhh, zhi, zhj, zhk, zhl, zhm, zhn, zho, zhp, zhq, gp_opg, zhr, zhs, zht, zhu, zhv, zhw, zhx, zhy, stillD, Int.reduceToNat, zhz, zia, q1,q6,q7,q8,e1,n3,n4,LV])
        exact ⟨by rw [hT]; rfl, gr.trans g1⟩
    | e :: l, hvl, hge, hel, he, hT, LV =>
      simp only [elT] at hT
      rw [hT] at hl
      simp only [List.length_append, List.length_cons, List.length_nil] at hl LV
      have het : Sts.t (e :: l) = e.t ++ Sts.t l := rfl
      have n1 := sadd (kwd k) [32] (by simp; omega)
      have n2 := sadd (kwd k ++ [32]) al (by simp; omega)
      have n3 := sadd (kwd k ++ [32] ++ al) (blT (Sts.t body)) (by simp; omega)
      have n5 := sadd [32, 101, 108, 115, 101] (blT (e.t ++ Sts.t l)) (by simp; omega)
      have n6 := sadd (kwd k ++ [32] ++ al ++ blT (Sts.t body)) (32 :: 101 :: 108 :: 115 :: 101 :: blT (e.t ++ Sts.t l)) (by simp; omega)
      have n7 := sadd (kwd k ++ [32] ++ al ++ blT (Sts.t body) ++ (32 :: 101 :: 108 :: 115 :: 101 :: blT (e.t ++ Sts.t l))) [10] (by simp; omega)
      have cb := fun st => hb hbl vb hvb hgb (by omega) st
      have ce := fun st => he hel vl hvl hge (by rw [het]; omega) st
      rw [het] at ce
      unfold str at cb ce
      clear hb he
      rcases k5 with k5 | k5
      all_goals repeat' (first | (first | apply ifk_og | apply ifk_gg | apply ifk_go | apply ifk_ss) <;> intro hc | simp (maxSteps := 5000000) (disch := first | assumption | omega | (simp only [ASt.set_ctr, ASt.new_ctr] <;> omega)) only [r44_0.down, r44_1.down, r44_2.down, r44_3.down, r44_4.down, r44_5.down, n44_8, n44_7, r44_6.down, n44_9, n44_6, n44_5, l44_0, n44_4, n44_3, r44_7.down, r44_8.down, r44_9.down, n44_14, n44_13, n44_12, r44_10.down, r44_11.down, r44_12.down, r44_13.down, r44_14.down, n44_22, r44_15.down, r44_16.down, n44_26, n44_25, n44_24, r44_17.down, n44_28, r44_18.down, r44_19.down, r44_20.down, n44_34, n44_33, n44_32, n44_31, n44_30, r44_21.down, n44_36, r44_22.down, r44_23.down, n44_39, r44_24.down, r44_25.down, n44_43, n44_42, n44_41, r44_26.down, n44_45, r44_27.down, r44_28.down, n44_49, n44_48, n44_47, r44_29.down, r44_30.down, r44_31.down, n44_55, n44_54, n44_53, r44_32.down, n44_56, n44_52, n44_51, n44_50, n44_46, n44_44, n44_40, n44_38, n44_37, n44_35, n44_29, n44_27, n44_23, n44_21, n44_20, n44_19, n44_18, r44_33.down, n44_57, n44_17, n44_16, n44_15, n44_11, n44_10, n44_2, n44_1, n44_0, rq_44, o_fap_63_4, o_fai_63_4, o_ldp_46, o_ldi_46, o_leni_46, o_lens_46, o_lenn_46, o_ixi_46, o_ixs_46, o_ldp_48, o_ldi_48, o_al_48, o_st_48, cf_53, hint_44_20, o_bs_24_1, hint_44_21, bi_app, o_fap_63_2, o_fai_63_2, o_ldp_9, o_ldi_9, o_fap_63_3, o_fai_63_3, o_ldp_4, o_ldi_4, add_str, o_ixi_24, o_ixs_24, o_sl_24_lh, o_sl_24_l, o_sl_24_h, cf_39, hint_44_38, o_bs_24_17, o_fap_63_0, o_fai_63_0, o_ldp_26, o_ldi_26, o_fap_63_1, o_fai_63_1, o_fap_63_5, o_fai_63_5, o_ldp_39, o_ldi_39, cf_31, o_fap_63_6, o_fai_63_6, o_leni_39, o_lens_39, o_lenn_39, AVal.undef, zaa, zab, aeval, aput, ahint, absOf, flat, nilCheckA, ANext.ofP, evals, evalPs, evalO, zac, zad, zae, zaf, ↓reduceIte, Nat.reduceLT, Nat.reduceEqDiff, reduceCtorEq, zag, zah, zai, zaj, zak, Nat.reduceAdd, Nat.reduceLeDiff, callA, zal, zam, zan, zao, zap, zaq, zar, zas, zat, zau, evalV, yieldB, zav, zaw, zax, zay, zaz, zba, zbb, zbc, zbd, zbe, zbf, zbg, zbh, zbi, zbj, zbk, zbl, zbm, zbn, zbo, zbp, zbq, zbr, extractA, zbs, zbt, zbu, zbv, zbw, zbx, zby, zbz, zca, zcb, zcc, zcd, zce, zcf, zcg, zch, zci, zcj, zck, zcl, zcm, zcn, zco, zcp, zcq, zcr, zcs, zct, zcu, zcv, zcw, zcx, zcy, zcz, zda, zdb, zdc, zdd, zde, zdf, zdg, zdh, zdi, zdj, boxA, newA, zdk, zdl, zdm, zdn, zdo, zdp, zdq, zdr, zds, zdt, zdu, zdv, zdw, fillA, putL, setsE, zdx, zdy, zdz, zea, zeb, zec, zed, zee, zef, zeg, zeh, zei, zej, Nat.reduceBEq, Nat.reduceBNe, zek, zel, zem, zen, Nat.reduceMul, zeo, zep, zeq, zer, zes, zet, zeu, zev, zew, zex, zey, zez, zfa, zfb, zfc, zfd, zfe, zff, zfg, zfh, zfi, zfj, zfk, zfl, zfm, zfn, zfo, zfp, zfq, zfr, zfs, zft, zfu, zfv, zfw, zfx, zfy, zfz, zga, zgb, zgc, zgd, zge, zgf, zgg, zgh, zgi, zgj, ne_eq, zgk, zgl, zgm, zgn, zgo, gt_iff_lt, ge_iff_le, zgp, zgq, zgr, zgs, zgt, zgu, zgv, zgw, zgx, zgy, zgz, zha, zhb, zhc, zhd, zhe, zhf, zhg, zhh, zhi, zhj, zhk, zhl, zhm, zhn, zho, zhp, zhq, gp_opg, zhr, zhs, zht, zhu, zhv, zhw, zhx, zhy, stillD, Int.reduceToNat, zhz, zia, q1,q6,q7,q8,h1,n1,n2])
      all_goals
        refine sc_ex (cb _) fun r s1 h2 => ?_
        obtain ⟨rfl, g1⟩ := h2
        have e1 := g1.at h1 hp
        repeat' (first | (first | apply ifk_og | apply ifk_gg | apply ifk_go | apply ifk_ss) <;> intro hc | simp (maxSteps := 5000000) (disch := first | assumption | omega | (simp only [ASt.set_ctr, ASt.new_ctr] <;> omega)) only [r44_0.down, r44_1.down, r44_2.down, r44_3.down, r44_4.down, r44_5.down, n44_8, n44_7, r44_6.down, n44_9, n44_6, n44_5, l44_0, n44_4, n44_3, r44_7.down, r44_8.down, r44_9.down, n44_14, n44_13, n44_12, r44_10.down, r44_11.down, r44_12.down, r44_13.down, r44_14.down, n44_22, r44_15.down, r44_16.down, n44_26, n44_25, n44_24, r44_17.down, n44_28, r44_18.down, r44_19.down, r44_20.down, n44_34, n44_33, n44_32, n44_31, n44_30, r44_21.down, n44_36, r44_22.down, r44_23.down, n44_39, r44_24.down, r44_25.down, n44_43, n44_42, n44_41, r44_26.down, n44_45, r44_27.down, r44_28.down, n44_49, n44_48, n44_47, r44_29.down, r44_30.down, r44_31.down, n44_55, n44_54, n44_53, r44_32.down, n44_56, n44_52, n44_51, n44_50, n44_46, n44_44, n44_40, n44_38, n44_37, n44_35, n44_29, n44_27, n44_23, n44_21, n44_20, n44_19, n44_18, r44_33.down, n44_57, n44_17, n44_16, n44_15, n44_11, n44_10, n44_2, n44_1, n44_0, rq_44, o_fap_63_4, o_fai_63_4, o_ldp_46, o_ldi_46, o_leni_46, o_lens_46, o_lenn_46, o_ixi_46, o_ixs_46, o_ldp_48, o_ldi_48, o_al_48, o_st_48, cf_53, hint_44_20, o_bs_24_1, hint_44_21, bi_app, o_fap_63_2, o_fai_63_2, o_ldp_9, o_ldi_9, o_fap_63_3, o_fai_63_3, o_ldp_4, o_ldi_4, add_str, o_ixi_24, o_ixs_24, o_sl_24_lh, o_sl_24_l, o_sl_24_h, cf_39, hint_44_38, o_bs_24_17, o_fap_63_0, o_fai_63_0, o_ldp_26, o_ldi_26, o_fap_63_1, o_fai_63_1, o_fap_63_5, o_fai_63_5, o_ldp_39, o_ldi_39, cf_31, o_fap_63_6, o_fai_63_6, o_leni_39, o_lens_39, o_lenn_39, AVal.undef, zaa, zab, aeval, aput, ahint, absOf, flat, nilCheckA, ANext.ofP, evals, evalPs, evalO, zac, zad, zae, zaf, ↓reduceIte, Nat.reduceLT, Nat.reduceEqDiff, reduceCtorEq, zag, zah, zai, zaj, zak, Nat.reduceAdd, Nat.reduceLeDiff, callA, zal, zam, zan, zao, zap, zaq, zar, zas, zat, zau, evalV, yieldB, zav, zaw, zax, zay, zaz, zba, zbb, zbc, zbd, zbe, zbf, zbg, zbh, zbi, zbj, zbk, zbl, zbm, zbn, zbo, zbp, zbq, zbr, extractA, zbs, zbt, zbu, zbv, zbw, zbx, zby, zbz, zca, zcb, zcc, zcd, zce, zcf, zcg, zch, zci, zcj, zck, zcl, zcm, zcn, zco, zcp, zcq, zcr, zcs, zct, zcu, zcv, zcw, zcx, zcy, zcz, zda, zdb, zdc, zdd, zde, zdf, zdg, zdh, zdi, zdj, boxA, newA, zdk, zdl, zdm, zdn, zdo, zdp, zdq, zdr, zds, zdt, zdu, zdv, zdw, fillA, putL, setsE, zdx, zdy, zdz, zea, zeb, zec, zed, zee, zef, zeg, zeh, zei, zej, Nat.reduceBEq, Nat.reduceBNe, zek, zel, zem, zen, Nat.reduceMul, zeo, zep, zeq, zer, zes, zet, zeu, zev, zew, zex, zey, zez, zfa, zfb, zfc, zfd, zfe, zff, zfg, zfh, zfi, zfj, zfk, zfl, zfm, zfn, zfo, zfp, zfq, zfr, zfs, zft, zfu, zfv, zfw, zfx, zfy, zfz, zga, zgb, zgc, zgd, zge, zgf, zgg, zgh, zgi, zgj, ne_eq, zgk, zgl, zgm, zgn, zgo, gt_iff_lt, ge_iff_le, zgp, zgq, zgr, zgs, zgt, zgu, zgv, zgw, zgx, zgy, zgz, zha, zhb, zhc, zhd, zhe, zhf, zhg, zhh, zhi, zhj, zhk, zhl, zhm, zhn, zho, zhp, zhq, gp_opg, zhr, zhs, zht, zhu, zhv, zhw, zhx, zhy, stillD, Int.reduceToNat, zhz, zia, q1,q6,q7,q8,e1,n3,LV])
        refine sc_ex (ce _) fun r s2 h2 => ?_
        obtain ⟨rfl, g2⟩ := h2
        repeat' (first | (first | apply ifk_og | apply ifk_gg | apply ifk_go | apply ifk_ss) <;> intro hc | simp (maxSteps := 5000000) (disch := first | assumption | omega | (simp only [ASt.set_ctr, ASt.new_ctr] <;> omega)) only [r44_0.down, r44_1.down, r44_2.down, r44_3.down, r44_4.down, r44_5.down, n44_8, n44_7, r44_6.down, n44_9, n44_6, n44_5, l44_0, n44_4, n44_3, r44_7.down, r44_8.down, r44_9.down, n44_14, n44_13, n44_12, r44_10.down, r44_11.down, r44_12.down, r44_13.down, r44_14.down, n44_22, r44_15.down, r44_16.down, n44_26, n44_25, n44_24, r44_17.down, n44_28, r44_18.down, r44_19.down, r44_20.down, n44_34, n44_33, n44_32, n44_31, n44_30, r44_21.down, n44_36, r44_22.down, r44_23.down, n44_39, r44_24.down, r44_25.down, n44_43, n44_42, n44_41, r44_26.down, n44_45, r44_27.down, r44_28.down, n44_49, n44_48, n44_47, r44_29.down, r44_30.down, r44_31.down, n44_55, n44_54, n44_53, r44_32.down, n44_56, n44_52, n44_51, n44_50, n44_46, n44_44, n44_40, n44_38, n44_37, n44_35, n44_29, n44_27, n44_23, n44_21, n44_20, n44_19, n44_18, r44_33.down, n44_57, n44_17, n44_16, n44_15, n44_11, n44_10, n44_2, n44_1, n44_0, rq_44, o_fap_63_4, o_fai_63_4, o_ldp_46, o_ldi_46, o_leni_46, o_lens_46, o_lenn_46, o_ixi_46, o_ixs_46, o_ldp_48, o_ldi_48, o_al_48, o_st_48, cf_53, hint_44_20, o_bs_24_1, hint_44_21, bi_app, o_fap_63_2, o_fai_63_2, o_ldp_9, o_ldi_9, o_fap_63_3, o_fai_63_3, o_ldp_4, o_ldi_4, add_str, o_ixi_24, o_ixs_24, o_sl_24_lh, o_sl_24_l, o_sl_24_h, cf_39, hint_44_38, o_bs_24_17, o_fap_63_0, o_fai_63_0, o_ldp_26, o_ldi_26, o_fap_63_1, o_fai_63_1, o_fap_63_5, o_fai_63_5, o_ldp_39, o_ldi_39, cf_31, o_fap_63_6, o_fai_63_6, o_leni_39, o_lens_39, o_lenn_39, AVal.undef, zaa, zab, aeval, aput, ahint, absOf, flat, nilCheckA, ANext.ofP, evals, evalPs, evalO, zac, zad, zae, zaf, ↓reduceIte, Nat.reduceLT, Nat.reduceEqDiff, reduceCtorEq, zag, zah, zai, zaj, zak, Nat.reduceAdd, Nat.reduceLeDiff, callA, zal, zam, zan, zao, zap, zaq, zar, zas, zat, zau, evalV, yieldB, zav, zaw, zax, zay, zaz, zba, zbb, zbc, zbd, zbe, zbf, zbg, zbh, zbi, zbj, zbk, zbl, zbm, zbn, zbo, zbp, zbq, zbr, extractA, zbs, zbt, zbu, zbv, zbw, zbx, zby, zbz, zca, zcb, zcc, zcd, zce, zcf, zcg, zch, zci, zcj, zck, zcl, zcm, zcn, zco, zcp, zcq, zcr, zcs, zct, zcu, zcv, zcw, zcx, zcy, zcz, zda, zdb, zdc, zdd, zde, zdf, zdg, zdh, zdi, zdj, boxA, newA, zdk, zdl, zdm, zdn, zdo, zdp, zdq, zdr, zds, zdt, zdu, zdv, zdw, fillA, putL, setsE, zdx, zdy, zdz, zea, zeb, zec, zed, zee, zef, zeg, zeh, zei, zej, Nat.reduceBEq, Nat.reduceBNe, zek, zel, zem, zen, Nat.reduceMul, zeo, zep, zeq, zer, zes, zet, zeu, zev, zew, zex, zey, zez, zfa, zfb, zfc, zfd, zfe, zff, zfg, zfh, zfi, zfj, zfk, zfl, zfm, zfn, zfo, zfp, zfq, zfr, zfs, zft, zfu, zfv, zfw, zfx, zfy, zfz, zga, zgb, zgc, zgd, zge, zgf, zgg, zgh, zgi, zgj, ne_eq, zgk, zgl, zgm, zgn, zgo, gt_iff_lt, ge_iff_le, zgp, zgq, zgr, zgs, zgt, zgu, zgv, zgw, zgx, zgy, zgz, zha, zhb, zhc, zhd, zhe, zhf, zhg, zhh, zhi, zhj, zhk, zhl, zhm, zhn, zho, zhp, zhq, gp_opg, zhr, zhs, zht, zhu, zhv, zhw, zhx, zhy, stillD, Int.reduceToNat, zhz, zia, q1,q6,q7,q8,n5,n6,n7])
        exact ⟨by rw [hT]; rfl, (gr.trans g1).trans g2⟩
  rw [if_neg k5] at hT
  rw [hT] at hl
  simp only [List.length_append, List.length_cons, List.length_nil] at hl
  have n1 := sadd (kwd k) [32] (by simp; omega)
  have n2 := sadd (kwd k ++ [32]) nm (by simp; omega)
  have n3 := sadd (kwd k ++ [32] ++ nm) [59, 10] (by simp; omega)
  clear hb he
  repeat' (first | (first | apply ifk_og | apply ifk_gg | apply ifk_go | apply ifk_ss) <;> intro hc | simp (maxSteps := 5000000) (disch := first | assumption | omega | (simp only [ASt.set_ctr, ASt.new_ctr] <;> omega)) only [r44_0.down, r44_1.down, r44_2.down, r44_3.down, r44_4.down, r44_5.down, n44_8, n44_7, r44_6.down, n44_9, n44_6, n44_5, l44_0, n44_4, n44_3, r44_7.down, r44_8.down, r44_9.down, n44_14, n44_13, n44_12, r44_10.down, r44_11.down, r44_12.down, r44_13.down, r44_14.down, n44_22, r44_15.down, r44_16.down, n44_26, n44_25, n44_24, r44_17.down, n44_28, r44_18.down, r44_19.down, r44_20.down, n44_34, n44_33, n44_32, n44_31, n44_30, r44_21.down, n44_36, r44_22.down, r44_23.down, n44_39, r44_24.down, r44_25.down, n44_43, n44_42, n44_41, r44_26.down, n44_45, r44_27.down, r44_28.down, n44_49, n44_48, n44_47, r44_29.down, r44_30.down, r44_31.down, n44_55, n44_54, n44_53, r44_32.down, n44_56, n44_52, n44_51, n44_50, n44_46, n44_44, n44_40, n44_38, n44_37, n44_35, n44_29, n44_27, n44_23, n44_21, n44_20, n44_19, n44_18, r44_33.down, n44_57, n44_17, n44_16, n44_15, n44_11, n44_10, n44_2, n44_1, n44_0, rq_44, o_fap_63_4, o_fai_63_4, o_ldp_46, o_ldi_46, o_leni_46, o_lens_46, o_lenn_46, o_ixi_46, o_ixs_46, o_ldp_48, o_ldi_48, o_al_48, o_st_48, cf_53, hint_44_20, o_bs_24_1, hint_44_21, bi_app, o_fap_63_2, o_fai_63_2, o_ldp_9, o_ldi_9, o_fap_63_3, o_fai_63_3, o_ldp_4, o_ldi_4, add_str, o_ixi_24, o_ixs_24, o_sl_24_lh, o_sl_24_l, o_sl_24_h, cf_39, hint_44_38, o_bs_24_17, o_fap_63_0, o_fai_63_0, o_ldp_26, o_ldi_26, o_fap_63_1, o_fai_63_1, o_fap_63_5, o_fai_63_5, o_ldp_39, o_ldi_39, cf_31, o_fap_63_6, o_fai_63_6, o_leni_39, o_lens_39, o_lenn_39, AVal.undef, zaa, zab, aeval, aput, ahint, absOf, flat, nilCheckA, ANext.ofP, evals, evalPs, evalO, zac, zad, zae, zaf, ↓reduceIte, Nat.reduceLT, Nat.reduceEqDiff, reduceCtorEq, zag, zah, zai, zaj, zak, Nat.reduceAdd, Nat.reduceLeDiff, callA, zal, zam, zan, zao, zap, zaq, zar, zas, zat, zau, evalV, yieldB, zav, zaw, zax, zay, zaz, zba, zbb, zbc, zbd, zbe, zbf, zbg, zbh, zbi, zbj, zbk, zbl, zbm, zbn, zbo, zbp, zbq, zbr, extractA, zbs, zbt, zbu, zbv, zbw, zbx, zby, zbz, zca, zcb, zcc, zcd, zce, zcf, zcg, zch, zci, zcj, zck, zcl, zcm, zcn, zco, zcp, zcq, zcr, zcs, zct, zcu, zcv, zcw, zcx, zcy, zcz, zda, zdb, zdc, zdd, zde, zdf, zdg, zdh, zdi, zdj, boxA, newA, zdk, zdl, zdm, zdn, zdo, zdp, zdq, zdr, zds, zdt, zdu, zdv, zdw, fillA, putL, setsE, zdx, zdy, zdz, zea, zeb, zec, zed, zee, zef, zeg, zeh, zei, zej, Nat.reduceBEq, Nat.reduceBNe, zek, zel, zem, zen, Nat.reduceMul, zeo, zep, zeq, zer, zes, zet, zeu, zev, zew, zex, zey, zez, zfa, zfb, zfc, zfd, zfe, zff, zfg, zfh, zfi, zfj, zfk, zfl, zfm, zfn, zfo, zfp, zfq, zfr, zfs, zft, zfu, zfv, zfw, zfx, zfy, zfz, zga, zgb, zgc, zgd, zge, zgf, zgg, zgh, zgi, zgj, ne_eq, zgk, zgl, zgm, zgn, zgo, gt_iff_lt, ge_iff_le, zgp, zgq, zgr, zgs, zgt, zgu, zgv, zgw, zgx, zgy, zgz, zha, zhb, zhc, zhd, zhe, zhf, zhg, zhh, zhi, zhj, zhk, zhl, zhm, zhn, zho, zhp, zhq, gp_opg, zhr, zhs, zht, zhu, zhv, zhw, zhx, zhy, stillD, Int.reduceToNat, zhz, zia, q1,q6,q7,q8,h1,n1,n2,n3])
  all_goals first
    | (exfalso; omega)
    | exact ⟨by rw [hT]; rfl, gr⟩
theorem join_le {ts : List (List UInt8)} (sep : List UInt8) (hl : ts.length ≤ 3) {m : Nat} (h : ∀ t ∈ ts, t.length ≤ m) : (Lib.join ts sep).length ≤ 3 * m + 2 * sep.length := by
  match ts, hl, h with
  | [], _, _ => simp [Lib.join_nil]
  | [a], _, h => rw [Lib.join_one]; have := h a (by simp); omega
  | [a, b], _, h =>
    have := h a (by simp)
    have := h b (by simp)
    rw [Lib.join_cons]
    simp [Lib.joinTail]
    omega
  | [a, b, c], _, h =>
    have := h a (by simp)
    have := h b (by simp)
    have := h c (by simp)
    rw [Lib.join_cons]
    simp [Lib.joinTail]
    omega
theorem strT : SlT E.P 24 9 false 1 := ⟨rfl, rfl, ⟨_, _, rfl, rfl, by decide, rfl, rfl⟩, by decide⟩
def sA (t : List UInt8) : AVal := .lit (.string ⟨t.toArray⟩)
theorem sAs_ok (ts : List (List UInt8)) : (ts.map sA).all (elemOk false 1) = true := by
  rw [List.all_map]
  exact List.all_eq_true.2 fun t _ => rfl
set_option maxHeartbeats 8000000 in
theorem stmt_step {k : Nat} {reg name : List UInt8} {idx : Bool} {es : List Ex} {body els : List St} {pos : Nat} (hb : BlT body) (he : BlT els) : StT (.mk k reg name idx es body els pos) := by
  intro v hv hg hl st
  cases hv with
  | @mk _ _ _ _ _ _ _ _ ve vb vl hve hvc hvb hvl =>
  unfold St.good at hg
  obtain ⟨hk, ⟨hes, hnm, hee⟩, hidx, ⟨hbl, hel⟩, hgb, hge⟩ := hg
  refine en_44 fun g t0 => ?_
  have LE := fun mt ty cs st => exs_len hve mt ty cs st
  have hbc := hvb.cell
  have hlc := hvl.cell
  obtain ⟨T, hT⟩ : ∃ T, T = (St.mk k reg name idx es body els pos).t := ⟨_, rfl⟩
  rw [← hT] at hl ⊢
  repeat' (first | (first | apply ifk_og | apply ifk_gg | apply ifk_go | apply ifk_ss) <;> intro hc | simp (maxSteps := 5000000) (disch := first | assumption | omega | (simp only [ASt.set_ctr, ASt.new_ctr] <;> omega)) only [r44_0.down, r44_1.down, r44_2.down, r44_3.down, r44_4.down, r44_5.down, n44_8, n44_7, r44_6.down, n44_9, n44_6, n44_5, l44_0, n44_4, n44_3, r44_7.down, r44_8.down, r44_9.down, n44_14, n44_13, n44_12, r44_10.down, r44_11.down, r44_12.down, r44_13.down, r44_14.down, n44_22, r44_15.down, r44_16.down, n44_26, n44_25, n44_24, r44_17.down, n44_28, r44_18.down, r44_19.down, r44_20.down, n44_34, n44_33, n44_32, n44_31, n44_30, r44_21.down, n44_36, r44_22.down, r44_23.down, n44_39, r44_24.down, r44_25.down, n44_43, n44_42, n44_41, r44_26.down, n44_45, r44_27.down, r44_28.down, n44_49, n44_48, n44_47, r44_29.down, r44_30.down, r44_31.down, n44_55, n44_54, n44_53, r44_32.down, n44_56, n44_52, n44_51, n44_50, n44_46, n44_44, n44_40, n44_38, n44_37, n44_35, n44_29, n44_27, n44_23, n44_21, n44_20, n44_19, n44_18, r44_33.down, n44_57, n44_17, n44_16, n44_15, n44_11, n44_2, n44_1, n44_0, rq_44, o_fap_63_4, o_fai_63_4, o_ldp_46, o_ldi_46, o_leni_46, o_lens_46, o_lenn_46, o_ixi_46, o_ixs_46, o_ldp_48, o_ldi_48, o_al_48, o_st_48, cf_53, hint_44_20, o_bs_24_1, hint_44_21, bi_app, o_fap_63_2, o_fai_63_2, o_ldp_9, o_ldi_9, o_fap_63_3, o_fai_63_3, o_ldp_4, o_ldi_4, add_str, o_ixi_24, o_ixs_24, o_sl_24_lh, o_sl_24_l, o_sl_24_h, cf_39, hint_44_38, o_bs_24_17, o_fap_63_0, o_fai_63_0, o_ldp_26, o_ldi_26, o_fap_63_1, o_fai_63_1, o_fap_63_5, o_fai_63_5, o_ldp_39, o_ldi_39, cf_31, o_fap_63_6, o_fai_63_6, o_leni_39, o_lens_39, o_lenn_39, AVal.undef, zaa, zab, aeval, aput, ahint, absOf, flat, nilCheckA, ANext.ofP, evals, evalPs, evalO, zac, zad, zae, zaf, ↓reduceIte, Nat.reduceLT, Nat.reduceEqDiff, reduceCtorEq, zag, zah, zai, zaj, zak, Nat.reduceAdd, Nat.reduceLeDiff, callA, zal, zam, zan, zao, zap, zaq, zar, zas, zat, zau, evalV, yieldB, zav, zaw, zax, zay, zaz, zba, zbb, zbc, zbd, zbe, zbf, zbg, zbh, zbi, zbj, zbk, zbl, zbm, zbn, zbo, zbp, zbq, zbr, extractA, zbs, zbt, zbu, zbv, zbw, zbx, zby, zbz, zca, zcb, zcc, zcd, zce, zcf, zcg, zch, zci, zcj, zck, zcl, zcm, zcn, zco, zcp, zcq, zcr, zcs, zct, zcu, zcv, zcw, zcx, zcy, zcz, zda, zdb, zdc, zdd, zde, zdf, zdg, zdh, zdi, zdj, boxA, newA, zdk, zdl, zdm, zdn, zdo, zdp, zdq, zdr, zds, zdt, zdu, zdv, zdw, fillA, putL, setsE, zdx, zdy, zdz, zea, zeb, zec, zed, zee, zef, zeg, zeh, zei, zej, Nat.reduceBEq, Nat.reduceBNe, zek, zel, zem, zen, Nat.reduceMul, zeo, zep, zeq, zer, zes, zet, zeu, zev, zew, zex, zey, zez, zfa, zfb, zfc, zfd, zfe, zff, zfg, zfh, zfi, zfj, zfk, zfl, zfm, zfn, zfo, zfp, zfq, zfr, zfs, zft, zfu, zfv, zfw, zfx, zfy, zfz, zga, zgb, zgc, zgd, zge, zgf, zgg, zgh, zgi, zgj, ne_eq, zgk, zgl, zgm, zgn, zgo, gt_iff_lt, ge_iff_le, zgp, zgq, zgr, zgs, zgt, zgu, zgv, zgw, zgx, zgy, zgz, zha, zhb, zhc, zhd, zhe, zhf, zhg, zhh, zhi, zhj, zhk, zhl, zhm, zhn, zho, zhp, zhq, gp_opg, zhr, zhs, zht, zhu, zhv, zhw, zhx, zhy, stillD, Int.reduceToNat, zhz, zia, t0,LE,hvc,hbc,hlc])
  refine g_loop (fun i f st' => ∃ t ts vs, i = es.length - t ∧ t ≤ es.length ∧ f 1 = .ptr st.ctr 0 ∧ f 3 = vs ∧ AI 1 st st' vs (ts.map sA) ∧ ts = (es.take t).map Ex.t ∧ f 11 = ve ∧ f 12 = .lit (.int .i64 (es.length : Int)) ∧ f 13 = .lit (.int .i64 (t : Int)) ∧ st.ctr < st'.ctr ∧ Gr st st' ∧
      st'.heap st.ctr = some (.cells [.lit (.int .i64 (k : Int)), .lit (.string ⟨reg.toArray⟩), .lit (.string ⟨name.toArray⟩), .lit (.bool idx), ve, vb, vl, .lit (.int .i64 (pos : Int))]))
    (fun i f st' hI => ?_) es.length _ _ ⟨0, [], .lit (.slice none 0 0), rfl, Nat.zero_le _, rfl, rfl, .inl ⟨rfl, rfl⟩, rfl, rfl, rfl, rfl, by simp, (Gr.refl st).new' _, by (simp (disch := omega) only [heap_set_if, heap_new_if, ASt.set_ctr, ASt.new_ctr, ite_t, ite_f, if_true, eq_self])⟩
  clear t0
  obtain ⟨t, ts, vs, rfl, ht, q1, q3, hA, hts, q11, q12, q13, hc, gr, h1⟩ := hI
  by_cases hlt : t < es.length
  · obtain ⟨e, hek⟩ : ∃ e, es[t]? = some e := ⟨_, List.getElem?_eq_getElem hlt⟩
    have hix := exs_ix hve hek
    obtain ⟨heg, hetl⟩ := hee e (List.mem_of_getElem? hek)
    have ex := fun st => expr_t e heg (by omega) st
    obtain ⟨a0, a1, a2, a3, hea, c0, c1, c2, c3⟩ := e.form
    rw [hea] at hix ex
    unfold str at ex
    have hadd : (t : Int) + 1 = ((t + 1 : Nat) : Int) := by omega
    have htn : (es.take (t + 1)).map Ex.t = ts ++ [e.t] := by rw [List.take_add_one, hek, List.map_append, hts]; rfl
    have htl : ts.length ≤ 3 := by rw [hts]; simp; omega
    clear hee hb he hgb hge
    repeat' (first | (first | apply ifk_og | apply ifk_gg | apply ifk_go | apply ifk_ss) <;> intro hc | simp (maxSteps := 5000000) (disch := first | assumption | omega | (simp only [ASt.set_ctr, ASt.new_ctr] <;> omega)) only [r44_0.down, r44_1.down, r44_2.down, r44_3.down, r44_4.down, r44_5.down, n44_8, n44_7, r44_6.down, n44_9, n44_6, n44_5, l44_0, n44_4, n44_3, r44_7.down, r44_8.down, r44_9.down, n44_14, n44_13, n44_12, r44_10.down, r44_11.down, r44_12.down, r44_13.down, r44_14.down, n44_22, r44_15.down, r44_16.down, n44_26, n44_25, n44_24, r44_17.down, n44_28, r44_18.down, r44_19.down, r44_20.down, n44_34, n44_33, n44_32, n44_31, n44_30, r44_21.down, n44_36, r44_22.down, r44_23.down, n44_39, r44_24.down, r44_25.down, n44_43, n44_42, n44_41, r44_26.down, n44_45, r44_27.down, r44_28.down, n44_49, n44_48, n44_47, r44_29.down, r44_30.down, r44_31.down, n44_55, n44_54, n44_53, r44_32.down, n44_56, n44_52, n44_51, n44_50, n44_46, n44_44, n44_40, n44_38, n44_37, n44_35, n44_29, n44_27, n44_23, n44_21, n44_20, n44_19, n44_18, r44_33.down, n44_57, n44_17, n44_16, n44_15, n44_11, n44_10, n44_2, n44_1, n44_0, rq_44, o_fap_63_4, o_fai_63_4, o_ldp_46, o_ldi_46, o_leni_46, o_lens_46, o_lenn_46, o_ixi_46, o_ixs_46, o_ldp_48, o_ldi_48, o_al_48, o_st_48, cf_53, hint_44_20, o_bs_24_1, hint_44_21, bi_app, o_fap_63_2, o_fai_63_2, o_ldp_9, o_ldi_9, o_fap_63_3, o_fai_63_3, o_ldp_4, o_ldi_4, add_str, o_ixi_24, o_ixs_24, o_sl_24_lh, o_sl_24_l, o_sl_24_h, cf_39, hint_44_38, o_bs_24_17, o_fap_63_0, o_fai_63_0, o_ldp_26, o_ldi_26, o_fap_63_1, o_fai_63_1, o_fap_63_5, o_fai_63_5, o_ldp_39, o_ldi_39, cf_31, o_fap_63_6, o_fai_63_6, o_leni_39, o_lens_39, o_lenn_39, AVal.undef, zaa, zab, aeval, aput, ahint, absOf, flat, nilCheckA, ANext.ofP, evals, evalPs, evalO, zac, zad, zae, zaf, ↓reduceIte, Nat.reduceLT, Nat.reduceEqDiff, reduceCtorEq, zag, zah, zai, zaj, zak, Nat.reduceAdd, Nat.reduceLeDiff, callA, zal, zam, zan, zao, zap, zaq, zar, zas, zat, zau, evalV, yieldB, zav, zaw, zax, zay, zaz, zba, zbb, zbc, zbd, zbe, zbf, zbg, zbh, zbi, zbj, zbk, zbl, zbm, zbn, zbo, zbp, zbq, zbr, extractA, zbs, zbt, zbu, zbv, zbw, zbx, zby, zbz, zca, zcb, zcc, zcd, zce, zcf, zcg, zch, zci, zcj, zck, zcl, zcm, zcn, zco, zcp, zcq, zcr, zcs, zct, zcu, zcv, zcw, zcx, zcy, zcz, zda, zdb, zdc, zdd, zde, zdf, zdg, zdh, zdi, zdj, boxA, newA, zdk, zdl, zdm, zdn, zdo, zdp, zdq, zdr, zds, zdt, zdu, zdv, zdw, fillA, putL, setsE, zdx, zdy, zdz, zea, zeb, zec, zed, zee, zef, zeg, zeh, zei, zej, Nat.reduceBEq, Nat.reduceBNe, zek, zel, zem, zen, Nat.reduceMul, zeo, zep, zeq, zer, zes, zet, zeu, zev, zew, zex, zey, zez, zfa, zfb, zfc, zfd, zfe, zff, zfg, zfh, zfi, zfj, zfk, zfl, zfm, zfn, zfo, zfp, zfq, zfr, zfs, zft, zfu, zfv, zfw, zfx, zfy, zfz, zga, zgb, zgc, zgd, zge, zgf, zgg, zgh, zgi, zgj, ne_eq, zgk, zgl, zgm, zgn, zgo, gt_iff_lt, ge_iff_le, zgp, zgq, zgr, zgs, zgt, zgu, zgv, zgw, zgx, zgy, zgz, zha, zhb, zhc, zhd, zhe, zhf, zhg, zhh, zhi, zhj, zhk, zhl, zhm, zhn, zho, zhp, zhq, gp_opg, zhr, zhs, zht, zhu, zhv, zhw, zhx, zhy, stillD, Int.reduceToNat, zhz, zia, q1,q3,q11,q12,q13,hix,hadd,c0,c1,c2,c3,LE])
    refine sc_ex (ex _) fun r s1 h2 => ?_
    obtain ⟨rfl, g1⟩ := h2
    have gN := ((Gr.refl st').new' _).set' (Nat.le_refl _) |>.trans g1
    have e1 := gN.at h1 hc
    obtain ⟨v', s2, ha, hA2, hg2, hk2⟩ := ai_app3 strT (hA.gr gN) (gr.trans gN) (sAs_ok ts) (src_islice strT (c := .exact) (ns := [sA e.t]) rfl) (by simp) (by simp; omega)
    have e2 := hk2.at e1 (Nat.lt_of_lt_of_le hc gN.1)
    unfold sA at ha
    repeat' (first | (first | apply ifk_og | apply ifk_gg | apply ifk_go | apply ifk_ss) <;> intro hc | simp (maxSteps := 5000000) (disch := first | assumption | omega | (simp only [ASt.set_ctr, ASt.new_ctr] <;> omega)) only [r44_0.down, r44_1.down, r44_2.down, r44_3.down, r44_4.down, r44_5.down, n44_8, n44_7, r44_6.down, n44_9, n44_6, n44_5, l44_0, n44_4, n44_3, r44_7.down, r44_8.down, r44_9.down, n44_14, n44_13, n44_12, r44_10.down, r44_11.down, r44_12.down, r44_13.down, r44_14.down, n44_22, r44_15.down, r44_16.down, n44_26, n44_25, n44_24, r44_17.down, n44_28, r44_18.down, r44_19.down, r44_20.down, n44_34, n44_33, n44_32, n44_31, n44_30, r44_21.down, n44_36, r44_22.down, r44_23.down, n44_39, r44_24.down, r44_25.down, n44_43, n44_42, n44_41, r44_26.down, n44_45, r44_27.down, r44_28.down, n44_49, n44_48, n44_47, r44_29.down, r44_30.down, r44_31.down, n44_55, n44_54, n44_53, r44_32.down, n44_56, n44_52, n44_51, n44_50, n44_46, n44_44, n44_40, n44_38, n44_37, n44_35, n44_29, n44_27, n44_23, n44_21, n44_20, n44_19, n44_18, r44_33.down, n44_57, n44_17, n44_16, n44_15, n44_11, n44_10, n44_2, n44_1, n44_0, rq_44, o_fap_63_4, o_fai_63_4, o_ldp_46, o_ldi_46, o_leni_46, o_lens_46, o_lenn_46, o_ixi_46, o_ixs_46, o_ldp_48, o_ldi_48, o_al_48, o_st_48, cf_53, hint_44_20, o_bs_24_1, hint_44_21, bi_app, o_fap_63_2, o_fai_63_2, o_ldp_9, o_ldi_9, o_fap_63_3, o_fai_63_3, o_ldp_4, o_ldi_4, add_str, o_ixi_24, o_ixs_24, o_sl_24_lh, o_sl_24_l, o_sl_24_h, cf_39, hint_44_38, o_bs_24_17, o_fap_63_0, o_fai_63_0, o_ldp_26, o_ldi_26, o_fap_63_1, o_fai_63_1, o_fap_63_5, o_fai_63_5, o_ldp_39, o_ldi_39, cf_31, o_fap_63_6, o_fai_63_6, o_leni_39, o_lens_39, o_lenn_39, AVal.undef, zaa, zab, aeval, aput, ahint, absOf, flat, nilCheckA, ANext.ofP, evals, evalPs, evalO, zac, zad, zae, zaf, ↓reduceIte, Nat.reduceLT, Nat.reduceEqDiff, reduceCtorEq, zag, zah, zai, zaj, zak, Nat.reduceAdd, Nat.reduceLeDiff, callA, zal, zam, zan, zao, zap, zaq, zar, zas, zat, zau, evalV, yieldB, zav, zaw, zax, zay, zaz, zba, zbb, zbc, zbd, zbe, zbf, zbg, zbh, zbi, zbj, zbk, zbl, zbm, zbn, zbo, zbp, zbq, zbr, extractA, zbs, zbt, zbu, zbv, zbw, zbx, zby, zbz, zca, zcb, zcc, zcd, zce, zcf, zcg, zch, zci, zcj, zck, zcl, zcm, zcn, zco, zcp, zcq, zcr, zcs, zct, zcu, zcv, zcw, zcx, zcy, zcz, zda, zdb, zdc, zdd, zde, zdf, zdg, zdh, zdi, zdj, boxA, newA, zdk, zdl, zdm, zdn, zdo, zdp, zdq, zdr, zds, zdt, zdu, zdv, zdw, fillA, putL, setsE, zdx, zdy, zdz, zea, zeb, zec, zed, zee, zef, zeg, zeh, zei, zej, Nat.reduceBEq, Nat.reduceBNe, zek, zel, zem, zen, Nat.reduceMul, zeo, zep, zeq, zer, zes, zet, zeu, zev, zew, zex, zey, zez, zfa, zfb, zfc, zfd, zfe, zff, zfg, zfh, zfi, zfj, zfk, zfl, zfm, zfn, zfo, zfp, zfq, zfr, zfs, zft, zfu, zfv, zfw, zfx, zfy, zfz, zga, zgb, zgc, zgd, zge, zgf, zgg, zgh, zgi, zgj, ne_eq, zgk, zgl, zgm, zgn, zgo, gt_iff_lt, ge_iff_le, zgp, zgq, zgr, zgs, zgt, zgu, zgv, zgw, zgx, zgy, zgz, zha, zhb, zhc, zhd, zhe, zhf, zhg, zhh, zhi, zhj, zhk, zhl, zhm, zhn, zho, zhp, zhq, gp_opg, zhr, zhs, zht, zhu, zhv, zhw, zhx, zhy, stillD, Int.reduceToNat, zhz, zia, q1,q3,q11,q12,q13,hadd,ha])
    refine lq_n (j := es.length - (t + 1)) (by omega) ?_
    exact ⟨t + 1, ts ++ [e.t], v', rfl, by omega, q1, rfl, by rw [List.map_append]; exact hA2, htn.symm, q11, q12, rfl, Nat.lt_of_lt_of_le (Nat.lt_of_lt_of_le hc gN.1) hk2.1, hg2, e2⟩
  · obtain rfl : t = es.length := by omega
    rw [List.take_length] at hts
    have hrv := hA.rv
    have hkx := kwd_ix hk
    have hkl : T = stX k reg (nmT name idx ts) (alT idx ts) (blT (Sts.t body)) (elT els) := by rw [hT, hts, St.t_mk]
    have htl : ts.length ≤ 3 := by rw [hts]; simp; omega
    have htm : ∀ x ∈ ts, x.length ≤ 100000 := by
      intro x hx
      rw [hts] at hx
      obtain ⟨e, he1, rfl⟩ := List.mem_map.1 hx
      exact (hee e he1).2
    have hrv' : RV 1 vs (ts.map fun t => .lit (.string ⟨t.toArray⟩)) := hrv
    unfold nmT alT at hkl
    cases idx with
    | false =>
      simp only [Bool.false_eq_true, if_false] at hkl
      have jn := fun st => join_rw hrv' [44, 32] (by omega) (by have := join_le [44, 32] htl htm; simp at this; omega) st
      clear hee hidx hrv hrv' hA
      repeat' (first | (first | apply ifk_og | apply ifk_gg | apply ifk_go | apply ifk_ss) <;> intro hc | simp (maxSteps := 5000000) (disch := first | assumption | omega | (simp only [ASt.set_ctr, ASt.new_ctr] <;> omega)) only [r44_0.down, r44_1.down, r44_2.down, r44_3.down, r44_4.down, r44_5.down, n44_8, n44_7, r44_6.down, n44_9, n44_6, n44_5, l44_0, n44_4, n44_3, r44_7.down, r44_8.down, r44_9.down, n44_14, n44_13, n44_12, r44_10.down, r44_11.down, r44_12.down, r44_13.down, r44_14.down, n44_22, r44_15.down, r44_16.down, n44_26, n44_25, n44_24, r44_17.down, n44_28, r44_18.down, r44_19.down, r44_20.down, n44_34, n44_33, n44_32, n44_31, n44_30, r44_21.down, n44_36, r44_22.down, r44_23.down, n44_39, r44_24.down, r44_25.down, n44_43, n44_42, n44_41, r44_26.down, n44_45, r44_27.down, r44_28.down, n44_49, n44_48, n44_47, r44_29.down, r44_30.down, r44_31.down, n44_55, n44_54, n44_53, r44_32.down, n44_56, n44_52, n44_51, n44_50, n44_46, n44_44, n44_40, n44_38, n44_37, n44_35, n44_29, n44_27, n44_23, n44_21, n44_20, n44_19, r44_33.down, n44_57, n44_17, n44_16, n44_15, n44_11, n44_10, n44_2, n44_1, n44_0, rq_44, o_fap_63_4, o_fai_63_4, o_ldp_46, o_ldi_46, o_leni_46, o_lens_46, o_lenn_46, o_ixi_46, o_ixs_46, o_ldp_48, o_ldi_48, o_al_48, o_st_48, cf_53, hint_44_20, o_bs_24_1, hint_44_21, bi_app, o_fap_63_2, o_fai_63_2, o_ldp_9, o_ldi_9, o_fap_63_3, o_fai_63_3, o_ldp_4, o_ldi_4, add_str, o_ixi_24, o_ixs_24, o_sl_24_lh, o_sl_24_l, o_sl_24_h, cf_39, hint_44_38, o_bs_24_17, o_fap_63_0, o_fai_63_0, o_ldp_26, o_ldi_26, o_fap_63_1, o_fai_63_1, o_fap_63_5, o_fai_63_5, o_ldp_39, o_ldi_39, cf_31, o_fap_63_6, o_fai_63_6, o_leni_39, o_lens_39, o_lenn_39, AVal.undef, zaa, zab, aeval, aput, ahint, absOf, flat, nilCheckA, ANext.ofP, evals, evalPs, evalO, zac, zad, zae, zaf, ↓reduceIte, Nat.reduceLT, Nat.reduceEqDiff, reduceCtorEq, zag, zah, zai, zaj, zak, Nat.reduceAdd, Nat.reduceLeDiff, callA, zal, zam, zan, zao, zap, zaq, zar, zas, zat, zau, evalV, yieldB, zav, zaw, zax, zay, zaz, zba, zbb, zbc, zbd, zbe, zbf, zbg, zbh, zbi, zbj, zbk, zbl, zbm, zbn, zbo, zbp, zbq, zbr, extractA, zbs, zbt, zbu, zbv, zbw, zbx, zby, zbz, zca, zcb, zcc, zcd, zce, zcf, zcg, zch, zci, zcj, zck, zcl, zcm, zcn, zco, zcp, zcq, zcr, zcs, zct, zcu, zcv, zcw, zcx, zcy, zcz, zda, zdb, zdc, zdd, zde, zdf, zdg, zdh, zdi, zdj, boxA, newA, zdk, zdl, zdm, zdn, zdo, zdp, zdq, zdr, zds, zdt, zdu, zdv, zdw, fillA, putL, setsE, zdx, zdy, zdz, zea, zeb, zec, zed, zee, zef, zeg, zeh, zei, zej, Nat.reduceBEq, Nat.reduceBNe, zek, zel, zem, zen, Nat.reduceMul, zeo, zep, zeq, zer, zes, zet, zeu, zev, zew, zex, zey, zez, zfa, zfb, zfc, zfd, zfe, zff, zfg, zfh, zfi, zfj, zfk, zfl, zfm, zfn, zfo, zfp, zfq, zfr, zfs, zft, zfu, zfv, zfw, zfx, zfy, zfz, zga, zgb, zgc, zgd, zge, zgf, zgg, zgh, zgi, zgj, ne_eq, zgk, zgl, zgm, zgn, zgo, gt_iff_lt, ge_iff_le, zgp, zgq, zgr, zgs, zgt, zgu, zgv, zgw, zgx, zgy, zgz, zha, zhb, zhc, zhd, zhe, zhf, zhg, zhh, zhi, zhj, zhk, zhl, zhm, zhn, zho, zhp, zhq, gp_opg, zhr, zhs, zht, zhu, zhv, zhw, zhx, zhy, stillD, Int.reduceToNat, zhz, zia, q1,q3,q11,q12,q13,h1,jn,hkx])
      refine stmt_sw hk hvb hvl hgb hge hbl hel hb he _ _ _ ?_ ?_ ?_ ?_ h1 hc gr T hkl hl _
      · exact q1
      · rfl
      · rfl
      · rfl
    | true =>
      simp only [if_true] at hkl
      obtain ⟨x, xs, rfl⟩ : ∃ x xs, ts = x :: xs := by
        cases ts with
        | nil =>
          exfalso
          have : es.length = 0 := by
            have := congrArg List.length hts
            simpa using this.symm
          exact hidx rfl (List.length_eq_zero_iff.1 this)
        | cons x xs => exact ⟨x, xs, rfl⟩
      obtain ⟨c, rfl⟩ : ∃ c, vs = .islice 1 (.lit (.string ⟨x.toArray⟩) :: xs.map sA) c := by
        rcases hrv with ⟨_, h⟩ | h
        · cases h
        · exact h
      obtain ⟨cc, hsl⟩ : ∃ cc, sliceA E.P 24 (.islice 1 (.lit (.string ⟨x.toArray⟩) :: xs.map sA) c) (some (.lit (.int .i64 1))) none none = some (.islice 1 (xs.map sA) cc) := ⟨_, o_sl_24_l (by decide) (by simp; try omega)⟩
      have hix : indexA E.P 24 (.islice 1 (.lit (.string ⟨x.toArray⟩) :: xs.map sA) c) (.lit (.int .i64 0)) = some (.iptr (.lit (.string ⟨x.toArray⟩))) := by
        rw [o_ixi_24, if_pos ⟨by omega, by simp; try omega, rfl⟩]
        rfl
      have hxl := htm x (by simp)
      have jn := fun st => join_rw (v := .islice 1 (xs.map sA) cc) (ts := xs) (.inr ⟨_, rfl⟩) [44, 32] (by simp at htl; omega) (by have := join_le (ts := xs) [44, 32] (by simp at htl; omega) (fun y hy => htm y (by simp [hy])); simp at this; omega) st
      have n1 := sadd name [91] (by simp; omega)
      have n2 := sadd (name ++ [91]) x (by simp; omega)
      have n3 := sadd (name ++ [91] ++ x) [93] (by simp; omega)
      clear hee hidx hrv hrv' hA htm
      repeat' (first | (first | apply ifk_og | apply ifk_gg | apply ifk_go | apply ifk_ss) <;> intro hc | simp (maxSteps := 5000000) (disch := first | assumption | omega | (simp only [ASt.set_ctr, ASt.new_ctr] <;> omega)) only [r44_0.down, r44_1.down, r44_2.down, r44_3.down, r44_4.down, r44_5.down, n44_8, n44_7, r44_6.down, n44_9, n44_6, n44_5, l44_0, n44_4, n44_3, r44_7.down, r44_8.down, r44_9.down, n44_14, n44_13, n44_12, r44_10.down, r44_11.down, r44_12.down, r44_13.down, r44_14.down, n44_22, r44_15.down, r44_16.down, n44_26, n44_25, n44_24, r44_17.down, n44_28, r44_18.down, r44_19.down, r44_20.down, n44_34, n44_33, n44_32, n44_31, n44_30, r44_21.down, n44_36, r44_22.down, r44_23.down, n44_39, r44_24.down, r44_25.down, n44_43, n44_42, n44_41, r44_26.down, n44_45, r44_27.down, r44_28.down, n44_49, n44_48, n44_47, r44_29.down, r44_30.down, r44_31.down, n44_55, n44_54, n44_53, r44_32.down, n44_56, n44_52, n44_51, n44_50, n44_46, n44_44, n44_40, n44_38, n44_37, n44_35, n44_29, n44_27, n44_23, n44_21, n44_20, n44_19, r44_33.down, n44_57, n44_17, n44_16, n44_15, n44_11, n44_10, n44_2, n44_1, n44_0, rq_44, o_fap_63_4, o_fai_63_4, o_ldp_46, o_ldi_46, o_leni_46, o_lens_46, o_lenn_46, o_ixi_46, o_ixs_46, o_ldp_48, o_ldi_48, o_al_48, o_st_48, cf_53, hint_44_20, o_bs_24_1, hint_44_21, bi_app, o_fap_63_2, o_fai_63_2, o_ldp_9, o_ldi_9, o_fap_63_3, o_fai_63_3, o_ldp_4, o_ldi_4, add_str, o_ixi_24, o_ixs_24, o_sl_24_lh, o_sl_24_l, o_sl_24_h, cf_39, hint_44_38, o_bs_24_17, o_fap_63_0, o_fai_63_0, o_ldp_26, o_ldi_26, o_fap_63_1, o_fai_63_1, o_fap_63_5, o_fai_63_5, o_ldp_39, o_ldi_39, cf_31, o_fap_63_6, o_fai_63_6, o_leni_39, o_lens_39, o_lenn_39, AVal.undef, zaa, zab, aeval, aput, ahint, absOf, flat, nilCheckA, ANext.ofP, evals, evalPs, evalO, zac, zad, zae, zaf, ↓reduceIte, Nat.reduceLT, Nat.reduceEqDiff, reduceCtorEq, zag, zah, zai, zaj, zak, Nat.reduceAdd, Nat.reduceLeDiff, callA, zal, zam, zan, zao, zap, zaq, zar, zas, zat, zau, evalV, yieldB, zav, zaw, zax, zay, zaz, zba, zbb, zbc, zbd, zbe, zbf, zbg, zbh, zbi, zbj, zbk, zbl, zbm, zbn, zbo, zbp, zbq, zbr, extractA, zbs, zbt, zbu, zbv, zbw, zbx, zby, zbz, zca, zcb, zcc, zcd, zce, zcf, zcg, zch, zci, zcj, zck, zcl, zcm, zcn, zco, zcp, zcq, zcr, zcs, zct, zcu, zcv, zcw, zcx, zcy, zcz, zda, zdb, zdc, zdd, zde, zdf, zdg, zdh, zdi, zdj, boxA, newA, zdk, zdl, zdm, zdn, zdo, zdp, zdq, zdr, zds, zdt, zdu, zdv, zdw, fillA, putL, setsE, zdx, zdy, zdz, zea, zeb, zec, zed, zee, zef, zeg, zeh, zei, zej, Nat.reduceBEq, Nat.reduceBNe, zek, zel, zem, zen, Nat.reduceMul, zeo, zep, zeq, zer, zes, zet, zeu, zev, zew, zex, zey, zez, zfa, zfb, zfc, zfd, zfe, zff, zfg, zfh, zfi, zfj, zfk, zfl, zfm, zfn, zfo, zfp, zfq, zfr, zfs, zft, zfu, zfv, zfw, zfx, zfy, zfz, zga, zgb, zgc, zgd, zge, zgf, zgg, zgh, zgi, zgj, ne_eq, zgk, zgl, zgm, zgn, zgo, gt_iff_lt, ge_iff_le, zgp, zgq, zgr, zgs, zgt, zgu, zgv, zgw, zgx, zgy, zgz, zha, zhb, zhc, zhd, zhe, zhf, zhg, zhh, zhi, zhj, zhk, zhl, zhm, zhn, zho, zhp, zhq, gp_opg, zhr, zhs, zht, zhu, zhv, zhw, zhx, zhy, stillD, Int.reduceToNat, zhz, zia, q1,q3,q11,q12,q13,h1,jn,hkx,hsl,hix,n1,n2,n3])
      refine stmt_sw hk hvb hvl hgb hge hbl hel hb he _ _ _ ?_ ?_ ?_ ?_ h1 hc gr T hkl hl _
      · exact q1
      · rfl
      · rfl
      · rfl
mutual
theorem stmt_t : ∀ s : St, StT s
  | .mk k reg name idx es body els pos => stmt_step (block_t body) (block_t els)
theorem block_t : ∀ l : List St, BlT l
  | [] => block_step (fun s h => by cases h)
  | s :: l => block_step (fun t h => by
      have hs := stmt_t s
      have hl := stmts_t l
      rcases List.mem_cons.1 h with rfl | h
      · exact hs
      · exact hl t h)
theorem stmts_t : ∀ l : List St, ∀ s ∈ l, StT s
  | [], s, h => by cases h
  | t :: l, s, h => by
      have hs := stmt_t t
      have hl := stmts_t l
      rcases List.mem_cons.1 h with rfl | h
      · exact hs
      · exact hl s h
end
end Go.Proofs.YtpgcbmmifmnfpaaDoorV
