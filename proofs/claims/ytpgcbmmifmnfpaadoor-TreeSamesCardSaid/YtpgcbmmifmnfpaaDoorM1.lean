/- law 04: registers, numbers, expressions, names, walked. No condition. -/
import Derived.Test.YtpgcbmmifmnfpaaDoorGM
import Derived.Test.YtpgcbmmifmnfpaaDoorFZ
import Derived.Test.YtpgcbmmifmnfpaaDoorLA
namespace Go.Proofs.YtpgcbmmifmnfpaaDoorV
open Go Go.RowKit Go.Proofs.YtpgcbmmifmnfpaaDoorA
set_option linter.unusedVariables false
set_option linter.unusedSimpArgs false
set_option maxRecDepth 100000

/-- an expression -/
inductive Ex where
  | mk (op : List UInt8) (re im : Int) (name : List UInt8) (parts : List Ex)
  deriving Inhabited
mutual
def Ex.a : Ex → AVal
  | .mk op re im name parts => .agg [str op, cz re im, str name, Ex.ps parts]
def Ex.ps : List Ex → AVal
  | [] => .lit (.slice none 0 0)
  | p :: ps => .islice 4 (p.a :: Ex.as ps) .exact
def Ex.as : List Ex → List AVal
  | [] => []
  | p :: ps => p.a :: Ex.as ps
end
def regW (n : Nat) : List UInt8 := if n % 3 = 0 then [97] else if n % 3 = 1 then [98] else [99]
def numV (n : Int) : Nat := (n % 256).toNat % 16
def numE (n : Int) : Ex := if n < 0 then .mk [] 0 (numV n + 1 : Nat) [] [] else .mk [] (numV n : Nat) 0 [] []
def regE (n : Nat) : Ex := .mk [114, 101, 103] 0 0 (regW n) []
def exprE (kind : Nat) (n : Int) : Ex :=
  let a := regE (kind / 16)
  let b := numE n
  let k := kind % 16
  if k < 4 then b
  else if k < 6 then a
  else if k = 6 then .mk [43] 0 0 [] [a, b]
  else if k = 7 then .mk [45] 0 0 [] [b, a]
  else if k = 8 then .mk [42] 0 0 [] [a, b]
  else if k = 9 then .mk [61, 61] 0 0 [] [a, b]
  else if k = 10 then .mk [33, 61] 0 0 [] [a, b]
  else if k = 11 then .mk [60] 0 0 [] [a, b]
  else if k = 12 then .mk [110, 101, 103] 0 0 [] [.mk [43] 0 0 [] [a, b]]
  else if k = 13 then .mk [99, 111, 110, 106] 0 0 [] [a]
  else if k = 14 then .mk [110, 111, 116] 0 0 [] [a]
  else .mk [110, 111, 114, 109] 0 0 [] [.mk [42] 0 0 [] [a, a]]
theorem fz0 : fz 0 = 0 := by decide +kernel
theorem fz1 : (4607182418800017408 : Nat) = fz 1 := by decide +kernel
theorem reg_rw (n : Nat) (st : ASt) : rw E 36 [.lit (.int .u8 (n : Int))] st = some (.returned (str (regW n)), st) := by
  refine rw_ex (en_36 fun g t0 => ?_)
  have hm : (n : Int).tmod 3 = ((n % 3 : Nat) : Int) := tmod_n n 3
  have h3 : n % 3 = 0 ∨ n % 3 = 1 ∨ n % 3 = 2 := by omega
  unfold regW
  rcases h3 with h | h | h
  all_goals rw [h] at hm
  all_goals rw [h]
  all_goals repeat' (first | (first | apply ifk_og | apply ifk_gg | apply ifk_go | apply ifk_ss) <;> intro hc | simp (maxSteps := 5000000) (disch := first | assumption | omega | (simp only [ASt.set_ctr, ASt.new_ctr] <;> omega)) only [r36_0.down, r36_1.down, n36_1, n36_0, rq_36, hint_36_3, o_bs_24_3, o_ixi_24, o_ixs_24, o_ldp_9, o_ldi_9, AVal.undef, zaa, zab, aeval, aput, ahint, absOf, flat, nilCheckA, ANext.ofP, evals, evalPs, evalO, zac, zad, zae, zaf, ↓reduceIte, Nat.reduceLT, Nat.reduceEqDiff, reduceCtorEq, zag, zah, zai, zaj, zak, Nat.reduceAdd, Nat.reduceLeDiff, callA, zal, zam, zan, zao, zap, zaq, zar, zas, zat, zau, evalV, yieldB, zav, zaw, zax, zay, zaz, zba, zbb, zbc, zbd, zbe, zbf, zbg, zbh, zbi, zbj, zbk, zbl, zbm, zbn, zbo, zbp, zbq, zbr, extractA, zbs, zbt, zbu, zbv, zbw, zbx, zby, zbz, zca, zcb, zcc, zcd, zce, zcf, zcg, zch, zci, zcj, zck, zcl, zcm, zcn, zco, zcp, zcq, zcr, zcs, zct, zcu, zcv, zcw, zcx, zcy, zcz, zda, zdb, zdc, zdd, zde, zdf, zdg, zdh, zdi, zdj, boxA, newA, zdk, zdl, zdm, zdn, zdo, zdp, zdq, zdr, zds, zdt, zdu, zdv, zdw, fillA, putL, setsE, zdx, zdy, zdz, zea, zeb, zec, zed, zee, zef, zeg, zeh, zei, zej, Nat.reduceBEq, Nat.reduceBNe, zek, zel, zem, zen, Nat.reduceMul, zeo, zep, zeq, zer, zes, zet, zeu, zev, zew, zex, zey, zez, zfa, zfb, zfc, zfd, zfe, zff, zfg, zfh, zfi, zfj, zfk, zfl, zfm, zfn, zfo, zfp, zfq, zfr, zfs, zft, zfu, zfv, zfw, zfx, zfy, zfz, zga, zgb, zgc, zgd, zge, zgf, zgg, zgh, zgi, zgj, ne_eq, zgk, zgl, zgm, zgn, zgo, gt_iff_lt, ge_iff_le, zgp, zgq, zgr, zgs, zgt, zgu, zgv, zgw, zgx, zgy, zgz, zha, zhb, zhc, zhd, zhe, zhf, zhg, zhh, zhi, zhj, zhk, zhl, zhm, zhn, zho, zhp, zhq, gp_opg, zhr, zhs, zht, zhu, zhv, zhw, zhx, zhy, stillD, Int.reduceToNat, zhz, zia, t0,hm])
  all_goals rfl
theorem cv_uf {s : TypeId} (hs : E.P.underlying s = some (.int .u8)) (n : Nat) (h : n < 2 ^ 53) (mt : Bool) (st : ASt) : convA E.P mt s 57 (.lit (.int .u8 (n : Int))) st = some (.lit (.float .f64 (fz n)), st) := by
  have e := ofInt_w (n : Int) (by simpa using h)
  rw [c_if hs rfl, e]
  rfl
theorem num_rw (n : Int) (st : ASt) : ∃ r st', rw E 19 [.lit (.int .i8 n)] st = some (r, st') ∧ (r = .returned (numE n).a ∧ Gr st st') := by
  refine en_19 fun g t0 => ?_
  have hw : IntKind.u8.wrap n = (((n % 256).toNat : Nat) : Int) := by
    have : IntKind.u8.wrap n = n % 256 := by simp [IntKind.wrap, IntKind.bits, IntKind.signed]
    omega
  have hm : ((((n % 256).toNat : Nat) : Int)).tmod 16 = ((numV n : Nat) : Int) := tmod_n _ 16
  have hv : numV n < 16 := by unfold numV; omega
  have hc := fun mt st => cv_uf (s := 5) rfl (numV n) (by omega) mt st
  have ha := fun (t : TypeId) (xo yo : Operand) => b_fadd (P := E.P) (t := t) (xo := xo) (yo := yo) (add_fz (a := (numV n : Int)) (c := 1) (by omega) (by decide))
  rw [← fz1] at ha
  unfold numE
  by_cases hn : n < 0
  · rw [if_pos hn]
    repeat' (first | (first | apply ifk_og | apply ifk_gg | apply ifk_go | apply ifk_ss) <;> intro hc | simp (maxSteps := 5000000) (disch := first | assumption | omega | (simp only [ASt.set_ctr, ASt.new_ctr] <;> omega)) only [r19_0.down, r19_1.down, r19_2.down, r19_3.down, n19_5, n19_4, n19_3, r19_4.down, n19_6, n19_2, n19_1, n19_0, rq_19, o_al_48, o_cv_30_5, hint_19_7, o_bd_48, o_st_48, o_ldp_48, o_ldi_48, AVal.undef, zaa, zab, aeval, aput, ahint, absOf, flat, nilCheckA, ANext.ofP, evals, evalPs, evalO, zac, zad, zae, zaf, ↓reduceIte, Nat.reduceLT, Nat.reduceEqDiff, reduceCtorEq, zag, zah, zai, zaj, zak, Nat.reduceAdd, Nat.reduceLeDiff, callA, zal, zam, zan, zao, zap, zaq, zar, zas, zat, zau, evalV, yieldB, zav, zaw, zax, zay, zaz, zba, zbb, zbc, zbd, zbe, zbf, zbg, zbh, zbi, zbj, zbk, zbl, zbm, zbn, zbo, zbp, zbq, zbr, extractA, zbs, zbt, zbu, zbv, zbw, zbx, zby, zbz, zca, zcb, zcc, zcd, zce, zcf, zcg, zch, zci, zcj, zck, zcl, zcm, zcn, zco, zcp, zcq, zcr, zcs, zct, zcu, zcv, zcw, zcx, zcy, zcz, zda, zdb, zdc, zdd, zde, zdf, zdg, zdh, zdi, zdj, boxA, newA, zdk, zdl, zdm, zdn, zdo, zdp, zdq, zdr, zds, zdt, zdu, zdv, zdw, fillA, putL, setsE, zdx, zdy, zdz, zea, zeb, zec, zed, zee, zef, zeg, zeh, zei, zej, Nat.reduceBEq, Nat.reduceBNe, zek, zel, zem, zen, Nat.reduceMul, zeo, zep, zeq, zer, zes, zet, zeu, zev, zew, zex, zey, zez, zfa, zfb, zfc, zfd, zfe, zff, zfg, zfh, zfi, zfj, zfk, zfl, zfm, zfn, zfo, zfp, zfq, zfr, zfs, zft, zfu, zfv, zfw, zfx, zfy, zfz, zga, zgb, zgc, zgd, zge, zgf, zgg, zgh, zgi, zgj, ne_eq, zgk, zgl, zgm, zgn, zgo, gt_iff_lt, ge_iff_le, zgp, zgq, zgr, zgs, zgt, zgu, zgv, zgw, zgx, zgy, zgz, zha, zhb, zhc, zhd, zhe, zhf, zhg, zhh, zhi, zhj, zhk, zhl, zhm, zhn, zho, zhp, zhq, gp_opg, zhr, zhs, zht, zhu, zhv, zhw, zhx, zhy, stillD, Int.reduceToNat, zhz, zia, t0,hw,hm,hc,ha,bi_cplx])
    exact ⟨by unfold Ex.a Ex.ps cz; rw [fz0]; rfl, (((Gr.refl _).new' _).set' (by simp))⟩
  · rw [if_neg hn]
    repeat' (first | (first | apply ifk_og | apply ifk_gg | apply ifk_go | apply ifk_ss) <;> intro hc | simp (maxSteps := 5000000) (disch := first | assumption | omega | (simp only [ASt.set_ctr, ASt.new_ctr] <;> omega)) only [r19_0.down, r19_1.down, r19_2.down, r19_3.down, n19_5, n19_4, n19_3, r19_4.down, n19_6, n19_2, n19_1, n19_0, rq_19, o_al_48, o_cv_30_5, hint_19_7, o_bd_48, o_st_48, o_ldp_48, o_ldi_48, AVal.undef, zaa, zab, aeval, aput, ahint, absOf, flat, nilCheckA, ANext.ofP, evals, evalPs, evalO, zac, zad, zae, zaf, ↓reduceIte, Nat.reduceLT, Nat.reduceEqDiff, reduceCtorEq, zag, zah, zai, zaj, zak, Nat.reduceAdd, Nat.reduceLeDiff, callA, zal, zam, zan, zao, zap, zaq, zar, zas, zat, zau, evalV, yieldB, zav, zaw, zax, zay, zaz, zba, zbb, zbc, zbd, zbe, zbf, zbg, zbh, zbi, zbj, zbk, zbl, zbm, zbn, zbo, zbp, zbq, zbr, extractA, zbs, zbt, zbu, zbv, zbw, zbx, zby, zbz, zca, zcb, zcc, zcd, zce, zcf, zcg, zch, zci, zcj, zck, zcl, zcm, zcn, zco, zcp, zcq, zcr, zcs, zct, zcu, zcv, zcw, zcx, zcy, zcz, zda, zdb, zdc, zdd, zde, zdf, zdg, zdh, zdi, zdj, boxA, newA, zdk, zdl, zdm, zdn, zdo, zdp, zdq, zdr, zds, zdt, zdu, zdv, zdw, fillA, putL, setsE, zdx, zdy, zdz, zea, zeb, zec, zed, zee, zef, zeg, zeh, zei, zej, Nat.reduceBEq, Nat.reduceBNe, zek, zel, zem, zen, Nat.reduceMul, zeo, zep, zeq, zer, zes, zet, zeu, zev, zew, zex, zey, zez, zfa, zfb, zfc, zfd, zfe, zff, zfg, zfh, zfi, zfj, zfk, zfl, zfm, zfn, zfo, zfp, zfq, zfr, zfs, zft, zfu, zfv, zfw, zfx, zfy, zfz, zga, zgb, zgc, zgd, zge, zgf, zgg, zgh, zgi, zgj, ne_eq, zgk, zgl, zgm, zgn, zgo, gt_iff_lt, ge_iff_le, zgp, zgq, zgr, zgs, zgt, zgu, zgv, zgw, zgx, zgy, zgz, zha, zhb, zhc, zhd, zhe, zhf, zhg, zhh, zhi, zhj, zhk, zhl, zhm, zhn, zho, zhp, zhq, gp_opg, zhr, zhs, zht, zhu, zhv, zhw, zhx, zhy, stillD, Int.reduceToNat, zhz, zia, t0,hw,hm,hc,ha,bi_cplx])
    exact ⟨by unfold Ex.a Ex.ps cz; rw [fz0]; rfl, (((Gr.refl _).new' _).set' (by simp))⟩
theorem register_rw (n : Nat) (st : ASt) : ∃ r st', rw E 18 [.lit (.int .u8 (n : Int))] st = some (r, st') ∧ (r = .returned (regE n).a ∧ Gr st st') := by
  refine en_18 fun g t0 => ?_
  have h := fun st => reg_rw n st
  unfold str at h
  repeat' (first | (first | apply ifk_og | apply ifk_gg | apply ifk_go | apply ifk_ss) <;> intro hc | simp (maxSteps := 5000000) (disch := first | assumption | omega | (simp only [ASt.set_ctr, ASt.new_ctr] <;> omega)) only [r18_0.down, r18_1.down, n18_1, n18_0, rq_18, o_al_48, cf_36, o_bd_48, o_st_48, o_ldp_48, o_ldi_48, AVal.undef, zaa, zab, aeval, aput, ahint, absOf, flat, nilCheckA, ANext.ofP, evals, evalPs, evalO, zac, zad, zae, zaf, ↓reduceIte, Nat.reduceLT, Nat.reduceEqDiff, reduceCtorEq, zag, zah, zai, zaj, zak, Nat.reduceAdd, Nat.reduceLeDiff, callA, zal, zam, zan, zao, zap, zaq, zar, zas, zat, zau, evalV, yieldB, zav, zaw, zax, zay, zaz, zba, zbb, zbc, zbd, zbe, zbf, zbg, zbh, zbi, zbj, zbk, zbl, zbm, zbn, zbo, zbp, zbq, zbr, extractA, zbs, zbt, zbu, zbv, zbw, zbx, zby, zbz, zca, zcb, zcc, zcd, zce, zcf, zcg, zch, zci, zcj, zck, zcl, zcm, zcn, zco, zcp, zcq, zcr, zcs, zct, zcu, zcv, zcw, zcx, zcy, zcz, zda, zdb, zdc, zdd, zde, zdf, zdg, zdh, zdi, zdj, boxA, newA, zdk, zdl, zdm, zdn, zdo, zdp, zdq, zdr, zds, zdt, zdu, zdv, zdw, fillA, putL, setsE, zdx, zdy, zdz, zea, zeb, zec, zed, zee, zef, zeg, zeh, zei, zej, Nat.reduceBEq, Nat.reduceBNe, zek, zel, zem, zen, Nat.reduceMul, zeo, zep, zeq, zer, zes, zet, zeu, zev, zew, zex, zey, zez, zfa, zfb, zfc, zfd, zfe, zff, zfg, zfh, zfi, zfj, zfk, zfl, zfm, zfn, zfo, zfp, zfq, zfr, zfs, zft, zfu, zfv, zfw, zfx, zfy, zfz, zga, zgb, zgc, zgd, zge, zgf, zgg, zgh, zgi, zgj, ne_eq, zgk, zgl, zgm, zgn, zgo, gt_iff_lt, ge_iff_le, zgp, zgq, zgr, zgs, zgt, zgu, zgv, zgw, zgx, zgy, zgz, zha, zhb, zhc, zhd, zhe, zhf, zhg, zhh, zhi, zhj, zhk, zhl, zhm, zhn, zho, zhp, zhq, gp_opg, zhr, zhs, zht, zhu, zhv, zhw, zhx, zhy, stillD, Int.reduceToNat, zhz, zia, t0,h])
  exact ⟨by unfold regE Ex.a Ex.ps cz; rw [fz0]; rfl, (((Gr.refl _).new' _).set' (by simp))⟩
theorem cv_rune (d : Nat) (h : d < 9) (mt : Bool) (st : ASt) : convA E.P mt 21 9 (.lit (.int .i32 ((48 + d : Nat) : Int))) st = some (.lit (.string ⟨#[UInt8.ofNat (48 + d)]⟩), st) := by
  have h9 : d = 0 ∨ d = 1 ∨ d = 2 ∨ d = 3 ∨ d = 4 ∨ d = 5 ∨ d = 6 ∨ d = 7 ∨ d = 8 := by omega
  rcases h9 with rfl | rfl | rfl | rfl | rfl | rfl | rfl | rfl | rfl <;> rfl
theorem letter_rw4 (s : List UInt8) (n m : Nat) (hs : s.length ≤ 1000) (hm : 0 < m) (hm2 : m ≤ 9) (st : ASt) : rw E 24 [str s, .lit (.int .u8 (n : Int)), .lit (.int .u8 (m : Int))] st = some (.returned (str (s ++ [UInt8.ofNat (48 + n % m)])), st) := by
  refine rw_ex (en_24 fun g t0 t1 t2 => ?_)
  have hr : (n : Int).tmod (m : Int) = ((n % m : Nat) : Int) := tmod_n n m
  have hlt : n % m < m := Nat.mod_lt _ hm
  have hcv := fun mt st => cv_rune (n % m) (by omega) mt st
  have ha := fun (t : TypeId) (xo yo : Operand) => b_sadd (P := E.P) (t := t) (xo := xo) (yo := yo) (l := s) (m := [UInt8.ofNat (48 + n % m)]) (by simp; omega)
  have hs1 : 48 + ((n % m : Nat) : Int) = ((48 + n % m : Nat) : Int) := by omega
  unfold str at t0
  repeat' (first | (first | apply ifk_og | apply ifk_gg | apply ifk_go | apply ifk_ss) <;> intro hc | simp (maxSteps := 5000000) (disch := first | assumption | omega | (simp only [ASt.set_ctr, ASt.new_ctr] <;> omega)) only [r24_0.down, r24_1.down, n24_1, n24_0, rq_24, o_cv_5_21, hint_24_13, add_str, AVal.undef, zaa, zab, aeval, aput, ahint, absOf, flat, nilCheckA, ANext.ofP, evals, evalPs, evalO, zac, zad, zae, zaf, ↓reduceIte, Nat.reduceLT, Nat.reduceEqDiff, reduceCtorEq, zag, zah, zai, zaj, zak, Nat.reduceAdd, Nat.reduceLeDiff, callA, zal, zam, zan, zao, zap, zaq, zar, zas, zat, zau, evalV, yieldB, zav, zaw, zax, zay, zaz, zba, zbb, zbc, zbd, zbe, zbf, zbg, zbh, zbi, zbj, zbk, zbl, zbm, zbn, zbo, zbp, zbq, zbr, extractA, zbs, zbt, zbu, zbv, zbw, zbx, zby, zbz, zca, zcb, zcc, zcd, zce, zcf, zcg, zch, zci, zcj, zck, zcl, zcm, zcn, zco, zcp, zcq, zcr, zcs, zct, zcu, zcv, zcw, zcx, zcy, zcz, zda, zdb, zdc, zdd, zde, zdf, zdg, zdh, zdi, zdj, boxA, newA, zdk, zdl, zdm, zdn, zdo, zdp, zdq, zdr, zds, zdt, zdu, zdv, zdw, fillA, putL, setsE, zdx, zdy, zdz, zea, zeb, zec, zed, zee, zef, zeg, zeh, zei, zej, Nat.reduceBEq, Nat.reduceBNe, zek, zel, zem, zen, Nat.reduceMul, zeo, zep, zeq, zer, zes, zet, zeu, zev, zew, zex, zey, zez, zfa, zfb, zfc, zfd, zfe, zff, zfg, zfh, zfi, zfj, zfk, zfl, zfm, zfn, zfo, zfp, zfq, zfr, zfs, zft, zfu, zfv, zfw, zfx, zfy, zfz, zga, zgb, zgc, zgd, zge, zgf, zgg, zgh, zgi, zgj, ne_eq, zgk, zgl, zgm, zgn, zgo, gt_iff_lt, ge_iff_le, zgp, zgq, zgr, zgs, zgt, zgu, zgv, zgw, zgx, zgy, zgz, zha, zhb, zhc, zhd, zhe, zhf, zhg, zhh, zhi, zhj, zhk, zhl, zhm, zhn, zho, zhp, zhq, gp_opg, zhr, zhs, zht, zhu, zhv, zhw, zhx, zhy, stillD, Int.reduceToNat, zhz, zia, t0,t1,t2,hr,hcv,ha,hs1])
  all_goals rfl
theorem many_rw (n m : Nat) (none : Bool) (hm : 0 < m) (hm2 : m ≤ 9) (st : ASt) : rw E 23 [.lit (.int .u8 (n : Int)), .lit (.int .u8 (m : Int)), .lit (.bool none)] st = some (.returned (.lit (.int .u8 ((if none then n % (m + 1) else 1 + n % m : Nat) : Int))), st) := by
  refine rw_ex (en_23 fun g t0 t1 t2 => ?_)
  have hr : (n : Int).tmod (m : Int) = ((n % m : Nat) : Int) := tmod_n n m
  have hr2 : (n : Int).tmod ((m : Int) + 1) = ((n % (m + 1) : Nat) : Int) := tmod_n n (m + 1)
  have hlt : n % m < m := Nat.mod_lt _ hm
  cases none
  all_goals repeat' (first | (first | apply ifk_og | apply ifk_gg | apply ifk_go | apply ifk_ss) <;> intro hc | simp (maxSteps := 5000000) (disch := first | assumption | omega | (simp only [ASt.set_ctr, ASt.new_ctr] <;> omega)) only [r23_0.down, r23_1.down, r23_2.down, n23_4, n23_3, n23_2, r23_3.down, n23_5, n23_1, n23_0, rq_23, AVal.undef, zaa, zab, aeval, aput, ahint, absOf, flat, nilCheckA, ANext.ofP, evals, evalPs, evalO, zac, zad, zae, zaf, ↓reduceIte, Nat.reduceLT, Nat.reduceEqDiff, reduceCtorEq, zag, zah, zai, zaj, zak, Nat.reduceAdd, Nat.reduceLeDiff, callA, zal, zam, zan, zao, zap, zaq, zar, zas, zat, zau, evalV, yieldB, zav, zaw, zax, zay, zaz, zba, zbb, zbc, zbd, zbe, zbf, zbg, zbh, zbi, zbj, zbk, zbl, zbm, zbn, zbo, zbp, zbq, zbr, extractA, zbs, zbt, zbu, zbv, zbw, zbx, zby, zbz, zca, zcb, zcc, zcd, zce, zcf, zcg, zch, zci, zcj, zck, zcl, zcm, zcn, zco, zcp, zcq, zcr, zcs, zct, zcu, zcv, zcw, zcx, zcy, zcz, zda, zdb, zdc, zdd, zde, zdf, zdg, zdh, zdi, zdj, boxA, newA, zdk, zdl, zdm, zdn, zdo, zdp, zdq, zdr, zds, zdt, zdu, zdv, zdw, fillA, putL, setsE, zdx, zdy, zdz, zea, zeb, zec, zed, zee, zef, zeg, zeh, zei, zej, Nat.reduceBEq, Nat.reduceBNe, zek, zel, zem, zen, Nat.reduceMul, zeo, zep, zeq, zer, zes, zet, zeu, zev, zew, zex, zey, zez, zfa, zfb, zfc, zfd, zfe, zff, zfg, zfh, zfi, zfj, zfk, zfl, zfm, zfn, zfo, zfp, zfq, zfr, zfs, zft, zfu, zfv, zfw, zfx, zfy, zfz, zga, zgb, zgc, zgd, zge, zgf, zgg, zgh, zgi, zgj, ne_eq, zgk, zgl, zgm, zgn, zgo, gt_iff_lt, ge_iff_le, zgp, zgq, zgr, zgs, zgt, zgu, zgv, zgw, zgx, zgy, zgz, zha, zhb, zhc, zhd, zhe, zhf, zhg, zhh, zhi, zhj, zhk, zhl, zhm, zhn, zho, zhp, zhq, gp_opg, zhr, zhs, zht, zhu, zhv, zhw, zhx, zhy, stillD, Int.reduceToNat, zhz, zia, t0,t1,t2,hr,hr2])
  all_goals (simp only [Int.natCast_add]; rfl)
theorem cast_R {R : AEnd → ASt → Prop} {a b : AVal} {s : ASt} (h : R (.returned a) s) (e : a = b) : R (.returned b) s := e ▸ h
theorem ex_ea (n : Nat) : (regE n).a = .agg [.lit (.string ⟨#[114, 101, 103]⟩), .lit (.complex .f64 0 0), .lit (.string ⟨(regW n).toArray⟩), .lit (.slice none 0 0)] := by unfold regE Ex.a Ex.ps cz; rw [fz0]; rfl
theorem ex_eb (n : Int) : ∃ x y, (numE n).a = .agg [.lit (.string ⟨#[]⟩), .lit (.complex .f64 x y), .lit (.string ⟨#[]⟩), .lit (.slice none 0 0)] := by
  unfold numE
  split
  all_goals exact ⟨_, _, by unfold Ex.a Ex.ps cz; rfl⟩
set_option maxHeartbeats 4000000 in
theorem expr_sw {kind : Nat} {n : Int} (base : ASt) (f : Nat → AVal) (st : ASt) (R : AEnd → ASt → Prop) (k : List Frm) {p4 p5 p6 : Nat} (q0 : f 0 = .lit (.int .u8 (kind : Int))) (q4 : f 4 = .ptr p4 0) (q5 : f 5 = .ptr p5 0) (q6 : f 6 = .ptr p6 0)
    (h4 : ∃ a b c d, st.heap p4 = some (.cells [a, b, c, d])) (h5 : st.heap p5 = some (.cells (regE (kind / 16)).a.cells)) (h6 : st.heap p6 = some (.cells (numE n).a.cells)) (g : Gr base st) (hb : base.ctr ≤ p4)
    (hR : ∀ st', Gr base st' → R (.returned (exprE kind n).a) st') : Gc E 51 N51_3 (.code N51_48 :: k) (RQ E Tryd.f51 R) (Sl 84 f) st := by
  have hr : (kind : Int).tmod 16 = ((kind % 16 : Nat) : Int) := tmod_n kind 16
  have hlt : kind % 16 < 16 := Nat.mod_lt _ (by decide)
  obtain ⟨x1, x2, x3, x4, h4⟩ := h4
  obtain ⟨y1, y2, eb⟩ := ex_eb n
  rw [ex_ea] at h5
  rw [eb] at h6
  unfold AVal.cells at h5 h6
  simp only at h5 h6
  have G := fun x => (g.set' (x := x) hb)
  have key : ∀ e : Ex, exprE kind n = e → ∀ st', Gr base st' → R (.returned e.a) st' := fun e he st' hg => he ▸ hR st' hg
  unfold exprE at key
  simp only at key
  obtain ⟨m, hm⟩ : ∃ m, m = kind % 16 := ⟨_, rfl⟩
  rw [← hm] at hr key hlt
  have h16 : m = 0 ∨ m = 1 ∨ m = 2 ∨ m = 3 ∨ m = 4 ∨ m = 5 ∨ m = 6 ∨ m = 7 ∨ m = 8 ∨ m = 9 ∨ m = 10 ∨ m = 11 ∨ m = 12 ∨ m = 13 ∨ m = 14 ∨ m = 15 := by omega
  clear hm hlt hR
  rcases h16 with rfl | rfl | rfl | rfl | rfl | rfl | rfl | rfl | rfl | rfl | rfl | rfl | rfl | rfl | rfl | rfl
  all_goals repeat' (first | (first | apply ifk_og | apply ifk_gg | apply ifk_go | apply ifk_ss) <;> intro hc | simp (maxSteps := 5000000) (disch := first | assumption | omega | (simp only [ASt.set_ctr, ASt.new_ctr] <;> omega)) only [r51_0.down, r51_1.down, r51_2.down, r51_3.down, r51_4.down, r51_5.down, r51_6.down, n51_12, n51_11, n51_10, n51_9, n51_8, n51_7, n51_6, r51_7.down, n51_14, r51_8.down, r51_9.down, n51_18, n51_17, n51_16, r51_10.down, n51_20, r51_11.down, r51_12.down, n51_23, r51_13.down, r51_14.down, n51_26, r51_15.down, r51_16.down, n51_29, r51_17.down, r51_18.down, n51_32, r51_19.down, r51_20.down, n51_35, r51_21.down, r51_22.down, n51_38, r51_23.down, r51_24.down, n51_41, r51_25.down, r51_26.down, n51_44, r51_27.down, r51_28.down, n51_47, n51_46, n51_45, n51_43, n51_42, n51_40, n51_39, n51_37, n51_36, n51_34, n51_33, n51_31, n51_30, n51_28, n51_27, n51_25, n51_24, n51_22, n51_21, n51_19, n51_15, n51_13, n51_5, n51_4, n51_3, r51_29.down, n51_48, n51_2, n51_1, n51_0, rq_51, o_al_48, cf_18, cf_19, o_st_48, o_ldp_48, o_ldi_48, hint_51_28, o_bs_46_2, o_bd_48, hint_51_34, hint_51_40, hint_51_46, hint_51_52, hint_51_58, hint_51_64, hint_51_66, o_bs_46_1, hint_51_71, hint_51_76, hint_51_80, hint_51_82, AVal.undef, zaa, zab, aeval, aput, ahint, absOf, flat, nilCheckA, ANext.ofP, evals, evalPs, evalO, zac, zad, zae, zaf, ↓reduceIte, Nat.reduceLT, Nat.reduceEqDiff, reduceCtorEq, zag, zah, zai, zaj, zak, Nat.reduceAdd, Nat.reduceLeDiff, callA, zal, zam, zan, zao, zap, zaq, zar, zas, zat, zau, evalV, yieldB, zav, zaw, zax, zay, zaz, zba, zbb, zbc, zbd, zbe, zbf, zbg, zbh, zbi, zbj, zbk, zbl, zbm, zbn, zbo, zbp, zbq, zbr, extractA, zbs, zbt, zbu, zbv, zbw, zbx, zby, zbz, zca, zcb, zcc, zcd, zce, zcf, zcg, zch, zci, zcj, zck, zcl, zcm, zcn, zco, zcp, zcq, zcr, zcs, zct, zcu, zcv, zcw, zcx, zcy, zcz, zda, zdb, zdc, zdd, zde, zdf, zdg, zdh, zdi, zdj, boxA, newA, zdk, zdl, zdm, zdn, zdo, zdp, zdq, zdr, zds, zdt, zdu, zdv, zdw, fillA, putL, setsE, zdx, zdy, zdz, zea, zeb, zec, zed, zee, zef, zeg, zeh, zei, zej, Nat.reduceBEq, Nat.reduceBNe, zek, zel, zem, zen, Nat.reduceMul, zeo, zep, zeq, zer, zes, zet, zeu, zev, zew, zex, zey, zez, zfa, zfb, zfc, zfd, zfe, zff, zfg, zfh, zfi, zfj, zfk, zfl, zfm, zfn, zfo, zfp, zfq, zfr, zfs, zft, zfu, zfv, zfw, zfx, zfy, zfz, zga, zgb, zgc, zgd, zge, zgf, zgg, zgh, zgi, zgj, ne_eq, zgk, zgl, zgm, zgn, zgo, gt_iff_lt, ge_iff_le, zgp, zgq, zgr, zgs, zgt, zgu, zgv, zgw, zgx, zgy, zgz, zha, zhb, zhc, zhd, zhe, zhf, zhg, zhh, zhi, zhj, zhk, zhl, zhm, zhn, zho, zhp, zhq, gp_opg, zhr, zhs, zht, zhu, zhv, zhw, zhx, zhy, stillD, Int.reduceToNat, zhz, zia, q0,q4,q5,q6,h4,h5,h6,hr])
  all_goals
    refine cast_R (key _ rfl _ (G _)) ?_
    simp only [Nat.reduceLT, Nat.reduceEqDiff, ↓reduceIte, Ex.a, Ex.ps, Ex.as, eb, ex_ea, cz, fz0, str]
set_option maxHeartbeats 4000000 in
theorem expr_rw (kind : Nat) (n : Int) (hk : kind < 256) (st : ASt) : ∃ r st', rw E 51 [.lit (.int .u8 (kind : Int)), .lit (.int .i8 n)] st = some (r, st') ∧ (r = .returned (exprE kind n).a ∧ Gr st st') := by
  refine en_51 fun g t0 t1 => ?_
  have hq : (kind : Int).tdiv 16 = ((kind / 16 : Nat) : Int) := tdiv_n kind 16
  repeat' (first | (first | apply ifk_og | apply ifk_gg | apply ifk_go | apply ifk_ss) <;> intro hc | simp (maxSteps := 5000000) (disch := first | assumption | omega | (simp only [ASt.set_ctr, ASt.new_ctr] <;> omega)) only [r51_0.down, r51_1.down, r51_2.down, r51_3.down, r51_4.down, r51_5.down, r51_6.down, n51_12, n51_11, n51_10, n51_9, n51_8, n51_7, n51_6, r51_7.down, n51_14, r51_8.down, r51_9.down, n51_18, n51_17, n51_16, r51_10.down, n51_20, r51_11.down, r51_12.down, n51_23, r51_13.down, r51_14.down, n51_26, r51_15.down, r51_16.down, n51_29, r51_17.down, r51_18.down, n51_32, r51_19.down, r51_20.down, n51_35, r51_21.down, r51_22.down, n51_38, r51_23.down, r51_24.down, n51_41, r51_25.down, r51_26.down, n51_44, r51_27.down, r51_28.down, n51_47, n51_46, n51_45, n51_43, n51_42, n51_40, n51_39, n51_37, n51_36, n51_34, n51_33, n51_31, n51_30, n51_28, n51_27, n51_25, n51_24, n51_22, n51_21, n51_19, n51_15, n51_13, n51_5, n51_4, r51_29.down, n51_48, n51_2, n51_1, n51_0, rq_51, o_al_48, cf_18, cf_19, o_st_48, o_ldp_48, o_ldi_48, hint_51_28, o_bs_46_2, o_bd_48, hint_51_34, hint_51_40, hint_51_46, hint_51_52, hint_51_58, hint_51_64, hint_51_66, o_bs_46_1, hint_51_71, hint_51_76, hint_51_80, hint_51_82, AVal.undef, zaa, zab, aeval, aput, ahint, absOf, flat, nilCheckA, ANext.ofP, evals, evalPs, evalO, zac, zad, zae, zaf, ↓reduceIte, Nat.reduceLT, Nat.reduceEqDiff, reduceCtorEq, zag, zah, zai, zaj, zak, Nat.reduceAdd, Nat.reduceLeDiff, callA, zal, zam, zan, zao, zap, zaq, zar, zas, zat, zau, evalV, yieldB, zav, zaw, zax, zay, zaz, zba, zbb, zbc, zbd, zbe, zbf, zbg, zbh, zbi, zbj, zbk, zbl, zbm, zbn, zbo, zbp, zbq, zbr, extractA, zbs, zbt, zbu, zbv, zbw, zbx, zby, zbz, zca, zcb, zcc, zcd, zce, zcf, zcg, zch, zci, zcj, zck, zcl, zcm, zcn, zco, zcp, zcq, zcr, zcs, zct, zcu, zcv, zcw, zcx, zcy, zcz, zda, zdb, zdc, zdd, zde, zdf, zdg, zdh, zdi, zdj, boxA, newA, zdk, zdl, zdm, zdn, zdo, zdp, zdq, zdr, zds, zdt, zdu, zdv, zdw, fillA, putL, setsE, zdx, zdy, zdz, zea, zeb, zec, zed, zee, zef, zeg, zeh, zei, zej, Nat.reduceBEq, Nat.reduceBNe, zek, zel, zem, zen, Nat.reduceMul, zeo, zep, zeq, zer, zes, zet, zeu, zev, zew, zex, zey, zez, zfa, zfb, zfc, zfd, zfe, zff, zfg, zfh, zfi, zfj, zfk, zfl, zfm, zfn, zfo, zfp, zfq, zfr, zfs, zft, zfu, zfv, zfw, zfx, zfy, zfz, zga, zgb, zgc, zgd, zge, zgf, zgg, zgh, zgi, zgj, ne_eq, zgk, zgl, zgm, zgn, zgo, gt_iff_lt, ge_iff_le, zgp, zgq, zgr, zgs, zgt, zgu, zgv, zgw, zgx, zgy, zgz, zha, zhb, zhc, zhd, zhe, zhf, zhg, zhh, zhi, zhj, zhk, zhl, zhm, zhn, zho, zhp, zhq, gp_opg, zhr, zhs, zht, zhu, zhv, zhw, zhx, zhy, stillD, Int.reduceToNat, zhz, zia, t0,t1,hq])
  refine sc_ex (register_rw _ _) fun r s1 h1 => ?_
  obtain ⟨rfl, g1⟩ := h1
  repeat' (first | (first | apply ifk_og | apply ifk_gg | apply ifk_go | apply ifk_ss) <;> intro hc | simp (maxSteps := 5000000) (disch := first | assumption | omega | (simp only [ASt.set_ctr, ASt.new_ctr] <;> omega)) only [r51_0.down, r51_1.down, r51_2.down, r51_3.down, r51_4.down, r51_5.down, r51_6.down, n51_12, n51_11, n51_10, n51_9, n51_8, n51_7, n51_6, r51_7.down, n51_14, r51_8.down, r51_9.down, n51_18, n51_17, n51_16, r51_10.down, n51_20, r51_11.down, r51_12.down, n51_23, r51_13.down, r51_14.down, n51_26, r51_15.down, r51_16.down, n51_29, r51_17.down, r51_18.down, n51_32, r51_19.down, r51_20.down, n51_35, r51_21.down, r51_22.down, n51_38, r51_23.down, r51_24.down, n51_41, r51_25.down, r51_26.down, n51_44, r51_27.down, r51_28.down, n51_47, n51_46, n51_45, n51_43, n51_42, n51_40, n51_39, n51_37, n51_36, n51_34, n51_33, n51_31, n51_30, n51_28, n51_27, n51_25, n51_24, n51_22, n51_21, n51_19, n51_15, n51_13, n51_5, n51_4, r51_29.down, n51_48, n51_2, n51_1, n51_0, rq_51, o_al_48, cf_18, cf_19, o_st_48, o_ldp_48, o_ldi_48, hint_51_28, o_bs_46_2, o_bd_48, hint_51_34, hint_51_40, hint_51_46, hint_51_52, hint_51_58, hint_51_64, hint_51_66, o_bs_46_1, hint_51_71, hint_51_76, hint_51_80, hint_51_82, AVal.undef, zaa, zab, aeval, aput, ahint, absOf, flat, nilCheckA, ANext.ofP, evals, evalPs, evalO, zac, zad, zae, zaf, ↓reduceIte, Nat.reduceLT, Nat.reduceEqDiff, reduceCtorEq, zag, zah, zai, zaj, zak, Nat.reduceAdd, Nat.reduceLeDiff, callA, zal, zam, zan, zao, zap, zaq, zar, zas, zat, zau, evalV, yieldB, zav, zaw, zax, zay, zaz, zba, zbb, zbc, zbd, zbe, zbf, zbg, zbh, zbi, zbj, zbk, zbl, zbm, zbn, zbo, zbp, zbq, zbr, extractA, zbs, zbt, zbu, zbv, zbw, zbx, zby, zbz, zca, zcb, zcc, zcd, zce, zcf, zcg, zch, zci, zcj, zck, zcl, zcm, zcn, zco, zcp, zcq, zcr, zcs, zct, zcu, zcv, zcw, zcx, zcy, zcz, zda, zdb, zdc, zdd, zde, zdf, zdg, zdh, zdi, zdj, boxA, newA, zdk, zdl, zdm, zdn, zdo, zdp, zdq, zdr, zds, zdt, zdu, zdv, zdw, fillA, putL, setsE, zdx, zdy, zdz, zea, zeb, zec, zed, zee, zef, zeg, zeh, zei, zej, Nat.reduceBEq, Nat.reduceBNe, zek, zel, zem, zen, Nat.reduceMul, zeo, zep, zeq, zer, zes, zet, zeu, zev, zew, zex, zey, zez, zfa, zfb, zfc, zfd, zfe, zff, zfg, zfh, zfi, zfj, zfk, zfl, zfm, zfn, zfo, zfp, zfq, zfr, zfs, zft, zfu, zfv, zfw, zfx, zfy, zfz, zga, zgb, zgc, zgd, zge, zgf, zgg, zgh, zgi, zgj, ne_eq, zgk, zgl, zgm, zgn, zgo, gt_iff_lt, ge_iff_le, zgp, zgq, zgr, zgs, zgt, zgu, zgv, zgw, zgx, zgy, zgz, zha, zhb, zhc, zhd, zhe, zhf, zhg, zhh, zhi, zhj, zhk, zhl, zhm, zhn, zho, zhp, zhq, gp_opg, zhr, zhs, zht, zhu, zhv, zhw, zhx, zhy, stillD, Int.reduceToNat, zhz, zia, t0,t1,hq])
  refine sc_ex (num_rw _ _) fun r s2 h2 => ?_
  obtain ⟨rfl, g2⟩ := h2
  have g3 := g1.trans g2
  have h4 : s2.heap st.ctr = some (.cells [.lit (.string ⟨#[]⟩), .lit (.complex .f64 0 0), .lit (.string ⟨#[]⟩), .lit (.slice none 0 0)]) := by
    rw [g3.2 st.ctr (by simp)]
    exact ASt.new_same _ _
  have hc : st.ctr < s2.ctr := Nat.lt_of_lt_of_le (by simp) g3.1
  obtain ⟨y1, y2, eb⟩ := ex_eb n
  rw [eb, ex_ea]
  clear g1 g2
  have g4 := ((Gr.refl st).new' _).trans g3
  clear g3
  repeat' (first | (first | apply ifk_og | apply ifk_gg | apply ifk_go | apply ifk_ss) <;> intro hc | simp (maxSteps := 5000000) (disch := first | assumption | omega | (simp only [ASt.set_ctr, ASt.new_ctr] <;> omega)) only [r51_0.down, r51_1.down, r51_2.down, r51_3.down, r51_4.down, r51_5.down, r51_6.down, n51_12, n51_11, n51_10, n51_9, n51_8, n51_7, n51_6, r51_7.down, n51_14, r51_8.down, r51_9.down, n51_18, n51_17, n51_16, r51_10.down, n51_20, r51_11.down, r51_12.down, n51_23, r51_13.down, r51_14.down, n51_26, r51_15.down, r51_16.down, n51_29, r51_17.down, r51_18.down, n51_32, r51_19.down, r51_20.down, n51_35, r51_21.down, r51_22.down, n51_38, r51_23.down, r51_24.down, n51_41, r51_25.down, r51_26.down, n51_44, r51_27.down, r51_28.down, n51_47, n51_46, n51_45, n51_43, n51_42, n51_40, n51_39, n51_37, n51_36, n51_34, n51_33, n51_31, n51_30, n51_28, n51_27, n51_25, n51_24, n51_22, n51_21, n51_19, n51_15, n51_13, n51_5, n51_4, r51_29.down, n51_48, n51_2, n51_1, n51_0, rq_51, o_al_48, cf_18, cf_19, o_st_48, o_ldp_48, o_ldi_48, hint_51_28, o_bs_46_2, o_bd_48, hint_51_34, hint_51_40, hint_51_46, hint_51_52, hint_51_58, hint_51_64, hint_51_66, o_bs_46_1, hint_51_71, hint_51_76, hint_51_80, hint_51_82, AVal.undef, zaa, zab, aeval, aput, ahint, absOf, flat, nilCheckA, ANext.ofP, evals, evalPs, evalO, zac, zad, zae, zaf, ↓reduceIte, Nat.reduceLT, Nat.reduceEqDiff, reduceCtorEq, zag, zah, zai, zaj, zak, Nat.reduceAdd, Nat.reduceLeDiff, callA, zal, zam, zan, zao, zap, zaq, zar, zas, zat, zau, evalV, yieldB, zav, zaw, zax, zay, zaz, zba, zbb, zbc, zbd, zbe, zbf, zbg, zbh, zbi, zbj, zbk, zbl, zbm, zbn, zbo, zbp, zbq, zbr, extractA, zbs, zbt, zbu, zbv, zbw, zbx, zby, zbz, zca, zcb, zcc, zcd, zce, zcf, zcg, zch, zci, zcj, zck, zcl, zcm, zcn, zco, zcp, zcq, zcr, zcs, zct, zcu, zcv, zcw, zcx, zcy, zcz, zda, zdb, zdc, zdd, zde, zdf, zdg, zdh, zdi, zdj, boxA, newA, zdk, zdl, zdm, zdn, zdo, zdp, zdq, zdr, zds, zdt, zdu, zdv, zdw, fillA, putL, setsE, zdx, zdy, zdz, zea, zeb, zec, zed, zee, zef, zeg, zeh, zei, zej, Nat.reduceBEq, Nat.reduceBNe, zek, zel, zem, zen, Nat.reduceMul, zeo, zep, zeq, zer, zes, zet, zeu, zev, zew, zex, zey, zez, zfa, zfb, zfc, zfd, zfe, zff, zfg, zfh, zfi, zfj, zfk, zfl, zfm, zfn, zfo, zfp, zfq, zfr, zfs, zft, zfu, zfv, zfw, zfx, zfy, zfz, zga, zgb, zgc, zgd, zge, zgf, zgg, zgh, zgi, zgj, ne_eq, zgk, zgl, zgm, zgn, zgo, gt_iff_lt, ge_iff_le, zgp, zgq, zgr, zgs, zgt, zgu, zgv, zgw, zgx, zgy, zgz, zha, zhb, zhc, zhd, zhe, zhf, zhg, zhh, zhi, zhj, zhk, zhl, zhm, zhn, zho, zhp, zhq, gp_opg, zhr, zhs, zht, zhu, zhv, zhw, zhx, zhy, stillD, Int.reduceToNat, zhz, zia, t0,t1,hq])
  refine expr_sw st _ _ _ _ (p4 := st.ctr) (p5 := s2.ctr) (p6 := s2.ctr + 1) ?_ ?_ ?_ ?_ ?_ ?_ ?_ ?_ (Nat.le_refl _) (fun st' hg => ⟨rfl, hg⟩)
  · exact t0
  · rfl
  · rfl
  · rfl
  · refine ⟨_, _, _, _, Eq.trans ?_ h4⟩
    simp [ASt.set, ASt.new, Nat.ne_of_lt hc, Nat.ne_of_lt (Nat.lt_succ_of_lt hc)]
  · rw [ex_ea]; simp [ASt.set, ASt.new, AVal.cells]
  · rw [eb]; simp [ASt.set, ASt.new, AVal.cells]
  · exact (((g4.new' _).new' _).set' (by omega)).set' (by omega)
end Go.Proofs.YtpgcbmmifmnfpaaDoorV
