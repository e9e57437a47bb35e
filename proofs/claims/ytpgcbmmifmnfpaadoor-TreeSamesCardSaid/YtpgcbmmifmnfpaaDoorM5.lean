/- law 04: an expression's text, by definition, walked. No condition. -/
import Derived.Test.YtpgcbmmifmnfpaaDoorM1
import Derived.Test.YtpgcbmmifmnfpaaDoorX3
import Derived.Lib.ItoaLen
namespace Go.Proofs.YtpgcbmmifmnfpaaDoorV
open Go Go.RowKit Go.Proofs.YtpgcbmmifmnfpaaDoorA
set_option linter.unusedVariables false
set_option linter.unusedSimpArgs false
set_option maxRecDepth 100000

theorem cv_fi {src dst : TypeId} (hs : E.P.underlying src = some (.float .f64)) (hd : E.P.underlying dst = some (.int .i64)) (z : Int) (h : z.natAbs < 2 ^ 53) (mt : Bool) (st : ASt) : convA E.P mt src dst (.lit (.float .f64 (fz z))) st = some (.lit (.int .i64 z), st) := by
  have e1 : (FloatKind.f64.decode (fz z)).toInt .zero = some z := by
    have := toInt_w (wb_rd (decide (z < 0)) h)
    rw [sg_fz] at this
    exact this
  have e2 : pureRun E.P (Conv.floatToInt .f64 (fz z) .i64) = some (.int .i64 z) := by
    unfold Conv.floatToInt
    rw [e1]
    have : IntKind.i64.min ≤ z ∧ z ≤ IntKind.i64.max := by
      have e1 : IntKind.i64.min = -9223372036854775808 := rfl
      have e2 : IntKind.i64.max = 9223372036854775807 := rfl
      omega
    simp only [if_pos this]
    rfl
  have e3 : pureV E.P (convert src dst (.float .f64 (fz z))) = some (.lit (.int .i64 z)) := by
    unfold pureV convert
    rw [pureRun_bind, pureRun_underlying hs, Option.bind_some, pureRun_bind, pureRun_underlying hd, Option.bind_some]
    show (pureRun E.P (Conv.floatToInt .f64 (fz z) .i64)).bind absOf = _
    rw [e2]
    rfl
  unfold convA
  simp only [Go.Proofs.YtpgcbmmifmnfpaaDoorA.valOf, e3]
def uop (op : List UInt8) : Option UInt8 := if op = [110, 101, 103] then some 45 else if op = [99, 111, 110, 106] then some 126 else if op = [110, 111, 116] then some 33 else if op = [110, 111, 114, 109] then some 35 else none
def exX (op : List UInt8) (re im : Int) (nm : List UInt8) (ts : List (List UInt8)) : List UInt8 :=
  if op = [] then (if im ≠ 0 then Lib.itoa im ++ [105] else Lib.itoa re)
  else if op = [114, 101, 103] then nm
  else match uop op with
    | some c => [40, c] ++ (ts[0]?).getD [] ++ [41]
    | none => [40] ++ (ts[0]?).getD [] ++ [32] ++ op ++ [32] ++ (ts[1]?).getD [] ++ [41]
mutual
/-- an expression's text -/
def Ex.t : Ex → List UInt8
  | .mk op re im nm ps => exX op re im nm (Ex.ts ps)
def Ex.ts : List Ex → List (List UInt8)
  | [] => []
  | p :: ps => p.t :: Ex.ts ps
end
mutual
/-- an expression that may be -/
def Ex.good : Ex → Prop
  | .mk op re im nm ps => re.natAbs ≤ 1048576 ∧ im.natAbs ≤ 1048576 ∧ (op = [] ∨ op = [114, 101, 103] ∨ ((uop op).isSome = true ∧ ps.length = 1) ∨ (uop op = none ∧ op ≠ [] ∧ op ≠ [114, 101, 103] ∧ ps.length = 2)) ∧ Ex.goods ps
def Ex.goods : List Ex → Prop
  | [] => True
  | p :: ps => p.good ∧ Ex.goods ps
end
theorem itoa_rw (n : Int) (h : n.natAbs ≤ 1048576) (st : ASt) : rw E 43 [.lit (.int .i64 n)] st = some (.returned (.lit (.string ⟨(Lib.itoa n).toArray⟩)), st) := by
  refine rw_prim (F := itoaF) rfl rfl ?_
  unfold itoaF
  simp only
  rw [if_pos (by omega)]
theorem fne0 (z : Int) (h : z.natAbs < 2 ^ 53) (t : TypeId) (xo yo : Operand) : binA E.P .neq t xo yo (.lit (.float .f64 (fz z))) (.lit (.float .f64 0)) = some (.lit (.bool (decide (z ≠ 0)))) := by
  have e := order_fz (a := z) (c := 0) h (by decide)
  rw [fz0] at e
  rw [b_fneq, e]
  have := cmp_eq z 0
  simp only [bne, this, decide_not]
theorem sadd (x y : List UInt8) (h : x.length + y.length ≤ 9000000) (t : TypeId) (xo yo : Operand) : binA E.P .add t xo yo (.lit (.string ⟨x.toArray⟩)) (.lit (.string ⟨y.toArray⟩)) = some (.lit (.string ⟨(x ++ y).toArray⟩)) := b_sadd (by omega)
theorem itoa_len (n : Int) (h : n.natAbs ≤ 1048576) : (Lib.itoa n).length ≤ 21 := Lib.itoa_length_le n (by omega) (by omega)
theorem expr_t : ∀ (e : Ex), e.good → e.t.length ≤ 1000000 → ∀ st, ∃ r st', rw E 53 [e.a] st = some (r, st') ∧ (r = .returned (str e.t) ∧ Gr st st')
  | .mk op re im nm ps, hg, hl, st => by
    refine en_53 fun g t0 => ?_
    unfold Ex.a cz str at t0
    unfold Ex.good at hg
    obtain ⟨hre, him, har, hgs⟩ := hg
    have hpc : (Ex.ps ps).isCell = true := by cases ps <;> rfl
    have hi := fne0 im (by omega)
    have c1 := fun mt st => cv_fi (src := 57) (dst := 3) rfl rfl im (by omega) mt st
    have c2 := fun mt st => cv_fi (src := 57) (dst := 3) rfl rfl re (by omega) mt st
    have i1 := fun st => itoa_rw im him st
    have i2 := fun st => itoa_rw re hre st
    have s1 := sadd (Lib.itoa im) [105] (by have := itoa_len im him; simp; omega)
    have gN : Gr st (st.new (.cells [.lit (.string ⟨op.toArray⟩), .lit (.complex .f64 (fz re) (fz im)), .lit (.string ⟨nm.toArray⟩), Ex.ps ps])) := (Gr.refl st).new' _
    by_cases h0 : op = []
    · subst h0
      have et : (Ex.mk [] re im nm ps).t = if im ≠ 0 then Lib.itoa im ++ [105] else Lib.itoa re := by unfold Ex.t exX; rw [if_pos rfl]
      rw [et]
      clear har hgs hl
      by_cases hz : im = 0
      · rw [if_neg (fun h => h hz)]
        repeat' (first | (first | apply ifk_og | apply ifk_gg | apply ifk_go | apply ifk_ss) <;> intro hc | simp (maxSteps := 5000000) (disch := first | assumption | omega | (simp only [ASt.set_ctr, ASt.new_ctr] <;> omega)) only [r53_0.down, r53_1.down, r53_2.down, r53_3.down, r53_4.down, n53_9, n53_8, n53_7, r53_5.down, n53_10, n53_6, r53_6.down, r53_7.down, n53_13, r53_8.down, r53_9.down, n53_16, r53_10.down, r53_11.down, n53_19, r53_12.down, r53_13.down, n53_22, r53_14.down, r53_15.down, n53_25, n53_24, n53_23, n53_21, n53_20, n53_18, n53_17, n53_15, n53_14, n53_12, n53_11, n53_5, n53_4, n53_3, n53_2, r53_16.down, n53_26, n53_1, n53_0, rq_53, o_fap_48_0, o_fai_48_0, o_ldp_9, o_ldi_9, eq_str, o_fap_48_1, o_fai_48_1, o_ldp_38, o_ldi_38, hint_53_14, cf_43, add_str, hint_53_20, o_fap_48_2, o_fai_48_2, o_fap_48_3, o_fai_48_3, o_ldp_46, o_ldi_46, o_ixi_46, o_ixs_46, o_ldp_48, o_ldi_48, cf_53, AVal.undef, zaa, zab, aeval, aput, ahint, absOf, flat, nilCheckA, ANext.ofP, evals, evalPs, evalO, zac, zad, zae, zaf, ↓reduceIte, Nat.reduceLT, Nat.reduceEqDiff, reduceCtorEq, zag, zah, zai, zaj, zak, Nat.reduceAdd, Nat.reduceLeDiff, callA, zal, zam, zan, zao, zap, zaq, zar, zas, zat, zau, evalV, yieldB, zav, zaw, zax, zay, zaz, zba, zbb, zbc, zbd, zbe, zbf, zbg, zbh, zbi, zbj, zbk, zbl, zbm, zbn, zbo, zbp, zbq, zbr, extractA, zbs, zbt, zbu, zbv, zbw, zbx, zby, zbz, zca, zcb, zcc, zcd, zce, zcf, zcg, zch, zci, zcj, zck, zcl, zcm, zcn, zco, zcp, zcq, zcr, zcs, zct, zcu, zcv, zcw, zcx, zcy, zcz, zda, zdb, zdc, zdd, zde, zdf, zdg, zdh, zdi, zdj, boxA, newA, zdk, zdl, zdm, zdn, zdo, zdp, zdq, zdr, zds, zdt, zdu, zdv, zdw, fillA, putL, setsE, zdx, zdy, zdz, zea, zeb, zec, zed, zee, zef, zeg, zeh, zei, zej, Nat.reduceBEq, Nat.reduceBNe, zek, zel, zem, zen, Nat.reduceMul, zeo, zep, zeq, zer, zes, zet, zeu, zev, zew, zex, zey, zez, zfa, zfb, zfc, zfd, zfe, zff, zfg, zfh, zfi, zfj, zfk, zfl, zfm, zfn, zfo, zfp, zfq, zfr, zfs, zft, zfu, zfv, zfw, zfx, zfy, zfz, zga, zgb, zgc, zgd, zge, zgf, zgg, zgh, zgi, zgj, ne_eq, zgk, zgl, zgm, zgn, zgo, gt_iff_lt, ge_iff_le, zgp, zgq, zgr, zgs, zgt, zgu, zgv, zgw, zgx, zgy, zgz, zha, zhb, zhc, zhd, zhe, zhf, zhg, zhh, zhi, zhj, zhk, zhl, zhm, zhn, zho, zhp, zhq, gp_opg, zhr, zhs, zht, zhu, zhv, zhw, zhx, zhy, stillD, Int.reduceToNat, zhz, zia, t0,hpc,hi,c1,c2,i1,i2,bi_real,bi_imag])
        exact ⟨rfl, gN⟩
      · rw [if_pos hz]
        repeat' (first | (first | apply ifk_og | apply ifk_gg | apply ifk_go | apply ifk_ss) <;> intro hc | simp (maxSteps := 5000000) (disch := first | assumption | omega | (simp only [ASt.set_ctr, ASt.new_ctr] <;> omega)) only [r53_0.down, r53_1.down, r53_2.down, r53_3.down, r53_4.down, n53_9, n53_8, n53_7, r53_5.down, n53_10, n53_6, r53_6.down, r53_7.down, n53_13, r53_8.down, r53_9.down, n53_16, r53_10.down, r53_11.down, n53_19, r53_12.down, r53_13.down, n53_22, r53_14.down, r53_15.down, n53_25, n53_24, n53_23, n53_21, n53_20, n53_18, n53_17, n53_15, n53_14, n53_12, n53_11, n53_5, n53_4, n53_3, n53_2, r53_16.down, n53_26, n53_1, n53_0, rq_53, o_fap_48_0, o_fai_48_0, o_ldp_9, o_ldi_9, eq_str, o_fap_48_1, o_fai_48_1, o_ldp_38, o_ldi_38, hint_53_14, cf_43, add_str, hint_53_20, o_fap_48_2, o_fai_48_2, o_fap_48_3, o_fai_48_3, o_ldp_46, o_ldi_46, o_ixi_46, o_ixs_46, o_ldp_48, o_ldi_48, cf_53, AVal.undef, zaa, zab, aeval, aput, ahint, absOf, flat, nilCheckA, ANext.ofP, evals, evalPs, evalO, zac, zad, zae, zaf, ↓reduceIte, Nat.reduceLT, Nat.reduceEqDiff, reduceCtorEq, zag, zah, zai, zaj, zak, Nat.reduceAdd, Nat.reduceLeDiff, callA, zal, zam, zan, zao, zap, zaq, zar, zas, zat, zau, evalV, yieldB, zav, zaw, zax, zay, zaz, zba, zbb, zbc, zbd, zbe, zbf, zbg, zbh, zbi, zbj, zbk, zbl, zbm, zbn, zbo, zbp, zbq, zbr, extractA, zbs, zbt, zbu, zbv, zbw, zbx, zby, zbz, zca, zcb, zcc, zcd, zce, zcf, zcg, zch, zci, zcj, zck, zcl, zcm, zcn, zco, zcp, zcq, zcr, zcs, zct, zcu, zcv, zcw, zcx, zcy, zcz, zda, zdb, zdc, zdd, zde, zdf, zdg, zdh, zdi, zdj, boxA, newA, zdk, zdl, zdm, zdn, zdo, zdp, zdq, zdr, zds, zdt, zdu, zdv, zdw, fillA, putL, setsE, zdx, zdy, zdz, zea, zeb, zec, zed, zee, zef, zeg, zeh, zei, zej, Nat.reduceBEq, Nat.reduceBNe, zek, zel, zem, zen, Nat.reduceMul, zeo, zep, zeq, zer, zes, zet, zeu, zev, zew, zex, zey, zez, zfa, zfb, zfc, zfd, zfe, zff, zfg, zfh, zfi, zfj, zfk, zfl, zfm, zfn, zfo, zfp, zfq, zfr, zfs, zft, zfu, zfv, zfw, zfx, zfy, zfz, zga, zgb, zgc, zgd, zge, zgf, zgg, zgh, zgi, zgj, ne_eq, zgk, zgl, zgm, zgn, zgo, gt_iff_lt, ge_iff_le, zgp, zgq, zgr, zgs, zgt, zgu, zgv, zgw, zgx, zgy, zgz, zha, zhb, zhc, zhd, zhe, zhf, zhg, zhh, zhi, zhj, zhk, zhl, zhm, zhn, zho, zhp, zhq, gp_opg, zhr, zhs, zht, zhu, zhv, zhw, zhx, zhy, stillD, Int.reduceToNat, zhz, zia, t0,hpc,hi,c1,c2,i1,i2,bi_real,bi_imag,s1])
        exact ⟨rfl, gN⟩
    by_cases h1 : op = [114, 101, 103]
    · have et : (Ex.mk op re im nm ps).t = nm := by subst h1; rfl
      rw [et]
      clear har hgs hl
      repeat' (first | (first | apply ifk_og | apply ifk_gg | apply ifk_go | apply ifk_ss) <;> intro hc | simp (maxSteps := 5000000) (disch := first | assumption | omega | (simp only [ASt.set_ctr, ASt.new_ctr] <;> omega)) only [r53_0.down, r53_1.down, r53_2.down, r53_3.down, r53_4.down, n53_9, n53_8, n53_7, r53_5.down, n53_10, n53_6, r53_6.down, r53_7.down, n53_13, r53_8.down, r53_9.down, n53_16, r53_10.down, r53_11.down, n53_19, r53_12.down, r53_13.down, n53_22, r53_14.down, r53_15.down, n53_25, n53_24, n53_23, n53_21, n53_20, n53_18, n53_17, n53_15, n53_14, n53_12, n53_11, n53_5, n53_4, n53_3, n53_2, r53_16.down, n53_26, n53_1, n53_0, rq_53, o_fap_48_0, o_fai_48_0, o_ldp_9, o_ldi_9, eq_str, o_fap_48_1, o_fai_48_1, o_ldp_38, o_ldi_38, hint_53_14, cf_43, add_str, hint_53_20, o_fap_48_2, o_fai_48_2, o_fap_48_3, o_fai_48_3, o_ldp_46, o_ldi_46, o_ixi_46, o_ixs_46, o_ldp_48, o_ldi_48, cf_53, AVal.undef, zaa, zab, aeval, aput, ahint, absOf, flat, nilCheckA, ANext.ofP, evals, evalPs, evalO, zac, zad, zae, zaf, ↓reduceIte, Nat.reduceLT, Nat.reduceEqDiff, reduceCtorEq, zag, zah, zai, zaj, zak, Nat.reduceAdd, Nat.reduceLeDiff, callA, zal, zam, zan, zao, zap, zaq, zar, zas, zat, zau, evalV, yieldB, zav, zaw, zax, zay, zaz, zba, zbb, zbc, zbd, zbe, zbf, zbg, zbh, zbi, zbj, zbk, zbl, zbm, zbn, zbo, zbp, zbq, zbr, extractA, zbs, zbt, zbu, zbv, zbw, zbx, zby, zbz, zca, zcb, zcc, zcd, zce, zcf, zcg, zch, zci, zcj, zck, zcl, zcm, zcn, zco, zcp, zcq, zcr, zcs, zct, zcu, zcv, zcw, zcx, zcy, zcz, zda, zdb, zdc, zdd, zde, zdf, zdg, zdh, zdi, zdj, boxA, newA, zdk, zdl, zdm, zdn, zdo, zdp, zdq, zdr, zds, zdt, zdu, zdv, zdw, fillA, putL, setsE, zdx, zdy, zdz, zea, zeb, zec, zed, zee, zef, zeg, zeh, zei, zej, Nat.reduceBEq, Nat.reduceBNe, zek, zel, zem, zen, Nat.reduceMul, zeo, zep, zeq, zer, zes, zet, zeu, zev, zew, zex, zey, zez, zfa, zfb, zfc, zfd, zfe, zff, zfg, zfh, zfi, zfj, zfk, zfl, zfm, zfn, zfo, zfp, zfq, zfr, zfs, zft, zfu, zfv, zfw, zfx, zfy, zfz, zga, zgb, zgc, zgd, zge, zgf, zgg, zgh, zgi, zgj, ne_eq, zgk, zgl, zgm, zgn, zgo, gt_iff_lt, ge_iff_le, zgp, zgq, zgr, zgs, zgt, zgu, zgv, zgw, zgx, zgy, zgz, zha, zhb, zhc, zhd, zhe, zhf, zhg, zhh, zhi, zhj, zhk, zhl, zhm, zhn, zho, zhp, zhq, gp_opg, zhr, zhs, zht, zhu, zhv, zhw, zhx, zhy, stillD, Int.reduceToNat, zhz, zia, t0,hpc])
      exact ⟨rfl, gN⟩
    have key1 : ∀ c, uop op = some c → ∃ p, ps = [p] ∧ p.good ∧ (Ex.mk op re im nm ps).t = 40 :: c :: (p.t ++ [41]) ∧ p.t.length ≤ 1000000 := by
      intro c hc
      rcases har with h | h | h | h
      · exact absurd h h0
      · exact absurd h h1
      · obtain ⟨p, rfl⟩ := List.length_eq_one_iff.1 h.2
        have et : (Ex.mk op re im nm [p]).t = 40 :: c :: (p.t ++ [41]) := by
          have e : (Ex.mk op re im nm [p]).t = exX op re im nm [p.t] := rfl
          rw [e]
          unfold exX
          rw [if_neg h0, if_neg h1, hc]
          rfl
        refine ⟨p, rfl, hgs.1, et, ?_⟩
        rw [et] at hl
        simp at hl
        omega
      · rw [h.1] at hc; cases hc
    by_cases h_neg : op = [110, 101, 103]
    · obtain ⟨p, rfl, hpg, et, hpl⟩ := key1 45 (by rw [h_neg]; rfl)
      rw [et]
      have ih := fun st => expr_t p hpg hpl st
      have n1 := sadd [40, 45] p.t (by simp; omega)
      have n2 := sadd (40 :: 45 :: p.t) [41] (by simp; omega)
      have hpa : Ex.ps [p] = .islice 4 [p.a] .exact := rfl
      have hae : ∃ xs, p.a = .agg xs ∧ xs.length = 4 := by cases p; exact ⟨_, rfl, rfl⟩
      obtain ⟨xs, hpx, hxl⟩ := hae
      rw [hpx] at hpa ih
      rw [hpa] at t0
      unfold str at ih
      clear har hgs hl key1 hpa
      repeat' (first | (first | apply ifk_og | apply ifk_gg | apply ifk_go | apply ifk_ss) <;> intro hc | simp (maxSteps := 5000000) (disch := first | assumption | omega | (simp only [ASt.set_ctr, ASt.new_ctr] <;> omega)) only [r53_0.down, r53_1.down, r53_2.down, r53_3.down, r53_4.down, n53_9, n53_8, n53_7, r53_5.down, n53_10, n53_6, r53_6.down, r53_7.down, n53_13, r53_8.down, r53_9.down, n53_16, r53_10.down, r53_11.down, n53_19, r53_12.down, r53_13.down, n53_22, r53_14.down, r53_15.down, n53_25, n53_24, n53_23, n53_21, n53_20, n53_18, n53_17, n53_15, n53_14, n53_12, n53_11, n53_5, n53_4, n53_3, n53_2, r53_16.down, n53_26, n53_1, n53_0, rq_53, o_fap_48_0, o_fai_48_0, o_ldp_9, o_ldi_9, eq_str, o_fap_48_1, o_fai_48_1, o_ldp_38, o_ldi_38, hint_53_14, cf_43, add_str, hint_53_20, o_fap_48_2, o_fai_48_2, o_fap_48_3, o_fai_48_3, o_ldp_46, o_ldi_46, o_ixi_46, o_ixs_46, o_ldp_48, o_ldi_48, cf_53, AVal.undef, zaa, zab, aeval, aput, ahint, absOf, flat, nilCheckA, ANext.ofP, evals, evalPs, evalO, zac, zad, zae, zaf, ↓reduceIte, Nat.reduceLT, Nat.reduceEqDiff, reduceCtorEq, zag, zah, zai, zaj, zak, Nat.reduceAdd, Nat.reduceLeDiff, callA, zal, zam, zan, zao, zap, zaq, zar, zas, zat, zau, evalV, yieldB, zav, zaw, zax, zay, zaz, zba, zbb, zbc, zbd, zbe, zbf, zbg, zbh, zbi, zbj, zbk, zbl, zbm, zbn, zbo, zbp, zbq, zbr, extractA, zbs, zbt, zbu, zbv, zbw, zbx, zby, zbz, zca, zcb, zcc, zcd, zce, zcf, zcg, zch, zci, zcj, zck, zcl, zcm, zcn, zco, zcp, zcq, zcr, zcs, zct, zcu, zcv, zcw, zcx, zcy, zcz, zda, zdb, zdc, zdd, zde, zdf, zdg, zdh, zdi, zdj, boxA, newA, zdk, zdl, zdm, zdn, zdo, zdp, zdq, zdr, zds, zdt, zdu, zdv, zdw, fillA, putL, setsE, zdx, zdy, zdz, zea, zeb, zec, zed, zee, zef, zeg, zeh, zei, zej, Nat.reduceBEq, Nat.reduceBNe, zek, zel, zem, zen, Nat.reduceMul, zeo, zep, zeq, zer, zes, zet, zeu, zev, zew, zex, zey, zez, zfa, zfb, zfc, zfd, zfe, zff, zfg, zfh, zfi, zfj, zfk, zfl, zfm, zfn, zfo, zfp, zfq, zfr, zfs, zft, zfu, zfv, zfw, zfx, zfy, zfz, zga, zgb, zgc, zgd, zge, zgf, zgg, zgh, zgi, zgj, ne_eq, zgk, zgl, zgm, zgn, zgo, gt_iff_lt, ge_iff_le, zgp, zgq, zgr, zgs, zgt, zgu, zgv, zgw, zgx, zgy, zgz, zha, zhb, zhc, zhd, zhe, zhf, zhg, zhh, zhi, zhj, zhk, zhl, zhm, zhn, zho, zhp, zhq, gp_opg, zhr, zhs, zht, zhu, zhv, zhw, zhx, zhy, stillD, Int.reduceToNat, zhz, zia, t0,hxl])
      refine sc_ex (ih _) fun r s1 h2 => ?_
      obtain ⟨rfl, g2⟩ := h2
      repeat' (first | (first | apply ifk_og | apply ifk_gg | apply ifk_go | apply ifk_ss) <;> intro hc | simp (maxSteps := 5000000) (disch := first | assumption | omega | (simp only [ASt.set_ctr, ASt.new_ctr] <;> omega)) only [r53_0.down, r53_1.down, r53_2.down, r53_3.down, r53_4.down, n53_9, n53_8, n53_7, r53_5.down, n53_10, n53_6, r53_6.down, r53_7.down, n53_13, r53_8.down, r53_9.down, n53_16, r53_10.down, r53_11.down, n53_19, r53_12.down, r53_13.down, n53_22, r53_14.down, r53_15.down, n53_25, n53_24, n53_23, n53_21, n53_20, n53_18, n53_17, n53_15, n53_14, n53_12, n53_11, n53_5, n53_4, n53_3, n53_2, r53_16.down, n53_26, n53_1, n53_0, rq_53, o_fap_48_0, o_fai_48_0, o_ldp_9, o_ldi_9, eq_str, o_fap_48_1, o_fai_48_1, o_ldp_38, o_ldi_38, hint_53_14, cf_43, add_str, hint_53_20, o_fap_48_2, o_fai_48_2, o_fap_48_3, o_fai_48_3, o_ldp_46, o_ldi_46, o_ixi_46, o_ixs_46, o_ldp_48, o_ldi_48, cf_53, AVal.undef, zaa, zab, aeval, aput, ahint, absOf, flat, nilCheckA, ANext.ofP, evals, evalPs, evalO, zac, zad, zae, zaf, ↓reduceIte, Nat.reduceLT, Nat.reduceEqDiff, reduceCtorEq, zag, zah, zai, zaj, zak, Nat.reduceAdd, Nat.reduceLeDiff, callA, zal, zam, zan, zao, zap, zaq, zar, zas, zat, zau, evalV, yieldB, zav, zaw, zax, zay, zaz, zba, zbb, zbc, zbd, zbe, zbf, zbg, zbh, zbi, zbj, zbk, zbl, zbm, zbn, zbo, zbp, zbq, zbr, extractA, zbs, zbt, zbu, zbv, zbw, zbx, zby, zbz, zca, zcb, zcc, zcd, zce, zcf, zcg, zch, zci, zcj, zck, zcl, zcm, zcn, zco, zcp, zcq, zcr, zcs, zct, zcu, zcv, zcw, zcx, zcy, zcz, zda, zdb, zdc, zdd, zde, zdf, zdg, zdh, zdi, zdj, boxA, newA, zdk, zdl, zdm, zdn, zdo, zdp, zdq, zdr, zds, zdt, zdu, zdv, zdw, fillA, putL, setsE, zdx, zdy, zdz, zea, zeb, zec, zed, zee, zef, zeg, zeh, zei, zej, Nat.reduceBEq, Nat.reduceBNe, zek, zel, zem, zen, Nat.reduceMul, zeo, zep, zeq, zer, zes, zet, zeu, zev, zew, zex, zey, zez, zfa, zfb, zfc, zfd, zfe, zff, zfg, zfh, zfi, zfj, zfk, zfl, zfm, zfn, zfo, zfp, zfq, zfr, zfs, zft, zfu, zfv, zfw, zfx, zfy, zfz, zga, zgb, zgc, zgd, zge, zgf, zgg, zgh, zgi, zgj, ne_eq, zgk, zgl, zgm, zgn, zgo, gt_iff_lt, ge_iff_le, zgp, zgq, zgr, zgs, zgt, zgu, zgv, zgw, zgx, zgy, zgz, zha, zhb, zhc, zhd, zhe, zhf, zhg, zhh, zhi, zhj, zhk, zhl, zhm, zhn, zho, zhp, zhq, gp_opg, zhr, zhs, zht, zhu, zhv, zhw, zhx, zhy, stillD, Int.reduceToNat, zhz, zia, t0,hxl,n1,n2])
      exact ⟨rfl, ((Gr.refl st).new' _).trans g2⟩
    by_cases h_conj : op = [99, 111, 110, 106]
    · obtain ⟨p, rfl, hpg, et, hpl⟩ := key1 126 (by rw [h_conj]; rfl)
      rw [et]
      have ih := fun st => expr_t p hpg hpl st
      have n1 := sadd [40, 126] p.t (by simp; omega)
      have n2 := sadd (40 :: 126 :: p.t) [41] (by simp; omega)
      have hpa : Ex.ps [p] = .islice 4 [p.a] .exact := rfl
      have hae : ∃ xs, p.a = .agg xs ∧ xs.length = 4 := by cases p; exact ⟨_, rfl, rfl⟩
      obtain ⟨xs, hpx, hxl⟩ := hae
      rw [hpx] at hpa ih
      rw [hpa] at t0
      unfold str at ih
      clear har hgs hl key1 hpa
      repeat' (first | (first | apply ifk_og | apply ifk_gg | apply ifk_go | apply ifk_ss) <;> intro hc | simp (maxSteps := 5000000) (disch := first | assumption | omega | (simp only [ASt.set_ctr, ASt.new_ctr] <;> omega)) only [r53_0.down, r53_1.down, r53_2.down, r53_3.down, r53_4.down, n53_9, n53_8, n53_7, r53_5.down, n53_10, n53_6, r53_6.down, r53_7.down, n53_13, r53_8.down, r53_9.down, n53_16, r53_10.down, r53_11.down, n53_19, r53_12.down, r53_13.down, n53_22, r53_14.down, r53_15.down, n53_25, n53_24, n53_23, n53_21, n53_20, n53_18, n53_17, n53_15, n53_14, n53_12, n53_11, n53_5, n53_4, n53_3, n53_2, r53_16.down, n53_26, n53_1, n53_0, rq_53, o_fap_48_0, o_fai_48_0, o_ldp_9, o_ldi_9, eq_str, o_fap_48_1, o_fai_48_1, o_ldp_38, o_ldi_38, hint_53_14, cf_43, add_str, hint_53_20, o_fap_48_2, o_fai_48_2, o_fap_48_3, o_fai_48_3, o_ldp_46, o_ldi_46, o_ixi_46, o_ixs_46, o_ldp_48, o_ldi_48, cf_53, AVal.undef, zaa, zab, aeval, aput, ahint, absOf, flat, nilCheckA, ANext.ofP, evals, evalPs, evalO, zac, zad, zae, zaf, ↓reduceIte, Nat.reduceLT, Nat.reduceEqDiff, reduceCtorEq, zag, zah, zai, zaj, zak, Nat.reduceAdd, Nat.reduceLeDiff, callA, zal, zam, zan, zao, zap, zaq, zar, zas, zat, zau, evalV, yieldB, zav, zaw, zax, zay, zaz, zba, zbb, zbc, zbd, zbe, zbf, zbg, zbh, zbi, zbj, zbk, zbl, zbm, zbn, zbo, zbp, zbq, zbr, extractA, zbs, zbt, zbu, zbv, zbw, zbx, zby, zbz, zca, zcb, zcc, zcd, zce, zcf, zcg, zch, zci, zcj, zck, zcl, zcm, zcn, zco, zcp, zcq, zcr, zcs, zct, zcu, zcv, zcw, zcx, zcy, zcz, zda, zdb, zdc, zdd, zde, zdf, zdg, zdh, zdi, zdj, boxA, newA, zdk, zdl, zdm, zdn, zdo, zdp, zdq, zdr, zds, zdt, zdu, zdv, zdw, fillA, putL, setsE, zdx, zdy, zdz, zea, zeb, zec, zed, zee, zef, zeg, zeh, zei, zej, Nat.reduceBEq, Nat.reduceBNe, zek, zel, zem, zen, Nat.reduceMul, zeo, zep, zeq, zer, zes, zet, zeu, zev, zew, zex, zey, zez, zfa, zfb, zfc, zfd, zfe, zff, zfg, zfh, zfi, zfj, zfk, zfl, zfm, zfn, zfo, zfp, zfq, zfr, zfs, zft, zfu, zfv, zfw, zfx, zfy, zfz, zga, zgb, zgc, zgd, zge, zgf, zgg, zgh, zgi, zgj, ne_eq, zgk, zgl, zgm, zgn, zgo, gt_iff_lt, ge_iff_le, zgp, zgq, zgr, zgs, zgt, zgu, zgv, zgw, zgx, zgy, zgz, zha, zhb, zhc, zhd, zhe, zhf, zhg, zhh, zhi, zhj, zhk, zhl, zhm, zhn, zho, zhp, zhq, gp_opg, zhr, zhs, zht, zhu, zhv, zhw, zhx, zhy, stillD, Int.reduceToNat, zhz, zia, t0,hxl])
      refine sc_ex (ih _) fun r s1 h2 => ?_
      obtain ⟨rfl, g2⟩ := h2
      repeat' (first | (first | apply ifk_og | apply ifk_gg | apply ifk_go | apply ifk_ss) <;> intro hc | simp (maxSteps := 5000000) (disch := first | assumption | omega | (simp only [ASt.set_ctr, ASt.new_ctr] <;> omega)) only [r53_0.down, r53_1.down, r53_2.down, r53_3.down, r53_4.down, n53_9, n53_8, n53_7, r53_5.down, n53_10, n53_6, r53_6.down, r53_7.down, n53_13, r53_8.down, r53_9.down, n53_16, r53_10.down, r53_11.down, n53_19, r53_12.down, r53_13.down, n53_22, r53_14.down, r53_15.down, n53_25, n53_24, n53_23, n53_21, n53_20, n53_18, n53_17, n53_15, n53_14, n53_12, n53_11, n53_5, n53_4, n53_3, n53_2, r53_16.down, n53_26, n53_1, n53_0, rq_53, o_fap_48_0, o_fai_48_0, o_ldp_9, o_ldi_9, eq_str, o_fap_48_1, o_fai_48_1, o_ldp_38, o_ldi_38, hint_53_14, cf_43, add_str, hint_53_20, o_fap_48_2, o_fai_48_2, o_fap_48_3, o_fai_48_3, o_ldp_46, o_ldi_46, o_ixi_46, o_ixs_46, o_ldp_48, o_ldi_48, cf_53, AVal.undef, zaa, zab, aeval, aput, ahint, absOf, flat, nilCheckA, ANext.ofP, evals, evalPs, evalO, zac, zad, zae, zaf, ↓reduceIte, Nat.reduceLT, Nat.reduceEqDiff, reduceCtorEq, zag, zah, zai, zaj, zak, Nat.reduceAdd, Nat.reduceLeDiff, callA, zal, zam, zan, zao, zap, zaq, zar, zas, zat, zau, evalV, yieldB, zav, zaw, zax, zay, zaz, zba, zbb, zbc, zbd, zbe, zbf, zbg, zbh, zbi, zbj, zbk, zbl, zbm, zbn, zbo, zbp, zbq, zbr, extractA, zbs, zbt, zbu, zbv, zbw, zbx, zby, zbz, zca, zcb, zcc, zcd, zce, zcf, zcg, zch, zci, zcj, zck, zcl, zcm, zcn, zco, zcp, zcq, zcr, zcs, zct, zcu, zcv, zcw, zcx, zcy, zcz, zda, zdb, zdc, zdd, zde, zdf, zdg, zdh, zdi, zdj, boxA, newA, zdk, zdl, zdm, zdn, zdo, zdp, zdq, zdr, zds, zdt, zdu, zdv, zdw, fillA, putL, setsE, zdx, zdy, zdz, zea, zeb, zec, zed, zee, zef, zeg, zeh, zei, zej, Nat.reduceBEq, Nat.reduceBNe, zek, zel, zem, zen, Nat.reduceMul, zeo, zep, zeq, zer, zes, zet, zeu, zev, zew, zex, zey, zez, zfa, zfb, zfc, zfd, zfe, zff, zfg, zfh, zfi, zfj, zfk, zfl, zfm, zfn, zfo, zfp, zfq, zfr, zfs, zft, zfu, zfv, zfw, zfx, zfy, zfz, zga, zgb, zgc, zgd, zge, zgf, zgg, zgh, zgi, zgj, ne_eq, zgk, zgl, zgm, zgn, zgo, gt_iff_lt, ge_iff_le, zgp, zgq, zgr, zgs, zgt, zgu, zgv, zgw, zgx, zgy, zgz, zha, zhb, zhc, zhd, zhe, zhf, zhg, zhh, zhi, zhj, zhk, zhl, zhm, zhn, zho, zhp, zhq, gp_opg, zhr, zhs, zht, zhu, zhv, zhw, zhx, zhy, stillD, Int.reduceToNat, zhz, zia, t0,hxl,n1,n2])
      exact ⟨rfl, ((Gr.refl st).new' _).trans g2⟩
    by_cases h_not : op = [110, 111, 116]
    · obtain ⟨p, rfl, hpg, et, hpl⟩ := key1 33 (by rw [h_not]; rfl)
      rw [et]
      have ih := fun st => expr_t p hpg hpl st
      have n1 := sadd [40, 33] p.t (by simp; omega)
      have n2 := sadd (40 :: 33 :: p.t) [41] (by simp; omega)
      have hpa : Ex.ps [p] = .islice 4 [p.a] .exact := rfl
      have hae : ∃ xs, p.a = .agg xs ∧ xs.length = 4 := by cases p; exact ⟨_, rfl, rfl⟩
      obtain ⟨xs, hpx, hxl⟩ := hae
      rw [hpx] at hpa ih
      rw [hpa] at t0
      unfold str at ih
      clear har hgs hl key1 hpa
      repeat' (first | (first | apply ifk_og | apply ifk_gg | apply ifk_go | apply ifk_ss) <;> intro hc | simp (maxSteps := 5000000) (disch := first | assumption | omega | (simp only [ASt.set_ctr, ASt.new_ctr] <;> omega)) only [r53_0.down, r53_1.down, r53_2.down, r53_3.down, r53_4.down, n53_9, n53_8, n53_7, r53_5.down, n53_10, n53_6, r53_6.down, r53_7.down, n53_13, r53_8.down, r53_9.down, n53_16, r53_10.down, r53_11.down, n53_19, r53_12.down, r53_13.down, n53_22, r53_14.down, r53_15.down, n53_25, n53_24, n53_23, n53_21, n53_20, n53_18, n53_17, n53_15, n53_14, n53_12, n53_11, n53_5, n53_4, n53_3, n53_2, r53_16.down, n53_26, n53_1, n53_0, rq_53, o_fap_48_0, o_fai_48_0, o_ldp_9, o_ldi_9, eq_str, o_fap_48_1, o_fai_48_1, o_ldp_38, o_ldi_38, hint_53_14, cf_43, add_str, hint_53_20, o_fap_48_2, o_fai_48_2, o_fap_48_3, o_fai_48_3, o_ldp_46, o_ldi_46, o_ixi_46, o_ixs_46, o_ldp_48, o_ldi_48, cf_53, AVal.undef, zaa, zab, aeval, aput, ahint, absOf, flat, nilCheckA, ANext.ofP, evals, evalPs, evalO, zac, zad, zae, zaf, ↓reduceIte, Nat.reduceLT, Nat.reduceEqDiff, reduceCtorEq, zag, zah, zai, zaj, zak, Nat.reduceAdd, Nat.reduceLeDiff, callA, zal, zam, zan, zao, zap, zaq, zar, zas, zat, zau, evalV, yieldB, zav, zaw, zax, zay, zaz, zba, zbb, zbc, zbd, zbe, zbf, zbg, zbh, zbi, zbj, zbk, zbl, zbm, zbn, zbo, zbp, zbq, zbr, extractA, zbs, zbt, zbu, zbv, zbw, zbx, zby, zbz, zca, zcb, zcc, zcd, zce, zcf, zcg, zch, zci, zcj, zck, zcl, zcm, zcn, zco, zcp, zcq, zcr, zcs, zct, zcu, zcv, zcw, zcx, zcy, zcz, zda, zdb, zdc, zdd, zde, zdf, zdg, zdh, zdi, zdj, boxA, newA, zdk, zdl, zdm, zdn, zdo, zdp, zdq, zdr, zds, zdt, zdu, zdv, zdw, fillA, putL, setsE, zdx, zdy, zdz, zea, zeb, zec, zed, zee, zef, zeg, zeh, zei, zej, Nat.reduceBEq, Nat.reduceBNe, zek, zel, zem, zen, Nat.reduceMul, zeo, zep, zeq, zer, zes, zet, zeu, zev, zew, zex, zey, zez, zfa, zfb, zfc, zfd, zfe, zff, zfg, zfh, zfi, zfj, zfk, zfl, zfm, zfn, zfo, zfp, zfq, zfr, zfs, zft, zfu, zfv, zfw, zfx, zfy, zfz, zga, zgb, zgc, zgd, zge, zgf, zgg, zgh, zgi, zgj, ne_eq, zgk, zgl, zgm, zgn, zgo, gt_iff_lt, ge_iff_le, zgp, zgq, zgr, zgs, zgt, zgu, zgv, zgw, zgx, zgy, zgz, zha, zhb, zhc, zhd, zhe, zhf, zhg, zhh, zhi, zhj, zhk, zhl, zhm, zhn, zho, zhp, zhq, gp_opg, zhr, zhs, zht, zhu, zhv, zhw, zhx, zhy, stillD, Int.reduceToNat, zhz, zia, t0,hxl])
      refine sc_ex (ih _) fun r s1 h2 => ?_
      obtain ⟨rfl, g2⟩ := h2
      repeat' (first | (first | apply ifk_og | apply ifk_gg | apply ifk_go | apply ifk_ss) <;> intro hc | simp (maxSteps := 5000000) (disch := first | assumption | omega | (simp only [ASt.set_ctr, ASt.new_ctr] <;> omega)) only [r53_0.down, r53_1.down, r53_2.down, r53_3.down, r53_4.down, n53_9, n53_8, n53_7, r53_5.down, n53_10, n53_6, r53_6.down, r53_7.down, n53_13, r53_8.down, r53_9.down, n53_16, r53_10.down, r53_11.down, n53_19, r53_12.down, r53_13.down, n53_22, r53_14.down, r53_15.down, n53_25, n53_24, n53_23, n53_21, n53_20, n53_18, n53_17, n53_15, n53_14, n53_12, n53_11, n53_5, n53_4, n53_3, n53_2, r53_16.down, n53_26, n53_1, n53_0, rq_53, o_fap_48_0, o_fai_48_0, o_ldp_9, o_ldi_9, eq_str, o_fap_48_1, o_fai_48_1, o_ldp_38, o_ldi_38, hint_53_14, cf_43, add_str, hint_53_20, o_fap_48_2, o_fai_48_2, o_fap_48_3, o_fai_48_3, o_ldp_46, o_ldi_46, o_ixi_46, o_ixs_46, o_ldp_48, o_ldi_48, cf_53, AVal.undef, zaa, zab, aeval, aput, ahint, absOf, flat, nilCheckA, ANext.ofP, evals, evalPs, evalO, zac, zad, zae, zaf, ↓reduceIte, Nat.reduceLT, Nat.reduceEqDiff, reduceCtorEq, zag, zah, zai, zaj, zak, Nat.reduceAdd, Nat.reduceLeDiff, callA, zal, zam, zan, zao, zap, zaq, zar, zas, zat, zau, evalV, yieldB, zav, zaw, zax, zay, zaz, zba, zbb, zbc, zbd, zbe, zbf, zbg, zbh, zbi, zbj, zbk, zbl, zbm, zbn, zbo, zbp, zbq, zbr, extractA, zbs, zbt, zbu, zbv, zbw, zbx, zby, zbz, zca, zcb, zcc, zcd, zce, zcf, zcg, zch, zci, zcj, zck, zcl, zcm, zcn, zco, zcp, zcq, zcr, zcs, zct, zcu, zcv, zcw, zcx, zcy, zcz, zda, zdb, zdc, zdd, zde, zdf, zdg, zdh, zdi, zdj, boxA, newA, zdk, zdl, zdm, zdn, zdo, zdp, zdq, zdr, zds, zdt, zdu, zdv, zdw, fillA, putL, setsE, zdx, zdy, zdz, zea, zeb, zec, zed, zee, zef, zeg, zeh, zei, zej, Nat.reduceBEq, Nat.reduceBNe, zek, zel, zem, zen, Nat.reduceMul, zeo, zep, zeq, zer, zes, zet, zeu, zev, zew, zex, zey, zez, zfa, zfb, zfc, zfd, zfe, zff, zfg, zfh, zfi, zfj, zfk, zfl, zfm, zfn, zfo, zfp, zfq, zfr, zfs, zft, zfu, zfv, zfw, zfx, zfy, zfz, zga, zgb, zgc, zgd, zge, zgf, zgg, zgh, zgi, zgj, ne_eq, zgk, zgl, zgm, zgn, zgo, gt_iff_lt, ge_iff_le, zgp, zgq, zgr, zgs, zgt, zgu, zgv, zgw, zgx, zgy, zgz, zha, zhb, zhc, zhd, zhe, zhf, zhg, zhh, zhi, zhj, zhk, zhl, zhm, zhn, zho, zhp, zhq, gp_opg, zhr, zhs, zht, zhu, zhv, zhw, zhx, zhy, stillD, Int.reduceToNat, zhz, zia, t0,hxl,n1,n2])
      exact ⟨rfl, ((Gr.refl st).new' _).trans g2⟩
    by_cases h_norm : op = [110, 111, 114, 109]
    · obtain ⟨p, rfl, hpg, et, hpl⟩ := key1 35 (by rw [h_norm]; rfl)
      rw [et]
      have ih := fun st => expr_t p hpg hpl st
      have n1 := sadd [40, 35] p.t (by simp; omega)
      have n2 := sadd (40 :: 35 :: p.t) [41] (by simp; omega)
      have hpa : Ex.ps [p] = .islice 4 [p.a] .exact := rfl
      have hae : ∃ xs, p.a = .agg xs ∧ xs.length = 4 := by cases p; exact ⟨_, rfl, rfl⟩
      obtain ⟨xs, hpx, hxl⟩ := hae
      rw [hpx] at hpa ih
      rw [hpa] at t0
      unfold str at ih
      clear har hgs hl key1 hpa
      repeat' (first | (first | apply ifk_og | apply ifk_gg | apply ifk_go | apply ifk_ss) <;> intro hc | simp (maxSteps := 5000000) (disch := first | assumption | omega | (simp only [ASt.set_ctr, ASt.new_ctr] <;> omega)) only [r53_0.down, r53_1.down, r53_2.down, r53_3.down, r53_4.down, n53_9, n53_8, n53_7, r53_5.down, n53_10, n53_6, r53_6.down, r53_7.down, n53_13, r53_8.down, r53_9.down, n53_16, r53_10.down, r53_11.down, n53_19, r53_12.down, r53_13.down, n53_22, r53_14.down, r53_15.down, n53_25, n53_24, n53_23, n53_21, n53_20, n53_18, n53_17, n53_15, n53_14, n53_12, n53_11, n53_5, n53_4, n53_3, n53_2, r53_16.down, n53_26, n53_1, n53_0, rq_53, o_fap_48_0, o_fai_48_0, o_ldp_9, o_ldi_9, eq_str, o_fap_48_1, o_fai_48_1, o_ldp_38, o_ldi_38, hint_53_14, cf_43, add_str, hint_53_20, o_fap_48_2, o_fai_48_2, o_fap_48_3, o_fai_48_3, o_ldp_46, o_ldi_46, o_ixi_46, o_ixs_46, o_ldp_48, o_ldi_48, cf_53, AVal.undef, zaa, zab, aeval, aput, ahint, absOf, flat, nilCheckA, ANext.ofP, evals, evalPs, evalO, zac, zad, zae, zaf, ↓reduceIte, Nat.reduceLT, Nat.reduceEqDiff, reduceCtorEq, zag, zah, zai, zaj, zak, Nat.reduceAdd, Nat.reduceLeDiff, callA, zal, zam, zan, zao, zap, zaq, zar, zas, zat, zau, evalV, yieldB, zav, zaw, zax, zay, zaz, zba, zbb, zbc, zbd, zbe, zbf, zbg, zbh, zbi, zbj, zbk, zbl, zbm, zbn, zbo, zbp, zbq, zbr, extractA, zbs, zbt, zbu, zbv, zbw, zbx, zby, zbz, zca, zcb, zcc, zcd, zce, zcf, zcg, zch, zci, zcj, zck, zcl, zcm, zcn, zco, zcp, zcq, zcr, zcs, zct, zcu, zcv, zcw, zcx, zcy, zcz, zda, zdb, zdc, zdd, zde, zdf, zdg, zdh, zdi, zdj, boxA, newA, zdk, zdl, zdm, zdn, zdo, zdp, zdq, zdr, zds, zdt, zdu, zdv, zdw, fillA, putL, setsE, zdx, zdy, zdz, zea, zeb, zec, zed, zee, zef, zeg, zeh, zei, zej, Nat.reduceBEq, Nat.reduceBNe, zek, zel, zem, zen, Nat.reduceMul, zeo, zep, zeq, zer, zes, zet, zeu, zev, zew, zex, zey, zez, zfa, zfb, zfc, zfd, zfe, zff, zfg, zfh, zfi, zfj, zfk, zfl, zfm, zfn, zfo, zfp, zfq, zfr, zfs, zft, zfu, zfv, zfw, zfx, zfy, zfz, zga, zgb, zgc, zgd, zge, zgf, zgg, zgh, zgi, zgj, ne_eq, zgk, zgl, zgm, zgn, zgo, gt_iff_lt, ge_iff_le, zgp, zgq, zgr, zgs, zgt, zgu, zgv, zgw, zgx, zgy, zgz, zha, zhb, zhc, zhd, zhe, zhf, zhg, zhh, zhi, zhj, zhk, zhl, zhm, zhn, zho, zhp, zhq, gp_opg, zhr, zhs, zht, zhu, zhv, zhw, zhx, zhy, stillD, Int.reduceToNat, zhz, zia, t0,hxl])
      refine sc_ex (ih _) fun r s1 h2 => ?_
      obtain ⟨rfl, g2⟩ := h2
      repeat' (first | (first | apply ifk_og | apply ifk_gg | apply ifk_go | apply ifk_ss) <;> intro hc | simp (maxSteps := 5000000) (disch := first | assumption | omega | (simp only [ASt.set_ctr, ASt.new_ctr] <;> omega)) only [r53_0.down, r53_1.down, r53_2.down, r53_3.down, r53_4.down, n53_9, n53_8, n53_7, r53_5.down, n53_10, n53_6, r53_6.down, r53_7.down, n53_13, r53_8.down, r53_9.down, n53_16, r53_10.down, r53_11.down, n53_19, r53_12.down, r53_13.down, n53_22, r53_14.down, r53_15.down, n53_25, n53_24, n53_23, n53_21, n53_20, n53_18, n53_17, n53_15, n53_14, n53_12, n53_11, n53_5, n53_4, n53_3, n53_2, r53_16.down, n53_26, n53_1, n53_0, rq_53, o_fap_48_0, o_fai_48_0, o_ldp_9, o_ldi_9, eq_str, o_fap_48_1, o_fai_48_1, o_ldp_38, o_ldi_38, hint_53_14, cf_43, add_str, hint_53_20, o_fap_48_2, o_fai_48_2, o_fap_48_3, o_fai_48_3, o_ldp_46, o_ldi_46, o_ixi_46, o_ixs_46, o_ldp_48, o_ldi_48, cf_53, AVal.undef, zaa, zab, aeval, aput, ahint, absOf, flat, nilCheckA, ANext.ofP, evals, evalPs, evalO, zac, zad, zae, zaf, ↓reduceIte, Nat.reduceLT, Nat.reduceEqDiff, reduceCtorEq, zag, zah, zai, zaj, zak, Nat.reduceAdd, Nat.reduceLeDiff, callA, zal, zam, zan, zao, zap, zaq, zar, zas, zat, zau, evalV, yieldB, zav, zaw, zax, zay, zaz, zba, zbb, zbc, zbd, zbe, zbf, zbg, zbh, zbi, zbj, zbk, zbl, zbm, zbn, zbo, zbp, zbq, zbr, extractA, zbs, zbt, zbu, zbv, zbw, zbx, zby, zbz, zca, zcb, zcc, zcd, zce, zcf, zcg, zch, zci, zcj, zck, zcl, zcm, zcn, zco, zcp, zcq, zcr, zcs, zct, zcu, zcv, zcw, zcx, zcy, zcz, zda, zdb, zdc, zdd, zde, zdf, zdg, zdh, zdi, zdj, boxA, newA, zdk, zdl, zdm, zdn, zdo, zdp, zdq, zdr, zds, zdt, zdu, zdv, zdw, fillA, putL, setsE, zdx, zdy, zdz, zea, zeb, zec, zed, zee, zef, zeg, zeh, zei, zej, Nat.reduceBEq, Nat.reduceBNe, zek, zel, zem, zen, Nat.reduceMul, zeo, zep, zeq, zer, zes, zet, zeu, zev, zew, zex, zey, zez, zfa, zfb, zfc, zfd, zfe, zff, zfg, zfh, zfi, zfj, zfk, zfl, zfm, zfn, zfo, zfp, zfq, zfr, zfs, zft, zfu, zfv, zfw, zfx, zfy, zfz, zga, zgb, zgc, zgd, zge, zgf, zgg, zgh, zgi, zgj, ne_eq, zgk, zgl, zgm, zgn, zgo, gt_iff_lt, ge_iff_le, zgp, zgq, zgr, zgs, zgt, zgu, zgv, zgw, zgx, zgy, zgz, zha, zhb, zhc, zhd, zhe, zhf, zhg, zhh, zhi, zhj, zhk, zhl, zhm, zhn, zho, zhp, zhq, gp_opg, zhr, zhs, zht, zhu, zhv, zhw, zhx, zhy, stillD, Int.reduceToNat, zhz, zia, t0,hxl,n1,n2])
      exact ⟨rfl, ((Gr.refl st).new' _).trans g2⟩
    have hu : uop op = none := by unfold uop; rw [if_neg h_neg, if_neg h_conj, if_neg h_not, if_neg h_norm]
    obtain ⟨p, q, rfl⟩ : ∃ p q, ps = [p, q] := by
      rcases har with h | h | h | h
      · exact absurd h h0
      · exact absurd h h1
      · rw [hu] at h; cases h.1
      · match ps, h.2.2.2 with
        | [p, q], _ => exact ⟨p, q, rfl⟩
    have et : (Ex.mk op re im nm [p, q]).t = 40 :: (p.t ++ [32] ++ op ++ [32] ++ q.t ++ [41]) := by
      have e : (Ex.mk op re im nm [p, q]).t = exX op re im nm [p.t, q.t] := rfl
      rw [e]
      unfold exX
      rw [if_neg h0, if_neg h1, hu]
      rfl
    have hpl : p.t.length + op.length + q.t.length ≤ 1000000 := by rw [et] at hl; simp at hl; omega
    have ih1 := fun st => expr_t p hgs.1 (by omega) st
    have ih2 := fun st => expr_t q hgs.2.1 (by omega) st
    rw [et]
    have n1 := sadd [40] p.t (by simp; omega)
    have n2 := sadd (40 :: p.t) [32] (by simp; omega)
    have n3 := sadd (40 :: (p.t ++ [32])) op (by simp; omega)
    have n4 := sadd (40 :: (p.t ++ [32] ++ op)) [32] (by simp; omega)
    have n5 := sadd (40 :: (p.t ++ [32] ++ op ++ [32])) q.t (by simp; omega)
    have n6 := sadd (40 :: (p.t ++ [32] ++ op ++ [32] ++ q.t)) [41] (by simp; omega)
    have hpa : Ex.ps [p, q] = .islice 4 [p.a, q.a] .exact := rfl
    have hae : ∃ xs, p.a = .agg xs ∧ xs.length = 4 := by cases p; exact ⟨_, rfl, rfl⟩
    have haf : ∃ xs, q.a = .agg xs ∧ xs.length = 4 := by cases q; exact ⟨_, rfl, rfl⟩
    obtain ⟨xs, hpx, hxl⟩ := hae
    obtain ⟨ys, hqx, hyl⟩ := haf
    rw [hpx, hqx] at hpa
    rw [hpx] at ih1
    rw [hqx] at ih2
    rw [hpa] at t0
    have gN' := gN
    rw [hpa] at gN'
    unfold str at ih1 ih2
    clear har hgs hl key1 gN
    repeat' (first | (first | apply ifk_og | apply ifk_gg | apply ifk_go | apply ifk_ss) <;> intro hc | simp (maxSteps := 5000000) (disch := first | assumption | omega | (simp only [ASt.set_ctr, ASt.new_ctr] <;> omega)) only [r53_0.down, r53_1.down, r53_2.down, r53_3.down, r53_4.down, n53_9, n53_8, n53_7, r53_5.down, n53_10, n53_6, r53_6.down, r53_7.down, n53_13, r53_8.down, r53_9.down, n53_16, r53_10.down, r53_11.down, n53_19, r53_12.down, r53_13.down, n53_22, r53_14.down, r53_15.down, n53_25, n53_24, n53_23, n53_21, n53_20, n53_18, n53_17, n53_15, n53_14, n53_12, n53_11, n53_5, n53_4, n53_3, n53_2, r53_16.down, n53_26, n53_1, n53_0, rq_53, o_fap_48_0, o_fai_48_0, o_ldp_9, o_ldi_9, eq_str, o_fap_48_1, o_fai_48_1, o_ldp_38, o_ldi_38, hint_53_14, cf_43, add_str, hint_53_20, o_fap_48_2, o_fai_48_2, o_fap_48_3, o_fai_48_3, o_ldp_46, o_ldi_46, o_ixi_46, o_ixs_46, o_ldp_48, o_ldi_48, cf_53, AVal.undef, zaa, zab, aeval, aput, ahint, absOf, flat, nilCheckA, ANext.ofP, evals, evalPs, evalO, zac, zad, zae, zaf, ↓reduceIte, Nat.reduceLT, Nat.reduceEqDiff, reduceCtorEq, zag, zah, zai, zaj, zak, Nat.reduceAdd, Nat.reduceLeDiff, callA, zal, zam, zan, zao, zap, zaq, zar, zas, zat, zau, evalV, yieldB, zav, zaw, zax, zay, zaz, zba, zbb, zbc, zbd, zbe, zbf, zbg, zbh, zbi, zbj, zbk, zbl, zbm, zbn, zbo, zbp, zbq, zbr, extractA, zbs, zbt, zbu, zbv, zbw, zbx, zby, zbz, zca, zcb, zcc, zcd, zce, zcf, zcg, zch, zci, zcj, zck, zcl, zcm, zcn, zco, zcp, zcq, zcr, zcs, zct, zcu, zcv, zcw, zcx, zcy, zcz, zda, zdb, zdc, zdd, zde, zdf, zdg, zdh, zdi, zdj, boxA, newA, zdk, zdl, zdm, zdn, zdo, zdp, zdq, zdr, zds, zdt, zdu, zdv, zdw, fillA, putL, setsE, zdx, zdy, zdz, zea, zeb, zec, zed, zee, zef, zeg, zeh, zei, zej, Nat.reduceBEq, Nat.reduceBNe, zek, zel, zem, zen, Nat.reduceMul, zeo, zep, zeq, zer, zes, zet, zeu, zev, zew, zex, zey, zez, zfa, zfb, zfc, zfd, zfe, zff, zfg, zfh, zfi, zfj, zfk, zfl, zfm, zfn, zfo, zfp, zfq, zfr, zfs, zft, zfu, zfv, zfw, zfx, zfy, zfz, zga, zgb, zgc, zgd, zge, zgf, zgg, zgh, zgi, zgj, ne_eq, zgk, zgl, zgm, zgn, zgo, gt_iff_lt, ge_iff_le, zgp, zgq, zgr, zgs, zgt, zgu, zgv, zgw, zgx, zgy, zgz, zha, zhb, zhc, zhd, zhe, zhf, zhg, zhh, zhi, zhj, zhk, zhl, zhm, zhn, zho, zhp, zhq, gp_opg, zhr, zhs, zht, zhu, zhv, zhw, zhx, zhy, stillD, Int.reduceToNat, zhz, zia, t0,hxl,hyl])
    refine sq_ex (ih1 _) fun r s1 h2 => ?_
    obtain ⟨rfl, g2⟩ := h2
    have e1 : s1.heap st.ctr = some (.cells [.lit (.string ⟨op.toArray⟩), .lit (.complex .f64 (fz re) (fz im)), .lit (.string ⟨nm.toArray⟩), .islice 4 [.agg xs, .agg ys] .exact]) := g2.at (by (simp (disch := omega) only [heap_set_if, heap_new_if, ASt.set_ctr, ASt.new_ctr, ite_t, ite_f, if_true, eq_self])) (by simp)
    repeat' (first | (first | apply ifk_og | apply ifk_gg | apply ifk_go | apply ifk_ss) <;> intro hc | simp (maxSteps := 5000000) (disch := first | assumption | omega | (simp only [ASt.set_ctr, ASt.new_ctr] <;> omega)) only [r53_0.down, r53_1.down, r53_2.down, r53_3.down, r53_4.down, n53_9, n53_8, n53_7, r53_5.down, n53_10, n53_6, r53_6.down, r53_7.down, n53_13, r53_8.down, r53_9.down, n53_16, r53_10.down, r53_11.down, n53_19, r53_12.down, r53_13.down, n53_22, r53_14.down, r53_15.down, n53_25, n53_24, n53_23, n53_21, n53_20, n53_18, n53_17, n53_15, n53_14, n53_12, n53_11, n53_5, n53_4, n53_3, n53_2, r53_16.down, n53_26, n53_1, n53_0, rq_53, o_fap_48_0, o_fai_48_0, o_ldp_9, o_ldi_9, eq_str, o_fap_48_1, o_fai_48_1, o_ldp_38, o_ldi_38, hint_53_14, cf_43, add_str, hint_53_20, o_fap_48_2, o_fai_48_2, o_fap_48_3, o_fai_48_3, o_ldp_46, o_ldi_46, o_ixi_46, o_ixs_46, o_ldp_48, o_ldi_48, cf_53, AVal.undef, zaa, zab, aeval, aput, ahint, absOf, flat, nilCheckA, ANext.ofP, evals, evalPs, evalO, zac, zad, zae, zaf, ↓reduceIte, Nat.reduceLT, Nat.reduceEqDiff, reduceCtorEq, zag, zah, zai, zaj, zak, Nat.reduceAdd, Nat.reduceLeDiff, callA, zal, zam, zan, zao, zap, zaq, zar, zas, zat, zau, evalV, yieldB, zav, zaw, zax, zay, zaz, zba, zbb, zbc, zbd, zbe, zbf, zbg, zbh, zbi, zbj, zbk, zbl, zbm, zbn, zbo, zbp, zbq, zbr, extractA, zbs, zbt, zbu, zbv, zbw, zbx, zby, zbz, zca, zcb, zcc, zcd, zce, zcf, zcg, zch, zci, zcj, zck, zcl, zcm, zcn, zco, zcp, zcq, zcr, zcs, zct, zcu, zcv, zcw, zcx, zcy, zcz, zda, zdb, zdc, zdd, zde, zdf, zdg, zdh, zdi, zdj, boxA, newA, zdk, zdl, zdm, zdn, zdo, zdp, zdq, zdr, zds, zdt, zdu, zdv, zdw, fillA, putL, setsE, zdx, zdy, zdz, zea, zeb, zec, zed, zee, zef, zeg, zeh, zei, zej, Nat.reduceBEq, Nat.reduceBNe, zek, zel, zem, zen, Nat.reduceMul, zeo, zep, zeq, zer, zes, zet, zeu, zev, zew, zex, zey, zez, zfa, zfb, zfc, zfd, zfe, zff, zfg, zfh, zfi, zfj, zfk, zfl, zfm, zfn, zfo, zfp, zfq, zfr, zfs, zft, zfu, zfv, zfw, zfx, zfy, zfz, zga, zgb, zgc, zgd, zge, zgf, zgg, zgh, zgi, zgj, ne_eq, zgk, zgl, zgm, zgn, zgo, gt_iff_lt, ge_iff_le, zgp, zgq, zgr, zgs, zgt, zgu, zgv, zgw, zgx, zgy, zgz, zha, zhb, zhc, zhd, zhe, zhf, zhg, zhh, zhi, zhj, zhk, zhl, zhm, zhn, zho, zhp, zhq, gp_opg, zhr, zhs, zht, zhu, zhv, zhw, zhx, zhy, stillD, Int.reduceToNat, zhz, zia, t0,hxl,hyl,n1,n2,n3,n4,e1])
    refine sq_ex (ih2 _) fun r s2 h3 => ?_
    obtain ⟨rfl, g3⟩ := h3
    have e2 : s2.heap st.ctr = some (.cells [.lit (.string ⟨op.toArray⟩), .lit (.complex .f64 (fz re) (fz im)), .lit (.string ⟨nm.toArray⟩), .islice 4 [.agg xs, .agg ys] .exact]) := g3.at e1 (Nat.lt_of_lt_of_le (by simp) g2.1)
    repeat' (first | (first | apply ifk_og | apply ifk_gg | apply ifk_go | apply ifk_ss) <;> intro hc | simp (maxSteps := 5000000) (disch := first | assumption | omega | (simp only [ASt.set_ctr, ASt.new_ctr] <;> omega)) only [r53_0.down, r53_1.down, r53_2.down, r53_3.down, r53_4.down, n53_9, n53_8, n53_7, r53_5.down, n53_10, n53_6, r53_6.down, r53_7.down, n53_13, r53_8.down, r53_9.down, n53_16, r53_10.down, r53_11.down, n53_19, r53_12.down, r53_13.down, n53_22, r53_14.down, r53_15.down, n53_25, n53_24, n53_23, n53_21, n53_20, n53_18, n53_17, n53_15, n53_14, n53_12, n53_11, n53_5, n53_4, n53_3, n53_2, r53_16.down, n53_26, n53_1, n53_0, rq_53, o_fap_48_0, o_fai_48_0, o_ldp_9, o_ldi_9, eq_str, o_fap_48_1, o_fai_48_1, o_ldp_38, o_ldi_38, hint_53_14, cf_43, add_str, hint_53_20, o_fap_48_2, o_fai_48_2, o_fap_48_3, o_fai_48_3, o_ldp_46, o_ldi_46, o_ixi_46, o_ixs_46, o_ldp_48, o_ldi_48, cf_53, AVal.undef, zaa, zab, aeval, aput, ahint, absOf, flat, nilCheckA, ANext.ofP, evals, evalPs, evalO, zac, zad, zae, zaf, ↓reduceIte, Nat.reduceLT, Nat.reduceEqDiff, reduceCtorEq, zag, zah, zai, zaj, zak, Nat.reduceAdd, Nat.reduceLeDiff, callA, zal, zam, zan, zao, zap, zaq, zar, zas, zat, zau, evalV, yieldB, zav, zaw, zax, zay, zaz, zba, zbb, zbc, zbd, zbe, zbf, zbg, zbh, zbi, zbj, zbk, zbl, zbm, zbn, zbo, zbp, zbq, zbr, extractA, zbs, zbt, zbu, zbv, zbw, zbx, zby, zbz, zca, zcb, zcc, zcd, zce, zcf, zcg, zch, zci, zcj, zck, zcl, zcm, zcn, zco, zcp, zcq, zcr, zcs, zct, zcu, zcv, zcw, zcx, zcy, zcz, zda, zdb, zdc, zdd, zde, zdf, zdg, zdh, zdi, zdj, boxA, newA, zdk, zdl, zdm, zdn, zdo, zdp, zdq, zdr, zds, zdt, zdu, zdv, zdw, fillA, putL, setsE, zdx, zdy, zdz, zea, zeb, zec, zed, zee, zef, zeg, zeh, zei, zej, Nat.reduceBEq, Nat.reduceBNe, zek, zel, zem, zen, Nat.reduceMul, zeo, zep, zeq, zer, zes, zet, zeu, zev, zew, zex, zey, zez, zfa, zfb, zfc, zfd, zfe, zff, zfg, zfh, zfi, zfj, zfk, zfl, zfm, zfn, zfo, zfp, zfq, zfr, zfs, zft, zfu, zfv, zfw, zfx, zfy, zfz, zga, zgb, zgc, zgd, zge, zgf, zgg, zgh, zgi, zgj, ne_eq, zgk, zgl, zgm, zgn, zgo, gt_iff_lt, ge_iff_le, zgp, zgq, zgr, zgs, zgt, zgu, zgv, zgw, zgx, zgy, zgz, zha, zhb, zhc, zhd, zhe, zhf, zhg, zhh, zhi, zhj, zhk, zhl, zhm, zhn, zho, zhp, zhq, gp_opg, zhr, zhs, zht, zhu, zhv, zhw, zhx, zhy, stillD, Int.reduceToNat, zhz, zia, t0,hxl,hyl,n5,n6,e2])
    exact ⟨rfl, (((Gr.refl st).new' _).trans g2).trans g3⟩
termination_by e => SizeOf.sizeOf e
end Go.Proofs.YtpgcbmmifmnfpaaDoorV
