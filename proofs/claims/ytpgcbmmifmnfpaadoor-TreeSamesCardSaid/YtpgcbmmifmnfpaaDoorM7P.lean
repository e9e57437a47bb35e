/- law 04: declarations' texts, plain; a number's, walked. No condition. -/
import Derived.Test.YtpgcbmmifmnfpaaDoorM6
import Derived.Test.YtpgcbmmifmnfpaaDoorM4P
namespace Go.Proofs.YtpgcbmmifmnfpaaDoorV
open Go Go.RowKit Go.Proofs.YtpgcbmmifmnfpaaDoorA
set_option linter.unusedVariables false
set_option linter.unusedSimpArgs false
set_option maxRecDepth 100000

def numT (re im : Int) : List UInt8 := if im = 0 then Lib.itoa re else if re = 0 then Lib.itoa im ++ [105] else if 0 < im then Lib.itoa re ++ [43] ++ Lib.itoa im ++ [105] else Lib.itoa re ++ Lib.itoa im ++ [105]
theorem numT_len {re im : Int} (h1 : re.natAbs ≤ 1048576) (h2 : im.natAbs ≤ 1048576) : (numT re im).length ≤ 44 := by
  have a := itoa_len re h1
  have b := itoa_len im h2
  unfold numT
  repeat' split
  all_goals simp
  all_goals omega
theorem num_t (re im : Int) (h1 : re.natAbs ≤ 1048576) (h2 : im.natAbs ≤ 1048576) (st : ASt) : rw E 30 [cz re im] st = some (.returned (str (numT re im)), st) := by
  refine rw_ex (en_30 fun g t0 => ?_)
  unfold cz at t0
  have c1 := fun mt st => cv_fi (src := 57) (dst := 3) rfl rfl im (by omega) mt st
  have c2 := fun mt st => cv_fi (src := 57) (dst := 3) rfl rfl re (by omega) mt st
  have i1 := fun st => itoa_rw im h2 st
  have i2 := fun st => itoa_rw re h1 st
  have l1 := itoa_len im h2
  have l2 := itoa_len re h1
  have n1 := sadd (Lib.itoa im) [105] (by simp; omega)
  have n2 := sadd (Lib.itoa re) [43] (by simp; omega)
  have n3 := sadd (Lib.itoa re ++ [43]) (Lib.itoa im) (by simp; omega)
  have n4 := sadd (Lib.itoa re ++ [43] ++ Lib.itoa im) [105] (by simp; omega)
  have n5 := sadd (Lib.itoa re) (Lib.itoa im) (by omega)
  have n6 := sadd (Lib.itoa re ++ Lib.itoa im) [105] (by simp; omega)
  repeat' (first | (first | apply ifk_og | apply ifk_gg | apply ifk_go | apply ifk_ss) <;> intro hc | simp (maxSteps := 5000000) (disch := first | assumption | omega | (simp only [ASt.set_ctr, ASt.new_ctr] <;> omega)) only [r30_0.down, r30_1.down, r30_2.down, r30_3.down, n30_5, r30_4.down, r30_5.down, n30_8, r30_6.down, r30_7.down, n30_11, n30_10, n30_9, n30_7, n30_6, n30_4, n30_3, r30_8.down, n30_12, n30_2, n30_1, n30_0, rq_30, hint_30_7, hint_30_10, cf_43, add_str, AVal.undef, zaa, zab, aeval, aput, ahint, absOf, flat, nilCheckA, ANext.ofP, evals, evalPs, evalO, zac, zad, zae, zaf, ↓reduceIte, Nat.reduceLT, Nat.reduceEqDiff, reduceCtorEq, zag, zah, zai, zaj, zak, Nat.reduceAdd, Nat.reduceLeDiff, callA, zal, zam, zan, zao, zap, zaq, zar, zas, zat, zau, evalV, yieldB, zav, zaw, zax, zay, zaz, zba, zbb, zbc, zbd, zbe, zbf, zbg, zbh, zbi, zbj, zbk, zbl, zbm, zbn, zbo, zbp, zbq, zbr, extractA, zbs, zbt, zbu, zbv, zbw, zbx, zby, zbz, zca, zcb, zcc, zcd, zce, zcf, zcg, zch, zci, zcj, zck, zcl, zcm, zcn, zco, zcp, zcq, zcr, zcs, zct, zcu, zcv, zcw, zcx, zcy, zcz, zda, zdb, zdc, zdd, zde, zdf, zdg, zdh, zdi, zdj, boxA, newA, zdk, zdl, zdm, zdn, zdo, zdp, zdq, zdr, zds, zdt, zdu, zdv, zdw, fillA, putL, setsE, zdx, zdy, zdz, zea, zeb, zec, zed, zee, zef, zeg, zeh, zei, zej, Nat.reduceBEq, Nat.reduceBNe, zek, zel, zem, zen, Nat.reduceMul, zeo, zep, zeq, zer, zes, zet, zeu, zev, zew, zex, zey, zez, zfa, zfb, zfc, zfd, zfe, zff, zfg, zfh, zfi, zfj, zfk, zfl, zfm, zfn, zfo, zfp, zfq, zfr, zfs, zft, zfu, zfv, zfw, zfx, zfy, zfz, zga, zgb, zgc, zgd, zge, zgf, zgg, zgh, zgi, zgj, ne_eq, zgk, zgl, zgm, zgn, zgo, gt_iff_lt, ge_iff_le, zgp, zgq, zgr, zgs, zgt, zgu, zgv, zgw, zgx, zgy, zgz, zha, zhb, zhc, zhd, zhe, zhf, zhg, zhh, zhi, zhj, zhk, zhl, zhm, zhn, zho, zhp, zhq, gp_opg, zhr, zhs, zht, zhu, zhv, zhw, zhx, zhy, stillD, Int.reduceToNat, zhz, zia, t0,c1,c2,i1,i2,bi_real,bi_imag,n1,n2,n3,n4,n5,n6])
  all_goals
    unfold numT str
    simp only [*, if_true, if_false, ite_true, ite_false]
/-- a declaration's text -/
def De.t (d : De) : List UInt8 :=
  if d.sort = 0 then [99, 101, 108, 108, 32] ++ d.name ++ [32] ++ numT d.re d.im ++ [59, 10]
  else if d.sort = 1 then [97, 114, 114, 97, 121, 32] ++ d.name ++ [32] ++ numT d.re d.im ++ [59, 10]
  else if d.sort = 2 then [109, 117, 116, 101, 120, 32] ++ d.name ++ [59, 10]
  else if d.sort = 3 then [115, 101, 109, 32] ++ d.name ++ [32] ++ numT d.re d.im ++ [59, 10]
  else if d.sort = 4 then [98, 117, 100, 103, 101, 116, 32] ++ numT d.re d.im ++ [59, 10]
  else if d.sort = 5 then [116, 104, 114, 101, 97, 100, 32] ++ d.name ++ blT (Sts.t d.body) ++ [10]
  else []
def Des.t : List De → List UInt8
  | [] => []
  | d :: l => d.t ++ Des.t l
theorem Des.t_app : ∀ a b : List De, Des.t (a ++ b) = Des.t a ++ Des.t b
  | [], b => rfl
  | d :: a, b => by rw [List.cons_append, Des.t, Des.t, Des.t_app a b, List.append_assoc]
structure De.good (d : De) : Prop where
  re : d.re.natAbs ≤ 1048576
  im : d.im.natAbs ≤ 1048576
  len : d.body.length ≤ 100000
  body : Sts.good d.body
end Go.Proofs.YtpgcbmmifmnfpaaDoorV
