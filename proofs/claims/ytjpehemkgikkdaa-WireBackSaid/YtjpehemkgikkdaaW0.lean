/- Awake. No condition. -/
import Derived.Test.YtjpehemkgikkdaaR1
namespace Go.Proofs.YtjpehemkgikkdaaV
open Go Go.RowKit Go.Proofs.YtjpehemkgikkdaaA
set_option linter.unusedVariables false
set_option linter.unusedSimpArgs false
set_option maxRecDepth 100000

theorem cf16 (a : List AVal) (st : ASt) : callFuncA E.P 16 a st = some (.enter 16 a st) := rfl
theorem cf17 (a : List AVal) (st : ASt) : callFuncA E.P 17 a st = some (.enter 17 a st) := rfl
theorem cf18 (a : List AVal) (st : ASt) : callFuncA E.P 18 a st = some (.enter 18 a st) := rfl
theorem cf21 (a : List AVal) (st : ASt) : callFuncA E.P 21 a st = some (.enter 21 a st) := rfl
theorem cf34 (a : List AVal) (st : ASt) : callFuncA E.P 34 a st = some (.enter 34 a st) := rfl

def nine : List UInt8 := [49, 50, 51, 52, 53, 54, 55, 56, 57]

theorem awake_run (st : ASt) : ∃ st', RetN E 2000 15 [] st (.lit (.bool true)) st' := by
  obtain ⟨s1, k1, n1, w1⟩ := num_run (x := 300) (wat_init st) (by decide) (by simp)
  obtain ⟨p, v, s2, n2, r2, g2, hp⟩ := read_run (x := .nilSlice) (l := []) (st := s1) (.inl (.inr ⟨none, rfl, rfl⟩)) (by simp)
  obtain ⟨v1, s3, n3, b1, g3⟩ := bytes_run (wat_gr w1.at' g2) (by have := enc_len 300; simp; omega)
  have b2 : IsB (.islice 1 [.lit (.int .u8 172), .lit (.int .u8 2)] .exact) [172, 2] := .inl ⟨_, rfl⟩
  have n4 := eq_run s3 b1 b2 (by have := enc_len 300; simp; omega)
  have he : ([] ++ enc 300 == [172, 2]) = true := by decide +kernel
  rw [he] at n4
  have b3 : BS (s3.new (.cells (nine.map byteA))) (.slice s3.ctr 0 9 1 (some 9)) nine := .inr ⟨s3.ctr, 0, some 9, nine.map byteA, rfl, by simp [ASt.new], by simp [ASt.new], by decide, rfl⟩
  obtain ⟨s5, n5, g5⟩ := sum_run b3 (by decide)
  have hs : sumN nine = 3421780262 := by decide +kernel
  rw [hs] at n5
  refine ⟨s5, RetN.of (n := 1999 + 1) ?_⟩
  rw [run_code (fn := Try.f15) rfl rfl]
  have c1 := n1 1999 (by decide)
  have c2 := n2 1999 (by decide)
  have c3 := n3 1999 (by decide)
  have c4 := n4 1999 (by have := enc_len 300; simp; omega)
  have c5 := n5 1999 (by decide)
  obtain ⟨ts, et, hl⟩ : ∃ ts : List AVal, (([] : List AVal) ++ List.replicate (Try.f15.ntmps - ([] : List AVal).length) .undef) = ts ∧ ts.length = 16 := ⟨_, rfl, rfl⟩
  rw [et]
  have e0 : ((300 : Nat) : Int) = 300 := rfl
  have e1 : ((3421780262 : Nat) : Int) = 3421780262 := rfl
  rw [e0] at c1
  rw [e1] at c5
  have h7 : E.hint 15 7 = false := rfl
  have h11 : E.hint 15 11 = true := rfl
  have hne : ∀ xo yo, binA E.P .neq 63 xo yo (.ptr p 0) (.lit (.pointer none)) = some (.lit (.bool true)) := fun _ _ => rfl
  have hb2 : buildSliceA E.P false 24 2 [(0, .lit (.int .u8 172)), (1, .lit (.int .u8 2))] s3 = some (.islice 1 [.lit (.int .u8 172), .lit (.int .u8 2)] .exact, s3) := rfl
  have hb9 : buildSliceA E.P true 24 9 [(0, .lit (.int .u8 49)), (1, .lit (.int .u8 50)), (2, .lit (.int .u8 51)), (3, .lit (.int .u8 52)), (4, .lit (.int .u8 53)), (5, .lit (.int .u8 54)), (6, .lit (.int .u8 55)), (7, .lit (.int .u8 56)), (8, .lit (.int .u8 57))] s3 = some (.slice s3.ctr 0 9 1 (some 9), s3.new (.cells (nine.map byteA))) := rfl
  have hcv : convA E.P false 24 24 (.slice s3.ctr 0 9 1 (some 9)) (s3.new (.cells (nine.map byteA))) = some (.slice s3.ctr 0 9 1 (some 9), s3.new (.cells (nine.map byteA))) := by
    have e : convA E.P false 24 24 (.slice s3.ctr 0 9 1 (some 9)) (s3.new (.cells (nine.map byteA))) = (match (s3.new (.cells (nine.map byteA))).heap s3.ctr with
        | some (.cells _) => some (.slice s3.ctr 0 9 1 (some 9), s3.new (.cells (nine.map byteA)))
        | _ => none) := rfl
    have e2 : (s3.new (.cells (nine.map byteA))).heap s3.ctr = some (.cells (nine.map byteA)) := by simp [ASt.new]
    rw [e, e2]
  have h12 : E.hint 15 12 = false := rfl
  simp only [AVal.nilSlice] at c2
  simp only [code, Try.f15, Option.getD_some, aexec, aops, aop, Region.wanted, ayielded, aexecOp, aeval, aput, aseq, ablock, ahint, absOf, flat, nilCheckA, ANext.ofP, evals, evalPs, evalO, aresults, aresults1, aresult, aend, List.getElem?_set, List.length_set, Option.map_some, Option.bind_some, if_true, if_false, ↓reduceIte, Nat.reduceLT, Nat.reduceEqDiff, reduceCtorEq, Bool.false_eq_true, false_and, and_false, and_true, true_and, Nat.reduceAdd, Nat.reduceLeDiff, callA, List.getElem?_toArray, List.getElem?_cons_succ, List.getElem?_cons_zero, sb1, sb2, sb3, sb4, hl, h7, h11, h12, alloc_w, cf16, cf17, cf18, cf21, cf34, c1, c2, c3, c4, c5, hne, hb2, hb9, hcv, b_eql, beq_self_eq_true]

theorem awake : ∃ s0, AwakeIs s0 := by
  obtain ⟨s, h⟩ := awake_run st0
  exact ⟨s, 2000, h⟩

end Go.Proofs.YtjpehemkgikkdaaV
