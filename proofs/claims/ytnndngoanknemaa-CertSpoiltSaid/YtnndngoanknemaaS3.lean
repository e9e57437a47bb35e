/- WireSums, walked in the second reading. No condition. -/
import Derived.Test.YtnndngoanknemaaS2
import Derived.Test.YtnndngoanknemaaVC
import Derived.Test.YtnndngoanknemaaO2
namespace Go.Proofs.YtnndngoanknemaaV
open Go Go.RowKit Go.Proofs.YtnndngoanknemaaA
set_option linter.unusedVariables false
set_option linter.unusedSimpArgs false
set_option maxRecDepth 100000

theorem cf22 (a : List AVal) (st : ASt) : callFuncA E.P 34 a st = some (.enter 34 a st) := rfl
theorem cf23 (a : List AVal) (st : ASt) : callFuncA E.P 17 a st = some (.enter 17 a st) := rfl
theorem u37 : E.P.underlying 39 = some (.int .u16) := rfl

theorem clone_run {c : Cap} {l : List UInt8} {st : ASt} (hne : l ≠ []) (hlen : l.length ≤ 1000000) :
    RetN E 1 17 [.islice 1 (l.map byteA) c] st (.slice st.ctr 0 l.length 1 none) (st.new (.cells (l.map byteA))) := by
  refine RetN.of (n := 0 + 1) ?_
  rw [run_code (fn := Try.f17) rfl rfl]
  have hh : ∀ t, E.hint 17 t = (t == 7) := fun t => by
    simp [E]
  have hb5 : (5 == 7) = false := rfl
  have hb7 : (7 == 7) = true := rfl
  obtain ⟨ts, et, t0, tl⟩ : ∃ ts : List AVal, ([AVal.islice 1 (l.map byteA) c] ++ List.replicate (Try.f17.ntmps - [AVal.islice 1 (l.map byteA) c].length) .undef) = ts ∧ ts[0]? = some (.islice 1 (l.map byteA) c) ∧ ts.length = 8 := ⟨_, rfl, rfl, rfl⟩
  rw [et]
  have hb0 : buildSliceA E.P false 28 0 [] st = some (.islice 1 [] .exact, st) := rfl
  have hnil : ∀ (xo yo : Operand), binA E.P .eql 28 xo yo (.islice 1 (l.map byteA) c) (.lit (.slice none 0 0)) = some (.lit (.bool false)) := fun _ _ => rfl
  obtain ⟨v, st', e, _, _, hm⟩ := clone_b (src_b (.inl ⟨c, rfl⟩ : IsB (.islice 1 (l.map byteA) c) l) st) hlen
  obtain ⟨rfl, rfl⟩ := hm hne
  simp only [code, Try.f17, Option.getD_some, aexec, aops, aop, Region.wanted, ayielded, aexecOp, aeval, aput, aseq, ablock, ahint, absOf, flat, nilCheckA, ANext.ofP, evals, evalPs, evalO, aresults, aresults1, aresult, aend, List.getElem?_set, List.length_set, Option.map_some, Option.bind_some, if_true, if_false, ↓reduceIte, Nat.reduceLT, Nat.reduceEqDiff, reduceCtorEq, Bool.false_eq_true, false_and, and_false, and_true, true_and, Nat.reduceAdd, Nat.reduceLeDiff, callA, List.getElem?_toArray, List.getElem?_cons_succ, List.getElem?_cons_zero, sb1, sb2, sb3, sb4, sliceU_i, sliceU_s, sliceU_p, sliceU_l, evalV, t0, tl, hh, hb5, hb7, hnil, hb0, b_app, e]


end Go.Proofs.YtnndngoanknemaaV
