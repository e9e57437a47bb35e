/- PlanTrees, walked in the second reading. No condition. -/
import Derived.Test.YtnndngoanknemaaN11
namespace Go.Proofs.YtnndngoanknemaaV
open Go Go.RowKit Go.Proofs.YtnndngoanknemaaA
set_option linter.unusedVariables false
set_option linter.unusedSimpArgs false
set_option maxRecDepth 100000

/-! ### the fixed fact -/
def nd0 : Nd := ⟨0, 0, 0, 0⟩
def nd1 : Nd := ⟨0, 0, 0, 1⟩
def nd2 : Nd := ⟨2, 0, 0, 0⟩
theorem cf24 (a : List AVal) (st : ASt) : callFuncA E.P 22 a st = some (.enter 22 a st) := rfl
theorem cf29 (a : List AVal) (st : ASt) : callFuncA E.P 10 a st = some (.enter 10 a st) := rfl

theorem awake17 (st : ASt) : ∃ st', RetN E 1010 22 [] st (.lit (.bool true)) st' ∧ st.ctr ≤ st'.ctr := by
  have p1 : PS st (.islice 4 [nd0.a] .exact) [nd0] := .inl ⟨.exact, rfl⟩
  obtain ⟨st1, n1, g1⟩ := ck_run p1 (by simp)
  have p2 : PS st1 (.islice 4 [nd1.a, nd2.a] .exact) [nd1, nd2] := .inl ⟨.exact, rfl⟩
  have h1 : ck [nd0] 0 1 = (0, 0) := by decide
  have h2 : ck [nd1, nd2] 0 1 = (0, 0) := by decide
  obtain ⟨v, st2, s, n2, w1, g2, _⟩ := path_run p2 (by simp) h2 (by decide) 1 (by decide)
  have hp : (pathF [nd1, nd2] 1).length = 1 := by decide
  have hl := fun mt ty cs s2 => irow_len w1 mt ty cs s2
  rw [hp] at hl
  rw [h1] at n1
  refine ⟨st2, RetN.of (n := 1009 + 1) ?_, Nat.le_trans g1.1 g2.1⟩
  have c1 := n1 1009 (by simp)
  have c2 := n2 1009 (by omega)
  obtain ⟨ts, et, tl⟩ : ∃ ts : List AVal, (([] : List AVal) ++ List.replicate (Try.f22.ntmps - ([] : List AVal).length) .undef) = ts ∧ ts.length = 23 := ⟨_, rfl, rfl⟩
  have hh : ∀ t, E.hint 22 t = false := fun _ => rfl
  have b0 : buildA E.P 53 [] = some nd0.a := rfl
  have b1 : buildA E.P 53 [(3, .lit (.int .i64 1))] = some nd1.a := rfl
  have b2 : buildA E.P 53 [(0, .lit (.int .i64 2))] = some nd2.a := rfl
  have s1 : ∀ st, buildSliceA E.P false 26 1 [(0, nd0.a)] st = some (.islice 4 [nd0.a] .exact, st) := fun _ => rfl
  have s2 : ∀ st, buildSliceA E.P false 26 2 [(0, nd1.a), (1, nd2.a)] st = some (.islice 4 [nd1.a, nd2.a] .exact, st) := fun _ => rfl
  have z : (((0 : Nat) : Int) == 0) = true := rfl
  have z1 : (((1 : Nat) : Int) == 1) = true := rfl
  rw [run_code (fn := Try.f22) rfl rfl, et]
  simp only [code, Try.f22, Option.getD_some, Code.fst, Code.snd, aexec, aops, aop, Region.wanted, ayielded, aexecOp, aeval, aput, aseq, ablock, ahint, absOf, flat, nilCheckA, ANext.ofP, evals, evalPs, evalO, aresults, aresults1, aresult, aend, List.getElem?_set, List.length_set, Option.map_some, Option.bind_some, if_true, if_false, ↓reduceIte, Nat.reduceLT, Nat.reduceEqDiff, reduceCtorEq, Bool.false_eq_true, false_and, and_false, and_true, true_and, Nat.reduceAdd, Nat.reduceLeDiff, callA, List.getElem?_toArray, List.getElem?_cons_succ, List.getElem?_cons_zero, sb1, sb2, sb3, sb4, sliceU_i, sliceU_s, sliceU_p, sliceU_l, evalV, hh, tl, b0, s1, cf26, c1, extractA, b_eql, z, b1, b2, s2, cf32, c2, hl, z1]

/-! ### a field set -/
theorem datv_natN {n : Nat} {t : TypeId} {k : IntKind} {v : AVal} (hu : E.P.underlying t = some (.int k)) (hr : rowB E.P t = false) (hk : k.signed = false) (h : DatV E.P n t v) : ∃ i : Nat, v = .lit (.int k i) ∧ i < 2 ^ k.bits := by
  obtain ⟨i, rfl, h1, h2⟩ := datv_int hu hr h
  have h0 : (0 : Int) ≤ i := by
    have : k.min = 0 := by unfold IntKind.min; rw [hk]; rfl
    omega
  refine ⟨i.toNat, by rw [Int.toNat_of_nonneg h0], ?_⟩
  have : k.max = 2 ^ k.bits - 1 := by unfold IntKind.max; rw [hk]; rfl
  rw [this] at h2
  have h3 : (i.toNat : Int) < 2 ^ k.bits := by rw [Int.toNat_of_nonneg h0]; omega
  exact_mod_cast h3

end Go.Proofs.YtnndngoanknemaaV
