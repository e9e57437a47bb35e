/- From the second reading to a law's row; how operations on numbers are reckoned. No condition. -/
import Derived.Test.YtjpehemkgikkdaaA16
import Derived.KernelRfl
namespace Go.Proofs.YtjpehemkgikkdaaA
open Go Go.RowKit
set_option linter.unusedVariables false
set_option linter.unusedSimpArgs false

/-! ### the start -/
def st0 : ASt := { heap := fun _ => none, ctr := 0 }
def g0 (W : World) : G where
  own := fun B o => match W.cell? ⟨B, o, none⟩ with
    | some v => .frozen v
    | none => .free
  loc := fun _ => (0, 0, 0)
  n := 0

theorem sinv0 (W : World) : SInv W.heap.size W (g0 W) st0 W := by
  refine ⟨rfl, fun B o v h => ?_, fun B o h => ?_, fun s b h => (by cases h), fun s cs h => (by cases h), fun s es h => (by cases h), Below.refl _ _, Nat.le_refl _, fun B hB c t lo hi hc => ?_⟩
  · simp only [g0] at h
    split at h
    · rename_i u hu; cases h; exact hu
    · cases h
  · simp only [g0]
    have : W.cell? ⟨B, o, none⟩ = none := by
      unfold World.cell?
      have : W.heap[B]? = none := Array.getElem?_eq_none h
      simp [this]
    rw [this]
  · rw [Array.getElem?_eq_none hB] at hc
    cases hc

/-- a law's call, out of the second reading -/
theorem law_of_run {E : Env} (hm : E.P.follows .mixedOrders = true) (hglob : ∀ k, E.glob k = none) {n : Nat} {f : FuncId} {args : List AVal} {st : ASt} (h : run E n f args st0 = some (.returned (.lit (.bool true)), st))
    {W : World} {us : Array Value} (hr : Reps (g0 W) args us.toList) : Calls E.P f us W (fun e w' => e = .returned (.bool true) ∧ Below W.heap.size W w') := by
  refine (run_sound hm n f args st0 _ h (g0 W) W us (sinv0 W) (fun k v hk => by rw [hglob] at hk; cases hk) hr).mono fun e w' he => ?_
  obtain ⟨g', h1, h2, h3⟩ := he
  cases e with
  | returned u => exact ⟨by rw [Rep.flat h3], h2.below⟩
  | panicked chain => exact h3.elim
  | outgrown => exact h3.elim

/-! ### unfolding a call -/
theorem run_succ {E : Env} {n : Nat} {f : FuncId} {args : List AVal} {st : ASt} {fn : Func} {c : Code} (hf : E.P.funcs[f]? = some fn) (hb : fn.body = some c) :
    run E (n + 1) f args st = aend E fn (aexec E f (run E n) (drawB E f) n c (args ++ List.replicate (fn.ntmps - args.length) .undef) st) := by
  show acall E (drawB E) (n + 1) f args st = _
  rw [acall, hf]
  simp only [hb]
  rfl

end Go.Proofs.YtjpehemkgikkdaaA
