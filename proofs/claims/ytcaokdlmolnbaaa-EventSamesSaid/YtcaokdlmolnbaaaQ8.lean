/- bits.Len, nextPowerOfTwo of small numbers; xorshift.Next: walked. No condition. -/
import Derived.Test.YtcaokdlmolnbaaaQ7
namespace Go.Proofs.YtcaokdlmolnbaaaV
open Go Go.RowKit Go.Proofs.YtcaokdlmolnbaaaA
set_option linter.unusedVariables false
set_option linter.unusedSimpArgs false
set_option maxRecDepth 100000

/-- how many bits -/
def bl (n : Nat) : Nat := if n = 0 then 0 else n.log2 + 1
theorem len_k (st : ASt) : (List.range 128).map (fun n : Nat => run E 4 38 [.lit (.int .u64 (n : Int))] st) = (List.range 128).map (fun n : Nat => some (AEnd.returned (.lit (.int .i64 (bl n : Int))), st)) := by kernel_rfl
theorem npot_k (st : ASt) : (List.range 128).map (fun n : Nat => run E 5 51 [.lit (.int .i64 (n : Int))] st) = (List.range 128).map (fun n : Nat => some (AEnd.returned (.lit (.int .u64 ((2 ^ bl n : Nat) : Int))), st)) := by kernel_rfl
theorem bl_le : ∀ n, n < 128 → 0 < n → 2 ^ bl n ≤ 2 * n ∧ bl n ≤ 7 := by decide +kernel
theorem len_rw {n : Nat} (h : n < 128) (st : ASt) : rw E 38 [.lit (.int .u64 (n : Int))] st = some (.returned (.lit (.int .i64 (bl n : Int))), st) :=
  rw_of (n := 4) (List.map_inj_left.1 (len_k st) n (List.mem_range.2 h))
theorem npot_rw {n : Nat} (h : n < 128) (st : ASt) : rw E 51 [.lit (.int .i64 (n : Int))] st = some (.returned (.lit (.int .u64 ((2 ^ bl n : Nat) : Int))), st) :=
  rw_of (n := 5) (List.map_inj_left.1 (npot_k st) n (List.mem_range.2 h))

theorem ldX {st : ASt} {w : Nat} {v : AVal} (h : st.heap w = some (.cells [v])) : loadA E.P 86 st (.ptr w 0) = some v := by
  have a1 : loadA E.P 86 st (.ptr w 0) = (match st.heap w with | some (.cells cs) => cs[0]? | _ => none) := rfl
  rw [a1, h]; rfl
theorem stX {st : ASt} {w : Nat} {v : AVal} (h : st.heap w = some (.cells [v])) (z : Int) : storeA E.P 86 st (.ptr w 0) (.lit (.int .u64 z)) = some (st.set w (some (.cells [.lit (.int .u64 z)]))) := by
  have a1 : storeA E.P 86 st (.ptr w 0) (.lit (.int .u64 z)) = (match st.heap w with | some (.cells cs) => if szOf E.P 86 = some 1 ∧ 0 + 1 ≤ cs.length ∧ true = true then some (st.set w (some (.cells (putL cs 0 [.lit (.int .u64 z)])))) else none | _ => none) := rfl
  rw [a1, h]; rfl
end Go.Proofs.YtcaokdlmolnbaaaV
