/- WireOne, walked in the second reading: up to the first reader. No condition. -/
import Derived.Test.YtnndngoanknemaaO1
namespace Go.Proofs.YtnndngoanknemaaV
open Go Go.RowKit Go.Proofs.YtnndngoanknemaaA
set_option linter.unusedVariables false
set_option linter.unusedSimpArgs false
set_option maxRecDepth 100000

/-! ### bytes that may be written -/
/-- a row of bytes of its own -/
structure Own1 (st : ASt) (s : Nat) (l : List UInt8) : Prop where
  lt : s < st.ctr
  at' : st.heap s = some (.cells (l.map byteA))

theorem Own1.bs {st : ASt} {s : Nat} {l : List UInt8} (h : Own1 st s l) : BS st (.slice s 0 l.length 1 none) l := .inr ⟨s, 0, none, l.map byteA, rfl, h.lt, h.at', by simp, by rw [List.drop_zero, List.take_of_length_le (by simp)]⟩
theorem Own1.gr {st st' : ASt} {s : Nat} {l : List UInt8} (h : Own1 st s l) (hg : Gr st st') : Own1 st' s l := ⟨Nat.lt_of_lt_of_le h.lt hg.1, by rw [hg.2 s h.lt]; exact h.at'⟩

theorem own_idx {st : ASt} {s : Nat} {l : List UInt8} (h : Own1 st s l) {i : Nat} (hi : i < l.length) :
    indexA E.P 28 (.slice s 0 l.length 1 none) (.lit (.int .i64 i)) = some (.ptr s i) ∧ loadA E.P 5 st (.ptr s i) = some (.lit (.int .u8 l[i].toNat)) := by
  have e : indexA E.P 28 (.slice s 0 l.length 1 none) (.lit (.int .i64 i)) = if 0 ≤ (i : Int) ∧ (i : Int) < (l.length : Nat) then some (.ptr s (0 + (i : Int).toNat * 1)) else none := rfl
  refine ⟨by rw [e, if_pos ⟨by omega, by omega⟩]; simp, ?_⟩
  have e2 : loadA E.P 5 st (.ptr s i) = (match st.heap s with
      | some (.cells cs) => cs[i]?
      | _ => none) := rfl
  rw [e2, h.at']
  simp [hi, byteA]

/-- the state behind a byte set -/
def oset (st : ASt) (s : Nat) (l : List UInt8) : ASt := st.set s (some (.cells (l.map byteA)))
theorem oset_own {st : ASt} {s : Nat} {l : List UInt8} (h : Own1 st s l) (l' : List UInt8) : Own1 (oset st s l') s l' := ⟨h.lt, by simp [oset, ASt.set]⟩
theorem own_store {st : ASt} {s : Nat} {l : List UInt8} (h : Own1 st s l) {i : Nat} (hi : i < l.length) {b : Nat} (hb : b < 256) :
    storeA E.P 5 st (.ptr s i) (.lit (.int .u8 b)) = some (oset st s (l.set i (UInt8.ofNat b))) := by
  have e : storeA E.P 5 st (.ptr s i) (.lit (.int .u8 b)) = (match st.heap s with
    | some (.cells cs) => if some 1 = some 1 ∧ i + 1 ≤ cs.length ∧ true = true then some (st.set s (some (.cells (cs.set i (.lit (.int .u8 b)))))) else none
    | _ => none) := rfl
  rw [e, h.at']
  simp only
  rw [if_pos ⟨trivial, by simp; omega, trivial⟩, byteA_lit b hb, ← List.map_set]
  rfl

end Go.Proofs.YtnndngoanknemaaV
