/- Texts in the second reading. No condition. -/
import Derived.Test.YtpgcbmmifmnfpaaDoorAF
namespace Go.Proofs.YtpgcbmmifmnfpaaDoorA
open Go Go.RowKit
set_option linter.unusedVariables false
set_option linter.unusedSimpArgs false

/-- a text, by its bytes -/
def str (l : List UInt8) : AVal := .lit (.string ⟨l.toArray⟩)
theorem str_size (l : List UInt8) : (⟨l.toArray⟩ : ByteArray).size = l.length := rfl
theorem str_toList (l : List UInt8) : (⟨l.toArray⟩ : ByteArray).toList = l := by rw [ByteArray.toList_eq]
theorem str_app (a b : List UInt8) : (⟨a.toArray⟩ ++ ⟨b.toArray⟩ : ByteArray) = ⟨(a ++ b).toArray⟩ := by
  apply ByteArray.ext
  rw [ByteArray.data_append]
  simp
theorem str_ext (l : List UInt8) (i j : Nat) : (⟨l.toArray⟩ : ByteArray).extract i j = ⟨((l.take j).drop i).toArray⟩ := by
  apply ByteArray.ext
  rw [ByteArray.data_extract]
  apply Array.toList_inj.1
  simp [List.extract_eq_take_drop, List.drop_take]

section
variable {P : Program} {t : TypeId} {xo yo : Operand}
theorem ix_str {l : List UInt8} {k : IntKind} {i : Int} (hu : P.underlying t = some .string) (h0 : 0 ≤ i) (h1 : i < l.length) : pureV P (Instr.index t (.string ⟨l.toArray⟩) (.int k i)) = some (.lit (.int .u8 ((l[i.toNat]'(by omega)).toNat : Int))) := by
  have e : pureRun P (Instr.index t (.string ⟨l.toArray⟩) (.int k i)) = some (.int .u8 ((l[i.toNat]'(by omega)).toNat : Int)) := by
    have hb : (if 0 ≤ i then (⟨l.toArray⟩ : ByteArray)[i.toNat]? else none) = some (l[i.toNat]'(by omega)) := by
      rw [if_pos h0]
      have hlt : i.toNat < (⟨l.toArray⟩ : ByteArray).size := by rw [str_size]; omega
      rw [getElem?_pos (⟨l.toArray⟩ : ByteArray) i.toNat hlt]
      rfl
    unfold Instr.index
    rw [pureRun_bind]
    have e1 : pureRun P (asIntOf (.int k i)) = some (k, i) := rfl
    rw [e1]
    simp only [Option.bind_some]
    rw [pureRun_bind, pureRun_underlying hu]
    simp only [Option.bind_some]
    rw [hb]
    rfl
  unfold pureV
  rw [e]
  rfl
theorem cut_str {l : List UInt8} {lo hi : Option Value} {a b : Nat} (hu : P.underlying t = some .string) (hlo : (lo = none ∧ a = 0) ∨ ∃ k, lo = some (.int k (a : Int))) (hhi : (hi = none ∧ b = l.length) ∨ ∃ k, hi = some (.int k (b : Int))) (h1 : a ≤ b) (h2 : b ≤ l.length) :
    pureRun P (Instr.slice t (.string ⟨l.toArray⟩) lo hi none) = some (.string ⟨((l.take b).drop a).toArray⟩) := by
  have hb : ∀ (x : Value) (k : IntKind) (n y : Nat) (c : BoundsCode), x = .int k (n : Int) → n ≤ y → pureRun P (Instr.sliceBound x y c) = some n := by
    intro x k n y c hx hn
    subst hx
    unfold Instr.sliceBound
    rw [pureRun_bind]
    have e1 : pureRun P (asIntOf (.int k (n : Int))) = some (k, (n : Int)) := rfl
    rw [e1]
    simp only [Option.bind_some]
    rw [if_pos ⟨by omega, by omega⟩, Int.toNat_natCast]
    rfl
  have hb' : ∀ (k : IntKind) (n y : Nat) (c : BoundsCode), n ≤ y → pureRun P (Instr.sliceBound (.int k (n : Int)) y c) = some n := fun k n y c hn => hb _ k n y c rfl hn
  have hpr : ∀ {α : Type} (x : α), pureRun P (pure x : Sem α) = some x := fun _ => rfl
  have hbs : pureRun P (Instr.sliceBounds false l.length l.length lo hi none) = some (a, b, l.length) := by
    rcases hhi with ⟨rfl, rfl⟩ | ⟨k, rfl⟩ <;> rcases hlo with ⟨rfl, rfl⟩ | ⟨k2, rfl⟩ <;>
      (unfold Instr.sliceBounds; simp (disch := omega) only [pureRun_bind, hpr, hb', Option.bind_some])
  unfold Instr.slice
  rw [pureRun_bind, pureRun_underlying hu]
  simp only [Option.bind_some]
  have e0 : (none : Option Value).isSome = false := rfl
  simp only [e0, Bool.false_eq_true, if_false, str_size]
  rw [pureRun_bind, hbs]
  simp only [Option.bind_some]
  rw [str_ext]
  rfl
theorem cutA_str {l : List UInt8} {lo hi : Option Value} {a b : Nat} (hu : P.underlying t = some .string) (hlo : (lo = none ∧ a = 0) ∨ ∃ k, lo = some (.int k (a : Int))) (hhi : (hi = none ∧ b = l.length) ∨ ∃ k, hi = some (.int k (b : Int))) (h1 : a ≤ b) (h2 : b ≤ l.length) :
    pureV P (Instr.sliceAt t (.string ⟨l.toArray⟩) lo hi none) = some (.lit (.string ⟨((l.take b).drop a).toArray⟩)) := by
  have e : pureRun P (Instr.sliceAt t (.string ⟨l.toArray⟩) lo hi none) = some (.string ⟨((l.take b).drop a).toArray⟩) := by
    unfold Instr.sliceAt
    first
      | exact cut_str hu hlo hhi h1 h2
      | (rw [pureRun_bind, pureRun_underlying hu]; exact cut_str hu hlo hhi h1 h2)
      | (simp only [pureRun_bind, pureRun_underlying hu, Option.bind_some]; exact cut_str hu hlo hhi h1 h2)
  unfold pureV
  rw [e]
  rfl
theorem cut_lh {l : List UInt8} {k k2 : IntKind} {a b : Int} (hu : P.underlying t = some .string) (h0 : 0 ≤ a) (h1 : a ≤ b) (h2 : b ≤ l.length) :
    pureV P (Instr.sliceAt t (.string ⟨l.toArray⟩) (some (.int k a)) (some (.int k2 b)) none) = some (.lit (.string ⟨((l.take b.toNat).drop a.toNat).toArray⟩)) :=
  cutA_str hu (.inr ⟨k, by rw [Int.toNat_of_nonneg h0]⟩) (.inr ⟨k2, by rw [Int.toNat_of_nonneg (by omega)]⟩) (by omega) (by omega)
theorem cut_l {l : List UInt8} {k : IntKind} {a : Int} (hu : P.underlying t = some .string) (h0 : 0 ≤ a) (h1 : a ≤ l.length) :
    pureV P (Instr.sliceAt t (.string ⟨l.toArray⟩) (some (.int k a)) none none) = some (.lit (.string ⟨(l.drop a.toNat).toArray⟩)) := by
  have := cutA_str (P := P) (t := t) (l := l) (lo := some (.int k a)) (hi := none) (a := a.toNat) (b := l.length) hu (.inr ⟨k, by rw [Int.toNat_of_nonneg h0]⟩) (.inl ⟨rfl, rfl⟩) (by omega) (by omega)
  rwa [List.take_of_length_le (Nat.le_refl _)] at this
theorem cut_h {l : List UInt8} {k : IntKind} {b : Int} (hu : P.underlying t = some .string) (h0 : 0 ≤ b) (h1 : b ≤ l.length) :
    pureV P (Instr.sliceAt t (.string ⟨l.toArray⟩) none (some (.int k b)) none) = some (.lit (.string ⟨(l.take b.toNat).toArray⟩)) := by
  have := cutA_str (P := P) (t := t) (l := l) (lo := none) (hi := some (.int k b)) (a := 0) (b := b.toNat) hu (.inl ⟨rfl, rfl⟩) (.inr ⟨k, by rw [Int.toNat_of_nonneg h0]⟩) (by omega) (by omega)
  rwa [List.drop_zero] at this
theorem add_str {a b : List UInt8} (h : a.length + b.length ≤ 9223372036854775807) : binA P .add t xo yo (.lit (.string ⟨a.toArray⟩)) (.lit (.string ⟨b.toArray⟩)) = some (.lit (.string ⟨(a ++ b).toArray⟩)) := by
  have e : pureRun P (Op.stringOp .add ⟨a.toArray⟩ ⟨b.toArray⟩) = some (.string ⟨(a ++ b).toArray⟩) := by
    unfold Op.stringOp
    simp only [str_size]
    have hm : IntKind.i64.max = 9223372036854775807 := rfl
    rw [if_neg (by rw [hm]; omega), str_app]
    rfl
  show (pureRun P (Op.stringOp .add ⟨a.toArray⟩ ⟨b.toArray⟩)).bind absOf = _
  rw [e]
  rfl
theorem eq_str (a b : List UInt8) : binA P .eql t xo yo (.lit (.string ⟨a.toArray⟩)) (.lit (.string ⟨b.toArray⟩)) = some (.lit (.bool (a == b))) := by
  have : binA P .eql t xo yo (.lit (.string ⟨a.toArray⟩)) (.lit (.string ⟨b.toArray⟩)) = some (.lit (.bool ((⟨a.toArray⟩ : ByteArray).toList == (⟨b.toArray⟩ : ByteArray).toList))) := rfl
  rw [this, str_toList, str_toList]
theorem ne_str (a b : List UInt8) : binA P .neq t xo yo (.lit (.string ⟨a.toArray⟩)) (.lit (.string ⟨b.toArray⟩)) = some (.lit (.bool (!(a == b)))) := by
  have : binA P .neq t xo yo (.lit (.string ⟨a.toArray⟩)) (.lit (.string ⟨b.toArray⟩)) = some (.lit (.bool (!((⟨a.toArray⟩ : ByteArray).toList == (⟨b.toArray⟩ : ByteArray).toList)))) := rfl
  rw [this, str_toList, str_toList]
end
end Go.Proofs.YtpgcbmmifmnfpaaDoorA
