/- Strings: compared, put together, cut; errors compared with nil. No condition. -/
import Derived.Test.YtpgcbmmifmnfpaaDoorAF
namespace Go.Proofs.YtpgcbmmifmnfpaaDoorA
open Go Go.RowKit
set_option linter.unusedVariables false
set_option linter.unusedSimpArgs false

theorem ba_eq (l m : List UInt8) : ((⟨l.toArray⟩ : ByteArray).toList == (⟨m.toArray⟩ : ByteArray).toList) = decide (l = m) := by
  rw [ByteArray.toList_eq, ByteArray.toList_eq]
  show (l == m) = decide (l = m)
  by_cases h : l = m
  · subst h; simp
  · rw [decide_eq_false h]
    exact beq_eq_false_iff_ne.2 h
variable {P : Program} {t : TypeId} {xo yo : Operand}
theorem b_seql (l m : List UInt8) : binA P .eql t xo yo (.lit (.string ⟨l.toArray⟩)) (.lit (.string ⟨m.toArray⟩)) = some (.lit (.bool (decide (l = m)))) := by
  rw [← ba_eq]; rfl
theorem b_sneq (l m : List UInt8) : binA P .neq t xo yo (.lit (.string ⟨l.toArray⟩)) (.lit (.string ⟨m.toArray⟩)) = some (.lit (.bool (!decide (l = m)))) := by
  rw [← ba_eq]; rfl
theorem b_sadd {l m : List UInt8} (h : l.length + m.length ≤ 9223372036854775807) : binA P .add t xo yo (.lit (.string ⟨l.toArray⟩)) (.lit (.string ⟨m.toArray⟩)) = some (.lit (.string ⟨(l ++ m).toArray⟩)) := by
  have e : pureRun P (Op.stringOp .add ⟨l.toArray⟩ ⟨m.toArray⟩) = some (.string (⟨l.toArray⟩ ++ ⟨m.toArray⟩)) := by
    unfold Op.stringOp
    have h1 : ¬ ((((⟨l.toArray⟩ : ByteArray).size + (⟨m.toArray⟩ : ByteArray).size : Nat) : Int) > IntKind.i64.max) := by
      show ¬ (((l.length + m.length : Nat) : Int) > 9223372036854775807)
      omega
    simp only [if_neg h1]
    rfl
  have e2 : binA P .add t xo yo (.lit (.string ⟨l.toArray⟩)) (.lit (.string ⟨m.toArray⟩)) = (pureRun P (Op.stringOp .add ⟨l.toArray⟩ ⟨m.toArray⟩)).bind absOf := rfl
  rw [e2, e]
  have e3 : (⟨l.toArray⟩ : ByteArray) ++ ⟨m.toArray⟩ = ⟨(l ++ m).toArray⟩ := by
    apply ByteArray.ext
    rw [ByteArray.data_append]
    simp
  rw [e3]
  rfl
/-- an interface's value that isn't nil, against nil -/
theorem b_ifnil {ms : Array (String × TypeId)} {T : TypeId} {a : AVal} (h : P.underlying t = some (.interface ms)) : binA P .eql t xo yo (.iface T (.iptr a)) (.lit .nilIface) = some (.lit (.bool false)) := by
  have e : binA P .eql t xo yo (.iface T (.iptr a)) (.lit .nilIface) = (match P.underlying t with
      | some d => if nilEq d (.iface T (.iptr a)) (.lit .nilIface) = true then some (AVal.bool false) else none
      | none => none) := rfl
  rw [e, h]
  rfl
theorem b_nilnil {n : Nat} {c : Value} {ms : Array (String × TypeId)} (h : P.underlying t = some (.interface ms)) : binA P .eql t (.tmp n) (.const c) (.lit .nilIface) (.lit .nilIface) = some (.lit (.bool true)) := by
  have e : binA P .eql t (.tmp n) (.const c) (.lit .nilIface) (.lit .nilIface) = (pureRun P (do pure (Value.bool (← Op.equal t .nilIface .nilIface)))).bind absOf := rfl
  rw [e, pureRun_bind]
  have e2 : pureRun P (Op.equal t .nilIface .nilIface) = some true := by
    unfold Op.equal
    rw [show Op.maxDepth = 9999 + 1 from rfl]
    unfold Op.equalIn
    rw [pureRun_bind]
    have e3 : pureRun P (underlying t) = some (.interface ms) := by
      unfold underlying
      simp [pureRun, h, program, Bind.bind, Sem.bind, Pure.pure]
    rw [e3]
    rfl
  rw [e2]
  rfl
/-! ### parts of a string -/
theorem pr_bound {k : IntKind} {i : Int} {y : Nat} {code : BoundsCode} (h0 : 0 ≤ i) (h1 : i ≤ y) : pureRun P (Instr.sliceBound (.int k i) y code) = some i.toNat := by
  unfold Instr.sliceBound
  rw [pureRun_bind]
  show (some (k, i)).bind _ = _
  rw [Option.bind_some]
  show pureRun P (if 0 ≤ i ∧ i ≤ y then pure i.toNat else boundsPanic k i y code) = _
  rw [if_pos ⟨h0, h1⟩]
  rfl
theorem pr_bounds {len : Nat} {k k' : IntKind} {a b : Int} (h0 : 0 ≤ a) (h1 : a ≤ b) (h2 : b ≤ len) : pureRun P (Instr.sliceBounds false len len (some (.int k a)) (some (.int k' b)) none) = some (a.toNat, b.toNat, len) := by
  have e : Instr.sliceBounds false len len (some (.int k a)) (some (.int k' b)) none = (do
    let h ← Instr.sliceBound (.int k' b) len .sliceAlen
    let l ← Instr.sliceBound (.int k a) h .sliceB
    pure (l, h, len)) := rfl
  rw [e, pureRun_bind, pr_bound (by omega) h2, Option.bind_some, pureRun_bind, pr_bound h0 (by omega), Option.bind_some]
  rfl
theorem pr_bounds_l {len : Nat} {k : IntKind} {a : Int} (h0 : 0 ≤ a) (h1 : a ≤ len) : pureRun P (Instr.sliceBounds false len len (some (.int k a)) none none) = some (a.toNat, len, len) := by
  have e : Instr.sliceBounds false len len (some (.int k a)) none none = (do
    let l ← Instr.sliceBound (.int k a) len .sliceB
    pure (l, len, len)) := rfl
  rw [e, pureRun_bind, pr_bound h0 h1, Option.bind_some]
  rfl
theorem pr_bounds_h {len : Nat} {k : IntKind} {b : Int} (h0 : 0 ≤ b) (h1 : b ≤ len) : pureRun P (Instr.sliceBounds false len len none (some (.int k b)) none) = some (0, b.toNat, len) := by
  have e : Instr.sliceBounds false len len none (some (.int k b)) none = (do
    let h ← Instr.sliceBound (.int k b) len .sliceAlen
    pure (0, h, len)) := rfl
  rw [e, pureRun_bind, pr_bound h0 h1, Option.bind_some]
  rfl
theorem pr_slice {l : List UInt8} {lo hi : Option Value} {a b m : Nat} (hu : P.underlying t = some .string) (h : pureRun P (Instr.sliceBounds false l.length l.length lo hi none) = some (a, b, m)) :
    pureV P (Instr.sliceAt t (.string ⟨l.toArray⟩) lo hi none) = some (.lit (.string ⟨((l.drop a).take (b - a)).toArray⟩)) := by
  have e1 : pureRun P (Instr.sliceAt t (.string ⟨l.toArray⟩) lo hi none) = some (.string ((⟨l.toArray⟩ : ByteArray).extract a b)) := by
    unfold Instr.sliceAt
    rw [pureRun_bind, pureRun_underlying hu, Option.bind_some]
    show pureRun P (Instr.slice t (.string ⟨l.toArray⟩) lo hi none) = _
    unfold Instr.slice
    rw [pureRun_bind, pureRun_underlying hu, Option.bind_some]
    show pureRun P (do
      let x ← Instr.sliceBounds false l.length l.length lo hi none
      pure (Value.string ((⟨l.toArray⟩ : ByteArray).extract x.1 x.2.1))) = _
    rw [pureRun_bind, h, Option.bind_some]
    rfl
  have e2 : (⟨l.toArray⟩ : ByteArray).extract a b = ⟨((l.drop a).take (b - a)).toArray⟩ := by
    apply ByteArray.ext
    rw [ByteArray.data_extract]
    simp [List.extract]
  unfold pureV
  rw [e1, e2]
  rfl
theorem ss_lh {l : List UInt8} {a b : Nat} (hu : P.underlying t = some .string) (h1 : a ≤ b) (h2 : b ≤ l.length) :
    sliceU P t (.lit (.string ⟨l.toArray⟩)) (some (.lit (.int .i64 (a : Int)))) (some (.lit (.int .i64 (b : Int)))) none = some (.lit (.string ⟨((l.drop a).take (b - a)).toArray⟩)) :=
  pr_slice hu (pr_bounds (by omega) (by omega) (by omega))
theorem ss_l {l : List UInt8} {a : Nat} (hu : P.underlying t = some .string) (h1 : a ≤ l.length) :
    sliceU P t (.lit (.string ⟨l.toArray⟩)) (some (.lit (.int .i64 (a : Int)))) none none = some (.lit (.string ⟨(l.drop a).toArray⟩)) := by
  have h := pr_slice (P := P) (l := l) hu (pr_bounds_l (k := .i64) (a := (a : Int)) (by omega) (by omega))
  rw [Int.toNat_natCast, List.take_of_length_le (by simp)] at h
  exact h
theorem ss_h {l : List UInt8} {b : Nat} (hu : P.underlying t = some .string) (h1 : b ≤ l.length) :
    sliceU P t (.lit (.string ⟨l.toArray⟩)) none (some (.lit (.int .i64 (b : Int)))) none = some (.lit (.string ⟨(l.take b).toArray⟩)) := by
  have h := pr_slice (P := P) (l := l) hu (pr_bounds_h (k := .i64) (b := (b : Int)) (by omega) (by omega))
  rw [Int.toNat_natCast, List.drop_zero, Nat.sub_zero] at h
  exact h
end Go.Proofs.YtpgcbmmifmnfpaaDoorA
