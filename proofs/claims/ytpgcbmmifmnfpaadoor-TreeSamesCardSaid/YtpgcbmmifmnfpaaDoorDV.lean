/- A law's arguments: numbers, truths, texts. No condition. -/
import Derived.Test.YtpgcbmmifmnfpaaDoorEA
import Derived.Test.YtpgcbmmifmnfpaaDoorST
namespace Go.Proofs.YtpgcbmmifmnfpaaDoorV
open Go Go.RowKit Go.Proofs.YtpgcbmmifmnfpaaDoorA
set_option linter.unusedVariables false
set_option linter.unusedSimpArgs false
set_option maxRecDepth 100000

theorem dv_int0 {n : Nat} {t : TypeId} {k : IntKind} {cells : List AVal} (hu : E.P.underlying t = some (.int k)) (h : Dat E.P n t cells) : ∃ i, cells = [.lit (.int k i)] ∧ k.min ≤ i ∧ i ≤ k.max := by
  cases n with
  | zero => cases h
  | succ n => unfold Dat at h; rw [hu] at h; exact h
theorem dv_bool0 {n : Nat} {t : TypeId} {cells : List AVal} (hu : E.P.underlying t = some .bool) (h : Dat E.P n t cells) : ∃ b, cells = [.lit (.bool b)] := by
  cases n with
  | zero => cases h
  | succ n => unfold Dat at h; rw [hu] at h; exact h
theorem dv_str0 {n : Nat} {t : TypeId} {cells : List AVal} (hu : E.P.underlying t = some .string) (h : Dat E.P n t cells) : ∃ l, cells = [str l] ∧ l.length ≤ maxLen := by
  cases n with
  | zero => cases h
  | succ n =>
    unfold Dat at h; rw [hu] at h
    obtain ⟨s, rfl, hs⟩ := h
    exact ⟨s.data.toList, rfl, by simpa using hs⟩
theorem dv_one {t : TypeId} (hr : rowB E.P t = false) (v : AVal) : ofRow E.P t [v] = v := by unfold ofRow; rw [hr]; rfl
theorem dv_int {n : Nat} {t : TypeId} {k : IntKind} {v : AVal} (hu : E.P.underlying t = some (.int k)) (h : DatV E.P n t v) : ∃ i, v = .lit (.int k i) ∧ k.min ≤ i ∧ i ≤ k.max := by
  obtain ⟨cells, h1, _, rfl⟩ := h
  obtain ⟨i, rfl, h2⟩ := dv_int0 hu h1
  exact ⟨i, dv_one (by unfold rowB; rw [hu]; rfl) _, h2⟩
theorem dv_bool {n : Nat} {t : TypeId} {v : AVal} (hu : E.P.underlying t = some .bool) (h : DatV E.P n t v) : ∃ b, v = .lit (.bool b) := by
  obtain ⟨cells, h1, _, rfl⟩ := h
  obtain ⟨b, rfl⟩ := dv_bool0 hu h1
  exact ⟨b, dv_one (by unfold rowB; rw [hu]; rfl) _⟩
theorem dv_str {n : Nat} {t : TypeId} {v : AVal} (hu : E.P.underlying t = some .string) (h : DatV E.P n t v) : ∃ l, v = str l ∧ l.length ≤ maxLen := by
  obtain ⟨cells, h1, _, rfl⟩ := h
  obtain ⟨l, rfl, h2⟩ := dv_str0 hu h1
  exact ⟨l, dv_one (by unfold rowB; rw [hu]; rfl) _, h2⟩
/-- a natural number of an unsigned kind -/
theorem dv_nat {n : Nat} {t : TypeId} {k : IntKind} {v : AVal} (hu : E.P.underlying t = some (.int k)) (hk : k.signed = false) (h : DatV E.P n t v) : ∃ i : Nat, v = .lit (.int k i) ∧ i < 2 ^ k.bits := by
  obtain ⟨i, rfl, h1, h2⟩ := dv_int hu h
  have h0 : (0 : Int) ≤ i := by
    have : k.min = 0 := by unfold IntKind.min; rw [hk]; rfl
    omega
  refine ⟨i.toNat, by rw [Int.toNat_of_nonneg h0], ?_⟩
  have : k.max = 2 ^ k.bits - 1 := by unfold IntKind.max; rw [hk]; rfl
  rw [this] at h2
  have h3 : (i.toNat : Int) < 2 ^ k.bits := by rw [Int.toNat_of_nonneg h0]; omega
  exact_mod_cast h3
/-- two fields, each of one cell -/
theorem dv_two {n : Nat} {t t0 t1 : TypeId} {r : List AVal} (hu : ∃ f0 f1, E.P.underlying t = some (.struct #[f0, f1]) ∧ f0.type = t0 ∧ f0.offset = 0 ∧ f1.type = t1 ∧ f1.offset = 1) (hc : E.P.cellsOf t = 2) (h0 : E.P.cellsOf t0 = 1) (h1 : E.P.cellsOf t1 = 1) (h : Dat E.P (n + 1) t r) :
    ∃ x y, r = [x, y] ∧ Dat E.P n t0 [x] ∧ Dat E.P n t1 [y] := by
  obtain ⟨f0, f1, hu, a0, o0, a1, o1⟩ := hu
  unfold Dat at h
  rw [hu] at h
  obtain ⟨hl, hf⟩ := h
  rw [hc] at hl
  match r, hl with
  | [x, y], _ =>
    have g0 := hf f0 (by simp)
    have g1 := hf f1 (by simp)
    rw [a0, o0, h0] at g0
    rw [a1, o1, h1] at g1
    exact ⟨x, y, rfl, g0, g1⟩
end Go.Proofs.YtpgcbmmifmnfpaaDoorV
