/- Event's laws: arguments, Awake, plain laws. No condition. -/
import Derived.Test.YtcaokdlmolnbaaaJ23
import Derived.Test.YtcaokdlmolnbaaaDV
namespace Go.Proofs.YtcaokdlmolnbaaaV
open Go Go.RowKit Go.Proofs.YtcaokdlmolnbaaaA
set_option linter.unusedVariables false
set_option linter.unusedSimpArgs false
set_option maxRecDepth 100000

/-! ### arguments -/
theorem touch_one {n : Nat} {r : List AVal} (h : Dat E.P (n + 2) 26 r) : ∃ m : Mk, r = m.ts ∧ -128 ≤ m.ob ∧ m.ob ≤ 127 := by
  obtain ⟨x, y, rfl, h1, h2⟩ := dv_two (n := n + 1) (t0 := 24) (t1 := 4) ⟨_, _, rfl, rfl, rfl, rfl, rfl⟩ (by kernel_rfl) (by kernel_rfl) (by kernel_rfl) h
  obtain ⟨i, e1, h3, h4⟩ := dv_int0 (k := .i8) rfl h1
  obtain ⟨b, e2⟩ := dv_bool0 rfl h2
  cases e1; cases e2
  exact ⟨⟨i, b⟩, rfl, h3, h4⟩
theorem touch_rows {n : Nat} : ∀ rows : List (List AVal), (∀ r ∈ rows, Dat E.P (n + 2) 26 r) → ∃ l : List Mk, rows.map (ofRow E.P 26) = l.map Mk.t ∧ Sb l
  | [], _ => ⟨[], rfl, fun m h => by cases h⟩
  | r :: rows, h => by
    obtain ⟨m, rfl, h1, h2⟩ := touch_one (h r (List.mem_cons_self ..))
    obtain ⟨l, e, hb⟩ := touch_rows rows fun r hr => h r (List.mem_cons_of_mem _ hr)
    refine ⟨m :: l, ?_, fun x hx => ?_⟩
    · rw [List.map_cons, List.map_cons, e]; rfl
    · rcases List.mem_cons.1 hx with rfl | hx
      · exact ⟨h1, h2⟩
      · exact hb x hx
theorem touch_dat {n : Nat} {cells : List AVal} (h : Dat E.P (n + 3) 22 cells) : ∃ v l, cells = [v] ∧ TS v l ∧ Sb l ∧ v.isCell = true := by
  have hu : E.P.underlying 22 = some (.slice 26) := rfl
  unfold Dat at h
  rw [hu] at h
  rcases h with ⟨a, rfl⟩ | ⟨rows, rfl, _, hr⟩
  · exact ⟨_, [], rfl, .inl ⟨a, rfl, rfl⟩, (fun m h => by cases h), rfl⟩
  · obtain ⟨l, e, hb⟩ := touch_rows rows fun r hr' => (hr r hr').2.2
    refine ⟨_, l, rfl, .inr ⟨.unk, ?_⟩, hb, rfl⟩
    rw [e]
    have : E.P.cellsOf 26 = 2 := by kernel_rfl
    rw [this]
theorem touch_of {n : Nat} {v : AVal} (h : DatV E.P (n + 3) 22 v) : ∃ l, TS v l ∧ Sb l := by
  obtain ⟨cells, h1, _, rfl⟩ := h
  obtain ⟨v, l, rfl, h2, h3, _⟩ := touch_dat h1
  exact ⟨l, by rw [dv_one (by unfold rowB; rfl)]; exact h2, h3⟩

end Go.Proofs.YtcaokdlmolnbaaaV
