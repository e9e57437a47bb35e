/- The seat's program as the second reading has it; what a call leaves as it is. No condition. -/
import Derived.Test.YtcaokdlmolnbaaaAF
import Derived.Test.YtcaokdlmolnbaaaProg
namespace Go.Proofs.YtcaokdlmolnbaaaV
open Go Go.RowKit Go.Proofs.YtcaokdlmolnbaaaA
set_option linter.unusedVariables false
set_option linter.unusedSimpArgs false
set_option maxRecDepth 100000

noncomputable def E : Env := { P := Try.prog, hint := fun f t => (f == 14 && (t == 23)) || (f == 30 && (t == 21)) || (f == 24 && (t == 28)) || (f == 28 && (t == 10)) || (f == 11 && (t == 46)) || (f == 26 && (t == 7)), glob := fun k => none }
noncomputable def code (fn : Func) : Code := fn.body.getD .skip

/-- nothing that was there was written -/
def Gr (st st' : ASt) : Prop := st.ctr ≤ st'.ctr ∧ ∀ j, j < st.ctr → st'.heap j = st.heap j
theorem Gr.refl (st : ASt) : Gr st st := ⟨Nat.le_refl _, fun _ _ => rfl⟩
theorem Gr.trans {a b c : ASt} (h : Gr a b) (h' : Gr b c) : Gr a c := ⟨Nat.le_trans h.1 h'.1, fun j hj => by rw [h'.2 j (Nat.lt_of_lt_of_le hj h.1), h.2 j hj]⟩
theorem Gr.new (st : ASt) (b : Blk) : Gr st (st.new b) := ⟨by simp [ASt.new], fun j hj => ASt.new_ne _ _ _ (by omega)⟩

theorem tmod_n (a b : Nat) : (a : Int).tmod (b : Int) = ((a % b : Nat) : Int) := by rw [Int.tmod_eq_emod_of_nonneg (by omega)]; rfl
theorem tdiv_n (a b : Nat) : (a : Int).tdiv (b : Int) = ((a / b : Nat) : Int) := by rw [Int.tdiv_eq_ediv_of_nonneg (by omega)]; rfl
end Go.Proofs.YtcaokdlmolnbaaaV
