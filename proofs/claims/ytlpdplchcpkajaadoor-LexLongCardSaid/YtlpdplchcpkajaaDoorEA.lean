/- The seat's program as the second reading has it; what a call leaves as it is. No condition. -/
import Derived.Test.YtlpdplchcpkajaaDoorAF
import Derived.Test.YtlpdplchcpkajaaDoorProg
namespace Go.Proofs.YtlpdplchcpkajaaDoorV
open Go Go.RowKit Go.Proofs.YtlpdplchcpkajaaDoorA
set_option linter.unusedVariables false
set_option linter.unusedSimpArgs false
set_option maxRecDepth 100000

noncomputable def E : Env := { P := Tryd.prog, hint := fun f t => false, glob := fun k => if k = 2 then some (.iptr (.agg ([.int .u64 1, .int .u64 10, .int .u64 100, .int .u64 1000, .int .u64 10000, .int .u64 100000, .int .u64 1000000, .int .u64 10000000, .int .u64 100000000, .int .u64 1000000000, .int .u64 10000000000, .int .u64 100000000000, .int .u64 1000000000000, .int .u64 10000000000000, .int .u64 100000000000000, .int .u64 1000000000000000, .int .u64 10000000000000000, .int .u64 100000000000000000, .int .u64 1000000000000000000, .int .u64 10000000000000000000].map .lit))) else none }
noncomputable def code (fn : Func) : Code := fn.body.getD .skip

/-- nothing that was there was written -/
def Gr (st st' : ASt) : Prop := st.ctr ≤ st'.ctr ∧ ∀ j, j < st.ctr → st'.heap j = st.heap j
theorem Gr.refl (st : ASt) : Gr st st := ⟨Nat.le_refl _, fun _ _ => rfl⟩
theorem Gr.trans {a b c : ASt} (h : Gr a b) (h' : Gr b c) : Gr a c := ⟨Nat.le_trans h.1 h'.1, fun j hj => by rw [h'.2 j (Nat.lt_of_lt_of_le hj h.1), h.2 j hj]⟩
theorem Gr.new (st : ASt) (b : Blk) : Gr st (st.new b) := ⟨by simp [ASt.new], fun j hj => ASt.new_ne _ _ _ (by omega)⟩

theorem tmod_n (a b : Nat) : (a : Int).tmod (b : Int) = ((a % b : Nat) : Int) := by rw [Int.tmod_eq_emod_of_nonneg (by omega)]; rfl
theorem tdiv_n (a b : Nat) : (a : Int).tdiv (b : Int) = ((a / b : Nat) : Int) := by rw [Int.tdiv_eq_ediv_of_nonneg (by omega)]; rfl
end Go.Proofs.YtlpdplchcpkajaaDoorV
