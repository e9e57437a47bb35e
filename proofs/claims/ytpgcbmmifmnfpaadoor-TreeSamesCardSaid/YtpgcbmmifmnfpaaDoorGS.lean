/- What walks through these functions need: pieces of their code, single operations reckoned. No condition. -/
import Derived.Test.YtpgcbmmifmnfpaaDoorEA
import Derived.Test.YtpgcbmmifmnfpaaDoorAK
import Derived.Test.YtpgcbmmifmnfpaaDoorST
import Derived.Test.YtpgcbmmifmnfpaaDoorGM
namespace Go.Proofs.YtpgcbmmifmnfpaaDoorV
open Go Go.RowKit Go.Proofs.YtpgcbmmifmnfpaaDoorA
set_option linter.unusedVariables false
set_option linter.unusedSimpArgs false
set_option maxRecDepth 100000

/-! ### slices.EqualFunc[[]braidwork/tree.Decl,[]braidwork/tree.Decl,braidwork/tree.Decl,braidwork/tree.Decl] -/
noncomputable def B26 : Code := code Tryd.f26
noncomputable def N26_0 := cp B26 []
noncomputable def R26_0 := cp B26 [1]
noncomputable def r26_0 := (⟨r_mk rfl (by simp only [R26_0, B26, code, Tryd.f26, dc, Poe]; exact rfl)⟩ : PLift (Goe E 26 R26_0 _))
noncomputable def N26_1 := cp B26 [2]
noncomputable def N26_2 := cp B26 [2, 1]
noncomputable def R26_1 := cp B26 [2, 1, 1]
noncomputable def r26_1 := (⟨r_mk rfl (by simp only [R26_1, B26, code, Tryd.f26, dc, Poe]; exact rfl)⟩ : PLift (Goe E 26 R26_1 _))
noncomputable def N26_3 := cp B26 [2, 1, 2]
noncomputable def N26_4 := cp B26 [2, 1, 2, 6]
noncomputable def R26_2 := cp B26 [2, 1, 2, 6, 1]
noncomputable def r26_2 := (⟨r_mk rfl (by simp only [R26_2, B26, code, Tryd.f26, dc, Poe]; exact rfl)⟩ : PLift (Goe E 26 R26_2 _))
theorem n26_4 : Gqe E 26 N26_4 (.seq R26_2 .ret) := gq rfl
theorem n26_3 : Gqe E 26 N26_3 (.cond (.tmp 14) N26_4 .skip) := gq rfl
theorem n26_2 : Gqe E 26 N26_2 (.seq R26_1 N26_3) := gq rfl
noncomputable def N26_5 := cp B26 [2, 2]
noncomputable def N26_6 := cp B26 [2, 2, 1]
noncomputable def R26_3 := cp B26 [2, 2, 1, 1]
noncomputable def r26_3 := (⟨r_mk rfl (by simp only [R26_3, B26, code, Tryd.f26, dc, Poe]; exact rfl)⟩ : PLift (Goe E 26 R26_3 _))
noncomputable def N26_7 := cp B26 [2, 2, 1, 2]
noncomputable def L26_0 := cp B26 [2, 2, 1, 2, 3, 4]
noncomputable def R26_4 := cp B26 [2, 2, 1, 2, 3, 4, 1]
noncomputable def r26_4 := (⟨r_mk rfl (by simp only [R26_4, B26, code, Tryd.f26, dc, Poe]; exact rfl)⟩ : PLift (Goe E 26 R26_4 _))
noncomputable def N26_8 := cp B26 [2, 2, 1, 2, 3, 4, 2]
noncomputable def N26_9 := cp B26 [2, 2, 1, 2, 3, 4, 2, 2]
noncomputable def N26_10 := cp B26 [2, 2, 1, 2, 3, 4, 2, 2, 1, 3]
noncomputable def R26_5 := cp B26 [2, 2, 1, 2, 3, 4, 2, 2, 1, 3, 1]
noncomputable def r26_5 := (⟨r_mk rfl (by simp only [R26_5, B26, code, Tryd.f26, dc, Poe]; exact rfl)⟩ : PLift (Goe E 26 R26_5 _))
noncomputable def N26_11 := cp B26 [2, 2, 1, 2, 3, 4, 2, 2, 1, 3, 2]
noncomputable def R26_6 := cp B26 [2, 2, 1, 2, 3, 4, 2, 2, 1, 3, 2, 1]
noncomputable def r26_6 := (⟨r_mk rfl (by simp only [R26_6, B26, code, Tryd.f26, dc, Poe]; exact rfl)⟩ : PLift (Goe E 26 R26_6 _))
noncomputable def N26_12 := cp B26 [2, 2, 1, 2, 3, 4, 2, 2, 1, 3, 2, 2]
noncomputable def R26_7 := cp B26 [2, 2, 1, 2, 3, 4, 2, 2, 1, 3, 2, 2, 1]
noncomputable def r26_7 := (⟨r_mk rfl (by simp only [R26_7, B26, code, Tryd.f26, dc, Poe]; exact rfl)⟩ : PLift (Goe E 26 R26_7 _))
noncomputable def N26_13 := cp B26 [2, 2, 1, 2, 3, 4, 2, 2, 1, 3, 2, 2, 2]
noncomputable def N26_14 := cp B26 [2, 2, 1, 2, 3, 4, 2, 2, 1, 3, 2, 2, 2, 6]
noncomputable def R26_8 := cp B26 [2, 2, 1, 2, 3, 4, 2, 2, 1, 3, 2, 2, 2, 6, 1]
noncomputable def r26_8 := (⟨r_mk rfl (by simp only [R26_8, B26, code, Tryd.f26, dc, Poe]; exact rfl)⟩ : PLift (Goe E 26 R26_8 _))
theorem n26_14 : Gqe E 26 N26_14 (.seq R26_8 .ret) := gq rfl
theorem n26_13 : Gqe E 26 N26_13 (.cond (.tmp 30) N26_14 .skip) := gq rfl
theorem n26_12 : Gqe E 26 N26_12 (.seq R26_7 N26_13) := gq rfl
theorem n26_11 : Gqe E 26 N26_11 (.seq R26_6 N26_12) := gq rfl
theorem n26_10 : Gqe E 26 N26_10 (.seq R26_5 N26_11) := gq rfl
noncomputable def N26_15 := cp B26 [2, 2, 1, 2, 3, 4, 2, 2, 2]
noncomputable def R26_9 := cp B26 [2, 2, 1, 2, 3, 4, 2, 2, 2]
noncomputable def r26_9 := (⟨r_mk rfl (by simp only [R26_9, B26, code, Tryd.f26, dc, Poe]; exact rfl)⟩ : PLift (Goe E 26 R26_9 _))
theorem n26_15 : Gqe E 26 N26_15 R26_9 := gq rfl
theorem n26_9 : Gqe E 26 N26_9 (.seq (.block 1 N26_10) N26_15) := gq rfl
theorem n26_8 : Gqe E 26 N26_8 (.seq (.cond (.tmp 18) .skip (.exit 0)) N26_9) := gq rfl
theorem l26_0 : Gqe E 26 L26_0 (.seq R26_4 N26_8) := gq rfl
theorem n26_7 : Gqe E 26 N26_7 (.block 0 (.loop L26_0)) := gq rfl
theorem n26_6 : Gqe E 26 N26_6 (.seq R26_3 N26_7) := gq rfl
noncomputable def N26_16 := cp B26 [2, 2, 2]
noncomputable def R26_10 := cp B26 [2, 2, 2, 1]
noncomputable def r26_10 := (⟨r_mk rfl (by simp only [R26_10, B26, code, Tryd.f26, dc, Poe]; exact rfl)⟩ : PLift (Goe E 26 R26_10 _))
theorem n26_16 : Gqe E 26 N26_16 (.seq R26_10 .ret) := gq rfl
theorem n26_5 : Gqe E 26 N26_5 (.seq N26_6 N26_16) := gq rfl
theorem n26_1 : Gqe E 26 N26_1 (.seq N26_2 N26_5) := gq rfl
theorem n26_0 : Gqe E 26 N26_0 (.seq R26_0 N26_1) := gq rfl
theorem en_26 {x0 x1 x2 : AVal} {st : ASt} {R : AEnd → ASt → Prop} (h : ∀ g : Nat → AVal, g 0 = x0 → g 1 = x1 → g 2 = x2 → Gc E 26 N26_0 [] (RQ E Tryd.f26 R) (Sl 32 g) st) : ∃ r st', rw E 26 [x0, x1, x2] st = some (r, st') ∧ R r st' :=
  en_of (fn := Tryd.f26) (c := N26_0) rfl rfl rfl (Nat.le_of_ble_eq_true rfl) fun g hg => h g (hg 0 x0 rfl) (hg 1 x1 rfl) (hg 2 x2 rfl)
theorem rq_26 (R : AEnd → ASt → Prop) (g : Nat → AVal) (st : ASt) : RQ E Tryd.f26 R .ret (Sl 32 g) st = R (.returned (g 6)) st := by
  rw [rq_gen (.inl rfl), show (Tryd.f26).results.toList = [.tmp 6] from rfl]
  simp only [aresB, sl_get, Nat.reduceLT, ↓reduceIte, bindK_some, tup]
/-! ### slices.EqualFunc[[]braidwork/tree.Stmt,[]braidwork/tree.Stmt,braidwork/tree.Stmt,braidwork/tree.Stmt] -/
noncomputable def B28 : Code := code Tryd.f28
noncomputable def N28_0 := cp B28 []
noncomputable def R28_0 := cp B28 [1]
noncomputable def r28_0 := (⟨r_mk rfl (by simp only [R28_0, B28, code, Tryd.f28, dc, Poe]; exact rfl)⟩ : PLift (Goe E 28 R28_0 _))
noncomputable def N28_1 := cp B28 [2]
noncomputable def N28_2 := cp B28 [2, 1]
noncomputable def R28_1 := cp B28 [2, 1, 1]
noncomputable def r28_1 := (⟨r_mk rfl (by simp only [R28_1, B28, code, Tryd.f28, dc, Poe]; exact rfl)⟩ : PLift (Goe E 28 R28_1 _))
noncomputable def N28_3 := cp B28 [2, 1, 2]
noncomputable def N28_4 := cp B28 [2, 1, 2, 6]
noncomputable def R28_2 := cp B28 [2, 1, 2, 6, 1]
noncomputable def r28_2 := (⟨r_mk rfl (by simp only [R28_2, B28, code, Tryd.f28, dc, Poe]; exact rfl)⟩ : PLift (Goe E 28 R28_2 _))
theorem n28_4 : Gqe E 28 N28_4 (.seq R28_2 .ret) := gq rfl
theorem n28_3 : Gqe E 28 N28_3 (.cond (.tmp 14) N28_4 .skip) := gq rfl
theorem n28_2 : Gqe E 28 N28_2 (.seq R28_1 N28_3) := gq rfl
noncomputable def N28_5 := cp B28 [2, 2]
noncomputable def N28_6 := cp B28 [2, 2, 1]
noncomputable def R28_3 := cp B28 [2, 2, 1, 1]
noncomputable def r28_3 := (⟨r_mk rfl (by simp only [R28_3, B28, code, Tryd.f28, dc, Poe]; exact rfl)⟩ : PLift (Goe E 28 R28_3 _))
noncomputable def N28_7 := cp B28 [2, 2, 1, 2]
noncomputable def L28_0 := cp B28 [2, 2, 1, 2, 3, 4]
noncomputable def R28_4 := cp B28 [2, 2, 1, 2, 3, 4, 1]
noncomputable def r28_4 := (⟨r_mk rfl (by simp only [R28_4, B28, code, Tryd.f28, dc, Poe]; exact rfl)⟩ : PLift (Goe E 28 R28_4 _))
noncomputable def N28_8 := cp B28 [2, 2, 1, 2, 3, 4, 2]
noncomputable def N28_9 := cp B28 [2, 2, 1, 2, 3, 4, 2, 2]
noncomputable def N28_10 := cp B28 [2, 2, 1, 2, 3, 4, 2, 2, 1, 3]
noncomputable def R28_5 := cp B28 [2, 2, 1, 2, 3, 4, 2, 2, 1, 3, 1]
noncomputable def r28_5 := (⟨r_mk rfl (by simp only [R28_5, B28, code, Tryd.f28, dc, Poe]; exact rfl)⟩ : PLift (Goe E 28 R28_5 _))
noncomputable def N28_11 := cp B28 [2, 2, 1, 2, 3, 4, 2, 2, 1, 3, 2]
noncomputable def R28_6 := cp B28 [2, 2, 1, 2, 3, 4, 2, 2, 1, 3, 2, 1]
noncomputable def r28_6 := (⟨r_mk rfl (by simp only [R28_6, B28, code, Tryd.f28, dc, Poe]; exact rfl)⟩ : PLift (Goe E 28 R28_6 _))
noncomputable def N28_12 := cp B28 [2, 2, 1, 2, 3, 4, 2, 2, 1, 3, 2, 2]
noncomputable def R28_7 := cp B28 [2, 2, 1, 2, 3, 4, 2, 2, 1, 3, 2, 2, 1]
noncomputable def r28_7 := (⟨r_mk rfl (by simp only [R28_7, B28, code, Tryd.f28, dc, Poe]; exact rfl)⟩ : PLift (Goe E 28 R28_7 _))
noncomputable def N28_13 := cp B28 [2, 2, 1, 2, 3, 4, 2, 2, 1, 3, 2, 2, 2]
noncomputable def N28_14 := cp B28 [2, 2, 1, 2, 3, 4, 2, 2, 1, 3, 2, 2, 2, 6]
noncomputable def R28_8 := cp B28 [2, 2, 1, 2, 3, 4, 2, 2, 1, 3, 2, 2, 2, 6, 1]
noncomputable def r28_8 := (⟨r_mk rfl (by simp only [R28_8, B28, code, Tryd.f28, dc, Poe]; exact rfl)⟩ : PLift (Goe E 28 R28_8 _))
theorem n28_14 : Gqe E 28 N28_14 (.seq R28_8 .ret) := gq rfl
theorem n28_13 : Gqe E 28 N28_13 (.cond (.tmp 30) N28_14 .skip) := gq rfl
theorem n28_12 : Gqe E 28 N28_12 (.seq R28_7 N28_13) := gq rfl
theorem n28_11 : Gqe E 28 N28_11 (.seq R28_6 N28_12) := gq rfl
theorem n28_10 : Gqe E 28 N28_10 (.seq R28_5 N28_11) := gq rfl
noncomputable def N28_15 := cp B28 [2, 2, 1, 2, 3, 4, 2, 2, 2]
noncomputable def R28_9 := cp B28 [2, 2, 1, 2, 3, 4, 2, 2, 2]
noncomputable def r28_9 := (⟨r_mk rfl (by simp only [R28_9, B28, code, Tryd.f28, dc, Poe]; exact rfl)⟩ : PLift (Goe E 28 R28_9 _))
theorem n28_15 : Gqe E 28 N28_15 R28_9 := gq rfl
theorem n28_9 : Gqe E 28 N28_9 (.seq (.block 1 N28_10) N28_15) := gq rfl
theorem n28_8 : Gqe E 28 N28_8 (.seq (.cond (.tmp 18) .skip (.exit 0)) N28_9) := gq rfl
theorem l28_0 : Gqe E 28 L28_0 (.seq R28_4 N28_8) := gq rfl
theorem n28_7 : Gqe E 28 N28_7 (.block 0 (.loop L28_0)) := gq rfl
theorem n28_6 : Gqe E 28 N28_6 (.seq R28_3 N28_7) := gq rfl
noncomputable def N28_16 := cp B28 [2, 2, 2]
noncomputable def R28_10 := cp B28 [2, 2, 2, 1]
noncomputable def r28_10 := (⟨r_mk rfl (by simp only [R28_10, B28, code, Tryd.f28, dc, Poe]; exact rfl)⟩ : PLift (Goe E 28 R28_10 _))
theorem n28_16 : Gqe E 28 N28_16 (.seq R28_10 .ret) := gq rfl
theorem n28_5 : Gqe E 28 N28_5 (.seq N28_6 N28_16) := gq rfl
theorem n28_1 : Gqe E 28 N28_1 (.seq N28_2 N28_5) := gq rfl
theorem n28_0 : Gqe E 28 N28_0 (.seq R28_0 N28_1) := gq rfl
theorem en_28 {x0 x1 x2 : AVal} {st : ASt} {R : AEnd → ASt → Prop} (h : ∀ g : Nat → AVal, g 0 = x0 → g 1 = x1 → g 2 = x2 → Gc E 28 N28_0 [] (RQ E Tryd.f28 R) (Sl 32 g) st) : ∃ r st', rw E 28 [x0, x1, x2] st = some (r, st') ∧ R r st' :=
  en_of (fn := Tryd.f28) (c := N28_0) rfl rfl rfl (Nat.le_of_ble_eq_true rfl) fun g hg => h g (hg 0 x0 rfl) (hg 1 x1 rfl) (hg 2 x2 rfl)
theorem rq_28 (R : AEnd → ASt → Prop) (g : Nat → AVal) (st : ASt) : RQ E Tryd.f28 R .ret (Sl 32 g) st = R (.returned (g 6)) st := by
  rw [rq_gen (.inl rfl), show (Tryd.f28).results.toList = [.tmp 6] from rfl]
  simp only [aresB, sl_get, Nat.reduceLT, ↓reduceIte, bindK_some, tup]
/-! ### slices.EqualFunc[[]braidwork/tree.Expr,[]braidwork/tree.Expr,braidwork/tree.Expr,braidwork/tree.Expr] -/
noncomputable def B41 : Code := code Tryd.f41
noncomputable def N41_0 := cp B41 []
noncomputable def R41_0 := cp B41 [1]
noncomputable def r41_0 := (⟨r_mk rfl (by simp only [R41_0, B41, code, Tryd.f41, dc, Poe]; exact rfl)⟩ : PLift (Goe E 41 R41_0 _))
noncomputable def N41_1 := cp B41 [2]
noncomputable def N41_2 := cp B41 [2, 1]
noncomputable def R41_1 := cp B41 [2, 1, 1]
noncomputable def r41_1 := (⟨r_mk rfl (by simp only [R41_1, B41, code, Tryd.f41, dc, Poe]; exact rfl)⟩ : PLift (Goe E 41 R41_1 _))
noncomputable def N41_3 := cp B41 [2, 1, 2]
noncomputable def N41_4 := cp B41 [2, 1, 2, 6]
noncomputable def R41_2 := cp B41 [2, 1, 2, 6, 1]
noncomputable def r41_2 := (⟨r_mk rfl (by simp only [R41_2, B41, code, Tryd.f41, dc, Poe]; exact rfl)⟩ : PLift (Goe E 41 R41_2 _))
theorem n41_4 : Gqe E 41 N41_4 (.seq R41_2 .ret) := gq rfl
theorem n41_3 : Gqe E 41 N41_3 (.cond (.tmp 14) N41_4 .skip) := gq rfl
theorem n41_2 : Gqe E 41 N41_2 (.seq R41_1 N41_3) := gq rfl
noncomputable def N41_5 := cp B41 [2, 2]
noncomputable def N41_6 := cp B41 [2, 2, 1]
noncomputable def R41_3 := cp B41 [2, 2, 1, 1]
noncomputable def r41_3 := (⟨r_mk rfl (by simp only [R41_3, B41, code, Tryd.f41, dc, Poe]; exact rfl)⟩ : PLift (Goe E 41 R41_3 _))
noncomputable def N41_7 := cp B41 [2, 2, 1, 2]
noncomputable def L41_0 := cp B41 [2, 2, 1, 2, 3, 4]
noncomputable def R41_4 := cp B41 [2, 2, 1, 2, 3, 4, 1]
noncomputable def r41_4 := (⟨r_mk rfl (by simp only [R41_4, B41, code, Tryd.f41, dc, Poe]; exact rfl)⟩ : PLift (Goe E 41 R41_4 _))
noncomputable def N41_8 := cp B41 [2, 2, 1, 2, 3, 4, 2]
noncomputable def N41_9 := cp B41 [2, 2, 1, 2, 3, 4, 2, 2]
noncomputable def N41_10 := cp B41 [2, 2, 1, 2, 3, 4, 2, 2, 1, 3]
noncomputable def R41_5 := cp B41 [2, 2, 1, 2, 3, 4, 2, 2, 1, 3, 1]
noncomputable def r41_5 := (⟨r_mk rfl (by simp only [R41_5, B41, code, Tryd.f41, dc, Poe]; exact rfl)⟩ : PLift (Goe E 41 R41_5 _))
noncomputable def N41_11 := cp B41 [2, 2, 1, 2, 3, 4, 2, 2, 1, 3, 2]
noncomputable def R41_6 := cp B41 [2, 2, 1, 2, 3, 4, 2, 2, 1, 3, 2, 1]
noncomputable def r41_6 := (⟨r_mk rfl (by simp only [R41_6, B41, code, Tryd.f41, dc, Poe]; exact rfl)⟩ : PLift (Goe E 41 R41_6 _))
noncomputable def N41_12 := cp B41 [2, 2, 1, 2, 3, 4, 2, 2, 1, 3, 2, 2]
noncomputable def R41_7 := cp B41 [2, 2, 1, 2, 3, 4, 2, 2, 1, 3, 2, 2, 1]
noncomputable def r41_7 := (⟨r_mk rfl (by simp only [R41_7, B41, code, Tryd.f41, dc, Poe]; exact rfl)⟩ : PLift (Goe E 41 R41_7 _))
noncomputable def N41_13 := cp B41 [2, 2, 1, 2, 3, 4, 2, 2, 1, 3, 2, 2, 2]
noncomputable def N41_14 := cp B41 [2, 2, 1, 2, 3, 4, 2, 2, 1, 3, 2, 2, 2, 6]
noncomputable def R41_8 := cp B41 [2, 2, 1, 2, 3, 4, 2, 2, 1, 3, 2, 2, 2, 6, 1]
noncomputable def r41_8 := (⟨r_mk rfl (by simp only [R41_8, B41, code, Tryd.f41, dc, Poe]; exact rfl)⟩ : PLift (Goe E 41 R41_8 _))
theorem n41_14 : Gqe E 41 N41_14 (.seq R41_8 .ret) := gq rfl
theorem n41_13 : Gqe E 41 N41_13 (.cond (.tmp 30) N41_14 .skip) := gq rfl
theorem n41_12 : Gqe E 41 N41_12 (.seq R41_7 N41_13) := gq rfl
theorem n41_11 : Gqe E 41 N41_11 (.seq R41_6 N41_12) := gq rfl
theorem n41_10 : Gqe E 41 N41_10 (.seq R41_5 N41_11) := gq rfl
noncomputable def N41_15 := cp B41 [2, 2, 1, 2, 3, 4, 2, 2, 2]
noncomputable def R41_9 := cp B41 [2, 2, 1, 2, 3, 4, 2, 2, 2]
noncomputable def r41_9 := (⟨r_mk rfl (by simp only [R41_9, B41, code, Tryd.f41, dc, Poe]; exact rfl)⟩ : PLift (Goe E 41 R41_9 _))
theorem n41_15 : Gqe E 41 N41_15 R41_9 := gq rfl
theorem n41_9 : Gqe E 41 N41_9 (.seq (.block 1 N41_10) N41_15) := gq rfl
theorem n41_8 : Gqe E 41 N41_8 (.seq (.cond (.tmp 18) .skip (.exit 0)) N41_9) := gq rfl
theorem l41_0 : Gqe E 41 L41_0 (.seq R41_4 N41_8) := gq rfl
theorem n41_7 : Gqe E 41 N41_7 (.block 0 (.loop L41_0)) := gq rfl
theorem n41_6 : Gqe E 41 N41_6 (.seq R41_3 N41_7) := gq rfl
noncomputable def N41_16 := cp B41 [2, 2, 2]
noncomputable def R41_10 := cp B41 [2, 2, 2, 1]
noncomputable def r41_10 := (⟨r_mk rfl (by simp only [R41_10, B41, code, Tryd.f41, dc, Poe]; exact rfl)⟩ : PLift (Goe E 41 R41_10 _))
theorem n41_16 : Gqe E 41 N41_16 (.seq R41_10 .ret) := gq rfl
theorem n41_5 : Gqe E 41 N41_5 (.seq N41_6 N41_16) := gq rfl
theorem n41_1 : Gqe E 41 N41_1 (.seq N41_2 N41_5) := gq rfl
theorem n41_0 : Gqe E 41 N41_0 (.seq R41_0 N41_1) := gq rfl
theorem en_41 {x0 x1 x2 : AVal} {st : ASt} {R : AEnd → ASt → Prop} (h : ∀ g : Nat → AVal, g 0 = x0 → g 1 = x1 → g 2 = x2 → Gc E 41 N41_0 [] (RQ E Tryd.f41 R) (Sl 32 g) st) : ∃ r st', rw E 41 [x0, x1, x2] st = some (r, st') ∧ R r st' :=
  en_of (fn := Tryd.f41) (c := N41_0) rfl rfl rfl (Nat.le_of_ble_eq_true rfl) fun g hg => h g (hg 0 x0 rfl) (hg 1 x1 rfl) (hg 2 x2 rfl)
theorem rq_41 (R : AEnd → ASt → Prop) (g : Nat → AVal) (st : ASt) : RQ E Tryd.f41 R .ret (Sl 32 g) st = R (.returned (g 6)) st := by
  rw [rq_gen (.inl rfl), show (Tryd.f41).results.toList = [.tmp 6] from rfl]
  simp only [aresB, sl_get, Nat.reduceLT, ↓reduceIte, bindK_some, tup]
/-! ### braidwork/tree.same -/
noncomputable def B42 : Code := code Tryd.f42
noncomputable def N42_0 := cp B42 []
noncomputable def R42_0 := cp B42 [1]
noncomputable def r42_0 := (⟨r_mk rfl (by simp only [R42_0, B42, code, Tryd.f42, dc, Poe]; exact rfl)⟩ : PLift (Goe E 42 R42_0 _))
noncomputable def N42_1 := cp B42 [2]
noncomputable def R42_1 := cp B42 [2, 1]
noncomputable def r42_1 := (⟨r_mk rfl (by simp only [R42_1, B42, code, Tryd.f42, dc, Poe]; exact rfl)⟩ : PLift (Goe E 42 R42_1 _))
theorem n42_1 : Gqe E 42 N42_1 (.seq R42_1 .ret) := gq rfl
theorem n42_0 : Gqe E 42 N42_0 (.seq R42_0 N42_1) := gq rfl
theorem en_42 {x0 x1 : AVal} {st : ASt} {R : AEnd → ASt → Prop} (h : ∀ g : Nat → AVal, g 0 = x0 → g 1 = x1 → Gc E 42 N42_0 [] (RQ E Tryd.f42 R) (Sl 31 g) st) : ∃ r st', rw E 42 [x0, x1] st = some (r, st') ∧ R r st' :=
  en_of (fn := Tryd.f42) (c := N42_0) rfl rfl rfl (Nat.le_of_ble_eq_true rfl) fun g hg => h g (hg 0 x0 rfl) (hg 1 x1 rfl)
theorem rq_42 (R : AEnd → ASt → Prop) (g : Nat → AVal) (st : ASt) : RQ E Tryd.f42 R .ret (Sl 31 g) st = R (.returned (g 4)) st := by
  rw [rq_gen (.inl rfl), show (Tryd.f42).results.toList = [.tmp 4] from rfl]
  simp only [aresB, sl_get, Nat.reduceLT, ↓reduceIte, bindK_some, tup]
theorem cf_41 (a : List AVal) (st : ASt) : callFuncA E.P 41 a st = some (.enter 41 a st) := rfl

/-! ### braidwork/tree.alike -/
noncomputable def B29 : Code := code Tryd.f29
noncomputable def N29_0 := cp B29 []
noncomputable def R29_0 := cp B29 [1]
noncomputable def r29_0 := (⟨r_mk rfl (by simp only [R29_0, B29, code, Tryd.f29, dc, Poe]; exact rfl)⟩ : PLift (Goe E 29 R29_0 _))
noncomputable def N29_1 := cp B29 [2]
noncomputable def R29_1 := cp B29 [2, 1]
noncomputable def r29_1 := (⟨r_mk rfl (by simp only [R29_1, B29, code, Tryd.f29, dc, Poe]; exact rfl)⟩ : PLift (Goe E 29 R29_1 _))
theorem n29_1 : Gqe E 29 N29_1 (.seq R29_1 .ret) := gq rfl
theorem n29_0 : Gqe E 29 N29_0 (.seq R29_0 N29_1) := gq rfl
theorem en_29 {x0 x1 : AVal} {st : ASt} {R : AEnd → ASt → Prop} (h : ∀ g : Nat → AVal, g 0 = x0 → g 1 = x1 → Gc E 29 N29_0 [] (RQ E Tryd.f29 R) (Sl 52 g) st) : ∃ r st', rw E 29 [x0, x1] st = some (r, st') ∧ R r st' :=
  en_of (fn := Tryd.f29) (c := N29_0) rfl rfl rfl (Nat.le_of_ble_eq_true rfl) fun g hg => h g (hg 0 x0 rfl) (hg 1 x1 rfl)
theorem rq_29 (R : AEnd → ASt → Prop) (g : Nat → AVal) (st : ASt) : RQ E Tryd.f29 R .ret (Sl 52 g) st = R (.returned (g 4)) st := by
  rw [rq_gen (.inl rfl), show (Tryd.f29).results.toList = [.tmp 4] from rfl]
  simp only [aresB, sl_get, Nat.reduceLT, ↓reduceIte, bindK_some, tup]
theorem o_eqb_4_eql (xo yo : Operand) (a b : Bool) : binA E.P .eql 4 xo yo (.lit (.bool a)) (.lit (.bool b)) = some (.lit (.bool (a == b))) := b_eqb rfl
theorem cf_28 (a : List AVal) (st : ASt) : callFuncA E.P 28 a st = some (.enter 28 a st) := rfl
/-! ### braidwork/tree.Same$1 -/
noncomputable def B27 : Code := code Tryd.f27
noncomputable def N27_0 := cp B27 []
noncomputable def R27_0 := cp B27 [1]
noncomputable def r27_0 := (⟨r_mk rfl (by simp only [R27_0, B27, code, Tryd.f27, dc, Poe]; exact rfl)⟩ : PLift (Goe E 27 R27_0 _))
noncomputable def N27_1 := cp B27 [2]
noncomputable def R27_1 := cp B27 [2, 1]
noncomputable def r27_1 := (⟨r_mk rfl (by simp only [R27_1, B27, code, Tryd.f27, dc, Poe]; exact rfl)⟩ : PLift (Goe E 27 R27_1 _))
theorem n27_1 : Gqe E 27 N27_1 (.seq R27_1 .ret) := gq rfl
theorem n27_0 : Gqe E 27 N27_0 (.seq R27_0 N27_1) := gq rfl
theorem en_27 {x0 x1 : AVal} {st : ASt} {R : AEnd → ASt → Prop} (h : ∀ g : Nat → AVal, g 0 = x0 → g 1 = x1 → Gc E 27 N27_0 [] (RQ E Tryd.f27 R) (Sl 31 g) st) : ∃ r st', rw E 27 [x0, x1] st = some (r, st') ∧ R r st' :=
  en_of (fn := Tryd.f27) (c := N27_0) rfl rfl rfl (Nat.le_of_ble_eq_true rfl) fun g hg => h g (hg 0 x0 rfl) (hg 1 x1 rfl)
theorem rq_27 (R : AEnd → ASt → Prop) (g : Nat → AVal) (st : ASt) : RQ E Tryd.f27 R .ret (Sl 31 g) st = R (.returned (g 4)) st := by
  rw [rq_gen (.inl rfl), show (Tryd.f27).results.toList = [.tmp 4] from rfl]
  simp only [aresB, sl_get, Nat.reduceLT, ↓reduceIte, bindK_some, tup]
/-! ### braidwork/tree.Same -/
noncomputable def B15 : Code := code Tryd.f15
noncomputable def N15_0 := cp B15 []
noncomputable def R15_0 := cp B15 [1]
noncomputable def r15_0 := (⟨r_mk rfl (by simp only [R15_0, B15, code, Tryd.f15, dc, Poe]; exact rfl)⟩ : PLift (Goe E 15 R15_0 _))
noncomputable def N15_1 := cp B15 [2]
noncomputable def R15_1 := cp B15 [2, 1]
noncomputable def r15_1 := (⟨r_mk rfl (by simp only [R15_1, B15, code, Tryd.f15, dc, Poe]; exact rfl)⟩ : PLift (Goe E 15 R15_1 _))
theorem n15_1 : Gqe E 15 N15_1 (.seq R15_1 .ret) := gq rfl
theorem n15_0 : Gqe E 15 N15_0 (.seq R15_0 N15_1) := gq rfl
theorem en_15 {x0 x1 : AVal} {st : ASt} {R : AEnd → ASt → Prop} (h : ∀ g : Nat → AVal, g 0 = x0 → g 1 = x1 → Gc E 15 N15_0 [] (RQ E Tryd.f15 R) (Sl 10 g) st) : ∃ r st', rw E 15 [x0, x1] st = some (r, st') ∧ R r st' :=
  en_of (fn := Tryd.f15) (c := N15_0) rfl rfl rfl (Nat.le_of_ble_eq_true rfl) fun g hg => h g (hg 0 x0 rfl) (hg 1 x1 rfl)
theorem rq_15 (R : AEnd → ASt → Prop) (g : Nat → AVal) (st : ASt) : RQ E Tryd.f15 R .ret (Sl 10 g) st = R (.returned (g 4)) st := by
  rw [rq_gen (.inl rfl), show (Tryd.f15).results.toList = [.tmp 4] from rfl]
  simp only [aresB, sl_get, Nat.reduceLT, ↓reduceIte, bindK_some, tup]
theorem cf_26 (a : List AVal) (st : ASt) : callFuncA E.P 26 a st = some (.enter 26 a st) := rfl

/-! ### braidwork/braidworklaw04.TreeSames -/
noncomputable def B4 : Code := code Tryd.f4
noncomputable def N4_0 := cp B4 []
noncomputable def R4_0 := cp B4 [1]
noncomputable def r4_0 := (⟨r_mk rfl (by simp only [R4_0, B4, code, Tryd.f4, dc, Poe]; exact rfl)⟩ : PLift (Goe E 4 R4_0 _))
noncomputable def N4_1 := cp B4 [2]
noncomputable def N4_2 := cp B4 [2, 1]
noncomputable def R4_1 := cp B4 [2, 1, 1]
noncomputable def r4_1 := (⟨r_mk rfl (by simp only [R4_1, B4, code, Tryd.f4, dc, Poe]; exact rfl)⟩ : PLift (Goe E 4 R4_1 _))
noncomputable def N4_3 := cp B4 [2, 1, 2]
noncomputable def N4_4 := cp B4 [2, 1, 2, 6]
noncomputable def R4_2 := cp B4 [2, 1, 2, 6, 1]
noncomputable def r4_2 := (⟨r_mk rfl (by simp only [R4_2, B4, code, Tryd.f4, dc, Poe]; exact rfl)⟩ : PLift (Goe E 4 R4_2 _))
theorem n4_4 : Gqe E 4 N4_4 (.seq R4_2 .ret) := gq rfl
theorem n4_3 : Gqe E 4 N4_3 (.cond (.tmp 11) N4_4 .skip) := gq rfl
theorem n4_2 : Gqe E 4 N4_2 (.seq R4_1 N4_3) := gq rfl
noncomputable def N4_5 := cp B4 [2, 2]
noncomputable def N4_6 := cp B4 [2, 2, 1]
noncomputable def R4_3 := cp B4 [2, 2, 1, 1]
noncomputable def r4_3 := (⟨r_mk rfl (by simp only [R4_3, B4, code, Tryd.f4, dc, Poe]; exact rfl)⟩ : PLift (Goe E 4 R4_3 _))
noncomputable def N4_7 := cp B4 [2, 2, 1, 2]
noncomputable def N4_8 := cp B4 [2, 2, 1, 2, 6]
noncomputable def R4_4 := cp B4 [2, 2, 1, 2, 6, 1]
noncomputable def r4_4 := (⟨r_mk rfl (by simp only [R4_4, B4, code, Tryd.f4, dc, Poe]; exact rfl)⟩ : PLift (Goe E 4 R4_4 _))
theorem n4_8 : Gqe E 4 N4_8 (.seq R4_4 .ret) := gq rfl
theorem n4_7 : Gqe E 4 N4_7 (.cond (.tmp 19) N4_8 .skip) := gq rfl
theorem n4_6 : Gqe E 4 N4_6 (.seq R4_3 N4_7) := gq rfl
noncomputable def N4_9 := cp B4 [2, 2, 2]
noncomputable def R4_5 := cp B4 [2, 2, 2, 1]
-- region 5 of 4 has no plan
noncomputable def N4_10 := cp B4 [2, 2, 2, 2]
noncomputable def N4_11 := cp B4 [2, 2, 2, 2, 1]
noncomputable def R4_6 := cp B4 [2, 2, 2, 2, 1, 1]
noncomputable def r4_6 := (⟨r_mk rfl (by simp only [R4_6, B4, code, Tryd.f4, dc, Poe]; exact rfl)⟩ : PLift (Goe E 4 R4_6 _))
noncomputable def N4_12 := cp B4 [2, 2, 2, 2, 1, 2]
noncomputable def N4_13 := cp B4 [2, 2, 2, 2, 1, 2, 6]
noncomputable def R4_7 := cp B4 [2, 2, 2, 2, 1, 2, 6, 1]
noncomputable def r4_7 := (⟨r_mk rfl (by simp only [R4_7, B4, code, Tryd.f4, dc, Poe]; exact rfl)⟩ : PLift (Goe E 4 R4_7 _))
noncomputable def N4_14 := cp B4 [2, 2, 2, 2, 1, 2, 6, 2]
noncomputable def R4_8 := cp B4 [2, 2, 2, 2, 1, 2, 6, 2, 1]
noncomputable def r4_8 := (⟨r_mk rfl (by simp only [R4_8, B4, code, Tryd.f4, dc, Poe]; exact rfl)⟩ : PLift (Goe E 4 R4_8 _))
noncomputable def N4_15 := cp B4 [2, 2, 2, 2, 1, 2, 6, 2, 2]
noncomputable def L4_0 := cp B4 [2, 2, 2, 2, 1, 2, 6, 2, 2, 3, 4]
noncomputable def R4_9 := cp B4 [2, 2, 2, 2, 1, 2, 6, 2, 2, 3, 4, 1]
noncomputable def r4_9 := (⟨r_mk rfl (by simp only [R4_9, B4, code, Tryd.f4, dc, Poe]; exact rfl)⟩ : PLift (Goe E 4 R4_9 _))
noncomputable def N4_16 := cp B4 [2, 2, 2, 2, 1, 2, 6, 2, 2, 3, 4, 2]
noncomputable def N4_17 := cp B4 [2, 2, 2, 2, 1, 2, 6, 2, 2, 3, 4, 2, 2]
noncomputable def N4_18 := cp B4 [2, 2, 2, 2, 1, 2, 6, 2, 2, 3, 4, 2, 2, 1, 3]
noncomputable def R4_10 := cp B4 [2, 2, 2, 2, 1, 2, 6, 2, 2, 3, 4, 2, 2, 1, 3, 1]
noncomputable def r4_10 := (⟨r_mk rfl (by simp only [R4_10, B4, code, Tryd.f4, dc, Poe]; exact rfl)⟩ : PLift (Goe E 4 R4_10 _))
noncomputable def N4_19 := cp B4 [2, 2, 2, 2, 1, 2, 6, 2, 2, 3, 4, 2, 2, 1, 3, 2]
noncomputable def R4_11 := cp B4 [2, 2, 2, 2, 1, 2, 6, 2, 2, 3, 4, 2, 2, 1, 3, 2]
noncomputable def r4_11 := (⟨r_mk rfl (by simp only [R4_11, B4, code, Tryd.f4, dc, Poe]; exact rfl)⟩ : PLift (Goe E 4 R4_11 _))
theorem n4_19 : Gqe E 4 N4_19 R4_11 := gq rfl
theorem n4_18 : Gqe E 4 N4_18 (.seq R4_10 N4_19) := gq rfl
noncomputable def N4_20 := cp B4 [2, 2, 2, 2, 1, 2, 6, 2, 2, 3, 4, 2, 2, 2]
noncomputable def R4_12 := cp B4 [2, 2, 2, 2, 1, 2, 6, 2, 2, 3, 4, 2, 2, 2]
noncomputable def r4_12 := (⟨r_mk rfl (by simp only [R4_12, B4, code, Tryd.f4, dc, Poe]; exact rfl)⟩ : PLift (Goe E 4 R4_12 _))
theorem n4_20 : Gqe E 4 N4_20 R4_12 := gq rfl
theorem n4_17 : Gqe E 4 N4_17 (.seq (.block 1 N4_18) N4_20) := gq rfl
theorem n4_16 : Gqe E 4 N4_16 (.seq (.cond (.tmp 33) .skip (.exit 0)) N4_17) := gq rfl
theorem l4_0 : Gqe E 4 L4_0 (.seq R4_9 N4_16) := gq rfl
theorem n4_15 : Gqe E 4 N4_15 (.block 0 (.loop L4_0)) := gq rfl
theorem n4_14 : Gqe E 4 N4_14 (.seq R4_8 N4_15) := gq rfl
theorem n4_13 : Gqe E 4 N4_13 (.seq R4_7 N4_14) := gq rfl
theorem n4_12 : Gqe E 4 N4_12 (.cond (.tmp 26) N4_13 .skip) := gq rfl
theorem n4_11 : Gqe E 4 N4_11 (.seq R4_6 N4_12) := gq rfl
noncomputable def N4_21 := cp B4 [2, 2, 2, 2, 2]
noncomputable def R4_13 := cp B4 [2, 2, 2, 2, 2, 1]
noncomputable def r4_13 := (⟨r_pl (p := [.one 0 [], .one 1 [], .one 3 [], .one 5 [], .one 2 [3, 5], .one 4 [5], .one 6 [], .one 7 [], .one 8 [], .one 9 [], .one 10 [], .one 11 [], .one 13 [], .one 15 [], .one 12 [13, 15], .one 14 [15], .one 16 [], .one 17 [], .one 18 [], .one 19 [], .one 20 []]) rfl (by kernel_rfl) (by kernel_rfl) (by simp only [R4_13, B4, code, Tryd.f4, dc, dpl, Ple]; exact rfl)⟩ : PLift (Gpe E 4 R4_13 _))
theorem n4_21 : Gqe E 4 N4_21 (.seq R4_13 .ret) := gq rfl
theorem n4_10 : Gqe E 4 N4_10 (.seq N4_11 N4_21) := gq rfl
theorem n4_9 : Gqe E 4 N4_9 (.seq R4_5 N4_10) := gq rfl
theorem n4_5 : Gqe E 4 N4_5 (.seq N4_6 N4_9) := gq rfl
theorem n4_1 : Gqe E 4 N4_1 (.seq N4_2 N4_5) := gq rfl
theorem n4_0 : Gqe E 4 N4_0 (.seq R4_0 N4_1) := gq rfl
theorem en_4 {x0 x1 x2 : AVal} {st : ASt} {R : AEnd → ASt → Prop} (h : ∀ g : Nat → AVal, g 0 = x0 → g 1 = x1 → g 2 = x2 → Gc E 4 N4_0 [] (RQ E Tryd.f4 R) (Sl 67 g) st) : ∃ r st', rw E 4 [x0, x1, x2] st = some (r, st') ∧ R r st' :=
  en_of (fn := Tryd.f4) (c := N4_0) rfl rfl rfl (Nat.le_of_ble_eq_true rfl) fun g hg => h g (hg 0 x0 rfl) (hg 1 x1 rfl) (hg 2 x2 rfl)
theorem rq_4 (R : AEnd → ASt → Prop) (g : Nat → AVal) (st : ASt) : RQ E Tryd.f4 R .ret (Sl 67 g) st = R (.returned (g 6)) st := by
  rw [rq_gen (.inl rfl), show (Tryd.f4).results.toList = [.tmp 6] from rfl]
  simp only [aresB, sl_get, Nat.reduceLT, ↓reduceIte, bindK_some, tup]
theorem cf_6 (a : List AVal) (st : ASt) : callFuncA E.P 6 a st = some (.enter 6 a st) := rfl
theorem cf_13 (a : List AVal) (st : ASt) : callFuncA E.P 13 a st = some (.enter 13 a st) := rfl
theorem cf_14 (a : List AVal) (st : ASt) : callFuncA E.P 14 a st = some (.enter 14 a st) := rfl
theorem o_fap_41_4 (s o : Nat) : fieldA E.P 41 (.ptr s o) 4 = some (.ptr s (o + 4)) := rfl
theorem o_fai_41_4 (cs : List AVal) : fieldA E.P 41 (.iptr (.agg cs)) 4 = (cs[4]?).map .iptr := rfl
theorem o_ldp_3 (st : ASt) (s o : Nat) : loadA E.P 3 st (.ptr s o) = (blkOf (st.heap s)).bind (fun cs => cs[o]?) := ld_one rfl rfl st s o
theorem o_ldi_3 (st : ASt) (v : AVal) : loadA E.P 3 st (.iptr v) = if v.isCell = true then some v else none := rfl
theorem o_st_3 (st : ASt) (s o : Nat) (v : AVal) : storeA E.P 3 st (.ptr s o) v = if v.isCell = true then (blkOf (st.heap s)).bind (fun cs => if o + 1 ≤ cs.length then some (st.set s (some (.cells (cs.set o v)))) else none) else storeU E.P 3 st (.ptr s o) v := st_one rfl st s o v
theorem cf_15 (a : List AVal) (st : ASt) : callFuncA E.P 15 a st = some (.enter 15 a st) := rfl
theorem cf_16 (a : List AVal) (st : ASt) : callFuncA E.P 16 a st = some (.enter 16 a st) := rfl
end Go.Proofs.YtpgcbmmifmnfpaaDoorV
