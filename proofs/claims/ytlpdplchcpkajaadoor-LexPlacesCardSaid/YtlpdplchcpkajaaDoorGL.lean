/- What walks through these functions need: pieces of their code, single operations reckoned. No condition. -/
import Derived.Test.YtlpdplchcpkajaaDoorEA
import Derived.Test.YtlpdplchcpkajaaDoorAF
import Derived.Test.YtlpdplchcpkajaaDoorST
namespace Go.Proofs.YtlpdplchcpkajaaDoorV
open Go Go.RowKit Go.Proofs.YtlpdplchcpkajaaDoorA
set_option linter.unusedVariables false
set_option linter.unusedSimpArgs false
set_option maxRecDepth 100000

/-! ### braidwork/lex.Split -/
noncomputable def C25 : Code := (code Tryd.f25)
noncomputable def S25_0 : Code := (code Tryd.f25).fst
noncomputable def S25_0_e := (⟨by simp only [S25_0, code, Tryd.f25, Option.getD_some, Code.fst, Code.snd, Code.bin, Code.lin, Code.sin, Code.yes, Code.no]; exact rfl⟩ : PLift (S25_0 = _))
noncomputable def Z25_0 : Code := (code Tryd.f25).snd.sin
noncomputable def S25_1 : Code := .seq ((code Tryd.f25).snd.sin.fst) (.seq ((code Tryd.f25).snd.sin.snd.fst) (.seq ((code Tryd.f25).snd.sin.snd.snd.fst) (.seq ((code Tryd.f25).snd.sin.snd.snd.snd.fst) (.seq ((code Tryd.f25).snd.sin.snd.snd.snd.snd.fst) (.seq ((code Tryd.f25).snd.sin.snd.snd.snd.snd.snd.fst.fst) (.seq ((code Tryd.f25).snd.sin.snd.snd.snd.snd.snd.fst.snd) (.seq ((code Tryd.f25).snd.sin.snd.snd.snd.snd.snd.snd.fst) (.seq ((code Tryd.f25).snd.sin.snd.snd.snd.snd.snd.snd.snd.fst.fst) (.seq ((code Tryd.f25).snd.sin.snd.snd.snd.snd.snd.snd.snd.fst.snd) (.seq ((code Tryd.f25).snd.sin.snd.snd.snd.snd.snd.snd.snd.snd.fst) (.seq ((code Tryd.f25).snd.sin.snd.snd.snd.snd.snd.snd.snd.snd.snd.fst.fst) (.seq ((code Tryd.f25).snd.sin.snd.snd.snd.snd.snd.snd.snd.snd.snd.fst.snd) (.seq ((code Tryd.f25).snd.sin.snd.snd.snd.snd.snd.snd.snd.snd.snd.snd.fst.fst) (.seq ((code Tryd.f25).snd.sin.snd.snd.snd.snd.snd.snd.snd.snd.snd.snd.fst.snd) ((code Tryd.f25).snd.sin.snd.snd.snd.snd.snd.snd.snd.snd.snd.snd.snd.fst)))))))))))))))
noncomputable def S25_1_e := (⟨by simp only [S25_1, code, Tryd.f25, Option.getD_some, Code.fst, Code.snd, Code.bin, Code.lin, Code.sin, Code.yes, Code.no]; exact rfl⟩ : PLift (S25_1 = _))
noncomputable def L25_1 : Code := (code Tryd.f25).snd.sin.snd.snd.snd.snd.snd.snd.snd.snd.snd.snd.snd.snd.fst.bin.lin
noncomputable def S25_2 : Code := .seq ((code Tryd.f25).snd.sin.snd.snd.snd.snd.snd.snd.snd.snd.snd.snd.snd.snd.fst.bin.lin.fst.fst) (.seq ((code Tryd.f25).snd.sin.snd.snd.snd.snd.snd.snd.snd.snd.snd.snd.snd.snd.fst.bin.lin.fst.snd) ((code Tryd.f25).snd.sin.snd.snd.snd.snd.snd.snd.snd.snd.snd.snd.snd.snd.fst.bin.lin.snd))
noncomputable def S25_2_e := (⟨by simp only [S25_2, code, Tryd.f25, Option.getD_some, Code.fst, Code.snd, Code.bin, Code.lin, Code.sin, Code.yes, Code.no]; exact rfl⟩ : PLift (S25_2 = _))
theorem L25_1_wp {ts : List AVal} {st : ASt} {Q : APost} (h : Wp E 25 S25_2 ts st Q) : Wp E 25 L25_1 ts st Q := by
  have e : ∀ n ts st, aexec E 25 (rw E) (drawB E 25) n L25_1 ts st = aexec E 25 (rw E) (drawB E 25) n (S25_2) ts st := by
    intro n ts st
    have e1 : L25_1 = (.seq (.seq (code Tryd.f25).snd.sin.snd.snd.snd.snd.snd.snd.snd.snd.snd.snd.snd.snd.fst.bin.lin.fst.fst (code Tryd.f25).snd.sin.snd.snd.snd.snd.snd.snd.snd.snd.snd.snd.snd.snd.fst.bin.lin.fst.snd) (code Tryd.f25).snd.sin.snd.snd.snd.snd.snd.snd.snd.snd.snd.snd.snd.snd.fst.bin.lin.snd) := rfl
    rw [e1] <;>
    simp only [S25_2, aexec_seq, aseq_assoc]
  refine aw_congr e ?_
  exact h
noncomputable def S25_3 : Code := .seq ((code Tryd.f25).snd.sin.snd.snd.snd.snd.snd.snd.snd.snd.snd.snd.snd.snd.snd.fst) ((code Tryd.f25).snd.sin.snd.snd.snd.snd.snd.snd.snd.snd.snd.snd.snd.snd.snd.snd.fst)
noncomputable def S25_3_e := (⟨by simp only [S25_3, code, Tryd.f25, Option.getD_some, Code.fst, Code.snd, Code.bin, Code.lin, Code.sin, Code.yes, Code.no]; exact rfl⟩ : PLift (S25_3 = _))
noncomputable def L25_2 : Code := (code Tryd.f25).snd.sin.snd.snd.snd.snd.snd.snd.snd.snd.snd.snd.snd.snd.snd.snd.snd.fst.bin.lin
noncomputable def S25_4 : Code := .seq ((code Tryd.f25).snd.sin.snd.snd.snd.snd.snd.snd.snd.snd.snd.snd.snd.snd.snd.snd.snd.fst.bin.lin.fst.fst) (.seq ((code Tryd.f25).snd.sin.snd.snd.snd.snd.snd.snd.snd.snd.snd.snd.snd.snd.snd.snd.snd.fst.bin.lin.fst.snd) ((code Tryd.f25).snd.sin.snd.snd.snd.snd.snd.snd.snd.snd.snd.snd.snd.snd.snd.snd.snd.fst.bin.lin.snd))
noncomputable def S25_4_e := (⟨by simp only [S25_4, code, Tryd.f25, Option.getD_some, Code.fst, Code.snd, Code.bin, Code.lin, Code.sin, Code.yes, Code.no]; exact rfl⟩ : PLift (S25_4 = _))
theorem L25_2_wp {ts : List AVal} {st : ASt} {Q : APost} (h : Wp E 25 S25_4 ts st Q) : Wp E 25 L25_2 ts st Q := by
  have e : ∀ n ts st, aexec E 25 (rw E) (drawB E 25) n L25_2 ts st = aexec E 25 (rw E) (drawB E 25) n (S25_4) ts st := by
    intro n ts st
    have e1 : L25_2 = (.seq (.seq (code Tryd.f25).snd.sin.snd.snd.snd.snd.snd.snd.snd.snd.snd.snd.snd.snd.snd.snd.snd.fst.bin.lin.fst.fst (code Tryd.f25).snd.sin.snd.snd.snd.snd.snd.snd.snd.snd.snd.snd.snd.snd.snd.snd.snd.fst.bin.lin.fst.snd) (code Tryd.f25).snd.sin.snd.snd.snd.snd.snd.snd.snd.snd.snd.snd.snd.snd.snd.snd.snd.fst.bin.lin.snd) := rfl
    rw [e1] <;>
    simp only [S25_4, aexec_seq, aseq_assoc]
  refine aw_congr e ?_
  exact h
noncomputable def S25_5 : Code := .seq ((code Tryd.f25).snd.sin.snd.snd.snd.snd.snd.snd.snd.snd.snd.snd.snd.snd.snd.snd.snd.snd.fst) (.seq ((code Tryd.f25).snd.sin.snd.snd.snd.snd.snd.snd.snd.snd.snd.snd.snd.snd.snd.snd.snd.snd.snd.fst) ((code Tryd.f25).snd.sin.snd.snd.snd.snd.snd.snd.snd.snd.snd.snd.snd.snd.snd.snd.snd.snd.snd.snd.fst))
noncomputable def S25_5_e := (⟨by simp only [S25_5, code, Tryd.f25, Option.getD_some, Code.fst, Code.snd, Code.bin, Code.lin, Code.sin, Code.yes, Code.no]; exact rfl⟩ : PLift (S25_5 = _))
noncomputable def L25_3 : Code := (code Tryd.f25).snd.sin.snd.snd.snd.snd.snd.snd.snd.snd.snd.snd.snd.snd.snd.snd.snd.snd.snd.snd.snd.fst.bin.lin
noncomputable def S25_6 : Code := .seq ((code Tryd.f25).snd.sin.snd.snd.snd.snd.snd.snd.snd.snd.snd.snd.snd.snd.snd.snd.snd.snd.snd.snd.snd.fst.bin.lin.fst.fst) (.seq ((code Tryd.f25).snd.sin.snd.snd.snd.snd.snd.snd.snd.snd.snd.snd.snd.snd.snd.snd.snd.snd.snd.snd.snd.fst.bin.lin.fst.snd) ((code Tryd.f25).snd.sin.snd.snd.snd.snd.snd.snd.snd.snd.snd.snd.snd.snd.snd.snd.snd.snd.snd.snd.snd.fst.bin.lin.snd))
noncomputable def S25_6_e := (⟨by simp only [S25_6, code, Tryd.f25, Option.getD_some, Code.fst, Code.snd, Code.bin, Code.lin, Code.sin, Code.yes, Code.no]; exact rfl⟩ : PLift (S25_6 = _))
theorem L25_3_wp {ts : List AVal} {st : ASt} {Q : APost} (h : Wp E 25 S25_6 ts st Q) : Wp E 25 L25_3 ts st Q := by
  have e : ∀ n ts st, aexec E 25 (rw E) (drawB E 25) n L25_3 ts st = aexec E 25 (rw E) (drawB E 25) n (S25_6) ts st := by
    intro n ts st
    have e1 : L25_3 = (.seq (.seq (code Tryd.f25).snd.sin.snd.snd.snd.snd.snd.snd.snd.snd.snd.snd.snd.snd.snd.snd.snd.snd.snd.snd.snd.fst.bin.lin.fst.fst (code Tryd.f25).snd.sin.snd.snd.snd.snd.snd.snd.snd.snd.snd.snd.snd.snd.snd.snd.snd.snd.snd.snd.snd.fst.bin.lin.fst.snd) (code Tryd.f25).snd.sin.snd.snd.snd.snd.snd.snd.snd.snd.snd.snd.snd.snd.snd.snd.snd.snd.snd.snd.snd.fst.bin.lin.snd) := rfl
    rw [e1] <;>
    simp only [S25_6, aexec_seq, aseq_assoc]
  refine aw_congr e ?_
  exact h
noncomputable def S25_7 : Code := .seq ((code Tryd.f25).snd.sin.snd.snd.snd.snd.snd.snd.snd.snd.snd.snd.snd.snd.snd.snd.snd.snd.snd.snd.snd.snd.fst.fst) (.seq ((code Tryd.f25).snd.sin.snd.snd.snd.snd.snd.snd.snd.snd.snd.snd.snd.snd.snd.snd.snd.snd.snd.snd.snd.snd.fst.snd) (.seq ((code Tryd.f25).snd.sin.snd.snd.snd.snd.snd.snd.snd.snd.snd.snd.snd.snd.snd.snd.snd.snd.snd.snd.snd.snd.snd.fst.fst) (.seq ((code Tryd.f25).snd.sin.snd.snd.snd.snd.snd.snd.snd.snd.snd.snd.snd.snd.snd.snd.snd.snd.snd.snd.snd.snd.snd.fst.snd) (.seq ((code Tryd.f25).snd.sin.snd.snd.snd.snd.snd.snd.snd.snd.snd.snd.snd.snd.snd.snd.snd.snd.snd.snd.snd.snd.snd.snd.fst.fst) (.seq ((code Tryd.f25).snd.sin.snd.snd.snd.snd.snd.snd.snd.snd.snd.snd.snd.snd.snd.snd.snd.snd.snd.snd.snd.snd.snd.snd.fst.snd.fst) (.seq ((code Tryd.f25).snd.sin.snd.snd.snd.snd.snd.snd.snd.snd.snd.snd.snd.snd.snd.snd.snd.snd.snd.snd.snd.snd.snd.snd.fst.snd.snd) (.seq ((code Tryd.f25).snd.sin.snd.snd.snd.snd.snd.snd.snd.snd.snd.snd.snd.snd.snd.snd.snd.snd.snd.snd.snd.snd.snd.snd.snd.fst) (.seq ((code Tryd.f25).snd.sin.snd.snd.snd.snd.snd.snd.snd.snd.snd.snd.snd.snd.snd.snd.snd.snd.snd.snd.snd.snd.snd.snd.snd.snd.fst) (.seq ((code Tryd.f25).snd.sin.snd.snd.snd.snd.snd.snd.snd.snd.snd.snd.snd.snd.snd.snd.snd.snd.snd.snd.snd.snd.snd.snd.snd.snd.snd.fst) (.seq ((code Tryd.f25).snd.sin.snd.snd.snd.snd.snd.snd.snd.snd.snd.snd.snd.snd.snd.snd.snd.snd.snd.snd.snd.snd.snd.snd.snd.snd.snd.snd.fst) (.seq ((code Tryd.f25).snd.sin.snd.snd.snd.snd.snd.snd.snd.snd.snd.snd.snd.snd.snd.snd.snd.snd.snd.snd.snd.snd.snd.snd.snd.snd.snd.snd.snd.fst.fst) (.seq ((code Tryd.f25).snd.sin.snd.snd.snd.snd.snd.snd.snd.snd.snd.snd.snd.snd.snd.snd.snd.snd.snd.snd.snd.snd.snd.snd.snd.snd.snd.snd.snd.fst.snd) (.seq ((code Tryd.f25).snd.sin.snd.snd.snd.snd.snd.snd.snd.snd.snd.snd.snd.snd.snd.snd.snd.snd.snd.snd.snd.snd.snd.snd.snd.snd.snd.snd.snd.snd.fst) ((code Tryd.f25).snd.sin.snd.snd.snd.snd.snd.snd.snd.snd.snd.snd.snd.snd.snd.snd.snd.snd.snd.snd.snd.snd.snd.snd.snd.snd.snd.snd.snd.snd.snd))))))))))))))
noncomputable def S25_7_e := (⟨by simp only [S25_7, code, Tryd.f25, Option.getD_some, Code.fst, Code.snd, Code.bin, Code.lin, Code.sin, Code.yes, Code.no]; exact rfl⟩ : PLift (S25_7 = _))
theorem Z25_0_wp {ts : List AVal} {st : ASt} {Q : APost} (h : Wp E 25 S25_1 ts st (Nx (fun ts st => Wp E 25 (.block 1 (.loop L25_1)) ts st (Nx (fun ts st => Wp E 25 S25_3 ts st (Nx (fun ts st => Wp E 25 (.block 3 (.loop L25_2)) ts st (Nx (fun ts st => Wp E 25 S25_5 ts st (Nx (fun ts st => Wp E 25 (.block 5 (.loop L25_3)) ts st (Nx (fun ts st => Wp E 25 S25_7 ts st Q) Q)) Q)) Q)) Q)) Q)) Q)) : Wp E 25 Z25_0 ts st Q := by
  have e : ∀ n ts st, aexec E 25 (rw E) (drawB E 25) n Z25_0 ts st = aexec E 25 (rw E) (drawB E 25) n (.seq S25_1 (.seq (.block 1 (.loop L25_1)) (.seq S25_3 (.seq (.block 3 (.loop L25_2)) (.seq S25_5 (.seq (.block 5 (.loop L25_3)) (S25_7))))))) ts st := by
    intro n ts st
    have e1 : Z25_0 = (.seq (code Tryd.f25).snd.sin.fst (.seq (code Tryd.f25).snd.sin.snd.fst (.seq (code Tryd.f25).snd.sin.snd.snd.fst (.seq (code Tryd.f25).snd.sin.snd.snd.snd.fst (.seq (code Tryd.f25).snd.sin.snd.snd.snd.snd.fst (.seq (.seq (code Tryd.f25).snd.sin.snd.snd.snd.snd.snd.fst.fst (code Tryd.f25).snd.sin.snd.snd.snd.snd.snd.fst.snd) (.seq (code Tryd.f25).snd.sin.snd.snd.snd.snd.snd.snd.fst (.seq (.seq (code Tryd.f25).snd.sin.snd.snd.snd.snd.snd.snd.snd.fst.fst (code Tryd.f25).snd.sin.snd.snd.snd.snd.snd.snd.snd.fst.snd) (.seq (code Tryd.f25).snd.sin.snd.snd.snd.snd.snd.snd.snd.snd.fst (.seq (.seq (code Tryd.f25).snd.sin.snd.snd.snd.snd.snd.snd.snd.snd.snd.fst.fst (code Tryd.f25).snd.sin.snd.snd.snd.snd.snd.snd.snd.snd.snd.fst.snd) (.seq (.seq (code Tryd.f25).snd.sin.snd.snd.snd.snd.snd.snd.snd.snd.snd.snd.fst.fst (code Tryd.f25).snd.sin.snd.snd.snd.snd.snd.snd.snd.snd.snd.snd.fst.snd) (.seq (code Tryd.f25).snd.sin.snd.snd.snd.snd.snd.snd.snd.snd.snd.snd.snd.fst (.seq (.block 1 (.loop L25_1)) (.seq (code Tryd.f25).snd.sin.snd.snd.snd.snd.snd.snd.snd.snd.snd.snd.snd.snd.snd.fst (.seq (code Tryd.f25).snd.sin.snd.snd.snd.snd.snd.snd.snd.snd.snd.snd.snd.snd.snd.snd.fst (.seq (.block 3 (.loop L25_2)) (.seq (code Tryd.f25).snd.sin.snd.snd.snd.snd.snd.snd.snd.snd.snd.snd.snd.snd.snd.snd.snd.snd.fst (.seq (code Tryd.f25).snd.sin.snd.snd.snd.snd.snd.snd.snd.snd.snd.snd.snd.snd.snd.snd.snd.snd.snd.fst (.seq (code Tryd.f25).snd.sin.snd.snd.snd.snd.snd.snd.snd.snd.snd.snd.snd.snd.snd.snd.snd.snd.snd.snd.fst (.seq (.block 5 (.loop L25_3)) (.seq (.seq (code Tryd.f25).snd.sin.snd.snd.snd.snd.snd.snd.snd.snd.snd.snd.snd.snd.snd.snd.snd.snd.snd.snd.snd.snd.fst.fst (code Tryd.f25).snd.sin.snd.snd.snd.snd.snd.snd.snd.snd.snd.snd.snd.snd.snd.snd.snd.snd.snd.snd.snd.snd.fst.snd) (.seq (.seq (code Tryd.f25).snd.sin.snd.snd.snd.snd.snd.snd.snd.snd.snd.snd.snd.snd.snd.snd.snd.snd.snd.snd.snd.snd.snd.fst.fst (code Tryd.f25).snd.sin.snd.snd.snd.snd.snd.snd.snd.snd.snd.snd.snd.snd.snd.snd.snd.snd.snd.snd.snd.snd.snd.fst.snd) (.seq (.seq (code Tryd.f25).snd.sin.snd.snd.snd.snd.snd.snd.snd.snd.snd.snd.snd.snd.snd.snd.snd.snd.snd.snd.snd.snd.snd.snd.fst.fst (.seq (code Tryd.f25).snd.sin.snd.snd.snd.snd.snd.snd.snd.snd.snd.snd.snd.snd.snd.snd.snd.snd.snd.snd.snd.snd.snd.snd.fst.snd.fst (code Tryd.f25).snd.sin.snd.snd.snd.snd.snd.snd.snd.snd.snd.snd.snd.snd.snd.snd.snd.snd.snd.snd.snd.snd.snd.snd.fst.snd.snd)) (.seq (code Tryd.f25).snd.sin.snd.snd.snd.snd.snd.snd.snd.snd.snd.snd.snd.snd.snd.snd.snd.snd.snd.snd.snd.snd.snd.snd.snd.fst (.seq (code Tryd.f25).snd.sin.snd.snd.snd.snd.snd.snd.snd.snd.snd.snd.snd.snd.snd.snd.snd.snd.snd.snd.snd.snd.snd.snd.snd.snd.fst (.seq (code Tryd.f25).snd.sin.snd.snd.snd.snd.snd.snd.snd.snd.snd.snd.snd.snd.snd.snd.snd.snd.snd.snd.snd.snd.snd.snd.snd.snd.snd.fst (.seq (code Tryd.f25).snd.sin.snd.snd.snd.snd.snd.snd.snd.snd.snd.snd.snd.snd.snd.snd.snd.snd.snd.snd.snd.snd.snd.snd.snd.snd.snd.snd.fst (.seq (.seq (code Tryd.f25).snd.sin.snd.snd.snd.snd.snd.snd.snd.snd.snd.snd.snd.snd.snd.snd.snd.snd.snd.snd.snd.snd.snd.snd.snd.snd.snd.snd.snd.fst.fst (code Tryd.f25).snd.sin.snd.snd.snd.snd.snd.snd.snd.snd.snd.snd.snd.snd.snd.snd.snd.snd.snd.snd.snd.snd.snd.snd.snd.snd.snd.snd.snd.fst.snd) (.seq (code Tryd.f25).snd.sin.snd.snd.snd.snd.snd.snd.snd.snd.snd.snd.snd.snd.snd.snd.snd.snd.snd.snd.snd.snd.snd.snd.snd.snd.snd.snd.snd.snd.fst (code Tryd.f25).snd.sin.snd.snd.snd.snd.snd.snd.snd.snd.snd.snd.snd.snd.snd.snd.snd.snd.snd.snd.snd.snd.snd.snd.snd.snd.snd.snd.snd.snd.snd))))))))))))))))))))))))))))) := rfl
    rw [e1] <;>
    simp only [S25_1, S25_3, S25_5, S25_7, aexec_seq, aseq_assoc]
  refine aw_congr e ?_
  have h0 := h
  exact aw_seq (h0.mono fun e ts st hq => by cases e <;> first | exact hq | (have h1 := hq; exact aw_seq (h1.mono fun e ts st hq => by cases e <;> first | exact hq | (have h2 := hq; exact aw_seq (h2.mono fun e ts st hq => by cases e <;> first | exact hq | (have h3 := hq; exact aw_seq (h3.mono fun e ts st hq => by cases e <;> first | exact hq | (have h4 := hq; exact aw_seq (h4.mono fun e ts st hq => by cases e <;> first | exact hq | (have h5 := hq; exact aw_seq h5))))))))))
theorem C25_wp {ts : List AVal} {st : ASt} {Q : APost} (h : Wp E 25 S25_0 ts st (Nx (fun ts st => Wp E 25 (.scope Z25_0) ts st Q) Q)) : Wp E 25 C25 ts st Q := by
  have e : ∀ n ts st, aexec E 25 (rw E) (drawB E 25) n C25 ts st = aexec E 25 (rw E) (drawB E 25) n (.seq S25_0 ((.scope Z25_0))) ts st := by
    intro n ts st
    have e1 : C25 = (.seq (code Tryd.f25).fst (.scope Z25_0)) := rfl
    rw [e1] <;>
    simp only [S25_0, aexec_seq, aseq_assoc]
  refine aw_congr e ?_
  have h0 := h
  exact aw_seq h0
theorem ce_25 {x0 : AVal} {st : ASt} {r : AEnd × ASt} (h : ∀ g : Nat → AVal, g 0 = x0 → Wp E 25 C25 (Sl 203 g) st (fun e ts st => aend E Tryd.f25 (some (e, ts, st)) = some r)) : rw E 25 [x0] st = some r :=
  ce_of (fn := Tryd.f25) (c := C25) rfl rfl rfl (Nat.le_of_ble_eq_true rfl) fun g hg => h g (hg 0 x0 rfl)
theorem cx_25 {x0 : AVal} {st : ASt} {R : AEnd → ASt → Prop} (h : ∀ g : Nat → AVal, g 0 = x0 → Wp E 25 C25 (Sl 203 g) st (fun e ts st => ∃ r st', aend E Tryd.f25 (some (e, ts, st)) = some (r, st') ∧ R r st')) : ∃ r st', rw E 25 [x0] st = some (r, st') ∧ R r st' :=
  cx_of (fn := Tryd.f25) (c := C25) rfl rfl rfl (Nat.le_of_ble_eq_true rfl) fun g hg => h g (hg 0 x0 rfl)
theorem o_lent_9 (mt : Bool) (ty : TypeId) (cs : Array Bool) (s : ByteArray) (st : ASt) : builtinA E.P mt .len #[9] ty cs [.lit (.string s)] st = some (.val (.lit (.int .i64 s.size)) st) := len_str rfl _ _ _ _ _
theorem o_bd_52 (ps : List (Nat × AVal)) : buildA E.P 52 ps = (fillA (fun i => ([(0, 1), (1, 1), (2, 1), (3, 1)] : List (Nat × Nat))[i]?) [.lit (.int .i64 0), .lit (.string ⟨#[]⟩), .lit (.complex .f64 0 0), .lit (.int .i64 0)] ps).map .agg := rfl
theorem hint_25_21 : E.hint 25 21 = false := rfl
theorem o_bs_46_1 (ps : List (Nat × AVal)) (st : ASt) : buildSliceA E.P false 46 1 ps st = (setsE true 4 [(.agg [.lit (.int .i64 0), .lit (.string ⟨#[]⟩), .lit (.complex .f64 0 0), .lit (.int .i64 0)])] ps).map (fun es => (.islice 4 es .exact, st)) := bs_i rfl rfl rfl rfl (by decide) rfl ps st
theorem hint_25_22 : E.hint 25 22 = false := rfl
theorem slt_46 : SlT E.P 46 52 true 4 := ⟨rfl, rfl, ⟨_, _, rfl, rfl, by decide, rfl, rfl⟩, by decide⟩
theorem o_ixt_9 {l : List UInt8} {k : IntKind} {i : Int} (h0 : 0 ≤ i) (h1 : i < l.length) : pureV E.P (Instr.index 9 (.string ⟨l.toArray⟩) (.int k i)) = some (.lit (.int .u8 ((l[i.toNat]'(by omega)).toNat : Int))) := ix_str rfl h0 h1
theorem cf_48 (a : List AVal) (st : ASt) : callFuncA E.P 48 a st = some (.enter 48 a st) := rfl
theorem cf_49 (a : List AVal) (st : ASt) : callFuncA E.P 49 a st = some (.enter 49 a st) := rfl
theorem cf_50 (a : List AVal) (st : ASt) : callFuncA E.P 50 a st = some (.enter 50 a st) := rfl
theorem o_cut_9_lh {l : List UInt8} {k k2 : IntKind} {a b : Int} (h0 : 0 ≤ a) (h1 : a ≤ b) (h2 : b ≤ l.length) : pureV E.P (Instr.sliceAt 9 (.string ⟨l.toArray⟩) (some (.int k a)) (some (.int k2 b)) none) = some (.lit (.string ⟨((l.take b.toNat).drop a.toNat).toArray⟩)) := cut_lh rfl h0 h1 h2
theorem o_cut_9_l {l : List UInt8} {k : IntKind} {a : Int} (h0 : 0 ≤ a) (h1 : a ≤ l.length) : pureV E.P (Instr.sliceAt 9 (.string ⟨l.toArray⟩) (some (.int k a)) none none) = some (.lit (.string ⟨(l.drop a.toNat).toArray⟩)) := cut_l rfl h0 h1
theorem o_cut_9_h {l : List UInt8} {k : IntKind} {b : Int} (h0 : 0 ≤ b) (h1 : b ≤ l.length) : pureV E.P (Instr.sliceAt 9 (.string ⟨l.toArray⟩) none (some (.int k b)) none) = some (.lit (.string ⟨(l.take b.toNat).toArray⟩)) := cut_h rfl h0 h1
theorem hint_25_104 : E.hint 25 104 = false := rfl
theorem hint_25_105 : E.hint 25 105 = false := rfl
theorem cf_51 (a : List AVal) (st : ASt) : callFuncA E.P 51 a st = some (.enter 51 a st) := rfl
theorem hint_25_166 : E.hint 25 166 = false := rfl
theorem hint_25_167 : E.hint 25 167 = false := rfl
theorem hint_25_201 : E.hint 25 201 = false := rfl
theorem hint_25_202 : E.hint 25 202 = false := rfl

/-! ### braidwork/lex.letter -/
noncomputable def C48 : Code := (code Tryd.f48)
noncomputable def S48_0 : Code := .seq ((code Tryd.f48).fst) (.seq ((code Tryd.f48).snd.fst) ((code Tryd.f48).snd.snd))
noncomputable def S48_0_e := (⟨by simp only [S48_0, code, Tryd.f48, Option.getD_some, Code.fst, Code.snd, Code.bin, Code.lin, Code.sin, Code.yes, Code.no]; exact rfl⟩ : PLift (S48_0 = _))
theorem C48_wp {ts : List AVal} {st : ASt} {Q : APost} (h : Wp E 48 S48_0 ts st Q) : Wp E 48 C48 ts st Q := by
  have e : ∀ n ts st, aexec E 48 (rw E) (drawB E 48) n C48 ts st = aexec E 48 (rw E) (drawB E 48) n (S48_0) ts st := by
    intro n ts st
    have e1 : C48 = (.seq (code Tryd.f48).fst (.seq (code Tryd.f48).snd.fst (code Tryd.f48).snd.snd)) := rfl
    rw [e1] <;>
    simp only [S48_0, aexec_seq, aseq_assoc]
  refine aw_congr e ?_
  exact h
theorem ce_48 {x0 : AVal} {st : ASt} {r : AEnd × ASt} (h : ∀ g : Nat → AVal, g 0 = x0 → Wp E 48 C48 (Sl 21 g) st (fun e ts st => aend E Tryd.f48 (some (e, ts, st)) = some r)) : rw E 48 [x0] st = some r :=
  ce_of (fn := Tryd.f48) (c := C48) rfl rfl rfl (Nat.le_of_ble_eq_true rfl) fun g hg => h g (hg 0 x0 rfl)
theorem cx_48 {x0 : AVal} {st : ASt} {R : AEnd → ASt → Prop} (h : ∀ g : Nat → AVal, g 0 = x0 → Wp E 48 C48 (Sl 21 g) st (fun e ts st => ∃ r st', aend E Tryd.f48 (some (e, ts, st)) = some (r, st') ∧ R r st')) : ∃ r st', rw E 48 [x0] st = some (r, st') ∧ R r st' :=
  cx_of (fn := Tryd.f48) (c := C48) rfl rfl rfl (Nat.le_of_ble_eq_true rfl) fun g hg => h g (hg 0 x0 rfl)

/-! ### braidwork/lex.digit -/
noncomputable def C49 : Code := (code Tryd.f49)
noncomputable def S49_0 : Code := .seq ((code Tryd.f49).fst) (.seq ((code Tryd.f49).snd.fst) ((code Tryd.f49).snd.snd))
noncomputable def S49_0_e := (⟨by simp only [S49_0, code, Tryd.f49, Option.getD_some, Code.fst, Code.snd, Code.bin, Code.lin, Code.sin, Code.yes, Code.no]; exact rfl⟩ : PLift (S49_0 = _))
theorem C49_wp {ts : List AVal} {st : ASt} {Q : APost} (h : Wp E 49 S49_0 ts st Q) : Wp E 49 C49 ts st Q := by
  have e : ∀ n ts st, aexec E 49 (rw E) (drawB E 49) n C49 ts st = aexec E 49 (rw E) (drawB E 49) n (S49_0) ts st := by
    intro n ts st
    have e1 : C49 = (.seq (code Tryd.f49).fst (.seq (code Tryd.f49).snd.fst (code Tryd.f49).snd.snd)) := rfl
    rw [e1] <;>
    simp only [S49_0, aexec_seq, aseq_assoc]
  refine aw_congr e ?_
  exact h
theorem ce_49 {x0 : AVal} {st : ASt} {r : AEnd × ASt} (h : ∀ g : Nat → AVal, g 0 = x0 → Wp E 49 C49 (Sl 9 g) st (fun e ts st => aend E Tryd.f49 (some (e, ts, st)) = some r)) : rw E 49 [x0] st = some r :=
  ce_of (fn := Tryd.f49) (c := C49) rfl rfl rfl (Nat.le_of_ble_eq_true rfl) fun g hg => h g (hg 0 x0 rfl)
theorem cx_49 {x0 : AVal} {st : ASt} {R : AEnd → ASt → Prop} (h : ∀ g : Nat → AVal, g 0 = x0 → Wp E 49 C49 (Sl 9 g) st (fun e ts st => ∃ r st', aend E Tryd.f49 (some (e, ts, st)) = some (r, st') ∧ R r st')) : ∃ r st', rw E 49 [x0] st = some (r, st') ∧ R r st' :=
  cx_of (fn := Tryd.f49) (c := C49) rfl rfl rfl (Nat.le_of_ble_eq_true rfl) fun g hg => h g (hg 0 x0 rfl)

/-! ### braidwork/lex.one -/
noncomputable def C50 : Code := (code Tryd.f50)
noncomputable def S50_0 : Code := .seq ((code Tryd.f50).fst) (.seq ((code Tryd.f50).snd.fst.fst) (.seq ((code Tryd.f50).snd.fst.snd) (.seq ((code Tryd.f50).snd.snd.fst) ((code Tryd.f50).snd.snd.snd))))
noncomputable def S50_0_e := (⟨by simp only [S50_0, code, Tryd.f50, Option.getD_some, Code.fst, Code.snd, Code.bin, Code.lin, Code.sin, Code.yes, Code.no]; exact rfl⟩ : PLift (S50_0 = _))
theorem C50_wp {ts : List AVal} {st : ASt} {Q : APost} (h : Wp E 50 S50_0 ts st Q) : Wp E 50 C50 ts st Q := by
  have e : ∀ n ts st, aexec E 50 (rw E) (drawB E 50) n C50 ts st = aexec E 50 (rw E) (drawB E 50) n (S50_0) ts st := by
    intro n ts st
    have e1 : C50 = (.seq (code Tryd.f50).fst (.seq (.seq (code Tryd.f50).snd.fst.fst (code Tryd.f50).snd.fst.snd) (.seq (code Tryd.f50).snd.snd.fst (code Tryd.f50).snd.snd.snd))) := rfl
    rw [e1] <;>
    simp only [S50_0, aexec_seq, aseq_assoc]
  refine aw_congr e ?_
  exact h
theorem ce_50 {x0 : AVal} {st : ASt} {r : AEnd × ASt} (h : ∀ g : Nat → AVal, g 0 = x0 → Wp E 50 C50 (Sl 21 g) st (fun e ts st => aend E Tryd.f50 (some (e, ts, st)) = some r)) : rw E 50 [x0] st = some r :=
  ce_of (fn := Tryd.f50) (c := C50) rfl rfl rfl (Nat.le_of_ble_eq_true rfl) fun g hg => h g (hg 0 x0 rfl)
theorem cx_50 {x0 : AVal} {st : ASt} {R : AEnd → ASt → Prop} (h : ∀ g : Nat → AVal, g 0 = x0 → Wp E 50 C50 (Sl 21 g) st (fun e ts st => ∃ r st', aend E Tryd.f50 (some (e, ts, st)) = some (r, st') ∧ R r st')) : ∃ r st', rw E 50 [x0] st = some (r, st') ∧ R r st' :=
  cx_of (fn := Tryd.f50) (c := C50) rfl rfl rfl (Nat.le_of_ble_eq_true rfl) fun g hg => h g (hg 0 x0 rfl)

/-! ### braidwork/gauss.Parse -/
noncomputable def C51 : Code := (code Tryd.f51)
noncomputable def S51_0 : Code := .seq ((code Tryd.f51).fst) (.seq ((code Tryd.f51).snd.fst) (.seq ((code Tryd.f51).snd.snd.fst.fst) (.seq ((code Tryd.f51).snd.snd.fst.snd) (.seq ((code Tryd.f51).snd.snd.snd.fst) (.seq ((code Tryd.f51).snd.snd.snd.snd.fst.fst) (.seq ((code Tryd.f51).snd.snd.snd.snd.fst.snd) (.seq ((code Tryd.f51).snd.snd.snd.snd.snd.fst) (.seq ((code Tryd.f51).snd.snd.snd.snd.snd.snd.fst) (.seq ((code Tryd.f51).snd.snd.snd.snd.snd.snd.snd.fst.fst) (.seq ((code Tryd.f51).snd.snd.snd.snd.snd.snd.snd.fst.snd) (.seq ((code Tryd.f51).snd.snd.snd.snd.snd.snd.snd.snd.fst) ((code Tryd.f51).snd.snd.snd.snd.snd.snd.snd.snd.snd))))))))))))
noncomputable def S51_0_e := (⟨by simp only [S51_0, code, Tryd.f51, Option.getD_some, Code.fst, Code.snd, Code.bin, Code.lin, Code.sin, Code.yes, Code.no]; exact rfl⟩ : PLift (S51_0 = _))
theorem C51_wp {ts : List AVal} {st : ASt} {Q : APost} (h : Wp E 51 S51_0 ts st Q) : Wp E 51 C51 ts st Q := by
  have e : ∀ n ts st, aexec E 51 (rw E) (drawB E 51) n C51 ts st = aexec E 51 (rw E) (drawB E 51) n (S51_0) ts st := by
    intro n ts st
    have e1 : C51 = (.seq (code Tryd.f51).fst (.seq (code Tryd.f51).snd.fst (.seq (.seq (code Tryd.f51).snd.snd.fst.fst (code Tryd.f51).snd.snd.fst.snd) (.seq (code Tryd.f51).snd.snd.snd.fst (.seq (.seq (code Tryd.f51).snd.snd.snd.snd.fst.fst (code Tryd.f51).snd.snd.snd.snd.fst.snd) (.seq (code Tryd.f51).snd.snd.snd.snd.snd.fst (.seq (code Tryd.f51).snd.snd.snd.snd.snd.snd.fst (.seq (.seq (code Tryd.f51).snd.snd.snd.snd.snd.snd.snd.fst.fst (code Tryd.f51).snd.snd.snd.snd.snd.snd.snd.fst.snd) (.seq (code Tryd.f51).snd.snd.snd.snd.snd.snd.snd.snd.fst (code Tryd.f51).snd.snd.snd.snd.snd.snd.snd.snd.snd))))))))) := rfl
    rw [e1] <;>
    simp only [S51_0, aexec_seq, aseq_assoc]
  refine aw_congr e ?_
  exact h
theorem ce_51 {x0 : AVal} {st : ASt} {r : AEnd × ASt} (h : ∀ g : Nat → AVal, g 0 = x0 → Wp E 51 C51 (Sl 81 g) st (fun e ts st => aend E Tryd.f51 (some (e, ts, st)) = some r)) : rw E 51 [x0] st = some r :=
  ce_of (fn := Tryd.f51) (c := C51) rfl rfl rfl (Nat.le_of_ble_eq_true rfl) fun g hg => h g (hg 0 x0 rfl)
theorem cx_51 {x0 : AVal} {st : ASt} {R : AEnd → ASt → Prop} (h : ∀ g : Nat → AVal, g 0 = x0 → Wp E 51 C51 (Sl 81 g) st (fun e ts st => ∃ r st', aend E Tryd.f51 (some (e, ts, st)) = some (r, st') ∧ R r st')) : ∃ r st', rw E 51 [x0] st = some (r, st') ∧ R r st' :=
  cx_of (fn := Tryd.f51) (c := C51) rfl rfl rfl (Nat.le_of_ble_eq_true rfl) fun g hg => h g (hg 0 x0 rfl)
theorem cf_69 (a : List AVal) (st : ASt) : callFuncA E.P 69 a st = some (.enter 69 a st) := rfl
theorem cf_70 (a : List AVal) (st : ASt) : callFuncA E.P 70 a st = some (.enter 70 a st) := rfl
theorem cf_71 (a : List AVal) (st : ASt) : callFuncA E.P 71 a st = some (.enter 71 a st) := rfl
theorem cf_72 (a : List AVal) (st : ASt) : callFuncA E.P 72 a st = some (.enter 72 a st) := rfl
theorem cf_46 (a : List AVal) (st : ASt) : callFuncA E.P 46 a st = some (.enter 46 a st) := rfl

/-! ### braidwork/gauss.whole -/
noncomputable def C70 : Code := (code Tryd.f70)
noncomputable def S70_0 : Code := .seq ((code Tryd.f70).fst) (.seq ((code Tryd.f70).snd.fst) (.seq ((code Tryd.f70).snd.snd.fst) ((code Tryd.f70).snd.snd.snd)))
noncomputable def S70_0_e := (⟨by simp only [S70_0, code, Tryd.f70, Option.getD_some, Code.fst, Code.snd, Code.bin, Code.lin, Code.sin, Code.yes, Code.no]; exact rfl⟩ : PLift (S70_0 = _))
theorem C70_wp {ts : List AVal} {st : ASt} {Q : APost} (h : Wp E 70 S70_0 ts st Q) : Wp E 70 C70 ts st Q := by
  have e : ∀ n ts st, aexec E 70 (rw E) (drawB E 70) n C70 ts st = aexec E 70 (rw E) (drawB E 70) n (S70_0) ts st := by
    intro n ts st
    have e1 : C70 = (.seq (code Tryd.f70).fst (.seq (code Tryd.f70).snd.fst (.seq (code Tryd.f70).snd.snd.fst (code Tryd.f70).snd.snd.snd))) := rfl
    rw [e1] <;>
    simp only [S70_0, aexec_seq, aseq_assoc]
  refine aw_congr e ?_
  exact h
theorem ce_70 {x0 : AVal} {st : ASt} {r : AEnd × ASt} (h : ∀ g : Nat → AVal, g 0 = x0 → Wp E 70 C70 (Sl 26 g) st (fun e ts st => aend E Tryd.f70 (some (e, ts, st)) = some r)) : rw E 70 [x0] st = some r :=
  ce_of (fn := Tryd.f70) (c := C70) rfl rfl rfl (Nat.le_of_ble_eq_true rfl) fun g hg => h g (hg 0 x0 rfl)
theorem cx_70 {x0 : AVal} {st : ASt} {R : AEnd → ASt → Prop} (h : ∀ g : Nat → AVal, g 0 = x0 → Wp E 70 C70 (Sl 26 g) st (fun e ts st => ∃ r st', aend E Tryd.f70 (some (e, ts, st)) = some (r, st') ∧ R r st')) : ∃ r st', rw E 70 [x0] st = some (r, st') ∧ R r st' :=
  cx_of (fn := Tryd.f70) (c := C70) rfl rfl rfl (Nat.le_of_ble_eq_true rfl) fun g hg => h g (hg 0 x0 rfl)
theorem cf_86 (a : List AVal) (st : ASt) : callFuncA E.P 86 a st = some (.enter 86 a st) := rfl
theorem hint_70_12 : E.hint 70 12 = false := rfl
theorem cf_84 (a : List AVal) (st : ASt) : callFuncA E.P 84 a st = some (.enter 84 a st) := rfl
theorem hint_70_23 : E.hint 70 23 = false := rfl
theorem cf_83 (a : List AVal) (st : ASt) : callFuncA E.P 83 a st = some (.enter 83 a st) := rfl

/-! ### braidwork/gauss.part -/
noncomputable def C83 : Code := (code Tryd.f83)
noncomputable def S83_0 : Code := .seq ((code Tryd.f83).fst) (.seq ((code Tryd.f83).snd.fst) ((code Tryd.f83).snd.snd))
noncomputable def S83_0_e := (⟨by simp only [S83_0, code, Tryd.f83, Option.getD_some, Code.fst, Code.snd, Code.bin, Code.lin, Code.sin, Code.yes, Code.no]; exact rfl⟩ : PLift (S83_0 = _))
theorem C83_wp {ts : List AVal} {st : ASt} {Q : APost} (h : Wp E 83 S83_0 ts st Q) : Wp E 83 C83 ts st Q := by
  have e : ∀ n ts st, aexec E 83 (rw E) (drawB E 83) n C83 ts st = aexec E 83 (rw E) (drawB E 83) n (S83_0) ts st := by
    intro n ts st
    have e1 : C83 = (.seq (code Tryd.f83).fst (.seq (code Tryd.f83).snd.fst (code Tryd.f83).snd.snd)) := rfl
    rw [e1] <;>
    simp only [S83_0, aexec_seq, aseq_assoc]
  refine aw_congr e ?_
  exact h
theorem ce_83 {x0 : AVal} {st : ASt} {r : AEnd × ASt} (h : ∀ g : Nat → AVal, g 0 = x0 → Wp E 83 C83 (Sl 12 g) st (fun e ts st => aend E Tryd.f83 (some (e, ts, st)) = some r)) : rw E 83 [x0] st = some r :=
  ce_of (fn := Tryd.f83) (c := C83) rfl rfl rfl (Nat.le_of_ble_eq_true rfl) fun g hg => h g (hg 0 x0 rfl)
theorem cx_83 {x0 : AVal} {st : ASt} {R : AEnd → ASt → Prop} (h : ∀ g : Nat → AVal, g 0 = x0 → Wp E 83 C83 (Sl 12 g) st (fun e ts st => ∃ r st', aend E Tryd.f83 (some (e, ts, st)) = some (r, st') ∧ R r st')) : ∃ r st', rw E 83 [x0] st = some (r, st') ∧ R r st' :=
  cx_of (fn := Tryd.f83) (c := C83) rfl rfl rfl (Nat.le_of_ble_eq_true rfl) fun g hg => h g (hg 0 x0 rfl)
theorem cf_96 (a : List AVal) (st : ASt) : callFuncA E.P 96 a st = some (.enter 96 a st) := rfl
theorem cf_97 (a : List AVal) (st : ASt) : callFuncA E.P 97 a st = some (.enter 97 a st) := rfl

/-! ### math.Abs -/
noncomputable def C96 : Code := (code Tryd.f96)
noncomputable def S96_0 : Code := .seq ((code Tryd.f96).fst) (.seq ((code Tryd.f96).snd.fst) ((code Tryd.f96).snd.snd))
noncomputable def S96_0_e := (⟨by simp only [S96_0, code, Tryd.f96, Option.getD_some, Code.fst, Code.snd, Code.bin, Code.lin, Code.sin, Code.yes, Code.no]; exact rfl⟩ : PLift (S96_0 = _))
theorem C96_wp {ts : List AVal} {st : ASt} {Q : APost} (h : Wp E 96 S96_0 ts st Q) : Wp E 96 C96 ts st Q := by
  have e : ∀ n ts st, aexec E 96 (rw E) (drawB E 96) n C96 ts st = aexec E 96 (rw E) (drawB E 96) n (S96_0) ts st := by
    intro n ts st
    have e1 : C96 = (.seq (code Tryd.f96).fst (.seq (code Tryd.f96).snd.fst (code Tryd.f96).snd.snd)) := rfl
    rw [e1] <;>
    simp only [S96_0, aexec_seq, aseq_assoc]
  refine aw_congr e ?_
  exact h
theorem ce_96 {x0 : AVal} {st : ASt} {r : AEnd × ASt} (h : ∀ g : Nat → AVal, g 0 = x0 → Wp E 96 C96 (Sl 7 g) st (fun e ts st => aend E Tryd.f96 (some (e, ts, st)) = some r)) : rw E 96 [x0] st = some r :=
  ce_of (fn := Tryd.f96) (c := C96) rfl rfl rfl (Nat.le_of_ble_eq_true rfl) fun g hg => h g (hg 0 x0 rfl)
theorem cx_96 {x0 : AVal} {st : ASt} {R : AEnd → ASt → Prop} (h : ∀ g : Nat → AVal, g 0 = x0 → Wp E 96 C96 (Sl 7 g) st (fun e ts st => ∃ r st', aend E Tryd.f96 (some (e, ts, st)) = some (r, st') ∧ R r st')) : ∃ r st', rw E 96 [x0] st = some (r, st') ∧ R r st' :=
  cx_of (fn := Tryd.f96) (c := C96) rfl rfl rfl (Nat.le_of_ble_eq_true rfl) fun g hg => h g (hg 0 x0 rfl)

/-! ### math.Trunc -/
noncomputable def C97 : Code := (code Tryd.f97)
noncomputable def S97_0 : Code := .seq ((code Tryd.f97).fst) (.seq ((code Tryd.f97).snd.fst) (.seq ((code Tryd.f97).snd.snd.fst) ((code Tryd.f97).snd.snd.snd)))
noncomputable def S97_0_e := (⟨by simp only [S97_0, code, Tryd.f97, Option.getD_some, Code.fst, Code.snd, Code.bin, Code.lin, Code.sin, Code.yes, Code.no]; exact rfl⟩ : PLift (S97_0 = _))
theorem C97_wp {ts : List AVal} {st : ASt} {Q : APost} (h : Wp E 97 S97_0 ts st Q) : Wp E 97 C97 ts st Q := by
  have e : ∀ n ts st, aexec E 97 (rw E) (drawB E 97) n C97 ts st = aexec E 97 (rw E) (drawB E 97) n (S97_0) ts st := by
    intro n ts st
    have e1 : C97 = (.seq (code Tryd.f97).fst (.seq (code Tryd.f97).snd.fst (.seq (code Tryd.f97).snd.snd.fst (code Tryd.f97).snd.snd.snd))) := rfl
    rw [e1] <;>
    simp only [S97_0, aexec_seq, aseq_assoc]
  refine aw_congr e ?_
  exact h
theorem ce_97 {x0 : AVal} {st : ASt} {r : AEnd × ASt} (h : ∀ g : Nat → AVal, g 0 = x0 → Wp E 97 C97 (Sl 7 g) st (fun e ts st => aend E Tryd.f97 (some (e, ts, st)) = some r)) : rw E 97 [x0] st = some r :=
  ce_of (fn := Tryd.f97) (c := C97) rfl rfl rfl (Nat.le_of_ble_eq_true rfl) fun g hg => h g (hg 0 x0 rfl)
theorem cx_97 {x0 : AVal} {st : ASt} {R : AEnd → ASt → Prop} (h : ∀ g : Nat → AVal, g 0 = x0 → Wp E 97 C97 (Sl 7 g) st (fun e ts st => ∃ r st', aend E Tryd.f97 (some (e, ts, st)) = some (r, st') ∧ R r st')) : ∃ r st', rw E 97 [x0] st = some (r, st') ∧ R r st' :=
  cx_of (fn := Tryd.f97) (c := C97) rfl rfl rfl (Nat.le_of_ble_eq_true rfl) fun g hg => h g (hg 0 x0 rfl)
theorem cf_114 (a : List AVal) (st : ASt) : callFuncA E.P 114 a st = some (.enter 114 a st) := rfl

/-! ### braidwork/braidworklaw03.LexPlaces -/
noncomputable def C9 : Code := (code Tryd.f9)
noncomputable def S9_0 : Code := .seq ((code Tryd.f9).fst) (.seq ((code Tryd.f9).snd.fst.fst) (.seq ((code Tryd.f9).snd.fst.snd) (.seq ((code Tryd.f9).snd.snd.fst.fst) (.seq ((code Tryd.f9).snd.snd.fst.snd) (.seq ((code Tryd.f9).snd.snd.snd.fst) (.seq ((code Tryd.f9).snd.snd.snd.snd.fst.fst) (.seq ((code Tryd.f9).snd.snd.snd.snd.fst.snd) (.seq ((code Tryd.f9).snd.snd.snd.snd.snd.fst) ((code Tryd.f9).snd.snd.snd.snd.snd.snd.fst.fst)))))))))
noncomputable def S9_0_e := (⟨by simp only [S9_0, code, Tryd.f9, Option.getD_some, Code.fst, Code.snd, Code.bin, Code.lin, Code.sin, Code.yes, Code.no]; exact rfl⟩ : PLift (S9_0 = _))
noncomputable def L9_0 : Code := (code Tryd.f9).snd.snd.snd.snd.snd.snd.fst.snd.bin.lin
noncomputable def rg9_12 : Code := (code Tryd.f9).snd.snd.snd.snd.snd.snd.fst.snd.bin.lin.snd.snd.fst.bin.snd.fst.fst
noncomputable def rq9_12 : Code := (code Tryd.f9).snd.snd.snd.snd.snd.snd.fst.snd.bin.lin.snd.snd.fst.bin.snd.fst.fst
theorem ex9_12 (call : ACall) (n : Nat) (ts : List AVal) (st : ASt) : aexec E 9 call (drawB E 9) n rg9_12 ts st = aops E 9 call rq9_12.ops rq9_12.ops.toList ts st := by
  have d : drawB E 9 rq9_12.ops = true := by kernel_rfl
  have e : rg9_12 = .region 12 rq9_12.ops true := rfl
  rw [e, aexec, d]; rfl
noncomputable def rq9_12_e := (⟨by simp only [rq9_12, code, Tryd.f9, Option.getD_some, Code.fst, Code.snd, Code.bin, Code.lin, Code.sin, Code.yes, Code.no, Code.ops]; exact rfl⟩ : PLift (rq9_12.ops = _))
noncomputable def S9_1 : Code := .seq ((code Tryd.f9).snd.snd.snd.snd.snd.snd.fst.snd.bin.lin.fst) (.seq ((code Tryd.f9).snd.snd.snd.snd.snd.snd.fst.snd.bin.lin.snd.fst) (.seq (.block 1 (.seq (code Tryd.f9).snd.snd.snd.snd.snd.snd.fst.snd.bin.lin.snd.snd.fst.bin.fst (.seq (.seq rg9_12 (code Tryd.f9).snd.snd.snd.snd.snd.snd.fst.snd.bin.lin.snd.snd.fst.bin.snd.fst.snd) (code Tryd.f9).snd.snd.snd.snd.snd.snd.fst.snd.bin.lin.snd.snd.fst.bin.snd.snd))) ((code Tryd.f9).snd.snd.snd.snd.snd.snd.fst.snd.bin.lin.snd.snd.snd)))
noncomputable def S9_1_e := (⟨by simp only [S9_1, code, Tryd.f9, Option.getD_some, Code.fst, Code.snd, Code.bin, Code.lin, Code.sin, Code.yes, Code.no]; exact rfl⟩ : PLift (S9_1 = _))
theorem L9_0_wp {ts : List AVal} {st : ASt} {Q : APost} (h : Wp E 9 S9_1 ts st Q) : Wp E 9 L9_0 ts st Q := by
  have e : ∀ n ts st, aexec E 9 (rw E) (drawB E 9) n L9_0 ts st = aexec E 9 (rw E) (drawB E 9) n (S9_1) ts st := by
    intro n ts st
    have e1 : L9_0 = (.seq (code Tryd.f9).snd.snd.snd.snd.snd.snd.fst.snd.bin.lin.fst (.seq (code Tryd.f9).snd.snd.snd.snd.snd.snd.fst.snd.bin.lin.snd.fst (.seq (.block 1 (.seq (code Tryd.f9).snd.snd.snd.snd.snd.snd.fst.snd.bin.lin.snd.snd.fst.bin.fst (.seq (.seq rg9_12 (code Tryd.f9).snd.snd.snd.snd.snd.snd.fst.snd.bin.lin.snd.snd.fst.bin.snd.fst.snd) (code Tryd.f9).snd.snd.snd.snd.snd.snd.fst.snd.bin.lin.snd.snd.fst.bin.snd.snd))) (code Tryd.f9).snd.snd.snd.snd.snd.snd.fst.snd.bin.lin.snd.snd.snd))) := rfl
    rw [e1] <;>
    simp only [S9_1, aexec_seq, aseq_assoc]
  refine aw_congr e ?_
  exact h
noncomputable def S9_2 : Code := .seq ((code Tryd.f9).snd.snd.snd.snd.snd.snd.snd.fst) ((code Tryd.f9).snd.snd.snd.snd.snd.snd.snd.snd)
noncomputable def S9_2_e := (⟨by simp only [S9_2, code, Tryd.f9, Option.getD_some, Code.fst, Code.snd, Code.bin, Code.lin, Code.sin, Code.yes, Code.no]; exact rfl⟩ : PLift (S9_2 = _))
theorem C9_wp {ts : List AVal} {st : ASt} {Q : APost} (h : Wp E 9 S9_0 ts st (Nx (fun ts st => Wp E 9 (.block 0 (.loop L9_0)) ts st (Nx (fun ts st => Wp E 9 S9_2 ts st Q) Q)) Q)) : Wp E 9 C9 ts st Q := by
  have e : ∀ n ts st, aexec E 9 (rw E) (drawB E 9) n C9 ts st = aexec E 9 (rw E) (drawB E 9) n (.seq S9_0 (.seq (.block 0 (.loop L9_0)) (S9_2))) ts st := by
    intro n ts st
    have e1 : C9 = (.seq (code Tryd.f9).fst (.seq (.seq (code Tryd.f9).snd.fst.fst (code Tryd.f9).snd.fst.snd) (.seq (.seq (code Tryd.f9).snd.snd.fst.fst (code Tryd.f9).snd.snd.fst.snd) (.seq (code Tryd.f9).snd.snd.snd.fst (.seq (.seq (code Tryd.f9).snd.snd.snd.snd.fst.fst (code Tryd.f9).snd.snd.snd.snd.fst.snd) (.seq (code Tryd.f9).snd.snd.snd.snd.snd.fst (.seq (.seq (code Tryd.f9).snd.snd.snd.snd.snd.snd.fst.fst (.block 0 (.loop L9_0))) (.seq (code Tryd.f9).snd.snd.snd.snd.snd.snd.snd.fst (code Tryd.f9).snd.snd.snd.snd.snd.snd.snd.snd)))))))) := rfl
    rw [e1] <;>
    simp only [S9_0, S9_2, aexec_seq, aseq_assoc]
  refine aw_congr e ?_
  have h0 := h
  exact aw_seq (h0.mono fun e ts st hq => by cases e <;> first | exact hq | (have h1 := hq; exact aw_seq h1))
theorem ce_9 {x0 : AVal} {st : ASt} {r : AEnd × ASt} (h : ∀ g : Nat → AVal, g 0 = x0 → Wp E 9 C9 (Sl 98 g) st (fun e ts st => aend E Tryd.f9 (some (e, ts, st)) = some r)) : rw E 9 [x0] st = some r :=
  ce_of (fn := Tryd.f9) (c := C9) rfl rfl rfl (Nat.le_of_ble_eq_true rfl) fun g hg => h g (hg 0 x0 rfl)
theorem cx_9 {x0 : AVal} {st : ASt} {R : AEnd → ASt → Prop} (h : ∀ g : Nat → AVal, g 0 = x0 → Wp E 9 C9 (Sl 98 g) st (fun e ts st => ∃ r st', aend E Tryd.f9 (some (e, ts, st)) = some (r, st') ∧ R r st')) : ∃ r st', rw E 9 [x0] st = some (r, st') ∧ R r st' :=
  cx_of (fn := Tryd.f9) (c := C9) rfl rfl rfl (Nat.le_of_ble_eq_true rfl) fun g hg => h g (hg 0 x0 rfl)
theorem cf_24 (a : List AVal) (st : ASt) : callFuncA E.P 24 a st = some (.enter 24 a st) := rfl
theorem cf_25 (a : List AVal) (st : ASt) : callFuncA E.P 25 a st = some (.enter 25 a st) := rfl
theorem o_leni_46 (mt : Bool) (ty : TypeId) (cs : Array Bool) (sz : Nat) (es : List AVal) (c : Cap) (st : ASt) : builtinA E.P mt .len #[46] ty cs [.islice sz es c] st = some (.val (.lit (.int .i64 es.length)) st) := rfl
theorem o_lens_46 (mt : Bool) (ty : TypeId) (cs : Array Bool) (s o l sz : Nat) (c : Option Nat) (st : ASt) : builtinA E.P mt .len #[46] ty cs [.slice s o l sz c] st = some (.val (.lit (.int .i64 l)) st) := rfl
theorem o_lenn_46 (mt : Bool) (ty : TypeId) (cs : Array Bool) (a : Option Addr) (st : ASt) : builtinA E.P mt .len #[46] ty cs [.lit (.slice a 0 0)] st = some (.val (.lit (.int .i64 0)) st) := len_nil rfl _ _ _ _ _
theorem o_ixi_46 (sz : Nat) (es : List AVal) (c : Cap) (k : IntKind) (i : Int) : indexA E.P 46 (.islice sz es c) (.lit (.int k i)) = if 0 ≤ i ∧ i < es.length ∧ some 4 = some sz then (es[i.toNat]?).map .iptr else none := rfl
theorem o_ixs_46 (s o l sz : Nat) (c : Option Nat) (k : IntKind) (i : Int) : indexA E.P 46 (.slice s o l sz c) (.lit (.int k i)) = if 0 ≤ i ∧ i < l then some (.ptr s (o + i.toNat * 4)) else none := rfl
theorem o_ldp_52 (st : ASt) (s o : Nat) : loadA E.P 52 st (.ptr s o) = (blkOf (st.heap s)).bind (fun cs => if o + 4 ≤ cs.length then some (.agg ((cs.drop o).take 4)) else none) := ld_agg rfl rfl st s o
theorem o_ldi_52 (st : ASt) (cs : List AVal) : loadA E.P 52 st (.iptr (.agg cs)) = if cs.length = 4 then some (.agg cs) else none := rfl
theorem o_al_52 (st : ASt) : allocA E.P 52 st = some (.ptr st.ctr 0, st.new (.cells [.lit (.int .i64 0), .lit (.string ⟨#[]⟩), .lit (.complex .f64 0 0), .lit (.int .i64 0)])) := rfl
theorem o_st_52 (st : ASt) (s o : Nat) (vs : List AVal) : storeA E.P 52 st (.ptr s o) (.agg vs) = (blkOf (st.heap s)).bind (fun cs => if vs.length = 4 ∧ o + vs.length ≤ cs.length ∧ vs.all AVal.isCell = true then some (st.set s (some (.cells (putL cs o vs)))) else none) := st_agg rfl st s o vs
theorem o_fap_52_3 (s o : Nat) : fieldA E.P 52 (.ptr s o) 3 = some (.ptr s (o + 3)) := rfl
theorem o_fai_52_3 (cs : List AVal) : fieldA E.P 52 (.iptr (.agg cs)) 3 = (cs[3]?).map .iptr := rfl
theorem o_ldp_3 (st : ASt) (s o : Nat) : loadA E.P 3 st (.ptr s o) = (blkOf (st.heap s)).bind (fun cs => cs[o]?) := ld_one rfl rfl st s o
theorem o_ldi_3 (st : ASt) (v : AVal) : loadA E.P 3 st (.iptr v) = if v.isCell = true then some v else none := rfl
theorem o_fap_52_1 (s o : Nat) : fieldA E.P 52 (.ptr s o) 1 = some (.ptr s (o + 1)) := rfl
theorem o_fai_52_1 (cs : List AVal) : fieldA E.P 52 (.iptr (.agg cs)) 1 = (cs[1]?).map .iptr := rfl
theorem o_ldp_9 (st : ASt) (s o : Nat) : loadA E.P 9 st (.ptr s o) = (blkOf (st.heap s)).bind (fun cs => cs[o]?) := ld_one rfl rfl st s o
theorem o_ldi_9 (st : ASt) (v : AVal) : loadA E.P 9 st (.iptr v) = if v.isCell = true then some v else none := rfl
theorem cf_26 (a : List AVal) (st : ASt) : callFuncA E.P 26 a st = some (.enter 26 a st) := rfl
theorem o_fap_52_0 (s o : Nat) : fieldA E.P 52 (.ptr s o) 0 = some (.ptr s (o + 0)) := rfl
theorem o_fai_52_0 (cs : List AVal) : fieldA E.P 52 (.iptr (.agg cs)) 0 = (cs[0]?).map .iptr := rfl
theorem o_ldp_50 (st : ASt) (s o : Nat) : loadA E.P 50 st (.ptr s o) = (blkOf (st.heap s)).bind (fun cs => cs[o]?) := ld_one rfl rfl st s o
theorem o_ldi_50 (st : ASt) (v : AVal) : loadA E.P 50 st (.iptr v) = if v.isCell = true then some v else none := rfl
theorem o_eqb_4_neq (xo yo : Operand) (a b : Bool) : binA E.P .neq 4 xo yo (.lit (.bool a)) (.lit (.bool b)) = some (.lit (.bool (a != b))) := b_neb rfl

/-! ### braidwork/braidworklaw03.LexJoins -/
noncomputable def C6 : Code := (code Tryd.f6)
noncomputable def S6_0 : Code := .seq ((code Tryd.f6).fst) (.seq ((code Tryd.f6).snd.fst.fst) (.seq ((code Tryd.f6).snd.fst.snd) (.seq ((code Tryd.f6).snd.snd.fst.fst) (.seq ((code Tryd.f6).snd.snd.fst.snd) (.seq ((code Tryd.f6).snd.snd.snd.fst) (.seq ((code Tryd.f6).snd.snd.snd.snd.fst) (.seq ((code Tryd.f6).snd.snd.snd.snd.snd.fst) (.seq ((code Tryd.f6).snd.snd.snd.snd.snd.snd.fst.fst) (.seq ((code Tryd.f6).snd.snd.snd.snd.snd.snd.fst.snd) (.seq ((code Tryd.f6).snd.snd.snd.snd.snd.snd.snd.fst.fst) (.seq ((code Tryd.f6).snd.snd.snd.snd.snd.snd.snd.fst.snd) ((code Tryd.f6).snd.snd.snd.snd.snd.snd.snd.snd.fst.fst))))))))))))
noncomputable def S6_0_e := (⟨by simp only [S6_0, code, Tryd.f6, Option.getD_some, Code.fst, Code.snd, Code.bin, Code.lin, Code.sin, Code.yes, Code.no]; exact rfl⟩ : PLift (S6_0 = _))
noncomputable def L6_0 : Code := (code Tryd.f6).snd.snd.snd.snd.snd.snd.snd.snd.fst.snd.bin.lin
noncomputable def S6_1 : Code := .seq ((code Tryd.f6).snd.snd.snd.snd.snd.snd.snd.snd.fst.snd.bin.lin.fst) (.seq ((code Tryd.f6).snd.snd.snd.snd.snd.snd.snd.snd.fst.snd.bin.lin.snd.fst) (.seq ((code Tryd.f6).snd.snd.snd.snd.snd.snd.snd.snd.fst.snd.bin.lin.snd.snd.fst) ((code Tryd.f6).snd.snd.snd.snd.snd.snd.snd.snd.fst.snd.bin.lin.snd.snd.snd)))
noncomputable def S6_1_e := (⟨by simp only [S6_1, code, Tryd.f6, Option.getD_some, Code.fst, Code.snd, Code.bin, Code.lin, Code.sin, Code.yes, Code.no]; exact rfl⟩ : PLift (S6_1 = _))
theorem L6_0_wp {ts : List AVal} {st : ASt} {Q : APost} (h : Wp E 6 S6_1 ts st Q) : Wp E 6 L6_0 ts st Q := by
  have e : ∀ n ts st, aexec E 6 (rw E) (drawB E 6) n L6_0 ts st = aexec E 6 (rw E) (drawB E 6) n (S6_1) ts st := by
    intro n ts st
    have e1 : L6_0 = (.seq (code Tryd.f6).snd.snd.snd.snd.snd.snd.snd.snd.fst.snd.bin.lin.fst (.seq (code Tryd.f6).snd.snd.snd.snd.snd.snd.snd.snd.fst.snd.bin.lin.snd.fst (.seq (code Tryd.f6).snd.snd.snd.snd.snd.snd.snd.snd.fst.snd.bin.lin.snd.snd.fst (code Tryd.f6).snd.snd.snd.snd.snd.snd.snd.snd.fst.snd.bin.lin.snd.snd.snd))) := rfl
    rw [e1] <;>
    simp only [S6_1, aexec_seq, aseq_assoc]
  refine aw_congr e ?_
  exact h
noncomputable def S6_2 : Code := .seq ((code Tryd.f6).snd.snd.snd.snd.snd.snd.snd.snd.snd.fst) ((code Tryd.f6).snd.snd.snd.snd.snd.snd.snd.snd.snd.snd)
noncomputable def S6_2_e := (⟨by simp only [S6_2, code, Tryd.f6, Option.getD_some, Code.fst, Code.snd, Code.bin, Code.lin, Code.sin, Code.yes, Code.no]; exact rfl⟩ : PLift (S6_2 = _))
theorem C6_wp {ts : List AVal} {st : ASt} {Q : APost} (h : Wp E 6 S6_0 ts st (Nx (fun ts st => Wp E 6 (.block 0 (.loop L6_0)) ts st (Nx (fun ts st => Wp E 6 S6_2 ts st Q) Q)) Q)) : Wp E 6 C6 ts st Q := by
  have e : ∀ n ts st, aexec E 6 (rw E) (drawB E 6) n C6 ts st = aexec E 6 (rw E) (drawB E 6) n (.seq S6_0 (.seq (.block 0 (.loop L6_0)) (S6_2))) ts st := by
    intro n ts st
    have e1 : C6 = (.seq (code Tryd.f6).fst (.seq (.seq (code Tryd.f6).snd.fst.fst (code Tryd.f6).snd.fst.snd) (.seq (.seq (code Tryd.f6).snd.snd.fst.fst (code Tryd.f6).snd.snd.fst.snd) (.seq (code Tryd.f6).snd.snd.snd.fst (.seq (code Tryd.f6).snd.snd.snd.snd.fst (.seq (code Tryd.f6).snd.snd.snd.snd.snd.fst (.seq (.seq (code Tryd.f6).snd.snd.snd.snd.snd.snd.fst.fst (code Tryd.f6).snd.snd.snd.snd.snd.snd.fst.snd) (.seq (.seq (code Tryd.f6).snd.snd.snd.snd.snd.snd.snd.fst.fst (code Tryd.f6).snd.snd.snd.snd.snd.snd.snd.fst.snd) (.seq (.seq (code Tryd.f6).snd.snd.snd.snd.snd.snd.snd.snd.fst.fst (.block 0 (.loop L6_0))) (.seq (code Tryd.f6).snd.snd.snd.snd.snd.snd.snd.snd.snd.fst (code Tryd.f6).snd.snd.snd.snd.snd.snd.snd.snd.snd.snd)))))))))) := rfl
    rw [e1] <;>
    simp only [S6_0, S6_2, aexec_seq, aseq_assoc]
  refine aw_congr e ?_
  have h0 := h
  exact aw_seq (h0.mono fun e ts st hq => by cases e <;> first | exact hq | (have h1 := hq; exact aw_seq h1))
theorem ce_6 {x0 x1 : AVal} {st : ASt} {r : AEnd × ASt} (h : ∀ g : Nat → AVal, g 0 = x0 → g 1 = x1 → Wp E 6 C6 (Sl 109 g) st (fun e ts st => aend E Tryd.f6 (some (e, ts, st)) = some r)) : rw E 6 [x0, x1] st = some r :=
  ce_of (fn := Tryd.f6) (c := C6) rfl rfl rfl (Nat.le_of_ble_eq_true rfl) fun g hg => h g (hg 0 x0 rfl) (hg 1 x1 rfl)
theorem cx_6 {x0 x1 : AVal} {st : ASt} {R : AEnd → ASt → Prop} (h : ∀ g : Nat → AVal, g 0 = x0 → g 1 = x1 → Wp E 6 C6 (Sl 109 g) st (fun e ts st => ∃ r st', aend E Tryd.f6 (some (e, ts, st)) = some (r, st') ∧ R r st')) : ∃ r st', rw E 6 [x0, x1] st = some (r, st') ∧ R r st' :=
  cx_of (fn := Tryd.f6) (c := C6) rfl rfl rfl (Nat.le_of_ble_eq_true rfl) fun g hg => h g (hg 0 x0 rfl) (hg 1 x1 rfl)
theorem o_st_3 (st : ASt) (s o : Nat) (v : AVal) : storeA E.P 3 st (.ptr s o) v = if v.isCell = true then (blkOf (st.heap s)).bind (fun cs => if o + 1 ≤ cs.length then some (st.set s (some (.cells (cs.set o v)))) else none) else storeU E.P 3 st (.ptr s o) v := st_one rfl st s o v

/-! ### braidwork/braidworklaw03.LexAgain -/
noncomputable def C7 : Code := (code Tryd.f7)
noncomputable def S7_0 : Code := .seq ((code Tryd.f7).fst) (.seq ((code Tryd.f7).snd.fst.fst) (.seq ((code Tryd.f7).snd.fst.snd) (.seq ((code Tryd.f7).snd.snd.fst.fst) (.seq ((code Tryd.f7).snd.snd.fst.snd) (.seq ((code Tryd.f7).snd.snd.snd.fst) (.seq ((code Tryd.f7).snd.snd.snd.snd.fst.fst) (.seq ((code Tryd.f7).snd.snd.snd.snd.fst.snd) (.seq ((code Tryd.f7).snd.snd.snd.snd.snd.fst) ((code Tryd.f7).snd.snd.snd.snd.snd.snd.fst.fst)))))))))
noncomputable def S7_0_e := (⟨by simp only [S7_0, code, Tryd.f7, Option.getD_some, Code.fst, Code.snd, Code.bin, Code.lin, Code.sin, Code.yes, Code.no]; exact rfl⟩ : PLift (S7_0 = _))
noncomputable def L7_0 : Code := (code Tryd.f7).snd.snd.snd.snd.snd.snd.fst.snd.bin.lin
noncomputable def S7_1 : Code := .seq ((code Tryd.f7).snd.snd.snd.snd.snd.snd.fst.snd.bin.lin.fst) (.seq ((code Tryd.f7).snd.snd.snd.snd.snd.snd.fst.snd.bin.lin.snd.fst) (.seq ((code Tryd.f7).snd.snd.snd.snd.snd.snd.fst.snd.bin.lin.snd.snd.fst) ((code Tryd.f7).snd.snd.snd.snd.snd.snd.fst.snd.bin.lin.snd.snd.snd)))
noncomputable def S7_1_e := (⟨by simp only [S7_1, code, Tryd.f7, Option.getD_some, Code.fst, Code.snd, Code.bin, Code.lin, Code.sin, Code.yes, Code.no]; exact rfl⟩ : PLift (S7_1 = _))
theorem L7_0_wp {ts : List AVal} {st : ASt} {Q : APost} (h : Wp E 7 S7_1 ts st Q) : Wp E 7 L7_0 ts st Q := by
  have e : ∀ n ts st, aexec E 7 (rw E) (drawB E 7) n L7_0 ts st = aexec E 7 (rw E) (drawB E 7) n (S7_1) ts st := by
    intro n ts st
    have e1 : L7_0 = (.seq (code Tryd.f7).snd.snd.snd.snd.snd.snd.fst.snd.bin.lin.fst (.seq (code Tryd.f7).snd.snd.snd.snd.snd.snd.fst.snd.bin.lin.snd.fst (.seq (code Tryd.f7).snd.snd.snd.snd.snd.snd.fst.snd.bin.lin.snd.snd.fst (code Tryd.f7).snd.snd.snd.snd.snd.snd.fst.snd.bin.lin.snd.snd.snd))) := rfl
    rw [e1] <;>
    simp only [S7_1, aexec_seq, aseq_assoc]
  refine aw_congr e ?_
  exact h
noncomputable def S7_2 : Code := .seq ((code Tryd.f7).snd.snd.snd.snd.snd.snd.snd.fst) (.seq ((code Tryd.f7).snd.snd.snd.snd.snd.snd.snd.snd.fst.fst) (.seq ((code Tryd.f7).snd.snd.snd.snd.snd.snd.snd.snd.fst.snd) ((code Tryd.f7).snd.snd.snd.snd.snd.snd.snd.snd.snd.fst.fst)))
noncomputable def S7_2_e := (⟨by simp only [S7_2, code, Tryd.f7, Option.getD_some, Code.fst, Code.snd, Code.bin, Code.lin, Code.sin, Code.yes, Code.no]; exact rfl⟩ : PLift (S7_2 = _))
noncomputable def L7_1 : Code := (code Tryd.f7).snd.snd.snd.snd.snd.snd.snd.snd.snd.fst.snd.bin.lin
noncomputable def rg7_20 : Code := (code Tryd.f7).snd.snd.snd.snd.snd.snd.snd.snd.snd.fst.snd.bin.lin.snd.snd.fst.bin.snd.fst
noncomputable def rq7_20 : Code := (code Tryd.f7).snd.snd.snd.snd.snd.snd.snd.snd.snd.fst.snd.bin.lin.snd.snd.fst.bin.snd.fst
theorem ex7_20 (call : ACall) (n : Nat) (ts : List AVal) (st : ASt) : aexec E 7 call (drawB E 7) n rg7_20 ts st = aops E 7 call rq7_20.ops rq7_20.ops.toList ts st := by
  have d : drawB E 7 rq7_20.ops = true := by kernel_rfl
  have e : rg7_20 = .region 20 rq7_20.ops true := rfl
  rw [e, aexec, d]; rfl
noncomputable def rq7_20_e := (⟨by simp only [rq7_20, code, Tryd.f7, Option.getD_some, Code.fst, Code.snd, Code.bin, Code.lin, Code.sin, Code.yes, Code.no, Code.ops]; exact rfl⟩ : PLift (rq7_20.ops = _))
noncomputable def S7_3 : Code := .seq ((code Tryd.f7).snd.snd.snd.snd.snd.snd.snd.snd.snd.fst.snd.bin.lin.fst) (.seq ((code Tryd.f7).snd.snd.snd.snd.snd.snd.snd.snd.snd.fst.snd.bin.lin.snd.fst) (.seq (.block 3 (.seq (code Tryd.f7).snd.snd.snd.snd.snd.snd.snd.snd.snd.fst.snd.bin.lin.snd.snd.fst.bin.fst (.seq rg7_20 (code Tryd.f7).snd.snd.snd.snd.snd.snd.snd.snd.snd.fst.snd.bin.lin.snd.snd.fst.bin.snd.snd))) ((code Tryd.f7).snd.snd.snd.snd.snd.snd.snd.snd.snd.fst.snd.bin.lin.snd.snd.snd)))
noncomputable def S7_3_e := (⟨by simp only [S7_3, code, Tryd.f7, Option.getD_some, Code.fst, Code.snd, Code.bin, Code.lin, Code.sin, Code.yes, Code.no]; exact rfl⟩ : PLift (S7_3 = _))
theorem L7_1_wp {ts : List AVal} {st : ASt} {Q : APost} (h : Wp E 7 S7_3 ts st Q) : Wp E 7 L7_1 ts st Q := by
  have e : ∀ n ts st, aexec E 7 (rw E) (drawB E 7) n L7_1 ts st = aexec E 7 (rw E) (drawB E 7) n (S7_3) ts st := by
    intro n ts st
    have e1 : L7_1 = (.seq (code Tryd.f7).snd.snd.snd.snd.snd.snd.snd.snd.snd.fst.snd.bin.lin.fst (.seq (code Tryd.f7).snd.snd.snd.snd.snd.snd.snd.snd.snd.fst.snd.bin.lin.snd.fst (.seq (.block 3 (.seq (code Tryd.f7).snd.snd.snd.snd.snd.snd.snd.snd.snd.fst.snd.bin.lin.snd.snd.fst.bin.fst (.seq rg7_20 (code Tryd.f7).snd.snd.snd.snd.snd.snd.snd.snd.snd.fst.snd.bin.lin.snd.snd.fst.bin.snd.snd))) (code Tryd.f7).snd.snd.snd.snd.snd.snd.snd.snd.snd.fst.snd.bin.lin.snd.snd.snd))) := rfl
    rw [e1] <;>
    simp only [S7_3, aexec_seq, aseq_assoc]
  refine aw_congr e ?_
  exact h
noncomputable def S7_4 : Code := .seq ((code Tryd.f7).snd.snd.snd.snd.snd.snd.snd.snd.snd.snd.fst) ((code Tryd.f7).snd.snd.snd.snd.snd.snd.snd.snd.snd.snd.snd)
noncomputable def S7_4_e := (⟨by simp only [S7_4, code, Tryd.f7, Option.getD_some, Code.fst, Code.snd, Code.bin, Code.lin, Code.sin, Code.yes, Code.no]; exact rfl⟩ : PLift (S7_4 = _))
theorem C7_wp {ts : List AVal} {st : ASt} {Q : APost} (h : Wp E 7 S7_0 ts st (Nx (fun ts st => Wp E 7 (.block 0 (.loop L7_0)) ts st (Nx (fun ts st => Wp E 7 S7_2 ts st (Nx (fun ts st => Wp E 7 (.block 2 (.loop L7_1)) ts st (Nx (fun ts st => Wp E 7 S7_4 ts st Q) Q)) Q)) Q)) Q)) : Wp E 7 C7 ts st Q := by
  have e : ∀ n ts st, aexec E 7 (rw E) (drawB E 7) n C7 ts st = aexec E 7 (rw E) (drawB E 7) n (.seq S7_0 (.seq (.block 0 (.loop L7_0)) (.seq S7_2 (.seq (.block 2 (.loop L7_1)) (S7_4))))) ts st := by
    intro n ts st
    have e1 : C7 = (.seq (code Tryd.f7).fst (.seq (.seq (code Tryd.f7).snd.fst.fst (code Tryd.f7).snd.fst.snd) (.seq (.seq (code Tryd.f7).snd.snd.fst.fst (code Tryd.f7).snd.snd.fst.snd) (.seq (code Tryd.f7).snd.snd.snd.fst (.seq (.seq (code Tryd.f7).snd.snd.snd.snd.fst.fst (code Tryd.f7).snd.snd.snd.snd.fst.snd) (.seq (code Tryd.f7).snd.snd.snd.snd.snd.fst (.seq (.seq (code Tryd.f7).snd.snd.snd.snd.snd.snd.fst.fst (.block 0 (.loop L7_0))) (.seq (code Tryd.f7).snd.snd.snd.snd.snd.snd.snd.fst (.seq (.seq (code Tryd.f7).snd.snd.snd.snd.snd.snd.snd.snd.fst.fst (code Tryd.f7).snd.snd.snd.snd.snd.snd.snd.snd.fst.snd) (.seq (.seq (code Tryd.f7).snd.snd.snd.snd.snd.snd.snd.snd.snd.fst.fst (.block 2 (.loop L7_1))) (.seq (code Tryd.f7).snd.snd.snd.snd.snd.snd.snd.snd.snd.snd.fst (code Tryd.f7).snd.snd.snd.snd.snd.snd.snd.snd.snd.snd.snd))))))))))) := rfl
    rw [e1] <;>
    simp only [S7_0, S7_2, S7_4, aexec_seq, aseq_assoc]
  refine aw_congr e ?_
  have h0 := h
  exact aw_seq (h0.mono fun e ts st hq => by cases e <;> first | exact hq | (have h1 := hq; exact aw_seq (h1.mono fun e ts st hq => by cases e <;> first | exact hq | (have h2 := hq; exact aw_seq (h2.mono fun e ts st hq => by cases e <;> first | exact hq | (have h3 := hq; exact aw_seq h3))))))
theorem ce_7 {x0 : AVal} {st : ASt} {r : AEnd × ASt} (h : ∀ g : Nat → AVal, g 0 = x0 → Wp E 7 C7 (Sl 96 g) st (fun e ts st => aend E Tryd.f7 (some (e, ts, st)) = some r)) : rw E 7 [x0] st = some r :=
  ce_of (fn := Tryd.f7) (c := C7) rfl rfl rfl (Nat.le_of_ble_eq_true rfl) fun g hg => h g (hg 0 x0 rfl)
theorem cx_7 {x0 : AVal} {st : ASt} {R : AEnd → ASt → Prop} (h : ∀ g : Nat → AVal, g 0 = x0 → Wp E 7 C7 (Sl 96 g) st (fun e ts st => ∃ r st', aend E Tryd.f7 (some (e, ts, st)) = some (r, st') ∧ R r st')) : ∃ r st', rw E 7 [x0] st = some (r, st') ∧ R r st' :=
  cx_of (fn := Tryd.f7) (c := C7) rfl rfl rfl (Nat.le_of_ble_eq_true rfl) fun g hg => h g (hg 0 x0 rfl)
theorem o_fap_52_2 (s o : Nat) : fieldA E.P 52 (.ptr s o) 2 = some (.ptr s (o + 2)) := rfl
theorem o_fai_52_2 (cs : List AVal) : fieldA E.P 52 (.iptr (.agg cs)) 2 = (cs[2]?).map .iptr := rfl
theorem o_ldp_38 (st : ASt) (s o : Nat) : loadA E.P 38 st (.ptr s o) = (blkOf (st.heap s)).bind (fun cs => cs[o]?) := ld_one rfl rfl st s o
theorem o_ldi_38 (st : ASt) (v : AVal) : loadA E.P 38 st (.iptr v) = if v.isCell = true then some v else none := rfl

/-! ### braidwork/braidworklaw03.LexNotes -/
noncomputable def C11 : Code := (code Tryd.f11)
noncomputable def S11_0 : Code := .seq ((code Tryd.f11).fst) (.seq ((code Tryd.f11).snd.fst.fst) (.seq ((code Tryd.f11).snd.fst.snd) (.seq ((code Tryd.f11).snd.snd.fst.fst) (.seq ((code Tryd.f11).snd.snd.fst.snd) (.seq ((code Tryd.f11).snd.snd.snd.fst) (.seq ((code Tryd.f11).snd.snd.snd.snd.fst) (.seq ((code Tryd.f11).snd.snd.snd.snd.snd.fst.fst) (.seq ((code Tryd.f11).snd.snd.snd.snd.snd.fst.snd) ((code Tryd.f11).snd.snd.snd.snd.snd.snd.fst.fst)))))))))
noncomputable def S11_0_e := (⟨by simp only [S11_0, code, Tryd.f11, Option.getD_some, Code.fst, Code.snd, Code.bin, Code.lin, Code.sin, Code.yes, Code.no]; exact rfl⟩ : PLift (S11_0 = _))
noncomputable def L11_0 : Code := (code Tryd.f11).snd.snd.snd.snd.snd.snd.fst.snd.bin.lin
noncomputable def rg11_12 : Code := (code Tryd.f11).snd.snd.snd.snd.snd.snd.fst.snd.bin.lin.snd.snd.fst.bin.snd.fst
noncomputable def rq11_12 : Code := (code Tryd.f11).snd.snd.snd.snd.snd.snd.fst.snd.bin.lin.snd.snd.fst.bin.snd.fst
theorem ex11_12 (call : ACall) (n : Nat) (ts : List AVal) (st : ASt) : aexec E 11 call (drawB E 11) n rg11_12 ts st = aops E 11 call rq11_12.ops rq11_12.ops.toList ts st := by
  have d : drawB E 11 rq11_12.ops = true := by kernel_rfl
  have e : rg11_12 = .region 12 rq11_12.ops true := rfl
  rw [e, aexec, d]; rfl
noncomputable def rq11_12_e := (⟨by simp only [rq11_12, code, Tryd.f11, Option.getD_some, Code.fst, Code.snd, Code.bin, Code.lin, Code.sin, Code.yes, Code.no, Code.ops]; exact rfl⟩ : PLift (rq11_12.ops = _))
noncomputable def S11_1 : Code := .seq ((code Tryd.f11).snd.snd.snd.snd.snd.snd.fst.snd.bin.lin.fst) (.seq ((code Tryd.f11).snd.snd.snd.snd.snd.snd.fst.snd.bin.lin.snd.fst) (.seq (.block 1 (.seq (code Tryd.f11).snd.snd.snd.snd.snd.snd.fst.snd.bin.lin.snd.snd.fst.bin.fst (.seq rg11_12 (code Tryd.f11).snd.snd.snd.snd.snd.snd.fst.snd.bin.lin.snd.snd.fst.bin.snd.snd))) ((code Tryd.f11).snd.snd.snd.snd.snd.snd.fst.snd.bin.lin.snd.snd.snd)))
noncomputable def S11_1_e := (⟨by simp only [S11_1, code, Tryd.f11, Option.getD_some, Code.fst, Code.snd, Code.bin, Code.lin, Code.sin, Code.yes, Code.no]; exact rfl⟩ : PLift (S11_1 = _))
theorem L11_0_wp {ts : List AVal} {st : ASt} {Q : APost} (h : Wp E 11 S11_1 ts st Q) : Wp E 11 L11_0 ts st Q := by
  have e : ∀ n ts st, aexec E 11 (rw E) (drawB E 11) n L11_0 ts st = aexec E 11 (rw E) (drawB E 11) n (S11_1) ts st := by
    intro n ts st
    have e1 : L11_0 = (.seq (code Tryd.f11).snd.snd.snd.snd.snd.snd.fst.snd.bin.lin.fst (.seq (code Tryd.f11).snd.snd.snd.snd.snd.snd.fst.snd.bin.lin.snd.fst (.seq (.block 1 (.seq (code Tryd.f11).snd.snd.snd.snd.snd.snd.fst.snd.bin.lin.snd.snd.fst.bin.fst (.seq rg11_12 (code Tryd.f11).snd.snd.snd.snd.snd.snd.fst.snd.bin.lin.snd.snd.fst.bin.snd.snd))) (code Tryd.f11).snd.snd.snd.snd.snd.snd.fst.snd.bin.lin.snd.snd.snd))) := rfl
    rw [e1] <;>
    simp only [S11_1, aexec_seq, aseq_assoc]
  refine aw_congr e ?_
  exact h
noncomputable def S11_2 : Code := .seq ((code Tryd.f11).snd.snd.snd.snd.snd.snd.snd.fst) ((code Tryd.f11).snd.snd.snd.snd.snd.snd.snd.snd)
noncomputable def S11_2_e := (⟨by simp only [S11_2, code, Tryd.f11, Option.getD_some, Code.fst, Code.snd, Code.bin, Code.lin, Code.sin, Code.yes, Code.no]; exact rfl⟩ : PLift (S11_2 = _))
theorem C11_wp {ts : List AVal} {st : ASt} {Q : APost} (h : Wp E 11 S11_0 ts st (Nx (fun ts st => Wp E 11 (.block 0 (.loop L11_0)) ts st (Nx (fun ts st => Wp E 11 S11_2 ts st Q) Q)) Q)) : Wp E 11 C11 ts st Q := by
  have e : ∀ n ts st, aexec E 11 (rw E) (drawB E 11) n C11 ts st = aexec E 11 (rw E) (drawB E 11) n (.seq S11_0 (.seq (.block 0 (.loop L11_0)) (S11_2))) ts st := by
    intro n ts st
    have e1 : C11 = (.seq (code Tryd.f11).fst (.seq (.seq (code Tryd.f11).snd.fst.fst (code Tryd.f11).snd.fst.snd) (.seq (.seq (code Tryd.f11).snd.snd.fst.fst (code Tryd.f11).snd.snd.fst.snd) (.seq (code Tryd.f11).snd.snd.snd.fst (.seq (code Tryd.f11).snd.snd.snd.snd.fst (.seq (.seq (code Tryd.f11).snd.snd.snd.snd.snd.fst.fst (code Tryd.f11).snd.snd.snd.snd.snd.fst.snd) (.seq (.seq (code Tryd.f11).snd.snd.snd.snd.snd.snd.fst.fst (.block 0 (.loop L11_0))) (.seq (code Tryd.f11).snd.snd.snd.snd.snd.snd.snd.fst (code Tryd.f11).snd.snd.snd.snd.snd.snd.snd.snd)))))))) := rfl
    rw [e1] <;>
    simp only [S11_0, S11_2, aexec_seq, aseq_assoc]
  refine aw_congr e ?_
  have h0 := h
  exact aw_seq (h0.mono fun e ts st hq => by cases e <;> first | exact hq | (have h1 := hq; exact aw_seq h1))
theorem ce_11 {x0 x1 x2 : AVal} {st : ASt} {r : AEnd × ASt} (h : ∀ g : Nat → AVal, g 0 = x0 → g 1 = x1 → g 2 = x2 → Wp E 11 C11 (Sl 113 g) st (fun e ts st => aend E Tryd.f11 (some (e, ts, st)) = some r)) : rw E 11 [x0, x1, x2] st = some r :=
  ce_of (fn := Tryd.f11) (c := C11) rfl rfl rfl (Nat.le_of_ble_eq_true rfl) fun g hg => h g (hg 0 x0 rfl) (hg 1 x1 rfl) (hg 2 x2 rfl)
theorem cx_11 {x0 x1 x2 : AVal} {st : ASt} {R : AEnd → ASt → Prop} (h : ∀ g : Nat → AVal, g 0 = x0 → g 1 = x1 → g 2 = x2 → Wp E 11 C11 (Sl 113 g) st (fun e ts st => ∃ r st', aend E Tryd.f11 (some (e, ts, st)) = some (r, st') ∧ R r st')) : ∃ r st', rw E 11 [x0, x1, x2] st = some (r, st') ∧ R r st' :=
  cx_of (fn := Tryd.f11) (c := C11) rfl rfl rfl (Nat.le_of_ble_eq_true rfl) fun g hg => h g (hg 0 x0 rfl) (hg 1 x1 rfl) (hg 2 x2 rfl)
theorem cf_29 (a : List AVal) (st : ASt) : callFuncA E.P 29 a st = some (.enter 29 a st) := rfl

/-! ### braidwork/braidworklaw03.LexSplits -/
noncomputable def C10 : Code := (code Tryd.f10)
noncomputable def S10_0 : Code := .seq ((code Tryd.f10).fst) (.seq ((code Tryd.f10).snd.fst.fst) (.seq ((code Tryd.f10).snd.fst.snd) (.seq ((code Tryd.f10).snd.snd.fst.fst) (.seq ((code Tryd.f10).snd.snd.fst.snd) (.seq ((code Tryd.f10).snd.snd.snd.fst) (.seq ((code Tryd.f10).snd.snd.snd.snd.fst) (.seq ((code Tryd.f10).snd.snd.snd.snd.snd.fst) ((code Tryd.f10).snd.snd.snd.snd.snd.snd))))))))
noncomputable def S10_0_e := (⟨by simp only [S10_0, code, Tryd.f10, Option.getD_some, Code.fst, Code.snd, Code.bin, Code.lin, Code.sin, Code.yes, Code.no]; exact rfl⟩ : PLift (S10_0 = _))
theorem C10_wp {ts : List AVal} {st : ASt} {Q : APost} (h : Wp E 10 S10_0 ts st Q) : Wp E 10 C10 ts st Q := by
  have e : ∀ n ts st, aexec E 10 (rw E) (drawB E 10) n C10 ts st = aexec E 10 (rw E) (drawB E 10) n (S10_0) ts st := by
    intro n ts st
    have e1 : C10 = (.seq (code Tryd.f10).fst (.seq (.seq (code Tryd.f10).snd.fst.fst (code Tryd.f10).snd.fst.snd) (.seq (.seq (code Tryd.f10).snd.snd.fst.fst (code Tryd.f10).snd.snd.fst.snd) (.seq (code Tryd.f10).snd.snd.snd.fst (.seq (code Tryd.f10).snd.snd.snd.snd.fst (.seq (code Tryd.f10).snd.snd.snd.snd.snd.fst (code Tryd.f10).snd.snd.snd.snd.snd.snd)))))) := rfl
    rw [e1] <;>
    simp only [S10_0, aexec_seq, aseq_assoc]
  refine aw_congr e ?_
  exact h
theorem ce_10 {x0 : AVal} {st : ASt} {r : AEnd × ASt} (h : ∀ g : Nat → AVal, g 0 = x0 → Wp E 10 C10 (Sl 39 g) st (fun e ts st => aend E Tryd.f10 (some (e, ts, st)) = some r)) : rw E 10 [x0] st = some r :=
  ce_of (fn := Tryd.f10) (c := C10) rfl rfl rfl (Nat.le_of_ble_eq_true rfl) fun g hg => h g (hg 0 x0 rfl)
theorem cx_10 {x0 : AVal} {st : ASt} {R : AEnd → ASt → Prop} (h : ∀ g : Nat → AVal, g 0 = x0 → Wp E 10 C10 (Sl 39 g) st (fun e ts st => ∃ r st', aend E Tryd.f10 (some (e, ts, st)) = some (r, st') ∧ R r st')) : ∃ r st', rw E 10 [x0] st = some (r, st') ∧ R r st' :=
  cx_of (fn := Tryd.f10) (c := C10) rfl rfl rfl (Nat.le_of_ble_eq_true rfl) fun g hg => h g (hg 0 x0 rfl)
theorem cf_27 (a : List AVal) (st : ASt) : callFuncA E.P 27 a st = some (.enter 27 a st) := rfl
theorem cf_28 (a : List AVal) (st : ASt) : callFuncA E.P 28 a st = some (.enter 28 a st) := rfl

/-! ### braidwork/braidworklaw03.LexLong -/
noncomputable def C8 : Code := (code Tryd.f8)
noncomputable def S8_0 : Code := .seq ((code Tryd.f8).fst) (.seq ((code Tryd.f8).snd.fst.fst) (.seq ((code Tryd.f8).snd.fst.snd) (.seq ((code Tryd.f8).snd.snd.fst) ((code Tryd.f8).snd.snd.snd.fst.fst))))
noncomputable def S8_0_e := (⟨by simp only [S8_0, code, Tryd.f8, Option.getD_some, Code.fst, Code.snd, Code.bin, Code.lin, Code.sin, Code.yes, Code.no]; exact rfl⟩ : PLift (S8_0 = _))
noncomputable def L8_0 : Code := (code Tryd.f8).snd.snd.snd.fst.snd.bin.lin
noncomputable def S8_1 : Code := .seq ((code Tryd.f8).snd.snd.snd.fst.snd.bin.lin.fst) (.seq ((code Tryd.f8).snd.snd.snd.fst.snd.bin.lin.snd.fst) (.seq ((code Tryd.f8).snd.snd.snd.fst.snd.bin.lin.snd.snd.fst) ((code Tryd.f8).snd.snd.snd.fst.snd.bin.lin.snd.snd.snd)))
noncomputable def S8_1_e := (⟨by simp only [S8_1, code, Tryd.f8, Option.getD_some, Code.fst, Code.snd, Code.bin, Code.lin, Code.sin, Code.yes, Code.no]; exact rfl⟩ : PLift (S8_1 = _))
theorem L8_0_wp {ts : List AVal} {st : ASt} {Q : APost} (h : Wp E 8 S8_1 ts st Q) : Wp E 8 L8_0 ts st Q := by
  have e : ∀ n ts st, aexec E 8 (rw E) (drawB E 8) n L8_0 ts st = aexec E 8 (rw E) (drawB E 8) n (S8_1) ts st := by
    intro n ts st
    have e1 : L8_0 = (.seq (code Tryd.f8).snd.snd.snd.fst.snd.bin.lin.fst (.seq (code Tryd.f8).snd.snd.snd.fst.snd.bin.lin.snd.fst (.seq (code Tryd.f8).snd.snd.snd.fst.snd.bin.lin.snd.snd.fst (code Tryd.f8).snd.snd.snd.fst.snd.bin.lin.snd.snd.snd))) := rfl
    rw [e1] <;>
    simp only [S8_1, aexec_seq, aseq_assoc]
  refine aw_congr e ?_
  exact h
noncomputable def S8_2 : Code := .seq ((code Tryd.f8).snd.snd.snd.snd.fst) (.seq ((code Tryd.f8).snd.snd.snd.snd.snd.fst.fst) (.seq ((code Tryd.f8).snd.snd.snd.snd.snd.fst.snd) (.seq ((code Tryd.f8).snd.snd.snd.snd.snd.snd.fst) ((code Tryd.f8).snd.snd.snd.snd.snd.snd.snd))))
noncomputable def S8_2_e := (⟨by simp only [S8_2, code, Tryd.f8, Option.getD_some, Code.fst, Code.snd, Code.bin, Code.lin, Code.sin, Code.yes, Code.no]; exact rfl⟩ : PLift (S8_2 = _))
theorem C8_wp {ts : List AVal} {st : ASt} {Q : APost} (h : Wp E 8 S8_0 ts st (Nx (fun ts st => Wp E 8 (.block 0 (.loop L8_0)) ts st (Nx (fun ts st => Wp E 8 S8_2 ts st Q) Q)) Q)) : Wp E 8 C8 ts st Q := by
  have e : ∀ n ts st, aexec E 8 (rw E) (drawB E 8) n C8 ts st = aexec E 8 (rw E) (drawB E 8) n (.seq S8_0 (.seq (.block 0 (.loop L8_0)) (S8_2))) ts st := by
    intro n ts st
    have e1 : C8 = (.seq (code Tryd.f8).fst (.seq (.seq (code Tryd.f8).snd.fst.fst (code Tryd.f8).snd.fst.snd) (.seq (code Tryd.f8).snd.snd.fst (.seq (.seq (code Tryd.f8).snd.snd.snd.fst.fst (.block 0 (.loop L8_0))) (.seq (code Tryd.f8).snd.snd.snd.snd.fst (.seq (.seq (code Tryd.f8).snd.snd.snd.snd.snd.fst.fst (code Tryd.f8).snd.snd.snd.snd.snd.fst.snd) (.seq (code Tryd.f8).snd.snd.snd.snd.snd.snd.fst (code Tryd.f8).snd.snd.snd.snd.snd.snd.snd))))))) := rfl
    rw [e1] <;>
    simp only [S8_0, S8_2, aexec_seq, aseq_assoc]
  refine aw_congr e ?_
  have h0 := h
  exact aw_seq (h0.mono fun e ts st hq => by cases e <;> first | exact hq | (have h1 := hq; exact aw_seq h1))
theorem ce_8 {x0 : AVal} {st : ASt} {r : AEnd × ASt} (h : ∀ g : Nat → AVal, g 0 = x0 → Wp E 8 C8 (Sl 61 g) st (fun e ts st => aend E Tryd.f8 (some (e, ts, st)) = some r)) : rw E 8 [x0] st = some r :=
  ce_of (fn := Tryd.f8) (c := C8) rfl rfl rfl (Nat.le_of_ble_eq_true rfl) fun g hg => h g (hg 0 x0 rfl)
theorem cx_8 {x0 : AVal} {st : ASt} {R : AEnd → ASt → Prop} (h : ∀ g : Nat → AVal, g 0 = x0 → Wp E 8 C8 (Sl 61 g) st (fun e ts st => ∃ r st', aend E Tryd.f8 (some (e, ts, st)) = some (r, st') ∧ R r st')) : ∃ r st', rw E 8 [x0] st = some (r, st') ∧ R r st' :=
  cx_of (fn := Tryd.f8) (c := C8) rfl rfl rfl (Nat.le_of_ble_eq_true rfl) fun g hg => h g (hg 0 x0 rfl)
theorem o_cv_5_3 (mt : Bool) (n : Int) (st : ASt) : convA E.P mt 5 3 (.lit (.int .u8 n)) st = some (.lit (.int .i64 (IntKind.i64.wrap n)), st) := c_int rfl rfl
theorem o_leni_55 (mt : Bool) (ty : TypeId) (cs : Array Bool) (sz : Nat) (es : List AVal) (c : Cap) (st : ASt) : builtinA E.P mt .len #[55] ty cs [.islice sz es c] st = some (.val (.lit (.int .i64 es.length)) st) := rfl
theorem o_lens_55 (mt : Bool) (ty : TypeId) (cs : Array Bool) (s o l sz : Nat) (c : Option Nat) (st : ASt) : builtinA E.P mt .len #[55] ty cs [.slice s o l sz c] st = some (.val (.lit (.int .i64 l)) st) := rfl
theorem o_lenn_55 (mt : Bool) (ty : TypeId) (cs : Array Bool) (a : Option Addr) (st : ASt) : builtinA E.P mt .len #[55] ty cs [.lit (.slice a 0 0)] st = some (.val (.lit (.int .i64 0)) st) := len_nil rfl _ _ _ _ _
theorem o_ixi_55 (sz : Nat) (es : List AVal) (c : Cap) (k : IntKind) (i : Int) : indexA E.P 55 (.islice sz es c) (.lit (.int k i)) = if 0 ≤ i ∧ i < es.length ∧ some 1 = some sz then (es[i.toNat]?).map .iptr else none := rfl
theorem o_ixs_55 (s o l sz : Nat) (c : Option Nat) (k : IntKind) (i : Int) : indexA E.P 55 (.slice s o l sz c) (.lit (.int k i)) = if 0 ≤ i ∧ i < l then some (.ptr s (o + i.toNat * 1)) else none := rfl
theorem o_st_5 (st : ASt) (s o : Nat) (v : AVal) : storeA E.P 5 st (.ptr s o) v = if v.isCell = true then (blkOf (st.heap s)).bind (fun cs => if o + 1 ≤ cs.length then some (st.set s (some (.cells (cs.set o v)))) else none) else storeU E.P 5 st (.ptr s o) v := st_one rfl st s o v
theorem hint_8_26 : E.hint 8 26 = false := rfl

/-! ### braidwork/braidworklaw03.Split -/
noncomputable def C27 : Code := (code Tryd.f27)
noncomputable def S27_0 : Code := .seq ((code Tryd.f27).fst) (.seq ((code Tryd.f27).snd.fst) ((code Tryd.f27).snd.snd.fst.fst))
noncomputable def S27_0_e := (⟨by simp only [S27_0, code, Tryd.f27, Option.getD_some, Code.fst, Code.snd, Code.bin, Code.lin, Code.sin, Code.yes, Code.no]; exact rfl⟩ : PLift (S27_0 = _))
noncomputable def L27_0 : Code := (code Tryd.f27).snd.snd.fst.snd.bin.lin
noncomputable def S27_1 : Code := .seq ((code Tryd.f27).snd.snd.fst.snd.bin.lin.fst.fst) (.seq ((code Tryd.f27).snd.snd.fst.snd.bin.lin.fst.snd) ((code Tryd.f27).snd.snd.fst.snd.bin.lin.snd))
noncomputable def S27_1_e := (⟨by simp only [S27_1, code, Tryd.f27, Option.getD_some, Code.fst, Code.snd, Code.bin, Code.lin, Code.sin, Code.yes, Code.no]; exact rfl⟩ : PLift (S27_1 = _))
theorem L27_0_wp {ts : List AVal} {st : ASt} {Q : APost} (h : Wp E 27 S27_1 ts st Q) : Wp E 27 L27_0 ts st Q := by
  have e : ∀ n ts st, aexec E 27 (rw E) (drawB E 27) n L27_0 ts st = aexec E 27 (rw E) (drawB E 27) n (S27_1) ts st := by
    intro n ts st
    have e1 : L27_0 = (.seq (.seq (code Tryd.f27).snd.snd.fst.snd.bin.lin.fst.fst (code Tryd.f27).snd.snd.fst.snd.bin.lin.fst.snd) (code Tryd.f27).snd.snd.fst.snd.bin.lin.snd) := rfl
    rw [e1] <;>
    simp only [S27_1, aexec_seq, aseq_assoc]
  refine aw_congr e ?_
  exact h
noncomputable def S27_2 : Code := .seq ((code Tryd.f27).snd.snd.snd.fst) ((code Tryd.f27).snd.snd.snd.snd)
noncomputable def S27_2_e := (⟨by simp only [S27_2, code, Tryd.f27, Option.getD_some, Code.fst, Code.snd, Code.bin, Code.lin, Code.sin, Code.yes, Code.no]; exact rfl⟩ : PLift (S27_2 = _))
theorem C27_wp {ts : List AVal} {st : ASt} {Q : APost} (h : Wp E 27 S27_0 ts st (Nx (fun ts st => Wp E 27 (.block 0 (.loop L27_0)) ts st (Nx (fun ts st => Wp E 27 S27_2 ts st Q) Q)) Q)) : Wp E 27 C27 ts st Q := by
  have e : ∀ n ts st, aexec E 27 (rw E) (drawB E 27) n C27 ts st = aexec E 27 (rw E) (drawB E 27) n (.seq S27_0 (.seq (.block 0 (.loop L27_0)) (S27_2))) ts st := by
    intro n ts st
    have e1 : C27 = (.seq (code Tryd.f27).fst (.seq (code Tryd.f27).snd.fst (.seq (.seq (code Tryd.f27).snd.snd.fst.fst (.block 0 (.loop L27_0))) (.seq (code Tryd.f27).snd.snd.snd.fst (code Tryd.f27).snd.snd.snd.snd)))) := rfl
    rw [e1] <;>
    simp only [S27_0, S27_2, aexec_seq, aseq_assoc]
  refine aw_congr e ?_
  have h0 := h
  exact aw_seq (h0.mono fun e ts st hq => by cases e <;> first | exact hq | (have h1 := hq; exact aw_seq h1))
theorem ce_27 {x0 : AVal} {st : ASt} {r : AEnd × ASt} (h : ∀ g : Nat → AVal, g 0 = x0 → Wp E 27 C27 (Sl 86 g) st (fun e ts st => aend E Tryd.f27 (some (e, ts, st)) = some r)) : rw E 27 [x0] st = some r :=
  ce_of (fn := Tryd.f27) (c := C27) rfl rfl rfl (Nat.le_of_ble_eq_true rfl) fun g hg => h g (hg 0 x0 rfl)
theorem cx_27 {x0 : AVal} {st : ASt} {R : AEnd → ASt → Prop} (h : ∀ g : Nat → AVal, g 0 = x0 → Wp E 27 C27 (Sl 86 g) st (fun e ts st => ∃ r st', aend E Tryd.f27 (some (e, ts, st)) = some (r, st') ∧ R r st')) : ∃ r st', rw E 27 [x0] st = some (r, st') ∧ R r st' :=
  cx_of (fn := Tryd.f27) (c := C27) rfl rfl rfl (Nat.le_of_ble_eq_true rfl) fun g hg => h g (hg 0 x0 rfl)
theorem cf_53 (a : List AVal) (st : ASt) : callFuncA E.P 53 a st = some (.enter 53 a st) := rfl
theorem cf_54 (a : List AVal) (st : ASt) : callFuncA E.P 54 a st = some (.enter 54 a st) := rfl
theorem hint_27_75 : E.hint 27 75 = false := rfl
theorem hint_27_76 : E.hint 27 76 = false := rfl
theorem hint_27_84 : E.hint 27 84 = false := rfl
theorem hint_27_85 : E.hint 27 85 = false := rfl

/-! ### braidwork/braidworklaw03.Token -/
noncomputable def C54 : Code := (code Tryd.f54)
noncomputable def S54_0 : Code := .seq ((code Tryd.f54).fst) (.seq ((code Tryd.f54).snd.fst.fst) (.seq ((code Tryd.f54).snd.fst.snd) (.seq ((code Tryd.f54).snd.snd.fst.fst) ((code Tryd.f54).snd.snd.fst.snd.fst))))
noncomputable def S54_0_e := (⟨by simp only [S54_0, code, Tryd.f54, Option.getD_some, Code.fst, Code.snd, Code.bin, Code.lin, Code.sin, Code.yes, Code.no]; exact rfl⟩ : PLift (S54_0 = _))
noncomputable def Y54_0 : Code := (code Tryd.f54).snd.snd.fst.snd.snd.yes
noncomputable def S54_1 : Code := .seq ((code Tryd.f54).snd.snd.fst.snd.snd.yes.fst) (.seq ((code Tryd.f54).snd.snd.fst.snd.snd.yes.snd.fst.fst) (.seq ((code Tryd.f54).snd.snd.fst.snd.snd.yes.snd.fst.snd) (.seq ((code Tryd.f54).snd.snd.fst.snd.snd.yes.snd.snd.fst.fst) (.seq ((code Tryd.f54).snd.snd.fst.snd.snd.yes.snd.snd.fst.snd) (.seq ((code Tryd.f54).snd.snd.fst.snd.snd.yes.snd.snd.snd.fst.fst) (.seq ((code Tryd.f54).snd.snd.fst.snd.snd.yes.snd.snd.snd.fst.snd) (.seq ((code Tryd.f54).snd.snd.fst.snd.snd.yes.snd.snd.snd.snd.fst) ((code Tryd.f54).snd.snd.fst.snd.snd.yes.snd.snd.snd.snd.snd.fst.fst))))))))
noncomputable def S54_1_e := (⟨by simp only [S54_1, code, Tryd.f54, Option.getD_some, Code.fst, Code.snd, Code.bin, Code.lin, Code.sin, Code.yes, Code.no]; exact rfl⟩ : PLift (S54_1 = _))
noncomputable def L54_1 : Code := (code Tryd.f54).snd.snd.fst.snd.snd.yes.snd.snd.snd.snd.snd.fst.snd.bin.lin
noncomputable def S54_2 : Code := .seq ((code Tryd.f54).snd.snd.fst.snd.snd.yes.snd.snd.snd.snd.snd.fst.snd.bin.lin.fst) (.seq ((code Tryd.f54).snd.snd.fst.snd.snd.yes.snd.snd.snd.snd.snd.fst.snd.bin.lin.snd.fst) (.seq ((code Tryd.f54).snd.snd.fst.snd.snd.yes.snd.snd.snd.snd.snd.fst.snd.bin.lin.snd.snd.fst) ((code Tryd.f54).snd.snd.fst.snd.snd.yes.snd.snd.snd.snd.snd.fst.snd.bin.lin.snd.snd.snd)))
noncomputable def S54_2_e := (⟨by simp only [S54_2, code, Tryd.f54, Option.getD_some, Code.fst, Code.snd, Code.bin, Code.lin, Code.sin, Code.yes, Code.no]; exact rfl⟩ : PLift (S54_2 = _))
theorem L54_1_wp {ts : List AVal} {st : ASt} {Q : APost} (h : Wp E 54 S54_2 ts st Q) : Wp E 54 L54_1 ts st Q := by
  have e : ∀ n ts st, aexec E 54 (rw E) (drawB E 54) n L54_1 ts st = aexec E 54 (rw E) (drawB E 54) n (S54_2) ts st := by
    intro n ts st
    have e1 : L54_1 = (.seq (code Tryd.f54).snd.snd.fst.snd.snd.yes.snd.snd.snd.snd.snd.fst.snd.bin.lin.fst (.seq (code Tryd.f54).snd.snd.fst.snd.snd.yes.snd.snd.snd.snd.snd.fst.snd.bin.lin.snd.fst (.seq (code Tryd.f54).snd.snd.fst.snd.snd.yes.snd.snd.snd.snd.snd.fst.snd.bin.lin.snd.snd.fst (code Tryd.f54).snd.snd.fst.snd.snd.yes.snd.snd.snd.snd.snd.fst.snd.bin.lin.snd.snd.snd))) := rfl
    rw [e1] <;>
    simp only [S54_2, aexec_seq, aseq_assoc]
  refine aw_congr e ?_
  exact h
noncomputable def S54_3 : Code := .seq ((code Tryd.f54).snd.snd.fst.snd.snd.yes.snd.snd.snd.snd.snd.snd.fst.fst) (.seq ((code Tryd.f54).snd.snd.fst.snd.snd.yes.snd.snd.snd.snd.snd.snd.fst.snd) (.seq ((code Tryd.f54).snd.snd.fst.snd.snd.yes.snd.snd.snd.snd.snd.snd.snd.fst.fst) (.seq ((code Tryd.f54).snd.snd.fst.snd.snd.yes.snd.snd.snd.snd.snd.snd.snd.fst.snd) (.seq ((code Tryd.f54).snd.snd.fst.snd.snd.yes.snd.snd.snd.snd.snd.snd.snd.snd.fst) ((code Tryd.f54).snd.snd.fst.snd.snd.yes.snd.snd.snd.snd.snd.snd.snd.snd.snd)))))
noncomputable def S54_3_e := (⟨by simp only [S54_3, code, Tryd.f54, Option.getD_some, Code.fst, Code.snd, Code.bin, Code.lin, Code.sin, Code.yes, Code.no]; exact rfl⟩ : PLift (S54_3 = _))
theorem Y54_0_wp {ts : List AVal} {st : ASt} {Q : APost} (h : Wp E 54 S54_1 ts st (Nx (fun ts st => Wp E 54 (.block 0 (.loop L54_1)) ts st (Nx (fun ts st => Wp E 54 S54_3 ts st Q) Q)) Q)) : Wp E 54 Y54_0 ts st Q := by
  have e : ∀ n ts st, aexec E 54 (rw E) (drawB E 54) n Y54_0 ts st = aexec E 54 (rw E) (drawB E 54) n (.seq S54_1 (.seq (.block 0 (.loop L54_1)) (S54_3))) ts st := by
    intro n ts st
    have e1 : Y54_0 = (.seq (code Tryd.f54).snd.snd.fst.snd.snd.yes.fst (.seq (.seq (code Tryd.f54).snd.snd.fst.snd.snd.yes.snd.fst.fst (code Tryd.f54).snd.snd.fst.snd.snd.yes.snd.fst.snd) (.seq (.seq (code Tryd.f54).snd.snd.fst.snd.snd.yes.snd.snd.fst.fst (code Tryd.f54).snd.snd.fst.snd.snd.yes.snd.snd.fst.snd) (.seq (.seq (code Tryd.f54).snd.snd.fst.snd.snd.yes.snd.snd.snd.fst.fst (code Tryd.f54).snd.snd.fst.snd.snd.yes.snd.snd.snd.fst.snd) (.seq (code Tryd.f54).snd.snd.fst.snd.snd.yes.snd.snd.snd.snd.fst (.seq (.seq (code Tryd.f54).snd.snd.fst.snd.snd.yes.snd.snd.snd.snd.snd.fst.fst (.block 0 (.loop L54_1))) (.seq (.seq (code Tryd.f54).snd.snd.fst.snd.snd.yes.snd.snd.snd.snd.snd.snd.fst.fst (code Tryd.f54).snd.snd.fst.snd.snd.yes.snd.snd.snd.snd.snd.snd.fst.snd) (.seq (.seq (code Tryd.f54).snd.snd.fst.snd.snd.yes.snd.snd.snd.snd.snd.snd.snd.fst.fst (code Tryd.f54).snd.snd.fst.snd.snd.yes.snd.snd.snd.snd.snd.snd.snd.fst.snd) (.seq (code Tryd.f54).snd.snd.fst.snd.snd.yes.snd.snd.snd.snd.snd.snd.snd.snd.fst (code Tryd.f54).snd.snd.fst.snd.snd.yes.snd.snd.snd.snd.snd.snd.snd.snd.snd))))))))) := rfl
    rw [e1] <;>
    simp only [S54_1, S54_3, aexec_seq, aseq_assoc]
  refine aw_congr e ?_
  have h0 := h
  exact aw_seq (h0.mono fun e ts st hq => by cases e <;> first | exact hq | (have h1 := hq; exact aw_seq h1))
noncomputable def N54_0 : Code := (code Tryd.f54).snd.snd.fst.snd.snd.no
noncomputable def S54_4 : Code := (code Tryd.f54).snd.snd.fst.snd.snd.no
noncomputable def S54_4_e := (⟨by simp only [S54_4, code, Tryd.f54, Option.getD_some, Code.fst, Code.snd, Code.bin, Code.lin, Code.sin, Code.yes, Code.no]; exact rfl⟩ : PLift (S54_4 = _))
theorem N54_0_wp {ts : List AVal} {st : ASt} {Q : APost} (h : Wp E 54 S54_4 ts st Q) : Wp E 54 N54_0 ts st Q := by
  have e : ∀ n ts st, aexec E 54 (rw E) (drawB E 54) n N54_0 ts st = aexec E 54 (rw E) (drawB E 54) n (S54_4) ts st := by
    intro n ts st
    have e1 : N54_0 = (code Tryd.f54).snd.snd.fst.snd.snd.no := rfl
    rw [e1] <;>
    simp only [S54_4, aexec_seq, aseq_assoc]
  refine aw_congr e ?_
  exact h
noncomputable def S54_5 : Code := .seq ((code Tryd.f54).snd.snd.snd.fst.fst) (.seq ((code Tryd.f54).snd.snd.snd.fst.snd) (.seq ((code Tryd.f54).snd.snd.snd.snd.fst.fst) (.seq ((code Tryd.f54).snd.snd.snd.snd.fst.snd) (.seq ((code Tryd.f54).snd.snd.snd.snd.snd.fst) ((code Tryd.f54).snd.snd.snd.snd.snd.snd)))))
noncomputable def S54_5_e := (⟨by simp only [S54_5, code, Tryd.f54, Option.getD_some, Code.fst, Code.snd, Code.bin, Code.lin, Code.sin, Code.yes, Code.no]; exact rfl⟩ : PLift (S54_5 = _))
theorem C54_wp {ts : List AVal} {st : ASt} {Q : APost} (h : Wp E 54 S54_0 ts st (Nx (fun ts st => Wp E 54 (.cond (.tmp 18) Y54_0 N54_0) ts st (Nx (fun ts st => Wp E 54 S54_5 ts st Q) Q)) Q)) : Wp E 54 C54 ts st Q := by
  have e : ∀ n ts st, aexec E 54 (rw E) (drawB E 54) n C54 ts st = aexec E 54 (rw E) (drawB E 54) n (.seq S54_0 (.seq (.cond (.tmp 18) Y54_0 N54_0) (S54_5))) ts st := by
    intro n ts st
    have e1 : C54 = (.seq (code Tryd.f54).fst (.seq (.seq (code Tryd.f54).snd.fst.fst (code Tryd.f54).snd.fst.snd) (.seq (.seq (code Tryd.f54).snd.snd.fst.fst (.seq (code Tryd.f54).snd.snd.fst.snd.fst (.cond (.tmp 18) Y54_0 N54_0))) (.seq (.seq (code Tryd.f54).snd.snd.snd.fst.fst (code Tryd.f54).snd.snd.snd.fst.snd) (.seq (.seq (code Tryd.f54).snd.snd.snd.snd.fst.fst (code Tryd.f54).snd.snd.snd.snd.fst.snd) (.seq (code Tryd.f54).snd.snd.snd.snd.snd.fst (code Tryd.f54).snd.snd.snd.snd.snd.snd)))))) := rfl
    rw [e1] <;>
    simp only [S54_0, S54_5, aexec_seq, aseq_assoc]
  refine aw_congr e ?_
  have h0 := h
  exact aw_seq (h0.mono fun e ts st hq => by cases e <;> first | exact hq | (have h1 := hq; exact aw_seq h1))
theorem ce_54 {x0 : AVal} {st : ASt} {r : AEnd × ASt} (h : ∀ g : Nat → AVal, g 0 = x0 → Wp E 54 C54 (Sl 99 g) st (fun e ts st => aend E Tryd.f54 (some (e, ts, st)) = some r)) : rw E 54 [x0] st = some r :=
  ce_of (fn := Tryd.f54) (c := C54) rfl rfl rfl (Nat.le_of_ble_eq_true rfl) fun g hg => h g (hg 0 x0 rfl)
theorem cx_54 {x0 : AVal} {st : ASt} {R : AEnd → ASt → Prop} (h : ∀ g : Nat → AVal, g 0 = x0 → Wp E 54 C54 (Sl 99 g) st (fun e ts st => ∃ r st', aend E Tryd.f54 (some (e, ts, st)) = some (r, st') ∧ R r st')) : ∃ r st', rw E 54 [x0] st = some (r, st') ∧ R r st' :=
  cx_of (fn := Tryd.f54) (c := C54) rfl rfl rfl (Nat.le_of_ble_eq_true rfl) fun g hg => h g (hg 0 x0 rfl)
theorem cf_74 (a : List AVal) (st : ASt) : callFuncA E.P 74 a st = some (.enter 74 a st) := rfl
theorem cf_75 (a : List AVal) (st : ASt) : callFuncA E.P 75 a st = some (.enter 75 a st) := rfl
theorem hint_54_83 : E.hint 54 83 = false := rfl
theorem hint_54_87 : E.hint 54 87 = false := rfl

/-! ### braidwork/braidworklaw03.word -/
noncomputable def C74 : Code := (code Tryd.f74)
noncomputable def S74_0 : Code := .seq ((code Tryd.f74).fst) (.seq ((code Tryd.f74).snd.fst) ((code Tryd.f74).snd.snd))
noncomputable def S74_0_e := (⟨by simp only [S74_0, code, Tryd.f74, Option.getD_some, Code.fst, Code.snd, Code.bin, Code.lin, Code.sin, Code.yes, Code.no]; exact rfl⟩ : PLift (S74_0 = _))
theorem C74_wp {ts : List AVal} {st : ASt} {Q : APost} (h : Wp E 74 S74_0 ts st Q) : Wp E 74 C74 ts st Q := by
  have e : ∀ n ts st, aexec E 74 (rw E) (drawB E 74) n C74 ts st = aexec E 74 (rw E) (drawB E 74) n (S74_0) ts st := by
    intro n ts st
    have e1 : C74 = (.seq (code Tryd.f74).fst (.seq (code Tryd.f74).snd.fst (code Tryd.f74).snd.snd)) := rfl
    rw [e1] <;>
    simp only [S74_0, aexec_seq, aseq_assoc]
  refine aw_congr e ?_
  exact h
theorem ce_74 {x0 x1 : AVal} {st : ASt} {r : AEnd × ASt} (h : ∀ g : Nat → AVal, g 0 = x0 → g 1 = x1 → Wp E 74 C74 (Sl 35 g) st (fun e ts st => aend E Tryd.f74 (some (e, ts, st)) = some r)) : rw E 74 [x0, x1] st = some r :=
  ce_of (fn := Tryd.f74) (c := C74) rfl rfl rfl (Nat.le_of_ble_eq_true rfl) fun g hg => h g (hg 0 x0 rfl) (hg 1 x1 rfl)
theorem cx_74 {x0 x1 : AVal} {st : ASt} {R : AEnd → ASt → Prop} (h : ∀ g : Nat → AVal, g 0 = x0 → g 1 = x1 → Wp E 74 C74 (Sl 35 g) st (fun e ts st => ∃ r st', aend E Tryd.f74 (some (e, ts, st)) = some (r, st') ∧ R r st')) : ∃ r st', rw E 74 [x0, x1] st = some (r, st') ∧ R r st' :=
  cx_of (fn := Tryd.f74) (c := C74) rfl rfl rfl (Nat.le_of_ble_eq_true rfl) fun g hg => h g (hg 0 x0 rfl) (hg 1 x1 rfl)

/-! ### braidwork/braidworklaw03.long -/
noncomputable def C75 : Code := (code Tryd.f75)
noncomputable def S75_0 : Code := .seq ((code Tryd.f75).fst) ((code Tryd.f75).snd.fst.fst)
noncomputable def S75_0_e := (⟨by simp only [S75_0, code, Tryd.f75, Option.getD_some, Code.fst, Code.snd, Code.bin, Code.lin, Code.sin, Code.yes, Code.no]; exact rfl⟩ : PLift (S75_0 = _))
noncomputable def L75_0 : Code := (code Tryd.f75).snd.fst.snd.bin.lin
noncomputable def S75_1 : Code := .seq ((code Tryd.f75).snd.fst.snd.bin.lin.fst) (.seq ((code Tryd.f75).snd.fst.snd.bin.lin.snd.fst) (.seq ((code Tryd.f75).snd.fst.snd.bin.lin.snd.snd.fst) ((code Tryd.f75).snd.fst.snd.bin.lin.snd.snd.snd)))
noncomputable def S75_1_e := (⟨by simp only [S75_1, code, Tryd.f75, Option.getD_some, Code.fst, Code.snd, Code.bin, Code.lin, Code.sin, Code.yes, Code.no]; exact rfl⟩ : PLift (S75_1 = _))
theorem L75_0_wp {ts : List AVal} {st : ASt} {Q : APost} (h : Wp E 75 S75_1 ts st Q) : Wp E 75 L75_0 ts st Q := by
  have e : ∀ n ts st, aexec E 75 (rw E) (drawB E 75) n L75_0 ts st = aexec E 75 (rw E) (drawB E 75) n (S75_1) ts st := by
    intro n ts st
    have e1 : L75_0 = (.seq (code Tryd.f75).snd.fst.snd.bin.lin.fst (.seq (code Tryd.f75).snd.fst.snd.bin.lin.snd.fst (.seq (code Tryd.f75).snd.fst.snd.bin.lin.snd.snd.fst (code Tryd.f75).snd.fst.snd.bin.lin.snd.snd.snd))) := rfl
    rw [e1] <;>
    simp only [S75_1, aexec_seq, aseq_assoc]
  refine aw_congr e ?_
  exact h
noncomputable def S75_2 : Code := .seq ((code Tryd.f75).snd.snd.fst) ((code Tryd.f75).snd.snd.snd)
noncomputable def S75_2_e := (⟨by simp only [S75_2, code, Tryd.f75, Option.getD_some, Code.fst, Code.snd, Code.bin, Code.lin, Code.sin, Code.yes, Code.no]; exact rfl⟩ : PLift (S75_2 = _))
theorem C75_wp {ts : List AVal} {st : ASt} {Q : APost} (h : Wp E 75 S75_0 ts st (Nx (fun ts st => Wp E 75 (.block 0 (.loop L75_0)) ts st (Nx (fun ts st => Wp E 75 S75_2 ts st Q) Q)) Q)) : Wp E 75 C75 ts st Q := by
  have e : ∀ n ts st, aexec E 75 (rw E) (drawB E 75) n C75 ts st = aexec E 75 (rw E) (drawB E 75) n (.seq S75_0 (.seq (.block 0 (.loop L75_0)) (S75_2))) ts st := by
    intro n ts st
    have e1 : C75 = (.seq (code Tryd.f75).fst (.seq (.seq (code Tryd.f75).snd.fst.fst (.block 0 (.loop L75_0))) (.seq (code Tryd.f75).snd.snd.fst (code Tryd.f75).snd.snd.snd))) := rfl
    rw [e1] <;>
    simp only [S75_0, S75_2, aexec_seq, aseq_assoc]
  refine aw_congr e ?_
  have h0 := h
  exact aw_seq (h0.mono fun e ts st hq => by cases e <;> first | exact hq | (have h1 := hq; exact aw_seq h1))
theorem ce_75 {x0 x1 : AVal} {st : ASt} {r : AEnd × ASt} (h : ∀ g : Nat → AVal, g 0 = x0 → g 1 = x1 → Wp E 75 C75 (Sl 39 g) st (fun e ts st => aend E Tryd.f75 (some (e, ts, st)) = some r)) : rw E 75 [x0, x1] st = some r :=
  ce_of (fn := Tryd.f75) (c := C75) rfl rfl rfl (Nat.le_of_ble_eq_true rfl) fun g hg => h g (hg 0 x0 rfl) (hg 1 x1 rfl)
theorem cx_75 {x0 x1 : AVal} {st : ASt} {R : AEnd → ASt → Prop} (h : ∀ g : Nat → AVal, g 0 = x0 → g 1 = x1 → Wp E 75 C75 (Sl 39 g) st (fun e ts st => ∃ r st', aend E Tryd.f75 (some (e, ts, st)) = some (r, st') ∧ R r st')) : ∃ r st', rw E 75 [x0, x1] st = some (r, st') ∧ R r st' :=
  cx_of (fn := Tryd.f75) (c := C75) rfl rfl rfl (Nat.le_of_ble_eq_true rfl) fun g hg => h g (hg 0 x0 rfl) (hg 1 x1 rfl)

/-! ### slices.Equal[[]braidwork/lex.Token,braidwork/lex.Token] -/
noncomputable def C28 : Code := (code Tryd.f28)
noncomputable def S28_0 : Code := .seq ((code Tryd.f28).fst) (.seq ((code Tryd.f28).snd.fst.fst) (.seq ((code Tryd.f28).snd.fst.snd) ((code Tryd.f28).snd.snd.fst.fst)))
noncomputable def S28_0_e := (⟨by simp only [S28_0, code, Tryd.f28, Option.getD_some, Code.fst, Code.snd, Code.bin, Code.lin, Code.sin, Code.yes, Code.no]; exact rfl⟩ : PLift (S28_0 = _))
noncomputable def L28_0 : Code := (code Tryd.f28).snd.snd.fst.snd.bin.lin
noncomputable def rg28_6 : Code := (code Tryd.f28).snd.snd.fst.snd.bin.lin.snd.snd.fst.bin.snd.fst
noncomputable def rq28_6 : Code := (code Tryd.f28).snd.snd.fst.snd.bin.lin.snd.snd.fst.bin.snd.fst
theorem ex28_6 (call : ACall) (n : Nat) (ts : List AVal) (st : ASt) : aexec E 28 call (drawB E 28) n rg28_6 ts st = aops E 28 call rq28_6.ops rq28_6.ops.toList ts st := by
  have d : drawB E 28 rq28_6.ops = true := by kernel_rfl
  have e : rg28_6 = .region 6 rq28_6.ops true := rfl
  rw [e, aexec, d]; rfl
noncomputable def rq28_6_e := (⟨by simp only [rq28_6, code, Tryd.f28, Option.getD_some, Code.fst, Code.snd, Code.bin, Code.lin, Code.sin, Code.yes, Code.no, Code.ops]; exact rfl⟩ : PLift (rq28_6.ops = _))
noncomputable def S28_1 : Code := .seq ((code Tryd.f28).snd.snd.fst.snd.bin.lin.fst) (.seq ((code Tryd.f28).snd.snd.fst.snd.bin.lin.snd.fst) (.seq (.block 1 (.seq (code Tryd.f28).snd.snd.fst.snd.bin.lin.snd.snd.fst.bin.fst (.seq rg28_6 (code Tryd.f28).snd.snd.fst.snd.bin.lin.snd.snd.fst.bin.snd.snd))) ((code Tryd.f28).snd.snd.fst.snd.bin.lin.snd.snd.snd)))
noncomputable def S28_1_e := (⟨by simp only [S28_1, code, Tryd.f28, Option.getD_some, Code.fst, Code.snd, Code.bin, Code.lin, Code.sin, Code.yes, Code.no]; exact rfl⟩ : PLift (S28_1 = _))
theorem L28_0_wp {ts : List AVal} {st : ASt} {Q : APost} (h : Wp E 28 S28_1 ts st Q) : Wp E 28 L28_0 ts st Q := by
  have e : ∀ n ts st, aexec E 28 (rw E) (drawB E 28) n L28_0 ts st = aexec E 28 (rw E) (drawB E 28) n (S28_1) ts st := by
    intro n ts st
    have e1 : L28_0 = (.seq (code Tryd.f28).snd.snd.fst.snd.bin.lin.fst (.seq (code Tryd.f28).snd.snd.fst.snd.bin.lin.snd.fst (.seq (.block 1 (.seq (code Tryd.f28).snd.snd.fst.snd.bin.lin.snd.snd.fst.bin.fst (.seq rg28_6 (code Tryd.f28).snd.snd.fst.snd.bin.lin.snd.snd.fst.bin.snd.snd))) (code Tryd.f28).snd.snd.fst.snd.bin.lin.snd.snd.snd))) := rfl
    rw [e1] <;>
    simp only [S28_1, aexec_seq, aseq_assoc]
  refine aw_congr e ?_
  exact h
noncomputable def S28_2 : Code := .seq ((code Tryd.f28).snd.snd.snd.fst) ((code Tryd.f28).snd.snd.snd.snd)
noncomputable def S28_2_e := (⟨by simp only [S28_2, code, Tryd.f28, Option.getD_some, Code.fst, Code.snd, Code.bin, Code.lin, Code.sin, Code.yes, Code.no]; exact rfl⟩ : PLift (S28_2 = _))
theorem C28_wp {ts : List AVal} {st : ASt} {Q : APost} (h : Wp E 28 S28_0 ts st (Nx (fun ts st => Wp E 28 (.block 0 (.loop L28_0)) ts st (Nx (fun ts st => Wp E 28 S28_2 ts st Q) Q)) Q)) : Wp E 28 C28 ts st Q := by
  have e : ∀ n ts st, aexec E 28 (rw E) (drawB E 28) n C28 ts st = aexec E 28 (rw E) (drawB E 28) n (.seq S28_0 (.seq (.block 0 (.loop L28_0)) (S28_2))) ts st := by
    intro n ts st
    have e1 : C28 = (.seq (code Tryd.f28).fst (.seq (.seq (code Tryd.f28).snd.fst.fst (code Tryd.f28).snd.fst.snd) (.seq (.seq (code Tryd.f28).snd.snd.fst.fst (.block 0 (.loop L28_0))) (.seq (code Tryd.f28).snd.snd.snd.fst (code Tryd.f28).snd.snd.snd.snd)))) := rfl
    rw [e1] <;>
    simp only [S28_0, S28_2, aexec_seq, aseq_assoc]
  refine aw_congr e ?_
  have h0 := h
  exact aw_seq (h0.mono fun e ts st hq => by cases e <;> first | exact hq | (have h1 := hq; exact aw_seq h1))
theorem ce_28 {x0 x1 : AVal} {st : ASt} {r : AEnd × ASt} (h : ∀ g : Nat → AVal, g 0 = x0 → g 1 = x1 → Wp E 28 C28 (Sl 26 g) st (fun e ts st => aend E Tryd.f28 (some (e, ts, st)) = some r)) : rw E 28 [x0, x1] st = some r :=
  ce_of (fn := Tryd.f28) (c := C28) rfl rfl rfl (Nat.le_of_ble_eq_true rfl) fun g hg => h g (hg 0 x0 rfl) (hg 1 x1 rfl)
theorem cx_28 {x0 x1 : AVal} {st : ASt} {R : AEnd → ASt → Prop} (h : ∀ g : Nat → AVal, g 0 = x0 → g 1 = x1 → Wp E 28 C28 (Sl 26 g) st (fun e ts st => ∃ r st', aend E Tryd.f28 (some (e, ts, st)) = some (r, st') ∧ R r st')) : ∃ r st', rw E 28 [x0, x1] st = some (r, st') ∧ R r st' :=
  cx_of (fn := Tryd.f28) (c := C28) rfl rfl rfl (Nat.le_of_ble_eq_true rfl) fun g hg => h g (hg 0 x0 rfl) (hg 1 x1 rfl)
end Go.Proofs.YtlpdplchcpkajaaDoorV
