/- lex.Split, any text: walked. No condition. -/
import Derived.Test.YtlpdplchcpkajaaDoorX8
namespace Go.Proofs.YtlpdplchcpkajaaDoorV
open Go Go.RowKit Go.Proofs.YtlpdplchcpkajaaDoorA
set_option linter.unusedVariables false
set_option linter.unusedSimpArgs false
set_option maxRecDepth 100000

noncomputable def T0 : Code := (code Tryd.f25).snd.sin.snd.snd.snd.snd.snd.snd.snd
noncomputable def T1 : Code := (code Tryd.f25).snd.sin.snd.snd.snd.snd.snd.snd.snd.snd.snd.snd.snd.snd
noncomputable def T2 : Code := (code Tryd.f25).snd.sin.snd.snd.snd.snd.snd.snd.snd.snd.snd.snd.snd.snd.snd.snd.snd
noncomputable def T3 : Code := (code Tryd.f25).snd.sin.snd.snd.snd.snd.snd.snd.snd.snd.snd.snd.snd.snd.snd.snd.snd.snd.snd.snd.snd
noncomputable def T4 : Code := (code Tryd.f25).snd.sin.snd.snd.snd.snd.snd.snd.snd.snd.snd.snd.snd.snd.snd.snd.snd.snd.snd.snd.snd.snd.snd.snd.snd.snd.snd.snd
noncomputable def Wp0 : Code := .seq (code Tryd.f25).snd.sin.fst (.seq (code Tryd.f25).snd.sin.snd.fst (.seq (code Tryd.f25).snd.sin.snd.snd.fst (.seq (code Tryd.f25).snd.sin.snd.snd.snd.fst (.seq (code Tryd.f25).snd.sin.snd.snd.snd.snd.fst (code Tryd.f25).snd.sin.snd.snd.snd.snd.snd.fst))))
noncomputable def Wp0_e := (⟨by simp only [Wp0, code, Tryd.f25, Option.getD_some, Code.fst, Code.snd, Code.bin, Code.lin, Code.sin, Code.yes, Code.no]; exact rfl⟩ : PLift (Wp0 = _))
noncomputable def W0 : Code := .seq (code Tryd.f25).snd.sin.snd.snd.snd.snd.snd.snd.snd.fst (.seq (code Tryd.f25).snd.sin.snd.snd.snd.snd.snd.snd.snd.snd.fst (.seq (code Tryd.f25).snd.sin.snd.snd.snd.snd.snd.snd.snd.snd.snd.fst (code Tryd.f25).snd.sin.snd.snd.snd.snd.snd.snd.snd.snd.snd.snd.fst))
noncomputable def W0_e := (⟨by simp only [W0, code, Tryd.f25, Option.getD_some, Code.fst, Code.snd, Code.bin, Code.lin, Code.sin, Code.yes, Code.no]; exact rfl⟩ : PLift (W0 = _))
noncomputable def R0 : Code := (code Tryd.f25).snd.sin.snd.snd.snd.snd.snd.snd.snd.snd.snd.snd.snd
noncomputable def W1 : Code := (code Tryd.f25).snd.sin.snd.snd.snd.snd.snd.snd.snd.snd.snd.snd.snd.snd.snd.fst
noncomputable def W1_e := (⟨by simp only [W1, code, Tryd.f25, Option.getD_some, Code.fst, Code.snd, Code.bin, Code.lin, Code.sin, Code.yes, Code.no]; exact rfl⟩ : PLift (W1 = _))
noncomputable def R1 : Code := (code Tryd.f25).snd.sin.snd.snd.snd.snd.snd.snd.snd.snd.snd.snd.snd.snd.snd.snd
noncomputable def W2 : Code := .seq (code Tryd.f25).snd.sin.snd.snd.snd.snd.snd.snd.snd.snd.snd.snd.snd.snd.snd.snd.snd.snd.fst (code Tryd.f25).snd.sin.snd.snd.snd.snd.snd.snd.snd.snd.snd.snd.snd.snd.snd.snd.snd.snd.snd.fst
noncomputable def W2_e := (⟨by simp only [W2, code, Tryd.f25, Option.getD_some, Code.fst, Code.snd, Code.bin, Code.lin, Code.sin, Code.yes, Code.no]; exact rfl⟩ : PLift (W2 = _))
noncomputable def R2 : Code := (code Tryd.f25).snd.sin.snd.snd.snd.snd.snd.snd.snd.snd.snd.snd.snd.snd.snd.snd.snd.snd.snd.snd
noncomputable def W3a : Code := (code Tryd.f25).snd.sin.snd.snd.snd.snd.snd.snd.snd.snd.snd.snd.snd.snd.snd.snd.snd.snd.snd.snd.snd.snd.fst
noncomputable def W3a_e := (⟨by simp only [W3a, code, Tryd.f25, Option.getD_some, Code.fst, Code.snd, Code.bin, Code.lin, Code.sin, Code.yes, Code.no]; exact rfl⟩ : PLift (W3a = _))
noncomputable def W3b : Code := (code Tryd.f25).snd.sin.snd.snd.snd.snd.snd.snd.snd.snd.snd.snd.snd.snd.snd.snd.snd.snd.snd.snd.snd.snd.snd.fst
noncomputable def W3b_e := (⟨by simp only [W3b, code, Tryd.f25, Option.getD_some, Code.fst, Code.snd, Code.bin, Code.lin, Code.sin, Code.yes, Code.no]; exact rfl⟩ : PLift (W3b = _))
noncomputable def W3c : Code := (code Tryd.f25).snd.sin.snd.snd.snd.snd.snd.snd.snd.snd.snd.snd.snd.snd.snd.snd.snd.snd.snd.snd.snd.snd.snd.snd.fst
noncomputable def W3c_e := (⟨by simp only [W3c, code, Tryd.f25, Option.getD_some, Code.fst, Code.snd, Code.bin, Code.lin, Code.sin, Code.yes, Code.no]; exact rfl⟩ : PLift (W3c = _))
noncomputable def W3d : Code := .seq (code Tryd.f25).snd.sin.snd.snd.snd.snd.snd.snd.snd.snd.snd.snd.snd.snd.snd.snd.snd.snd.snd.snd.snd.snd.snd.snd.snd.fst (code Tryd.f25).snd.sin.snd.snd.snd.snd.snd.snd.snd.snd.snd.snd.snd.snd.snd.snd.snd.snd.snd.snd.snd.snd.snd.snd.snd.snd.fst
noncomputable def W3d_e := (⟨by simp only [W3d, code, Tryd.f25, Option.getD_some, Code.fst, Code.snd, Code.bin, Code.lin, Code.sin, Code.yes, Code.no]; exact rfl⟩ : PLift (W3d = _))
noncomputable def R3 : Code := (code Tryd.f25).snd.sin.snd.snd.snd.snd.snd.snd.snd.snd.snd.snd.snd.snd.snd.snd.snd.snd.snd.snd.snd.snd.snd.snd.snd.snd.snd
noncomputable def W4 : Code := .seq (code Tryd.f25).snd.sin.snd.snd.snd.snd.snd.snd.snd.snd.snd.snd.snd.snd.snd.snd.snd.snd.snd.snd.snd.snd.snd.snd.snd.snd.snd.snd.fst (.seq (code Tryd.f25).snd.sin.snd.snd.snd.snd.snd.snd.snd.snd.snd.snd.snd.snd.snd.snd.snd.snd.snd.snd.snd.snd.snd.snd.snd.snd.snd.snd.snd.fst (.seq (code Tryd.f25).snd.sin.snd.snd.snd.snd.snd.snd.snd.snd.snd.snd.snd.snd.snd.snd.snd.snd.snd.snd.snd.snd.snd.snd.snd.snd.snd.snd.snd.snd.fst (code Tryd.f25).snd.sin.snd.snd.snd.snd.snd.snd.snd.snd.snd.snd.snd.snd.snd.snd.snd.snd.snd.snd.snd.snd.snd.snd.snd.snd.snd.snd.snd.snd.snd))
noncomputable def W4_e := (⟨by simp only [W4, code, Tryd.f25, Option.getD_some, Code.fst, Code.snd, Code.bin, Code.lin, Code.sin, Code.yes, Code.no]; exact rfl⟩ : PLift (W4 = _))
theorem T0_wp {ts : List AVal} {st : ASt} {Q : APost} (h : Wp E 25 W0 ts st (Nx (fun ts st => Wp E 25 R0 ts st Q) Q)) : Wp E 25 T0 ts st Q := by
  have e : ∀ n ts st, aexec E 25 (rw E) (drawB E 25) n T0 ts st = aexec E 25 (rw E) (drawB E 25) n (.seq W0 R0) ts st := by
    intro n ts st
    have e1 : T0 = .seq (code Tryd.f25).snd.sin.snd.snd.snd.snd.snd.snd.snd.fst (.seq (code Tryd.f25).snd.sin.snd.snd.snd.snd.snd.snd.snd.snd.fst (.seq (code Tryd.f25).snd.sin.snd.snd.snd.snd.snd.snd.snd.snd.snd.fst (.seq (code Tryd.f25).snd.sin.snd.snd.snd.snd.snd.snd.snd.snd.snd.snd.fst R0))) := rfl
    rw [e1]
    simp only [W0, aexec_seq, aseq_assoc]
  exact aw_congr e (aw_seq h)
theorem T1_wp {ts : List AVal} {st : ASt} {Q : APost} (h : Wp E 25 (.block 1 (.loop L25_1)) ts st (Nx (fun ts st => Wp E 25 W1 ts st (Nx (fun ts st => Wp E 25 R1 ts st Q) Q)) Q)) : Wp E 25 T1 ts st Q := by
  have e : ∀ n ts st, aexec E 25 (rw E) (drawB E 25) n T1 ts st = aexec E 25 (rw E) (drawB E 25) n (.seq (.block 1 (.loop L25_1)) (.seq W1 R1)) ts st := by
    intro n ts st
    have e1 : T1 = .seq (.block 1 (.loop L25_1)) (.seq (code Tryd.f25).snd.sin.snd.snd.snd.snd.snd.snd.snd.snd.snd.snd.snd.snd.snd.fst R1) := rfl
    rw [e1]
    simp only [W1, aexec_seq, aseq_assoc]
  refine aw_congr e (aw_seq ?_)
  refine h.mono fun x ts st h => ?_
  cases x <;> first | exact h | skip
  refine aw_seq ?_
  exact h
theorem T2_wp {ts : List AVal} {st : ASt} {Q : APost} (h : Wp E 25 (.block 3 (.loop L25_2)) ts st (Nx (fun ts st => Wp E 25 W2 ts st (Nx (fun ts st => Wp E 25 R2 ts st Q) Q)) Q)) : Wp E 25 T2 ts st Q := by
  have e : ∀ n ts st, aexec E 25 (rw E) (drawB E 25) n T2 ts st = aexec E 25 (rw E) (drawB E 25) n (.seq (.block 3 (.loop L25_2)) (.seq W2 R2)) ts st := by
    intro n ts st
    have e1 : T2 = .seq (.block 3 (.loop L25_2)) (.seq (code Tryd.f25).snd.sin.snd.snd.snd.snd.snd.snd.snd.snd.snd.snd.snd.snd.snd.snd.snd.snd.fst (.seq (code Tryd.f25).snd.sin.snd.snd.snd.snd.snd.snd.snd.snd.snd.snd.snd.snd.snd.snd.snd.snd.snd.fst R2)) := rfl
    rw [e1]
    simp only [W2, aexec_seq, aseq_assoc]
  refine aw_congr e (aw_seq ?_)
  refine h.mono fun x ts st h => ?_
  cases x <;> first | exact h | skip
  refine aw_seq ?_
  exact h
theorem T3_wp {ts : List AVal} {st : ASt} {Q : APost} (h : Wp E 25 (.block 5 (.loop L25_3)) ts st (Nx (fun ts st => Wp E 25 W3a ts st (Nx (fun ts st => Wp E 25 W3b ts st (Nx (fun ts st => Wp E 25 W3c ts st (Nx (fun ts st => Wp E 25 W3d ts st (Nx (fun ts st => Wp E 25 R3 ts st Q) Q)) Q)) Q)) Q)) Q)) : Wp E 25 T3 ts st Q := by
  have e : ∀ n ts st, aexec E 25 (rw E) (drawB E 25) n T3 ts st = aexec E 25 (rw E) (drawB E 25) n (.seq (.block 5 (.loop L25_3)) (.seq W3a (.seq W3b (.seq W3c (.seq W3d R3))))) ts st := by
    intro n ts st
    have e1 : T3 = .seq (.block 5 (.loop L25_3)) (.seq (code Tryd.f25).snd.sin.snd.snd.snd.snd.snd.snd.snd.snd.snd.snd.snd.snd.snd.snd.snd.snd.snd.snd.snd.snd.fst (.seq (code Tryd.f25).snd.sin.snd.snd.snd.snd.snd.snd.snd.snd.snd.snd.snd.snd.snd.snd.snd.snd.snd.snd.snd.snd.snd.fst (.seq (code Tryd.f25).snd.sin.snd.snd.snd.snd.snd.snd.snd.snd.snd.snd.snd.snd.snd.snd.snd.snd.snd.snd.snd.snd.snd.snd.fst (.seq (code Tryd.f25).snd.sin.snd.snd.snd.snd.snd.snd.snd.snd.snd.snd.snd.snd.snd.snd.snd.snd.snd.snd.snd.snd.snd.snd.snd.fst (.seq (code Tryd.f25).snd.sin.snd.snd.snd.snd.snd.snd.snd.snd.snd.snd.snd.snd.snd.snd.snd.snd.snd.snd.snd.snd.snd.snd.snd.snd.fst R3))))) := rfl
    rw [e1]
    simp only [W3a, W3b, W3c, W3d, aexec_seq, aseq_assoc]
  refine aw_congr e (aw_seq ?_)
  refine h.mono fun x ts st h => ?_
  cases x <;> first | exact h | skip
  refine aw_seq ?_
  refine h.mono fun x ts st h => ?_
  cases x <;> first | exact h | skip
  refine aw_seq ?_
  refine h.mono fun x ts st h => ?_
  cases x <;> first | exact h | skip
  refine aw_seq ?_
  refine h.mono fun x ts st h => ?_
  cases x <;> first | exact h | skip
  refine aw_seq ?_
  exact h
theorem T4_wp {ts : List AVal} {st : ASt} {Q : APost} (h : Wp E 25 W4 ts st Q) : Wp E 25 T4 ts st Q := by
  have e : ∀ n ts st, aexec E 25 (rw E) (drawB E 25) n T4 ts st = aexec E 25 (rw E) (drawB E 25) n (W4) ts st := by
    intro n ts st
    have e1 : T4 = .seq (code Tryd.f25).snd.sin.snd.snd.snd.snd.snd.snd.snd.snd.snd.snd.snd.snd.snd.snd.snd.snd.snd.snd.snd.snd.snd.snd.snd.snd.snd.snd.fst (.seq (code Tryd.f25).snd.sin.snd.snd.snd.snd.snd.snd.snd.snd.snd.snd.snd.snd.snd.snd.snd.snd.snd.snd.snd.snd.snd.snd.snd.snd.snd.snd.snd.fst (.seq (code Tryd.f25).snd.sin.snd.snd.snd.snd.snd.snd.snd.snd.snd.snd.snd.snd.snd.snd.snd.snd.snd.snd.snd.snd.snd.snd.snd.snd.snd.snd.snd.snd.fst (code Tryd.f25).snd.sin.snd.snd.snd.snd.snd.snd.snd.snd.snd.snd.snd.snd.snd.snd.snd.snd.snd.snd.snd.snd.snd.snd.snd.snd.snd.snd.snd.snd.snd)) := rfl
    rw [e1]
    simp only [W4, aexec_seq, aseq_assoc]
  exact aw_congr e h
theorem lab_x {E : Env} {fid : FuncId} {call : ACall} {dr : Array Oper → Bool} {n l : Nat} {b : Code} : (fun ts st => aexec E fid call dr n (.seq (.label l) b) ts st) = aexec E fid call dr n b := by
  funext ts st
  rw [aexec, aexec]
  rfl
theorem Z_at0 : Z25_0 = .seq (code Tryd.f25).snd.sin.fst (.seq (code Tryd.f25).snd.sin.snd.fst (.seq (code Tryd.f25).snd.sin.snd.snd.fst (.seq (code Tryd.f25).snd.sin.snd.snd.snd.fst (.seq (code Tryd.f25).snd.sin.snd.snd.snd.snd.fst (.seq (code Tryd.f25).snd.sin.snd.snd.snd.snd.snd.fst (.seq (.label 0) T0)))))) := rfl
theorem Zx_wp {ts : List AVal} {st : ASt} {Q : APost} (h : Wp E 25 Wp0 ts st (Nx (fun ts st => Wp E 25 T0 ts st Q) Q)) : Wp E 25 Z25_0 ts st Q := by
  have e : ∀ n ts st, aexec E 25 (rw E) (drawB E 25) n Z25_0 ts st = aexec E 25 (rw E) (drawB E 25) n (.seq Wp0 T0) ts st := by
    intro n ts st
    have h1 : ∀ ts st, aexec E 25 (rw E) (drawB E 25) n (.seq (.label 0) T0) ts st = aexec E 25 (rw E) (drawB E 25) n T0 ts st := fun ts st => congrFun (congrFun lab_x ts) st
    rw [Z_at0]
    generalize hL : Code.seq (.label 0) T0 = LT at *
    have h2 : aexec E 25 (rw E) (drawB E 25) n LT = aexec E 25 (rw E) (drawB E 25) n T0 := by funext ts st; exact h1 ts st
    simp only [Wp0, aexec_seq, aseq_assoc, h2]
  exact aw_congr e (aw_seq h)
noncomputable def TL : Nat → Code
  | 0 => T0 | 1 => T1 | 2 => T2 | 3 => T3 | _ => T4
theorem Z_from (l : Nat) (hl : l < 5) : (∃ r, findLabel Z25_0 l = some r) ∧ ∀ n ts st, afrom E 25 (rw E) (drawB E 25) n l Z25_0 ts st = aexec E 25 (rw E) (drawB E 25) n (TL l) ts st := by
  match l, hl with
  | 0, _ =>
    refine ⟨?_, fun n ts st => ?_⟩
    · have h : (findLabel Z25_0 0).isSome = true := by kernel_rfl
      exact Option.isSome_iff_exists.1 h
    · have e : Z25_0 = .seq (code Tryd.f25).snd.sin.fst (.seq (code Tryd.f25).snd.sin.snd.fst (.seq (code Tryd.f25).snd.sin.snd.snd.fst (.seq (code Tryd.f25).snd.sin.snd.snd.snd.fst (.seq (code Tryd.f25).snd.sin.snd.snd.snd.snd.fst (.seq (code Tryd.f25).snd.sin.snd.snd.snd.snd.snd.fst (.seq (.label 0) T0)))))) := rfl
      rw [e, afrom_skip (by kernel_rfl), afrom_skip (by kernel_rfl), afrom_skip (by kernel_rfl), afrom_skip (by kernel_rfl), afrom_skip (by kernel_rfl), afrom_skip (by kernel_rfl), afrom_hit]
      rfl
  | 1, _ =>
    refine ⟨?_, fun n ts st => ?_⟩
    · have h : (findLabel Z25_0 1).isSome = true := by kernel_rfl
      exact Option.isSome_iff_exists.1 h
    · have e : Z25_0 = .seq (code Tryd.f25).snd.sin.fst (.seq (code Tryd.f25).snd.sin.snd.fst (.seq (code Tryd.f25).snd.sin.snd.snd.fst (.seq (code Tryd.f25).snd.sin.snd.snd.snd.fst (.seq (code Tryd.f25).snd.sin.snd.snd.snd.snd.fst (.seq (code Tryd.f25).snd.sin.snd.snd.snd.snd.snd.fst (.seq (code Tryd.f25).snd.sin.snd.snd.snd.snd.snd.snd.fst (.seq (code Tryd.f25).snd.sin.snd.snd.snd.snd.snd.snd.snd.fst (.seq (code Tryd.f25).snd.sin.snd.snd.snd.snd.snd.snd.snd.snd.fst (.seq (code Tryd.f25).snd.sin.snd.snd.snd.snd.snd.snd.snd.snd.snd.fst (.seq (code Tryd.f25).snd.sin.snd.snd.snd.snd.snd.snd.snd.snd.snd.snd.fst (.seq (.label 1) T1))))))))))) := rfl
      rw [e, afrom_skip (by kernel_rfl), afrom_skip (by kernel_rfl), afrom_skip (by kernel_rfl), afrom_skip (by kernel_rfl), afrom_skip (by kernel_rfl), afrom_skip (by kernel_rfl), afrom_skip (by kernel_rfl), afrom_skip (by kernel_rfl), afrom_skip (by kernel_rfl), afrom_skip (by kernel_rfl), afrom_skip (by kernel_rfl), afrom_hit]
      rfl
  | 2, _ =>
    refine ⟨?_, fun n ts st => ?_⟩
    · have h : (findLabel Z25_0 2).isSome = true := by kernel_rfl
      exact Option.isSome_iff_exists.1 h
    · have e : Z25_0 = .seq (code Tryd.f25).snd.sin.fst (.seq (code Tryd.f25).snd.sin.snd.fst (.seq (code Tryd.f25).snd.sin.snd.snd.fst (.seq (code Tryd.f25).snd.sin.snd.snd.snd.fst (.seq (code Tryd.f25).snd.sin.snd.snd.snd.snd.fst (.seq (code Tryd.f25).snd.sin.snd.snd.snd.snd.snd.fst (.seq (code Tryd.f25).snd.sin.snd.snd.snd.snd.snd.snd.fst (.seq (code Tryd.f25).snd.sin.snd.snd.snd.snd.snd.snd.snd.fst (.seq (code Tryd.f25).snd.sin.snd.snd.snd.snd.snd.snd.snd.snd.fst (.seq (code Tryd.f25).snd.sin.snd.snd.snd.snd.snd.snd.snd.snd.snd.fst (.seq (code Tryd.f25).snd.sin.snd.snd.snd.snd.snd.snd.snd.snd.snd.snd.fst (.seq (code Tryd.f25).snd.sin.snd.snd.snd.snd.snd.snd.snd.snd.snd.snd.snd.fst (.seq (code Tryd.f25).snd.sin.snd.snd.snd.snd.snd.snd.snd.snd.snd.snd.snd.snd.fst (.seq (code Tryd.f25).snd.sin.snd.snd.snd.snd.snd.snd.snd.snd.snd.snd.snd.snd.snd.fst (.seq (.label 2) T2)))))))))))))) := rfl
      rw [e, afrom_skip (by kernel_rfl), afrom_skip (by kernel_rfl), afrom_skip (by kernel_rfl), afrom_skip (by kernel_rfl), afrom_skip (by kernel_rfl), afrom_skip (by kernel_rfl), afrom_skip (by kernel_rfl), afrom_skip (by kernel_rfl), afrom_skip (by kernel_rfl), afrom_skip (by kernel_rfl), afrom_skip (by kernel_rfl), afrom_skip (by kernel_rfl), afrom_skip (by kernel_rfl), afrom_skip (by kernel_rfl), afrom_hit]
      rfl
  | 3, _ =>
    refine ⟨?_, fun n ts st => ?_⟩
    · have h : (findLabel Z25_0 3).isSome = true := by kernel_rfl
      exact Option.isSome_iff_exists.1 h
    · have e : Z25_0 = .seq (code Tryd.f25).snd.sin.fst (.seq (code Tryd.f25).snd.sin.snd.fst (.seq (code Tryd.f25).snd.sin.snd.snd.fst (.seq (code Tryd.f25).snd.sin.snd.snd.snd.fst (.seq (code Tryd.f25).snd.sin.snd.snd.snd.snd.fst (.seq (code Tryd.f25).snd.sin.snd.snd.snd.snd.snd.fst (.seq (code Tryd.f25).snd.sin.snd.snd.snd.snd.snd.snd.fst (.seq (code Tryd.f25).snd.sin.snd.snd.snd.snd.snd.snd.snd.fst (.seq (code Tryd.f25).snd.sin.snd.snd.snd.snd.snd.snd.snd.snd.fst (.seq (code Tryd.f25).snd.sin.snd.snd.snd.snd.snd.snd.snd.snd.snd.fst (.seq (code Tryd.f25).snd.sin.snd.snd.snd.snd.snd.snd.snd.snd.snd.snd.fst (.seq (code Tryd.f25).snd.sin.snd.snd.snd.snd.snd.snd.snd.snd.snd.snd.snd.fst (.seq (code Tryd.f25).snd.sin.snd.snd.snd.snd.snd.snd.snd.snd.snd.snd.snd.snd.fst (.seq (code Tryd.f25).snd.sin.snd.snd.snd.snd.snd.snd.snd.snd.snd.snd.snd.snd.snd.fst (.seq (code Tryd.f25).snd.sin.snd.snd.snd.snd.snd.snd.snd.snd.snd.snd.snd.snd.snd.snd.fst (.seq (code Tryd.f25).snd.sin.snd.snd.snd.snd.snd.snd.snd.snd.snd.snd.snd.snd.snd.snd.snd.fst (.seq (code Tryd.f25).snd.sin.snd.snd.snd.snd.snd.snd.snd.snd.snd.snd.snd.snd.snd.snd.snd.snd.fst (.seq (code Tryd.f25).snd.sin.snd.snd.snd.snd.snd.snd.snd.snd.snd.snd.snd.snd.snd.snd.snd.snd.snd.fst (.seq (.label 3) T3)))))))))))))))))) := rfl
      rw [e, afrom_skip (by kernel_rfl), afrom_skip (by kernel_rfl), afrom_skip (by kernel_rfl), afrom_skip (by kernel_rfl), afrom_skip (by kernel_rfl), afrom_skip (by kernel_rfl), afrom_skip (by kernel_rfl), afrom_skip (by kernel_rfl), afrom_skip (by kernel_rfl), afrom_skip (by kernel_rfl), afrom_skip (by kernel_rfl), afrom_skip (by kernel_rfl), afrom_skip (by kernel_rfl), afrom_skip (by kernel_rfl), afrom_skip (by kernel_rfl), afrom_skip (by kernel_rfl), afrom_skip (by kernel_rfl), afrom_skip (by kernel_rfl), afrom_hit]
      rfl
  | 4, _ =>
    refine ⟨?_, fun n ts st => ?_⟩
    · have h : (findLabel Z25_0 4).isSome = true := by kernel_rfl
      exact Option.isSome_iff_exists.1 h
    · have e : Z25_0 = .seq (code Tryd.f25).snd.sin.fst (.seq (code Tryd.f25).snd.sin.snd.fst (.seq (code Tryd.f25).snd.sin.snd.snd.fst (.seq (code Tryd.f25).snd.sin.snd.snd.snd.fst (.seq (code Tryd.f25).snd.sin.snd.snd.snd.snd.fst (.seq (code Tryd.f25).snd.sin.snd.snd.snd.snd.snd.fst (.seq (code Tryd.f25).snd.sin.snd.snd.snd.snd.snd.snd.fst (.seq (code Tryd.f25).snd.sin.snd.snd.snd.snd.snd.snd.snd.fst (.seq (code Tryd.f25).snd.sin.snd.snd.snd.snd.snd.snd.snd.snd.fst (.seq (code Tryd.f25).snd.sin.snd.snd.snd.snd.snd.snd.snd.snd.snd.fst (.seq (code Tryd.f25).snd.sin.snd.snd.snd.snd.snd.snd.snd.snd.snd.snd.fst (.seq (code Tryd.f25).snd.sin.snd.snd.snd.snd.snd.snd.snd.snd.snd.snd.snd.fst (.seq (code Tryd.f25).snd.sin.snd.snd.snd.snd.snd.snd.snd.snd.snd.snd.snd.snd.fst (.seq (code Tryd.f25).snd.sin.snd.snd.snd.snd.snd.snd.snd.snd.snd.snd.snd.snd.snd.fst (.seq (code Tryd.f25).snd.sin.snd.snd.snd.snd.snd.snd.snd.snd.snd.snd.snd.snd.snd.snd.fst (.seq (code Tryd.f25).snd.sin.snd.snd.snd.snd.snd.snd.snd.snd.snd.snd.snd.snd.snd.snd.snd.fst (.seq (code Tryd.f25).snd.sin.snd.snd.snd.snd.snd.snd.snd.snd.snd.snd.snd.snd.snd.snd.snd.snd.fst (.seq (code Tryd.f25).snd.sin.snd.snd.snd.snd.snd.snd.snd.snd.snd.snd.snd.snd.snd.snd.snd.snd.snd.fst (.seq (code Tryd.f25).snd.sin.snd.snd.snd.snd.snd.snd.snd.snd.snd.snd.snd.snd.snd.snd.snd.snd.snd.snd.fst (.seq (code Tryd.f25).snd.sin.snd.snd.snd.snd.snd.snd.snd.snd.snd.snd.snd.snd.snd.snd.snd.snd.snd.snd.snd.fst (.seq (code Tryd.f25).snd.sin.snd.snd.snd.snd.snd.snd.snd.snd.snd.snd.snd.snd.snd.snd.snd.snd.snd.snd.snd.snd.fst (.seq (code Tryd.f25).snd.sin.snd.snd.snd.snd.snd.snd.snd.snd.snd.snd.snd.snd.snd.snd.snd.snd.snd.snd.snd.snd.snd.fst (.seq (code Tryd.f25).snd.sin.snd.snd.snd.snd.snd.snd.snd.snd.snd.snd.snd.snd.snd.snd.snd.snd.snd.snd.snd.snd.snd.snd.fst (.seq (code Tryd.f25).snd.sin.snd.snd.snd.snd.snd.snd.snd.snd.snd.snd.snd.snd.snd.snd.snd.snd.snd.snd.snd.snd.snd.snd.snd.fst (.seq (code Tryd.f25).snd.sin.snd.snd.snd.snd.snd.snd.snd.snd.snd.snd.snd.snd.snd.snd.snd.snd.snd.snd.snd.snd.snd.snd.snd.snd.fst (.seq (.label 4) T4))))))))))))))))))))))))) := rfl
      rw [e, afrom_skip (by kernel_rfl), afrom_skip (by kernel_rfl), afrom_skip (by kernel_rfl), afrom_skip (by kernel_rfl), afrom_skip (by kernel_rfl), afrom_skip (by kernel_rfl), afrom_skip (by kernel_rfl), afrom_skip (by kernel_rfl), afrom_skip (by kernel_rfl), afrom_skip (by kernel_rfl), afrom_skip (by kernel_rfl), afrom_skip (by kernel_rfl), afrom_skip (by kernel_rfl), afrom_skip (by kernel_rfl), afrom_skip (by kernel_rfl), afrom_skip (by kernel_rfl), afrom_skip (by kernel_rfl), afrom_skip (by kernel_rfl), afrom_skip (by kernel_rfl), afrom_skip (by kernel_rfl), afrom_skip (by kernel_rfl), afrom_skip (by kernel_rfl), afrom_skip (by kernel_rfl), afrom_skip (by kernel_rfl), afrom_skip (by kernel_rfl), afrom_hit]
      rfl
  | n + 5, h => exact absurd h (by omega)
end Go.Proofs.YtlpdplchcpkajaaDoorV
