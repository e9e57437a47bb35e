/- regions by plan: an operation under a guard, its two ways kept whole till the guard is known. No condition. -/
import Derived.Test.YtpgcbmmifmnfpaaDoorAK
namespace Go.Proofs.YtpgcbmmifmnfpaaDoorA
open Go Go.RowKit
set_option linter.unusedVariables false
def Hq (E : Env) (fid : FuncId) (op : Op) (ty : TypeId) (d : Option Tmp) (re : List PO) (l : List (PO × List PO)) (k : List Frm) (Q : APost) (ts : List AVal) (st : ASt) : Prop :=
  Sp E fid (aexecOp E.P (ahint E fid ⟨d, op, ty, "", #[], none⟩) (aeval E ts) ⟨d, op, ty, "", #[], none⟩ st) d re l k Q ts
def Hm (E : Env) (fid : FuncId) (re : List PO) (l : List (PO × List PO)) (k : List Frm) (Q : APost) (ts : List AVal) (st : ASt) : Prop :=
  stL E fid ts st re ∧ Gp E fid l k Q ts st
section
variable {E : Env} {fid : FuncId} {k : List Frm} {Q : APost} {ts : List AVal} {st : ASt} {l : List (PO × List PO)} {d : Option Tmp} {re : List PO} {op : Op} {ty : TypeId}
theorem gp_opf {s : Option Tmp} {w : Bool} : Gp E fid ((⟨d, op, ty, some (s, w)⟩, re) :: l) k Q ts st = ifK (yieldB s ts = some w) (Hq E fid op ty d re l k Q ts st) (Hm E fid re l k Q (aput ts d .undef) st) := gp_opg
theorem ifk_qt {p y : Prop} (h : p) : ifK p (Hq E fid op ty d re l k Q ts st) y = Sp E fid (aexecOp E.P (ahint E fid ⟨d, op, ty, "", #[], none⟩) (aeval E ts) ⟨d, op, ty, "", #[], none⟩ st) d re l k Q ts := ifK_t h
theorem ifk_qf {p y : Prop} (h : ¬ p) : ifK p y (Hq E fid op ty d re l k Q ts st) = Sp E fid (aexecOp E.P (ahint E fid ⟨d, op, ty, "", #[], none⟩) (aeval E ts) ⟨d, op, ty, "", #[], none⟩ st) d re l k Q ts := ifK_f h
theorem ifk_mf {p x : Prop} (h : ¬ p) : ifK p x (Hm E fid re l k Q ts st) = (stL E fid ts st re ∧ Gp E fid l k Q ts st) := ifK_f h
theorem ifk_mt {p x : Prop} (h : p) : ifK p (Hm E fid re l k Q ts st) x = (stL E fid ts st re ∧ Gp E fid l k Q ts st) := ifK_t h
theorem ifk_qt' {y : Prop} : ifK True (Hq E fid op ty d re l k Q ts st) y = Sp E fid (aexecOp E.P (ahint E fid ⟨d, op, ty, "", #[], none⟩) (aeval E ts) ⟨d, op, ty, "", #[], none⟩ st) d re l k Q ts := ifK_t trivial
theorem ifk_qf' {y : Prop} : ifK False y (Hq E fid op ty d re l k Q ts st) = Sp E fid (aexecOp E.P (ahint E fid ⟨d, op, ty, "", #[], none⟩) (aeval E ts) ⟨d, op, ty, "", #[], none⟩ st) d re l k Q ts := ifK_f (fun h => h)
theorem ifk_mf' {x : Prop} : ifK False x (Hm E fid re l k Q ts st) = (stL E fid ts st re ∧ Gp E fid l k Q ts st) := ifK_f (fun h => h)
theorem ifk_mt' {x : Prop} : ifK True (Hm E fid re l k Q ts st) x = (stL E fid ts st re ∧ Gp E fid l k Q ts st) := ifK_t trivial
theorem ifk_qm {p : Prop} {re' : List PO} {l' : List (PO × List PO)} {ts' : List AVal} {st' : ASt} (h1 : p → Sp E fid (aexecOp E.P (ahint E fid ⟨d, op, ty, "", #[], none⟩) (aeval E ts) ⟨d, op, ty, "", #[], none⟩ st) d re l k Q ts) (h2 : ¬ p → stL E fid ts' st' re' ∧ Gp E fid l' k Q ts' st') : ifK p (Hq E fid op ty d re l k Q ts st) (Hm E fid re' l' k Q ts' st') := ⟨h1, h2⟩
theorem ifk_mq {p : Prop} {re' : List PO} {l' : List (PO × List PO)} {ts' : List AVal} {st' : ASt} (h1 : p → stL E fid ts' st' re' ∧ Gp E fid l' k Q ts' st') (h2 : ¬ p → Sp E fid (aexecOp E.P (ahint E fid ⟨d, op, ty, "", #[], none⟩) (aeval E ts) ⟨d, op, ty, "", #[], none⟩ st) d re l k Q ts) : ifK p (Hm E fid re' l' k Q ts' st') (Hq E fid op ty d re l k Q ts st) := ⟨h1, h2⟩
end
def Hz (E : Env) (fid : FuncId) (r : Option ANext) (d : Option Tmp) (re : List PO) (l : List (PO × List PO)) (k : List Frm) (Q : APost) (ts : List AVal) : Prop := Sp E fid r d re l k Q ts
section
variable {E : Env} {fid : FuncId} {k : List Frm} {Q : APost} {ts : List AVal} {st : ASt} {l : List (PO × List PO)} {d : Option Tmp} {re : List PO}
theorem sp_pick {c a b : Operand} {pos : String} {af : Array Edge} {gd : Option (Nat × Bool)} {mt : Bool} {d' : Option Tmp} {ty : TypeId} : Sp E fid (aexecOp E.P mt (aeval E ts) ⟨d', .pick c a b, ty, pos, af, gd⟩ st) d re l k Q ts = condK (aeval E ts c) (Hz E fid ((aeval E ts a).map (.val · st)) d re l k Q ts) (Hz E fid ((aeval E ts b).map (.val · st)) d re l k Q ts) := by
  have e : aexecOp E.P mt (aeval E ts) ⟨d', .pick c a b, ty, pos, af, gd⟩ st = (match aeval E ts c with
    | some (.lit (.bool true)) => (aeval E ts a).map (.val · st)
    | some (.lit (.bool false)) => (aeval E ts b).map (.val · st)
    | _ => none) := rfl
  rw [e]
  cases aeval E ts c with
  | none => rfl
  | some v =>
    cases v with
    | lit u =>
      cases u with
      | bool b => cases b <;> rfl
      | _ => rfl
    | _ => rfl
theorem ifk_zt' {y : Prop} {r : Option ANext} : ifK True (Hz E fid r d re l k Q ts) y = Sp E fid r d re l k Q ts := ifK_t trivial
theorem ifk_zf' {x : Prop} {r : Option ANext} : ifK False x (Hz E fid r d re l k Q ts) = Sp E fid r d re l k Q ts := ifK_f (fun h => h)
theorem ifk_zt {p : Prop} {y : Prop} {r : Option ANext} (h : p) : ifK p (Hz E fid r d re l k Q ts) y = Sp E fid r d re l k Q ts := ifK_t h
theorem ifk_zf {p : Prop} {x : Prop} {r : Option ANext} (h : ¬ p) : ifK p x (Hz E fid r d re l k Q ts) = Sp E fid r d re l k Q ts := ifK_f h
theorem ifk_zz {p : Prop} {r r' : Option ANext} (h1 : p → Sp E fid r d re l k Q ts) (h2 : ¬ p → Sp E fid r' d re l k Q ts) : ifK p (Hz E fid r d re l k Q ts) (Hz E fid r' d re l k Q ts) := ⟨h1, h2⟩
end
end Go.Proofs.YtpgcbmmifmnfpaaDoorA
