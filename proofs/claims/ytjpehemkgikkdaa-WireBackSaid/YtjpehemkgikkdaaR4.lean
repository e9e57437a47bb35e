/- A reader's Num: its plain form, and its parts. No condition. -/
import Derived.Test.YtjpehemkgikkdaaR3
import Derived.Test.YtjpehemkgikkdaaA21
namespace Go.Proofs.YtjpehemkgikkdaaV
open Go Go.RowKit Go.Proofs.YtjpehemkgikkdaaA
set_option linter.unusedVariables false
set_option linter.unusedSimpArgs false
set_option maxRecDepth 100000

/-- what a number's reading comes to: an error, or the number and how many bytes -/
def rd : List UInt8 → Nat → Nat → Nat → Nat ⊕ (Nat × Nat)
  | [], sh, n, k => .inl 3
  | c :: r, sh, n, k => if (sh = 63 ∧ 1 < c.toNat) ∨ (0 < sh ∧ c.toNat = 0) then .inl 1
      else if 128 ≤ c.toNat then rd r (sh + 7) (n ||| (c.toNat &&& 127) * 2 ^ sh) (k + 1) else .inr (n ||| (c.toNat &&& 127) * 2 ^ sh, k + 1)

noncomputable def nuScope : Code := (code Try.f35).snd.inn
noncomputable def nuPre : Code := .seq nuScope.fst nuScope.snd.fst
noncomputable def nuRest : Code := nuScope.snd.snd.snd

theorem nu_eq : code Try.f35 = .seq (code Try.f35).fst (.scope nuScope) := rfl
theorem nu_scope : nuScope = .seq nuScope.fst (.seq nuScope.snd.fst (.seq (.label 0) nuRest)) := rfl
theorem nu_label : ∃ rest, findLabel nuScope 0 = some rest := ⟨_, rfl⟩
theorem nu_from (call : ACall) (dr : Array Oper → Bool) (n : Nat) (ts : List AVal) (st : ASt) : afrom E 35 call dr n 0 nuScope ts st = aexec E 35 call dr n nuRest ts st := by
  rw [nu_scope]
  have e1 : findLabel nuScope.fst 0 = none := rfl
  have e2 : findLabel nuScope.snd.fst 0 = none := rfl
  have e3 : findLabel (.label 0) 0 = some .skip := rfl
  rw [afrom]
  simp only [e1]
  rw [afrom]
  simp only [e2]
  rw [afrom]
  simp only [e3]
  rw [afrom]
  simp only [if_true, aseq]

end Go.Proofs.YtjpehemkgikkdaaV
