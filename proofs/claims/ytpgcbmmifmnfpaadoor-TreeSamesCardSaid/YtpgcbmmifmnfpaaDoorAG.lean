/- Scopes with labels: a rule for jumps back. No condition. -/
import Derived.Test.YtpgcbmmifmnfpaaDoorAF
namespace Go.Proofs.YtpgcbmmifmnfpaaDoorA
open Go Go.RowKit
set_option linter.unusedVariables false
set_option linter.unusedSimpArgs false

theorem lec_refl (c : ACall) : LeC c c := fun _ _ _ => LeR.refl _
theorem afrom_skip {E : Env} {fid : FuncId} {call : ACall} {dr : Array Oper → Bool} {n l : Nat} {a b : Code} (h : findLabel a l = none) (ts : List AVal) (st : ASt) : afrom E fid call dr n l (.seq a b) ts st = afrom E fid call dr n l b ts st := by
  rw [afrom, h]
theorem afrom_hit {E : Env} {fid : FuncId} {call : ACall} {dr : Array Oper → Bool} {n l : Nat} {b : Code} (ts : List AVal) (st : ASt) : afrom E fid call dr n l (.seq (.label l) b) ts st = aexec E fid call dr n b ts st := by
  have h : ∃ r, findLabel (.label l) l = some r := ⟨.skip, by unfold findLabel; simp⟩
  obtain ⟨r, h⟩ := h
  rw [afrom, h]
  simp only
  rw [afrom, if_pos rfl]
  rfl
theorem aw_scope {E : Env} {fid : FuncId} {c : Code} {Q : APost} (k : Nat) (T : Nat → Code)
    (hT : ∀ l, l < k → (∃ r, findLabel c l = some r) ∧ ∀ n ts st, afrom E fid (rw E) (drawB E fid) n l c ts st = aexec E fid (rw E) (drawB E fid) n (T l) ts st)
    (I : Nat → Nat → List AVal → ASt → Prop)
    (step : ∀ i l ts st, l < k → I i l ts st → Wp E fid (T l) ts st (fun e ts st => (∃ l', e = .goto l' ∧ l' < k ∧ ∃ j, j < i ∧ I j l' ts st) ∨ ((∀ l', e ≠ .goto l') ∧ Q e ts st)))
    {ts : List AVal} {st : ASt} (h0 : Wp E fid c ts st (fun e ts st => (∃ l', e = .goto l' ∧ l' < k ∧ ∃ i, I i l' ts st) ∨ ((∀ l', e ≠ .goto l') ∧ Q e ts st))) : Wp E fid (.scope c) ts st Q := by
  have key : ∀ i l ts st, l < k → I i l ts st → ∃ n e ts' st', ascope (fun l => afrom E fid (rw E) (drawB E fid) n l c) c n (afrom E fid (rw E) (drawB E fid) n l c ts st) = some (e, ts', st') ∧ Q e ts' st' := by
    intro i
    induction i using Nat.strongRecOn with
    | ind i ih =>
      intro l ts st hl hI
      obtain ⟨m1, e, ts1, st1, h1, h2⟩ := step i l ts st hl hI
      rcases h2 with ⟨l', rfl, hl', j, hj, hI'⟩ | ⟨hne, hq⟩
      · obtain ⟨m2, e2, ts2, st2, h3, h4⟩ := ih j hj l' ts1 st1 hl' hI'
        refine ⟨max m1 m2 + 1, e2, ts2, st2, ?_, h4⟩
        have a1 : afrom E fid (rw E) (drawB E fid) (max m1 m2 + 1) l c ts st = some (.goto l', ts1, st1) := by
          rw [(hT l hl).2]
          exact aexec_mono (lec_refl _) (by omega) _ _ _ _ h1
        rw [a1]
        obtain ⟨r, hr⟩ := (hT l' hl').1
        rw [ascope, hr]
        exact ascope_mono (fun l ts st => afrom_mono (lec_refl _) (by omega) l c ts st) m2 (max m1 m2) (by omega) _ _ (afrom_mono (lec_refl _) (by omega) l' c ts1 st1) _ h3
      · refine ⟨m1 + 1, e, ts1, st1, ?_, hq⟩
        have a1 : afrom E fid (rw E) (drawB E fid) (m1 + 1) l c ts st = some (e, ts1, st1) := by
          rw [(hT l hl).2]
          exact aexec_mono (lec_refl _) (by omega) _ _ _ _ h1
        rw [a1]
        cases e <;> first | rfl | exact absurd rfl (hne _)
  obtain ⟨m1, e, ts1, st1, h1, h2⟩ := h0
  rcases h2 with ⟨l', rfl, hl', i, hI'⟩ | ⟨hne, hq⟩
  · obtain ⟨m2, e2, ts2, st2, h3, h4⟩ := key i l' ts1 st1 hl' hI'
    refine ⟨max m1 m2 + 1, e2, ts2, st2, ?_, h4⟩
    have a1 : aexec E fid (rw E) (drawB E fid) (max m1 m2 + 1) c ts st = some (.goto l', ts1, st1) := aexec_mono (lec_refl _) (by omega) _ _ _ _ h1
    rw [aexec, a1]
    obtain ⟨r, hr⟩ := (hT l' hl').1
    rw [ascope, hr]
    exact ascope_mono (fun l ts st => afrom_mono (lec_refl _) (by omega) l c ts st) m2 (max m1 m2) (by omega) _ _ (afrom_mono (lec_refl _) (by omega) l' c ts1 st1) _ h3
  · refine ⟨m1 + 1, e, ts1, st1, ?_, hq⟩
    have a1 : aexec E fid (rw E) (drawB E fid) (m1 + 1) c ts st = some (e, ts1, st1) := aexec_mono (lec_refl _) (by omega) _ _ _ _ h1
    rw [aexec, a1]
    cases e <;> first | rfl | exact absurd rfl (hne _)
end Go.Proofs.YtpgcbmmifmnfpaaDoorA
