/- Operations on values without addresses, conversions, lengths. No condition. -/
import Derived.Test.YtjpehemkgikkdaaA10
namespace Go.Proofs.YtjpehemkgikkdaaA
open Go Go.RowKit
set_option linter.unusedVariables false
set_option linter.unusedSimpArgs false

/-! ### values without addresses -/
def valL : List AVal → Option (List Value)
  | [] => some []
  | .lit v :: r => (valL r).map (v :: ·)
  | _ :: _ => none

def valOf : AVal → Option Value
  | .lit v => some v
  | .agg cs => (valL cs).map fun l => .agg l.toArray
  | .tuple [] => some (.tuple #[])
  | .iface t v => (valOf v).map (.iface t)
  | _ => none

def absOf : Value → Option AVal
  | .agg cs => if cs.toList.all flat then some (.agg (cs.toList.map .lit)) else none
  | .tuple ⟨[]⟩ => some (.tuple [])
  | v => if flat v then some (.lit v) else none

theorem valL_rep {g : G} : ∀ (cs : List AVal) (us l : List Value), Reps g cs us → valL cs = some l → us = l
  | [], us, l, h, hv => by
    cases hv
    have := h.1
    simpa using this
  | .lit v :: r, us, l, h, hv => by
    obtain ⟨hl, hat⟩ := h
    match us, hl, hat with
    | u :: us, hl, hat =>
      simp only [valL] at hv
      cases hr : valL r with
      | none => rw [hr] at hv; cases hv
      | some l' =>
        rw [hr] at hv
        cases hv
        have h1 := (hat 0 _ u rfl rfl).flat
        have h2 := valL_rep r us l' ⟨by simpa using hl, fun j c u a b => hat (j + 1) c u (by simpa using a) (by simpa using b)⟩ hr
        rw [h1, h2]
  | .agg _ :: _, _, _, _, hv | .tuple _ :: _, _, _, _, hv | .ptr .. :: _, _, _, _, hv | .iptr _ :: _, _, _, _, hv | .slice .. :: _, _, _, _, hv | .islice .. :: _, _, _, _, hv | .map _ :: _, _, _, _, hv | .func .. :: _, _, _, _, hv
  | .iface .. :: _, _, _, _, hv => by cases hv

theorem valOf_rep {g : G} : ∀ {a : AVal} {u v : Value}, Rep g a u → valOf a = some v → u = v
  | .lit _, _, _, h, hv => by cases hv; exact h.flat
  | .agg cs, _, _, h, hv => by
    obtain ⟨us, rfl, hr, _⟩ := h.agg_inv
    simp only [valOf] at hv
    cases hl : valL cs with
    | none => rw [hl] at hv; cases hv
    | some l =>
      rw [hl] at hv
      cases hv
      rw [← valL_rep cs us.toList l hr hl]
  | .tuple [], _, _, h, hv => by
    cases hv
    cases h
    rename_i us hl _
    have : us = #[] := by simpa using hl
    rw [this]
  | .tuple (_ :: _), _, _, h, hv => by cases hv
  | .iface t a, _, _, h, hv => by
    simp only [valOf] at hv
    cases hl : valOf a with
    | none => rw [hl] at hv; cases hv
    | some l =>
      rw [hl] at hv
      cases hv
      cases h
      rename_i hr
      rw [valOf_rep hr hl]
  | .ptr .., _, _, h, hv | .iptr _, _, _, h, hv | .slice .., _, _, h, hv | .islice .., _, _, h, hv | .map _, _, _, h, hv | .func .., _, _, h, hv => by cases hv

theorem absOf_rep {g : G} {v : Value} {a : AVal} (h : absOf v = some a) : Rep g a v := by
  unfold absOf at h
  split at h
  · rename_i cs
    split at h
    · rename_i hf
      cases h
      have hr := reps_lits (g := g) hf
      exact .agg (by simp) (fun j c u a b => hr.2 j c u a (by simpa using b)) (fun c hc => by obtain ⟨u, _, rfl⟩ := List.mem_map.1 hc; rfl)
    · cases h
  · cases h; exact .tuple (by simp) (fun j c u a b => by simp at a)
  · split at h
    · rename_i hf
      cases h
      exact .lit hf
    · cases h

/-- what a computation answers that asks nothing but the program -/
def pureRun {α : Type} (P : Program) : Sem α → Option α
  | .pure a => some a
  | .program k => pureRun P (k P)
  | .mark _ k => pureRun P k
  | _ => none

theorem pureRun_run {α : Type} {P : Program} : ∀ (s : Sem α) (a : α), pureRun P s = some a → ∀ w, s.run P w = .ok a w
  | .pure b, a, h, w => by cases h; rfl
  | .program k, a, h, w => by
    have := pureRun_run (k P) a h w
    simpa [Sem.run] using this
  | .mark m k, a, h, w => by
    have := pureRun_run k a h w
    simpa [Sem.run] using this
  | .load .., a, h, w | .store .., a, h, w | .new .., a, h, w | .shape .., a, h, w | .freeze .., a, h, w | .frozen .., a, h, w | .getObj .., a, h, w | .setObj .., a, h, w | .choose .., a, h, w | .sys .., a, h, w | .halt _, a, h, w => by cases h

def pureV (P : Program) (s : Sem Value) : Option AVal := (pureRun P s).bind absOf

theorem pureV_sound {P : Program} {g : G} {w : World} {s : Sem Value} {a : AVal} (h : pureV P s = some a) : ∃ u, s.run P w = .ok u w ∧ Rep g a u := by
  unfold pureV at h
  cases hr : pureRun P s with
  | none => rw [hr] at h; cases h
  | some u =>
    rw [hr] at h
    exact ⟨u, pureRun_run s u hr w, absOf_rep h⟩

/-! ### the binary ones -/
/-- one side is nil, the other isn't -/
def nilEq (d : TypeDesc) (x y : AVal) : Bool :=
  match d, x, y with
  | .slice _, .lit (.slice none 0 0), .islice .. | .slice _, .islice .., .lit (.slice none 0 0) | .slice _, .lit (.slice none 0 0), .slice .. | .slice _, .slice .., .lit (.slice none 0 0) => true
  | .pointer _, .lit (.pointer none), .ptr .. | .pointer _, .ptr .., .lit (.pointer none) | .pointer _, .lit (.pointer none), .iptr .. | .pointer _, .iptr .., .lit (.pointer none) => true
  | .map _ _, .lit (.map none), .map _ | .map _ _, .map _, .lit (.map none) => true
  | .func _ _ _, .lit .nilFunc, .func .. | .func _ _ _, .func .., .lit .nilFunc => true
  | .interface _, .lit .nilIface, .iface .. | .interface _, .iface .., .lit .nilIface => true
  | _, _, _ => false

def binA (P : Program) (op : BinOp) (t : TypeId) (xo yo : Operand) (x y : AVal) : Option AVal :=
  match valOf x, valOf y with
  | some a, some b => pureV P (do eqGuard op t xo yo a b; binOp op t a b)
  | _, _ => match P.underlying t with
    | some d => if nilEq d x y = true then (match op with
        | .eql => some (.bool false)
        | .neq => some (.bool true)
        | _ => none) else none
    | none => none

theorem equal_deep {P : Program} {w : World} {t : TypeId} {a b : Value} {r : Bool} (h : ∀ d, (Op.equalIn (d + 1) t a b).run P w = .ok r w) : (Op.equal t a b).run P w = .ok r w := by
  unfold Op.equal
  exact h 9999

theorem nilEq_sound {P : Program} {g : G} {w : World} {d : TypeDesc} {t : TypeId} {x y : AVal} {a b : Value} (hd : P.underlying t = some d) (hx : Rep g x a) (hy : Rep g y b) (h : nilEq d x y = true) :
    (∀ xo yo op, (eqGuard op t xo yo a b).run P w = .ok () w) ∧ (binOp .eql t a b).run P w = .ok (.bool false) w ∧ (binOp .neq t a b).run P w = .ok (.bool true) w := by
  have key : ∀ {a b : Value}, (∀ xo yo op, eqGuard op t xo yo a b = (if !(op matches .eql | .neq) then pure () else pure ())) → (binOp .eql t a b = do pure (.bool (← Op.equal t a b))) → (binOp .neq t a b = do pure (.bool (!(← Op.equal t a b)))) →
      (Op.equal t a b).run P w = .ok false w → (∀ xo yo op, (eqGuard op t xo yo a b).run P w = .ok () w) ∧ (binOp .eql t a b).run P w = .ok (.bool false) w ∧ (binOp .neq t a b).run P w = .ok (.bool true) w := by
    intro a b h1 h2 h3 h4
    refine ⟨fun xo yo op => by rw [h1]; split <;> rfl, by rw [h2]; simp [h4], by rw [h3]; simp [h4]⟩
  unfold nilEq at h
  split at h <;> first
    | cases h; done
    | skip
  all_goals
    cases hx
    cases hy
    first
      | (refine key (fun xo yo op => ?_) rfl rfl ?_
         · unfold eqGuard; cases op <;> rfl
         · exact equal_deep (fun d => by simp [Op.equalIn, run_underlying_of hd]))
      | skip

end Go.Proofs.YtjpehemkgikkdaaA
