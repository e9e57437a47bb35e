/- More rounds tell the same. No condition. -/
import Derived.Test.YtjpehemkgikkdaaA17
namespace Go.Proofs.YtjpehemkgikkdaaA
open Go Go.RowKit
set_option linter.unusedVariables false
set_option linter.unusedSimpArgs false

def LeR {α : Type} (x y : Option α) : Prop := ∀ r, x = some r → y = some r
theorem LeR.refl {α : Type} (x : Option α) : LeR x x := fun _ h => h
def LeC (c c' : ACall) : Prop := ∀ f args st, LeR (c f args st) (c' f args st)

section
variable {E : Env} {fid : FuncId} {c c' : ACall}

theorem aop_mono (h : LeC c c') (ops : Array Oper) (o : Oper) (ts : List AVal) (st : ASt) : LeR (aop E fid c ops o ts st) (aop E fid c' ops o ts st) := by
  intro r hr
  unfold aop at hr ⊢
  split at hr
  · rename_i hw
    rw [if_pos hw]
    cases hx : aexecOp E.P (ahint E fid o) (aeval E ts) o st with
    | none => rw [hx] at hr; cases hr
    | some x =>
      rw [hx] at hr
      cases x with
      | val v st' => exact hr
      | panic v st' => exact hr
      | enter f args st' =>
        simp only at hr ⊢
        cases hc : c f args st' with
        | none => rw [hc] at hr; cases hr
        | some q => rw [h f args st' q hc]; rw [hc] at hr; exact hr
  · rename_i hw
    rw [if_neg hw]
    exact hr

theorem aops_mono (h : LeC c c') (ops : Array Oper) : ∀ (l : List Oper) (ts : List AVal) (st : ASt), LeR (aops E fid c ops l ts st) (aops E fid c' ops l ts st)
  | [], ts, st => LeR.refl _
  | o :: l, ts, st => by
    intro r hr
    unfold aops at hr ⊢
    cases hx : aop E fid c ops o ts st with
    | none => rw [hx] at hr; cases hr
    | some x =>
      rw [aop_mono h ops o ts st x hx]
      rw [hx] at hr
      obtain ⟨v, ts', st'⟩ := x
      cases v with
      | none => exact aops_mono h ops l ts' st' r hr
      | some v => exact hr

theorem aopsP_mono (h : LeC c c') (ops : Array Oper) : ∀ (l : List (Nat × List Nat)) (ts : List AVal) (st : ASt), LeR (aopsP E fid c ops l ts st) (aopsP E fid c' ops l ts st)
  | [], ts, st => LeR.refl _
  | (i, re) :: l, ts, st => by
    intro r hr
    unfold aopsP at hr ⊢
    cases hi : ops[i]? with
    | none => rw [hi] at hr; cases hr
    | some o =>
      rw [hi] at hr
      simp only at hr ⊢
      cases hx : aop E fid c ops o ts st with
      | none => rw [hx] at hr; cases hr
      | some x =>
        rw [aop_mono h ops o ts st x hx]
        rw [hx] at hr
        obtain ⟨v, ts', st'⟩ := x
        cases v with
        | some v => cases hr
        | none =>
          simp only at hr ⊢
          cases re with
          | nil => exact aopsP_mono h ops l ts' st' r hr
          | cons k re =>
            simp only at hr ⊢
            split at hr
            · rename_i hs
              rw [if_pos hs]
              exact aopsP_mono h ops l ts' st' r hr
            · cases hr

theorem aseq_mono {x x' : ARes} {y y' : List AVal → ASt → ARes} (hx : LeR x x') (hy : ∀ ts st, LeR (y ts st) (y' ts st)) : LeR (aseq x y) (aseq x' y') := by
  intro r hr
  cases hxx : x with
  | none => rw [hxx] at hr; cases hr
  | some q =>
    rw [hx q hxx]
    rw [hxx] at hr
    obtain ⟨e, ts, st⟩ := q
    cases e with
    | normal => exact hy ts st r hr
    | _ => exact hr

theorem aloop_mono {b b' : List AVal → ASt → ARes} (hb : ∀ ts st, LeR (b ts st) (b' ts st)) : ∀ (n n' : Nat), n ≤ n' → ∀ ts st, LeR (aloop b n ts st) (aloop b' n' ts st)
  | 0, _, _, ts, st => fun r hr => by cases hr
  | n + 1, n', hn, ts, st => by
    obtain ⟨m, rfl⟩ : ∃ m, n' = m + 1 := ⟨n' - 1, by omega⟩
    unfold aloop
    exact aseq_mono (hb ts st) (fun ts st => aloop_mono hb n m (by omega) ts st)

theorem ascope_mono {fr fr' : Nat → List AVal → ASt → ARes} {code : Code} (hf : ∀ l ts st, LeR (fr l ts st) (fr' l ts st)) : ∀ (n n' : Nat), n ≤ n' → ∀ x x', LeR x x' → LeR (ascope fr code n x) (ascope fr' code n' x')
  | 0, _, _, x, x', _ => fun r hr => by cases x <;> simp [ascope] at hr
  | n + 1, n', hn, x, x', hx => by
    obtain ⟨m, rfl⟩ : ∃ m, n' = m + 1 := ⟨n' - 1, by omega⟩
    intro r hr
    cases hxx : x with
    | none => rw [hxx] at hr; cases hr
    | some q =>
      rw [hx q hxx]
      rw [hxx] at hr
      obtain ⟨e, ts, st⟩ := q
      cases e with
      | goto l =>
        unfold ascope at hr ⊢
        cases hl : findLabel code l with
        | none => simp only [hl] at hr ⊢; exact hr
        | some rest => simp only [hl] at hr ⊢; exact ascope_mono hf n m (by omega) _ _ (hf l ts st) r hr
      | _ => exact hr

theorem ablock_mono {id : Nat} {x x' : ARes} (h : LeR x x') : LeR (ablock id x) (ablock id x') := by
  intro r hr
  cases hx : x with
  | none => rw [hx] at hr; cases hr
  | some q => rw [h q hx]; rw [hx] at hr; exact hr

mutual
theorem aexec_mono (h : LeC c c') {dr : Array Oper → Bool} {n n' : Nat} (hn : n ≤ n') : ∀ (k : Code) (ts : List AVal) (st : ASt), LeR (aexec E fid c dr n k ts st) (aexec E fid c' dr n' k ts st)
  | .skip, ts, st => by rw [aexec, aexec]; exact LeR.refl _
  | .region id ops draw, ts, st => by
    rw [aexec, aexec]
    split
    · split
      · exact aopsP_mono h ops _ ts st
      · exact LeR.refl _
    · exact aops_mono h ops _ ts st
  | .seq a b, ts, st => by
    rw [aexec, aexec]
    exact aseq_mono (aexec_mono h hn a ts st) (fun ts st => aexec_mono h hn b ts st)
  | .cond k a b, ts, st => by
    rw [aexec, aexec]
    split
    · exact aexec_mono h hn a ts st
    · exact aexec_mono h hn b ts st
    · exact LeR.refl _
  | .block id k, ts, st => by
    rw [aexec, aexec]
    exact ablock_mono (aexec_mono h hn k ts st)
  | .loop k, ts, st => by
    rw [aexec, aexec]
    exact aloop_mono (fun ts st => aexec_mono h hn k ts st) n n' hn ts st
  | .scope k, ts, st => by
    rw [aexec, aexec]
    exact ascope_mono (fun l ts st => afrom_mono h hn l k ts st) n n' hn _ _ (aexec_mono h hn k ts st)
  | .exit id, ts, st => by rw [aexec, aexec]; exact LeR.refl _
  | .label l, ts, st => by rw [aexec, aexec]; exact LeR.refl _
  | .goto l, ts, st => by rw [aexec, aexec]; exact LeR.refl _
  | .ret, ts, st => by rw [aexec, aexec]; exact LeR.refl _
  | .rangeFunc .., ts, st => by intro r hr; simp [aexec] at hr
  | .refuse _, ts, st => by intro r hr; simp [aexec] at hr
theorem afrom_mono (h : LeC c c') {dr : Array Oper → Bool} {n n' : Nat} (hn : n ≤ n') (l : Nat) : ∀ (k : Code) (ts : List AVal) (st : ASt), LeR (afrom E fid c dr n l k ts st) (afrom E fid c' dr n' l k ts st)
  | .seq a b, ts, st => by
    rw [afrom, afrom]
    split
    · exact aseq_mono (afrom_mono h hn l a ts st) (fun ts st => aexec_mono h hn b ts st)
    · exact afrom_mono h hn l b ts st
  | .label l', ts, st => by rw [afrom, afrom]; exact LeR.refl _
  | .skip, ts, st | .region .., ts, st | .cond .., ts, st | .block .., ts, st | .loop .., ts, st | .scope .., ts, st | .exit _, ts, st | .goto _, ts, st | .ret, ts, st | .rangeFunc .., ts, st | .refuse _, ts, st => by
    intro r hr
    simp [afrom] at hr
end

theorem aend_mono {fn : Func} {x x' : ARes} (h : LeR x x') : LeR (aend E fn x) (aend E fn x') := by
  intro r hr
  cases hx : x with
  | none => rw [hx] at hr; cases hr
  | some q => rw [h q hx]; rw [hx] at hr; exact hr

theorem run_mono_step : ∀ (n : Nat), LeC (run E n) (run E (n + 1))
  | 0, f, args, st => fun r hr => by cases hr
  | n + 1, f, args, st => by
    have ih := run_mono_step n
    show LeR (acall E (drawB E) (n + 1) f args st) (acall E (drawB E) (n + 2) f args st)
    rw [acall, acall]
    split
    · split
      · exact aend_mono (aexec_mono ih (Nat.le_succ n) _ _ _)
      · exact LeR.refl _
    · exact LeR.refl _

theorem run_mono {n n' : Nat} (h : n ≤ n') : LeC (run E n) (run E n') := by
  induction h with
  | refl => exact fun _ _ _ => LeR.refl _
  | step _ ih => exact fun f args st r hr => run_mono_step _ f args st r (ih f args st r hr)

end

/-- a call comes to this -/
def Runs (E : Env) (f : FuncId) (args : List AVal) (st : ASt) (r : AEnd × ASt) : Prop := ∃ n, ∀ m, n ≤ m → run E m f args st = some r

theorem Runs.of {E : Env} {f : FuncId} {args : List AVal} {st : ASt} {r : AEnd × ASt} {n : Nat} (h : run E n f args st = some r) : Runs E f args st r :=
  ⟨n, fun m hm => run_mono hm f args st r h⟩

/-- it returns this -/
abbrev Rets (E : Env) (f : FuncId) (args : List AVal) (st : ASt) (v : AVal) (st' : ASt) : Prop := Runs E f args st (.returned v, st')

/-- it returns this, with so many rounds, or more -/
def RetN (E : Env) (d : Nat) (f : FuncId) (args : List AVal) (st : ASt) (v : AVal) (st' : ASt) : Prop := ∀ m, d ≤ m → run E m f args st = some (.returned v, st')

theorem RetN.of {E : Env} {f : FuncId} {args : List AVal} {st : ASt} {v : AVal} {st' : ASt} {n : Nat} (h : run E n f args st = some (.returned v, st')) : RetN E n f args st v st' :=
  fun m hm => run_mono hm f args st _ h

/-- a loop: what holds ahead of a round holds behind it, and a measure falls; or the loop is left -/
theorem aloop_rule {b : List AVal → ASt → ARes} (I : Nat → List AVal → ASt → Prop) (Q : AExit → List AVal → ASt → Prop)
    (step : ∀ i ts st, I i ts st → (∃ ts' st', b ts st = some (.normal, ts', st') ∧ ∃ j, j < i ∧ I j ts' st') ∨ (∃ e ts' st', b ts st = some (e, ts', st') ∧ e ≠ .normal ∧ Q e ts' st')) :
    ∀ n i ts st, I i ts st → i < n → ∃ e ts' st', aloop b n ts st = some (e, ts', st') ∧ Q e ts' st'
  | 0, i, ts, st, h, hn => by omega
  | n + 1, i, ts, st, h, hn => by
    rcases step i ts st h with ⟨ts', st', e, j, hj, hI⟩ | ⟨e, ts', st', h1, h2, h3⟩
    · obtain ⟨e2, ts2, st2, a, q⟩ := aloop_rule I Q step n j ts' st' hI (by omega)
      exact ⟨e2, ts2, st2, by rw [aloop, e]; exact a, q⟩
    · refine ⟨e, ts', st', ?_, h3⟩
      rw [aloop, h1]
      cases e <;> first | rfl | exact absurd rfl h2

theorem aseq_assoc (x : ARes) (f g : List AVal → ASt → ARes) : aseq (aseq x f) g = aseq x (fun ts st => aseq (f ts st) g) := by
  cases x with
  | none => rfl
  | some r =>
    obtain ⟨e, ts, st⟩ := r
    cases e <;> rfl

section
variable {E : Env} {fid : FuncId} {call : ACall} {dr : Array Oper → Bool} {n : Nat}
theorem aexec_seq (a b : Code) : aexec E fid call dr n (.seq a b) = fun ts st => aseq (aexec E fid call dr n a ts st) (aexec E fid call dr n b) := by funext ts st; rw [aexec]
theorem aexec_block (i : Nat) (a : Code) : aexec E fid call dr n (.block i a) = fun ts st => ablock i (aexec E fid call dr n a ts st) := by funext ts st; rw [aexec]
theorem aexec_loop (a : Code) : aexec E fid call dr n (.loop a) = fun ts st => aloop (aexec E fid call dr n a) n ts st := by funext ts st; rw [aexec]
end

/-! ### parts of code -/
def _root_.Go.Code.fst : Code → Code | .seq a _ => a | c => c
def _root_.Go.Code.snd : Code → Code | .seq _ b => b | c => c
def _root_.Go.Code.ops : Code → Array Oper | .region _ ops _ => ops | _ => #[]
def _root_.Go.Code.yes : Code → Code | .cond _ a _ => a | c => c
def _root_.Go.Code.no : Code → Code | .cond _ _ b => b | c => c
def _root_.Go.Code.inn : Code → Code | .block _ (.loop c) => c | .block _ c => c | .loop c => c | .scope c => c | c => c

end Go.Proofs.YtjpehemkgikkdaaA
