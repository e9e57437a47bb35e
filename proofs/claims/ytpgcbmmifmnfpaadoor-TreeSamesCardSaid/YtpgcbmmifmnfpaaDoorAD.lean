/- More rounds tell the same. No condition. -/
import Derived.Test.YtpgcbmmifmnfpaaDoorAC
import Derived.ChangeOld
import Derived.Deep.Slices
namespace Go.Proofs.YtpgcbmmifmnfpaaDoorA
open Go Go.RowKit
set_option linter.unusedVariables false
set_option linter.unusedSimpArgs false

def LeR {α : Type} (x y : Option α) : Prop := ∀ r, x = some r → y = some r
theorem LeR.refl {α : Type} (x : Option α) : LeR x x := fun _ h => h
def LeC (c c' : ACall) : Prop := ∀ f args st, LeR (c f args st) (c' f args st)

section
variable {E : Env} {fid : FuncId} {c c' : ACall}

theorem aop_mono (h : LeC c c') (ops : Array Oper) (o : Oper) (ts : List AVal) (st : ASt) : LeR (aop E fid c ops o ts st) (aop E fid c' ops o ts st) := by
  intro r hr
  unfold aop at hr ⊢
  split at hr
  · rename_i hw
    rw [if_pos hw]
    cases hx : aexecOp E.P (ahint E fid o) (aeval E ts) o st with
    | none => rw [hx] at hr; cases hr
    | some x =>
      rw [hx] at hr
      cases x with
      | val v st' => exact hr
      | panic v st' => exact hr
      | enter f args st' =>
        simp only at hr ⊢
        cases hc : c f args st' with
        | none => rw [hc] at hr; cases hr
        | some q => rw [h f args st' q hc]; rw [hc] at hr; exact hr
  · rename_i hw
    rw [if_neg hw]
    exact hr

theorem aops_mono (h : LeC c c') (ops : Array Oper) : ∀ (l : List Oper) (ts : List AVal) (st : ASt), LeR (aops E fid c ops l ts st) (aops E fid c' ops l ts st)
  | [], ts, st => LeR.refl _
  | o :: l, ts, st => by
    intro r hr
    unfold aops at hr ⊢
    cases hx : aop E fid c ops o ts st with
    | none => rw [hx] at hr; cases hr
    | some x =>
      rw [aop_mono h ops o ts st x hx]
      rw [hx] at hr
      obtain ⟨v, ts', st'⟩ := x
      cases v with
      | none => exact aops_mono h ops l ts' st' r hr
      | some v => exact hr

theorem aopsP_mono (h : LeC c c') (ops : Array Oper) : ∀ (l : List PStep) (ts : List AVal) (st : ASt), LeR (aopsP E fid c ops l ts st) (aopsP E fid c' ops l ts st)
  | [], ts, st => LeR.refl _
  | .one i re :: l, ts, st => by
    intro r hr
    unfold aopsP at hr ⊢
    cases hi : ops[i]? with
    | none => rw [hi] at hr; cases hr
    | some o =>
      rw [hi] at hr
      simp only at hr ⊢
      cases hx : aop E fid c ops o ts st with
      | none => rw [hx] at hr; cases hr
      | some x =>
        rw [aop_mono h ops o ts st x hx]
        rw [hx] at hr
        obtain ⟨v, ts', st'⟩ := x
        cases v with
        | some v => cases hr
        | none =>
          simp only at hr ⊢
          cases re with
          | nil => exact aopsP_mono h ops l ts' st' r hr
          | cons k re =>
            simp only at hr ⊢
            split at hr
            · rename_i hs
              rw [if_pos hs]
              exact aopsP_mono h ops l ts' st' r hr
            · cases hr
  | .two i j ri rj rij :: l, ts, st => by
    intro r hr
    unfold aopsP at hr ⊢
    split at hr
    · rename_i oi oj hi hj
      try simp only [hi, hj]
      split at hr
      · rename_i ts1 st1 h1
        rw [aop_mono h ops oi ts st _ h1]
        try simp only
        split at hr
        · rename_i ts2 st2 h2
          rw [aop_mono h ops oj ts1 st1 _ h2]
          try simp only
          split at hr
          · rename_i ts3 st3 h3
            rw [aop_mono h ops oj ts st.bump _ h3]
            try simp only
            split at hr
            · rename_i ts4 st4 h4
              try rw [h4]
              try simp only
              split at hr
              · rename_i hs
                rw [if_pos hs]
                exact aopsP_mono h ops l ts2 st2 r hr
              · cases hr
            · cases hr
          · cases hr
        · cases hr
      · cases hr
    · cases hr

theorem aseq_mono {x x' : ARes} {y y' : List AVal → ASt → ARes} (hx : LeR x x') (hy : ∀ ts st, LeR (y ts st) (y' ts st)) : LeR (aseq x y) (aseq x' y') := by
  intro r hr
  cases hxx : x with
  | none => rw [hxx] at hr; cases hr
  | some q =>
    rw [hx q hxx]
    rw [hxx] at hr
    obtain ⟨e, ts, st⟩ := q
    cases e with
    | normal => exact hy ts st r hr
    | _ => exact hr

theorem aloop_mono {b b' : List AVal → ASt → ARes} (hb : ∀ ts st, LeR (b ts st) (b' ts st)) : ∀ (n n' : Nat), n ≤ n' → ∀ ts st, LeR (aloop b n ts st) (aloop b' n' ts st)
  | 0, _, _, ts, st => fun r hr => by cases hr
  | n + 1, n', hn, ts, st => by
    obtain ⟨m, rfl⟩ : ∃ m, n' = m + 1 := ⟨n' - 1, by omega⟩
    unfold aloop
    exact aseq_mono (hb ts st) (fun ts st => aloop_mono hb n m (by omega) ts st)

theorem ascope_mono {fr fr' : Nat → List AVal → ASt → ARes} {code : Code} (hf : ∀ l ts st, LeR (fr l ts st) (fr' l ts st)) : ∀ (n n' : Nat), n ≤ n' → ∀ x x', LeR x x' → LeR (ascope fr code n x) (ascope fr' code n' x')
  | 0, _, _, x, x', _ => fun r hr => by cases x <;> simp [ascope] at hr
  | n + 1, n', hn, x, x', hx => by
    obtain ⟨m, rfl⟩ : ∃ m, n' = m + 1 := ⟨n' - 1, by omega⟩
    intro r hr
    cases hxx : x with
    | none => rw [hxx] at hr; cases hr
    | some q =>
      rw [hx q hxx]
      rw [hxx] at hr
      obtain ⟨e, ts, st⟩ := q
      cases e with
      | goto l =>
        unfold ascope at hr ⊢
        cases hl : findLabel code l with
        | none => simp only [hl] at hr ⊢; exact hr
        | some rest => simp only [hl] at hr ⊢; exact ascope_mono hf n m (by omega) _ _ (hf l ts st) r hr
      | _ => exact hr

theorem ablock_mono {id : Nat} {x x' : ARes} (h : LeR x x') : LeR (ablock id x) (ablock id x') := by
  intro r hr
  cases hx : x with
  | none => rw [hx] at hr; cases hr
  | some q => rw [h q hx]; rw [hx] at hr; exact hr

mutual
theorem aexec_mono (h : LeC c c') {dr : Array Oper → Bool} {n n' : Nat} (hn : n ≤ n') : ∀ (k : Code) (ts : List AVal) (st : ASt), LeR (aexec E fid c dr n k ts st) (aexec E fid c' dr n' k ts st)
  | .skip, ts, st => by rw [aexec, aexec]; exact LeR.refl _
  | .region id ops draw, ts, st => by
    rw [aexec, aexec]
    split
    · split
      · exact aopsP_mono h ops _ ts st
      · exact LeR.refl _
    · exact aops_mono h ops _ ts st
  | .seq a b, ts, st => by
    rw [aexec, aexec]
    exact aseq_mono (aexec_mono h hn a ts st) (fun ts st => aexec_mono h hn b ts st)
  | .cond k a b, ts, st => by
    rw [aexec, aexec]
    split
    · exact aexec_mono h hn a ts st
    · exact aexec_mono h hn b ts st
    · exact LeR.refl _
  | .block id k, ts, st => by
    rw [aexec, aexec]
    exact ablock_mono (aexec_mono h hn k ts st)
  | .loop k, ts, st => by
    rw [aexec, aexec]
    exact aloop_mono (fun ts st => aexec_mono h hn k ts st) n n' hn ts st
  | .scope k, ts, st => by
    rw [aexec, aexec]
    exact ascope_mono (fun l ts st => afrom_mono h hn l k ts st) n n' hn _ _ (aexec_mono h hn k ts st)
  | .exit id, ts, st => by rw [aexec, aexec]; exact LeR.refl _
  | .label l, ts, st => by rw [aexec, aexec]; exact LeR.refl _
  | .goto l, ts, st => by rw [aexec, aexec]; exact LeR.refl _
  | .ret, ts, st => by rw [aexec, aexec]; exact LeR.refl _
  | .rangeFunc .., ts, st => by intro r hr; simp [aexec] at hr
  | .refuse _, ts, st => by intro r hr; simp [aexec] at hr
theorem afrom_mono (h : LeC c c') {dr : Array Oper → Bool} {n n' : Nat} (hn : n ≤ n') (l : Nat) : ∀ (k : Code) (ts : List AVal) (st : ASt), LeR (afrom E fid c dr n l k ts st) (afrom E fid c' dr n' l k ts st)
  | .seq a b, ts, st => by
    rw [afrom, afrom]
    split
    · exact aseq_mono (afrom_mono h hn l a ts st) (fun ts st => aexec_mono h hn b ts st)
    · exact afrom_mono h hn l b ts st
  | .label l', ts, st => by rw [afrom, afrom]; exact LeR.refl _
  | .skip, ts, st | .region .., ts, st | .cond .., ts, st | .block .., ts, st | .loop .., ts, st | .scope .., ts, st | .exit _, ts, st | .goto _, ts, st | .ret, ts, st | .rangeFunc .., ts, st | .refuse _, ts, st => by
    intro r hr
    simp [afrom] at hr
end

theorem aend_mono {fn : Func} {x x' : ARes} (h : LeR x x') : LeR (aend E fn x) (aend E fn x') := by
  intro r hr
  cases hx : x with
  | none => rw [hx] at hr; cases hr
  | some q => rw [h q hx]; rw [hx] at hr; exact hr

theorem run_mono_step : ∀ (n : Nat), LeC (run E n) (run E (n + 1))
  | 0, f, args, st => fun r hr => by cases hr
  | n + 1, f, args, st => by
    have ih := run_mono_step n
    show LeR (acall E (drawB E) (n + 1) f args st) (acall E (drawB E) (n + 2) f args st)
    rw [acall, acall]
    split
    · exact LeR.refl _
    split
    · split
      · exact aend_mono (aexec_mono ih (Nat.le_succ n) _ _ _)
      · exact LeR.refl _
    · exact LeR.refl _

theorem run_mono {n n' : Nat} (h : n ≤ n') : LeC (run E n) (run E n') := by
  induction h with
  | refl => exact fun _ _ _ => LeR.refl _
  | step _ ih => exact fun f args st r hr => run_mono_step _ f args st r (ih f args st r hr)

end

/-- a call comes to this -/
def Runs (E : Env) (f : FuncId) (args : List AVal) (st : ASt) (r : AEnd × ASt) : Prop := ∃ n, ∀ m, n ≤ m → run E m f args st = some r

theorem Runs.of {E : Env} {f : FuncId} {args : List AVal} {st : ASt} {r : AEnd × ASt} {n : Nat} (h : run E n f args st = some r) : Runs E f args st r :=
  ⟨n, fun m hm => run_mono hm f args st r h⟩

/-- it returns this -/
abbrev Rets (E : Env) (f : FuncId) (args : List AVal) (st : ASt) (v : AVal) (st' : ASt) : Prop := Runs E f args st (.returned v, st')

/-- it returns this, with so many rounds, or more -/
def RetN (E : Env) (d : Nat) (f : FuncId) (args : List AVal) (st : ASt) (v : AVal) (st' : ASt) : Prop := ∀ m, d ≤ m → run E m f args st = some (.returned v, st')

theorem RetN.of {E : Env} {f : FuncId} {args : List AVal} {st : ASt} {v : AVal} {st' : ASt} {n : Nat} (h : run E n f args st = some (.returned v, st')) : RetN E n f args st v st' :=
  fun m hm => run_mono hm f args st _ h

/-- a loop: what holds ahead of a round holds behind it, and a measure falls; or the loop is left -/
theorem aloop_rule {b : List AVal → ASt → ARes} (I : Nat → List AVal → ASt → Prop) (Q : AExit → List AVal → ASt → Prop)
    (step : ∀ i ts st, I i ts st → (∃ ts' st', b ts st = some (.normal, ts', st') ∧ ∃ j, j < i ∧ I j ts' st') ∨ (∃ e ts' st', b ts st = some (e, ts', st') ∧ e ≠ .normal ∧ Q e ts' st')) :
    ∀ n i ts st, I i ts st → i < n → ∃ e ts' st', aloop b n ts st = some (e, ts', st') ∧ Q e ts' st'
  | 0, i, ts, st, h, hn => by omega
  | n + 1, i, ts, st, h, hn => by
    rcases step i ts st h with ⟨ts', st', e, j, hj, hI⟩ | ⟨e, ts', st', h1, h2, h3⟩
    · obtain ⟨e2, ts2, st2, a, q⟩ := aloop_rule I Q step n j ts' st' hI (by omega)
      exact ⟨e2, ts2, st2, by rw [aloop, e]; exact a, q⟩
    · refine ⟨e, ts', st', ?_, h3⟩
      rw [aloop, h1]
      cases e <;> first | rfl | exact absurd rfl h2

theorem aseq_assoc (x : ARes) (f g : List AVal → ASt → ARes) : aseq (aseq x f) g = aseq x (fun ts st => aseq (f ts st) g) := by
  cases x with
  | none => rfl
  | some r =>
    obtain ⟨e, ts, st⟩ := r
    cases e <;> rfl

section
variable {E : Env} {fid : FuncId} {call : ACall} {dr : Array Oper → Bool} {n : Nat}
theorem aexec_seq (a b : Code) : aexec E fid call dr n (.seq a b) = fun ts st => aseq (aexec E fid call dr n a ts st) (aexec E fid call dr n b) := by funext ts st; rw [aexec]
theorem aexec_block (i : Nat) (a : Code) : aexec E fid call dr n (.block i a) = fun ts st => ablock i (aexec E fid call dr n a ts st) := by funext ts st; rw [aexec]
theorem aexec_loop (a : Code) : aexec E fid call dr n (.loop a) = fun ts st => aloop (aexec E fid call dr n a) n ts st := by funext ts st; rw [aexec]
end

/-! ### parts of code -/
def _root_.Go.Code.fst : Code → Code | .seq a _ => a | c => c
def _root_.Go.Code.snd : Code → Code | .seq _ b => b | c => c
def _root_.Go.Code.ops : Code → Array Oper | .region _ ops _ => ops | _ => #[]
def _root_.Go.Code.yes : Code → Code | .cond _ a _ => a | c => c
def _root_.Go.Code.no : Code → Code | .cond _ _ b => b | c => c
def _root_.Go.Code.inn : Code → Code | .block _ (.loop c) => c | .block _ c => c | .loop c => c | .scope c => c | c => c

end Go.Proofs.YtpgcbmmifmnfpaaDoorA

/- How single operations of the second reading are reckoned. No condition. -/
namespace Go.Proofs.YtpgcbmmifmnfpaaDoorA
open Go Go.RowKit
set_option linter.unusedVariables false
set_option linter.unusedSimpArgs false

/-! ### numbers, whatever the program -/
section
variable (P : Program) (t : TypeId) (xo yo : Operand) (k yk : IntKind) (a b : Int)
theorem b_lss : binA P .lss t xo yo (.lit (.int k a)) (.lit (.int k b)) = some (.lit (.bool (decide (a < b)))) := by cases k <;> rfl
theorem b_leq : binA P .leq t xo yo (.lit (.int k a)) (.lit (.int k b)) = some (.lit (.bool (decide (a ≤ b)))) := by cases k <;> rfl
theorem b_gtr : binA P .gtr t xo yo (.lit (.int k a)) (.lit (.int k b)) = some (.lit (.bool (decide (a > b)))) := by cases k <;> rfl
theorem b_geq : binA P .geq t xo yo (.lit (.int k a)) (.lit (.int k b)) = some (.lit (.bool (decide (a ≥ b)))) := by cases k <;> rfl
theorem b_eql : binA P .eql t xo yo (.lit (.int k a)) (.lit (.int k b)) = some (.lit (.bool (a == b))) := by cases k <;> rfl
theorem b_neq : binA P .neq t xo yo (.lit (.int k a)) (.lit (.int k b)) = some (.lit (.bool (a != b))) := by cases k <;> rfl
theorem b_add : binA P .add t xo yo (.lit (.int k a)) (.lit (.int k b)) = some (.lit (.int k (k.wrap (a + b)))) := by cases k <;> rfl
theorem b_sub : binA P .sub t xo yo (.lit (.int k a)) (.lit (.int k b)) = some (.lit (.int k (k.wrap (a - b)))) := by cases k <;> rfl
theorem b_mul : binA P .mul t xo yo (.lit (.int k a)) (.lit (.int k b)) = some (.lit (.int k (k.wrap (a * b)))) := by cases k <;> rfl
theorem b_and : binA P .and t xo yo (.lit (.int k a)) (.lit (.int k b)) = some (.lit (.int k (k.wrap (BitVec.ofInt k.bits a &&& BitVec.ofInt k.bits b).toNat))) := by cases k <;> rfl
theorem b_or : binA P .or t xo yo (.lit (.int k a)) (.lit (.int k b)) = some (.lit (.int k (k.wrap (BitVec.ofInt k.bits a ||| BitVec.ofInt k.bits b).toNat))) := by cases k <;> rfl
theorem b_xor : binA P .xor t xo yo (.lit (.int k a)) (.lit (.int k b)) = some (.lit (.int k (k.wrap (BitVec.ofInt k.bits a ^^^ BitVec.ofInt k.bits b).toNat))) := by cases k <;> rfl
theorem b_shr (h : 0 ≤ b) : binA P .shr t xo yo (.lit (.int k a)) (.lit (.int yk b)) = some (.lit (.int k (a.fdiv (2 ^ min b.toNat k.bits)))) := by
  have : (eqGuard .shr t xo yo (.int k a) (.int yk b)) = pure () := rfl
  simp only [binA, eqAggA, valOf, this, pureV]
  have e : binOp .shr t (.int k a) (.int yk b) = (pure (.int k (a.fdiv (2 ^ min b.toNat k.bits))) : Sem Value) := by
    simp only [binOp, Op.shift]
    rw [if_neg (by omega)]
  rw [e]
  rfl
theorem b_shl (h : 0 ≤ b) : binA P .shl t xo yo (.lit (.int k a)) (.lit (.int yk b)) = some (.lit (.int k (k.wrap (a * 2 ^ min b.toNat k.bits)))) := by
  have : (eqGuard .shl t xo yo (.int k a) (.int yk b)) = pure () := rfl
  simp only [binA, eqAggA, valOf, this, pureV]
  have e : binOp .shl t (.int k a) (.int yk b) = (pure (.int k (k.wrap (a * 2 ^ min b.toNat k.bits))) : Sem Value) := by
    simp only [binOp, Op.shift]
    rw [if_neg (by omega)]
  rw [e]
  rfl
end

section
variable (P : Program) (t : TypeId) (xo yo : Operand) (k : IntKind) (a b : Int)
theorem b_quo (h : b ≠ 0) : binA P .quo t xo yo (.lit (.int k a)) (.lit (.int k b)) = some (.lit (.int k (k.wrap (a.tdiv b)))) := by
  have : (eqGuard .quo t xo yo (.int k a) (.int k b)) = pure () := rfl
  simp only [binA, eqAggA, valOf, this, pureV]
  have e : binOp .quo t (.int k a) (.int k b) = (pure (.int k (k.wrap (a.tdiv b))) : Sem Value) := by
    have e0 : binOp .quo t (.int k a) (.int k b) = Op.intDiv .quo k a b := by cases k <;> rfl
    rw [e0]
    unfold Op.intDiv
    rw [if_neg h]
  rw [e]
  rfl
theorem b_rem (h : b ≠ 0) : binA P .rem t xo yo (.lit (.int k a)) (.lit (.int k b)) = some (.lit (.int k (a.tmod b))) := by
  have : (eqGuard .rem t xo yo (.int k a) (.int k b)) = pure () := rfl
  simp only [binA, eqAggA, valOf, this, pureV]
  have e : binOp .rem t (.int k a) (.int k b) = (pure (.int k (a.tmod b)) : Sem Value) := by
    have e0 : binOp .rem t (.int k a) (.int k b) = Op.intDiv .rem k a b := by cases k <;> rfl
    rw [e0]
    unfold Op.intDiv
    rw [if_neg h]
  rw [e]
  rfl
end

theorem pureRun_bind {α β : Type} {P : Program} : ∀ (x : Sem α) (f : α → Sem β), pureRun P (x >>= f) = (pureRun P x).bind fun a => pureRun P (f a)
  | .pure a, f => rfl
  | .program k, f => pureRun_bind (k P) f
  | .mark m k, f => pureRun_bind k f
  | .load .., f | .store .., f | .new .., f | .shape .., f | .freeze .., f | .frozen .., f | .getObj .., f | .setObj .., f | .choose .., f | .sys .., f | .halt _, f => rfl

theorem pureRun_underlying {P : Program} {t : TypeId} {d : TypeDesc} (h : P.underlying t = some d) : pureRun P (underlying t) = some d := by
  unfold underlying
  rw [pureRun_bind]
  show (some P).bind _ = _
  simp only [Option.bind_some, h]
  rfl

theorem c_int {P : Program} {mt : Bool} {src dst : TypeId} {k k' : IntKind} {n : Int} {st : ASt} {d : TypeDesc} (hs : P.underlying src = some d) (hd : P.underlying dst = some (.int k')) :
    convA P mt src dst (.lit (.int k n)) st = some (.lit (.int k' (k'.wrap n)), st) := by
  have : pureRun P (convert src dst (.int k n)) = some (.int k' (k'.wrap n)) := by
    unfold convert
    rw [pureRun_bind, pureRun_underlying hs]
    simp only [Option.bind_some]
    rw [pureRun_bind, pureRun_underlying hd]
    simp only [Option.bind_some]
    rfl
  simp only [convA, valOf, pureV, this]
  rfl

theorem pure_equal {P : Program} {t : TypeId} {a b : Value} {r : Bool} (h : ∀ d, pureRun P (Op.equalIn (d + 1) t a b) = some r) : pureRun P (Op.equal t a b) = some r := by
  unfold Op.equal
  exact h 9999

theorem b_eqb {P : Program} {t : TypeId} {xo yo : Operand} {a b : Bool} (h : P.underlying t = some .bool) : binA P .eql t xo yo (.lit (.bool a)) (.lit (.bool b)) = some (.lit (.bool (a == b))) := by
  have e : pureRun P (Op.equal t (.bool a) (.bool b)) = some (a == b) := pure_equal fun d => by
    unfold Op.equalIn
    rw [pureRun_bind, pureRun_underlying h]
    rfl
  have : pureRun P (do eqGuard .eql t xo yo (.bool a) (.bool b); binOp .eql t (.bool a) (.bool b)) = some (.bool (a == b)) := by
    show pureRun P ((do pure (Value.bool (← Op.equal t (.bool a) (.bool b))) : Sem Value)) = _
    rw [pureRun_bind, e]
    rfl
  simp only [binA, eqAggA, valOf, pureV, this]
  rfl

theorem sb1 : ((some false : Option Bool) == some true) = false := rfl
theorem sb2 : ((some true : Option Bool) == some false) = false := rfl
theorem sb3 : ((some true : Option Bool) == some true) = true := rfl
theorem sb4 : ((some false : Option Bool) == some false) = true := rfl

/-! ### slices of one type -/
structure SlT (P : Program) (t e : TypeId) (agg : Bool) (sz : Nat) : Prop where
  elem : sliceElem P t = some e
  aggT : aggT P e = some agg
  info : ∃ i z, P.info? e = some i ∧ i.size = sz ∧ i.bytes ≤ 4096 ∧ zeroA P e = some z ∧ elemOk agg sz z = true
  pos : 0 < sz

section
variable {P : Program} {t e : TypeId} {agg : Bool} {sz : Nat} {st : ASt}

theorem src_islice (h : SlT P t e agg sz) {ns : List AVal} {c : Cap} (hn : ns.all (elemOk agg sz) = true) : srcA P e t agg sz st (.islice sz ns c) = some ns := by
  unfold srcA
  rw [sliceElem_inv h.elem]
  simp only
  rw [if_pos ⟨trivial, hn⟩]

theorem app_none {s : AVal} (h : SlT P t e agg sz) {x : AVal} (hx : srcA P e t agg sz st x = some []) {mt : Bool} (hs : s = .nilSlice ∨ (∃ es c, s = .islice sz es c)) : appendA P mt t t s x st = some (s, st) := by
  obtain ⟨i, z, hi, rfl, hb, hz, hzk⟩ := h.info
  refine app_of ?_
  unfold appendA0
  rw [h.elem]
  simp only [hi, h.aggT, hz]
  rw [if_pos ⟨h.pos, hb, hzk⟩, hx]
  simp only [if_true]
  rcases hs with rfl | ⟨es, c, rfl⟩ <;> rfl

theorem app_nil (h : SlT P t e agg sz) {ns : List AVal} {x : AVal} (hx : srcA P e t agg sz st x = some ns) (hne : ns ≠ []) (hl : ns.length ≤ 1073741824) :
    appendA P false t t .nilSlice x st = some (.islice sz ns (.tok st.ctr), st.new (.cells [])) := by
  obtain ⟨i, z, hi, rfl, hb, hz, hzk⟩ := h.info
  refine app_of ?_
  unfold appendA0 AVal.nilSlice
  rw [h.elem]
  simp only [hi, h.aggT, hz]
  rw [if_pos ⟨h.pos, hb, hzk⟩, hx]
  simp only
  rw [if_neg hne, if_pos hl]
  rfl

theorem app_exact (h : SlT P t e agg sz) {es ns : List AVal} {x : AVal} (he : es.all (elemOk agg sz) = true) (hx : srcA P e t agg sz st x = some ns) (hne : ns ≠ []) (hl : es.length + ns.length ≤ 1073741824) :
    appendA P false t t (.islice sz es .exact) x st = some (.islice sz (es ++ ns) (.tok st.ctr), st.new (.cells [])) := by
  obtain ⟨i, z, hi, rfl, hb, hz, hzk⟩ := h.info
  refine app_of ?_
  unfold appendA0
  rw [h.elem]
  simp only [hi, h.aggT, hz]
  rw [if_pos ⟨h.pos, hb, hzk⟩, hx]
  simp only
  rw [if_neg hne, if_pos ⟨trivial, he, hl⟩]
  rfl

/-- a copy that may be written -/
theorem app_mut (h : SlT P t e agg sz) {es ns : List AVal} {x : AVal} (he : es.all (elemOk agg sz) = true) (hx : srcA P e t agg sz st x = some ns) (hne : ns ≠ []) (hl : es.length + ns.length ≤ 1073741824) :
    appendA P true t t (.islice sz es .exact) x st = some (.slice st.ctr 0 (es ++ ns).length sz none, st.new (.cells (flatE (es ++ ns)))) := by
  obtain ⟨i, z, hi, rfl, hb, hz, hzk⟩ := h.info
  refine app_of ?_
  unfold appendA0
  rw [h.elem]
  simp only [hi, h.aggT, hz]
  rw [if_pos ⟨h.pos, hb, hzk⟩, hx]
  simp only
  rw [if_neg hne, if_pos ⟨trivial, he, hl⟩]
  rfl

theorem app_tok (h : SlT P t e agg sz) {es ns : List AVal} {x : AVal} {k : Nat} {cs : List AVal} (he : es.all (elemOk agg sz) = true) (hx : srcA P e t agg sz st x = some ns) (hne : ns ≠ []) (hl : es.length + ns.length ≤ 1073741824)
    (hk : st.heap k = some (.cells cs)) : appendA P false t t (.islice sz es (.tok k)) x st = some (.islice sz (es ++ ns) (.tok st.ctr), (st.set k none).new (.cells [])) := by
  obtain ⟨i, z, hi, rfl, hb, hz, hzk⟩ := h.info
  refine app_of ?_
  unfold appendA0
  rw [h.elem]
  simp only [hi, h.aggT, hz]
  rw [if_pos ⟨h.pos, hb, hzk⟩, hx]
  simp only
  rw [if_neg hne, if_pos ⟨trivial, he, hl⟩]
  simp only [Bool.false_eq_true, if_false, hk]
  rfl

theorem bytes_ok (l : List UInt8) : (l.map byteA).all (elemOk false 1) = true := by
  rw [List.all_eq_true]
  intro x hx
  obtain ⟨b, _, rfl⟩ := List.mem_map.1 hx
  rfl

end

theorem len_islice {P : Program} {t e : TypeId} (h : P.underlying t = some (.slice e)) (mt : Bool) (ty : TypeId) (cs : Array Bool) (sz : Nat) (es : List AVal) (c : Cap) (st : ASt) :
    builtinA P mt .len #[t] ty cs [.islice sz es c] st = some (.val (.lit (.int .i64 es.length)) st) := by
  unfold builtinA
  simp only [vals, valOf, lenA, h]
  rfl

/-! ### a writer: its bytes, and what owns the room behind them -/
def WAt (st : ASt) (s : Nat) (l : List UInt8) (k : Option Nat) : Prop :=
  s < st.ctr ∧ match k with
    | none => l = [] ∧ st.heap s = some (.cells [.nilSlice])
    | some t => t < st.ctr ∧ t ≠ s ∧ st.heap s = some (.cells [.islice 1 (l.map byteA) (.tok t)]) ∧ st.heap t = some (.cells [])

/-- what one call may have turned -/
def Fr (st st' : ASt) (s : Nat) (k : Option Nat) : Prop := st.ctr ≤ st'.ctr ∧ ∀ j, j < st.ctr → j ≠ s → k ≠ some j → st'.heap j = st.heap j

def wval (l : List UInt8) : Option Nat → AVal
  | none => .nilSlice
  | some t => .islice 1 (l.map byteA) (.tok t)

theorem WAt.cell {st : ASt} {s : Nat} {l : List UInt8} {k : Option Nat} (h : WAt st s l k) : st.heap s = some (.cells [wval l k]) := by
  cases k with
  | none => exact h.2.2
  | some t => exact h.2.2.2.1

/-- the state with the old room gone -/
def wclr (st : ASt) : Option Nat → ASt
  | none => st
  | some t => st.set t none

theorem wclr_ctr (st : ASt) (k : Option Nat) : (wclr st k).ctr = st.ctr := by cases k <;> rfl

theorem wclr_heap (st : ASt) (k : Option Nat) (j : Nat) (h : k ≠ some j) : (wclr st k).heap j = st.heap j := by
  cases k with
  | none => rfl
  | some t => exact ASt.set_ne _ _ _ _ (fun e => h (by rw [e]))

/-- the state behind bytes put -/
def wput (st : ASt) (s : Nat) (l : List UInt8) (k : Option Nat) (n : List UInt8) : ASt :=
  ((wclr st k).new (.cells [])).set s (some (.cells [.islice 1 ((l ++ n).map byteA) (.tok st.ctr)]))

theorem wput_at {st : ASt} {s : Nat} {l : List UInt8} {k : Option Nat} (h : WAt st s l k) (n : List UInt8) : WAt (wput st s l k n) s (l ++ n) (some st.ctr) := by
  have h1 : s < st.ctr := h.1
  refine ⟨?_, ?_, by omega, ?_, ?_⟩
  · cases k <;> simp [wput, wclr, ASt.new, ASt.set] <;> omega
  · cases k <;> simp [wput, wclr, ASt.new, ASt.set]
  · cases k <;> simp [wput, wclr, ASt.new, ASt.set]
  · cases k <;> simp [wput, wclr, ASt.new, ASt.set] <;> omega

theorem wput_fr {st : ASt} {s : Nat} {l : List UInt8} {k : Option Nat} (h : WAt st s l k) (n : List UInt8) : Fr st (wput st s l k n) s k := by
  refine ⟨?_, fun j hj hs hk => ?_⟩
  · cases k <;> simp [wput, wclr, ASt.new, ASt.set]
  · have hne : j ≠ st.ctr := by omega
    cases k with
    | none => simp [wput, wclr, ASt.new, ASt.set, hs, hne]
    | some t =>
      have : j ≠ t := fun e => hk (by rw [e])
      simp [wput, wclr, ASt.new, ASt.set, hs, hne, this]

theorem Fr.trans {a b c : ASt} {s : Nat} {k k' : Option Nat} (h : Fr a b s k) (h' : Fr b c s k') (hk : ∀ j, k' = some j → a.ctr ≤ j ∨ k = some j) : Fr a c s k := by
  refine ⟨Nat.le_trans h.1 h'.1, fun j hj hs hn => ?_⟩
  have hk' : k' ≠ some j := by
    intro e
    rcases hk j e with h1 | h1
    · omega
    · exact hn h1
  rw [h'.2 j (Nat.lt_of_lt_of_le hj h.1) hs hk', h.2 j hj hs hn]

/-- bytes appended to a writer's -/
theorem wput_app {P : Program} {t e : TypeId} (hT : SlT P t e false 1) {st : ASt} {s : Nat} {l : List UInt8} {k : Option Nat} (h : WAt st s l k) {n : List UInt8} (hn : n ≠ []) (hl : l.length + n.length ≤ 1073741824) {x : AVal}
    (hx : srcA P e t false 1 st x = some (n.map byteA)) :
    appendA P false t t (wval l k) x st = some (.islice 1 ((l ++ n).map byteA) (.tok st.ctr), (wclr st k).new (.cells [])) := by
  have hne : n.map byteA ≠ [] := by simpa using hn
  cases k with
  | none =>
    have := h.2.1
    subst this
    exact app_nil hT hx hne (by simpa using hl)
  | some tk =>
    rw [List.map_append]
    exact app_tok hT (bytes_ok l) hx hne (by simpa using hl) h.2.2.2.2

end Go.Proofs.YtpgcbmmifmnfpaaDoorA

/- A law's arguments, as the second reading sees them. No condition. -/
namespace Go.Proofs.YtpgcbmmifmnfpaaDoorA
open Go Go.RowKit
set_option linter.unusedVariables false
set_option linter.unusedSimpArgs false

/-- fields lie one behind the other -/
def tiles (P : Program) : Nat → List Field → Nat → Bool
  | o, [], tot => o == tot
  | o, f :: r, tot => f.offset == o && tiles P (o + P.cellsOf f.type) r tot

theorem tiles_le {P : Program} : ∀ (fs : List Field) (o tot : Nat), tiles P o fs tot = true → o ≤ tot
  | [], o, tot, h => by simp [tiles] at h; omega
  | f :: r, o, tot, h => by
    simp only [tiles, Bool.and_eq_true, beq_iff_eq] at h
    have := tiles_le r _ _ h.2
    omega

/-- kinds of data that are read by value -/
def plainT (P : Program) : Nat → TypeId → Bool
  | 0, _ => false
  | n + 1, t => match P.underlying t with
    | some .bool | some (.int _) | some (.float _) | some .string => true
    | some (.slice e) => decide (0 < P.cellsOf e) && plainT P n e
    | some (.struct fs) => tiles P 0 fs.toList (P.cellsOf t) && fs.toList.all fun f => plainT P n f.type
    | _ => false

def rowB (P : Program) (t : TypeId) : Bool := match P.underlying t with
  | some d => rowT d
  | none => false

/-- a value of a type, out of its cells -/
def ofRow (P : Program) (t : TypeId) (cells : List AVal) : AVal := if rowB P t then .agg cells else match cells with
  | [c] => c
  | _ => .undef

/-- what a type's cells may be -/
def Dat (P : Program) : Nat → TypeId → List AVal → Prop
  | 0, _, _ => False
  | n + 1, t, cells => match P.underlying t with
    | some .bool => ∃ b, cells = [.lit (.bool b)]
    | some (.int k) => ∃ i, cells = [.lit (.int k i)] ∧ k.min ≤ i ∧ i ≤ k.max
    | some (.float k) => ∃ b, cells = [.lit (.float k b)] ∧ (Lit.float k b).wf = true
    | some .string => ∃ s, cells = [.lit (.string s)] ∧ s.size ≤ maxLen
    | some (.slice e) => (∃ a, cells = [.lit (.slice a 0 0)]) ∨ ∃ rows : List (List AVal), cells = [.islice (P.cellsOf e) (rows.map (ofRow P e)) .unk] ∧ rows.length ≤ maxLen ∧ ∀ r ∈ rows, r.length = P.cellsOf e ∧ (∀ c ∈ r, c.isCell = true) ∧ Dat P n e r
    | some (.struct fs) => cells.length = P.cellsOf t ∧ ∀ f ∈ fs.toList, Dat P n f.type ((cells.drop f.offset).take (P.cellsOf f.type))
    | _ => False

theorem ofRow_cells {P : Program} {t : TypeId} {cells : List AVal} (h : rowB P t = true ∨ ∃ c, cells = [c] ∧ c.isCell = true) : (ofRow P t cells).cells = cells := by
  unfold ofRow
  by_cases hr : rowB P t = true
  · rw [if_pos hr]; rfl
  · rw [if_neg hr]
    rcases h with h | ⟨c, rfl, hc⟩
    · exact absurd h hr
    · cases c <;> first | rfl | cases hc

theorem dat_one {P : Program} {n : Nat} {t : TypeId} {cells : List AVal} (h : Dat P n t cells) : rowB P t = true ∨ ∃ c, cells = [c] ∧ c.isCell = true := by
  cases n with
  | zero => cases h
  | succ n =>
    unfold Dat at h
    unfold rowB
    split at h
    · obtain ⟨b, rfl⟩ := h; exact .inr ⟨_, rfl, rfl⟩
    · obtain ⟨b, rfl, _⟩ := h; exact .inr ⟨_, rfl, rfl⟩
    · obtain ⟨b, rfl, _⟩ := h; exact .inr ⟨_, rfl, rfl⟩
    · obtain ⟨b, rfl, _⟩ := h; exact .inr ⟨_, rfl, rfl⟩
    · rcases h with ⟨a, rfl⟩ | ⟨rows, rfl, _⟩
      · exact .inr ⟨_, rfl, rfl⟩
      · exact .inr ⟨_, rfl, rfl⟩
    · rename_i fs hu; rw [hu]; exact .inl rfl
    · cases h

theorem exists_list {α : Type} [Inhabited α] (Q : Nat → α → Prop) : ∀ n, (∀ i, i < n → ∃ x, Q i x) → ∃ l : List α, l.length = n ∧ ∀ i x, l[i]? = some x → Q i x
  | 0, _ => ⟨[], rfl, fun i x h => by simp at h⟩
  | n + 1, h => by
    obtain ⟨l, hl, hq⟩ := exists_list Q n fun i hi => h i (by omega)
    obtain ⟨x, hx⟩ := h n (by omega)
    refine ⟨l ++ [x], by simp [hl], fun i y hy => ?_⟩
    by_cases hi : i < n
    · rw [List.getElem?_append_left (by omega)] at hy
      exact hq i y hy
    · have : i < n + 1 := by
        have := (List.getElem?_eq_some_iff.1 hy).1
        simp [hl] at this; exact this
      obtain rfl : i = n := by omega
      rw [List.getElem?_append_right (by omega)] at hy
      simp [hl] at hy
      rw [← hy]; exact hx

section
variable {H : Type} {enc : TypeId × Value → H} {P : Program} {W : World} {held : Bool}

/-- cells and their sight -/
structure Sees (W : World) (cells : List AVal) (cs : List Value) : Prop where
  len : cells.length = cs.length
  rep : ∀ (j : Nat) (c : AVal) (u : Value), cells[j]? = some c → cs[j]? = some u → Rep (g0 W) c u
  cell : ∀ c ∈ cells, c.isCell = true

theorem Sees.one {v : Value} (h : flat v = true) : Sees W [.lit v] [v] :=
  ⟨rfl, fun j c u a b => by
    cases j with
    | zero => simp at a b; subst a b; exact Rep.lit h
    | succ j => simp at a, fun c hc => by simp at hc; subst hc; rfl⟩

theorem Sees.append {a b : List AVal} {x y : List Value} (h : Sees W a x) (h' : Sees W b y) : Sees W (a ++ b) (x ++ y) := by
  refine ⟨by simp [h.len, h'.len], fun j c u p q => ?_, fun c hc => ?_⟩
  · by_cases hj : j < a.length
    · rw [List.getElem?_append_left hj] at p
      rw [List.getElem?_append_left (by rw [← h.len]; exact hj)] at q
      exact h.rep j c u p q
    · rw [List.getElem?_append_right (by omega)] at p
      rw [List.getElem?_append_right (by rw [← h.len]; omega), ← h.len] at q
      exact h'.rep _ c u p q
  · rcases List.mem_append.1 hc with h1 | h1
    · exact h.cell c h1
    · exact h'.cell c h1

theorem sees_tiles {n : Nat} {cs : List Value} {tot : Nat} (hl : cs.length = tot) : ∀ (fs : List Field) (o : Nat), tiles P o fs tot = true →
    (∀ f ∈ fs, ∃ cells, Dat P n f.type cells ∧ Sees W cells ((cs.drop f.offset).take (P.cellsOf f.type))) →
    ∃ cells, Sees W cells (cs.drop o) ∧ ∀ f ∈ fs, o ≤ f.offset ∧ Dat P n f.type ((cells.drop (f.offset - o)).take (P.cellsOf f.type))
  | [], o, ht, h => by
    simp [tiles] at ht
    refine ⟨[], ?_, fun f hf => by cases hf⟩
    rw [List.drop_of_length_le (by omega)]
    exact ⟨rfl, fun j c u a b => by simp at a, fun c hc => by cases hc⟩
  | f :: r, o, ht, h => by
    simp only [tiles, Bool.and_eq_true, beq_iff_eq] at ht
    obtain ⟨ho, ht⟩ := ht
    have hle := tiles_le r _ _ ht
    obtain ⟨cr, hr1, hr2⟩ := sees_tiles hl r _ ht fun g hg => h g (List.mem_cons_of_mem _ hg)
    obtain ⟨cf, hf1, hf2⟩ := h f (List.mem_cons_self ..)
    rw [ho] at hf2
    have hlen : cf.length = P.cellsOf f.type := by rw [hf2.len]; simp; omega
    refine ⟨cf ++ cr, ?_, fun g hg => ?_⟩
    · have e : cs.drop o = (cs.drop o).take (P.cellsOf f.type) ++ cs.drop (o + P.cellsOf f.type) := by
        rw [← List.drop_drop, List.take_append_drop]
      rw [e]
      exact hf2.append hr1
    · rcases List.mem_cons.1 hg with rfl | hg
      · refine ⟨by omega, ?_⟩
        rw [ho, Nat.sub_self, List.drop_zero, List.take_append_of_le_length (by omega), List.take_of_length_le (by omega)]
        exact hf1
      · obtain ⟨h1, h2⟩ := hr2 g hg
        refine ⟨by omega, ?_⟩
        rw [List.drop_append, List.drop_of_length_le (by omega), List.nil_append, hlen]
        have e : g.offset - o - P.cellsOf f.type = g.offset - (o + P.cellsOf f.type) := by omega
        rw [e]
        exact h2

theorem row_rep {e : TypeId} {a : Addr} {len cap : Nat} {n : Nat} (hsp : a.spot = none) (hlc : len ≤ cap) {rows : List (List AVal)} (hl : rows.length = len)
    (hq : ∀ i r, rows[i]? = some r → ∃ cs', W.cells? 0 (a.add (i * P.cellsOf e)) (P.cellsOf e) = some cs' ∧ Dat P n e r ∧ Sees W r cs') :
    Rep (g0 W) (.islice (P.cellsOf e) (rows.map (ofRow P e)) .unk) (.slice (some a) len cap) := by
  obtain ⟨B, o, sp⟩ := a
  simp only at hsp
  subst hsp
  have hrow : ∀ (i : Nat) (x : AVal), (rows.map (ofRow P e))[i]? = some x → ∃ r, rows[i]? = some r ∧ x.cells = r := by
    intro i x hx
    rw [List.getElem?_map] at hx
    cases hr : rows[i]? with
    | none => rw [hr] at hx; cases hx
    | some r =>
      rw [hr] at hx
      cases hx
      obtain ⟨cs', _, hd, _⟩ := hq i r hr
      exact ⟨r, rfl, ofRow_cells (dat_one hd)⟩
  have hcell : ∀ (i : Nat) (x : AVal) (j : Nat) (c : AVal), (rows.map (ofRow P e))[i]? = some x → x.cells[j]? = some c → ∃ u, W.cell? ⟨B, o + (i * P.cellsOf e + j), none⟩ = some u ∧ Rep (g0 W) c u := by
    intro i x j c hx hc
    obtain ⟨r, hr, hxr⟩ := hrow i x hx
    rw [hxr] at hc
    obtain ⟨cs', h1, h2, h3⟩ := hq i r hr
    obtain ⟨_, hcl, hat⟩ := World.cells?_some h1
    have hj : j < P.cellsOf e := by
      have := (List.getElem?_eq_some_iff.1 hc).1
      rw [h3.len, hcl] at this
      exact this
    have h4 := hat j hj
    rw [addr_add, addr_add] at h4
    have hu : cs'[j]? = some (cs'[j]'(by omega)) := List.getElem?_eq_getElem (by omega)
    refine ⟨_, ?_, h3.rep j c _ hc hu⟩
    rw [← hu, ← h4, Nat.add_assoc]
  rw [show len = (rows.map (ofRow P e)).length by simp [hl]]
  refine Rep.islice (f := fun i j => (W.cell? ⟨B, o + (i * P.cellsOf e + j), none⟩).getD .nilFunc) (by simp [hl]; exact hlc) (fun i x hx => ?_) (fun i x j c hx hc => ?_) (fun i x j c hx hc => ?_) (fun i x hx c hc => ?_) trivial
  · obtain ⟨r, hr, hxr⟩ := hrow i x hx
    obtain ⟨cs', h1, h2, h3⟩ := hq i r hr
    rw [hxr, h3.len, (World.cells?_some h1).2.1]
  · obtain ⟨u, h1, h2⟩ := hcell i x j c hx hc
    simp only [g0, h1, Option.getD_some]
  · obtain ⟨u, h1, h2⟩ := hcell i x j c hx hc
    simp only [h1, Option.getD_some]
    exact h2
  · obtain ⟨r, hr, hxr⟩ := hrow i x hx
    rw [hxr] at hc
    obtain ⟨cs', h1, h2, h3⟩ := hq i r hr
    exact h3.cell c hc

theorem dat_of_trod : ∀ (n : Nat) (t : TypeId) (fuel : Nat) (cs : List Value) (x : DataW H × List MemPlace), plainT P n t = true → DataW.trod enc P W 0 (fun _ => true) held fuel t cs = some x →
    ∃ cells, Dat P n t cells ∧ Sees W cells cs
  | 0, t, fuel, cs, x, hp, h => by cases hp
  | n + 1, t, fuel, cs, x, hp, h => by
    unfold plainT at hp
    unfold Dat
    split at hp
    · rename_i hu
      obtain ⟨b, rfl, _⟩ := DataW.trod_bool hu h
      exact ⟨_, ⟨b, rfl⟩, Sees.one rfl⟩
    · rename_i k hu
      obtain ⟨i, rfl, _, hw⟩ := DataW.trod_int hu h
      simp only [Lit.wf, Bool.and_eq_true, decide_eq_true_eq] at hw
      exact ⟨_, ⟨i, rfl, hw.1, hw.2⟩, Sees.one rfl⟩
    · rename_i k hu
      cases fuel with
      | zero => cases h
      | succ fuel =>
        unfold DataW.trod at h
        rw [hu] at h
        split at h <;> simp_all
        rename_i e1
        obtain ⟨⟨rfl, hw⟩, _⟩ := h
        exact ⟨[.lit (.float _ _)], ⟨_, rfl, hw⟩, Sees.one rfl⟩
    · rename_i hu
      obtain ⟨s, rfl, _, hs⟩ := DataW.trod_string hu h
      exact ⟨_, ⟨s, rfl, hs⟩, Sees.one rfl⟩
    · rename_i e hu
      simp only [Bool.and_eq_true, decide_eq_true_eq] at hp
      rcases Go.Deep.open_slice hu h with ⟨rfl, _⟩ | ⟨a, len, cap, m, n', D, Pl, rfl, _, hlc, hcm, hm, _, hrows⟩
      · exact ⟨[.lit (.slice none 0 0)], .inl ⟨none, rfl⟩, Sees.one rfl⟩
      · simp only [if_true] at hm
        subst hm
        by_cases hc0 : m = 0
        · subst hc0
          obtain rfl : len = 0 := by omega
          exact ⟨[.lit (.slice (some a) 0 0)], .inl ⟨some a, rfl⟩, Sees.one rfl⟩
        · have hsp : a.spot = none := by
            obtain ⟨cs', h1, _⟩ := hrows 0 (by omega)
            rw [Nat.zero_mul] at h1
            have h2 := (World.cells?_some h1).2.2 0 hp.1
            have h3 : cs'[0]? = some (cs'[0]'(by rw [(World.cells?_some h1).2.1]; exact hp.1)) := List.getElem?_eq_getElem _
            rw [h3] at h2
            unfold World.cell? at h2
            have ea : (a.add 0).add 0 = a := by simp [Addr.add]
            rw [ea] at h2
            cases hs : a.spot with
            | none => rfl
            | some q =>
              rw [hs] at h2
              split at h2
              · simp at h2
              · cases h2
          obtain ⟨rows, hl, hq⟩ := exists_list (fun i (r : List AVal) => ∃ cs', W.cells? 0 (a.add (i * P.cellsOf e)) (P.cellsOf e) = some cs' ∧ Dat P n e r ∧ Sees W r cs') len (fun i hi => by
            obtain ⟨cs', h1, h2⟩ := hrows i (by omega)
            obtain ⟨cells, h3, h4⟩ := dat_of_trod n e n' cs' _ hp.2 h2
            exact ⟨cells, cs', h1, h3, h4⟩)
          refine ⟨[.islice (P.cellsOf e) (rows.map (ofRow P e)) .unk], .inr ⟨rows, rfl, by omega, fun r hr => ?_⟩, rfl, fun j c u p q => ?_, fun c hc => by simp at hc; subst hc; rfl⟩
          · obtain ⟨i, hi⟩ := List.mem_iff_getElem?.1 hr
            obtain ⟨cs', h1, h2, h3⟩ := hq i r hi
            exact ⟨by rw [h3.len, (World.cells?_some h1).2.1], h3.cell, h2⟩
          · cases j with
            | zero =>
              simp at p q
              subst p q
              exact row_rep hsp hlc hl hq
            | succ j => simp at p
    · rename_i fs hu
      simp only [Bool.and_eq_true] at hp
      obtain ⟨xs, n', _, _, hcl, hxl, hf⟩ := DataW.trod_struct hu h
      obtain ⟨cells, h1, h2⟩ := sees_tiles (P := P) (W := W) (n := n) hcl fs.toList 0 hp.1 (fun f hf' => by
        obtain ⟨i, hi⟩ := List.mem_iff_getElem?.1 hf'
        have hi' : fs[i]? = some f := by simpa using hi
        have hlt : i < fs.size := (Array.getElem?_eq_some_iff.1 hi').1
        have h3 := hf i f hi'
        rw [List.getElem?_eq_getElem (by omega)] at h3
        exact dat_of_trod n f.type n' _ _ (List.all_eq_true.1 hp.2 f hf') h3)
      rw [List.drop_zero] at h1
      refine ⟨cells, ?_, h1⟩
      exact ⟨by rw [h1.len, hcl], fun f hf' => by simpa using (h2 f hf').2⟩
    · cases hp
end

/-- a value of a type, as the second reading sees it -/
def DatV (P : Program) (n : Nat) (t : TypeId) (v : AVal) : Prop := ∃ cells, Dat P n t cells ∧ (∀ c ∈ cells, c.isCell = true) ∧ v = ofRow P t cells

theorem arg_of {H : Type} {enc : TypeId × Value → H} {P : Program} {W : World} {n : Nat} {t : TypeId} {v : Value} {base : Nat} {d : DataW H} {ps : List MemPlace} (hp : plainT P n t = true) (hv : Value.okWide P W .any base t v)
    (h : DataW.Trod enc P W 0 (fun _ => true) true t v d ps) : ∃ av, DatV P n t av ∧ Rep (g0 W) av v := by
  obtain ⟨fuel, hf⟩ := h
  obtain ⟨cells, h1, h2⟩ := dat_of_trod n t fuel _ _ hp hf
  refine ⟨ofRow P t cells, ⟨cells, h1, h2.cell, rfl⟩, ?_⟩
  unfold Value.okWide at hv
  unfold ofRow rowB
  cases hu : P.underlying t with
  | none =>
    cases n with
    | zero => cases h1
    | succ n => unfold plainT at hp; rw [hu] at hp; cases hp
  | some td =>
    rw [hu] at hv
    by_cases hr : rowT td = true
    · have : ∃ cs, v = .agg cs := by
        cases td <;> first | (simp [rowT] at hr; done) | (obtain ⟨cs, e, _⟩ := hv; exact ⟨cs, e⟩)
      obtain ⟨cs, rfl⟩ := this
      simp only [hr, if_true]
      have hl := h2.len
      have hrep := h2.rep
      simp only [Value.cells] at hl hrep
      exact Rep.agg (by rw [hl]; simp) (fun j c u a b => hrep j c u a (by simpa using b)) h2.cell
    · have hr' : rowT td = false := by simpa using hr
      have hna : ∀ us, v ≠ .agg us := by
        rintro us rfl
        cases td <;> first | (simp [rowT] at hr'; done) | (simp [Cell.okWide, Cell.ok, hu] at hv; done)
      have hc : v.cells = #[v] := by
        cases v <;> first | rfl | exact absurd rfl (hna _)
      have hl := h2.len
      have hrep := h2.rep
      rw [hc] at hl hrep
      simp only [hr', Bool.false_eq_true, if_false]
      match cells, hl, hrep with
      | [c], _, hrep => exact hrep 0 c v rfl rfl
end Go.Proofs.YtpgcbmmifmnfpaaDoorA

/- A scope with a goto back. No condition. -/
namespace Go.Proofs.YtpgcbmmifmnfpaaDoorA
open Go Go.RowKit
set_option linter.unusedVariables false

theorem ascope_rule {fr : Nat → List AVal → ASt → ARes} {code rest : Code} {l : Nat} (hl : findLabel code l = some rest) (I : Nat → List AVal → ASt → Prop) (Q : AExit → List AVal → ASt → Prop)
    (step : ∀ i ts st, I i ts st → (∃ ts' st', fr l ts st = some (.goto l, ts', st') ∧ ∃ j, j < i ∧ I j ts' st') ∨ (∃ e ts' st', fr l ts st = some (e, ts', st') ∧ (∀ l', e ≠ .goto l') ∧ Q e ts' st')) :
    ∀ n i ts st, I i ts st → i < n → ∃ e ts' st', ascope fr code n (fr l ts st) = some (e, ts', st') ∧ Q e ts' st'
  | 0, i, ts, st, h, hn => by omega
  | n + 1, i, ts, st, h, hn => by
    rcases step i ts st h with ⟨ts', st', e, j, hj, hI⟩ | ⟨e, ts', st', h1, h2, h3⟩
    · obtain ⟨e2, ts2, st2, a, q⟩ := ascope_rule hl I Q step n j ts' st' hI (by omega)
      exact ⟨e2, ts2, st2, by rw [e, ascope]; simp only [hl]; exact a, q⟩
    · refine ⟨e, ts', st', ?_, h3⟩
      rw [h1]
      cases e <;> first | rfl | exact absurd rfl (h2 _)

end Go.Proofs.YtpgcbmmifmnfpaaDoorA
