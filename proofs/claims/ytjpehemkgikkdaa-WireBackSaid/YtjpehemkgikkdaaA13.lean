/- Every operation by its name, and that the model does the same. No condition. -/
import Derived.Test.YtjpehemkgikkdaaA12
namespace Go.Proofs.YtjpehemkgikkdaaA
open Go Go.RowKit
set_option linter.unusedVariables false
set_option linter.unusedSimpArgs false

inductive ANext where
  | val (v : AVal) (st : ASt)
  | enter (f : FuncId) (args : List AVal) (st : ASt)
  | panic (v : AVal) (st : ASt)

def ANext.ofP (p : AVal × ASt) : ANext := .val p.1 p.2

def evals (ρ : Operand → Option AVal) : List Operand → Option (List AVal)
  | [] => some []
  | x :: r => match ρ x, evals ρ r with
    | some v, some l => some (v :: l)
    | _, _ => none

def evalPs (ρ : Operand → Option AVal) : List (Nat × Operand) → Option (List (Nat × AVal))
  | [] => some []
  | (i, x) :: r => match ρ x, evalPs ρ r with
    | some v, some l => some ((i, v) :: l)
    | _, _ => none

def evalO (ρ : Operand → Option AVal) : Option Operand → Option (Option AVal)
  | none => some none
  | some x => (ρ x).map some

def vals : List AVal → Option (List Value)
  | [] => some []
  | v :: r => match valOf v, vals r with
    | some u, some l => some (u :: l)
    | _, _ => none

def nextV : Option Next → Option AVal
  | some (.value v) => absOf v
  | _ => none

def lenA (P : Program) (t : TypeId) (x : AVal) : Option AVal :=
  match P.underlying t with
  | some (.slice _) => match x with
    | .islice _ es _ => some (.lit (.int .i64 es.length))
    | .slice _ _ len _ _ => some (.lit (.int .i64 len))
    | _ => none
  | some (.array n _) => some (.lit (.int .i64 n))
  | some (.pointer arr) => match P.underlying arr with
    | some (.array n _) => some (.lit (.int .i64 n))
    | _ => none
  | _ => none

def callFuncA (P : Program) (f : FuncId) (args : List AVal) (st : ASt) : Option ANext :=
  match P.funcs[f]? with
  | none => none
  | some fn => if fn.name == "runtime.NumGoroutine" then none
    else if fn.body.isNone then (match vals args with
      | some us => (nextV (pureRun P (callFunc f us.toArray))).map (.val · st)
      | none => none)
    else some (.enter f args st)

def builtinA (P : Program) (mt : Bool) (b : Builtin) (argTypes : Array TypeId) (type : TypeId) (consts : Array Bool) (args : List AVal) (st : ASt) : Option ANext :=
  match b, argTypes, args with
  | .append, ⟨[t, tx]⟩, [s, x] => (appendA P mt t tx s x st).map .ofP
  | .append, _, _ => none
  | b, ts, args => match vals args with
    | some us => (nextV (pureRun P (builtin b ts type consts us.toArray))).map (.val · st)
    | none => match b, ts, args with
      | .len, ⟨[t]⟩, [x] => (lenA P t x).map (.val · st)
      | _, _, _ => none

def callA (P : Program) (mt : Bool) (ρ : Operand → Option AVal) (c : Call) (type : TypeId) (st : ASt) : Option ANext :=
  match evals ρ c.args.toList with
  | none => none
  | some args => match c.callee with
    | .builtin b => builtinA P mt b c.argTypes type (c.args.map fun | .const _ => true | _ => false) args st
    | .value f => match ρ f with
      | some (.lit (.func (.func id) ⟨[]⟩ ⟨[]⟩)) => callFuncA P id args st
      | some (.func (.func id) first captured) => callFuncA P id (first ++ args ++ captured) st
      | _ => none
    | _ => none

def nilCheckA : AVal → Bool
  | .lit (.pointer none) | .lit .nilIface | .lit .nilFunc | .tuple _ => false
  | .func (.func _) _ _ => true
  | .func .. => false
  | _ => true

def aexecOp (P : Program) (mt : Bool) (ρ : Operand → Option AVal) (o : Oper) (st : ASt) : Option ANext :=
  match o.op with
  | .move x | .assign x => (ρ x).map (.val · st)
  | .pick c a b => match ρ c with
    | some (.lit (.bool true)) => (ρ a).map (.val · st)
    | some (.lit (.bool false)) => (ρ b).map (.val · st)
    | _ => none
  | .alloc e => (allocA P e st).map .ofP
  | .box e x => match ρ x with
    | some v => (boxA v st).map .ofP
    | none => none
  | .build t parts => match evalPs ρ parts.toList with
    | some ps => (buildA P t ps).map (.val · st)
    | none => none
  | .buildSlice t len parts => match evalPs ρ parts.toList with
    | some ps => (buildSliceA P mt t len ps st).map .ofP
    | none => none
  | .load t a => match ρ a with
    | some p => (loadA P t st p).map (.val · st)
    | none => none
  | .store t a x => match ρ a, ρ x with
    | some p, some v => (storeA P t st p v).map (.val .undef ·)
    | _, _ => none
  | .nilCheck x => match ρ x with
    | some v => if nilCheckA v = true then some (.val v st) else none
    | none => none
  | .binOp op t x y _ => match ρ x, ρ y with
    | some a, some b => (binA P op t x y a b).map (.val · st)
    | _, _ => none
  | .unOp op _ x => match (ρ x).bind valOf with
    | some v => (pureV P (Op.unary op v)).map (.val · st)
    | none => none
  | .convert src dst x => match ρ x with
    | some v => (convA P mt src dst v st).map .ofP
    | none => none
  | .makeInterface t x => match ρ x, P.underlying t with
    | some v, some (.interface _) => none
    | some v, some _ => some (.val (.iface t v) st)
    | _, _ => none
  | .makeFunc fn first captured => match evals ρ first.toList, evals ρ captured.toList with
    | some a, some b => some (.val (.func fn a b) st)
    | _, _ => none
  | .makeSlice t l c => match ρ l, ρ c with
    | some a, some b => (makeSliceA P t a b st).map .ofP
    | _, _ => none
  | .slice t x lo hi mx => match ρ x, evalO ρ lo, evalO ρ hi, evalO ρ mx with
    | some v, some l, some h, some m => match v with
      | .lit u => (match evalV l, evalV h, evalV m with
        | some l, some h, some m => (pureV P (Instr.sliceAt t u l h m)).map (.val · st)
        | _, _, _ => none)
      | v => (sliceA P t v l h m).map (.val · st)
    | _, _, _, _ => none
  | .fieldAddr s x f => match ρ x with
    | some a => (fieldA P s a f).map (.val · st)
    | none => none
  | .field t x f => match ρ x with
    | some a => (fieldV P t a f).map (.val · st)
    | none => none
  | .indexAddr t x ix => match ρ x, ρ ix with
    | some a, some i => (indexA P t a i).map (.val · st)
    | _, _ => none
  | .index t x ix => match ρ x, ρ ix with
    | some (.lit u), some (.lit i) => (pureV P (Instr.index t u i)).map (.val · st)
    | some a, some i => (indexV P t a i).map (.val · st)
    | _, _ => none
  | .extract t ix => match ρ t with
    | some a => (extractA a ix).map (.val · st)
    | none => none
  | .call c => callA P mt ρ c o.type st
  | .panic x => match ρ x with
    | some (.iface t v) => some (.panic (.iface t v) st)
    | _ => none
  | _ => none
where
  evalV : Option AVal → Option (Option Value)
    | none => some none
    | some (.lit v) => some (some v)
    | some _ => none

section
variable {P : Program} {w : World}

/-- an operand's two values -/
def OpOK (g : G) (ρ : Operand → Option AVal) (ρ' : Operand → Value) : Prop := ∀ x v, ρ x = some v → Rep g v (ρ' x)

theorem evals_sound {g : G} {ρ : Operand → Option AVal} {ρ' : Operand → Value} (h : OpOK g ρ ρ') : ∀ (l : List Operand) (vs : List AVal), evals ρ l = some vs → Reps g vs (l.map ρ')
  | [], vs, hv => by cases hv; exact ⟨rfl, fun j c u a b => by simp at a⟩
  | x :: r, vs, hv => by
    unfold evals at hv
    split at hv
    · rename_i v l hx hr
      cases hv
      have ih := evals_sound h r l hr
      refine ⟨by simp [ih.1], fun j c u a b => ?_⟩
      cases j with
      | zero => cases a; cases b; exact h x _ hx
      | succ j => exact ih.2 j c u (by simpa using a) (by simpa using b)
    · cases hv

theorem evalPs_sound {g : G} {ρ : Operand → Option AVal} {ρ' : Operand → Value} (h : OpOK g ρ ρ') : ∀ (l : List (Nat × Operand)) (vs : List (Nat × AVal)), evalPs ρ l = some vs → PReps g vs (l.map fun (p : Nat × Operand) => (p.1, ρ' p.2))
  | [], vs, hv => by cases hv; exact ⟨rfl, fun j c u a b => by simp at a⟩
  | (i, x) :: r, vs, hv => by
    unfold evalPs at hv
    split at hv
    · rename_i v l hx hr
      cases hv
      have ih := evalPs_sound h r l hr
      refine ⟨by simp only [List.map_cons, List.cons.injEq, true_and]; exact ih.1, fun j c u a b => ?_⟩
      cases j with
      | zero => cases a; cases b; exact h x _ hx
      | succ j => exact ih.2 j c u (by simpa using a) (by simpa using b)
    · cases hv

theorem evalO_sound {g : G} {ρ : Operand → Option AVal} {ρ' : Operand → Value} (h : OpOK g ρ ρ') {x : Option Operand} {v : Option AVal} (hv : evalO ρ x = some v) : OReps g v (x.map ρ') := by
  cases x with
  | none => cases hv; trivial
  | some x =>
    simp only [evalO] at hv
    cases hx : ρ x with
    | none => rw [hx] at hv; cases hv
    | some a => rw [hx] at hv; cases hv; exact h x a hx

theorem vals_sound {g : G} : ∀ (vs : List AVal) (us l : List Value), Reps g vs us → vals vs = some l → us = l
  | [], us, l, h, hv => by
    cases hv
    have := h.1
    simpa using this
  | v :: r, us, l, h, hv => by
    obtain ⟨hl, hat⟩ := h
    match us, hl, hat with
    | u :: us, hl, hat =>
      unfold vals at hv
      split at hv
      · rename_i u' l' h1 h2
        cases hv
        rw [valOf_rep (hat 0 _ u rfl rfl) h1, vals_sound r us l' ⟨by simpa using hl, fun j c u a b => hat (j + 1) c u (by simpa using a) (by simpa using b)⟩ h2]
      · cases hv

/-- what an operation's two outcomes have to do with one another -/
def NextOK (base : Nat) (w0 : World) (g : G) : ANext → Result Next → Prop
  | .val v st, .ok (.value u) w' => ∃ g', g.le g' ∧ SInv base w0 g' st w' ∧ Rep g' v u
  | .val v st, .ok .skip w' => v = .undef ∧ ∃ g', g.le g' ∧ SInv base w0 g' st w'
  | .enter f args st, .ok (.enter f' us) w' => f' = f ∧ SInv base w0 g st w' ∧ Reps g args us.toList
  | .panic v st, .halt (.panic u) w' => SInv base w0 g st w' ∧ Rep g v u
  | _, _ => False

theorem nextV_sound {g : G} {s : Sem Next} {a : AVal} (h : nextV (pureRun P s) = some a) : ∃ u, s.run P w = .ok (.value u) w ∧ Rep g a u := by
  cases hr : pureRun P s with
  | none => rw [hr] at h; cases h
  | some n =>
    rw [hr] at h
    cases n <;> first
      | exact ⟨_, pureRun_run s _ hr w, absOf_rep h⟩
      | cases h

variable {base : Nat} {w0 : World} {g : G} {st : ASt}

/-- one value, the world as it was -/
theorem nextOK_val (h : SInv base w0 g st w) {v : AVal} {s : Sem Value} (hs : ∃ u, s.run P w = .ok u w ∧ Rep g v u) :
    NextOK base w0 g (.val v st) ((do pure (Next.value (← s)) : Sem Next).run P w) := by
  obtain ⟨u, h1, h2⟩ := hs
  simp only [Sem.run_bind, h1, Result.andThen_ok]
  exact ⟨g, G.le.refl g, h, h2⟩

/-- one value, another world -/
theorem nextOK_mem {v : AVal} {st' : ASt} {s : Sem Value} (hs : ∃ g' u w', s.run P w = .ok u w' ∧ g.le g' ∧ SInv base w0 g' st' w' ∧ Rep g' v u) :
    NextOK base w0 g (.val v st') ((do pure (Next.value (← s)) : Sem Next).run P w) := by
  obtain ⟨g', u, w', h1, h2, h3, h4⟩ := hs
  simp only [Sem.run_bind, h1, Result.andThen_ok]
  exact ⟨g', h2, h3, h4⟩

theorem ofP_inv {x : Option (AVal × ASt)} {r : ANext} (h : x.map ANext.ofP = some r) : ∃ v st', x = some (v, st') ∧ r = .val v st' := by
  cases x with
  | none => cases h
  | some p => cases h; exact ⟨p.1, p.2, rfl, rfl⟩

theorem val_inv {x : Option AVal} {r : ANext} (h : x.map (ANext.val · st) = some r) : ∃ v, x = some v ∧ r = .val v st := by
  cases x with
  | none => cases h
  | some v => cases h; exact ⟨v, rfl, rfl⟩

theorem callFunc_sound (h : SInv base w0 g st w) {f : FuncId} {args : List AVal} {us : Array Value} {r : ANext} (ha : Reps g args us.toList) (hr : callFuncA P f args st = some r) : NextOK base w0 g r ((callFunc f us).run P w) := by
  unfold callFuncA at hr
  split at hr
  · cases hr
  · rename_i fn hfn
    split at hr
    · cases hr
    · rename_i hname
      split at hr
      · split at hr
        · rename_i l hl
          obtain ⟨v, hv, rfl⟩ := val_inv hr
          have := vals_sound args us.toList l ha hl
          have hus : us = l.toArray := by rw [← this]
          subst hus
          obtain ⟨u, h1, h2⟩ := nextV_sound (w := w) (g := g) hv
          rw [h1]
          exact ⟨g, G.le.refl g, h, h2⟩
        · cases hr
      · rename_i hbody
        cases hr
        have : (callFunc f us).run P w = .ok (.enter f us) w := by
          simp only [callFunc, Sem.run_bind, run_program, Result.andThen_ok, hfn]
          rw [if_neg hname, if_neg hbody]
          rfl
        rw [this]
        exact ⟨rfl, h, ha⟩

theorem len_sound {t ty : TypeId} {x v : AVal} {q : Value} (hq : Rep g x q) (hl : lenA P t x = some v) : ∃ u, (Builtin.len_ #[t] ty #[q]).run P w = .ok u w ∧ Rep g v u := by
  unfold lenA at hl
  split at hl
  · rename_i e hu
    split at hl
    · cases hl
      obtain ⟨cap, B, o, f, rfl, _⟩ := hq.islice_inv
      exact ⟨_, by simp [Builtin.len_, run_underlying_of hu, goInt], .lit rfl⟩
    · cases hl
      obtain ⟨cap, rfl, _⟩ := hq.slice_inv
      exact ⟨_, by simp [Builtin.len_, run_underlying_of hu, goInt], .lit rfl⟩
    · cases hl
  · rename_i n e hu
    cases hl
    exact ⟨_, by simp [Builtin.len_, run_underlying_of hu, goInt], .lit rfl⟩
  · rename_i arr hu
    split at hl
    · rename_i n e hu2
      cases hl
      exact ⟨_, by simp [Builtin.len_, run_underlying_of hu, run_underlying_of hu2, goInt], .lit rfl⟩
    · cases hl
  · cases hl

theorem builtin_sound (h : SInv base w0 g st w) {mt : Bool} {b : Builtin} {ts : Array TypeId} {ty : TypeId} {cs : Array Bool} {args : List AVal} {us : Array Value} {r : ANext} (ha : Reps g args us.toList)
    (hr : builtinA P mt b ts ty cs args st = some r) : NextOK base w0 g r ((builtin b ts ty cs us).run P w) := by
  have pureCase : ∀ l, vals args = some l → (nextV (pureRun P (builtin b ts ty cs l.toArray))).map (ANext.val · st) = some r → NextOK base w0 g r ((builtin b ts ty cs us).run P w) := by
    intro l hl hr
    obtain ⟨v, hv, rfl⟩ := val_inv hr
    have := vals_sound args us.toList l ha hl
    have hus : us = l.toArray := by rw [← this]
    subst hus
    obtain ⟨u, h1, h2⟩ := nextV_sound (w := w) (g := g) hv
    rw [h1]
    exact ⟨g, G.le.refl g, h, h2⟩
  unfold builtinA at hr
  split at hr
  · rename_i t tx s x
    obtain ⟨v, st', hv, rfl⟩ := ofP_inv hr
    obtain ⟨hl, hat⟩ := ha
    obtain ⟨us⟩ := us
    match us, hl, hat with
    | [p, q], hl, hat => exact nextOK_mem (append_sound h (hat 0 _ _ rfl rfl) (hat 1 _ _ rfl rfl) hv)
  · cases hr
  · split at hr
    · rename_i l hl
      exact pureCase l hl hr
    · split at hr
      · rename_i t x _ _ _
        obtain ⟨v, hv, rfl⟩ := val_inv hr
        obtain ⟨hl, hat⟩ := ha
        obtain ⟨us⟩ := us
        match us, hl, hat with
        | [q], hl, hat => exact nextOK_val h (len_sound (hat 0 _ _ rfl rfl) hv)
      · cases hr

theorem call_sound (h : SInv base w0 g st w) {mt : Bool} {ρ : Operand → Option AVal} {ρ' : Operand → Value} (hρ : OpOK g ρ ρ') {c : Call} {ty : TypeId} {r : ANext} (hr : callA P mt ρ c ty st = some r) :
    NextOK base w0 g r ((do let d ← resolve ρ' c ty; invoke d.target d.args : Sem Next).run P w) := by
  unfold callA at hr
  split at hr
  · cases hr
  · rename_i args hargs
    have ha := evals_sound hρ _ _ hargs
    obtain ⟨callee, cargs, cts⟩ := c
    split at hr
    · rename_i b hb
      simp only at hb
      subst hb
      have ha' : Reps g args (cargs.map ρ').toList := by simpa using ha
      exact builtin_sound h ha' hr
    · rename_i f hf
      simp only at hf
      subst hf
      split at hr
      · rename_i id hid
        have hfv := (hρ f _ hid).flat
        have ha' : Reps g args (cargs.map ρ').toList := by simpa using ha
        have := callFunc_sound h ha' hr
        simpa [resolve, hfv, Deferred.ofValue, invoke] using this
      · rename_i id first captured hid
        have hfv := hρ f _ hid
        generalize hval : ρ' f = fv at hfv
        cases hfv
        rename_i us vs hl1 hr1 hl2 hr2
        have ha' : Reps g (first ++ args ++ captured) ((us ++ cargs.map ρ') ++ vs).toList := by
          simp only [Array.toList_append]
          refine Reps.append (Reps.append ⟨by simpa using hl1, fun j c u a b => hr1 j c u a (by simpa using b)⟩ (by simpa using ha)) ⟨by simpa using hl2, fun j c u a b => hr2 j c u a (by simpa using b)⟩
        have := callFunc_sound h ha' hr
        simpa [resolve, hval, Deferred.ofValue, invoke] using this
      · cases hr
    · cases hr

theorem map_toArray (f : Operand → Value) (ps : Array (Nat × Operand)) : (ps.toList.map fun (p : Nat × Operand) => (p.1, f p.2)).toArray = ps.map fun (i, x) => (i, f x) := by
  apply Array.ext'
  simp

theorem nilCheck_sound {v : AVal} {u : Value} (hr : Rep g v u) (h : nilCheckA v = true) (o : Oper) (x : Operand) (ρ' : Operand → Value) (ho : o.op = .nilCheck x) (hx : ρ' x = u) : (execOp ρ' o).run P w = .ok (.value u) w := by
  unfold execOp
  rw [ho]
  simp only [hx]
  cases hr <;> first
    | (cases h; done)
    | skip
  case lit hf => cases u <;> first | (cases hf; done) | rfl | skip
                 case pointer a => cases a <;> first | (cases h; done) | (cases hf; done)
                 case nilFunc => cases h
                 case nilIface => cases h
                 case func fn a b => cases fn <;> first | rfl | (cases hf; done)
  case func fn _ _ _ _ _ _ _ _ => cases fn <;> first | rfl | (cases h; done)
  all_goals rfl

theorem evalV_sound {x : Option AVal} {y : Option Value} {z : Option Value} (h : OReps g x y) (he : aexecOp.evalV x = some z) : y = z := by
  cases x with
  | none => cases he; cases y with
    | none => rfl
    | some _ => exact h.elim
  | some v =>
    cases y with
    | none => exact h.elim
    | some u =>
      cases v <;> first
        | (cases he; have := Rep.flat h; rw [this]; done)
        | (cases he; done)

theorem execOp_sound (h : SInv base w0 g st w) {mt : Bool} {ρ : Operand → Option AVal} {ρ' : Operand → Value} (hρ : OpOK g ρ ρ') {o : Oper} {r : ANext} (hr : aexecOp P mt ρ o st = some r) :
    NextOK base w0 g r ((execOp ρ' o).run P w) := by
  obtain ⟨dst, op, ty, pos, after, guard⟩ := o
  cases op with
  | move x =>
    obtain ⟨v, hv, rfl⟩ := val_inv hr
    exact ⟨g, G.le.refl g, h, hρ x v hv⟩
  | assign x =>
    obtain ⟨v, hv, rfl⟩ := val_inv hr
    exact ⟨g, G.le.refl g, h, hρ x v hv⟩
  | pick c a b =>
    simp only [aexecOp] at hr
    split at hr
    · rename_i hc
      obtain ⟨v, hv, rfl⟩ := val_inv hr
      have := (hρ c _ hc).flat
      have e : (execOp ρ' { dst, op := .pick c a b, type := ty, pos, after, guard }).run P w = .ok (.value (ρ' a)) w := by simp [execOp, this, asBool]
      rw [e]
      exact ⟨g, G.le.refl g, h, hρ a v hv⟩
    · rename_i hc
      obtain ⟨v, hv, rfl⟩ := val_inv hr
      have := (hρ c _ hc).flat
      have e : (execOp ρ' { dst, op := .pick c a b, type := ty, pos, after, guard }).run P w = .ok (.value (ρ' b)) w := by simp [execOp, this, asBool]
      rw [e]
      exact ⟨g, G.le.refl g, h, hρ b v hv⟩
    · cases hr
  | alloc e =>
    obtain ⟨v, st', hv, rfl⟩ := ofP_inv hr
    exact nextOK_mem (alloc_sound h hv)
  | box e x =>
    simp only [aexecOp] at hr
    split at hr
    · rename_i a ha
      obtain ⟨v, st', hv, rfl⟩ := ofP_inv hr
      exact nextOK_mem (box_sound h (hρ x a ha) hv)
    · cases hr
  | build t parts =>
    simp only [aexecOp] at hr
    split at hr
    · rename_i ps hps
      obtain ⟨v, hv, rfl⟩ := val_inv hr
      have := build_sound (P := P) (w := w) (evalPs_sound hρ _ _ hps) hv
      rw [map_toArray] at this
      exact nextOK_val h this
    · cases hr
  | buildSlice t len parts =>
    simp only [aexecOp] at hr
    split at hr
    · rename_i ps hps
      obtain ⟨v, st', hv, rfl⟩ := ofP_inv hr
      have := buildSlice_sound (P := P) h (evalPs_sound hρ _ _ hps) hv
      rw [map_toArray] at this
      exact nextOK_mem this
    · cases hr
  | load t a =>
    simp only [aexecOp] at hr
    split at hr
    · rename_i p hp
      obtain ⟨v, hv, rfl⟩ := val_inv hr
      exact nextOK_val h (load_sound h (hρ a p hp) hv)
    · cases hr
  | store t a x =>
    simp only [aexecOp] at hr
    split at hr
    · rename_i p v hp hv
      cases hs : storeA P t st p v with
      | none => rw [hs] at hr; cases hr
      | some st' =>
        rw [hs] at hr
        cases hr
        obtain ⟨w', h1, h2⟩ := store_sound h (hρ a p hp) (hρ x v hv) hs
        have e : (execOp ρ' { dst, op := .store t a x, type := ty, pos, after, guard }).run P w = .ok .skip w' := by simp [execOp, h1]
        rw [e]
        exact ⟨rfl, g, G.le.refl g, h2⟩
    · cases hr
  | nilCheck x =>
    simp only [aexecOp] at hr
    split at hr
    · rename_i v hv
      split at hr
      · rename_i hn
        cases hr
        rw [nilCheck_sound (P := P) (w := w) (hρ x v hv) hn _ x ρ' rfl rfl]
        exact ⟨g, G.le.refl g, h, hρ x v hv⟩
      · cases hr
    · cases hr
  | binOp op t x y yt =>
    simp only [aexecOp] at hr
    split at hr
    · rename_i a b ha hb
      obtain ⟨v, hv, rfl⟩ := val_inv hr
      have ra := hρ x a ha
      have rb := hρ y b hb
      have key : ∃ u, ((do eqGuard op t x y (ρ' x) (ρ' y); binOp op t (ρ' x) (ρ' y) : Sem Value)).run P w = .ok u w ∧ Rep g v u := by
        unfold binA at hv
        split at hv
        · rename_i u1 u2 e1 e2
          rw [valOf_rep ra e1, valOf_rep rb e2]
          exact pureV_sound hv
        · split at hv
          · rename_i d hd
            split at hv
            · rename_i hn
              obtain ⟨h1, h2, h3⟩ := nilEq_sound (w := w) hd ra rb hn
              split at hv
              · cases hv
                exact ⟨_, by simp only [Sem.run_bind, h1, Result.andThen_ok]; exact h2, .lit rfl⟩
              · cases hv
                exact ⟨_, by simp only [Sem.run_bind, h1, Result.andThen_ok]; exact h3, .lit rfl⟩
              · cases hv
            · cases hv
          · cases hv
      exact nextOK_val h key
    · cases hr
  | unOp op t x =>
    simp only [aexecOp] at hr
    split at hr
    · rename_i v0 hv0
      obtain ⟨v, hv, rfl⟩ := val_inv hr
      cases hx : ρ x with
      | none => rw [hx] at hv0; cases hv0
      | some a =>
        rw [hx] at hv0
        have := valOf_rep (hρ x a hx) hv0
        refine nextOK_val h ?_
        rw [this]
        exact pureV_sound hv
    · cases hr
  | convert src dst' x =>
    simp only [aexecOp] at hr
    split at hr
    · rename_i a ha
      obtain ⟨v, st', hv, rfl⟩ := ofP_inv hr
      exact nextOK_mem (conv_sound h (hρ x a ha) hv)
    · cases hr
  | makeInterface t x =>
    simp only [aexecOp] at hr
    split at hr
    · cases hr
    · rename_i v d hni hv hd
      cases hr
      refine nextOK_val h ⟨.iface t (ρ' x), ?_, .iface (hρ x v hv)⟩
      have hd' : P.underlying t = some d := hd
      cases d <;> first
        | (simp [Instr.makeInterface, run_underlying_of hd']; done)
        | exact (hni _ rfl).elim
    · cases hr
  | makeFunc fn first captured =>
    simp only [aexecOp] at hr
    split at hr
    · rename_i a b ha hb
      cases hr
      have ra := evals_sound hρ _ _ ha
      have rb := evals_sound hρ _ _ hb
      refine nextOK_val h ⟨_, rfl, .func (by have := ra.1; simpa using this) (fun j c u x y => ra.2 j c u x (by simpa using y)) (by have := rb.1; simpa using this) (fun j c u x y => rb.2 j c u x (by simpa using y))⟩
    · cases hr
  | makeSlice t l c =>
    simp only [aexecOp] at hr
    split at hr
    · rename_i a b ha hb
      obtain ⟨v, st', hv, rfl⟩ := ofP_inv hr
      exact nextOK_mem (makeSlice_sound h (hρ l a ha) (hρ c b hb) hv)
    · cases hr
  | slice t x lo hi mx =>
    simp only [aexecOp] at hr
    split at hr
    · rename_i v l hh m hv hl hhh hm
      have rl := evalO_sound hρ hl
      have rh := evalO_sound hρ hhh
      have rm := evalO_sound hρ hm
      split at hr
      · rename_i u
        split at hr
        · rename_i l' h' m' el eh em
          obtain ⟨v', hv', rfl⟩ := val_inv hr
          have e1 := evalV_sound rl el
          have e2 := evalV_sound rh eh
          have e3 := evalV_sound rm em
          have e0 := (hρ x _ hv).flat
          refine nextOK_val h ?_
          rw [e0, e1, e2, e3]
          exact pureV_sound hv'
        · cases hr
      · obtain ⟨v', hv', rfl⟩ := val_inv hr
        exact nextOK_val h (slice_sound (hρ x _ hv) rl rh rm hv')
    · cases hr
  | fieldAddr s x f =>
    simp only [aexecOp] at hr
    split at hr
    · rename_i a ha
      obtain ⟨v, hv, rfl⟩ := val_inv hr
      exact nextOK_val h (field_sound (hρ x a ha) hv)
    · cases hr
  | field t x f =>
    simp only [aexecOp] at hr
    split at hr
    · rename_i a ha
      obtain ⟨v, hv, rfl⟩ := val_inv hr
      exact nextOK_val h (fieldV_sound (hρ x a ha) hv)
    · cases hr
  | indexAddr t x ix =>
    simp only [aexecOp] at hr
    split at hr
    · rename_i a i ha hi
      obtain ⟨v, hv, rfl⟩ := val_inv hr
      exact nextOK_val h (index_sound (hρ x a ha) (hρ ix i hi) hv)
    · cases hr
  | index t x ix =>
    simp only [aexecOp] at hr
    split at hr
    · rename_i u i hu hi
      obtain ⟨v, hv, rfl⟩ := val_inv hr
      refine nextOK_val h ?_
      rw [(hρ x _ hu).flat, (hρ ix _ hi).flat]
      exact pureV_sound hv
    · rename_i a i _ ha hi
      obtain ⟨v, hv, rfl⟩ := val_inv hr
      exact nextOK_val h (indexV_sound (hρ x a ha) (hρ ix i hi) hv)
    · cases hr
  | extract t ix =>
    simp only [aexecOp] at hr
    split at hr
    · rename_i a ha
      obtain ⟨v, hv, rfl⟩ := val_inv hr
      exact nextOK_val h (extract_sound (hρ t a ha) hv)
    · cases hr
  | call c => exact call_sound h hρ hr
  | panic x =>
    simp only [aexecOp] at hr
    split at hr
    · rename_i t v hv
      cases hr
      have hval := hρ x _ hv
      generalize hu : ρ' x = u at hval
      cases hval
      rename_i u hru
      have e : (execOp ρ' { dst, op := .panic x, type := ty, pos, after, guard }).run P w = .halt (.panic (.iface t u)) w := by simp [execOp, hu, Instr.panic, goPanic, Sem.run]
      rw [e]
      exact ⟨h, .iface hru⟩
    · cases hr
  | _ => cases hr

end
end Go.Proofs.YtjpehemkgikkdaaA
