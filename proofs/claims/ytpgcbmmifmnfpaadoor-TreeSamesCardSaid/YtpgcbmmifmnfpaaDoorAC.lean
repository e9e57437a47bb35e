/- The second reading of code: statements in order, jumps, loops, calls. No condition. -/
import Derived.Test.YtpgcbmmifmnfpaaDoorAB
import Derived.LoopN
import Derived.KernelRfl
namespace Go.Proofs.YtpgcbmmifmnfpaaDoorA
open Go Go.RowKit
set_option linter.unusedVariables false
set_option linter.unusedSimpArgs false

inductive AExit where
  | normal
  | exit (id : Nat)
  | goto (l : Nat)
  | ret
  | panic (v : AVal)

inductive AEnd where
  | returned (v : AVal)
  | panicked (v : AVal)

structure Env where
  P : Program
  hint : FuncId → Tmp → Bool
  glob : Nat → Option AVal
  prim : FuncId → Option (List AVal → ASt → Option (AEnd × ASt)) := fun _ => none

abbrev ACall := FuncId → List AVal → ASt → Option (AEnd × ASt)
abbrev ARes := Option (AExit × List AVal × ASt)

def aeval (E : Env) (ts : List AVal) : Operand → Option AVal
  | .tmp t => ts[t]?
  | .const v => absOf v
  | .global g => E.glob g
  | .func f => some (.lit (.func (.func f) #[] #[]))

def aput (ts : List AVal) (dst : Option Tmp) (v : AVal) : List AVal :=
  match dst with
  | some d => ts.set d v
  | none => ts

def ayielded (ops : Array Oper) (ts : List AVal) (j : Nat) : Option Bool :=
  match ((ops[j]?).bind (·.dst)).bind (ts[·]?) with
  | some (.lit (.bool b)) => some b
  | _ => none

def ahint (E : Env) (fid : FuncId) (o : Oper) : Bool :=
  match o.dst with
  | some d => E.hint fid d
  | none => false

/-- one operation -/
def aop (E : Env) (fid : FuncId) (call : ACall) (ops : Array Oper) (o : Oper) (ts : List AVal) (st : ASt) : Option (Option AVal × List AVal × ASt) :=
  if Region.wanted o (ayielded ops ts) = true then
    match aexecOp E.P (ahint E fid o) (aeval E ts) o st with
    | some (.val v st') => some (none, aput ts o.dst v, st')
    | some (.enter f args st') => match call f args st' with
      | some (.returned v, st'') => some (none, aput ts o.dst v, st'')
      | some (.panicked v, st'') => some (some v, ts, st'')
      | none => none
    | some (.panic v st') => some (some v, ts, st')
    | none => none
  else some (none, aput ts o.dst .undef, st)

def aops (E : Env) (fid : FuncId) (call : ACall) (ops : Array Oper) : List Oper → List AVal → ASt → ARes
  | [], ts, st => some (.normal, ts, st)
  | o :: r, ts, st => match aop E fid call ops o ts st with
    | some (none, ts', st') => aops E fid call ops r ts' st'
    | some (some v, ts', st') => some (.panic v, ts', st')
    | none => none

/-- an operation that makes nothing and writes nothing but its temporary -/
def quietOp (P : Program) (mt : Bool) : Op → Bool
  | .move _ | .assign _ | .pick .. | .build .. | .load .. | .nilCheck _ | .binOp .. | .unOp .. | .makeInterface .. | .makeFunc .. | .slice .. | .fieldAddr .. | .field .. | .indexAddr .. | .index .. | .extract .. => true
  | .buildSlice .. => !mt
  | .convert _ dst _ => match P.underlying dst with
    | some (.slice _) => false
    | some _ => true
    | none => false
  | .call { callee := .builtin b, .. } => match b with
    | .len | .cap | .min | .max | .real | .imag | .complex => true
    | _ => false
  | _ => false

/-- of each operation those that it waits for, as a number's bits -/
def ancOf (m : List Nat) (o : Oper) : Nat := o.after.toList.foldl (fun acc e => if Region.binds .any e = true then acc ||| (2 ^ e.on ||| m.getD e.on 0) else acc) 0
def ancGo : List Oper → List Nat → List Nat
  | [], m => m
  | o :: r, m => ancGo r (m ++ [ancOf m o])
def ancL (ops : Array Oper) : List Nat := ancGo ops.toList []
def waits (ops : Array Oper) (_ : Nat) (j i : Nat) : Bool := ((ancL ops).getD j 0).testBit i

/-- an operation whose value hangs on its operands alone -/
def statelessOp : Op → Bool
  | .move _ | .assign _ | .pick .. | .build .. | .nilCheck _ | .binOp .. | .unOp .. | .fieldAddr .. | .field .. | .indexAddr .. | .extract .. => true
  | _ => false

def quietIx (E : Env) (fid : FuncId) (ops : Array Oper) (i : Nat) : Bool := match ops[i]? with
  | some o => quietOp E.P (ahint E fid o) o.op
  | none => false
/-- no temporary is set twice, or looked at by what doesn't wait for it: but for one that is set behind all that is not quiet -/
def ssaOK (E : Env) (fid : FuncId) (ops : Array Oper) : Bool := (List.range ops.size).all fun i => (List.range ops.size).all fun j => match ops[i]?, ops[j]? with
  | some oi, some oj => (i == j || oi.dst == none || oi.dst != oj.dst) && (waits ops ops.size i j || (match oj.dst with
    | some d => !((oi.looksAt ops).contains d)
    | none => true) || (waits ops ops.size j i && (List.range ops.size).all fun x => quietIx E fid ops x || waits ops ops.size j x))
  | _, _ => true

/-- a step of a plan: one operation, or two that may come in either order; and what is to be looked at again -/
inductive PStep where
  | one (i : Nat) (re : List Nat)
  | two (i j : Nat) (ri rj rij : List Nat)

def statelessIx (ops : Array Oper) (i : Nat) : Bool := match ops[i]? with
  | some o => statelessOp o.op
  | none => false

/-- an order that may stand for all orders, if what is told to be looked at again is still so -/
def planGo (E : Env) (fid : FuncId) (ops : Array Oper) : Nat → Array Bool → List Nat → Option (List PStep)
  | 0, listed, _ => if (Region.ready .any ops listed).isEmpty = true then some [] else none
  | fuel + 1, listed, done => match (Region.ready .any ops listed).find? (quietIx E fid ops) with
    | some i => (planGo E fid ops fuel (listed.setIfInBounds i true) (done ++ [i])).map (PStep.one i [] :: ·)
    | none => match Region.ready .any ops listed with
      | [j] => (planGo E fid ops fuel (listed.setIfInBounds j true) done).map (PStep.one j (done.filter fun i => !waits ops ops.size j i && !statelessIx ops i) :: ·)
      | [i, j] => match fuel with
        | 0 => none
        | fuel + 1 => if (Region.ready .any ops (listed.setIfInBounds i true) == [j] && Region.ready .any ops (listed.setIfInBounds j true) == [i]) = true then
            (planGo E fid ops fuel ((listed.setIfInBounds i true).setIfInBounds j true) done).map (PStep.two i j (done.filter fun k => !waits ops ops.size i k && !statelessIx ops k)
              (done.filter fun k => !waits ops ops.size j k && !statelessIx ops k) (done.filter fun k => !waits ops ops.size i k && !waits ops ops.size j k && !statelessIx ops k) :: ·)
          else none
      | _ => none

def drawPlan (E : Env) (fid : FuncId) (ops : Array Oper) : Option (List PStep) := if Region.noSelect ops && ssaOK E fid ops then planGo E fid ops ops.size (Array.replicate ops.size false) [] else none

/-- a stamp is left out -/
def ASt.bump (st : ASt) : ASt := { st with ctr := st.ctr + 1 }
def isLit : AVal → Bool
  | .lit _ => true
  | _ => false
/-- a value made as `a`, named `c` -/
def fillV (a c : Nat) : AVal → Option AVal
  | .ptr s off => if s = a then some (.ptr c off) else none
  | .slice s off len sz cap => if s = a then some (.slice c off len sz cap) else none
  | .islice sz es (.tok t) => if t = a ∧ (es.all fun e => e.cells.all isLit) = true then some (.islice sz es (.tok c)) else none
  | _ => none
def fillSt (a c : Nat) (st : ASt) : ASt := { heap := fun k => if k = c then st.heap a else if k = a then none else st.heap k, ctr := a }
/-- one block was made, nothing else written -/
def FillOK (st st3 : ASt) : Prop := st3.ctr = st.ctr + 1 ∧ (∃ b, st3.heap st.ctr = some (.cells b) ∧ b.all isLit = true) ∧ ∀ k, k ≠ st.ctr → st3.heap k = st.heap k ∨ st3.heap k = none
/-- an operation that makes a block, which gets a stamp that was left out -/
noncomputable def fillOp (E : Env) (fid : FuncId) (ops : Array Oper) (o : Oper) (c : Nat) (ts : List AVal) (st : ASt) : Option (List AVal × ASt) :=
  if Region.wanted o (ayielded ops ts) = true then
    match aexecOp E.P (ahint E fid o) (aeval E ts) o st with
    | some (.val v st3) => match fillV st.ctr c v with
      | some v' => @ite _ (FillOK st st3) (Classical.propDecidable _) (some (aput ts o.dst v', fillSt st.ctr c st3)) none
      | none => none
    | _ => none
  else none

/-- what an operation told it tells still -/
def Still (E : Env) (fid : FuncId) (ops : Array Oper) (ts : List AVal) (st : ASt) (k : Nat) : Prop := match ops[k]? with
  | some o => Region.wanted o (ayielded ops ts) = true → aexecOp E.P (ahint E fid o) (aeval E ts) o st = (match o.dst with
    | some d => (ts[d]?).map (ANext.val · st)
    | none => none) ∧ (o.dst.bind (ts[·]?)).isSome = true
  | none => False

def Stills (E : Env) (fid : FuncId) (ops : Array Oper) (ts : List AVal) (st : ASt) : List Nat → Prop
  | [] => True
  | k :: l => Still E fid ops ts st k ∧ Stills E fid ops ts st l

/-- the operations in that order -/
noncomputable def aopsP (E : Env) (fid : FuncId) (call : ACall) (ops : Array Oper) : List PStep → List AVal → ASt → ARes
  | [], ts, st => some (.normal, ts, st)
  | .one i re :: l, ts, st => match ops[i]? with
    | none => none
    | some o => match aop E fid call ops o ts st with
      | some (none, ts', st') => (match re with
        | [] => aopsP E fid call ops l ts' st'
        | k :: re => @ite _ (Stills E fid ops ts' st' (k :: re)) (Classical.propDecidable _) (aopsP E fid call ops l ts' st') none)
      | _ => none
  | .two i j ri rj rij :: l, ts, st => match ops[i]?, ops[j]? with
    | some oi, some oj => match aop E fid call ops oi ts st with
      | some (none, ts1, st1) => match aop E fid call ops oj ts1 st1 with
        | some (none, ts2, st2) => match aop E fid call ops oj ts st.bump with
          | some (none, ts3, st3) => match fillOp E fid ops oi st.ctr ts3 st3 with
            | some (ts4, st4) => @ite _ (ts4 = ts2 ∧ st4 = st2 ∧ Stills E fid ops ts1 st1 ri ∧ Stills E fid ops ts3 st3 rj ∧ Stills E fid ops ts2 st2 rij) (Classical.propDecidable _) (aopsP E fid call ops l ts2 st2) none
            | none => none
          | _ => none
        | _ => none
      | _ => none
    | _, _ => none

def aseq (x : ARes) (y : List AVal → ASt → ARes) : ARes :=
  match x with
  | some (.normal, ts, st) => y ts st
  | r => r

def ablock (id : Nat) (x : ARes) : ARes :=
  match x with
  | some (.exit k, ts, st) => if k = id then some (.normal, ts, st) else some (.exit k, ts, st)
  | r => r

def aloop (body : List AVal → ASt → ARes) : Nat → List AVal → ASt → ARes
  | 0, _, _ => none
  | n + 1, ts, st => aseq (body ts st) (aloop body n)

def ascope (frm : Nat → List AVal → ASt → ARes) (c : Code) : Nat → ARes → ARes
  | 0, _ => none
  | n + 1, some (.goto l, ts, st) => match findLabel c l with
    | some _ => ascope frm c n (frm l ts st)
    | none => some (.goto l, ts, st)
  | _ + 1, r => r

mutual
noncomputable def aexec (E : Env) (fid : FuncId) (call : ACall) (dr : Array Oper → Bool) (n : Nat) : Code → List AVal → ASt → ARes
  | .skip, ts, st => some (.normal, ts, st)
  | .region _ ops draw, ts, st => if draw = true ∧ dr ops = false then (match drawPlan E fid ops with
      | some p => aopsP E fid call ops p ts st
      | none => none) else aops E fid call ops ops.toList ts st
  | .seq a b, ts, st => aseq (aexec E fid call dr n a ts st) (aexec E fid call dr n b)
  | .cond c a b, ts, st => match aeval E ts c with
    | some (.lit (.bool true)) => aexec E fid call dr n a ts st
    | some (.lit (.bool false)) => aexec E fid call dr n b ts st
    | _ => none
  | .block id c, ts, st => ablock id (aexec E fid call dr n c ts st)
  | .loop c, ts, st => aloop (aexec E fid call dr n c) n ts st
  | .scope c, ts, st => ascope (fun l => afrom E fid call dr n l c) c n (aexec E fid call dr n c ts st)
  | .exit id, ts, st => some (.exit id, ts, st)
  | .label _, ts, st => some (.normal, ts, st)
  | .goto l, ts, st => some (.goto l, ts, st)
  | .ret, ts, st => some (.ret, ts, st)
  | _, _, _ => none
noncomputable def afrom (E : Env) (fid : FuncId) (call : ACall) (dr : Array Oper → Bool) (n : Nat) (l : Nat) : Code → List AVal → ASt → ARes
  | .seq a b, ts, st => match findLabel a l with
    | some _ => aseq (afrom E fid call dr n l a ts st) (aexec E fid call dr n b)
    | none => afrom E fid call dr n l b ts st
  | .label l', ts, st => if l' = l then some (.normal, ts, st) else none
  | _, _, _ => none
end

def aresult (E : Env) (ts : List AVal) (st : ASt) : ResultVar → Option AVal
  | .tmp t => ts[t]?
  | .cell a t => match ts[a]? with
    | some p => loadA E.P t st p
    | none => none

def aresults1 (E : Env) (ts : List AVal) (st : ASt) : List ResultVar → Option (List AVal)
  | [] => some []
  | r :: l => match aresult E ts st r, aresults1 E ts st l with
    | some v, some vs => some (v :: vs)
    | _, _ => none

def aresults (E : Env) (fn : Func) (ts : List AVal) (st : ASt) : Option AVal :=
  match aresults1 E ts st fn.results.toList with
  | some [v] => some v
  | some vs => some (.tuple vs)
  | none => none

def aend (E : Env) (fn : Func) : ARes → Option (AEnd × ASt)
  | some (.normal, ts, st) | some (.ret, ts, st) => (aresults E fn ts st).map fun v => (.returned v, st)
  | some (.panic v, _, st) => some (.panicked v, st)
  | _ => none

noncomputable def acall (E : Env) (dr : FuncId → Array Oper → Bool) : Nat → ACall
  | 0, _, _, _ => none
  | n + 1, f, args, st => match E.prim f with
    | some p => p args st
    | none => match E.P.funcs[f]? with
      | some fn => match fn.body with
        | some c => aend E fn (aexec E f (acall E dr n) (dr f) n c (args ++ List.replicate (fn.ntmps - args.length) .undef) st)
        | none => none
      | none => none

/-! ### soundness -/
section
variable {E : Env} {base : Nat} {w0 : World}

structure ActOK (D : List Deferred) (g : G) (ts : List AVal) (a : Act) : Prop where
  tmps : Reps g ts a.tmps.toList
  defers : a.defers = D
variable {D : List Deferred}

def ExitOK (g : G) : AExit → Exit → Prop
  | .normal, .normal => True
  | .exit k, .exit k' => k' = k
  | .goto l, .goto l' => l' = l
  | .ret, .ret => True
  | .panic v, .panic chain => ∃ u, chain = [{ v := u, recovered := false }] ∧ Rep g v u
  | _, _ => False

def EndOK (g : G) : AEnd → Ending → Prop
  | .returned v, .returned u => Rep g v u
  | .panicked v, .panicked chain => ∃ u, chain = [{ v := u, recovered := false }] ∧ Rep g v u
  | _, _ => False

/-- the globals are told as they are -/
def GlobOK (E : Env) (g : G) : Prop := ∀ k v, E.glob k = some v → Rep g v (.pointer (some ⟨k, 0, none⟩))

theorem GlobOK.mono {g g' : G} (h : GlobOK E g) (hle : g.le g') : GlobOK E g' := fun k v hk => (h k v hk).mono hle

def Post (D : List Deferred) (base : Nat) (w0 : World) (g : G) (r : AExit × List AVal × ASt) : Exit → Act → World → Prop :=
  fun e a w => ∃ g', g.le g' ∧ SInv base w0 g' r.2.2 w ∧ ActOK D g' r.2.1 a ∧ ExitOK g' r.1 e

def CallOK (E : Env) (base : Nat) (w0 : World) (f : FuncId) (args : List AVal) (st : ASt) (r : AEnd × ASt) : Prop :=
  ∀ g w us, SInv base w0 g st w → GlobOK E g → Reps g args us.toList → Calls E.P f us w (fun e w' => ∃ g', g.le g' ∧ SInv base w0 g' r.2 w' ∧ EndOK g' r.1 e)

theorem aeval_sound {g : G} {ts : List AVal} {a : Act} (h : ActOK D g ts a) (hg : GlobOK E g) : OpOK g (aeval E ts) a.eval := by
  intro x v hv
  cases x with
  | tmp t =>
    have hlt := (List.getElem?_eq_some_iff.1 hv).1
    have hl := h.tmps.1
    have hu : a.tmps.toList[t]? = some (a.tmps.toList[t]'(by omega)) := List.getElem?_eq_getElem _
    have := h.tmps.2 t v _ hv hu
    have e : a.eval (.tmp t) = a.tmps.toList[t]'(by omega) := by
      simp only [Act.eval]
      rw [Array.getD_eq_getD_getElem?, ← Array.getElem?_toList, hu]
      rfl
    rw [e]; exact this
  | const u => exact absOf_rep hv
  | global k => exact hg k v hv
  | func f => cases hv; exact .lit rfl

theorem aput_sound {g : G} {ts : List AVal} {a : Act} (h : ActOK D g ts a) {v : AVal} {u : Value} (hr : Rep g v u) (dst : Option Tmp) : ActOK D g (aput ts dst v) (a.put dst u) := by
  cases dst with
  | none => exact h
  | some d => exact ⟨by simpa [aput, Act.put] using h.tmps.set hr d, by simpa [Act.put] using h.defers⟩

theorem ActOK.mono {g g' : G} {ts : List AVal} {a : Act} (h : ActOK D g ts a) (hle : g.le g') : ActOK D g' ts a := ⟨h.tmps.mono hle, h.defers⟩

theorem undef_rep {g : G} : Rep g .undef undef := .tuple (us := #[]) rfl (fun j c u a b => by simp at a)

theorem yielded_eq {g : G} {ops : Array Oper} {ts : List AVal} {a : Act} (h : ActOK D g ts a) (j : Nat) : yielded ops a.tmps j = ayielded ops ts j := by
  unfold yielded ayielded
  cases hd : (ops[j]?).bind (·.dst) with
  | none => rfl
  | some d =>
    simp only [Option.bind_some]
    cases ht : ts[d]? with
    | none =>
      have hl := h.tmps.1
      have : a.tmps[d]? = none := by
        rw [Array.getElem?_eq_none_iff]
        rw [List.getElem?_eq_none_iff] at ht
        simp at hl
        omega
      rw [this]
    | some v =>
      have hlt := (List.getElem?_eq_some_iff.1 ht).1
      have hl := h.tmps.1
      have hu : a.tmps.toList[d]? = some (a.tmps.toList[d]'(by omega)) := List.getElem?_eq_getElem _
      have hr := h.tmps.2 d v _ ht hu
      rw [← Array.getElem?_toList, hu]
      generalize a.tmps.toList[d]'(by omega) = u at hr
      cases hr with
      | lit h => cases u <;> rfl
      | _ => rfl

theorem wanted_eq {g : G} {ops : Array Oper} {ts : List AVal} {a : Act} (h : ActOK D g ts a) (o : Oper) : Region.wanted o (yielded ops a.tmps) = Region.wanted o (ayielded ops ts) := by
  unfold Region.wanted
  split
  · rfl
  · rw [yielded_eq h]

/-- one operation, told and done -/
theorem aop_sound {fid : FuncId} {call : ACall} (hcall : ∀ f args st r, call f args st = some r → CallOK E base w0 f args st r) {ops : Array Oper} {o : Oper} {ts ts' : List AVal} {st st' : ASt} {r : Option AVal}
    (hr : aop E fid call ops o ts st = some (r, ts', st')) {g : G} {a : Act} {w : World} (hinv : SInv base w0 g st w) (hg : GlobOK E g) (ha : ActOK D g ts a) {K : Act → World → Prop} {Q : Exit → Act → World → Prop}
    (hK : r = none → ∀ g' a' w', g.le g' → SInv base w0 g' st' w' → ActOK D g' ts' a' → K a' w')
    (hQ : ∀ v, r = some v → ∀ g' a' w' chain, g.le g' → SInv base w0 g' st' w' → ActOK D g' ts' a' → ExitOK g' (.panic v) (.panic chain) → Q (.panic chain) a' w') :
    if Region.wanted o (yielded ops a.tmps) then o.wp E.P a w K Q ∨ (o.asks E.P a w ∧ LetsOut Q) else K (a.put o.dst undef) w := by
  rw [wanted_eq ha]
  unfold aop at hr
  split at hr
  · rename_i hw
    rw [if_pos hw]
    refine .inl ?_
    have hop := fun r' (h : aexecOp E.P (ahint E fid o) (aeval E ts) o st = some r') => execOp_sound (P := E.P) hinv (aeval_sound ha hg) h
    unfold Oper.wp
    split at hr
    · rename_i v st1 hx
      cases hr
      have := hop _ hx
      generalize (execOp a.eval o).run E.P w = res at this
      cases res with
      | halt h w' => exact this.elim
      | ok n w' =>
        cases n with
        | value u =>
          obtain ⟨g', h1, h2, h3⟩ := this
          exact hK rfl g' _ w' h1 h2 (aput_sound (ha.mono h1) h3 o.dst)
        | skip =>
          obtain ⟨rfl, g', h1, h2⟩ := this
          exact hK rfl g' _ w' h1 h2 (aput_sound (ha.mono h1) undef_rep o.dst)
        | _ => exact this.elim
    · rename_i f args st1 hx
      have := hop _ hx
      generalize (execOp a.eval o).run E.P w = res at this
      cases res with
      | halt h w' => exact this.elim
      | ok n w' =>
        cases n with
        | enter f' us =>
          obtain ⟨rfl, h1, h2⟩ := this
          split at hr
          · rename_i v st2 hc
            cases hr
            refine (hcall _ _ _ _ hc g w' us h1 hg h2).mono fun e w'' he => ?_
            obtain ⟨g', h3, h4, h5⟩ := he
            cases e with
            | returned u => exact hK rfl g' _ w'' h3 h4 (aput_sound (ha.mono h3) h5 o.dst)
            | panicked chain => exact h5.elim
            | outgrown => exact h5.elim
          · rename_i v st2 hc
            cases hr
            refine (hcall _ _ _ _ hc g w' us h1 hg h2).mono fun e w'' he => ?_
            obtain ⟨g', h3, h4, h5⟩ := he
            cases e with
            | returned u => exact h5.elim
            | panicked chain => exact hQ _ rfl g' _ w'' chain h3 h4 (ha.mono h3) h5
            | outgrown => exact h5.elim
          · cases hr
        | _ => exact this.elim
    · rename_i v st1 hx
      cases hr
      have := hop _ hx
      generalize (execOp a.eval o).run E.P w = res at this
      cases res with
      | ok n w' => cases n <;> exact this.elim
      | halt h w' =>
        cases h with
        | panic u =>
          obtain ⟨h1, h2⟩ := this
          exact hQ _ rfl g _ w' _ (G.le.refl g) h1 ha ⟨u, rfl, h2⟩
        | _ => exact this.elim
    · cases hr
  · rename_i hw
    cases hr
    rw [if_neg hw]
    exact hK rfl g _ w (G.le.refl g) hinv (aput_sound ha undef_rep o.dst)

theorem aops_sound {fid : FuncId} {call : ACall} (hcall : ∀ f args st r, call f args st = some r → CallOK E base w0 f args st r) {ops : Array Oper} : ∀ (l : List Oper) (ts : List AVal) (st : ASt) (r : AExit × List AVal × ASt),
    aops E fid call ops l ts st = some r → ∀ (g0 g : G) (a : Act) (w : World), g0.le g → SInv base w0 g st w → GlobOK E g → ActOK D g ts a → wpList E.P ops (Post D base w0 g0 r) l a w
  | [], ts, st, r, hr, g0, g, a, w, h0, hinv, hg, ha => by
    cases hr
    exact ⟨g, h0, hinv, ha, trivial⟩
  | o :: l, ts, st, r, hr, g0, g, a, w, h0, hinv, hg, ha => by
    unfold aops at hr
    unfold wpList
    split at hr
    · rename_i ts' st' ho
      exact aop_sound hcall ho hinv hg ha (fun _ g' a' w' h1 h2 h3 => aops_sound hcall l _ _ r hr g0 g' a' w' (h0.trans h1) h2 (hg.mono h1) h3) (fun v hv => by cases hv)
    · rename_i v ts' st' ho
      cases hr
      exact aop_sound hcall ho hinv hg ha (fun h => by cases h) (fun v' hv g' a' w' chain h1 h2 h3 h4 => by cases hv; exact ⟨g', h0.trans h1, h2, h3, h4⟩)
    · cases hr

end
end Go.Proofs.YtpgcbmmifmnfpaaDoorA

/- The second reading of code is true of the model. No condition. -/
namespace Go.Proofs.YtpgcbmmifmnfpaaDoorA
open Go Go.RowKit
set_option linter.unusedVariables false
set_option linter.unusedSimpArgs false

section
variable {E : Env} {base : Nat} {w0 : World}

/-- what is asked of regions that draw their order -/
def DrawOK (E : Env) (base : Nat) (w0 : World) (fid : FuncId) (call : ACall) (dr : Array Oper → Bool) : Prop :=
  ∀ (D : List Deferred) (ops : Array Oper) (id : Nat) (ts : List AVal) (st : ASt) (r : AExit × List AVal × ASt), (dr ops = true ∧ aops E fid call ops ops.toList ts st = some r) ∨ (∃ p, drawPlan E fid ops = some p ∧ aopsP E fid call ops p ts st = some r) →
    ∀ (g0 g : G) (a : Act) (w : World), g0.le g → SInv base w0 g st w → GlobOK E g → ActOK D g ts a → (Code.region id ops true).wp E.P (Post D base w0 g0 r) a w

/-- told from a state on, it is so -/
def Sound (E : Env) (base : Nat) (w0 : World) (c : Code) (ex : List AVal → ASt → ARes) : Prop :=
  ∀ (D : List Deferred) (ts : List AVal) (st : ASt) (r : AExit × List AVal × ASt), ex ts st = some r →
    ∀ (g0 g : G) (a : Act) (w : World), g0.le g → SInv base w0 g st w → GlobOK E g → ActOK D g ts a → c.wp E.P (Post D base w0 g0 r) a w

theorem wp_weak {c : Code} {Q Q' : Exit → Act → World → Prop} {a : Act} {w : World} (h : c.wp E.P Q a w) (hq : ∀ e a w, Q e a w → Q' e a w) : c.wp E.P Q' a w := wp_mono h hq

theorem exit_normal {g : G} {e : Exit} (h : ExitOK g .normal e) : e = .normal := by cases e <;> first | rfl | exact h.elim

theorem sound_seq {x y : Code} {fx fy : List AVal → ASt → ARes} (hx : Sound E base w0 x fx) (hy : Sound E base w0 y fy) : Sound E base w0 (.seq x y) (fun ts st => aseq (fx ts st) fy) := by
  intro D ts st r hr g0 g a w h0 hinv hg ha
  cases hfx : fx ts st with
  | none => simp [hfx, aseq] at hr
  | some q =>
    obtain ⟨e, ts', st'⟩ := q
    have h1 := hx D ts st _ hfx g g a w (G.le.refl g) hinv hg ha
    refine wp_seq (wp_weak h1 fun e' a' w' hp => ?_)
    obtain ⟨g', p1, p2, p3, p4⟩ := hp
    simp only [hfx] at hr
    cases e with
    | normal =>
      obtain rfl := exit_normal p4
      exact hy D ts' st' r hr g0 g' a' w' (h0.trans p1) p2 (hg.mono p1) p3
    | _ =>
      simp only [aseq, Option.some.injEq] at hr
      subst hr
      cases e' <;> first
        | exact p4.elim
        | exact ⟨g', h0.trans p1, p2, p3, p4⟩

theorem sound_loop {c : Code} {f : List AVal → ASt → ARes} (hc : Sound E base w0 c f) (n : Nat) : Sound E base w0 (.loop c) (aloop f n) := by
  intro D ts st r hr g0 g a w h0 hinv hg ha
  refine wp_loop_rounds n ?_
  induction n generalizing ts st g a w with
  | zero => cases hr
  | succ n ih =>
    rw [rounds_succ]
    unfold aloop at hr
    cases hf : f ts st with
    | none => simp [hf, aseq] at hr
    | some q =>
      obtain ⟨e, ts', st'⟩ := q
      refine wp_weak (hc D ts st _ hf g g a w (G.le.refl g) hinv hg ha) fun e' a' w' hp => ?_
      obtain ⟨g', p1, p2, p3, p4⟩ := hp
      simp only [hf] at hr
      cases e with
      | normal =>
        obtain rfl := exit_normal p4
        exact ih ts' st' hr g' a' w' (h0.trans p1) p2 (hg.mono p1) p3
      | _ =>
        simp only [aseq, Option.some.injEq] at hr
        subst hr
        cases e' <;> first
          | exact p4.elim
          | exact ⟨g', h0.trans p1, p2, p3, p4⟩

theorem sound_block {id : Nat} {c : Code} {f : List AVal → ASt → ARes} (hc : Sound E base w0 c f) : Sound E base w0 (.block id c) (fun ts st => ablock id (f ts st)) := by
  intro D ts st r hr g0 g a w h0 hinv hg ha
  cases hf : f ts st with
  | none => simp [hf, ablock] at hr
  | some q =>
    obtain ⟨e, ts', st'⟩ := q
    refine wp_block (wp_weak (hc D ts st _ hf g g a w (G.le.refl g) hinv hg ha) fun e' a' w' hp => ?_)
    obtain ⟨g', p1, p2, p3, p4⟩ := hp
    simp only [hf] at hr
    cases e with
    | exit k =>
      cases e' <;> first
        | exact p4.elim
        | skip
      rename_i k'
      have hk : k' = k := p4
      subst hk
      simp only [ablock] at hr
      simp only [Exit.inBlock]
      split at hr
      · rename_i hid
        rw [if_pos hid]
        cases hr
        exact ⟨g', h0.trans p1, p2, p3, trivial⟩
      · rename_i hid
        rw [if_neg hid]
        cases hr
        exact ⟨g', h0.trans p1, p2, p3, rfl⟩
    | _ =>
      simp only [ablock, Option.some.injEq] at hr
      subst hr
      cases e' <;> first
        | exact p4.elim
        | exact ⟨g', h0.trans p1, p2, p3, p4⟩

/-- a jump within a scope: from the label on -/
theorem sound_scope {c : Code} {f : List AVal → ASt → ARes} {frm : Nat → List AVal → ASt → ARes} (hc : Sound E base w0 c f) (hfrm : ∀ l rest, findLabel c l = some rest → Sound E base w0 rest (frm l)) (n : Nat) :
    Sound E base w0 (.scope c) (fun ts st => ascope frm c n (f ts st)) := by
  have key : ∀ (n : Nat) (x : Code) (fx : List AVal → ASt → ARes), Sound E base w0 x fx → ∀ (D : List Deferred) (ts : List AVal) (st : ASt) (r : AExit × List AVal × ASt), ascope frm c n (fx ts st) = some r →
      ∀ (g0 g : G) (a : Act) (w : World), g0.le g → SInv base w0 g st w → GlobOK E g → ActOK D g ts a →
      ∀ (b : Frame) (k : List Item) (cs : List Frame), ∃ e a' w', Post D base w0 g0 r e a' w' ∧ Arrives E.P (lone (b.at a (.code x :: .inScope c :: k)) cs w) b k cs e a' w' := by
    intro n
    induction n with
    | zero => intro x fx hx D ts st r hr; cases hfx : fx ts st <;> simp [hfx, ascope] at hr
    | succ n ih =>
      intro x fx hx D ts st r hr g0 g a w h0 hinv hg ha b k cs
      cases hfx : fx ts st with
      | none => simp [hfx, ascope] at hr
      | some q =>
        obtain ⟨e, ts', st'⟩ := q
        obtain ⟨e', a', w', hp, harr⟩ := hx D ts st _ hfx g g a w (G.le.refl g) hinv hg ha b (.inScope c :: k) cs
        obtain ⟨g', p1, p2, p3, p4⟩ := hp
        rw [hfx] at hr
        cases e with
        | goto l =>
          cases e' <;> first
            | exact p4.elim
            | skip
          rename_i l'
          have hl : l' = l := p4
          subst hl
          simp only [ascope] at hr
          cases hfl : findLabel c l' with
          | some rest =>
            rw [hfl] at hr
            obtain ⟨e2, a2, w2, hp2, harr2⟩ := ih rest (frm l') (hfrm l' rest hfl) D ts' st' r hr g0 g' a' w' (h0.trans p1) p2 (hg.mono p1) p3 b k cs
            exact ⟨e2, a2, w2, hp2, .of_steps (harr _ (by simp [gotoIn, hfl])) harr2⟩
          | none =>
            rw [hfl] at hr
            cases hr
            exact ⟨.goto l', a', w', ⟨g', h0.trans p1, p2, p3, rfl⟩, fun k' hk => harr k' (by simp [gotoIn, hfl, hk])⟩
        | normal =>
          obtain rfl := exit_normal p4
          simp only [ascope, Option.some.injEq] at hr
          subst hr
          exact ⟨.normal, a', w', ⟨g', h0.trans p1, p2, p3, trivial⟩, Steps.trans harr (.one step_inScope)⟩
        | exit id =>
          simp only [ascope, Option.some.injEq] at hr
          subst hr
          cases e' <;> first
            | exact p4.elim
            | exact ⟨_, a', w', ⟨g', h0.trans p1, p2, p3, p4⟩, fun k' hk => harr k' (by simp [exitTo, hk])⟩
        | ret =>
          simp only [ascope, Option.some.injEq] at hr
          subst hr
          cases e' <;> first
            | exact p4.elim
            | exact ⟨_, a', w', ⟨g', h0.trans p1, p2, p3, p4⟩, harr⟩
        | panic v =>
          simp only [ascope, Option.some.injEq] at hr
          subst hr
          cases e' <;> first
            | exact p4.elim
            | exact ⟨_, a', w', ⟨g', h0.trans p1, p2, p3, p4⟩, harr⟩
  intro D ts st r hr g0 g a w h0 hinv hg ha b k cs
  obtain ⟨e, a', w', hp, harr⟩ := key n c f hc D ts st r hr g0 g a w h0 hinv hg ha b k cs
  exact ⟨e, a', w', hp, .of_steps (.one step_scope) harr⟩

theorem bool_val {g : G} {b : Bool} {u : Value} (h : Rep g (.lit (.bool b)) u) : u = .bool b := h.flat

mutual
theorem aexec_sound {fid : FuncId} {call : ACall} {dr : Array Oper → Bool} (hcall : ∀ f args st r, call f args st = some r → CallOK E base w0 f args st r) (hdr : DrawOK E base w0 fid call dr) (n : Nat) :
    ∀ (c : Code), Sound E base w0 c (aexec E fid call dr n c)
  | .skip => by
    intro D ts st r hr g0 g a w h0 hinv hg ha
    rw [aexec] at hr
    cases hr
    exact wp_skip ⟨g, h0, hinv, ha, trivial⟩
  | .region id ops draw => by
    intro D ts st r hr g0 g a w h0 hinv hg ha
    rw [aexec] at hr
    split at hr
    · rename_i hd
      obtain ⟨rfl, hd⟩ := hd
      split at hr
      · rename_i p hp
        exact hdr D ops id ts st r (.inr ⟨p, hp, hr⟩) g0 g a w h0 hinv hg ha
      · cases hr
    · rename_i hd
      cases draw with
      | true => exact hdr D ops id ts st r (.inl ⟨by cases h : dr ops <;> simp_all, hr⟩) g0 g a w h0 hinv hg ha
      | false => exact wp_region_list (aops_sound hcall _ ts st r hr g0 g a w h0 hinv hg ha)
  | .seq x y => by
    have hx := aexec_sound hcall hdr n x
    have hy := aexec_sound hcall hdr n y
    have := sound_seq hx hy
    intro D ts st r hr
    rw [aexec] at hr
    exact this D ts st r hr
  | .cond c x y => by
    have hx := aexec_sound hcall hdr n x
    have hy := aexec_sound hcall hdr n y
    intro D ts st r hr g0 g a w h0 hinv hg ha
    rw [aexec] at hr
    split at hr
    · rename_i hc
      exact wp_cond (t := true) (aeval_sound ha hg c _ hc).flat (hx D ts st r hr g0 g a w h0 hinv hg ha)
    · rename_i hc
      exact wp_cond (t := false) (aeval_sound ha hg c _ hc).flat (hy D ts st r hr g0 g a w h0 hinv hg ha)
    · cases hr
  | .block id c => by
    have hc := aexec_sound hcall hdr n c
    intro D ts st r hr
    rw [aexec] at hr
    exact sound_block hc D ts st r hr
  | .loop c => by
    have hc := aexec_sound hcall hdr n c
    intro D ts st r hr
    rw [aexec] at hr
    exact sound_loop hc n D ts st r hr
  | .scope c => by
    have hc := aexec_sound hcall hdr n c
    have hf := fun l => afrom_sound hcall hdr n l c
    intro D ts st r hr
    rw [aexec] at hr
    exact sound_scope hc hf n D ts st r hr
  | .exit id => by
    intro D ts st r hr g0 g a w h0 hinv hg ha
    rw [aexec] at hr
    cases hr
    exact wp_exit ⟨g, h0, hinv, ha, rfl⟩
  | .label l => by
    intro D ts st r hr g0 g a w h0 hinv hg ha
    rw [aexec] at hr
    cases hr
    exact wp_label ⟨g, h0, hinv, ha, trivial⟩
  | .goto l => by
    intro D ts st r hr g0 g a w h0 hinv hg ha
    rw [aexec] at hr
    cases hr
    exact wp_goto ⟨g, h0, hinv, ha, rfl⟩
  | .ret => by
    intro D ts st r hr g0 g a w h0 hinv hg ha
    rw [aexec] at hr
    cases hr
    exact wp_ret ⟨g, h0, hinv, ha, trivial⟩
  | .rangeFunc .. => by intro D ts st r hr; simp [aexec] at hr
  | .refuse _ => by intro D ts st r hr; simp [aexec] at hr
theorem afrom_sound {fid : FuncId} {call : ACall} {dr : Array Oper → Bool} (hcall : ∀ f args st r, call f args st = some r → CallOK E base w0 f args st r) (hdr : DrawOK E base w0 fid call dr) (n : Nat) (l : Nat) :
    ∀ (c : Code) (rest : Code), findLabel c l = some rest → Sound E base w0 rest (afrom E fid call dr n l c)
  | .seq x y, rest, hfl => by
    have hx := afrom_sound hcall hdr n l x
    have hy := afrom_sound hcall hdr n l y
    have hy2 := aexec_sound hcall hdr n y
    intro D ts st r hr
    rw [afrom] at hr
    unfold findLabel at hfl
    cases hf : findLabel x l with
    | some rx =>
      rw [hf] at hfl hr
      cases hfl
      exact sound_seq (hx rx hf) hy2 D ts st r hr
    | none =>
      rw [hf] at hfl hr
      exact hy rest hfl D ts st r hr
  | .label l', rest, hfl => by
    intro D ts st r hr g0 g a w h0 hinv hg ha
    rw [afrom] at hr
    unfold findLabel at hfl
    split at hr
    · rename_i hl
      rw [if_pos (by simpa using hl)] at hfl
      cases hfl
      cases hr
      exact wp_skip ⟨g, h0, hinv, ha, trivial⟩
    · cases hr
  | .skip, _, hfl | .region .., _, hfl | .cond .., _, hfl | .block .., _, hfl | .loop .., _, hfl | .scope .., _, hfl | .exit _, _, hfl | .goto _, _, hfl | .ret, _, hfl | .rangeFunc .., _, hfl | .refuse _, _, hfl => by simp [findLabel] at hfl
end

def resM (tmps : Array Value) : ResultVar → Sem Value
  | .tmp t => pure (tmps.getD t undef)
  | .cell a t => do loadVar t (← asAddr (tmps.getD a undef))

theorem results_eq (fn : Func) (tmps : Array Value) : results fn tmps = (do let vs ← fn.results.mapM (resM tmps); pure (if h : vs.size = 1 then vs[0] else .tuple vs)) := by
  unfold results
  congr 2

theorem results_sound {D : List Deferred} {g : G} {fn : Func} {ts : List AVal} {st : ASt} {a : Act} {w : World} {v : AVal} (ha : ActOK D g ts a) (hinv : SInv base w0 g st w) (hr : aresults E fn ts st = some v) :
    ∃ u, (results fn a.tmps).run E.P w = .ok u w ∧ Rep g v u := by
  have get : ∀ (t : Nat) (v : AVal), ts[t]? = some v → Rep g v (a.tmps.getD t undef) := by
    intro t v hv
    have hlt := (List.getElem?_eq_some_iff.1 hv).1
    have hl := ha.tmps.1
    have hu : a.tmps.toList[t]? = some (a.tmps.toList[t]'(by omega)) := List.getElem?_eq_getElem _
    have := ha.tmps.2 t v _ hv hu
    rw [Array.getD_eq_getD_getElem?, ← Array.getElem?_toList, hu]
    exact this
  have one : ∀ (r : ResultVar) (v : AVal), aresult E ts st r = some v → ∃ u, (resM a.tmps r).run E.P w = .ok u w ∧ Rep g v u := by
    intro r v hv
    cases r with
    | tmp t => exact ⟨_, rfl, get t v hv⟩
    | cell c t =>
      simp only [aresult] at hv
      split at hv
      · rename_i p hp
        have hrep := get c p hp
        obtain ⟨u, h1, h2⟩ := load_sound (P := E.P) hinv hrep hv
        refine ⟨u, ?_, h2⟩
        show ((do loadVar t (← asAddr (a.tmps.getD c undef)) : Sem Value)).run E.P w = .ok u w
        generalize a.tmps.getD c undef = q at *
        cases q with
        | pointer x =>
          cases x with
          | none => simp [Instr.loadAt, Instr.sureAddr, stuck, Sem.run] at h1
          | some x => simpa [asAddr, Instr.loadAt, Instr.sureAddr] using h1
        | _ => simp [Instr.loadAt, Instr.sureAddr, stuck, Sem.run] at h1
      · cases hv
  have many : ∀ (l : List ResultVar) (vs : List AVal), aresults1 E ts st l = some vs → ∃ us : List Value, (l.mapM (resM a.tmps)).run E.P w = .ok us w ∧ Reps g vs us := by
    intro l
    induction l with
    | nil => intro vs hv; cases hv; exact ⟨[], rfl, rfl, fun j c u x y => by simp at x⟩
    | cons r l ih =>
      intro vs hv
      unfold aresults1 at hv
      split at hv
      · rename_i v vs' h1 h2
        cases hv
        obtain ⟨u, e1, e2⟩ := one r v h1
        obtain ⟨us, f1, f2⟩ := ih vs' h2
        refine ⟨u :: us, ?_, by simp [f2.1], fun j c x p q => ?_⟩
        · rw [List.mapM_cons]
          simp only [Sem.run_bind, e1, Result.andThen_ok, f1]
          rfl
        · cases j with
          | zero => cases p; cases q; exact e2
          | succ j => exact f2.2 j c x (by simpa using p) (by simpa using q)
      · cases hv
  unfold aresults at hr
  have fin : ∀ vs us, Reps g vs us → (match vs with
      | [v] => some v
      | vs => some (AVal.tuple vs)) = some v → Rep g v (if h : us.toArray.size = 1 then us.toArray[0] else .tuple us.toArray) := by
    intro vs us hrs hv
    split at hv
    · rename_i v'
      cases hv
      have hl := hrs.1
      match us, hl, hrs with
      | [u], _, hrs => exact hrs.2 0 _ u rfl rfl
    · rename_i hne
      cases hv
      have hl := hrs.1
      rw [dif_neg (by
        intro h1
        simp at h1
        match vs, hl, hne with
        | [v], _, hne => exact hne v rfl
        | [], hl, _ => simp at hl; subst hl; simp at h1
        | _ :: _ :: _, hl, _ => simp at hl; omega)]
      exact .tuple (by simpa using hl) (fun j c u x y => hrs.2 j c u x (by simpa using y))
  cases hvs : aresults1 E ts st fn.results.toList with
  | none => rw [hvs] at hr; cases hr
  | some vs =>
    rw [hvs] at hr
    obtain ⟨us, e1, e2⟩ := many _ _ hvs
    refine ⟨_, ?_, fin vs us e2 (by revert hr; cases vs with
      | nil => exact id
      | cons x vs => cases vs <;> exact id)⟩
    rw [results_eq, Array.mapM_eq_mapM_toList]
    simp only [Sem.run_bind]
    have : (List.toArray <$> List.mapM (resM a.tmps) fn.results.toList).run E.P w = .ok us.toArray w := by
      rw [← bind_pure_comp]
      simp only [Sem.run_bind, e1, Result.andThen_ok]
      rfl
    rw [this]
    rfl

theorem reps_undefs {g : G} (n : Nat) : Reps g (List.replicate n .undef) (List.replicate n undef) := by
  refine ⟨by simp, fun j c u a b => ?_⟩
  rw [List.getElem?_replicate] at a b
  split at a
  · rename_i hlt
    rw [if_pos hlt] at b
    cases a
    cases b
    exact undef_rep
  · cases a

/-- what is told of whole functions holds -/
def PrimOK (E : Env) (base : Nat) (w0 : World) : Prop := ∀ f p, E.prim f = some p → ∀ args st r, p args st = some r → CallOK E base w0 f args st r
theorem prim_none {E : Env} {base : Nat} {w0 : World} (h : E.prim = fun _ => none) : PrimOK E base w0 := fun f p hp => by rw [h] at hp; cases hp
theorem acall_sound (hprim : PrimOK E base w0) {dr : FuncId → Array Oper → Bool} (hdr : ∀ n fid, (∀ f args st r, acall E dr n f args st = some r → CallOK E base w0 f args st r) → DrawOK E base w0 fid (acall E dr n) (dr fid)) :
    ∀ (n : Nat) (f : FuncId) (args : List AVal) (st : ASt) (r : AEnd × ASt), acall E dr n f args st = some r → CallOK E base w0 f args st r
  | 0, f, args, st, r, h => by cases h
  | n + 1, f, args, st, r, h => by
    have ih := acall_sound hprim hdr n
    unfold acall at h
    split at h
    · rename_i p hp
      exact hprim f p hp args st r h
    intro g w us hinv hg hr
    split at h
    · rename_i fn hfn
      split at h
      · rename_i c hc
        refine calls_of_wp hfn hc ?_
        have hact : ActOK [] g (args ++ List.replicate (fn.ntmps - args.length) .undef) { tmps := us ++ Array.replicate (fn.ntmps - us.size) undef, defers := [] } := by
          refine ⟨?_, rfl⟩
          simp only [Array.toList_append]
          refine hr.append ?_
          have : us.size = args.length := by have := hr.1; simpa using this
          rw [this]
          simpa using reps_undefs (g := g) (fn.ntmps - args.length)
        cases hx : aexec E f (acall E dr n) (dr f) n c (args ++ List.replicate (fn.ntmps - args.length) .undef) st with
        | none => rw [hx] at h; cases h
        | some q =>
          obtain ⟨e, ts', st'⟩ := q
          rw [hx] at h
          refine wp_weak (aexec_sound ih (hdr n f ih) n c [] _ st _ hx g g _ w (G.le.refl g) hinv hg hact) fun e' a' w' hp => ?_
          obtain ⟨g', p1, p2, p3, p4⟩ := hp
          have hret : ∀ (h' : (aresults E fn ts' st').map (fun v => (AEnd.returned v, st')) = some r), a'.defers = [] ∧ ∃ v, (results fn a'.tmps).run E.P w' = .ok v w' ∧ ∃ g', g.le g' ∧ SInv base w0 g' r.2 w' ∧ EndOK g' r.1 (.returned v) := by
            intro h'
            cases hres : aresults E fn ts' st' with
            | none => rw [hres] at h'; cases h'
            | some v =>
              rw [hres] at h'
              cases h'
              obtain ⟨u, r1, r2⟩ := results_sound p3 p2 hres
              exact ⟨p3.defers, u, r1, g', p1, p2, r2⟩
          cases e with
          | normal =>
            obtain rfl := exit_normal p4
            exact hret h
          | ret =>
            cases e' <;> first
              | exact p4.elim
              | exact hret h
          | panic v =>
            cases h
            cases e' <;> first
              | exact p4.elim
              | exact ⟨p3.defers, g', p1, p2, p4⟩
          | exit k => cases h
          | goto l => cases h
      · cases h
    · cases h

end
end Go.Proofs.YtpgcbmmifmnfpaaDoorA

/- Regions whose order is open: one order tells of all. No condition. -/
namespace Go.Proofs.YtpgcbmmifmnfpaaDoorA
open Go Go.RowKit
set_option linter.unusedVariables false
set_option linter.unusedSimpArgs false

/-- may the order of the text stand for all orders? -/
def drawFrom (E : Env) (fid : FuncId) (ops : Array Oper) : Nat → Nat → Array Bool → Bool
  | 0, _, listed => (Region.ready .any ops listed).isEmpty
  | fuel + 1, k, listed => (Region.ready .any ops listed).contains k &&
      (match ops[k]? with
      | some o => if quietOp E.P (ahint E fid o) o.op = true then
          Region.free .any ops listed k && (List.range ops.size).all fun j => j == k || waits ops ops.size j k || listed.getD j true || (match ops[j]? with
            | some oj => quietOp E.P (ahint E fid oj) oj.op
            | none => true)
        else (List.range ops.size).all fun j => j == k || waits ops ops.size j k || listed.getD j true
      | none => false) && drawFrom E fid ops fuel (k + 1) (listed.setIfInBounds k true)

def drawB (E : Env) (fid : FuncId) (ops : Array Oper) : Bool := Region.noSelect ops && drawFrom E fid ops ops.size 0 (Array.replicate ops.size false)

section
variable {E : Env} {fid : FuncId} {call : ACall} {ops : Array Oper}

/-- what waits for what was not listed is not ready -/
def Down (ops : Array Oper) (listed : Array Bool) : Prop := ∀ j o, ops[j]? = some o → listed.getD j false = true → ∀ e ∈ o.after, Region.binds .any e = true → listed.getD e.on false = true

theorem ancGo_get : ∀ (l : List Oper) (m : List Nat) (j : Nat), j < m.length → (ancGo l m).getD j 0 = m.getD j 0
  | [], m, j, h => rfl
  | o :: r, m, j, h => by
    rw [ancGo, ancGo_get r _ j (by simp; omega)]
    simp only [List.getD_eq_getElem?_getD, List.getElem?_append_left h]
theorem ancGo_new : ∀ (l : List Oper) (m : List Nat) (j : Nat) (o : Oper), l[j]? = some o → (ancGo l m).getD (m.length + j) 0 = ancOf ((ancGo l m).take (m.length + j)) o ∧ (ancGo l m).length = m.length + l.length
  | [], m, j, o, h => by simp at h
  | o' :: r, m, 0, o, h => by
    simp only [List.getElem?_cons_zero, Option.some.injEq] at h
    subst h
    have hlen : ∀ (l : List Oper) (m : List Nat), (ancGo l m).length = m.length + l.length ∧ (ancGo l m).take m.length = m := by
      intro l
      induction l with
      | nil => intro m; simp [ancGo]
      | cons x l ih =>
        intro m
        obtain ⟨h1, h2⟩ := ih (m ++ [ancOf m x])
        refine ⟨by rw [ancGo, h1]; simp; omega, ?_⟩
        rw [ancGo]
        have := congrArg (List.take m.length) h2
        simp only [List.length_append, List.length_singleton, List.take_take, List.take_left] at this
        rwa [Nat.min_eq_left (by omega)] at this
    refine ⟨?_, (hlen _ m).1⟩
    rw [Nat.add_zero, (hlen (o' :: r) m).2, ancGo, ancGo_get r _ m.length (by simp)]
    simp [List.getD_eq_getElem?_getD]
  | o' :: r, m, j + 1, o, h => by
    obtain ⟨h1, h2⟩ := ancGo_new r (m ++ [ancOf m o']) j o (by simpa using h)
    rw [ancGo]
    have e : m.length + (j + 1) = (m ++ [ancOf m o']).length + j := by simp; omega
    refine ⟨by rw [e]; exact h1, by rw [h2]; simp; omega⟩

theorem ancOf_bit {m : List Nat} {i : Nat} : ∀ (l : List Edge) (acc : Nat), (l.foldl (fun acc e => if Region.binds .any e = true then acc ||| (2 ^ e.on ||| m.getD e.on 0) else acc) acc).testBit i = true →
    acc.testBit i = true ∨ ∃ e ∈ l, Region.binds .any e = true ∧ (e.on = i ∨ (m.getD e.on 0).testBit i = true)
  | [], acc, h => .inl h
  | e :: l, acc, h => by
    rw [List.foldl_cons] at h
    rcases ancOf_bit l _ h with h1 | ⟨e', h1, h2⟩
    · split at h1
      · rename_i hb
        rw [Nat.testBit_or, Nat.testBit_or, Bool.or_eq_true, Bool.or_eq_true] at h1
        rcases h1 with h1 | h1 | h1
        · exact .inl h1
        · refine .inr ⟨e, by simp, hb, .inl ?_⟩
          rw [Nat.testBit_two_pow] at h1
          simpa using h1
        · exact .inr ⟨e, by simp, hb, .inr h1⟩
      · exact .inl h1
    · exact .inr ⟨e', List.mem_cons_of_mem _ h1, h2⟩

theorem waits_step {n j i : Nat} {o : Oper} (ho : ops[j]? = some o) (h : waits ops n j i = true) : ∃ e ∈ o.after, Region.binds .any e = true ∧ (e.on = i ∨ (e.on < j ∧ waits ops n e.on i = true)) := by
  unfold waits ancL at h
  obtain ⟨h1, h2⟩ := ancGo_new ops.toList [] j o (by simpa using ho)
  rw [List.length_nil, Nat.zero_add] at h1
  rw [h1] at h
  rcases ancOf_bit _ _ h with h3 | ⟨e, he, hb, hx⟩
  · simp at h3
  · refine ⟨e, by simpa using he, hb, ?_⟩
    rcases hx with hx | hx
    · exact .inl hx
    · by_cases hlt : e.on < j
      · refine .inr ⟨hlt, ?_⟩
        unfold waits ancL
        rw [List.getD_eq_getElem?_getD, List.getElem?_take, if_pos hlt, ← List.getD_eq_getElem?_getD] at hx
        exact hx
      · rw [List.getD_eq_getElem?_getD, List.getElem?_take, if_neg hlt] at hx
        simp at hx

theorem waits_some {n j i : Nat} (h : waits ops n j i = true) : ∃ o, ops[j]? = some o := by
  unfold waits ancL at h
  rcases Nat.lt_or_ge j ops.size with hj | hj
  · exact ⟨ops[j], by simp [hj]⟩
  · have hl : (ancGo ops.toList []).length ≤ j := by
      have : ∀ (l : List Oper) (m : List Nat), (ancGo l m).length = m.length + l.length := by
        intro l
        induction l with
        | nil => intro m; simp [ancGo]
        | cons x l ih => intro m; rw [ancGo, ih]; simp; omega
      rw [this]; simpa using hj
    rw [List.getD_eq_getElem?_getD, List.getElem?_eq_none hl] at h
    simp at h

theorem waits_listed {listed : Array Bool} (hd : Down ops listed) : ∀ (n j i : Nat) (o : Oper), ops[j]? = some o → (∀ e ∈ o.after, Region.binds .any e = true → listed.getD e.on false = true) → waits ops n j i = true → listed.getD i false = true := by
  intro n j
  induction j using Nat.strongRecOn with
  | ind j ih =>
    intro i o ho h hw
    obtain ⟨e, he, hb, hx⟩ := waits_step ho hw
    have h1 := h e he hb
    rcases hx with rfl | ⟨hlt, hx⟩
    · exact h1
    · obtain ⟨oe, hoe⟩ := waits_some hx
      exact ih e.on hlt i oe hoe (hd e.on oe hoe h1) hx

theorem down_put {listed : Array Bool} (hd : Down ops listed) {j : Nat} (hj : j ∈ Region.ready .any ops listed) : Down ops (listed.setIfInBounds j true) := by
  obtain ⟨hun, oj, hoj, hall⟩ := mem_ready.1 hj
  intro i o ho hl e he hb
  by_cases hij : i = j
  · subst hij
    rw [hoj] at ho
    cases ho
    exact getD_set_true (hall e he hb)
  · rw [getD_set_ne false (fun h => hij h.symm)] at hl
    exact getD_set_true (hd i o ho hl e he hb)

/-- one operation comes up -/
def dOp (E : Env) (fid : FuncId) (call : ACall) (ops : Array Oper) (r : AExit × List AVal × ASt) (i : Nat) (K : List AVal → ASt → Prop) (ts : List AVal) (st : ASt) : Prop :=
  match ops[i]? with
  | none => K ts st
  | some o => match aop E fid call ops o ts st with
    | some (none, ts', st') => K ts' st'
    | some (some v, ts', st') => r = (.panic v, ts', st')
    | none => False

/-- whatever order is picked from here on -/
def dAny (E : Env) (fid : FuncId) (call : ACall) (ops : Array Oper) (r : AExit × List AVal × ASt) : Nat → Array Bool → List AVal → ASt → Prop
  | 0, listed, ts, st => Region.ready .any ops listed = [] ∧ r = (.normal, ts, st)
  | fuel + 1, listed, ts, st => (Region.ready .any ops listed = [] → r = (.normal, ts, st)) ∧
      ∀ i ∈ Region.ready .any ops listed, dOp E fid call ops r i (dAny E fid call ops r fuel (listed.setIfInBounds i true)) ts st

theorem wpAny_of_d {D : List Deferred} {base : Nat} {w0 : World} (hcall : ∀ f args st r, call f args st = some r → CallOK E base w0 f args st r) {r : AExit × List AVal × ASt} : ∀ (fuel : Nat) (listed : Array Bool) (ts : List AVal) (st : ASt),
    dAny E fid call ops r fuel listed ts st → ∀ (g0 g : G) (a : Act) (w : World), g0.le g → SInv base w0 g st w → GlobOK E g → ActOK D g ts a → wpAny E.P .any ops (Post D base w0 g0 r) fuel listed a w
  | 0, listed, ts, st, h, g0, g, a, w, h0, hinv, hg, ha => by
    obtain ⟨h1, rfl⟩ := h
    exact ⟨h1, g, h0, hinv, ha, trivial⟩
  | fuel + 1, listed, ts, st, h, g0, g, a, w, h0, hinv, hg, ha => by
    refine ⟨fun hr => by have := h.1 hr; subst this; exact ⟨g, h0, hinv, ha, trivial⟩, fun i hi => ?_⟩
    have hd := h.2 i hi
    unfold dOp at hd
    unfold wpOp
    split
    · rename_i ho
      rw [ho] at hd
      exact wpAny_of_d hcall fuel _ ts st hd g0 g a w h0 hinv hg ha
    · rename_i o ho
      rw [ho] at hd
      simp only at hd
      split at hd
      · rename_i ts' st' hop
        exact aop_sound hcall hop hinv hg ha (fun _ g' a' w' h1 h2 h3 => wpAny_of_d hcall fuel _ _ _ hd g0 g' a' w' (h0.trans h1) h2 (hg.mono h1) h3) (fun v hv => by cases hv)
      · rename_i v ts' st' hop
        subst hd
        exact aop_sound hcall hop hinv hg ha (fun h => by cases h) (fun v' hv g' a' w' chain h1 h2 h3 h4 => by cases hv; exact ⟨g', h0.trans h1, h2, h3, h4⟩)
      · exact hd.elim

/-! ### quiet operations -/
theorem evals_congr {ρ ρ' : Operand → Option AVal} : ∀ (l : List Operand), (∀ x ∈ l, ρ x = ρ' x) → evals ρ l = evals ρ' l
  | [], _ => rfl
  | x :: r, h => by unfold evals; rw [h x (by simp), evals_congr r (fun y hy => h y (by simp [hy]))]

theorem evalPs_congr {ρ ρ' : Operand → Option AVal} : ∀ (l : List (Nat × Operand)), (∀ p ∈ l, ρ p.2 = ρ' p.2) → evalPs ρ l = evalPs ρ' l
  | [], _ => rfl
  | (i, x) :: r, h => by unfold evalPs; rw [h (i, x) (by simp), evalPs_congr r (fun y hy => h y (by simp [hy]))]

theorem evalO_congr {ρ ρ' : Operand → Option AVal} (x : Option Operand) (h : ∀ y, x = some y → ρ y = ρ' y) : evalO ρ x = evalO ρ' x := by
  cases x with
  | none => rfl
  | some x => simp only [evalO]; rw [h x rfl]

theorem callA_congr {P : Program} {mt : Bool} {ρ ρ' : Operand → Option AVal} {c : Call} {ty : TypeId} {st : ASt} (h : ∀ x ∈ c.operands, ρ x = ρ' x) : callA P mt ρ c ty st = callA P mt ρ' c ty st := by
  obtain ⟨callee, args, tys⟩ := c
  have hargs : evals ρ args.toList = evals ρ' args.toList := evals_congr _ (fun x hx => h x (by simp [Call.operands]; exact .inr (by simpa using hx)))
  unfold callA
  simp only [hargs]
  cases callee with
  | value f =>
    have hf := h f (by simp [Call.operands])
    simp only [hf]
  | _ => rfl

theorem aexecOp_congr {P : Program} {mt : Bool} {ρ ρ' : Operand → Option AVal} {o : Oper} {st : ASt} (h : ∀ x ∈ o.op.operands, ρ x = ρ' x) : aexecOp P mt ρ o st = aexecOp P mt ρ' o st := by
  obtain ⟨dst, op, ty, pos, after, guard⟩ := o
  cases op with
  | build t ps =>
    have : evalPs ρ ps.toList = evalPs ρ' ps.toList := evalPs_congr _ (fun p hp => h p.2 (by simp only [Op.operands, List.mem_toArray, List.mem_map]; exact ⟨p, hp, rfl⟩))
    simp only [aexecOp, this]
  | buildSlice t n ps =>
    have : evalPs ρ ps.toList = evalPs ρ' ps.toList := evalPs_congr _ (fun p hp => h p.2 (by simp only [Op.operands, List.mem_toArray, List.mem_map]; exact ⟨p, hp, rfl⟩))
    simp only [aexecOp, this]
  | call c => exact callA_congr h
  | makeFunc fn a b =>
    have h1 : evals ρ a.toList = evals ρ' a.toList := evals_congr _ (fun x hx => h x (by simp only [Op.operands, Array.mem_append]; exact .inl (by simpa using hx)))
    have h2 : evals ρ b.toList = evals ρ' b.toList := evals_congr _ (fun x hx => h x (by simp only [Op.operands, Array.mem_append]; exact .inr (by simpa using hx)))
    simp only [aexecOp, h1, h2]
  | slice t x lo hi mx =>
    have h0 : ρ x = ρ' x := h x (by simp [Op.operands])
    have h1 : evalO ρ lo = evalO ρ' lo := evalO_congr _ (fun y hy => h y (by subst hy; simp [Op.operands]))
    have h2 : evalO ρ hi = evalO ρ' hi := evalO_congr _ (fun y hy => h y (by subst hy; simp [Op.operands]))
    have h3 : evalO ρ mx = evalO ρ' mx := evalO_congr _ (fun y hy => h y (by subst hy; simp [Op.operands]))
    simp only [aexecOp, h0, h1, h2, h3]
  | pick c a b =>
    have h0 : ρ c = ρ' c := h c (by simp [Op.operands])
    have h1 : ρ a = ρ' a := h a (by simp [Op.operands])
    have h2 : ρ b = ρ' b := h b (by simp [Op.operands])
    simp only [aexecOp, h0, h1, h2]
  | move x | assign x | box _ x | load _ x | nilCheck x | unOp _ _ x | convert _ _ x | makeInterface _ x | fieldAddr _ x _ | field _ x _ | extract x _ | panic x =>
    have h0 : ρ x = ρ' x := h x (by simp [Op.operands])
    simp only [aexecOp, h0]
  | store _ x y | binOp _ _ x y _ | makeSlice _ x y | indexAddr _ x y | index _ x y =>
    have h0 : ρ x = ρ' x := h x (by simp [Op.operands])
    have h1 : ρ y = ρ' y := h y (by simp [Op.operands])
    simp only [aexecOp, h0, h1]
  | _ => rfl

theorem ofP_st {x : Option (AVal × ASt)} {r : ANext} {st : ASt} (h : x.map ANext.ofP = some r) (hx : ∀ v st', x = some (v, st') → st' = st) : ∃ v, r = .val v st := by
  obtain ⟨v, st', h1, rfl⟩ := ofP_inv h
  exact ⟨v, by rw [hx v st' h1]⟩

theorem map_st {α : Type} {x : Option α} {f : α → AVal} {st st' : ASt} {v : AVal} (h : x.map (fun l => (f l, st)) = some (v, st')) : st' = st := by
  cases x with
  | none => cases h
  | some x => cases h; rfl

/-- a quiet operation leaves the state as it was -/
theorem quiet_st {P : Program} {mt : Bool} {ρ : Operand → Option AVal} {o : Oper} {st : ASt} {r : ANext} (hq : quietOp P mt o.op = true) (hr : aexecOp P mt ρ o st = some r) : ∃ v, r = .val v st := by
  have vi : ∀ {x : Option AVal}, x.map (ANext.val · st) = some r → ∃ v, r = .val v st := fun h => let ⟨v, _, e⟩ := val_inv h; ⟨v, e⟩
  obtain ⟨dst, op, ty, pos, after, guard⟩ := o
  cases op with
  | buildSlice t n ps =>
    simp only [aexecOp] at hr
    split at hr
    · refine ofP_st hr fun v st' hb => ?_
      simp only [quietOp, Bool.not_eq_true'] at hq
      subst hq
      unfold buildSliceA at hb
      split at hb <;> first
        | (cases hb; done)
        | skip
      split at hb <;> first
        | (cases hb; done)
        | skip
      split at hb <;> first
        | (cases hb; done)
        | skip
      split at hb <;> first
        | (cases hb; done)
        | skip
      simp only [Bool.false_eq_true, if_false, Option.some.injEq, Prod.mk.injEq] at hb
      exact hb.2.symm
    · cases hr
  | convert src dst' x =>
    simp only [aexecOp] at hr
    split at hr
    · refine ofP_st hr fun v st' hb => ?_
      simp only [quietOp] at hq
      unfold convA at hb
      split at hb
      · split at hb
        · cases hb; rfl
        · split at hb
          · rename_i s e hs hd hv0 hno
            rw [hd] at hq
            cases hq
          · cases hb
      · split at hb
        · split at hb
          · exact map_st hb
          · cases hb
        · split at hb
          · split at hb
            · split at hb
              · exact map_st hb
              · cases hb
            · cases hb
          · cases hb
        · rename_i e e' s off len sz k hs hd hx0 hv0
          rw [hd] at hq
          cases hq
        · cases hb
    · cases hr
  | call c =>
    obtain ⟨callee, args, tys⟩ := c
    cases callee with
    | builtin b =>
      simp only [aexecOp, callA] at hr
      split at hr
      · cases hr
      · unfold builtinA at hr
        split at hr
        · cases hq
        · cases hr
        · split at hr
          · exact vi hr
          · split at hr
            · exact vi hr
            · cases hr
    | _ => cases hq
  | pick c a b =>
    simp only [aexecOp] at hr
    split at hr <;> first
      | exact vi hr
      | cases hr
  | nilCheck x =>
    simp only [aexecOp] at hr
    split at hr
    · split at hr
      · cases hr; exact ⟨_, rfl⟩
      · cases hr
    · cases hr
  | makeInterface t x =>
    simp only [aexecOp] at hr
    split at hr
    · cases hr
    · cases hr; exact ⟨_, rfl⟩
    · cases hr
  | makeFunc fn a b =>
    simp only [aexecOp] at hr
    split at hr
    · cases hr; exact ⟨_, rfl⟩
    · cases hr
  | slice t x lo hi mx =>
    simp only [aexecOp] at hr
    split at hr
    · exact vi hr
    · cases hr
  | move x | assign x => exact vi hr
  | build t ps | load t a | unOp _ _ x | fieldAddr _ x _ | field _ x _ | extract x _ =>
    simp only [aexecOp] at hr
    split at hr <;> first
      | exact vi hr
      | cases hr
  | binOp _ _ x y _ | indexAddr _ x y | index _ x y =>
    simp only [aexecOp] at hr
    split at hr <;> first
      | exact vi hr
      | cases hr
  | _ => cases hq

theorem aeval_put {ts : List AVal} {dst : Option Tmp} {v : AVal} {x : Operand} (h : ∀ d, dst = some d → x ≠ .tmp d) : aeval E (aput ts dst v) x = aeval E ts x := by
  cases dst with
  | none => rfl
  | some d =>
    cases x with
    | tmp t =>
      have : d ≠ t := fun e => h d rfl (by rw [e])
      simp only [aput, aeval]
      rw [List.getElem?_set_ne this]
    | _ => rfl

theorem aput_comm (ts : List AVal) {x y : Option Tmp} (v u : AVal) (h : ∀ d, x = some d → y ≠ some d) : aput (aput ts x v) y u = aput (aput ts y u) x v := by
  cases x with
  | none => rfl
  | some d =>
    cases y with
    | none => rfl
    | some e =>
      have : d ≠ e := fun he => h d rfl (by rw [he])
      simp only [aput]
      exact List.set_comm _ _ this

theorem aexecOp_put {mt : Bool} (o : Oper) (ts : List AVal) (dst : Option Tmp) (v : AVal) (st : ASt) (h : ∀ d, dst = some d → d ∉ o.looksAt ops) : aexecOp E.P mt (aeval E (aput ts dst v)) o st = aexecOp E.P mt (aeval E ts) o st := by
  refine aexecOp_congr fun x hx => aeval_put fun d hd hxd => ?_
  refine h d hd ?_
  subst hxd
  simp only [Oper.looksAt, List.mem_append, List.mem_filterMap]
  exact .inl ⟨.tmp d, by simpa using hx, rfl⟩

theorem awanted_put (o : Oper) (ts : List AVal) (dst : Option Tmp) (v : AVal) (h : ∀ d, dst = some d → d ∉ o.looksAt ops) : Region.wanted o (ayielded ops (aput ts dst v)) = Region.wanted o (ayielded ops ts) := by
  cases dst with
  | none => rfl
  | some d =>
    unfold Region.wanted
    split
    · rfl
    · rename_i j want hg
      have hne : (ops[j]?).bind (·.dst) ≠ some d := by
        intro hj
        refine h d rfl ?_
        simp only [Oper.looksAt, List.mem_append]
        refine .inr ?_
        rw [hg]
        simp only
        rw [hj]
        simp
      have : ayielded ops (aput ts (some d) v) j = ayielded ops ts j := by
        unfold ayielded
        cases hj : (ops[j]?).bind (·.dst) with
        | none => rfl
        | some e =>
          have hde : d ≠ e := fun he => hne (by rw [hj, he])
          simp only [Option.bind_some, aput]
          rw [List.getElem?_set_ne hde]
      rw [this]

/-- A quiet operation yields this value in this state. -/
def AYields (E : Env) (fid : FuncId) (ops : Array Oper) (o : Oper) (v : AVal) (ts : List AVal) (st : ASt) : Prop :=
  (Region.wanted o (ayielded ops ts) = true ∧ aexecOp E.P (ahint E fid o) (aeval E ts) o st = some (.val v st)) ∨ (Region.wanted o (ayielded ops ts) = false ∧ v = .undef)

theorem AYields.aop {o : Oper} {v : AVal} {ts : List AVal} {st : ASt} (h : AYields E fid ops o v ts st) : aop E fid call ops o ts st = some (none, aput ts o.dst v, st) := by
  unfold Go.Proofs.YtpgcbmmifmnfpaaDoorA.aop
  rcases h with ⟨h1, h2⟩ | ⟨h1, rfl⟩
  · rw [if_pos h1, h2]
  · rw [if_neg (by rw [h1]; exact Bool.false_ne_true)]

theorem AYields.put {o : Oper} {v : AVal} {ts : List AVal} {st : ASt} (h : AYields E fid ops o v ts st) {dst : Option Tmp} {u : AVal} (hl : ∀ d, dst = some d → d ∉ o.looksAt ops) : AYields E fid ops o v (aput ts dst u) st := by
  unfold AYields
  rw [awanted_put o ts dst u hl, aexecOp_put (ops := ops) o ts dst u st hl]
  exact h

theorem AYields.of_put {o : Oper} {v : AVal} {ts : List AVal} {st : ASt} {dst : Option Tmp} {u : AVal} (h : AYields E fid ops o v (aput ts dst u) st) (hl : ∀ d, dst = some d → d ∉ o.looksAt ops) : AYields E fid ops o v ts st := by
  unfold AYields at h
  rw [awanted_put o ts dst u hl, aexecOp_put (ops := ops) o ts dst u st hl] at h
  exact h

theorem quiet_yields {o : Oper} (hq : quietOp E.P (ahint E fid o) o.op = true) {ts ts' : List AVal} {st st' : ASt} {r : Option AVal} (h : Go.Proofs.YtpgcbmmifmnfpaaDoorA.aop E fid call ops o ts st = some (r, ts', st')) :
    ∃ v, AYields E fid ops o v ts st ∧ r = none ∧ ts' = aput ts o.dst v ∧ st' = st := by
  unfold Go.Proofs.YtpgcbmmifmnfpaaDoorA.aop at h
  split at h
  · rename_i hw
    cases hx : aexecOp E.P (ahint E fid o) (aeval E ts) o st with
    | none => rw [hx] at h; cases h
    | some n =>
      obtain ⟨v, rfl⟩ := quiet_st hq hx
      rw [hx] at h
      cases h
      exact ⟨v, .inl ⟨hw, hx⟩, rfl, rfl, rfl⟩
  · rename_i hw
    cases h
    exact ⟨.undef, .inr ⟨by simpa using hw, rfl⟩, rfl, rfl, rfl⟩

/-- **A quiet operation that may come up now may be taken first**, if every other one that has not come up yet waits for it, or is quiet and apart from it. -/
theorem dAny_first {r : AExit × List AVal × ASt} {k : Nat} {ok : Oper} {v : AVal} (hk : ops[k]? = some ok) :
    ∀ (fuel : Nat) (listed : Array Bool) (ts : List AVal) (st : ASt), Down ops listed →
      (∀ j oj, ops[j]? = some oj → j ≠ k → listed.getD j true = false → (∀ e ∈ oj.after, Region.binds .any e = true → e.on ≠ k) → ok.apart ops oj = true) →
      (∀ j oj, ops[j]? = some oj → j ≠ k → listed.getD j true = false → waits ops ops.size j k = true ∨ quietOp E.P (ahint E fid oj) oj.op = true) →
      k ∈ Region.ready .any ops listed → AYields E fid ops ok v ts st →
      dAny E fid call ops r fuel (listed.setIfInBounds k true) (aput ts ok.dst v) st → dAny E fid call ops r (fuel + 1) listed ts st := by
  have hkop : ∀ {K : List AVal → ASt → Prop} {ts : List AVal} {st : ASt}, AYields E fid ops ok v ts st → K (aput ts ok.dst v) st → dOp E fid call ops r k K ts st := by
    intro K ts st hy h
    unfold dOp
    rw [hk]
    simp only
    rw [hy.aop]
    exact h
  intro fuel
  induction fuel with
  | zero =>
    intro listed ts st hd _ _ hr hy H
    refine ⟨fun h => (by rw [h] at hr; cases hr), fun j hj => ?_⟩
    by_cases hji : j = k
    · subst hji; exact hkop hy H
    · have := ready_mono hj hji
      rw [H.1] at this
      cases this
  | succ fuel ih =>
    intro listed ts st hd hfree hquiet hr hy H
    refine ⟨fun h => (by rw [h] at hr; cases hr), fun j hj => ?_⟩
    by_cases hji : j = k
    · subst hji; exact hkop hy H
    · obtain ⟨hjun, oj, hoj, hall⟩ := mem_ready.1 hj
      have hkun := (mem_ready.1 hr).1
      have hkf : listed.getD k false = false := by
        rcases Nat.lt_or_ge k listed.size with h' | h'
        · simp [h'] at hkun ⊢; exact hkun
        · simp [Array.getElem?_eq_none h']
      have hnot : ∀ e ∈ oj.after, Region.binds .any e = true → e.on ≠ k := fun e he hb heq => by
        have h1 := hall e he hb
        rw [heq, hkf] at h1
        cases h1
      have hap := hfree j oj hoj hji hjun hnot
      obtain ⟨a1, a2, a3⟩ := Oper.apart_spec hap
      have hq : quietOp E.P (ahint E fid oj) oj.op = true := by
        rcases hquiet j oj hoj hji hjun with hw | hq
        · have := waits_listed hd ops.size j k oj hoj hall hw
          rw [hkf] at this
          cases this
        · exact hq
      have h1 := H.2 j (ready_mono hj hji)
      unfold dOp at h1 ⊢
      rw [hoj] at h1 ⊢
      simp only at h1 ⊢
      split at h1
      · rename_i ts' st' hop
        obtain ⟨u, hyu, _, e1, e2⟩ := quiet_yields hq hop
        subst e1
        subst e2
        have hyu' := hyu.of_put a1
        rw [hyu'.aop]
        simp only
        have hd' := down_put hd hj
        refine ih (listed.setIfInBounds j true) _ _ hd' (fun i oi hoi hik hun hno => ?_) (fun i oi hoi hik hun => ?_) (ready_mono hr (Ne.symm hji)) (hy.put a3) ?_
        · refine hfree i oi hoi hik ?_ hno
          by_cases hij : j = i
          · subst hij; exact hjun
          · rw [getD_set_ne true hij] at hun; exact hun
        · refine hquiet i oi hoi hik ?_
          by_cases hij : j = i
          · subst hij; exact hjun
          · rw [getD_set_ne true hij] at hun; exact hun
        · rw [Array.setIfInBounds_comm _ _ hji, aput_comm _ _ _ (fun d hd1 hd2 => a2 d hd2 hd1)]
          exact h1
      · rename_i v' ts' st' hop
        obtain ⟨u, _, e0, _⟩ := quiet_yields hq hop
        cases e0
      · exact h1.elim

theorem dAny_lex {r : AExit × List AVal × ASt} : ∀ (l : List Oper) (k : Nat) (listed : Array Bool) (ts : List AVal) (st : ASt), (∀ j, l[j]? = ops[k + j]?) → Down ops listed →
    drawFrom E fid ops l.length k listed = true → aops E fid call ops l ts st = some r → dAny E fid call ops r l.length listed ts st
  | [], k, listed, ts, st, _, _, hB, h => by
    cases h
    exact ⟨by simpa [drawFrom] using hB, rfl⟩
  | o :: l, k, listed, ts, st, hl, hd, hB, h => by
    have h0 : ops[k]? = some o := by simpa using (hl 0).symm
    simp only [List.length_cons, drawFrom, h0, Bool.and_eq_true] at hB
    obtain ⟨⟨hr, hcond⟩, hB'⟩ := hB
    have hr' : k ∈ Region.ready .any ops listed := by simpa using hr
    have hd' := down_put hd hr'
    have hl' : ∀ j, l[j]? = ops[k + 1 + j]? := fun j => by have := hl (j + 1); simpa [Nat.add_assoc, Nat.add_comm 1 j] using this
    have hsize : ∀ {j : Nat} {oj : Oper}, ops[j]? = some oj → j ∈ List.range ops.size := fun {j oj} hj => by
      have := (Array.getElem?_eq_some_iff.1 hj).1
      simpa using this
    unfold aops at h
    split at hcond
    · rename_i hq
      simp only [Bool.and_eq_true] at hcond
      obtain ⟨hfree, hall⟩ := hcond
      have hall' : ∀ j oj, ops[j]? = some oj → j ≠ k → listed.getD j true = false → waits ops ops.size j k = true ∨ quietOp E.P (ahint E fid oj) oj.op = true := fun j oj hoj hjk hun => by
        have := List.all_eq_true.1 hall j (hsize hoj)
        simp only [hoj, Bool.or_eq_true, beq_iff_eq] at this
        rcases this with ((h1 | h1) | h1) | h1
        · exact absurd h1 hjk
        · exact .inl h1
        · rw [hun] at h1; cases h1
        · exact .inr h1
      cases hop : Go.Proofs.YtpgcbmmifmnfpaaDoorA.aop E fid call ops o ts st with
      | none => rw [hop] at h; cases h
      | some q =>
        obtain ⟨rv, ts', st'⟩ := q
        obtain ⟨v, hy, rfl, rfl, rfl⟩ := quiet_yields hq hop
        rw [hop] at h
        exact dAny_first h0 l.length listed ts st' hd (fun j oj hoj hjk hun hno => Region.free_spec h0 hfree j oj hoj hjk hun hno) hall' hr' hy (dAny_lex l (k + 1) _ _ _ hl' hd' hB' h)
    · have hall' : ∀ j oj, ops[j]? = some oj → j ∈ Region.ready .any ops listed → j = k := fun j oj hoj hj => by
        obtain ⟨hjun, oj', hoj', hall2⟩ := mem_ready.1 hj
        have := List.all_eq_true.1 hcond j (hsize hoj)
        simp only [Bool.or_eq_true, beq_iff_eq] at this
        rcases this with (h1 | h1) | h1
        · exact h1
        · have h2 := waits_listed hd ops.size j k oj' hoj' hall2 h1
          have hkun := (mem_ready.1 hr').1
          rcases Nat.lt_or_ge k listed.size with h' | h'
          · simp [h'] at hkun h2; rw [hkun] at h2; cases h2
          · simp [Array.getElem?_eq_none h'] at h2
        · rw [hjun] at h1; cases h1
      refine ⟨fun hn => (by rw [hn] at hr'; cases hr'), fun j hj => ?_⟩
      obtain ⟨_, oj, hoj, _⟩ := mem_ready.1 hj
      obtain rfl := hall' j oj hoj hj
      unfold dOp
      rw [h0]
      simp only
      split at h
      · rename_i ts' st' hop
        try rw [hop]
        exact dAny_lex l (j + 1) _ _ _ hl' hd' hB' h
      · rename_i v ts' st' hop
        try rw [hop]
        cases h
        rfl
      · cases h

/-! ### the order of a plan -/
theorem aop_put {x : Option Tmp} {u : AVal} {o : Oper} (h1 : ∀ d, x = some d → d ∉ o.looksAt ops) (h2 : ∀ d, x = some d → o.dst ≠ some d) (ts : List AVal) (st : ASt) :
    Go.Proofs.YtpgcbmmifmnfpaaDoorA.aop E fid call ops o (aput ts x u) st = (Go.Proofs.YtpgcbmmifmnfpaaDoorA.aop E fid call ops o ts st).map fun q => (q.1, aput q.2.1 x u, q.2.2) := by
  have hc : ∀ v, aput (aput ts x u) o.dst v = aput (aput ts o.dst v) x u := fun v => aput_comm ts u v h2
  unfold Go.Proofs.YtpgcbmmifmnfpaaDoorA.aop
  rw [awanted_put o ts x u h1, aexecOp_put (ops := ops) o ts x u st h1]
  split
  · cases aexecOp E.P (ahint E fid o) (aeval E ts) o st with
    | none => rfl
    | some n =>
      cases n with
      | val v st' => simp only [hc, Option.map_some]
      | panic v st' => rfl
      | enter f args st' =>
        simp only
        cases call f args st' with
        | none => rfl
        | some q =>
          obtain ⟨e, st''⟩ := q
          cases e with
          | returned v => simp only [hc, Option.map_some]
          | panicked v => rfl
  · simp only [hc, Option.map_some]

theorem aput_idem (ts : List AVal) (x : Option Tmp) (v u : AVal) : aput (aput ts x v) x u = aput ts x u := by
  cases x with
  | none => rfl
  | some d => simp [aput]

theorem aput_cancel {ts : List AVal} {x y : Option Tmp} {v u : AVal} (h : aput (aput ts x v) y u = aput ts x v) (hne : ∀ d, x = some d → y ≠ some d) : aput ts y u = ts := by
  cases y with
  | none => rfl
  | some e =>
    cases x with
    | none => exact h
    | some d =>
      have hde : d ≠ e := fun he => hne d rfl (by rw [he])
      simp only [aput] at h ⊢
      refine List.ext_getElem? fun i => ?_
      by_cases hi : e = i
      · subst hi
        have := congrArg (fun l => l[e]?) h
        simp only [List.getElem?_set_ne hde] at this
        rw [← this]
        simp only [List.getElem?_set, List.length_set, if_true]
      · rw [List.getElem?_set_ne hi]

def quietAt (E : Env) (fid : FuncId) (o : Oper) : Bool := quietOp E.P (ahint E fid o) o.op

theorem quietIx_at {x : Nat} {ox : Oper} (hx : ops[x]? = some ox) : quietIx E fid ops x = quietAt E fid ox := by
  unfold quietIx quietAt; rw [hx]

theorem ssa_spec (h : ssaOK E fid ops = true) {i j : Nat} {oi oj : Oper} (hi : ops[i]? = some oi) (hj : ops[j]? = some oj) :
    (i ≠ j → ∀ d, oi.dst = some d → oj.dst ≠ some d) ∧ (waits ops ops.size i j = false → ∀ d, oj.dst = some d → d ∈ oi.looksAt ops → waits ops ops.size j i = true ∧ ∀ x ox, ops[x]? = some ox → quietAt E fid ox = false → waits ops ops.size j x = true) := by
  have li := (Array.getElem?_eq_some_iff.1 hi).1
  have lj := (Array.getElem?_eq_some_iff.1 hj).1
  unfold ssaOK at h
  have h1 := List.all_eq_true.1 h i (by simpa using li)
  have h2 := List.all_eq_true.1 h1 j (by simpa using lj)
  simp only [hi, hj, Bool.and_eq_true, Bool.or_eq_true, beq_iff_eq, bne_iff_ne] at h2
  obtain ⟨h3, h4⟩ := h2
  refine ⟨fun hij d hd hd2 => ?_, fun hw d hd hmem => ?_⟩
  · rcases h3 with (h3 | h3) | h3
    · exact hij h3
    · rw [hd] at h3; cases h3
    · exact h3 (by rw [hd, hd2])
  · rcases h4 with (h4 | h4) | h4
    · rw [hw] at h4; cases h4
    · rw [hd] at h4
      simp only [Bool.not_eq_true', List.contains_eq_mem, decide_eq_false_iff_not] at h4
      exact absurd hmem h4
    · refine ⟨h4.1, fun x ox hx hq => ?_⟩
      have hlx := (Array.getElem?_eq_some_iff.1 hx).1
      have h5 := List.all_eq_true.1 h4.2 x (by simpa using hlx)
      rw [Bool.or_eq_true, quietIx_at hx, hq] at h5
      rcases h5 with h5 | h5
      · cases h5
      · exact h5

/-- what was told by quiet operations is so still, until something that waits for them came up, or what they look at was set anew -/
def ZInv (E : Env) (fid : FuncId) (ops : Array Oper) (listed : Array Bool) (ts : List AVal) (st : ASt) : Prop :=
  ∀ i oi, ops[i]? = some oi → quietAt E fid oi = true → listed.getD i false = true → (∀ j oj, ops[j]? = some oj → quietAt E fid oj = false → listed.getD j false = true → waits ops ops.size j i = false) →
    (∀ j oj, ops[j]? = some oj → listed.getD j false = true → waits ops ops.size i j = false → ∀ d, oj.dst = some d → d ∉ oi.looksAt ops) →
    ∃ v, aput ts oi.dst v = ts ∧ AYields E fid ops oi v ts st

/-- a step: as it is, or with a stamp left out, or with one that was left out -/
def DStep (E : Env) (fid : FuncId) (call : ACall) (ops : Array Oper) (o : Oper) (H : List Nat) (ts : List AVal) (st : ASt) (H' : List Nat) (ts' : List AVal) (st' : ASt) : Prop :=
  (Go.Proofs.YtpgcbmmifmnfpaaDoorA.aop E fid call ops o ts st = some (none, ts', st') ∧ H' = H) ∨ (quietAt E fid o = false ∧ Go.Proofs.YtpgcbmmifmnfpaaDoorA.aop E fid call ops o ts st.bump = some (none, ts', st') ∧ H' = st.ctr :: H) ∨
    (∃ c, quietAt E fid o = false ∧ c ∈ H ∧ fillOp E fid ops o c ts st = some (ts', st') ∧ H' = H.filter (· ≠ c))

/-- whatever order is picked from here on, nothing panics -/
def dZ (E : Env) (fid : FuncId) (call : ACall) (ops : Array Oper) (r : AExit × List AVal × ASt) : Nat → List Nat → Array Bool → List AVal → ASt → Prop
  | 0, _, listed, ts, st => ZInv E fid ops listed ts st ∧ Region.ready .any ops listed = [] ∧ r = (.normal, ts, st)
  | fuel + 1, H, listed, ts, st => ZInv E fid ops listed ts st ∧ (Region.ready .any ops listed = [] → r = (.normal, ts, st)) ∧
      ∀ i ∈ Region.ready .any ops listed, ∃ o H' ts' st', ops[i]? = some o ∧ DStep E fid call ops o H ts st H' ts' st' ∧ dZ E fid call ops r fuel H' (listed.setIfInBounds i true) ts' st'

theorem dZ_inv {r : AExit × List AVal × ASt} {fuel : Nat} {H : List Nat} {listed : Array Bool} {ts : List AVal} {st : ASt} (h : dZ E fid call ops r fuel H listed ts st) : ZInv E fid ops listed ts st := by
  cases fuel with
  | zero => exact h.1
  | succ n => exact h.1

theorem fill_put {x : Option Tmp} {u : AVal} {o : Oper} {c : Nat} (h1 : ∀ d, x = some d → d ∉ o.looksAt ops) (h2 : ∀ d, x = some d → o.dst ≠ some d) (ts : List AVal) (st : ASt) :
    fillOp E fid ops o c (aput ts x u) st = (fillOp E fid ops o c ts st).map fun q => (aput q.1 x u, q.2) := by
  have hc : ∀ v, aput (aput ts x u) o.dst v = aput (aput ts o.dst v) x u := fun v => aput_comm ts u v h2
  unfold fillOp
  rw [awanted_put o ts x u h1, aexecOp_put (ops := ops) o ts x u st h1]
  split
  · cases aexecOp E.P (ahint E fid o) (aeval E ts) o st with
    | none => rfl
    | some n =>
      cases n with
      | val v st' =>
        simp only
        cases fillV st.ctr c v with
        | none => rfl
        | some v' =>
          simp only
          split
          · simp only [hc, Option.map_some]
          · rfl
      | panic v st' => rfl
      | enter f args st' => rfl
  · rfl

theorem dstep_put {x : Option Tmp} {u : AVal} {o : Oper} (h1 : ∀ d, x = some d → d ∉ o.looksAt ops) (h2 : ∀ d, x = some d → o.dst ≠ some d) {H H' : List Nat} {ts ts1 : List AVal} {st st1 : ASt}
    (h : DStep E fid call ops o H (aput ts x u) st H' ts1 st1) : ∃ ts', DStep E fid call ops o H ts st H' ts' st1 ∧ ts1 = aput ts' x u := by
  have norm : ∀ s, Go.Proofs.YtpgcbmmifmnfpaaDoorA.aop E fid call ops o (aput ts x u) s = some (none, ts1, st1) → ∃ ts', Go.Proofs.YtpgcbmmifmnfpaaDoorA.aop E fid call ops o ts s = some (none, ts', st1) ∧ ts1 = aput ts' x u := fun s hs => by
    rw [aop_put h1 h2] at hs
    cases hx : Go.Proofs.YtpgcbmmifmnfpaaDoorA.aop E fid call ops o ts s with
    | none => rw [hx] at hs; cases hs
    | some q =>
      obtain ⟨rv, ts', st'⟩ := q
      rw [hx] at hs
      simp only [Option.map_some, Option.some.injEq, Prod.mk.injEq] at hs
      obtain ⟨e1, e2, e3⟩ := hs
      subst e1; subst e3
      exact ⟨ts', rfl, e2.symm⟩
  rcases h with ⟨h, e⟩ | ⟨hnq, h, e⟩ | ⟨c, hnq, hc, h, e⟩
  · obtain ⟨ts', a, b⟩ := norm st h; exact ⟨ts', .inl ⟨a, e⟩, b⟩
  · obtain ⟨ts', a, b⟩ := norm st.bump h; exact ⟨ts', .inr (.inl ⟨hnq, a, e⟩), b⟩
  · rw [fill_put h1 h2] at h
    cases hx : fillOp E fid ops o c ts st with
    | none => rw [hx] at h; cases h
    | some q =>
      obtain ⟨ts', st'⟩ := q
      rw [hx] at h
      simp only [Option.map_some, Option.some.injEq, Prod.mk.injEq] at h
      obtain ⟨e1, e2⟩ := h
      subst e2
      exact ⟨ts', .inr (.inr ⟨c, hnq, hc, hx, e⟩), e1.symm⟩

/-! ### stamps that were left out -/
def G.hole (g : G) : G := { g with n := g.n + 1, dead := fun s => (g.dead s ∧ s < g.n) ∨ s = g.n }
theorem G.hole_le (g : G) : g.le g.hole :=
  ⟨by simp [G.hole], fun s hs => ⟨Nat.lt_succ_of_lt hs.1, fun hd => by
    rcases hd with hd | hd
    · exact hs.2 hd.1
    · have := hs.1; omega⟩, fun s hs => rfl, fun B o v hv => hv, fun s hs hd => .inl ⟨hd, hs⟩⟩
theorem hole_inv {base : Nat} {w0 : World} {g : G} {st : ASt} {w : World} (h : SInv base w0 g st w) : SInv base w0 g.hole st.bump w :=
  ⟨by simp [G.hole, ASt.bump, h.n], h.fr, h.fresh, fun s b hs => g.hole_le.ok s (h.live s b hs), fun s cs hs => (h.cells s cs hs).mono g.hole_le (h.live s _ hs) (h.cells s cs hs).own (fun _ _ _ => rfl) (fun _ _ _ => rfl), h.map, h.below, h.base, h.marks⟩

def G.fill (g g3 : G) (c : Nat) : G where
  own := fun B o => match g3.own B o with
    | .blk s => .blk (if s = g.n then c else s)
    | x => x
  loc := fun s => if s = c then g3.loc g.n else g3.loc s
  n := g.n
  dead := fun s => g.dead s ∧ s ≠ c

section
variable {g0 g g3 : G} {c : Nat}
theorem fill_frozen {B o : Nat} {v : Value} (h : g3.own B o = .frozen v) : (g.fill g3 c).own B o = .frozen v := by
  simp only [G.fill, h]

theorem fill_mix (hle : g.le g3) (hc : ¬ g.ok c) {v : AVal} {u2 u3 : Value} (h2 : Rep g v u2) (h3 : Rep g3 v u3) : Rep (g.fill g3 c) v u3 := by
  have okk : ∀ s, g.ok s → (g.fill g3 c).ok s ∧ (g.fill g3 c).loc s = g3.loc s := fun s hs => by
    have hne : s ≠ c := fun e => hc (e ▸ hs)
    exact ⟨⟨hs.1, fun hd => hs.2 hd.1⟩, by simp [G.fill, hne]⟩
  induction h3 generalizing u2 with
  | lit h => exact .lit h
  | agg hl h hcc ih =>
    cases h2 with
    | agg hl2 h2' hc2 =>
      refine .agg hl (fun j x u hj hu => ?_) hcc
      have hlt := (List.getElem?_eq_some_iff.1 hj).1
      exact ih j x u hj hu (h2' j x _ hj (Array.getElem?_eq_getElem (by omega)))
  | tuple hl h ih =>
    cases h2 with
    | tuple hl2 h2' =>
      refine .tuple hl (fun j x u hj hu => ?_)
      have hlt := (List.getElem?_eq_some_iff.1 hj).1
      exact ih j x u hj hu (h2' j x _ hj (Array.getElem?_eq_getElem (by omega)))
  | ptr h =>
    cases h2 with
    | ptr hs =>
      obtain ⟨a, b⟩ := okk _ hs
      rw [← b]; exact .ptr a
  | iptr h h' hcc ih =>
    cases h2 with
    | iptr k k' kc => exact .iptr (fun j x hj => fill_frozen (h j x hj)) (fun j x hj => ih j x hj (k' j x hj)) hcc
  | slice h hk hl hz hx =>
    cases h2 with
    | slice hs _ _ _ _ =>
      obtain ⟨a, b⟩ := okk _ hs
      rw [← b] at hx ⊢; exact .slice a hk hl hz hx
  | islice hl hs h h' hcc hk ih =>
    cases h2 with
    | islice hl2 hs2 k k' kc hk2 =>
      refine .islice hl hs (fun i e j x he hj => fill_frozen (h i e j x he hj)) (fun i e j x he hj => ih i e j x he hj (k' i e j x he hj)) hcc ?_
      revert hk hk2
      unfold CapOK
      split
      · exact fun a _ => a
      · exact fun a _ => a
      · rintro ⟨_, a⟩ ⟨b, _⟩
        obtain ⟨p, q⟩ := okk _ b
        rw [q]; exact ⟨p, a⟩
  | map h =>
    cases h2 with
    | map hs =>
      obtain ⟨a, b⟩ := okk _ hs
      rw [← b]; exact .map a
  | func hl h hl2 h' ih ih2 =>
    cases h2 with
    | func kl k kl2 k' =>
      refine .func hl (fun j x u hj hu => ?_) hl2 (fun j x u hj hu => ?_)
      · have hlt := (List.getElem?_eq_some_iff.1 hj).1
        exact ih j x u hj hu (k j x _ hj (Array.getElem?_eq_getElem (by omega)))
      · have hlt := (List.getElem?_eq_some_iff.1 hj).1
        exact ih2 j x u hj hu (k' j x _ hj (Array.getElem?_eq_getElem (by omega)))
  | iface h ih =>
    cases h2 with
    | iface k => exact .iface (ih k)

theorem fill_le (h02 : g0.le g) (hle : g.le g3) (hc : g0.n ≤ c) : g0.le (g.fill g3 c) := by
  refine ⟨h02.n, fun s hs => ?_, fun s hs => ?_, fun B o v hv => fill_frozen (hle.frozen _ _ _ (h02.frozen _ _ _ hv)), fun s hs hd => ⟨h02.dead s hs hd, by omega⟩⟩
  · have := h02.ok s hs
    exact ⟨this.1, fun hd => this.2 hd.1⟩
  · have hne : s ≠ c := by have := hs.1; omega
    simp only [G.fill, if_neg hne]
    rw [hle.loc s (h02.ok s hs), h02.loc s hs]

theorem lit_rep {v : AVal} {u : Value} (hv : isLit v = true) (h : Rep g v u) (g' : G) : Rep g' v u := by
  cases h with
  | lit h => exact .lit h
  | _ => cases hv

theorem fill_inv {base : Nat} {w0 : World} {st st3 : ASt} {w w' : World} (h2 : SInv base w0 g st w) (h3 : SInv base w0 g3 st3 w') (hle : g.le g3) (hcn : c < g.n) (hd : g.dead c) (hf : FillOK st st3) : SInv base w0 (g.fill g3 c) (fillSt st.ctr c st3) w' := by
  obtain ⟨hctr, ⟨b, hb, hlit⟩, hoth⟩ := hf
  have hn := h2.n
  have hnok : ¬ g.ok c := fun h => h.2 hd
  have hcc : c ≠ st.ctr := by omega
  refine ⟨hn, fun B o v hv => ?_, fun B o hB => ?_, fun s bb hs => ?_, fun s cs hs => ?_, fun s es hs => ?_, h3.below, h3.base, h3.marks.own fun B o hf => ⟨o, fun e => hf (by simp [G.fill, e])⟩⟩
  · simp only [G.fill] at hv
    split at hv
    · cases hv
    · exact h3.fr B o v hv
  · simp only [G.fill]
    rw [h3.fresh B o hB]
  · simp only [fillSt] at hs
    by_cases e : s = c
    · subst e; exact ⟨hcn, fun hx => hx.2 rfl⟩
    · rw [if_neg e] at hs
      by_cases e2 : s = st.ctr
      · rw [if_pos e2] at hs; cases hs
      · rw [if_neg e2] at hs
        rcases hoth s e2 with h | h
        · rw [h] at hs
          have := h2.live s bb hs
          exact ⟨this.1, fun hx => this.2 hx.1⟩
        · rw [h] at hs; cases hs
  · simp only [fillSt] at hs
    by_cases e : s = c
    · subst e
      rw [if_pos rfl, hb] at hs
      cases hs
      have hk := h3.cells st.ctr b hb
      have hloc : (g.fill g3 s).loc s = g3.loc st.ctr := by simp [G.fill, hn]
      refine ⟨by rw [hloc]; exact hk.lo, by rw [hloc]; exact hk.fits, fun j h4 h5 => ?_, fun j h4 h5 => ?_, fun j h4 h5 => ?_, fun j x hj => ?_⟩
      · rw [hloc] at h4 h5 ⊢
        simp only [G.fill, hk.own j h4 h5, hn, if_true]
      · rw [hloc] at h4 h5 ⊢; exact hk.there j h4 h5
      · rw [hloc] at h4 h5 ⊢; exact hk.open_ j h4 h5
      · rw [hloc]
        obtain ⟨k1, u, k2, k3⟩ := hk.rep j x hj
        exact ⟨k1, u, k2, lit_rep (List.all_eq_true.1 hlit x (List.mem_of_getElem? hj)) k3 _⟩
    · rw [if_neg e] at hs
      by_cases e2 : s = st.ctr
      · rw [if_pos e2] at hs; cases hs
      · rw [if_neg e2] at hs
        have hs2 : st.heap s = some (.cells cs) := by
          rcases hoth s e2 with h | h
          · rw [← h]; exact hs
          · rw [h] at hs; cases hs
        have hk := h3.cells s cs hs
        have hk2 := h2.cells s cs hs2
        have hloc : (g.fill g3 c).loc s = g3.loc s := by simp [G.fill, e]
        refine ⟨by rw [hloc]; exact hk.lo, by rw [hloc]; exact hk.fits, fun j h4 h5 => ?_, fun j h4 h5 => ?_, fun j h4 h5 => ?_, fun j x hj => ?_⟩
        · rw [hloc] at h4 h5 ⊢
          simp only [G.fill, hk.own j h4 h5]
          rw [if_neg (by rw [hn]; exact e2)]
        · rw [hloc] at h4 h5 ⊢; exact hk.there j h4 h5
        · rw [hloc] at h4 h5 ⊢; exact hk.open_ j h4 h5
        · rw [hloc]
          obtain ⟨k1, u, k2, k3⟩ := hk.rep j x hj
          obtain ⟨_, u2, _, k4⟩ := hk2.rep j x hj
          exact ⟨k1, u, k2, fill_mix hle hnok k4 k3⟩
  · simp only [fillSt] at hs
    by_cases e : s = c
    · rw [if_pos e] at hs; exact h3.map _ es hs
    · rw [if_neg e] at hs
      by_cases e2 : s = st.ctr
      · rw [if_pos e2] at hs; cases hs
      · rw [if_neg e2] at hs; exact h3.map s es hs

theorem fill_val {a : Nat} (hn : g.n = a) (hcn : c < g.n) {v v' : AVal} {u : Value} (hv : fillV a c v = some v') (h : Rep g3 v u) : Rep (g.fill g3 c) v' u := by
  have hok : (g.fill g3 c).ok c := ⟨hcn, fun hx => hx.2 rfl⟩
  have hloc : (g.fill g3 c).loc c = g3.loc a := by simp [G.fill, hn]
  unfold fillV at hv
  split at hv
  · split at hv
    · rename_i e; subst e
      cases hv
      cases h with
      | ptr h => rw [← hloc]; exact .ptr hok
    · cases hv
  · split at hv
    · rename_i e; subst e
      cases hv
      cases h with
      | slice h hk hl hz hx => rw [← hloc] at hx ⊢; exact .slice hok hk hl hz hx
    · cases hv
  · split at hv
    · rename_i e
      obtain ⟨rfl, hp⟩ := e
      cases hv
      cases h with
      | islice hl hs h h' hcc hk =>
        refine .islice hl hs (fun i e j x he hj => fill_frozen (h i e j x he hj)) (fun i e j x he hj => ?_) hcc ?_
        · have h1 := List.all_eq_true.1 hp e (List.mem_of_getElem? he)
          exact lit_rep (List.all_eq_true.1 h1 x (List.mem_of_getElem? hj)) (h' i e j x he hj) _
        · obtain ⟨_, k2⟩ := hk
          exact ⟨hok, by rw [hloc]; exact k2⟩
    · cases hv
  · cases hv
end

theorem wpAny_of_z {D : List Deferred} {base : Nat} {w0 : World} (hcall : ∀ f args st r, call f args st = some r → CallOK E base w0 f args st r) {r : AExit × List AVal × ASt} : ∀ (fuel : Nat) (H : List Nat) (listed : Array Bool) (ts : List AVal) (st : ASt),
    dZ E fid call ops r fuel H listed ts st → ∀ (g0 g : G) (a : Act) (w : World), g0.le g → SInv base w0 g st w → GlobOK E g0 → ActOK D g ts a → (∀ c ∈ H, g0.n ≤ c ∧ c < g.n ∧ g.dead c) → wpAny E.P .any ops (Post D base w0 g0 r) fuel listed a w
  | 0, H, listed, ts, st, h, g0, g, a, w, h0, hinv, hg, ha, hH => by
    obtain ⟨_, h1, rfl⟩ := h
    exact ⟨h1, g, h0, hinv, ha, trivial⟩
  | fuel + 1, H, listed, ts, st, h, g0, g, a, w, h0, hinv, hg, ha, hH => by
    refine ⟨fun hr => by have := h.2.1 hr; subst this; exact ⟨g, h0, hinv, ha, trivial⟩, fun i hi => ?_⟩
    obtain ⟨o, H', ts', st', ho, hst, hz⟩ := h.2.2 i hi
    unfold wpOp
    rw [ho]
    simp only
    rcases hst with ⟨hop, rfl⟩ | ⟨_, hop, rfl⟩ | ⟨c, _, hc, hop, rfl⟩
    · exact aop_sound hcall hop hinv (hg.mono h0) ha (fun _ g' a' w' h1 h2 h3 => wpAny_of_z hcall fuel _ _ _ _ hz g0 g' a' w' (h0.trans h1) h2 hg h3 (fun c hc => by
        obtain ⟨p, q, d⟩ := hH c hc
        exact ⟨p, Nat.lt_of_lt_of_le q h1.n, h1.dead c q d⟩)) (fun v hv => by cases hv)
    · have hl := g.hole_le
      refine aop_sound hcall hop (hole_inv hinv) (hg.mono (h0.trans hl)) (ha.mono hl) (fun _ g' a' w' h1 h2 h3 => wpAny_of_z hcall fuel _ _ _ _ hz g0 g' a' w' ((h0.trans hl).trans h1) h2 hg h3 (fun c hc => ?_)) (fun v hv => by cases hv)
      rcases List.mem_cons.1 hc with rfl | hc
      · have hlt : st.ctr < g.hole.n := by simp [G.hole, hinv.n]
        refine ⟨by have := h0.n; rw [hinv.n] at this; exact this, Nat.lt_of_lt_of_le hlt h1.n, h1.dead _ hlt (.inr hinv.n.symm)⟩
      · obtain ⟨p, q, d⟩ := hH c hc
        have hlt : c < g.hole.n := Nat.lt_succ_of_lt q
        exact ⟨p, Nat.lt_of_lt_of_le hlt h1.n, h1.dead c hlt (.inl ⟨d, q⟩)⟩
    · obtain ⟨p, q, d⟩ := hH c hc
      unfold fillOp at hop
      split at hop
      · rename_i hw
        split at hop
        · rename_i v st3 hx
          split at hop
          · rename_i v' hv'
            split at hop
            · rename_i hf
              simp only [Option.some.injEq, Prod.mk.injEq] at hop
              obtain ⟨rfl, rfl⟩ := hop
              have hop2 : Go.Proofs.YtpgcbmmifmnfpaaDoorA.aop E fid call ops o ts st = some (none, aput ts o.dst v, st3) := by
                unfold Go.Proofs.YtpgcbmmifmnfpaaDoorA.aop
                rw [if_pos hw, hx]
              refine aop_sound hcall hop2 hinv (hg.mono h0) ha (fun _ g3 a' w' h1 h2 h3 => ?_) (fun v hv => by cases hv)
              refine wpAny_of_z hcall fuel _ _ _ _ hz g0 (g.fill g3 c) a' w' (fill_le h0 h1 p) (fill_inv hinv h2 h1 q d hf) hg ⟨⟨?_, fun j x u hj hu => ?_⟩, h3.defers⟩ (fun c' hc' => ?_)
              · have := h3.tmps.1
                rw [this]
                cases o.dst <;> simp [aput]
              · by_cases hd : o.dst = some j
                · have hjl : j < ts.length := by
                    have := (List.getElem?_eq_some_iff.1 hj).1
                    rw [hd] at this
                    simpa [aput] using this
                  have e1 : (aput ts o.dst v')[j]? = some v' := by rw [hd]; simp [aput, hjl]
                  have e2 : (aput ts o.dst v)[j]? = some v := by rw [hd]; simp [aput, hjl]
                  rw [e1] at hj
                  cases hj
                  exact fill_val hinv.n q hv' (h3.tmps.2 j v u e2 hu)
                · have e : ∀ z, (aput ts o.dst z)[j]? = ts[j]? := fun z => by
                    cases hdd : o.dst with
                    | none => rfl
                    | some e =>
                      have : e ≠ j := fun h => hd (by rw [hdd, h])
                      simp only [aput]
                      rw [List.getElem?_set_ne this]
                  rw [e] at hj
                  have h5 := h3.tmps.2 j x u (by rw [e]; exact hj) hu
                  have hlt := (List.getElem?_eq_some_iff.1 hj).1
                  have hal := ha.tmps.1
                  exact fill_mix h1 (fun h => h.2 d) (ha.tmps.2 j x _ hj (List.getElem?_eq_getElem (by omega))) h5
              · rw [List.mem_filter] at hc'
                obtain ⟨h6, h7⟩ := hc'
                obtain ⟨p', q', d'⟩ := hH c' h6
                exact ⟨p', q', d', by simpa using h7⟩
            · cases hop
          · cases hop
        · cases hop
      · cases hop

theorem waits_not {listed : Array Bool} (hd : Down ops listed) {i k : Nat} {oi : Oper} (hi : ops[i]? = some oi) (hl : ∀ e ∈ oi.after, Region.binds .any e = true → listed.getD e.on false = true) (hk : listed.getD k false = false) : waits ops ops.size i k = false := by
  cases h : waits ops ops.size i k with
  | false => rfl
  | true =>
    have := waits_listed hd ops.size i k oi hi hl h
    rw [hk] at this
    cases this

theorem ready_un {listed : Array Bool} {k : Nat} (h : k ∈ Region.ready .any ops listed) : listed.getD k false = false := by
  have hkun := (mem_ready.1 h).1
  rcases Nat.lt_or_ge k listed.size with h' | h'
  · simp [h'] at hkun ⊢; exact hkun
  · simp [Array.getElem?_eq_none h']

theorem getD_put {listed : Array Bool} {i j : Nat} (h : (listed.setIfInBounds j true).getD i false = true) : i = j ∨ listed.getD i false = true := by
  by_cases hij : j = i
  · exact .inl hij.symm
  · rw [getD_set_ne false hij] at h; exact .inr h

/-- a quiet operation is taken back out of what is so -/
theorem zinv_back (hs : ssaOK E fid ops = true) {listed : Array Bool} {ts : List AVal} {st : ASt} {k : Nat} {ok : Oper} {v : AVal} (hk : ops[k]? = some ok) (hq : quietAt E fid ok = true) (hd : Down ops listed) (hun : listed.getD k false = false)
    (h : ZInv E fid ops (listed.setIfInBounds k true) (aput ts ok.dst v) st)
    (hfb : ∀ i oi, ops[i]? = some oi → quietAt E fid oi = true → listed.getD i false = true → (∃ d, ok.dst = some d ∧ d ∈ oi.looksAt ops) → waits ops ops.size i k = false →
      (∀ j oj, ops[j]? = some oj → listed.getD j false = true → waits ops ops.size i j = false → ∀ d, oj.dst = some d → d ∉ oi.looksAt ops) →
      (∀ j oj, ops[j]? = some oj → quietAt E fid oj = false → listed.getD j false = true → waits ops ops.size j i = false) → ∃ u, aput ts oi.dst u = ts ∧ AYields E fid ops oi u ts st) : ZInv E fid ops listed ts st := by
  intro i oi hi hqi hli hno hno2
  have hik : i ≠ k := fun e => by rw [e, hun] at hli; cases hli
  have hw := waits_not hd hi (fun e he hb => hd i oi hi hli e he hb) hun
  by_cases hov : ∃ d, ok.dst = some d ∧ d ∈ oi.looksAt ops
  · exact hfb i oi hi hqi hli hov hw hno2 hno
  · have hov' : ∀ d, ok.dst = some d → d ∉ oi.looksAt ops := fun d hd hm => hov ⟨d, hd, hm⟩
    obtain ⟨u, h1, h2⟩ := h i oi hi hqi (getD_set_true hli) (fun j oj hj hqj hlj => by
      rcases getD_put hlj with rfl | hlj
      · rw [hk] at hj; cases hj; rw [hq] at hqj; cases hqj
      · exact hno j oj hj hqj hlj) (fun j oj hj hlj hwj d hd => by
      rcases getD_put hlj with rfl | hlj
      · rw [hk] at hj; cases hj; exact hov' d hd
      · exact hno2 j oj hj hlj hwj d hd)
    exact ⟨u, aput_cancel h1 ((ssa_spec hs hk hi).1 (Ne.symm hik)), h2.of_put hov'⟩

/-- **A quiet operation that may come up now may be taken first.** -/
theorem dZ_first (hs : ssaOK E fid ops = true) {r : AExit × List AVal × ASt} {k : Nat} {ok : Oper} (hk : ops[k]? = some ok) (hq : quietAt E fid ok = true) :
    ∀ (fuel : Nat) (Hh : List Nat) (listed : Array Bool) (ts : List AVal) (st : ASt) (v : AVal), Down ops listed → k ∈ Region.ready .any ops listed → ZInv E fid ops listed ts st → AYields E fid ops ok v ts st →
      dZ E fid call ops r fuel Hh (listed.setIfInBounds k true) (aput ts ok.dst v) st → dZ E fid call ops r (fuel + 1) Hh listed ts st := by
  intro fuel
  induction fuel with
  | zero =>
    intro Hh listed ts st v hd hr hz0 hy H
    have hun := ready_un hr
    refine ⟨hz0, fun h => (by rw [h] at hr; cases hr), fun j hj => ?_⟩
    by_cases hji : j = k
    · subst hji; exact ⟨ok, _, _, _, hk, .inl ⟨hy.aop, rfl⟩, H⟩
    · have := ready_mono hj hji
      rw [H.2.1] at this
      cases this
  | succ fuel ih =>
    intro Hh listed ts st v hd hr hz0 hy H
    have hun := ready_un hr
    refine ⟨hz0, fun h => (by rw [h] at hr; cases hr), fun j hj => ?_⟩
    by_cases hji : j = k
    · subst hji; exact ⟨ok, _, _, _, hk, .inl ⟨hy.aop, rfl⟩, H⟩
    · obtain ⟨oj, H', ts1, st1, hoj, hop, hz⟩ := H.2.2 j (ready_mono hj hji)
      obtain ⟨_, oj', hoj', hall⟩ := mem_ready.1 hj
      rw [hoj] at hoj'
      cases hoj'
      obtain ⟨_, ok', hk', hallk⟩ := mem_ready.1 hr
      rw [hk] at hk'
      cases hk'
      have hjun := ready_un hj
      have wjk := waits_not hd hoj hall hun
      have wkj := waits_not hd hk hallk hjun
      have wkk := waits_not hd hk hallk hun
      have s1 : ∀ d, ok.dst = some d → d ∉ oj.looksAt ops := fun d hd1 hm => by
        have := ((ssa_spec hs hoj hk).2 wjk d hd1 hm).1
        rw [wkj] at this; cases this
      have skk : ∀ d, ok.dst = some d → d ∉ ok.looksAt ops := fun d hd1 hm => by
        have := ((ssa_spec hs hk hk).2 wkk d hd1 hm).1
        rw [wkk] at this; cases this
      have sjk : ∀ d, oj.dst = some d → d ∉ ok.looksAt ops := fun d hd1 hm => by
        have := ((ssa_spec hs hk hoj).2 wkj d hd1 hm).1
        rw [wjk] at this; cases this
      have s2 := (ssa_spec hs hk hoj).1 (Ne.symm hji)
      obtain ⟨ts', hop', e2⟩ := dstep_put s1 s2 hop
      subst e2
      have hd' := down_put hd hj
      have hkin : k < listed.size := by
        have hkun := (mem_ready.1 hr).1
        rcases Nat.lt_or_ge k listed.size with h' | h'
        · exact h'
        · simp [Array.getElem?_eq_none h'] at hkun
      obtain ⟨v', h1, h2⟩ := dZ_inv hz k ok hk hq (getD_set_true (by simp [hkin])) (fun i oi hi hqi hli => by
        rcases getD_put hli with rfl | hli
        · rw [hoj] at hi; cases hi; exact wjk
        · rcases getD_put hli with rfl | hli
          · exact wkk
          · exact waits_not hd hi (fun e he hb => hd i oi hi hli e he hb) hun) (fun i oi hi hli hwi d hd1 hm => by
        rcases getD_put hli with rfl | hli
        · rw [hoj] at hi; cases hi; exact sjk d hd1 hm
        · rcases getD_put hli with rfl | hli
          · rw [hk] at hi; cases hi; exact skk d hd1 hm
          · have h5 := ((ssa_spec hs hk hi).2 hwi d hd1 hm).1
            rw [waits_not hd hi (fun e he hb => hd i oi hi hli e he hb) hun] at h5
            cases h5)
      rw [aput_idem] at h1
      have hcomm : (listed.setIfInBounds j true).setIfInBounds k true = (listed.setIfInBounds k true).setIfInBounds j true := Array.setIfInBounds_comm _ _ hji
      have hzj : ZInv E fid ops (listed.setIfInBounds j true) ts' st1 := by
        refine zinv_back hs hk hq hd' (by rw [getD_set_ne false hji]; exact hun) (by rw [hcomm]; exact dZ_inv hz) (fun i oi hi hqi hli hov hw hno2 hno => ?_)
        obtain ⟨d, hd1, hm⟩ := hov
        obtain ⟨_, hlate⟩ := (ssa_spec hs hi hk).2 hw d hd1 hm
        have hjq : quietAt E fid oj = true := by
          cases hjq : quietAt E fid oj with
          | true => rfl
          | false =>
            have := hlate j oj hoj hjq
            rw [wkj] at this; cases this
        rcases hop' with ⟨hop', _⟩ | ⟨hnq, _⟩ | ⟨_, hnq, _⟩
        · obtain ⟨w, hyj, _, e3, e4⟩ := quiet_yields hjq hop'
          subst e3
          subst e4
          by_cases hij : i = j
          · subst hij
            rw [hoj] at hi
            cases hi
            have wii := waits_not hd hoj hall hjun
            exact ⟨w, aput_idem _ _ _ _, hyj.put (fun d2 h3 h4 => by
              have := ((ssa_spec hs hoj hoj).2 wii d2 h3 h4).1
              rw [wii] at this; cases this)⟩
          · have hli' : listed.getD i false = true := by
              rcases getD_put hli with e | e
              · exact absurd e hij
              · exact e
            have wij := waits_not hd hi (fun e he hb => hd i oi hi hli' e he hb) hjun
            obtain ⟨u, g1, g2⟩ := hz0 i oi hi hqi hli' (fun x ox hx hqx hlx => hno x ox hx hqx (getD_set_true hlx)) (fun x ox hx hlx hwx => hno2 x ox hx (getD_set_true hlx) hwx)
            have hjin : j < listed.size := by
              have hkun := (mem_ready.1 hj).1
              rcases Nat.lt_or_ge j listed.size with h' | h'
              · exact h'
              · simp [Array.getElem?_eq_none h'] at hkun
            refine ⟨u, ?_, g2.put (hno2 j oj hoj (by simp [hjin]) wij)⟩
            rw [aput_comm _ _ _ ((ssa_spec hs hoj hi).1 (Ne.symm hij)), g1]
        · rw [hjq] at hnq; cases hnq
        · rw [hjq] at hnq; cases hnq
      refine ⟨oj, H', ts', st1, hoj, hop', ih H' (listed.setIfInBounds j true) ts' st1 v' hd' (ready_mono hr (Ne.symm hji)) hzj (h2.of_put skk) ?_⟩
      rw [hcomm, h1]
      exact hz

theorem stateless_st {P : Program} {mt : Bool} {ρ : Operand → Option AVal} {o : Oper} {st st' : ASt} {v : AVal} (hq : statelessOp o.op = true) (hr : aexecOp P mt ρ o st = some (.val v st)) : aexecOp P mt ρ o st' = some (.val v st') := by
  have vi : ∀ {x : Option AVal}, x.map (ANext.val · st) = some (.val v st) → x.map (ANext.val · st') = some (.val v st') := fun {x} h => by
    cases x with
    | none => cases h
    | some y => simp only [Option.map_some, Option.some.injEq, ANext.val.injEq] at h ⊢; exact ⟨h.1, trivial⟩
  obtain ⟨dst, op, ty, pos, after, guard⟩ := o
  cases op with
  | move x | assign x => exact vi hr
  | pick c a b =>
    simp only [aexecOp] at hr ⊢
    split at hr <;> first
      | exact vi hr
      | cases hr
  | nilCheck x =>
    simp only [aexecOp] at hr ⊢
    split at hr
    · split at hr
      · rename_i h1
        rw [if_pos h1]
        cases hr; rfl
      · cases hr
    · cases hr
  | build t ps | unOp _ _ x | fieldAddr _ x _ | field _ x _ | extract x _ =>
    simp only [aexecOp] at hr ⊢
    split at hr <;> first
      | exact vi hr
      | cases hr
  | binOp _ _ x y _ | indexAddr _ x y =>
    simp only [aexecOp] at hr ⊢
    split at hr <;> first
      | exact vi hr
      | cases hr
  | _ => cases hq

theorem stills_mem {ts : List AVal} {st : ASt} : ∀ {l : List Nat} {k : Nat}, Stills E fid ops ts st l → k ∈ l → Still E fid ops ts st k
  | [], k, h, hk => by cases hk
  | a :: l, k, h, hk => by
    cases hk with
    | head => exact h.1
    | tail _ hk => exact stills_mem h.2 hk

theorem aput_self {ts : List AVal} {d : Nat} {v : AVal} (h : ts[d]? = some v) : ts.set d v = ts := by
  refine List.ext_getElem? fun i => ?_
  by_cases hi : d = i
  · subst hi
    rw [List.getElem?_set]
    have := (List.getElem?_eq_some_iff.1 h).1
    rw [if_pos rfl, if_pos this, h]
  · rw [List.getElem?_set_ne hi]

theorem stills_mem' {ts : List AVal} {st : ASt} {p : Nat → Bool} {done : List Nat} (h : Stills E fid ops ts st (done.filter p)) {k : Nat} (hk : k ∈ done) (hp : p k = true) : Still E fid ops ts st k :=
  stills_mem h (List.mem_filter.2 ⟨hk, hp⟩)

/-- what was told is so still behind an operation that is not quiet -/
theorem zinv_step (hs : ssaOK E fid ops = true) {listed : Array Bool} {ts : List AVal} {st st' : ASt} {j : Nat} {oj : Oper} {w : AVal} (hjin : j < listed.size) (hd : Down ops listed) (hj : ops[j]? = some oj) (hq : quietAt E fid oj = false) (hjun : listed.getD j false = false)
    (hz : ZInv E fid ops listed ts st)
    (hre : ∀ k ok, ops[k]? = some ok → quietAt E fid ok = true → listed.getD k false = true → waits ops ops.size j k = false → (∀ j' oj', ops[j']? = some oj' → quietAt E fid oj' = false → listed.getD j' false = true → waits ops ops.size j' k = false) → statelessOp ok.op ≠ true → Still E fid ops (aput ts oj.dst w) st' k) :
    ZInv E fid ops (listed.setIfInBounds j true) (aput ts oj.dst w) st' := by
  intro k ok hk hqk hlk hno hno2
  have hki : k ≠ j := fun e => by
    subst e; rw [hj] at hk; cases hk; rw [hq] at hqk; cases hqk
  have hlk' : listed.getD k false = true := by
    rcases getD_put hlk with e | e
    · exact absurd e hki
    · exact e
  have wik : waits ops ops.size j k = false := hno j oj hj hq (by simp [hjin])
  have wki := waits_not hd hk (fun e he hb => hd k ok hk hlk' e he hb) hjun
  have hno' : ∀ j' oj', ops[j']? = some oj' → quietAt E fid oj' = false → listed.getD j' false = true → waits ops ops.size j' k = false := fun j' oj' hj' hqj' hlj' => hno j' oj' hj' hqj' (getD_set_true hlj')
  obtain ⟨u, h1, h2⟩ := hz k ok hk hqk hlk' hno' (fun x ox hx hlx hwx => hno2 x ox hx (getD_set_true hlx) hwx)
  have s1 := hno2 j oj hj (by simp [hjin]) wki
  have s2 := (ssa_spec hs hj hk).1 (Ne.symm hki)
  have hsame : aput (aput ts oj.dst w) ok.dst u = aput ts oj.dst w := by rw [aput_comm _ _ _ s2, h1]
  have h3 := h2.put (dst := oj.dst) (u := w) s1
  rcases h3 with ⟨hw, hx⟩ | ⟨hw, hu⟩
  · by_cases hsl : statelessOp ok.op = true
    · exact ⟨u, hsame, .inl ⟨hw, stateless_st hsl hx⟩⟩
    · have hs2 := hre k ok hk hqk hlk' wik hno' hsl
      unfold Still at hs2
      rw [hk] at hs2
      obtain ⟨e1, e2⟩ := hs2 hw
      cases hdst : ok.dst with
      | none => rw [hdst] at e2; cases e2
      | some d =>
        rw [hdst] at e1 e2
        simp only [Option.bind_some] at e1 e2
        cases htd : (aput ts oj.dst w)[d]? with
        | none => rw [htd] at e2; cases e2
        | some v' =>
          rw [htd] at e1
          exact ⟨v', aput_self htd, .inl ⟨hw, e1⟩⟩
  · exact ⟨u, hsame, .inr ⟨hw, hu⟩⟩

theorem aop_putE {o : Oper} {ts ts' : List AVal} {st st' : ASt} (h : Go.Proofs.YtpgcbmmifmnfpaaDoorA.aop E fid call ops o ts st = some (none, ts', st')) : ∃ w, ts' = aput ts o.dst w := by
  unfold Go.Proofs.YtpgcbmmifmnfpaaDoorA.aop at h
  split at h
  · split at h
    · cases h; exact ⟨_, rfl⟩
    · split at h <;> cases h
      exact ⟨_, rfl⟩
    · cases h
    · cases h
  · cases h; exact ⟨_, rfl⟩

theorem fill_putE {o : Oper} {c : Nat} {ts ts' : List AVal} {st st' : ASt} (h : fillOp E fid ops o c ts st = some (ts', st')) : ∃ w, ts' = aput ts o.dst w := by
  unfold fillOp at h
  split at h
  · split at h
    · split at h
      · split at h
        · cases h; exact ⟨_, rfl⟩
        · cases h
      · cases h
    · cases h
  · cases h

theorem dZ_plan (hs : ssaOK E fid ops = true) {r : AExit × List AVal × ASt} : ∀ (fuel : Nat) (listed : Array Bool) (done : List Nat) (pl : List PStep) (ts : List AVal) (st : ASt), listed.size = ops.size → Down ops listed → ZInv E fid ops listed ts st →
    (∀ i oi, ops[i]? = some oi → quietAt E fid oi = true → listed.getD i false = true → i ∈ done) → planGo E fid ops fuel listed done = some pl → aopsP E fid call ops pl ts st = some r → dZ E fid call ops r fuel [] listed ts st
  | 0, listed, done, pl, ts, st, hsz, hd, hz, hdone, hp, h => by
    unfold planGo at hp
    split at hp
    · rename_i he
      cases hp
      cases h
      exact ⟨hz, by simpa using he, rfl⟩
    · cases hp
  | fuel + 1, listed, done, pl, ts, st, hsz, hd, hz, hdone, hp, h => by
    have hsl : ∀ k ok, ops[k]? = some ok → statelessOp ok.op ≠ true → statelessIx ops k = false := fun k ok hk hne => by
      unfold statelessIx; rw [hk]; simpa using hne
    unfold planGo at hp
    split at hp
    · rename_i i hf
      have hir : i ∈ Region.ready .any ops listed := List.mem_of_find?_eq_some hf
      obtain ⟨_, oi, hoi, hall⟩ := mem_ready.1 hir
      have hq : quietAt E fid oi = true := by
        have := List.find?_some hf
        simpa [quietIx, hoi, quietAt] using this
      cases hpl : planGo E fid ops fuel (listed.setIfInBounds i true) (done ++ [i]) with
      | none => rw [hpl] at hp; cases hp
      | some pl' =>
        rw [hpl] at hp
        cases hp
        unfold aopsP at h
        rw [hoi] at h
        simp only at h
        split at h
        · rename_i ts' st' hop
          obtain ⟨v, hy, _, e1, e2⟩ := quiet_yields hq hop
          subst e1
          subst e2
          have hiun := ready_un hir
          have wii := waits_not hd hoi hall hiun
          have sii : ∀ d, oi.dst = some d → d ∉ oi.looksAt ops := fun d hd1 hm => by
            have := ((ssa_spec hs hoi hoi).2 wii d hd1 hm).1
            rw [wii] at this; cases this
          have hiin : i < listed.size := by
            rw [hsz]; exact (Array.getElem?_eq_some_iff.1 hoi).1
          refine dZ_first hs hoi hq fuel [] listed ts _ v hd hir hz hy (dZ_plan hs fuel _ _ pl' _ _ (by simpa using hsz) (down_put hd hir) (fun k ok hk hqk hlk hno hno2 => ?_) (fun k ok hk hqk hlk => ?_) hpl h)
          · by_cases hki : k = i
            · subst hki
              rw [hoi] at hk
              cases hk
              exact ⟨v, aput_idem _ _ _ _, hy.put sii⟩
            · have hlk' : listed.getD k false = true := by
                rcases getD_put hlk with e | e
                · exact absurd e hki
                · exact e
              obtain ⟨u, h1, h2⟩ := hz k ok hk hqk hlk' (fun j oj hj hqj hlj => hno j oj hj hqj (getD_set_true hlj)) (fun x ox hx hlx hwx => hno2 x ox hx (getD_set_true hlx) hwx)
              have wki := waits_not hd hk (fun e he hb => hd k ok hk hlk' e he hb) hiun
              refine ⟨u, ?_, h2.put (hno2 i oi hoi (by simp [hiin]) wki)⟩
              rw [aput_comm _ _ _ ((ssa_spec hs hoi hk).1 (Ne.symm hki)), h1]
          · rcases getD_put hlk with rfl | e
            · simp
            · simp [hdone k ok hk hqk e]
        · cases h
    · rename_i hf
      have hnq : ∀ j ∈ Region.ready .any ops listed, ∀ oj, ops[j]? = some oj → quietAt E fid oj = false := fun j hjr oj hoj => by
        have := List.find?_eq_none.1 hf j hjr
        simpa [quietIx, hoj, quietAt] using this
      split at hp
      · rename_i j hj
        have hjr : j ∈ Region.ready .any ops listed := by rw [hj]; simp
        obtain ⟨_, oj, hoj, hall⟩ := mem_ready.1 hjr
        have hq := hnq j hjr oj hoj
        have hjun := ready_un hjr
        have hjin : j < listed.size := by
          rw [hsz]; exact (Array.getElem?_eq_some_iff.1 hoj).1
        cases hpl : planGo E fid ops fuel (listed.setIfInBounds j true) done with
        | none => rw [hpl] at hp; cases hp
        | some pl' =>
          rw [hpl] at hp
          cases hp
          unfold aopsP at h
          rw [hoj] at h
          simp only at h
          split at h
          · rename_i ts' st' hop
            obtain ⟨w, rfl⟩ := aop_putE hop
            have hst : ∃ re, (done.filter fun i => !waits ops ops.size j i && !statelessIx ops i) = re ∧ Stills E fid ops (aput ts oj.dst w) st' re ∧ aopsP E fid call ops pl' (aput ts oj.dst w) st' = some r := by
              split at h
              · rename_i heq
                exact ⟨[], heq, trivial, h⟩
              · rename_i heq
                split at h
                · rename_i h1
                  exact ⟨_, heq, h1, h⟩
                · cases h
            obtain ⟨re, heq, hre, hgo⟩ := hst
            subst heq
            refine ⟨hz, fun he => (by rw [he] at hjr; cases hjr), fun i hi => ?_⟩
            rw [hj] at hi
            obtain rfl : i = j := by simpa using hi
            refine ⟨oj, [], _, st', hoj, .inl ⟨hop, rfl⟩, dZ_plan hs fuel _ _ pl' _ _ (by simpa using hsz) (down_put hd hjr) (zinv_step hs hjin hd hoj hq hjun hz (fun k ok hk hqk hlk hw _ hne => stills_mem' hre (hdone k ok hk hqk hlk) (by rw [hw, hsl k ok hk hne]; rfl))) (fun k ok hk hqk hlk => ?_) hpl hgo⟩
            refine hdone k ok hk hqk ?_
            rcases getD_put hlk with rfl | e
            · rw [hoj] at hk; cases hk; rw [hq] at hqk; cases hqk
            · exact e
          · cases h
      · rename_i i j hij
        have hir : i ∈ Region.ready .any ops listed := by rw [hij]; simp
        have hjr : j ∈ Region.ready .any ops listed := by rw [hij]; simp
        obtain ⟨_, oi, hoi, halli⟩ := mem_ready.1 hir
        obtain ⟨_, oj, hoj, hallj⟩ := mem_ready.1 hjr
        have hqi := hnq i hir oi hoi
        have hqj := hnq j hjr oj hoj
        have hiun := ready_un hir
        have hjun := ready_un hjr
        have hiin : i < listed.size := by
          rw [hsz]; exact (Array.getElem?_eq_some_iff.1 hoi).1
        have hjin : j < listed.size := by
          rw [hsz]; exact (Array.getElem?_eq_some_iff.1 hoj).1
        split at hp
        · cases hp
        · rename_i fuel
          split at hp
          · rename_i hcnd
            simp only [Bool.and_eq_true, beq_iff_eq] at hcnd
            obtain ⟨hri, hrj⟩ := hcnd
            have hne : i ≠ j := fun e => by
              subst e
              have hm : i ∈ Region.ready .any ops (listed.setIfInBounds i true) := by rw [hri]; simp
              have := ready_un hm
              simp [hiin] at this
            cases hpl : planGo E fid ops fuel ((listed.setIfInBounds i true).setIfInBounds j true) done with
            | none => rw [hpl] at hp; cases hp
            | some pl' =>
              rw [hpl] at hp
              cases hp
              unfold aopsP at h
              simp only [hoi, hoj] at h
              split at h
              · rename_i ts1 st1 hop1
                split at h
                · rename_i ts2 st2 hop2
                  split at h
                  · rename_i ts3 st3 hop3
                    split at h
                    · rename_i ts4 st4 hop4
                      split at h
                      · rename_i hc
                        obtain ⟨e1, e2, hsi, hsj, hsij⟩ := hc
                        subst e1
                        subst e2
                        obtain ⟨w1, rfl⟩ := aop_putE hop1
                        obtain ⟨w2, e5⟩ := aop_putE hop2
                        obtain ⟨w3, rfl⟩ := aop_putE hop3
                        have hdi := down_put hd hir
                        have hdj := down_put hd hjr
                        have hji' : j ∈ Region.ready .any ops (listed.setIfInBounds i true) := by rw [hri]; simp
                        have hij' : i ∈ Region.ready .any ops (listed.setIfInBounds j true) := by rw [hrj]; simp
                        have hzi : ZInv E fid ops (listed.setIfInBounds i true) (aput ts oi.dst w1) st1 := zinv_step hs hiin hd hoi hqi hiun hz (fun k ok hk hqk hlk hw _ hne => stills_mem' hsi (hdone k ok hk hqk hlk) (by rw [hw, hsl k ok hk hne]; rfl))
                        have hzj : ZInv E fid ops (listed.setIfInBounds j true) (aput ts oj.dst w3) st3 := zinv_step hs hjin hd hoj hqj hjun hz (fun k ok hk hqk hlk hw _ hne => stills_mem' hsj (hdone k ok hk hqk hlk) (by rw [hw, hsl k ok hk hne]; rfl))
                        have hnqk : ∀ (k : Nat) (ok : Oper) (x : Nat) (ox : Oper), ops[k]? = some ok → quietAt E fid ok = true → ops[x]? = some ox → quietAt E fid ox = false → k ≠ x := fun k ok x ox hk hqk hx hqx e => by
                          subst e; rw [hx] at hk; cases hk; rw [hqx] at hqk; cases hqk
                        have hzij : ZInv E fid ops ((listed.setIfInBounds i true).setIfInBounds j true) ts4 st4 := by
                          rw [e5]
                          rw [e5] at hsij
                          refine zinv_step hs (by simpa using hjin) hdi hoj hqj (ready_un hji') hzi (fun k ok hk hqk hlk hw hno hne => ?_)
                          have hki := hnqk k ok i oi hk hqk hoi hqi
                          have hlk' : listed.getD k false = true := by
                            rcases getD_put hlk with e | e
                            · exact absurd e hki
                            · exact e
                          have hwi : waits ops ops.size i k = false := hno i oi hoi hqi (by simp [hiin])
                          exact stills_mem' hsij (hdone k ok hk hqk hlk') (by rw [hw, hwi, hsl k ok hk hne]; rfl)
                        have hlast := dZ_plan hs fuel _ _ pl' _ _ (by simpa using hsz) (down_put hdi hji') hzij (fun k ok hk hqk hlk => by
                          have hki := hnqk k ok i oi hk hqk hoi hqi
                          have hkj := hnqk k ok j oj hk hqk hoj hqj
                          refine hdone k ok hk hqk ?_
                          rcases getD_put hlk with e | e
                          · exact absurd e hkj
                          · rcases getD_put e with e | e
                            · exact absurd e hki
                            · exact e) hpl h
                        refine ⟨hz, fun he => (by rw [he] at hir; cases hir), fun x hx => ?_⟩
                        rw [hij] at hx
                        rcases List.mem_cons.1 hx with rfl | hx
                        · refine ⟨oi, [], _, st1, hoi, .inl ⟨hop1, rfl⟩, hzi, fun he => (by rw [he] at hri; cases hri), fun y hy => ?_⟩
                          rw [hri] at hy
                          obtain rfl : y = j := by simpa using hy
                          exact ⟨oj, [], _, st4, hoj, .inl ⟨hop2, rfl⟩, hlast⟩
                        · obtain rfl : x = j := by simpa using hx
                          refine ⟨oj, [st.ctr], _, st3, hoj, .inr (.inl ⟨hqj, hop3, rfl⟩), hzj, fun he => (by rw [he] at hrj; cases hrj), fun y hy => ?_⟩
                          rw [hrj] at hy
                          obtain rfl : y = i := by simpa using hy
                          refine ⟨oi, [], ts4, st4, hoi, .inr (.inr ⟨st.ctr, hqi, by simp, hop4, by simp⟩), ?_⟩
                          rw [Array.setIfInBounds_comm _ _ (Ne.symm hne)]
                          exact hlast
                      · cases h
                    · cases h
                  · cases h
                · cases h
              · cases h
          · cases hp
      · cases hp

/-- one order tells of all -/
theorem draw_sound {base : Nat} {w0 : World} (hm : E.P.follows .mixedOrders = true) (hcall : ∀ f args st r, call f args st = some r → CallOK E base w0 f args st r) : DrawOK E base w0 fid call (drawB E fid) := by
  intro D ops id ts st r hr g0 g a w h0 hinv hg ha
  have hdown : Down ops (Array.replicate ops.size false) := fun j o ho hl => by
    rcases Nat.lt_or_ge j ops.size with h' | h'
    · simp [h'] at hl
    · simp [h'] at hl
  rcases hr with ⟨hB, hr⟩ | ⟨p, hp, hr⟩
  · refine wp_region_any hm ?_
    simp only [drawB, Bool.and_eq_true] at hB
    have h1 : dAny E fid call ops r ops.size (Array.replicate ops.size false) ts st := dAny_lex (E := E) (fid := fid) (call := call) ops.toList 0 (Array.replicate ops.size false) ts st (by simp) hdown (by simpa using hB.2) hr
    have h2 := wpAny_of_d (base := base) (w0 := w0) hcall _ _ ts st h1 g0 g a w.drew h0 hinv.drew hg ha
    simpa using h2
  · unfold drawPlan at hp
    split at hp
    · rename_i hb
      simp only [Bool.and_eq_true] at hb
      have hnone : ∀ (i : Nat), (Array.replicate ops.size false).getD i false = true → False := fun i hl => by
        rcases Nat.lt_or_ge i ops.size with h' | h'
        · simp [h'] at hl
        · simp [h'] at hl
      have hz := dZ_plan hb.2 _ _ _ p ts st (by simp) hdown (fun i oi _ _ hl _ _ => (hnone i hl).elim) (fun i oi _ _ hl => (hnone i hl).elim) hp hr
      have h2 := wpAny_of_z (base := base) (w0 := w0) hcall _ _ _ ts st hz g g a w.drew (G.le.refl g) hinv.drew hg ha (fun c hc => by cases hc)
      refine wp_weak (wp_region_any hm (by simpa using h2)) (fun e a' w' hp => ?_)
      obtain ⟨g', p1, p2⟩ := hp
      exact ⟨g', h0.trans p1, p2⟩
    · cases hp

end

/-- the second reading of a program's functions -/
noncomputable def run (E : Env) (n : Nat) : ACall := acall E (drawB E) n

theorem run_sound {E : Env} {base : Nat} {w0 : World} (hm : E.P.follows .mixedOrders = true) (n : Nat) (f : FuncId) (args : List AVal) (st : ASt) (r : AEnd × ASt) (h : run E n f args st = some r) (hprim : PrimOK E base w0 := by exact prim_none rfl) : CallOK E base w0 f args st r :=
  acall_sound hprim (fun _ _ hc => draw_sound hm hc) n f args st r h

end Go.Proofs.YtpgcbmmifmnfpaaDoorA

/- From the second reading to a law's row; how operations on numbers are reckoned. No condition. -/
namespace Go.Proofs.YtpgcbmmifmnfpaaDoorA
open Go Go.RowKit
set_option linter.unusedVariables false
set_option linter.unusedSimpArgs false

/-! ### the start -/
def st0 : ASt := { heap := fun _ => none, ctr := 0 }
def g0 (W : World) : G where
  own := fun B o => match W.cell? ⟨B, o, none⟩ with
    | some v => .frozen v
    | none => .free
  loc := fun _ => (0, 0, 0)
  n := 0
  dead := fun _ => False

theorem sinv0 (W : World) : SInv W.heap.size W (g0 W) st0 W := by
  refine ⟨rfl, fun B o v h => ?_, fun B o h => ?_, fun s b h => (by cases h), fun s cs h => (by cases h), fun s es h => (by cases h), Below.refl _ _, Nat.le_refl _, fun B hB _ c t lo hi hc => ?_⟩
  · simp only [g0] at h
    split at h
    · rename_i u hu; cases h; exact hu
    · cases h
  · simp only [g0]
    have : W.cell? ⟨B, o, none⟩ = none := by
      unfold World.cell?
      have : W.heap[B]? = none := Array.getElem?_eq_none h
      simp [this]
    rw [this]
  · rw [Array.getElem?_eq_none hB] at hc
    cases hc

/-- a law's call, out of the second reading -/
theorem law_of_run {E : Env} (hm : E.P.follows .mixedOrders = true) (hglob : ∀ k, E.glob k = none) {n : Nat} {f : FuncId} {args : List AVal} {st : ASt} (h : run E n f args st0 = some (.returned (.lit (.bool true)), st))
    {W : World} {us : Array Value} (hr : Reps (g0 W) args us.toList) (hprim : PrimOK E W.heap.size W := by exact prim_none rfl) : Calls E.P f us W (fun e w' => e = .returned (.bool true) ∧ Below W.heap.size W w') := by
  refine (run_sound hm n f args st0 _ h hprim (g0 W) W us (sinv0 W) (fun k v hk => by rw [hglob] at hk; cases hk) hr).mono fun e w' he => ?_
  obtain ⟨g', h1, h2, h3⟩ := he
  cases e with
  | returned u => exact ⟨by rw [Rep.flat h3], h2.below⟩
  | panicked chain => exact h3.elim
  | outgrown => exact h3.elim

/-! ### unfolding a call -/
theorem run_succ {E : Env} {n : Nat} {f : FuncId} {args : List AVal} {st : ASt} {fn : Func} {c : Code} (hf : E.P.funcs[f]? = some fn) (hb : fn.body = some c) (hp : E.prim f = none := by rfl) :
    run E (n + 1) f args st = aend E fn (aexec E f (run E n) (drawB E f) n c (args ++ List.replicate (fn.ntmps - args.length) .undef) st) := by
  show acall E (drawB E) (n + 1) f args st = _
  rw [acall, hp, hf]
  simp only [hb]
  rfl

end Go.Proofs.YtpgcbmmifmnfpaaDoorA
