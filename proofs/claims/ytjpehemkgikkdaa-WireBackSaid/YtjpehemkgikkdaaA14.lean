/- The second reading of code: statements in order, jumps, loops, calls. No condition. -/
import Derived.Test.YtjpehemkgikkdaaA13
import Derived.LoopN
namespace Go.Proofs.YtjpehemkgikkdaaA
open Go Go.RowKit
set_option linter.unusedVariables false
set_option linter.unusedSimpArgs false

inductive AExit where
  | normal
  | exit (id : Nat)
  | goto (l : Nat)
  | ret
  | panic (v : AVal)

inductive AEnd where
  | returned (v : AVal)
  | panicked (v : AVal)

structure Env where
  P : Program
  hint : FuncId → Tmp → Bool
  glob : Nat → Option AVal

abbrev ACall := FuncId → List AVal → ASt → Option (AEnd × ASt)
abbrev ARes := Option (AExit × List AVal × ASt)

def aeval (E : Env) (ts : List AVal) : Operand → Option AVal
  | .tmp t => ts[t]?
  | .const v => absOf v
  | .global g => E.glob g
  | .func f => some (.lit (.func (.func f) #[] #[]))

def aput (ts : List AVal) (dst : Option Tmp) (v : AVal) : List AVal :=
  match dst with
  | some d => ts.set d v
  | none => ts

def ayielded (ops : Array Oper) (ts : List AVal) (j : Nat) : Option Bool :=
  match ((ops[j]?).bind (·.dst)).bind (ts[·]?) with
  | some (.lit (.bool b)) => some b
  | _ => none

def ahint (E : Env) (fid : FuncId) (o : Oper) : Bool :=
  match o.dst with
  | some d => E.hint fid d
  | none => false

/-- one operation -/
def aop (E : Env) (fid : FuncId) (call : ACall) (ops : Array Oper) (o : Oper) (ts : List AVal) (st : ASt) : Option (Option AVal × List AVal × ASt) :=
  if Region.wanted o (ayielded ops ts) = true then
    match aexecOp E.P (ahint E fid o) (aeval E ts) o st with
    | some (.val v st') => some (none, aput ts o.dst v, st')
    | some (.enter f args st') => match call f args st' with
      | some (.returned v, st'') => some (none, aput ts o.dst v, st'')
      | some (.panicked v, st'') => some (some v, ts, st'')
      | none => none
    | some (.panic v st') => some (some v, ts, st')
    | none => none
  else some (none, aput ts o.dst .undef, st)

def aops (E : Env) (fid : FuncId) (call : ACall) (ops : Array Oper) : List Oper → List AVal → ASt → ARes
  | [], ts, st => some (.normal, ts, st)
  | o :: r, ts, st => match aop E fid call ops o ts st with
    | some (none, ts', st') => aops E fid call ops r ts' st'
    | some (some v, ts', st') => some (.panic v, ts', st')
    | none => none

/-- an operation that makes nothing and writes nothing but its temporary -/
def quietOp (P : Program) (mt : Bool) : Op → Bool
  | .move _ | .assign _ | .pick .. | .build .. | .load .. | .nilCheck _ | .binOp .. | .unOp .. | .makeInterface .. | .makeFunc .. | .slice .. | .fieldAddr .. | .field .. | .indexAddr .. | .index .. | .extract .. => true
  | .buildSlice .. => !mt
  | .convert _ dst _ => match P.underlying dst with
    | some (.slice _) => false
    | some _ => true
    | none => false
  | .call { callee := .builtin b, .. } => match b with
    | .len | .cap | .min | .max | .real | .imag | .complex => true
    | _ => false
  | _ => false

def waits (ops : Array Oper) : Nat → Nat → Nat → Bool
  | 0, _, _ => false
  | n + 1, j, i => match ops[j]? with
    | some o => o.after.any fun e => Region.binds .any e && (e.on == i || waits ops n e.on i)
    | none => false

/-- an operation whose value hangs on its operands alone -/
def statelessOp : Op → Bool
  | .move _ | .assign _ | .pick .. | .build .. | .nilCheck _ | .binOp .. | .unOp .. | .fieldAddr .. | .field .. | .indexAddr .. | .extract .. => true
  | _ => false

/-- no temporary is set twice, or looked at by what doesn't wait for it -/
def ssaOK (ops : Array Oper) : Bool := (List.range ops.size).all fun i => (List.range ops.size).all fun j => match ops[i]?, ops[j]? with
  | some oi, some oj => (i == j || oi.dst == none || oi.dst != oj.dst) && (waits ops ops.size i j || (match oj.dst with
    | some d => !((oi.looksAt ops).contains d)
    | none => true))
  | _, _ => true

/-- an order that may stand for all orders, if what is told to be looked at again is still so -/
def planGo (E : Env) (fid : FuncId) (ops : Array Oper) : Nat → Array Bool → List Nat → Option (List (Nat × List Nat))
  | 0, listed, _ => if (Region.ready .any ops listed).isEmpty = true then some [] else none
  | fuel + 1, listed, done => match (Region.ready .any ops listed).find? (fun i => match ops[i]? with
      | some o => quietOp E.P (ahint E fid o) o.op
      | none => false) with
    | some i => (planGo E fid ops fuel (listed.setIfInBounds i true) (done ++ [i])).map ((i, []) :: ·)
    | none => match Region.ready .any ops listed with
      | [j] => (planGo E fid ops fuel (listed.setIfInBounds j true) done).map ((j, done.filter fun i => !waits ops ops.size j i && !(match ops[i]? with
        | some o => statelessOp o.op
        | none => false)) :: ·)
      | _ => none

def drawPlan (E : Env) (fid : FuncId) (ops : Array Oper) : Option (List (Nat × List Nat)) := if Region.noSelect ops && ssaOK ops then planGo E fid ops ops.size (Array.replicate ops.size false) [] else none

/-- what an operation told it tells still -/
def Still (E : Env) (fid : FuncId) (ops : Array Oper) (ts : List AVal) (st : ASt) (k : Nat) : Prop := match ops[k]? with
  | some o => Region.wanted o (ayielded ops ts) = true → aexecOp E.P (ahint E fid o) (aeval E ts) o st = (match o.dst with
    | some d => (ts[d]?).map (ANext.val · st)
    | none => none) ∧ (o.dst.bind (ts[·]?)).isSome = true
  | none => False

def Stills (E : Env) (fid : FuncId) (ops : Array Oper) (ts : List AVal) (st : ASt) : List Nat → Prop
  | [] => True
  | k :: l => Still E fid ops ts st k ∧ Stills E fid ops ts st l

/-- the operations in that order -/
noncomputable def aopsP (E : Env) (fid : FuncId) (call : ACall) (ops : Array Oper) : List (Nat × List Nat) → List AVal → ASt → ARes
  | [], ts, st => some (.normal, ts, st)
  | (i, re) :: l, ts, st => match ops[i]? with
    | none => none
    | some o => match aop E fid call ops o ts st with
      | some (none, ts', st') => (match re with
        | [] => aopsP E fid call ops l ts' st'
        | k :: re => @ite _ (Stills E fid ops ts' st' (k :: re)) (Classical.propDecidable _) (aopsP E fid call ops l ts' st') none)
      | _ => none

def aseq (x : ARes) (y : List AVal → ASt → ARes) : ARes :=
  match x with
  | some (.normal, ts, st) => y ts st
  | r => r

def ablock (id : Nat) (x : ARes) : ARes :=
  match x with
  | some (.exit k, ts, st) => if k = id then some (.normal, ts, st) else some (.exit k, ts, st)
  | r => r

def aloop (body : List AVal → ASt → ARes) : Nat → List AVal → ASt → ARes
  | 0, _, _ => none
  | n + 1, ts, st => aseq (body ts st) (aloop body n)

def ascope (frm : Nat → List AVal → ASt → ARes) (c : Code) : Nat → ARes → ARes
  | 0, _ => none
  | n + 1, some (.goto l, ts, st) => match findLabel c l with
    | some _ => ascope frm c n (frm l ts st)
    | none => some (.goto l, ts, st)
  | _ + 1, r => r

mutual
noncomputable def aexec (E : Env) (fid : FuncId) (call : ACall) (dr : Array Oper → Bool) (n : Nat) : Code → List AVal → ASt → ARes
  | .skip, ts, st => some (.normal, ts, st)
  | .region _ ops draw, ts, st => if draw = true ∧ dr ops = false then (match drawPlan E fid ops with
      | some p => aopsP E fid call ops p ts st
      | none => none) else aops E fid call ops ops.toList ts st
  | .seq a b, ts, st => aseq (aexec E fid call dr n a ts st) (aexec E fid call dr n b)
  | .cond c a b, ts, st => match aeval E ts c with
    | some (.lit (.bool true)) => aexec E fid call dr n a ts st
    | some (.lit (.bool false)) => aexec E fid call dr n b ts st
    | _ => none
  | .block id c, ts, st => ablock id (aexec E fid call dr n c ts st)
  | .loop c, ts, st => aloop (aexec E fid call dr n c) n ts st
  | .scope c, ts, st => ascope (fun l => afrom E fid call dr n l c) c n (aexec E fid call dr n c ts st)
  | .exit id, ts, st => some (.exit id, ts, st)
  | .label _, ts, st => some (.normal, ts, st)
  | .goto l, ts, st => some (.goto l, ts, st)
  | .ret, ts, st => some (.ret, ts, st)
  | _, _, _ => none
noncomputable def afrom (E : Env) (fid : FuncId) (call : ACall) (dr : Array Oper → Bool) (n : Nat) (l : Nat) : Code → List AVal → ASt → ARes
  | .seq a b, ts, st => match findLabel a l with
    | some _ => aseq (afrom E fid call dr n l a ts st) (aexec E fid call dr n b)
    | none => afrom E fid call dr n l b ts st
  | .label l', ts, st => if l' = l then some (.normal, ts, st) else none
  | _, _, _ => none
end

def aresult (E : Env) (ts : List AVal) (st : ASt) : ResultVar → Option AVal
  | .tmp t => ts[t]?
  | .cell a t => match ts[a]? with
    | some p => loadA E.P t st p
    | none => none

def aresults1 (E : Env) (ts : List AVal) (st : ASt) : List ResultVar → Option (List AVal)
  | [] => some []
  | r :: l => match aresult E ts st r, aresults1 E ts st l with
    | some v, some vs => some (v :: vs)
    | _, _ => none

def aresults (E : Env) (fn : Func) (ts : List AVal) (st : ASt) : Option AVal :=
  match aresults1 E ts st fn.results.toList with
  | some [v] => some v
  | some vs => some (.tuple vs)
  | none => none

def aend (E : Env) (fn : Func) : ARes → Option (AEnd × ASt)
  | some (.normal, ts, st) | some (.ret, ts, st) => (aresults E fn ts st).map fun v => (.returned v, st)
  | some (.panic v, _, st) => some (.panicked v, st)
  | _ => none

noncomputable def acall (E : Env) (dr : FuncId → Array Oper → Bool) : Nat → ACall
  | 0, _, _, _ => none
  | n + 1, f, args, st => match E.P.funcs[f]? with
    | some fn => match fn.body with
      | some c => aend E fn (aexec E f (acall E dr n) (dr f) n c (args ++ List.replicate (fn.ntmps - args.length) .undef) st)
      | none => none
    | none => none

/-! ### soundness -/
section
variable {E : Env} {base : Nat} {w0 : World}

structure ActOK (g : G) (ts : List AVal) (a : Act) : Prop where
  tmps : Reps g ts a.tmps.toList
  defers : a.defers = []

def ExitOK (g : G) : AExit → Exit → Prop
  | .normal, .normal => True
  | .exit k, .exit k' => k' = k
  | .goto l, .goto l' => l' = l
  | .ret, .ret => True
  | .panic v, .panic chain => ∃ u, chain = [{ v := u, recovered := false }] ∧ Rep g v u
  | _, _ => False

def EndOK (g : G) : AEnd → Ending → Prop
  | .returned v, .returned u => Rep g v u
  | .panicked v, .panicked chain => ∃ u, chain = [{ v := u, recovered := false }] ∧ Rep g v u
  | _, _ => False

/-- the globals are told as they are -/
def GlobOK (E : Env) (g : G) : Prop := ∀ k v, E.glob k = some v → Rep g v (.pointer (some ⟨k, 0, none⟩))

theorem GlobOK.mono {g g' : G} (h : GlobOK E g) (hle : g.le g') : GlobOK E g' := fun k v hk => (h k v hk).mono hle

def Post (base : Nat) (w0 : World) (g : G) (r : AExit × List AVal × ASt) : Exit → Act → World → Prop :=
  fun e a w => ∃ g', g.le g' ∧ SInv base w0 g' r.2.2 w ∧ ActOK g' r.2.1 a ∧ ExitOK g' r.1 e

def CallOK (E : Env) (base : Nat) (w0 : World) (f : FuncId) (args : List AVal) (st : ASt) (r : AEnd × ASt) : Prop :=
  ∀ g w us, SInv base w0 g st w → GlobOK E g → Reps g args us.toList → Calls E.P f us w (fun e w' => ∃ g', g.le g' ∧ SInv base w0 g' r.2 w' ∧ EndOK g' r.1 e)

theorem aeval_sound {g : G} {ts : List AVal} {a : Act} (h : ActOK g ts a) (hg : GlobOK E g) : OpOK g (aeval E ts) a.eval := by
  intro x v hv
  cases x with
  | tmp t =>
    have hlt := (List.getElem?_eq_some_iff.1 hv).1
    have hl := h.tmps.1
    have hu : a.tmps.toList[t]? = some (a.tmps.toList[t]'(by omega)) := List.getElem?_eq_getElem _
    have := h.tmps.2 t v _ hv hu
    have e : a.eval (.tmp t) = a.tmps.toList[t]'(by omega) := by
      simp only [Act.eval]
      rw [Array.getD_eq_getD_getElem?, ← Array.getElem?_toList, hu]
      rfl
    rw [e]; exact this
  | const u => exact absOf_rep hv
  | global k => exact hg k v hv
  | func f => cases hv; exact .lit rfl

theorem aput_sound {g : G} {ts : List AVal} {a : Act} (h : ActOK g ts a) {v : AVal} {u : Value} (hr : Rep g v u) (dst : Option Tmp) : ActOK g (aput ts dst v) (a.put dst u) := by
  cases dst with
  | none => exact h
  | some d => exact ⟨by simpa [aput, Act.put] using h.tmps.set hr d, by simpa [Act.put] using h.defers⟩

theorem ActOK.mono {g g' : G} {ts : List AVal} {a : Act} (h : ActOK g ts a) (hle : g.le g') : ActOK g' ts a := ⟨h.tmps.mono hle, h.defers⟩

theorem undef_rep {g : G} : Rep g .undef undef := .tuple (us := #[]) rfl (fun j c u a b => by simp at a)

theorem yielded_eq {g : G} {ops : Array Oper} {ts : List AVal} {a : Act} (h : ActOK g ts a) (j : Nat) : yielded ops a.tmps j = ayielded ops ts j := by
  unfold yielded ayielded
  cases hd : (ops[j]?).bind (·.dst) with
  | none => rfl
  | some d =>
    simp only [Option.bind_some]
    cases ht : ts[d]? with
    | none =>
      have hl := h.tmps.1
      have : a.tmps[d]? = none := by
        rw [Array.getElem?_eq_none_iff]
        rw [List.getElem?_eq_none_iff] at ht
        simp at hl
        omega
      rw [this]
    | some v =>
      have hlt := (List.getElem?_eq_some_iff.1 ht).1
      have hl := h.tmps.1
      have hu : a.tmps.toList[d]? = some (a.tmps.toList[d]'(by omega)) := List.getElem?_eq_getElem _
      have hr := h.tmps.2 d v _ ht hu
      rw [← Array.getElem?_toList, hu]
      generalize a.tmps.toList[d]'(by omega) = u at hr
      cases hr with
      | lit h => cases u <;> rfl
      | _ => rfl

theorem wanted_eq {g : G} {ops : Array Oper} {ts : List AVal} {a : Act} (h : ActOK g ts a) (o : Oper) : Region.wanted o (yielded ops a.tmps) = Region.wanted o (ayielded ops ts) := by
  unfold Region.wanted
  split
  · rfl
  · rw [yielded_eq h]

/-- one operation, told and done -/
theorem aop_sound {fid : FuncId} {call : ACall} (hcall : ∀ f args st r, call f args st = some r → CallOK E base w0 f args st r) {ops : Array Oper} {o : Oper} {ts ts' : List AVal} {st st' : ASt} {r : Option AVal}
    (hr : aop E fid call ops o ts st = some (r, ts', st')) {g : G} {a : Act} {w : World} (hinv : SInv base w0 g st w) (hg : GlobOK E g) (ha : ActOK g ts a) {K : Act → World → Prop} {Q : Exit → Act → World → Prop}
    (hK : r = none → ∀ g' a' w', g.le g' → SInv base w0 g' st' w' → ActOK g' ts' a' → K a' w')
    (hQ : ∀ v, r = some v → ∀ g' a' w' chain, g.le g' → SInv base w0 g' st' w' → ActOK g' ts' a' → ExitOK g' (.panic v) (.panic chain) → Q (.panic chain) a' w') :
    if Region.wanted o (yielded ops a.tmps) then o.wp E.P a w K Q ∨ (o.asks E.P a w ∧ LetsOut Q) else K (a.put o.dst undef) w := by
  rw [wanted_eq ha]
  unfold aop at hr
  split at hr
  · rename_i hw
    rw [if_pos hw]
    refine .inl ?_
    have hop := fun r' (h : aexecOp E.P (ahint E fid o) (aeval E ts) o st = some r') => execOp_sound (P := E.P) hinv (aeval_sound ha hg) h
    unfold Oper.wp
    split at hr
    · rename_i v st1 hx
      cases hr
      have := hop _ hx
      generalize (execOp a.eval o).run E.P w = res at this
      cases res with
      | halt h w' => exact this.elim
      | ok n w' =>
        cases n with
        | value u =>
          obtain ⟨g', h1, h2, h3⟩ := this
          exact hK rfl g' _ w' h1 h2 (aput_sound (ha.mono h1) h3 o.dst)
        | skip =>
          obtain ⟨rfl, g', h1, h2⟩ := this
          exact hK rfl g' _ w' h1 h2 (aput_sound (ha.mono h1) undef_rep o.dst)
        | _ => exact this.elim
    · rename_i f args st1 hx
      have := hop _ hx
      generalize (execOp a.eval o).run E.P w = res at this
      cases res with
      | halt h w' => exact this.elim
      | ok n w' =>
        cases n with
        | enter f' us =>
          obtain ⟨rfl, h1, h2⟩ := this
          split at hr
          · rename_i v st2 hc
            cases hr
            refine (hcall _ _ _ _ hc g w' us h1 hg h2).mono fun e w'' he => ?_
            obtain ⟨g', h3, h4, h5⟩ := he
            cases e with
            | returned u => exact hK rfl g' _ w'' h3 h4 (aput_sound (ha.mono h3) h5 o.dst)
            | panicked chain => exact h5.elim
            | outgrown => exact h5.elim
          · rename_i v st2 hc
            cases hr
            refine (hcall _ _ _ _ hc g w' us h1 hg h2).mono fun e w'' he => ?_
            obtain ⟨g', h3, h4, h5⟩ := he
            cases e with
            | returned u => exact h5.elim
            | panicked chain => exact hQ _ rfl g' _ w'' chain h3 h4 (ha.mono h3) h5
            | outgrown => exact h5.elim
          · cases hr
        | _ => exact this.elim
    · rename_i v st1 hx
      cases hr
      have := hop _ hx
      generalize (execOp a.eval o).run E.P w = res at this
      cases res with
      | ok n w' => cases n <;> exact this.elim
      | halt h w' =>
        cases h with
        | panic u =>
          obtain ⟨h1, h2⟩ := this
          exact hQ _ rfl g _ w' _ (G.le.refl g) h1 ha ⟨u, rfl, h2⟩
        | _ => exact this.elim
    · cases hr
  · rename_i hw
    cases hr
    rw [if_neg hw]
    exact hK rfl g _ w (G.le.refl g) hinv (aput_sound ha undef_rep o.dst)

theorem aops_sound {fid : FuncId} {call : ACall} (hcall : ∀ f args st r, call f args st = some r → CallOK E base w0 f args st r) {ops : Array Oper} : ∀ (l : List Oper) (ts : List AVal) (st : ASt) (r : AExit × List AVal × ASt),
    aops E fid call ops l ts st = some r → ∀ (g0 g : G) (a : Act) (w : World), g0.le g → SInv base w0 g st w → GlobOK E g → ActOK g ts a → wpList E.P ops (Post base w0 g0 r) l a w
  | [], ts, st, r, hr, g0, g, a, w, h0, hinv, hg, ha => by
    cases hr
    exact ⟨g, h0, hinv, ha, trivial⟩
  | o :: l, ts, st, r, hr, g0, g, a, w, h0, hinv, hg, ha => by
    unfold aops at hr
    unfold wpList
    split at hr
    · rename_i ts' st' ho
      exact aop_sound hcall ho hinv hg ha (fun _ g' a' w' h1 h2 h3 => aops_sound hcall l _ _ r hr g0 g' a' w' (h0.trans h1) h2 (hg.mono h1) h3) (fun v hv => by cases hv)
    · rename_i v ts' st' ho
      cases hr
      exact aop_sound hcall ho hinv hg ha (fun h => by cases h) (fun v' hv g' a' w' chain h1 h2 h3 h4 => by cases hv; exact ⟨g', h0.trans h1, h2, h3, h4⟩)
    · cases hr

end
end Go.Proofs.YtjpehemkgikkdaaA
