/- The second reading of code is true of the model. No condition. -/
import Derived.Test.YtjpehemkgikkdaaA14
namespace Go.Proofs.YtjpehemkgikkdaaA
open Go Go.RowKit
set_option linter.unusedVariables false
set_option linter.unusedSimpArgs false

section
variable {E : Env} {base : Nat} {w0 : World}

/-- what is asked of regions that draw their order -/
def DrawOK (E : Env) (base : Nat) (w0 : World) (fid : FuncId) (call : ACall) (dr : Array Oper → Bool) : Prop :=
  ∀ (ops : Array Oper) (id : Nat) (ts : List AVal) (st : ASt) (r : AExit × List AVal × ASt), (dr ops = true ∧ aops E fid call ops ops.toList ts st = some r) ∨ (∃ p, drawPlan E fid ops = some p ∧ aopsP E fid call ops p ts st = some r) →
    ∀ (g0 g : G) (a : Act) (w : World), g0.le g → SInv base w0 g st w → GlobOK E g → ActOK g ts a → (Code.region id ops true).wp E.P (Post base w0 g0 r) a w

/-- told from a state on, it is so -/
def Sound (E : Env) (base : Nat) (w0 : World) (c : Code) (ex : List AVal → ASt → ARes) : Prop :=
  ∀ (ts : List AVal) (st : ASt) (r : AExit × List AVal × ASt), ex ts st = some r →
    ∀ (g0 g : G) (a : Act) (w : World), g0.le g → SInv base w0 g st w → GlobOK E g → ActOK g ts a → c.wp E.P (Post base w0 g0 r) a w

theorem wp_weak {c : Code} {Q Q' : Exit → Act → World → Prop} {a : Act} {w : World} (h : c.wp E.P Q a w) (hq : ∀ e a w, Q e a w → Q' e a w) : c.wp E.P Q' a w := wp_mono h hq

theorem exit_normal {g : G} {e : Exit} (h : ExitOK g .normal e) : e = .normal := by cases e <;> first | rfl | exact h.elim

theorem sound_seq {x y : Code} {fx fy : List AVal → ASt → ARes} (hx : Sound E base w0 x fx) (hy : Sound E base w0 y fy) : Sound E base w0 (.seq x y) (fun ts st => aseq (fx ts st) fy) := by
  intro ts st r hr g0 g a w h0 hinv hg ha
  cases hfx : fx ts st with
  | none => simp [hfx, aseq] at hr
  | some q =>
    obtain ⟨e, ts', st'⟩ := q
    have h1 := hx ts st _ hfx g g a w (G.le.refl g) hinv hg ha
    refine wp_seq (wp_weak h1 fun e' a' w' hp => ?_)
    obtain ⟨g', p1, p2, p3, p4⟩ := hp
    simp only [hfx] at hr
    cases e with
    | normal =>
      obtain rfl := exit_normal p4
      exact hy ts' st' r hr g0 g' a' w' (h0.trans p1) p2 (hg.mono p1) p3
    | _ =>
      simp only [aseq, Option.some.injEq] at hr
      subst hr
      cases e' <;> first
        | exact p4.elim
        | exact ⟨g', h0.trans p1, p2, p3, p4⟩

theorem sound_loop {c : Code} {f : List AVal → ASt → ARes} (hc : Sound E base w0 c f) (n : Nat) : Sound E base w0 (.loop c) (aloop f n) := by
  intro ts st r hr g0 g a w h0 hinv hg ha
  refine wp_loop_rounds n ?_
  induction n generalizing ts st g a w with
  | zero => cases hr
  | succ n ih =>
    rw [rounds_succ]
    unfold aloop at hr
    cases hf : f ts st with
    | none => simp [hf, aseq] at hr
    | some q =>
      obtain ⟨e, ts', st'⟩ := q
      refine wp_weak (hc ts st _ hf g g a w (G.le.refl g) hinv hg ha) fun e' a' w' hp => ?_
      obtain ⟨g', p1, p2, p3, p4⟩ := hp
      simp only [hf] at hr
      cases e with
      | normal =>
        obtain rfl := exit_normal p4
        exact ih ts' st' hr g' a' w' (h0.trans p1) p2 (hg.mono p1) p3
      | _ =>
        simp only [aseq, Option.some.injEq] at hr
        subst hr
        cases e' <;> first
          | exact p4.elim
          | exact ⟨g', h0.trans p1, p2, p3, p4⟩

theorem sound_block {id : Nat} {c : Code} {f : List AVal → ASt → ARes} (hc : Sound E base w0 c f) : Sound E base w0 (.block id c) (fun ts st => ablock id (f ts st)) := by
  intro ts st r hr g0 g a w h0 hinv hg ha
  cases hf : f ts st with
  | none => simp [hf, ablock] at hr
  | some q =>
    obtain ⟨e, ts', st'⟩ := q
    refine wp_block (wp_weak (hc ts st _ hf g g a w (G.le.refl g) hinv hg ha) fun e' a' w' hp => ?_)
    obtain ⟨g', p1, p2, p3, p4⟩ := hp
    simp only [hf] at hr
    cases e with
    | exit k =>
      cases e' <;> first
        | exact p4.elim
        | skip
      rename_i k'
      have hk : k' = k := p4
      subst hk
      simp only [ablock] at hr
      simp only [Exit.inBlock]
      split at hr
      · rename_i hid
        rw [if_pos hid]
        cases hr
        exact ⟨g', h0.trans p1, p2, p3, trivial⟩
      · rename_i hid
        rw [if_neg hid]
        cases hr
        exact ⟨g', h0.trans p1, p2, p3, rfl⟩
    | _ =>
      simp only [ablock, Option.some.injEq] at hr
      subst hr
      cases e' <;> first
        | exact p4.elim
        | exact ⟨g', h0.trans p1, p2, p3, p4⟩

/-- a jump within a scope: from the label on -/
theorem sound_scope {c : Code} {f : List AVal → ASt → ARes} {frm : Nat → List AVal → ASt → ARes} (hc : Sound E base w0 c f) (hfrm : ∀ l rest, findLabel c l = some rest → Sound E base w0 rest (frm l)) (n : Nat) :
    Sound E base w0 (.scope c) (fun ts st => ascope frm c n (f ts st)) := by
  have key : ∀ (n : Nat) (x : Code) (fx : List AVal → ASt → ARes), Sound E base w0 x fx → ∀ (ts : List AVal) (st : ASt) (r : AExit × List AVal × ASt), ascope frm c n (fx ts st) = some r →
      ∀ (g0 g : G) (a : Act) (w : World), g0.le g → SInv base w0 g st w → GlobOK E g → ActOK g ts a →
      ∀ (b : Frame) (k : List Item) (cs : List Frame), ∃ e a' w', Post base w0 g0 r e a' w' ∧ Arrives E.P (lone (b.at a (.code x :: .inScope c :: k)) cs w) b k cs e a' w' := by
    intro n
    induction n with
    | zero => intro x fx hx ts st r hr; cases hfx : fx ts st <;> simp [hfx, ascope] at hr
    | succ n ih =>
      intro x fx hx ts st r hr g0 g a w h0 hinv hg ha b k cs
      cases hfx : fx ts st with
      | none => simp [hfx, ascope] at hr
      | some q =>
        obtain ⟨e, ts', st'⟩ := q
        obtain ⟨e', a', w', hp, harr⟩ := hx ts st _ hfx g g a w (G.le.refl g) hinv hg ha b (.inScope c :: k) cs
        obtain ⟨g', p1, p2, p3, p4⟩ := hp
        rw [hfx] at hr
        cases e with
        | goto l =>
          cases e' <;> first
            | exact p4.elim
            | skip
          rename_i l'
          have hl : l' = l := p4
          subst hl
          simp only [ascope] at hr
          cases hfl : findLabel c l' with
          | some rest =>
            rw [hfl] at hr
            obtain ⟨e2, a2, w2, hp2, harr2⟩ := ih rest (frm l') (hfrm l' rest hfl) ts' st' r hr g0 g' a' w' (h0.trans p1) p2 (hg.mono p1) p3 b k cs
            exact ⟨e2, a2, w2, hp2, .of_steps (harr _ (by simp [gotoIn, hfl])) harr2⟩
          | none =>
            rw [hfl] at hr
            cases hr
            exact ⟨.goto l', a', w', ⟨g', h0.trans p1, p2, p3, rfl⟩, fun k' hk => harr k' (by simp [gotoIn, hfl, hk])⟩
        | normal =>
          obtain rfl := exit_normal p4
          simp only [ascope, Option.some.injEq] at hr
          subst hr
          exact ⟨.normal, a', w', ⟨g', h0.trans p1, p2, p3, trivial⟩, Steps.trans harr (.one step_inScope)⟩
        | exit id =>
          simp only [ascope, Option.some.injEq] at hr
          subst hr
          cases e' <;> first
            | exact p4.elim
            | exact ⟨_, a', w', ⟨g', h0.trans p1, p2, p3, p4⟩, fun k' hk => harr k' (by simp [exitTo, hk])⟩
        | ret =>
          simp only [ascope, Option.some.injEq] at hr
          subst hr
          cases e' <;> first
            | exact p4.elim
            | exact ⟨_, a', w', ⟨g', h0.trans p1, p2, p3, p4⟩, harr⟩
        | panic v =>
          simp only [ascope, Option.some.injEq] at hr
          subst hr
          cases e' <;> first
            | exact p4.elim
            | exact ⟨_, a', w', ⟨g', h0.trans p1, p2, p3, p4⟩, harr⟩
  intro ts st r hr g0 g a w h0 hinv hg ha b k cs
  obtain ⟨e, a', w', hp, harr⟩ := key n c f hc ts st r hr g0 g a w h0 hinv hg ha b k cs
  exact ⟨e, a', w', hp, .of_steps (.one step_scope) harr⟩

theorem bool_val {g : G} {b : Bool} {u : Value} (h : Rep g (.lit (.bool b)) u) : u = .bool b := h.flat

mutual
theorem aexec_sound {fid : FuncId} {call : ACall} {dr : Array Oper → Bool} (hcall : ∀ f args st r, call f args st = some r → CallOK E base w0 f args st r) (hdr : DrawOK E base w0 fid call dr) (n : Nat) :
    ∀ (c : Code), Sound E base w0 c (aexec E fid call dr n c)
  | .skip => by
    intro ts st r hr g0 g a w h0 hinv hg ha
    rw [aexec] at hr
    cases hr
    exact wp_skip ⟨g, h0, hinv, ha, trivial⟩
  | .region id ops draw => by
    intro ts st r hr g0 g a w h0 hinv hg ha
    rw [aexec] at hr
    split at hr
    · rename_i hd
      obtain ⟨rfl, hd⟩ := hd
      split at hr
      · rename_i p hp
        exact hdr ops id ts st r (.inr ⟨p, hp, hr⟩) g0 g a w h0 hinv hg ha
      · cases hr
    · rename_i hd
      cases draw with
      | true => exact hdr ops id ts st r (.inl ⟨by cases h : dr ops <;> simp_all, hr⟩) g0 g a w h0 hinv hg ha
      | false => exact wp_region_list (aops_sound hcall _ ts st r hr g0 g a w h0 hinv hg ha)
  | .seq x y => by
    have hx := aexec_sound hcall hdr n x
    have hy := aexec_sound hcall hdr n y
    have := sound_seq hx hy
    intro ts st r hr
    rw [aexec] at hr
    exact this ts st r hr
  | .cond c x y => by
    have hx := aexec_sound hcall hdr n x
    have hy := aexec_sound hcall hdr n y
    intro ts st r hr g0 g a w h0 hinv hg ha
    rw [aexec] at hr
    split at hr
    · rename_i hc
      exact wp_cond (t := true) (aeval_sound ha hg c _ hc).flat (hx ts st r hr g0 g a w h0 hinv hg ha)
    · rename_i hc
      exact wp_cond (t := false) (aeval_sound ha hg c _ hc).flat (hy ts st r hr g0 g a w h0 hinv hg ha)
    · cases hr
  | .block id c => by
    have hc := aexec_sound hcall hdr n c
    intro ts st r hr
    rw [aexec] at hr
    exact sound_block hc ts st r hr
  | .loop c => by
    have hc := aexec_sound hcall hdr n c
    intro ts st r hr
    rw [aexec] at hr
    exact sound_loop hc n ts st r hr
  | .scope c => by
    have hc := aexec_sound hcall hdr n c
    have hf := fun l => afrom_sound hcall hdr n l c
    intro ts st r hr
    rw [aexec] at hr
    exact sound_scope hc hf n ts st r hr
  | .exit id => by
    intro ts st r hr g0 g a w h0 hinv hg ha
    rw [aexec] at hr
    cases hr
    exact wp_exit ⟨g, h0, hinv, ha, rfl⟩
  | .label l => by
    intro ts st r hr g0 g a w h0 hinv hg ha
    rw [aexec] at hr
    cases hr
    exact wp_label ⟨g, h0, hinv, ha, trivial⟩
  | .goto l => by
    intro ts st r hr g0 g a w h0 hinv hg ha
    rw [aexec] at hr
    cases hr
    exact wp_goto ⟨g, h0, hinv, ha, rfl⟩
  | .ret => by
    intro ts st r hr g0 g a w h0 hinv hg ha
    rw [aexec] at hr
    cases hr
    exact wp_ret ⟨g, h0, hinv, ha, trivial⟩
  | .rangeFunc .. => by intro ts st r hr; simp [aexec] at hr
  | .refuse _ => by intro ts st r hr; simp [aexec] at hr
theorem afrom_sound {fid : FuncId} {call : ACall} {dr : Array Oper → Bool} (hcall : ∀ f args st r, call f args st = some r → CallOK E base w0 f args st r) (hdr : DrawOK E base w0 fid call dr) (n : Nat) (l : Nat) :
    ∀ (c : Code) (rest : Code), findLabel c l = some rest → Sound E base w0 rest (afrom E fid call dr n l c)
  | .seq x y, rest, hfl => by
    have hx := afrom_sound hcall hdr n l x
    have hy := afrom_sound hcall hdr n l y
    have hy2 := aexec_sound hcall hdr n y
    intro ts st r hr
    rw [afrom] at hr
    unfold findLabel at hfl
    cases hf : findLabel x l with
    | some rx =>
      rw [hf] at hfl hr
      cases hfl
      exact sound_seq (hx rx hf) hy2 ts st r hr
    | none =>
      rw [hf] at hfl hr
      exact hy rest hfl ts st r hr
  | .label l', rest, hfl => by
    intro ts st r hr g0 g a w h0 hinv hg ha
    rw [afrom] at hr
    unfold findLabel at hfl
    split at hr
    · rename_i hl
      rw [if_pos (by simpa using hl)] at hfl
      cases hfl
      cases hr
      exact wp_skip ⟨g, h0, hinv, ha, trivial⟩
    · cases hr
  | .skip, _, hfl | .region .., _, hfl | .cond .., _, hfl | .block .., _, hfl | .loop .., _, hfl | .scope .., _, hfl | .exit _, _, hfl | .goto _, _, hfl | .ret, _, hfl | .rangeFunc .., _, hfl | .refuse _, _, hfl => by simp [findLabel] at hfl
end

def resM (tmps : Array Value) : ResultVar → Sem Value
  | .tmp t => pure (tmps.getD t undef)
  | .cell a t => do loadVar t (← asAddr (tmps.getD a undef))

theorem results_eq (fn : Func) (tmps : Array Value) : results fn tmps = (do let vs ← fn.results.mapM (resM tmps); pure (if h : vs.size = 1 then vs[0] else .tuple vs)) := by
  unfold results
  congr 2

theorem results_sound {g : G} {fn : Func} {ts : List AVal} {st : ASt} {a : Act} {w : World} {v : AVal} (ha : ActOK g ts a) (hinv : SInv base w0 g st w) (hr : aresults E fn ts st = some v) :
    ∃ u, (results fn a.tmps).run E.P w = .ok u w ∧ Rep g v u := by
  have get : ∀ (t : Nat) (v : AVal), ts[t]? = some v → Rep g v (a.tmps.getD t undef) := by
    intro t v hv
    have hlt := (List.getElem?_eq_some_iff.1 hv).1
    have hl := ha.tmps.1
    have hu : a.tmps.toList[t]? = some (a.tmps.toList[t]'(by omega)) := List.getElem?_eq_getElem _
    have := ha.tmps.2 t v _ hv hu
    rw [Array.getD_eq_getD_getElem?, ← Array.getElem?_toList, hu]
    exact this
  have one : ∀ (r : ResultVar) (v : AVal), aresult E ts st r = some v → ∃ u, (resM a.tmps r).run E.P w = .ok u w ∧ Rep g v u := by
    intro r v hv
    cases r with
    | tmp t => exact ⟨_, rfl, get t v hv⟩
    | cell c t =>
      simp only [aresult] at hv
      split at hv
      · rename_i p hp
        have hrep := get c p hp
        obtain ⟨u, h1, h2⟩ := load_sound (P := E.P) hinv hrep hv
        refine ⟨u, ?_, h2⟩
        show ((do loadVar t (← asAddr (a.tmps.getD c undef)) : Sem Value)).run E.P w = .ok u w
        generalize a.tmps.getD c undef = q at *
        cases q with
        | pointer x =>
          cases x with
          | none => simp [Instr.loadAt, Instr.sureAddr, stuck, Sem.run] at h1
          | some x => simpa [asAddr, Instr.loadAt, Instr.sureAddr] using h1
        | _ => simp [Instr.loadAt, Instr.sureAddr, stuck, Sem.run] at h1
      · cases hv
  have many : ∀ (l : List ResultVar) (vs : List AVal), aresults1 E ts st l = some vs → ∃ us : List Value, (l.mapM (resM a.tmps)).run E.P w = .ok us w ∧ Reps g vs us := by
    intro l
    induction l with
    | nil => intro vs hv; cases hv; exact ⟨[], rfl, rfl, fun j c u x y => by simp at x⟩
    | cons r l ih =>
      intro vs hv
      unfold aresults1 at hv
      split at hv
      · rename_i v vs' h1 h2
        cases hv
        obtain ⟨u, e1, e2⟩ := one r v h1
        obtain ⟨us, f1, f2⟩ := ih vs' h2
        refine ⟨u :: us, ?_, by simp [f2.1], fun j c x p q => ?_⟩
        · rw [List.mapM_cons]
          simp only [Sem.run_bind, e1, Result.andThen_ok, f1]
          rfl
        · cases j with
          | zero => cases p; cases q; exact e2
          | succ j => exact f2.2 j c x (by simpa using p) (by simpa using q)
      · cases hv
  unfold aresults at hr
  have fin : ∀ vs us, Reps g vs us → (match vs with
      | [v] => some v
      | vs => some (AVal.tuple vs)) = some v → Rep g v (if h : us.toArray.size = 1 then us.toArray[0] else .tuple us.toArray) := by
    intro vs us hrs hv
    split at hv
    · rename_i v'
      cases hv
      have hl := hrs.1
      match us, hl, hrs with
      | [u], _, hrs => exact hrs.2 0 _ u rfl rfl
    · rename_i hne
      cases hv
      have hl := hrs.1
      rw [dif_neg (by
        intro h1
        simp at h1
        match vs, hl, hne with
        | [v], _, hne => exact hne v rfl
        | [], hl, _ => simp at hl; subst hl; simp at h1
        | _ :: _ :: _, hl, _ => simp at hl; omega)]
      exact .tuple (by simpa using hl) (fun j c u x y => hrs.2 j c u x (by simpa using y))
  cases hvs : aresults1 E ts st fn.results.toList with
  | none => rw [hvs] at hr; cases hr
  | some vs =>
    rw [hvs] at hr
    obtain ⟨us, e1, e2⟩ := many _ _ hvs
    refine ⟨_, ?_, fin vs us e2 (by revert hr; cases vs with
      | nil => exact id
      | cons x vs => cases vs <;> exact id)⟩
    rw [results_eq, Array.mapM_eq_mapM_toList]
    simp only [Sem.run_bind]
    have : (List.toArray <$> List.mapM (resM a.tmps) fn.results.toList).run E.P w = .ok us.toArray w := by
      rw [← bind_pure_comp]
      simp only [Sem.run_bind, e1, Result.andThen_ok]
      rfl
    rw [this]
    rfl

theorem reps_undefs {g : G} (n : Nat) : Reps g (List.replicate n .undef) (List.replicate n undef) := by
  refine ⟨by simp, fun j c u a b => ?_⟩
  rw [List.getElem?_replicate] at a b
  split at a
  · rename_i hlt
    rw [if_pos hlt] at b
    cases a
    cases b
    exact undef_rep
  · cases a

theorem acall_sound {dr : FuncId → Array Oper → Bool} (hdr : ∀ n fid, (∀ f args st r, acall E dr n f args st = some r → CallOK E base w0 f args st r) → DrawOK E base w0 fid (acall E dr n) (dr fid)) :
    ∀ (n : Nat) (f : FuncId) (args : List AVal) (st : ASt) (r : AEnd × ASt), acall E dr n f args st = some r → CallOK E base w0 f args st r
  | 0, f, args, st, r, h => by cases h
  | n + 1, f, args, st, r, h => by
    have ih := acall_sound hdr n
    intro g w us hinv hg hr
    unfold acall at h
    split at h
    · rename_i fn hfn
      split at h
      · rename_i c hc
        refine calls_of_wp hfn hc ?_
        have hact : ActOK g (args ++ List.replicate (fn.ntmps - args.length) .undef) { tmps := us ++ Array.replicate (fn.ntmps - us.size) undef, defers := [] } := by
          refine ⟨?_, rfl⟩
          simp only [Array.toList_append]
          refine hr.append ?_
          have : us.size = args.length := by have := hr.1; simpa using this
          rw [this]
          simpa using reps_undefs (g := g) (fn.ntmps - args.length)
        cases hx : aexec E f (acall E dr n) (dr f) n c (args ++ List.replicate (fn.ntmps - args.length) .undef) st with
        | none => rw [hx] at h; cases h
        | some q =>
          obtain ⟨e, ts', st'⟩ := q
          rw [hx] at h
          refine wp_weak (aexec_sound ih (hdr n f ih) n c _ st _ hx g g _ w (G.le.refl g) hinv hg hact) fun e' a' w' hp => ?_
          obtain ⟨g', p1, p2, p3, p4⟩ := hp
          have hret : ∀ (h' : (aresults E fn ts' st').map (fun v => (AEnd.returned v, st')) = some r), a'.defers = [] ∧ ∃ v, (results fn a'.tmps).run E.P w' = .ok v w' ∧ ∃ g', g.le g' ∧ SInv base w0 g' r.2 w' ∧ EndOK g' r.1 (.returned v) := by
            intro h'
            cases hres : aresults E fn ts' st' with
            | none => rw [hres] at h'; cases h'
            | some v =>
              rw [hres] at h'
              cases h'
              obtain ⟨u, r1, r2⟩ := results_sound p3 p2 hres
              exact ⟨p3.defers, u, r1, g', p1, p2, r2⟩
          cases e with
          | normal =>
            obtain rfl := exit_normal p4
            exact hret h
          | ret =>
            cases e' <;> first
              | exact p4.elim
              | exact hret h
          | panic v =>
            cases h
            cases e' <;> first
              | exact p4.elim
              | exact ⟨p3.defers, g', p1, p2, p4⟩
          | exit k => cases h
          | goto l => cases h
      · cases h
    · cases h

end
end Go.Proofs.YtjpehemkgikkdaaA
