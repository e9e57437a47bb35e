/- Regions whose order is open: one order tells of all. No condition. -/
import Derived.Test.YtjpehemkgikkdaaA15
namespace Go.Proofs.YtjpehemkgikkdaaA
open Go Go.RowKit
set_option linter.unusedVariables false
set_option linter.unusedSimpArgs false

/-- may the order of the text stand for all orders? -/
def drawFrom (E : Env) (fid : FuncId) (ops : Array Oper) : Nat → Nat → Array Bool → Bool
  | 0, _, listed => (Region.ready .any ops listed).isEmpty
  | fuel + 1, k, listed => (Region.ready .any ops listed).contains k &&
      (match ops[k]? with
      | some o => if quietOp E.P (ahint E fid o) o.op = true then
          Region.free .any ops listed k && (List.range ops.size).all fun j => j == k || waits ops ops.size j k || listed.getD j true || (match ops[j]? with
            | some oj => quietOp E.P (ahint E fid oj) oj.op
            | none => true)
        else (List.range ops.size).all fun j => j == k || waits ops ops.size j k || listed.getD j true
      | none => false) && drawFrom E fid ops fuel (k + 1) (listed.setIfInBounds k true)

def drawB (E : Env) (fid : FuncId) (ops : Array Oper) : Bool := Region.noSelect ops && drawFrom E fid ops ops.size 0 (Array.replicate ops.size false)

section
variable {E : Env} {fid : FuncId} {call : ACall} {ops : Array Oper}

/-- what waits for what was not listed is not ready -/
def Down (ops : Array Oper) (listed : Array Bool) : Prop := ∀ j o, ops[j]? = some o → listed.getD j false = true → ∀ e ∈ o.after, Region.binds .any e = true → listed.getD e.on false = true

theorem waits_listed {listed : Array Bool} (hd : Down ops listed) : ∀ (n j i : Nat) (o : Oper), ops[j]? = some o → (∀ e ∈ o.after, Region.binds .any e = true → listed.getD e.on false = true) → waits ops n j i = true → listed.getD i false = true
  | 0, j, i, o, ho, h, hw => by cases hw
  | n + 1, j, i, o, ho, h, hw => by
    unfold waits at hw
    rw [ho] at hw
    simp only [Array.any_eq_true'] at hw
    obtain ⟨e, he, hb⟩ := hw
    simp only [Bool.and_eq_true, Bool.or_eq_true, beq_iff_eq] at hb
    obtain ⟨hb1, hb2⟩ := hb
    have h1 := h e he hb1
    rcases hb2 with rfl | hb2
    · exact h1
    · cases hoe : ops[e.on]? with
      | none =>
        cases n with
        | zero => cases hb2
        | succ n => unfold waits at hb2; rw [hoe] at hb2; cases hb2
      | some oe => exact waits_listed hd n e.on i oe hoe (hd e.on oe hoe h1) hb2

theorem down_put {listed : Array Bool} (hd : Down ops listed) {j : Nat} (hj : j ∈ Region.ready .any ops listed) : Down ops (listed.setIfInBounds j true) := by
  obtain ⟨hun, oj, hoj, hall⟩ := mem_ready.1 hj
  intro i o ho hl e he hb
  by_cases hij : i = j
  · subst hij
    rw [hoj] at ho
    cases ho
    exact getD_set_true (hall e he hb)
  · rw [getD_set_ne false (fun h => hij h.symm)] at hl
    exact getD_set_true (hd i o ho hl e he hb)

/-- one operation comes up -/
def dOp (E : Env) (fid : FuncId) (call : ACall) (ops : Array Oper) (r : AExit × List AVal × ASt) (i : Nat) (K : List AVal → ASt → Prop) (ts : List AVal) (st : ASt) : Prop :=
  match ops[i]? with
  | none => K ts st
  | some o => match aop E fid call ops o ts st with
    | some (none, ts', st') => K ts' st'
    | some (some v, ts', st') => r = (.panic v, ts', st')
    | none => False

/-- whatever order is picked from here on -/
def dAny (E : Env) (fid : FuncId) (call : ACall) (ops : Array Oper) (r : AExit × List AVal × ASt) : Nat → Array Bool → List AVal → ASt → Prop
  | 0, listed, ts, st => Region.ready .any ops listed = [] ∧ r = (.normal, ts, st)
  | fuel + 1, listed, ts, st => (Region.ready .any ops listed = [] → r = (.normal, ts, st)) ∧
      ∀ i ∈ Region.ready .any ops listed, dOp E fid call ops r i (dAny E fid call ops r fuel (listed.setIfInBounds i true)) ts st

theorem wpAny_of_d {base : Nat} {w0 : World} (hcall : ∀ f args st r, call f args st = some r → CallOK E base w0 f args st r) {r : AExit × List AVal × ASt} : ∀ (fuel : Nat) (listed : Array Bool) (ts : List AVal) (st : ASt),
    dAny E fid call ops r fuel listed ts st → ∀ (g0 g : G) (a : Act) (w : World), g0.le g → SInv base w0 g st w → GlobOK E g → ActOK g ts a → wpAny E.P .any ops (Post base w0 g0 r) fuel listed a w
  | 0, listed, ts, st, h, g0, g, a, w, h0, hinv, hg, ha => by
    obtain ⟨h1, rfl⟩ := h
    exact ⟨h1, g, h0, hinv, ha, trivial⟩
  | fuel + 1, listed, ts, st, h, g0, g, a, w, h0, hinv, hg, ha => by
    refine ⟨fun hr => by have := h.1 hr; subst this; exact ⟨g, h0, hinv, ha, trivial⟩, fun i hi => ?_⟩
    have hd := h.2 i hi
    unfold dOp at hd
    unfold wpOp
    split
    · rename_i ho
      rw [ho] at hd
      exact wpAny_of_d hcall fuel _ ts st hd g0 g a w h0 hinv hg ha
    · rename_i o ho
      rw [ho] at hd
      simp only at hd
      split at hd
      · rename_i ts' st' hop
        exact aop_sound hcall hop hinv hg ha (fun _ g' a' w' h1 h2 h3 => wpAny_of_d hcall fuel _ _ _ hd g0 g' a' w' (h0.trans h1) h2 (hg.mono h1) h3) (fun v hv => by cases hv)
      · rename_i v ts' st' hop
        subst hd
        exact aop_sound hcall hop hinv hg ha (fun h => by cases h) (fun v' hv g' a' w' chain h1 h2 h3 h4 => by cases hv; exact ⟨g', h0.trans h1, h2, h3, h4⟩)
      · exact hd.elim

/-! ### quiet operations -/
theorem evals_congr {ρ ρ' : Operand → Option AVal} : ∀ (l : List Operand), (∀ x ∈ l, ρ x = ρ' x) → evals ρ l = evals ρ' l
  | [], _ => rfl
  | x :: r, h => by unfold evals; rw [h x (by simp), evals_congr r (fun y hy => h y (by simp [hy]))]

theorem evalPs_congr {ρ ρ' : Operand → Option AVal} : ∀ (l : List (Nat × Operand)), (∀ p ∈ l, ρ p.2 = ρ' p.2) → evalPs ρ l = evalPs ρ' l
  | [], _ => rfl
  | (i, x) :: r, h => by unfold evalPs; rw [h (i, x) (by simp), evalPs_congr r (fun y hy => h y (by simp [hy]))]

theorem evalO_congr {ρ ρ' : Operand → Option AVal} (x : Option Operand) (h : ∀ y, x = some y → ρ y = ρ' y) : evalO ρ x = evalO ρ' x := by
  cases x with
  | none => rfl
  | some x => simp only [evalO]; rw [h x rfl]

theorem callA_congr {P : Program} {mt : Bool} {ρ ρ' : Operand → Option AVal} {c : Call} {ty : TypeId} {st : ASt} (h : ∀ x ∈ c.operands, ρ x = ρ' x) : callA P mt ρ c ty st = callA P mt ρ' c ty st := by
  obtain ⟨callee, args, tys⟩ := c
  have hargs : evals ρ args.toList = evals ρ' args.toList := evals_congr _ (fun x hx => h x (by simp [Call.operands]; exact .inr (by simpa using hx)))
  unfold callA
  simp only [hargs]
  cases callee with
  | value f =>
    have hf := h f (by simp [Call.operands])
    simp only [hf]
  | _ => rfl

theorem aexecOp_congr {P : Program} {mt : Bool} {ρ ρ' : Operand → Option AVal} {o : Oper} {st : ASt} (h : ∀ x ∈ o.op.operands, ρ x = ρ' x) : aexecOp P mt ρ o st = aexecOp P mt ρ' o st := by
  obtain ⟨dst, op, ty, pos, after, guard⟩ := o
  cases op with
  | build t ps =>
    have : evalPs ρ ps.toList = evalPs ρ' ps.toList := evalPs_congr _ (fun p hp => h p.2 (by simp only [Op.operands, List.mem_toArray, List.mem_map]; exact ⟨p, hp, rfl⟩))
    simp only [aexecOp, this]
  | buildSlice t n ps =>
    have : evalPs ρ ps.toList = evalPs ρ' ps.toList := evalPs_congr _ (fun p hp => h p.2 (by simp only [Op.operands, List.mem_toArray, List.mem_map]; exact ⟨p, hp, rfl⟩))
    simp only [aexecOp, this]
  | call c => exact callA_congr h
  | makeFunc fn a b =>
    have h1 : evals ρ a.toList = evals ρ' a.toList := evals_congr _ (fun x hx => h x (by simp only [Op.operands, Array.mem_append]; exact .inl (by simpa using hx)))
    have h2 : evals ρ b.toList = evals ρ' b.toList := evals_congr _ (fun x hx => h x (by simp only [Op.operands, Array.mem_append]; exact .inr (by simpa using hx)))
    simp only [aexecOp, h1, h2]
  | slice t x lo hi mx =>
    have h0 : ρ x = ρ' x := h x (by simp [Op.operands])
    have h1 : evalO ρ lo = evalO ρ' lo := evalO_congr _ (fun y hy => h y (by subst hy; simp [Op.operands]))
    have h2 : evalO ρ hi = evalO ρ' hi := evalO_congr _ (fun y hy => h y (by subst hy; simp [Op.operands]))
    have h3 : evalO ρ mx = evalO ρ' mx := evalO_congr _ (fun y hy => h y (by subst hy; simp [Op.operands]))
    simp only [aexecOp, h0, h1, h2, h3]
  | pick c a b =>
    have h0 : ρ c = ρ' c := h c (by simp [Op.operands])
    have h1 : ρ a = ρ' a := h a (by simp [Op.operands])
    have h2 : ρ b = ρ' b := h b (by simp [Op.operands])
    simp only [aexecOp, h0, h1, h2]
  | move x | assign x | box _ x | load _ x | nilCheck x | unOp _ _ x | convert _ _ x | makeInterface _ x | fieldAddr _ x _ | field _ x _ | extract x _ | panic x =>
    have h0 : ρ x = ρ' x := h x (by simp [Op.operands])
    simp only [aexecOp, h0]
  | store _ x y | binOp _ _ x y _ | makeSlice _ x y | indexAddr _ x y | index _ x y =>
    have h0 : ρ x = ρ' x := h x (by simp [Op.operands])
    have h1 : ρ y = ρ' y := h y (by simp [Op.operands])
    simp only [aexecOp, h0, h1]
  | _ => rfl

theorem ofP_st {x : Option (AVal × ASt)} {r : ANext} {st : ASt} (h : x.map ANext.ofP = some r) (hx : ∀ v st', x = some (v, st') → st' = st) : ∃ v, r = .val v st := by
  obtain ⟨v, st', h1, rfl⟩ := ofP_inv h
  exact ⟨v, by rw [hx v st' h1]⟩

theorem map_st {α : Type} {x : Option α} {f : α → AVal} {st st' : ASt} {v : AVal} (h : x.map (fun l => (f l, st)) = some (v, st')) : st' = st := by
  cases x with
  | none => cases h
  | some x => cases h; rfl

/-- a quiet operation leaves the state as it was -/
theorem quiet_st {P : Program} {mt : Bool} {ρ : Operand → Option AVal} {o : Oper} {st : ASt} {r : ANext} (hq : quietOp P mt o.op = true) (hr : aexecOp P mt ρ o st = some r) : ∃ v, r = .val v st := by
  have vi : ∀ {x : Option AVal}, x.map (ANext.val · st) = some r → ∃ v, r = .val v st := fun h => let ⟨v, _, e⟩ := val_inv h; ⟨v, e⟩
  obtain ⟨dst, op, ty, pos, after, guard⟩ := o
  cases op with
  | buildSlice t n ps =>
    simp only [aexecOp] at hr
    split at hr
    · refine ofP_st hr fun v st' hb => ?_
      simp only [quietOp, Bool.not_eq_true'] at hq
      subst hq
      unfold buildSliceA at hb
      split at hb <;> first
        | (cases hb; done)
        | skip
      split at hb <;> first
        | (cases hb; done)
        | skip
      split at hb <;> first
        | (cases hb; done)
        | skip
      split at hb <;> first
        | (cases hb; done)
        | skip
      simp only [Bool.false_eq_true, if_false, Option.some.injEq, Prod.mk.injEq] at hb
      exact hb.2.symm
    · cases hr
  | convert src dst' x =>
    simp only [aexecOp] at hr
    split at hr
    · refine ofP_st hr fun v st' hb => ?_
      simp only [quietOp] at hq
      unfold convA at hb
      split at hb
      · split at hb
        · cases hb; rfl
        · split at hb
          · rename_i s e hs hd hv0 hno
            rw [hd] at hq
            cases hq
          · cases hb
      · split at hb
        · split at hb
          · exact map_st hb
          · cases hb
        · split at hb
          · split at hb
            · split at hb
              · exact map_st hb
              · cases hb
            · cases hb
          · cases hb
        · rename_i e e' s off len sz k hs hd hx0 hv0
          rw [hd] at hq
          cases hq
        · cases hb
    · cases hr
  | call c =>
    obtain ⟨callee, args, tys⟩ := c
    cases callee with
    | builtin b =>
      simp only [aexecOp, callA] at hr
      split at hr
      · cases hr
      · unfold builtinA at hr
        split at hr
        · cases hq
        · cases hr
        · split at hr
          · exact vi hr
          · split at hr
            · exact vi hr
            · cases hr
    | _ => cases hq
  | pick c a b =>
    simp only [aexecOp] at hr
    split at hr <;> first
      | exact vi hr
      | cases hr
  | nilCheck x =>
    simp only [aexecOp] at hr
    split at hr
    · split at hr
      · cases hr; exact ⟨_, rfl⟩
      · cases hr
    · cases hr
  | makeInterface t x =>
    simp only [aexecOp] at hr
    split at hr
    · cases hr
    · cases hr; exact ⟨_, rfl⟩
    · cases hr
  | makeFunc fn a b =>
    simp only [aexecOp] at hr
    split at hr
    · cases hr; exact ⟨_, rfl⟩
    · cases hr
  | slice t x lo hi mx =>
    simp only [aexecOp] at hr
    split at hr
    · split at hr
      · split at hr
        · exact vi hr
        · cases hr
      · exact vi hr
    · cases hr
  | move x | assign x => exact vi hr
  | build t ps | load t a | unOp _ _ x | fieldAddr _ x _ | field _ x _ | extract x _ =>
    simp only [aexecOp] at hr
    split at hr <;> first
      | exact vi hr
      | cases hr
  | binOp _ _ x y _ | indexAddr _ x y | index _ x y =>
    simp only [aexecOp] at hr
    split at hr <;> first
      | exact vi hr
      | cases hr
  | _ => cases hq

theorem aeval_put {ts : List AVal} {dst : Option Tmp} {v : AVal} {x : Operand} (h : ∀ d, dst = some d → x ≠ .tmp d) : aeval E (aput ts dst v) x = aeval E ts x := by
  cases dst with
  | none => rfl
  | some d =>
    cases x with
    | tmp t =>
      have : d ≠ t := fun e => h d rfl (by rw [e])
      simp only [aput, aeval]
      rw [List.getElem?_set_ne this]
    | _ => rfl

theorem aput_comm (ts : List AVal) {x y : Option Tmp} (v u : AVal) (h : ∀ d, x = some d → y ≠ some d) : aput (aput ts x v) y u = aput (aput ts y u) x v := by
  cases x with
  | none => rfl
  | some d =>
    cases y with
    | none => rfl
    | some e =>
      have : d ≠ e := fun he => h d rfl (by rw [he])
      simp only [aput]
      exact List.set_comm _ _ this

theorem aexecOp_put {mt : Bool} (o : Oper) (ts : List AVal) (dst : Option Tmp) (v : AVal) (st : ASt) (h : ∀ d, dst = some d → d ∉ o.looksAt ops) : aexecOp E.P mt (aeval E (aput ts dst v)) o st = aexecOp E.P mt (aeval E ts) o st := by
  refine aexecOp_congr fun x hx => aeval_put fun d hd hxd => ?_
  refine h d hd ?_
  subst hxd
  simp only [Oper.looksAt, List.mem_append, List.mem_filterMap]
  exact .inl ⟨.tmp d, by simpa using hx, rfl⟩

theorem awanted_put (o : Oper) (ts : List AVal) (dst : Option Tmp) (v : AVal) (h : ∀ d, dst = some d → d ∉ o.looksAt ops) : Region.wanted o (ayielded ops (aput ts dst v)) = Region.wanted o (ayielded ops ts) := by
  cases dst with
  | none => rfl
  | some d =>
    unfold Region.wanted
    split
    · rfl
    · rename_i j want hg
      have hne : (ops[j]?).bind (·.dst) ≠ some d := by
        intro hj
        refine h d rfl ?_
        simp only [Oper.looksAt, List.mem_append]
        refine .inr ?_
        rw [hg]
        simp only
        rw [hj]
        simp
      have : ayielded ops (aput ts (some d) v) j = ayielded ops ts j := by
        unfold ayielded
        cases hj : (ops[j]?).bind (·.dst) with
        | none => rfl
        | some e =>
          have hde : d ≠ e := fun he => hne (by rw [hj, he])
          simp only [Option.bind_some, aput]
          rw [List.getElem?_set_ne hde]
      rw [this]

/-- A quiet operation yields this value in this state. -/
def AYields (E : Env) (fid : FuncId) (ops : Array Oper) (o : Oper) (v : AVal) (ts : List AVal) (st : ASt) : Prop :=
  (Region.wanted o (ayielded ops ts) = true ∧ aexecOp E.P (ahint E fid o) (aeval E ts) o st = some (.val v st)) ∨ (Region.wanted o (ayielded ops ts) = false ∧ v = .undef)

theorem AYields.aop {o : Oper} {v : AVal} {ts : List AVal} {st : ASt} (h : AYields E fid ops o v ts st) : aop E fid call ops o ts st = some (none, aput ts o.dst v, st) := by
  unfold Go.Proofs.YtjpehemkgikkdaaA.aop
  rcases h with ⟨h1, h2⟩ | ⟨h1, rfl⟩
  · rw [if_pos h1, h2]
  · rw [if_neg (by rw [h1]; exact Bool.false_ne_true)]

theorem AYields.put {o : Oper} {v : AVal} {ts : List AVal} {st : ASt} (h : AYields E fid ops o v ts st) {dst : Option Tmp} {u : AVal} (hl : ∀ d, dst = some d → d ∉ o.looksAt ops) : AYields E fid ops o v (aput ts dst u) st := by
  unfold AYields
  rw [awanted_put o ts dst u hl, aexecOp_put (ops := ops) o ts dst u st hl]
  exact h

theorem AYields.of_put {o : Oper} {v : AVal} {ts : List AVal} {st : ASt} {dst : Option Tmp} {u : AVal} (h : AYields E fid ops o v (aput ts dst u) st) (hl : ∀ d, dst = some d → d ∉ o.looksAt ops) : AYields E fid ops o v ts st := by
  unfold AYields at h
  rw [awanted_put o ts dst u hl, aexecOp_put (ops := ops) o ts dst u st hl] at h
  exact h

theorem quiet_yields {o : Oper} (hq : quietOp E.P (ahint E fid o) o.op = true) {ts ts' : List AVal} {st st' : ASt} {r : Option AVal} (h : Go.Proofs.YtjpehemkgikkdaaA.aop E fid call ops o ts st = some (r, ts', st')) :
    ∃ v, AYields E fid ops o v ts st ∧ r = none ∧ ts' = aput ts o.dst v ∧ st' = st := by
  unfold Go.Proofs.YtjpehemkgikkdaaA.aop at h
  split at h
  · rename_i hw
    cases hx : aexecOp E.P (ahint E fid o) (aeval E ts) o st with
    | none => rw [hx] at h; cases h
    | some n =>
      obtain ⟨v, rfl⟩ := quiet_st hq hx
      rw [hx] at h
      cases h
      exact ⟨v, .inl ⟨hw, hx⟩, rfl, rfl, rfl⟩
  · rename_i hw
    cases h
    exact ⟨.undef, .inr ⟨by simpa using hw, rfl⟩, rfl, rfl, rfl⟩

/-- **A quiet operation that may come up now may be taken first**, if every other one that has not come up yet waits for it, or is quiet and apart from it. -/
theorem dAny_first {r : AExit × List AVal × ASt} {k : Nat} {ok : Oper} {v : AVal} (hk : ops[k]? = some ok) :
    ∀ (fuel : Nat) (listed : Array Bool) (ts : List AVal) (st : ASt), Down ops listed →
      (∀ j oj, ops[j]? = some oj → j ≠ k → listed.getD j true = false → (∀ e ∈ oj.after, Region.binds .any e = true → e.on ≠ k) → ok.apart ops oj = true) →
      (∀ j oj, ops[j]? = some oj → j ≠ k → listed.getD j true = false → waits ops ops.size j k = true ∨ quietOp E.P (ahint E fid oj) oj.op = true) →
      k ∈ Region.ready .any ops listed → AYields E fid ops ok v ts st →
      dAny E fid call ops r fuel (listed.setIfInBounds k true) (aput ts ok.dst v) st → dAny E fid call ops r (fuel + 1) listed ts st := by
  have hkop : ∀ {K : List AVal → ASt → Prop} {ts : List AVal} {st : ASt}, AYields E fid ops ok v ts st → K (aput ts ok.dst v) st → dOp E fid call ops r k K ts st := by
    intro K ts st hy h
    unfold dOp
    rw [hk]
    simp only
    rw [hy.aop]
    exact h
  intro fuel
  induction fuel with
  | zero =>
    intro listed ts st hd _ _ hr hy H
    refine ⟨fun h => (by rw [h] at hr; cases hr), fun j hj => ?_⟩
    by_cases hji : j = k
    · subst hji; exact hkop hy H
    · have := ready_mono hj hji
      rw [H.1] at this
      cases this
  | succ fuel ih =>
    intro listed ts st hd hfree hquiet hr hy H
    refine ⟨fun h => (by rw [h] at hr; cases hr), fun j hj => ?_⟩
    by_cases hji : j = k
    · subst hji; exact hkop hy H
    · obtain ⟨hjun, oj, hoj, hall⟩ := mem_ready.1 hj
      have hkun := (mem_ready.1 hr).1
      have hkf : listed.getD k false = false := by
        rcases Nat.lt_or_ge k listed.size with h' | h'
        · simp [h'] at hkun ⊢; exact hkun
        · simp [Array.getElem?_eq_none h']
      have hnot : ∀ e ∈ oj.after, Region.binds .any e = true → e.on ≠ k := fun e he hb heq => by
        have h1 := hall e he hb
        rw [heq, hkf] at h1
        cases h1
      have hap := hfree j oj hoj hji hjun hnot
      obtain ⟨a1, a2, a3⟩ := Oper.apart_spec hap
      have hq : quietOp E.P (ahint E fid oj) oj.op = true := by
        rcases hquiet j oj hoj hji hjun with hw | hq
        · have := waits_listed hd ops.size j k oj hoj hall hw
          rw [hkf] at this
          cases this
        · exact hq
      have h1 := H.2 j (ready_mono hj hji)
      unfold dOp at h1 ⊢
      rw [hoj] at h1 ⊢
      simp only at h1 ⊢
      split at h1
      · rename_i ts' st' hop
        obtain ⟨u, hyu, _, e1, e2⟩ := quiet_yields hq hop
        subst e1
        subst e2
        have hyu' := hyu.of_put a1
        rw [hyu'.aop]
        simp only
        have hd' := down_put hd hj
        refine ih (listed.setIfInBounds j true) _ _ hd' (fun i oi hoi hik hun hno => ?_) (fun i oi hoi hik hun => ?_) (ready_mono hr (Ne.symm hji)) (hy.put a3) ?_
        · refine hfree i oi hoi hik ?_ hno
          by_cases hij : j = i
          · subst hij; exact hjun
          · rw [getD_set_ne true hij] at hun; exact hun
        · refine hquiet i oi hoi hik ?_
          by_cases hij : j = i
          · subst hij; exact hjun
          · rw [getD_set_ne true hij] at hun; exact hun
        · rw [Array.setIfInBounds_comm _ _ hji, aput_comm _ _ _ (fun d hd1 hd2 => a2 d hd2 hd1)]
          exact h1
      · rename_i v' ts' st' hop
        obtain ⟨u, _, e0, _⟩ := quiet_yields hq hop
        cases e0
      · exact h1.elim

theorem dAny_lex {r : AExit × List AVal × ASt} : ∀ (l : List Oper) (k : Nat) (listed : Array Bool) (ts : List AVal) (st : ASt), (∀ j, l[j]? = ops[k + j]?) → Down ops listed →
    drawFrom E fid ops l.length k listed = true → aops E fid call ops l ts st = some r → dAny E fid call ops r l.length listed ts st
  | [], k, listed, ts, st, _, _, hB, h => by
    cases h
    exact ⟨by simpa [drawFrom] using hB, rfl⟩
  | o :: l, k, listed, ts, st, hl, hd, hB, h => by
    have h0 : ops[k]? = some o := by simpa using (hl 0).symm
    simp only [List.length_cons, drawFrom, h0, Bool.and_eq_true] at hB
    obtain ⟨⟨hr, hcond⟩, hB'⟩ := hB
    have hr' : k ∈ Region.ready .any ops listed := by simpa using hr
    have hd' := down_put hd hr'
    have hl' : ∀ j, l[j]? = ops[k + 1 + j]? := fun j => by have := hl (j + 1); simpa [Nat.add_assoc, Nat.add_comm 1 j] using this
    have hsize : ∀ {j : Nat} {oj : Oper}, ops[j]? = some oj → j ∈ List.range ops.size := fun {j oj} hj => by
      have := (Array.getElem?_eq_some_iff.1 hj).1
      simpa using this
    unfold aops at h
    split at hcond
    · rename_i hq
      simp only [Bool.and_eq_true] at hcond
      obtain ⟨hfree, hall⟩ := hcond
      have hall' : ∀ j oj, ops[j]? = some oj → j ≠ k → listed.getD j true = false → waits ops ops.size j k = true ∨ quietOp E.P (ahint E fid oj) oj.op = true := fun j oj hoj hjk hun => by
        have := List.all_eq_true.1 hall j (hsize hoj)
        simp only [hoj, Bool.or_eq_true, beq_iff_eq] at this
        rcases this with ((h1 | h1) | h1) | h1
        · exact absurd h1 hjk
        · exact .inl h1
        · rw [hun] at h1; cases h1
        · exact .inr h1
      cases hop : Go.Proofs.YtjpehemkgikkdaaA.aop E fid call ops o ts st with
      | none => rw [hop] at h; cases h
      | some q =>
        obtain ⟨rv, ts', st'⟩ := q
        obtain ⟨v, hy, rfl, rfl, rfl⟩ := quiet_yields hq hop
        rw [hop] at h
        exact dAny_first h0 l.length listed ts st' hd (fun j oj hoj hjk hun hno => Region.free_spec h0 hfree j oj hoj hjk hun hno) hall' hr' hy (dAny_lex l (k + 1) _ _ _ hl' hd' hB' h)
    · have hall' : ∀ j oj, ops[j]? = some oj → j ∈ Region.ready .any ops listed → j = k := fun j oj hoj hj => by
        obtain ⟨hjun, oj', hoj', hall2⟩ := mem_ready.1 hj
        have := List.all_eq_true.1 hcond j (hsize hoj)
        simp only [Bool.or_eq_true, beq_iff_eq] at this
        rcases this with (h1 | h1) | h1
        · exact h1
        · have h2 := waits_listed hd ops.size j k oj' hoj' hall2 h1
          have hkun := (mem_ready.1 hr').1
          rcases Nat.lt_or_ge k listed.size with h' | h'
          · simp [h'] at hkun h2; rw [hkun] at h2; cases h2
          · simp [Array.getElem?_eq_none h'] at h2
        · rw [hjun] at h1; cases h1
      refine ⟨fun hn => (by rw [hn] at hr'; cases hr'), fun j hj => ?_⟩
      obtain ⟨_, oj, hoj, _⟩ := mem_ready.1 hj
      obtain rfl := hall' j oj hoj hj
      unfold dOp
      rw [h0]
      simp only
      split at h
      · rename_i ts' st' hop
        rw [hop]
        exact dAny_lex l (j + 1) _ _ _ hl' hd' hB' h
      · rename_i v ts' st' hop
        rw [hop]
        cases h
        rfl
      · cases h

/-! ### the order of a plan -/
theorem aop_put {x : Option Tmp} {u : AVal} {o : Oper} (h1 : ∀ d, x = some d → d ∉ o.looksAt ops) (h2 : ∀ d, x = some d → o.dst ≠ some d) (ts : List AVal) (st : ASt) :
    Go.Proofs.YtjpehemkgikkdaaA.aop E fid call ops o (aput ts x u) st = (Go.Proofs.YtjpehemkgikkdaaA.aop E fid call ops o ts st).map fun q => (q.1, aput q.2.1 x u, q.2.2) := by
  have hc : ∀ v, aput (aput ts x u) o.dst v = aput (aput ts o.dst v) x u := fun v => aput_comm ts u v h2
  unfold Go.Proofs.YtjpehemkgikkdaaA.aop
  rw [awanted_put o ts x u h1, aexecOp_put (ops := ops) o ts x u st h1]
  split
  · cases aexecOp E.P (ahint E fid o) (aeval E ts) o st with
    | none => rfl
    | some n =>
      cases n with
      | val v st' => simp only [hc, Option.map_some]
      | panic v st' => rfl
      | enter f args st' =>
        simp only
        cases call f args st' with
        | none => rfl
        | some q =>
          obtain ⟨e, st''⟩ := q
          cases e with
          | returned v => simp only [hc, Option.map_some]
          | panicked v => rfl
  · simp only [hc, Option.map_some]

theorem aput_idem (ts : List AVal) (x : Option Tmp) (v u : AVal) : aput (aput ts x v) x u = aput ts x u := by
  cases x with
  | none => rfl
  | some d => simp [aput]

theorem aput_cancel {ts : List AVal} {x y : Option Tmp} {v u : AVal} (h : aput (aput ts x v) y u = aput ts x v) (hne : ∀ d, x = some d → y ≠ some d) : aput ts y u = ts := by
  cases y with
  | none => rfl
  | some e =>
    cases x with
    | none => exact h
    | some d =>
      have hde : d ≠ e := fun he => hne d rfl (by rw [he])
      simp only [aput] at h ⊢
      refine List.ext_getElem? fun i => ?_
      by_cases hi : e = i
      · subst hi
        have := congrArg (fun l => l[e]?) h
        simp only [List.getElem?_set_ne hde] at this
        rw [← this]
        simp only [List.getElem?_set, List.length_set, if_true]
      · rw [List.getElem?_set_ne hi]

theorem ssa_spec (h : ssaOK ops = true) {i j : Nat} {oi oj : Oper} (hi : ops[i]? = some oi) (hj : ops[j]? = some oj) :
    (i ≠ j → ∀ d, oi.dst = some d → oj.dst ≠ some d) ∧ (waits ops ops.size i j = false → ∀ d, oj.dst = some d → d ∉ oi.looksAt ops) := by
  have li := (Array.getElem?_eq_some_iff.1 hi).1
  have lj := (Array.getElem?_eq_some_iff.1 hj).1
  unfold ssaOK at h
  have h1 := List.all_eq_true.1 h i (by simpa using li)
  have h2 := List.all_eq_true.1 h1 j (by simpa using lj)
  simp only [hi, hj, Bool.and_eq_true, Bool.or_eq_true, beq_iff_eq, bne_iff_ne] at h2
  obtain ⟨h3, h4⟩ := h2
  refine ⟨fun hij d hd hd2 => ?_, fun hw d hd hmem => ?_⟩
  · rcases h3 with (h3 | h3) | h3
    · exact hij h3
    · rw [hd] at h3; cases h3
    · exact h3 (by rw [hd, hd2])
  · rcases h4 with h4 | h4
    · rw [hw] at h4; cases h4
    · rw [hd] at h4
      simp only [Bool.not_eq_true', List.contains_eq_mem, decide_eq_false_iff_not] at h4
      exact h4 hmem

def quietAt (E : Env) (fid : FuncId) (o : Oper) : Bool := quietOp E.P (ahint E fid o) o.op

/-- what was told by quiet operations is so still, until something that waits for them came up -/
def ZInv (E : Env) (fid : FuncId) (ops : Array Oper) (listed : Array Bool) (ts : List AVal) (st : ASt) : Prop :=
  ∀ i oi, ops[i]? = some oi → quietAt E fid oi = true → listed.getD i false = true → (∀ j oj, ops[j]? = some oj → quietAt E fid oj = false → listed.getD j false = true → waits ops ops.size j i = false) →
    ∃ v, aput ts oi.dst v = ts ∧ AYields E fid ops oi v ts st

/-- whatever order is picked from here on, nothing panics -/
def dZ (E : Env) (fid : FuncId) (call : ACall) (ops : Array Oper) (r : AExit × List AVal × ASt) : Nat → Array Bool → List AVal → ASt → Prop
  | 0, listed, ts, st => ZInv E fid ops listed ts st ∧ Region.ready .any ops listed = [] ∧ r = (.normal, ts, st)
  | fuel + 1, listed, ts, st => ZInv E fid ops listed ts st ∧ (Region.ready .any ops listed = [] → r = (.normal, ts, st)) ∧
      ∀ i ∈ Region.ready .any ops listed, ∃ o ts' st', ops[i]? = some o ∧ Go.Proofs.YtjpehemkgikkdaaA.aop E fid call ops o ts st = some (none, ts', st') ∧ dZ E fid call ops r fuel (listed.setIfInBounds i true) ts' st'

theorem dZ_inv {r : AExit × List AVal × ASt} {fuel : Nat} {listed : Array Bool} {ts : List AVal} {st : ASt} (h : dZ E fid call ops r fuel listed ts st) : ZInv E fid ops listed ts st := by
  cases fuel with
  | zero => exact h.1
  | succ n => exact h.1

theorem dAny_of_z {r : AExit × List AVal × ASt} : ∀ (fuel : Nat) (listed : Array Bool) (ts : List AVal) (st : ASt), dZ E fid call ops r fuel listed ts st → dAny E fid call ops r fuel listed ts st
  | 0, listed, ts, st, h => ⟨h.2.1, h.2.2⟩
  | fuel + 1, listed, ts, st, h => by
    refine ⟨h.2.1, fun i hi => ?_⟩
    obtain ⟨o, ts', st', ho, hop, hz⟩ := h.2.2 i hi
    unfold dOp
    rw [ho]
    simp only
    rw [hop]
    exact dAny_of_z fuel _ _ _ hz

theorem waits_not {listed : Array Bool} (hd : Down ops listed) {i k : Nat} {oi : Oper} (hi : ops[i]? = some oi) (hl : ∀ e ∈ oi.after, Region.binds .any e = true → listed.getD e.on false = true) (hk : listed.getD k false = false) : waits ops ops.size i k = false := by
  cases h : waits ops ops.size i k with
  | false => rfl
  | true =>
    have := waits_listed hd ops.size i k oi hi hl h
    rw [hk] at this
    cases this

theorem ready_un {listed : Array Bool} {k : Nat} (h : k ∈ Region.ready .any ops listed) : listed.getD k false = false := by
  have hkun := (mem_ready.1 h).1
  rcases Nat.lt_or_ge k listed.size with h' | h'
  · simp [h'] at hkun ⊢; exact hkun
  · simp [Array.getElem?_eq_none h']

theorem getD_put {listed : Array Bool} {i j : Nat} (h : (listed.setIfInBounds j true).getD i false = true) : i = j ∨ listed.getD i false = true := by
  by_cases hij : j = i
  · exact .inl hij.symm
  · rw [getD_set_ne false hij] at h; exact .inr h

/-- a quiet operation is taken back out of what is so -/
theorem zinv_back (hs : ssaOK ops = true) {listed : Array Bool} {ts : List AVal} {st : ASt} {k : Nat} {ok : Oper} {v : AVal} (hk : ops[k]? = some ok) (hq : quietAt E fid ok = true) (hd : Down ops listed) (hun : listed.getD k false = false)
    (h : ZInv E fid ops (listed.setIfInBounds k true) (aput ts ok.dst v) st) : ZInv E fid ops listed ts st := by
  intro i oi hi hqi hli hno
  have hik : i ≠ k := fun e => by rw [e, hun] at hli; cases hli
  obtain ⟨u, h1, h2⟩ := h i oi hi hqi (getD_set_true hli) (fun j oj hj hqj hlj => by
    rcases getD_put hlj with rfl | hlj
    · rw [hk] at hj; cases hj; rw [hq] at hqj; cases hqj
    · exact hno j oj hj hqj hlj)
  have hw := waits_not hd hi (fun e he hb => hd i oi hi hli e he hb) hun
  exact ⟨u, aput_cancel h1 ((ssa_spec hs hk hi).1 (Ne.symm hik)), h2.of_put ((ssa_spec hs hi hk).2 hw)⟩

/-- **A quiet operation that may come up now may be taken first.** -/
theorem dZ_first (hs : ssaOK ops = true) {r : AExit × List AVal × ASt} {k : Nat} {ok : Oper} (hk : ops[k]? = some ok) (hq : quietAt E fid ok = true) :
    ∀ (fuel : Nat) (listed : Array Bool) (ts : List AVal) (st : ASt) (v : AVal), Down ops listed → k ∈ Region.ready .any ops listed → AYields E fid ops ok v ts st →
      dZ E fid call ops r fuel (listed.setIfInBounds k true) (aput ts ok.dst v) st → dZ E fid call ops r (fuel + 1) listed ts st := by
  intro fuel
  induction fuel with
  | zero =>
    intro listed ts st v hd hr hy H
    have hun := ready_un hr
    refine ⟨zinv_back hs hk hq hd hun (dZ_inv H), fun h => (by rw [h] at hr; cases hr), fun j hj => ?_⟩
    by_cases hji : j = k
    · subst hji; exact ⟨ok, _, _, hk, hy.aop, H⟩
    · have := ready_mono hj hji
      rw [H.2.1] at this
      cases this
  | succ fuel ih =>
    intro listed ts st v hd hr hy H
    have hun := ready_un hr
    refine ⟨zinv_back hs hk hq hd hun (dZ_inv H), fun h => (by rw [h] at hr; cases hr), fun j hj => ?_⟩
    by_cases hji : j = k
    · subst hji; exact ⟨ok, _, _, hk, hy.aop, H⟩
    · obtain ⟨oj, ts1, st1, hoj, hop, hz⟩ := H.2.2 j (ready_mono hj hji)
      obtain ⟨_, oj', hoj', hall⟩ := mem_ready.1 hj
      rw [hoj] at hoj'
      cases hoj'
      obtain ⟨_, ok', hk', hallk⟩ := mem_ready.1 hr
      rw [hk] at hk'
      cases hk'
      have hjun := ready_un hj
      have wjk := waits_not hd hoj hall hun
      have wkj := waits_not hd hk hallk hjun
      have wkk := waits_not hd hk hallk hun
      have s1 := (ssa_spec hs hoj hk).2 wjk
      have s2 := (ssa_spec hs hk hoj).1 (Ne.symm hji)
      rw [aop_put s1 s2] at hop
      cases hx : Go.Proofs.YtjpehemkgikkdaaA.aop E fid call ops oj ts st with
      | none => rw [hx] at hop; cases hop
      | some q =>
        obtain ⟨rv, ts', st'⟩ := q
        rw [hx] at hop
        simp only [Option.map_some, Option.some.injEq, Prod.mk.injEq] at hop
        obtain ⟨e1, e2, e3⟩ := hop
        subst e1; subst e2; subst e3
        have hd' := down_put hd hj
        obtain ⟨v', h1, h2⟩ := dZ_inv hz k ok hk hq (getD_set_true (by
          have hin : k < listed.size := by
            have hkun := (mem_ready.1 hr).1
            rcases Nat.lt_or_ge k listed.size with h' | h'
            · exact h'
            · simp [Array.getElem?_eq_none h'] at hkun
          simp [hin])) (fun i oi hi hqi hli => by
          rcases getD_put hli with rfl | hli
          · exact wjk
          · rcases getD_put hli with rfl | hli
            · exact wkk
            · exact waits_not hd hi (fun e he hb => hd i oi hi hli e he hb) hun)
        rw [aput_idem] at h1
        refine ⟨oj, ts', st', hoj, hx, ih (listed.setIfInBounds j true) ts' st' v' hd' (ready_mono hr (Ne.symm hji)) (h2.of_put ((ssa_spec hs hk hk).2 wkk)) ?_⟩
        rw [Array.setIfInBounds_comm _ _ hji, h1]
        exact hz

theorem stateless_st {P : Program} {mt : Bool} {ρ : Operand → Option AVal} {o : Oper} {st st' : ASt} {v : AVal} (hq : statelessOp o.op = true) (hr : aexecOp P mt ρ o st = some (.val v st)) : aexecOp P mt ρ o st' = some (.val v st') := by
  have vi : ∀ {x : Option AVal}, x.map (ANext.val · st) = some (.val v st) → x.map (ANext.val · st') = some (.val v st') := fun {x} h => by
    cases x with
    | none => cases h
    | some y => simp only [Option.map_some, Option.some.injEq, ANext.val.injEq] at h ⊢; exact ⟨h.1, trivial⟩
  obtain ⟨dst, op, ty, pos, after, guard⟩ := o
  cases op with
  | move x | assign x => exact vi hr
  | pick c a b =>
    simp only [aexecOp] at hr ⊢
    split at hr <;> first
      | exact vi hr
      | cases hr
  | nilCheck x =>
    simp only [aexecOp] at hr ⊢
    split at hr
    · split at hr
      · rename_i h1
        rw [if_pos h1]
        cases hr; rfl
      · cases hr
    · cases hr
  | build t ps | unOp _ _ x | fieldAddr _ x _ | field _ x _ | extract x _ =>
    simp only [aexecOp] at hr ⊢
    split at hr <;> first
      | exact vi hr
      | cases hr
  | binOp _ _ x y _ | indexAddr _ x y =>
    simp only [aexecOp] at hr ⊢
    split at hr <;> first
      | exact vi hr
      | cases hr
  | _ => cases hq

theorem stills_mem {ts : List AVal} {st : ASt} : ∀ {l : List Nat} {k : Nat}, Stills E fid ops ts st l → k ∈ l → Still E fid ops ts st k
  | [], k, h, hk => by cases hk
  | a :: l, k, h, hk => by
    cases hk with
    | head => exact h.1
    | tail _ hk => exact stills_mem h.2 hk

theorem aput_self {ts : List AVal} {d : Nat} {v : AVal} (h : ts[d]? = some v) : ts.set d v = ts := by
  refine List.ext_getElem? fun i => ?_
  by_cases hi : d = i
  · subst hi
    rw [List.getElem?_set]
    have := (List.getElem?_eq_some_iff.1 h).1
    rw [if_pos rfl, if_pos this, h]
  · rw [List.getElem?_set_ne hi]

theorem dZ_plan (hs : ssaOK ops = true) {r : AExit × List AVal × ASt} : ∀ (fuel : Nat) (listed : Array Bool) (done : List Nat) (pl : List (Nat × List Nat)) (ts : List AVal) (st : ASt), listed.size = ops.size → Down ops listed → ZInv E fid ops listed ts st →
    (∀ i oi, ops[i]? = some oi → quietAt E fid oi = true → listed.getD i false = true → i ∈ done) → planGo E fid ops fuel listed done = some pl → aopsP E fid call ops pl ts st = some r → dZ E fid call ops r fuel listed ts st
  | 0, listed, done, pl, ts, st, hsz, hd, hz, hdone, hp, h => by
    unfold planGo at hp
    split at hp
    · rename_i he
      cases hp
      cases h
      exact ⟨hz, by simpa using he, rfl⟩
    · cases hp
  | fuel + 1, listed, done, pl, ts, st, hsz, hd, hz, hdone, hp, h => by
    unfold planGo at hp
    split at hp
    · rename_i i hf
      have hir : i ∈ Region.ready .any ops listed := List.mem_of_find?_eq_some hf
      obtain ⟨_, oi, hoi, hall⟩ := mem_ready.1 hir
      have hq : quietAt E fid oi = true := by
        have := List.find?_some hf
        simpa [hoi, quietAt] using this
      cases hpl : planGo E fid ops fuel (listed.setIfInBounds i true) (done ++ [i]) with
      | none => rw [hpl] at hp; cases hp
      | some pl' =>
        rw [hpl] at hp
        cases hp
        unfold aopsP at h
        rw [hoi] at h
        simp only at h
        split at h
        · rename_i ts' st' hop
          obtain ⟨v, hy, _, e1, e2⟩ := quiet_yields hq hop
          subst e1
          subst e2
          have hiun := ready_un hir
          have wii := waits_not hd hoi hall hiun
          refine dZ_first hs hoi hq fuel listed ts _ v hd hir hy (dZ_plan hs fuel _ _ pl' _ _ (by simpa using hsz) (down_put hd hir) (fun k ok hk hqk hlk hno => ?_) (fun k ok hk hqk hlk => ?_) hpl h)
          · by_cases hki : k = i
            · subst hki
              rw [hoi] at hk
              cases hk
              exact ⟨v, aput_idem _ _ _ _, hy.put ((ssa_spec hs hoi hoi).2 wii)⟩
            · have hlk' : listed.getD k false = true := by
                rcases getD_put hlk with e | e
                · exact absurd e hki
                · exact e
              obtain ⟨u, h1, h2⟩ := hz k ok hk hqk hlk' (fun j oj hj hqj hlj => hno j oj hj hqj (getD_set_true hlj))
              have wki := waits_not hd hk (fun e he hb => hd k ok hk hlk' e he hb) hiun
              refine ⟨u, ?_, h2.put ((ssa_spec hs hk hoi).2 wki)⟩
              rw [aput_comm _ _ _ ((ssa_spec hs hoi hk).1 (Ne.symm hki)), h1]
          · rcases getD_put hlk with rfl | e
            · simp
            · simp [hdone k ok hk hqk e]
        · cases h
    · split at hp
      · rename_i _ hf _ j hj
        have hjr : j ∈ Region.ready .any ops listed := by rw [hj]; simp
        obtain ⟨_, oj, hoj, hall⟩ := mem_ready.1 hjr
        have hq : quietAt E fid oj = false := by
          have := List.find?_eq_none.1 hf j hjr
          simpa [hoj, quietAt] using this
        cases hpl : planGo E fid ops fuel (listed.setIfInBounds j true) done with
        | none => rw [hpl] at hp; cases hp
        | some pl' =>
          rw [hpl] at hp
          cases hp
          unfold aopsP at h
          rw [hoj] at h
          simp only at h
          split at h
          · rename_i ts' st' hop
            have hjun := ready_un hjr
            have hput : ∃ w, ts' = aput ts oj.dst w := by
              unfold Go.Proofs.YtjpehemkgikkdaaA.aop at hop
              split at hop
              · split at hop
                · cases hop; exact ⟨_, rfl⟩
                · split at hop <;> cases hop
                  exact ⟨_, rfl⟩
                · cases hop
                · cases hop
              · cases hop; exact ⟨_, rfl⟩
            obtain ⟨w, rfl⟩ := hput
            have hst : ∃ re, (∀ k ok, ops[k]? = some ok → k ∈ done → waits ops ops.size j k = false → statelessOp ok.op ≠ true → k ∈ re) ∧ Stills E fid ops (aput ts oj.dst w) st' re ∧ aopsP E fid call ops pl' (aput ts oj.dst w) st' = some r := by
              split at h
              · rename_i heq
                refine ⟨[], fun k ok hk hkd hw hsl => ?_, trivial, h⟩
                rw [← heq]
                simp only [List.mem_filter, hk, hw, Bool.not_false, Bool.true_and]
                exact ⟨hkd, by simpa using hsl⟩
              · rename_i heq
                split at h
                · rename_i h1
                  refine ⟨_, fun k ok hk hkd hw hsl => ?_, h1, h⟩
                  rw [← heq]
                  simp only [List.mem_filter, hk, hw, Bool.not_false, Bool.true_and]
                  exact ⟨hkd, by simpa using hsl⟩
                · cases h
            obtain ⟨re, hmem, hre, hgo⟩ := hst
            have hjin : j < listed.size := by
              rw [hsz]; exact (Array.getElem?_eq_some_iff.1 hoj).1
            refine ⟨hz, fun he => (by rw [he] at hjr; cases hjr), fun i hi => ?_⟩
            rw [hj] at hi
            obtain rfl : i = j := by simpa using hi
            refine ⟨oj, _, st', hoj, hop, dZ_plan hs fuel _ _ pl' _ _ (by simpa using hsz) (down_put hd hjr) (fun k ok hk hqk hlk hno => ?_) (fun k ok hk hqk hlk => ?_) hpl hgo⟩
            · have hki : k ≠ i := fun e => by
                subst e; rw [hoj] at hk; cases hk; rw [hq] at hqk; cases hqk
              have hlk' : listed.getD k false = true := by
                rcases getD_put hlk with e | e
                · exact absurd e hki
                · exact e
              have wik : waits ops ops.size i k = false := hno i oj hoj hq (by simp [hjin])
              have wki := waits_not hd hk (fun e he hb => hd k ok hk hlk' e he hb) hjun
              obtain ⟨u, h1, h2⟩ := hz k ok hk hqk hlk' (fun j' oj' hj' hqj' hlj' => hno j' oj' hj' hqj' (getD_set_true hlj'))
              have s1 := (ssa_spec hs hk hoj).2 wki
              have s2 := (ssa_spec hs hoj hk).1 (Ne.symm hki)
              have hsame : aput (aput ts oj.dst w) ok.dst u = aput ts oj.dst w := by rw [aput_comm _ _ _ s2, h1]
              have h3 := h2.put (dst := oj.dst) (u := w) s1
              rcases h3 with ⟨hw, hx⟩ | ⟨hw, hu⟩
              · by_cases hsl : statelessOp ok.op = true
                · exact ⟨u, hsame, .inl ⟨hw, stateless_st hsl hx⟩⟩
                · have hs2 := stills_mem hre (hmem k ok hk (hdone k ok hk hqk hlk') wik hsl)
                  unfold Still at hs2
                  rw [hk] at hs2
                  obtain ⟨e1, e2⟩ := hs2 hw
                  cases hdst : ok.dst with
                  | none => rw [hdst] at e2; cases e2
                  | some d =>
                    rw [hdst] at e1 e2
                    simp only [Option.bind_some] at e1 e2
                    cases htd : (aput ts oj.dst w)[d]? with
                    | none => rw [htd] at e2; cases e2
                    | some v' =>
                      rw [htd] at e1
                      exact ⟨v', aput_self htd, .inl ⟨hw, e1⟩⟩
              · exact ⟨u, hsame, .inr ⟨hw, hu⟩⟩
            · refine hdone k ok hk hqk ?_
              rcases getD_put hlk with rfl | e
              · rw [hoj] at hk; cases hk; rw [hq] at hqk; cases hqk
              · exact e
          · cases h
      · cases hp

/-- one order tells of all -/
theorem draw_sound {base : Nat} {w0 : World} (hm : E.P.follows .mixedOrders = true) (hcall : ∀ f args st r, call f args st = some r → CallOK E base w0 f args st r) : DrawOK E base w0 fid call (drawB E fid) := by
  intro ops id ts st r hr g0 g a w h0 hinv hg ha
  refine wp_region_any hm ?_
  have hdown : Down ops (Array.replicate ops.size false) := fun j o ho hl => by
    rcases Nat.lt_or_ge j ops.size with h' | h'
    · simp [h'] at hl
    · simp [h'] at hl
  have h1 : dAny E fid call ops r ops.size (Array.replicate ops.size false) ts st := by
    rcases hr with ⟨hB, hr⟩ | ⟨p, hp, hr⟩
    · simp only [drawB, Bool.and_eq_true] at hB
      exact dAny_lex (E := E) (fid := fid) (call := call) ops.toList 0 (Array.replicate ops.size false) ts st (by simp) hdown (by simpa using hB.2) hr
    · unfold drawPlan at hp
      split at hp
      · rename_i hb
        simp only [Bool.and_eq_true] at hb
        have hnone : ∀ (i : Nat), (Array.replicate ops.size false).getD i false = true → False := fun i hl => by
          rcases Nat.lt_or_ge i ops.size with h' | h'
          · simp [h'] at hl
          · simp [h'] at hl
        exact dAny_of_z _ _ _ _ (dZ_plan hb.2 _ _ _ p ts st (by simp) hdown (fun i oi _ _ hl _ => (hnone i hl).elim) (fun i oi _ _ hl => (hnone i hl).elim) hp hr)
      · cases hp
  have h2 := wpAny_of_d (base := base) (w0 := w0) hcall _ _ ts st h1 g0 g a w.drew h0 hinv.drew hg ha
  simpa using h2

end

/-- the second reading of a program's functions -/
noncomputable def run (E : Env) (n : Nat) : ACall := acall E (drawB E) n

theorem run_sound {E : Env} {base : Nat} {w0 : World} (hm : E.P.follows .mixedOrders = true) (n : Nat) (f : FuncId) (args : List AVal) (st : ASt) (r : AEnd × ASt) (h : run E n f args st = some r) : CallOK E base w0 f args st r :=
  acall_sound (fun _ _ hc => draw_sound hm hc) n f args st r h

end Go.Proofs.YtjpehemkgikkdaaA
