/- A region told by what holds of it whatever its order; a function that has one. No condition. -/
import Derived.Test.YtpgcbmmifmnfpaaDoorAK
namespace Go.Proofs.YtpgcbmmifmnfpaaDoorA
open Go Go.RowKit
set_option linter.unusedVariables false
set_option linter.unusedSimpArgs false

section
variable {E : Env} {base : Nat} {w0 : World} {fid : FuncId}

/-- told from a state on: however it goes, Q -/
def SQ (E : Env) (base : Nat) (w0 : World) (c : Code) (ts : List AVal) (st : ASt) (Q : APost) : Prop :=
  ∀ (D : List Deferred) (g0 g : G) (a : Act) (w : World), g0.le g → SInv base w0 g st w → GlobOK E g → ActOK D g ts a →
    c.wp E.P (fun e a' w' => ∃ r : AExit × List AVal × ASt, Q r.1 r.2.1 r.2.2 ∧ Post D base w0 g0 r e a' w') a w
theorem hcall_rw (hprim : PrimOK E base w0) (hm : E.P.follows .mixedOrders = true) : ∀ f args st r, rw E f args st = some r → CallOK E base w0 f args st r := fun f args st r h => by
  obtain ⟨n, hn⟩ := rw_out h
  exact run_sound hm n f args st r hn hprim
theorem SQ.of_wp (hprim : PrimOK E base w0) (hm : E.P.follows .mixedOrders = true) {c : Code} {ts : List AVal} {st : ASt} {Q : APost} (h : Wp E fid c ts st Q) : SQ E base w0 c ts st Q := by
  intro D g0 g a w h0 hinv hg ha
  obtain ⟨n, e, ts', st', hx, hq⟩ := h
  have hc := hcall_rw hprim hm
  exact wp_weak (aexec_sound hc (draw_sound hm hc) n c D ts st _ hx g0 g a w h0 hinv hg ha) fun e' a' w' hp => ⟨_, hq, hp⟩
theorem SQ.seq {x y : Code} {ts : List AVal} {st : ASt} {Q : APost} (h : SQ E base w0 x ts st (Nx (fun ts' st' => SQ E base w0 y ts' st' Q) Q)) : SQ E base w0 (.seq x y) ts st Q := by
  intro D g0 g a w h0 hinv hg ha
  refine wp_seq (wp_weak (h D g g a w (G.le.refl g) hinv hg ha) fun e' a' w' hp => ?_)
  obtain ⟨⟨e, ts', st'⟩, hq, g', p1, p2, p3, p4⟩ := hp
  simp only at hq p2 p3 p4
  cases e with
  | normal =>
    obtain rfl := exit_normal p4
    exact hq D g0 g' a' w' (h0.trans p1) p2 (hg.mono p1) p3
  | _ =>
    cases e' <;> first
      | exact p4.elim
      | exact ⟨(_, ts', st'), hq, g', h0.trans p1, p2, p3, p4⟩
theorem SQ.mono {c : Code} {ts : List AVal} {st : ASt} {Q Q' : APost} (h : SQ E base w0 c ts st Q) (hq : ∀ e ts st, Q e ts st → Q' e ts st) : SQ E base w0 c ts st Q' := by
  intro D g0 g a w h0 hinv hg ha
  refine wp_weak (h D g0 g a w h0 hinv hg ha) fun e' a' w' hp => ?_
  obtain ⟨r, h1, h2⟩ := hp
  exact ⟨r, hq _ _ _ h1, h2⟩
/-- how many are left -/
def left (ops : Array Oper) (listed : Array Bool) : Nat := ((List.range ops.size).filter fun i => !listed.getD i false).length
theorem left_put {ops : Array Oper} {listed : Array Bool} {j : Nat} (hj : j ∈ Region.ready .any ops listed) (hs : listed.size = ops.size) : left ops (listed.setIfInBounds j true) < left ops listed := by
  have hun := ready_un hj
  obtain ⟨_, o, ho, _⟩ := mem_ready.1 hj
  have hlt : j < ops.size := (Array.getElem?_eq_some_iff.1 ho).1
  unfold left
  have key : ∀ l : List Nat, l.Nodup → j ∈ l → (l.filter fun i => !(listed.setIfInBounds j true).getD i false).length < (l.filter fun i => !listed.getD i false).length := by
    intro l
    induction l with
    | nil => intro _ h; cases h
    | cons x l ih =>
      intro hn hm
      rw [List.nodup_cons] at hn
      by_cases hx : x = j
      · subst hx
        have e1 : (listed.setIfInBounds x true).getD x false = true := by simp [hs, hlt]
        have e2 : ∀ y ∈ l, (listed.setIfInBounds x true).getD y false = listed.getD y false := fun y hy => getD_set_ne false (fun e => hn.1 (e ▸ hy))
        have e3 : (l.filter fun i => !(listed.setIfInBounds x true).getD i false) = l.filter fun i => !listed.getD i false := List.filter_congr fun y hy => by rw [e2 y hy]
        rw [List.filter_cons_of_neg (by rw [e1]; decide), List.filter_cons_of_pos (by rw [hun]; decide), e3, List.length_cons]
        omega
      · have e1 : (listed.setIfInBounds j true).getD x false = listed.getD x false := getD_set_ne false (fun e => hx e.symm)
        have hm2 : j ∈ l := by
          rcases List.mem_cons.1 hm with h | h
          · exact absurd h.symm hx
          · exact h
        have := ih hn.2 hm2
        simp only [List.filter_cons, e1]
        split
        · simp only [List.length_cons]; omega
        · exact this
  exact key _ List.nodup_range (List.mem_range.2 hlt)
theorem left_zero {ops : Array Oper} {listed : Array Bool} (h : left ops listed = 0) : Region.ready .any ops listed = [] := by
  cases hr : Region.ready .any ops listed with
  | nil => rfl
  | cons j l =>
    have hj : j ∈ Region.ready .any ops listed := by rw [hr]; exact List.mem_cons_self ..
    obtain ⟨_, o, ho, _⟩ := mem_ready.1 hj
    have hlt : j < ops.size := (Array.getElem?_eq_some_iff.1 ho).1
    have : j ∈ (List.range ops.size).filter fun i => !listed.getD i false := List.mem_filter.2 ⟨List.mem_range.2 hlt, by rw [ready_un hj]; rfl⟩
    unfold left at h
    rw [List.length_eq_zero_iff.1 h] at this
    cases this
theorem wpAny_inv (hprim : PrimOK E base w0) (hm : E.P.follows .mixedOrders = true) {ops : Array Oper} {I : Array Bool → List AVal → ASt → Prop} {Q : APost}
    (step : ∀ listed ts st i, I listed ts st → listed.size = ops.size → i ∈ Region.ready .any ops listed → ∃ o, ops[i]? = some o ∧ WOps E fid (poM ops.toList [o]) (fun e ts' st' => e = .normal ∧ I (listed.setIfInBounds i true) ts' st') ts st)
    (fin : ∀ listed ts st, I listed ts st → Region.ready .any ops listed = [] → Q .normal ts st) {D : List Deferred} : ∀ (fuel : Nat) (listed : Array Bool) (ts : List AVal) (st : ASt), I listed ts st → listed.size = ops.size → left ops listed ≤ fuel →
    ∀ (g0 g : G) (a : Act) (w : World), g0.le g → SInv base w0 g st w → GlobOK E g → ActOK D g ts a → wpAny E.P .any ops (fun e a' w' => ∃ r : AExit × List AVal × ASt, Q r.1 r.2.1 r.2.2 ∧ Post D base w0 g0 r e a' w') fuel listed a w
  | 0, listed, ts, st, hI, hs, hl, g0, g, a, w, h0, hinv, hg, ha => by
    have hr := left_zero (Nat.le_zero.1 hl)
    exact ⟨hr, (.normal, ts, st), fin _ _ _ hI hr, g, h0, hinv, ha, trivial⟩
  | fuel + 1, listed, ts, st, hI, hs, hl, g0, g, a, w, h0, hinv, hg, ha => by
    refine ⟨fun hr => ⟨(.normal, ts, st), fin _ _ _ hI hr, g, h0, hinv, ha, trivial⟩, fun i hi => ?_⟩
    obtain ⟨o, ho, hw⟩ := step _ _ _ _ hI hs hi
    obtain ⟨e, ts', st', h1, rfl, h2⟩ := wops_ok _ _ _ _ hw
    have hop : aop E fid (rw E) ops o ts st = some (none, ts', st') := by
      unfold aops at h1
      cases hx : aop E fid (rw E) ops o ts st with
      | none => rw [hx] at h1; cases h1
      | some q =>
        rw [hx] at h1
        obtain ⟨p, ts2, st2⟩ := q
        cases p with
        | none => cases h1; rfl
        | some v => cases h1
    unfold wpOp
    rw [ho]
    simp only
    have hlp := left_put hi hs
    exact aop_sound (hcall_rw hprim hm) hop hinv hg ha (fun _ g' a' w' p1 p2 p3 => wpAny_inv hprim hm step fin fuel _ _ _ h2 (by rw [Array.size_setIfInBounds]; exact hs) (by omega) g0 g' a' w' (h0.trans p1) p2 (hg.mono p1) p3) (fun v hv => by cases hv)
/-- a region, by what holds of it whatever its order -/
theorem SQ.any (hprim : PrimOK E base w0) (hm : E.P.follows .mixedOrders = true) {id : Nat} {ops : Array Oper} {I : Array Bool → List AVal → ASt → Prop} {Q : APost}
    (step : ∀ listed ts st i, I listed ts st → listed.size = ops.size → i ∈ Region.ready .any ops listed → ∃ o, ops[i]? = some o ∧ WOps E fid (poM ops.toList [o]) (fun e ts' st' => e = .normal ∧ I (listed.setIfInBounds i true) ts' st') ts st)
    (fin : ∀ listed ts st, I listed ts st → Region.ready .any ops listed = [] → Q .normal ts st) {ts : List AVal} {st : ASt} (h : I (Array.replicate ops.size false) ts st) : SQ E base w0 (.region id ops true) ts st Q := by
  intro D g0 g a w h0 hinv hg ha
  refine wp_region_any hm ?_
  have hl : left ops (Array.replicate ops.size false) ≤ ops.size := by
    unfold left
    exact Nat.le_trans (List.length_filter_le _ _) (by rw [List.length_range]; exact Nat.le_refl _)
  have h2 := wpAny_inv (D := D) hprim hm step fin ops.size _ ts st h (by simp) hl g0 g a w.drew h0 hinv.drew hg ha
  simpa using h2
/-- a call, by its body -/
theorem call_sq {f : FuncId} {fn : Func} {c : Code} (hfn : E.P.funcs[f]? = some fn) (hc : fn.body = some c) {args : List AVal} {st : ASt} {R : AEnd → ASt → Prop}
    (h : SQ E base w0 c (args ++ List.replicate (fn.ntmps - args.length) .undef) st (fun e ts st' => ∃ r st'', aend E fn (some (e, ts, st')) = some (r, st'') ∧ R r st'')) :
    ∀ g w us, SInv base w0 g st w → GlobOK E g → Reps g args us.toList → Calls E.P f us w (fun e w' => ∃ r st' g', R r st' ∧ g.le g' ∧ SInv base w0 g' st' w' ∧ EndOK g' r e) := by
  intro g w us hinv hg hr
  refine calls_of_wp hfn hc ?_
  have hact : ActOK [] g (args ++ List.replicate (fn.ntmps - args.length) .undef) { tmps := us ++ Array.replicate (fn.ntmps - us.size) undef, defers := [] } := by
    refine ⟨?_, rfl⟩
    simp only [Array.toList_append]
    refine hr.append ?_
    have : us.size = args.length := by have := hr.1; simpa using this
    rw [this]
    simpa using reps_undefs (g := g) (fn.ntmps - args.length)
  refine wp_weak (h [] g g _ w (G.le.refl g) hinv hg hact) fun e' a' w' hp => ?_
  obtain ⟨⟨e, ts', st'⟩, ⟨r, st'', hE, hR⟩, g', p1, p2, p3, p4⟩ := hp
  simp only at hE p2 p3 p4
  have hret : ∀ (h' : (aresults E fn ts' st').map (fun v => (AEnd.returned v, st')) = some (r, st'')), a'.defers = [] ∧ ∃ v, (results fn a'.tmps).run E.P w' = .ok v w' ∧ ∃ r st' g', R r st' ∧ g.le g' ∧ SInv base w0 g' st' w' ∧ EndOK g' r (.returned v) := by
    intro h'
    cases hres : aresults E fn ts' st' with
    | none => rw [hres] at h'; cases h'
    | some v =>
      rw [hres] at h'
      cases h'
      obtain ⟨u, r1, r2⟩ := results_sound p3 p2 hres
      exact ⟨p3.defers, u, r1, _, _, g', hR, p1, p2, r2⟩
  cases e with
  | normal =>
    obtain rfl := exit_normal p4
    exact hret hE
  | ret =>
    cases e' <;> first
      | exact p4.elim
      | exact hret hE
  | panic v =>
    cases hE
    cases e' <;> first
      | exact p4.elim
      | exact ⟨p3.defers, _, _, g', hR, p1, p2, p4⟩
  | exit k => cases hE
  | goto l => cases hE
theorem nx_n {K : List AVal → ASt → Prop} {Q : APost} {ts : List AVal} {st : ASt} : Nx K Q .normal ts st = K ts st := _root_.id rfl
theorem nx_r {K : List AVal → ASt → Prop} {Q : APost} {ts : List AVal} {st : ASt} : Nx K Q .ret ts st = Q .ret ts st := _root_.id rfl
/-- a law's call, by its body -/
theorem law_of_sq (hm : E.P.follows .mixedOrders = true) {f : FuncId} {fn : Func} {c : Code} (hfn : E.P.funcs[f]? = some fn) (hc : fn.body = some c) {args : List AVal} {W : World} {us : Array Value} (hglob : GlobOK E (g0 W)) (hr : Reps (g0 W) args us.toList)
    (h : SQ E W.heap.size W c (args ++ List.replicate (fn.ntmps - args.length) .undef) st0 (RQ E fn fun r _ => r = .returned (.lit (.bool true)))) : Calls E.P f us W (fun e w' => e = .returned (.bool true) ∧ Below W.heap.size W w') := by
  refine (call_sq hfn hc h (g0 W) W us (sinv0 W) hglob hr).mono fun e w' he => ?_
  obtain ⟨r, st', g', rfl, h1, h2, h3⟩ := he
  cases e with
  | returned u => exact ⟨by rw [Rep.flat h3], h2.below⟩
  | panicked chain => exact h3.elim
  | outgrown => exact h3.elim
/-- what was made is forgotten -/
def ASt.bare (st : ASt) : ASt := { heap := fun _ => none, ctr := st.ctr }
theorem forget {g g' : G} {st st' : ASt} {w w' : World} (h : SInv base w0 g st w) (hle : g.le g') (h' : SInv base w0 g' st' w') : ∃ g2, g.le g2 ∧ SInv base w0 g2 st.bare w' := by
  have fr : ∀ B o v, (match g'.own B o with | .frozen v => Own.frozen v | _ => .free) = .frozen v ↔ g'.own B o = .frozen v := by
    intro B o v
    cases g'.own B o <;> simp
  have fe : ∀ B o, g'.own B o = .free → (match g'.own B o with | .frozen v => Own.frozen v | _ => .free) = .free := by
    intro B o e
    rw [e]
  refine ⟨{ own := fun B o => match g'.own B o with | .frozen v => .frozen v | _ => .free, loc := g.loc, n := g.n, dead := g.dead },
    ⟨Nat.le_refl _, fun s hs => hs, fun s _ => rfl, fun B o v hv => (fr B o v).2 (hle.frozen B o v hv), fun s _ hd => hd⟩,
    ⟨h.n, fun B o v hv => h'.fr B o v ((fr B o v).1 hv), fun B o hB => fe B o (h'.fresh B o hB), fun s b hs => (by cases hs), fun s cs hs => (by cases hs), fun s es hs => (by cases hs), h'.below, h'.base, ?_⟩⟩
  exact h'.marks.own fun B o ho => ⟨o, fun e => ho (fe B o e)⟩
end
end Go.Proofs.YtpgcbmmifmnfpaaDoorA
