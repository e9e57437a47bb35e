/- Calls without a count of rounds, and what holds behind a piece of code. No condition. -/
import Derived.Test.YtpgcbmmifmnfpaaDoorAD
namespace Go.Proofs.YtpgcbmmifmnfpaaDoorA
open Go Go.RowKit
set_option linter.unusedVariables false
set_option linter.unusedSimpArgs false

/-- what a call comes to, with rounds enough -/
noncomputable def rw (E : Env) : ACall := fun f args st => @dite _ (∃ r, ∃ n, run E n f args st = some r) (Classical.propDecidable _) (fun h => some h.choose) (fun _ => none)

theorem rw_of {E : Env} {f : FuncId} {args : List AVal} {st : ASt} {r : AEnd × ASt} {n : Nat} (h : run E n f args st = some r) : rw E f args st = some r := by
  have h' : ∃ r, ∃ n, run E n f args st = some r := ⟨r, n, h⟩
  unfold rw
  rw [dif_pos h']
  obtain ⟨m, hm⟩ := h'.choose_spec
  have a := run_mono (Nat.le_max_left n m) f args st _ h
  have b := run_mono (Nat.le_max_right n m) f args st _ hm
  rw [a] at b
  exact b.symm

theorem rw_out {E : Env} {f : FuncId} {args : List AVal} {st : ASt} {r : AEnd × ASt} (h : rw E f args st = some r) : ∃ n, run E n f args st = some r := by
  unfold rw at h
  by_cases h' : ∃ r, ∃ n, run E n f args st = some r
  · rw [dif_pos h'] at h
    cases h
    exact h'.choose_spec
  · rw [dif_neg h'] at h
    cases h

theorem RetN.rw {E : Env} {d : Nat} {f : FuncId} {args : List AVal} {st : ASt} {v : AVal} {st' : ASt} (h : RetN E d f args st v st') : Go.Proofs.YtpgcbmmifmnfpaaDoorA.rw E f args st = some (.returned v, st') := rw_of (h d (Nat.le_refl _))

section
variable {E : Env} {fid : FuncId}

theorem aop_cont (ops : Array Oper) (o : Oper) (ts : List AVal) (st : ASt) {r} (h : aop E fid (rw E) ops o ts st = some r) : ∃ m, aop E fid (run E m) ops o ts st = some r := by
  unfold aop at h ⊢
  split at h
  · rename_i hw
    try simp only [if_pos hw]
    cases hx : aexecOp E.P (ahint E fid o) (aeval E ts) o st with
    | none => rw [hx] at h; cases h
    | some x =>
      rw [hx] at h
      cases x with
      | val v st' => exact ⟨0, h⟩
      | panic v st' => exact ⟨0, h⟩
      | enter f args st' =>
        simp only at h ⊢
        cases hc : rw E f args st' with
        | none => rw [hc] at h; cases h
        | some q =>
          obtain ⟨m, hm⟩ := rw_out hc
          rw [hc] at h
          exact ⟨m, by rw [hm]; exact h⟩
  · rename_i hw
    try simp only [if_neg hw]
    exact ⟨0, h⟩

theorem lec {m m' : Nat} (h : m ≤ m') : LeC (run E m) (run E m') := run_mono h

theorem aops_cont (ops : Array Oper) : ∀ (l : List Oper) (ts : List AVal) (st : ASt) {r}, aops E fid (rw E) ops l ts st = some r → ∃ m, aops E fid (run E m) ops l ts st = some r
  | [], ts, st, r, h => ⟨0, h⟩
  | o :: l, ts, st, r, h => by
    unfold aops at h
    cases hx : aop E fid (rw E) ops o ts st with
    | none => rw [hx] at h; cases h
    | some x =>
      rw [hx] at h
      obtain ⟨m1, h1⟩ := aop_cont ops o ts st hx
      obtain ⟨v, ts', st'⟩ := x
      cases v with
      | none =>
        obtain ⟨m2, h2⟩ := aops_cont ops l ts' st' h
        refine ⟨max m1 m2, ?_⟩
        unfold aops
        rw [aop_mono (lec (Nat.le_max_left m1 m2)) ops o ts st _ h1]
        exact aops_mono (lec (Nat.le_max_right m1 m2)) ops l ts' st' _ h2
      | some v =>
        refine ⟨m1, ?_⟩
        unfold aops
        rw [h1]
        exact h

theorem aopsP_cont (ops : Array Oper) : ∀ (l : List PStep) (ts : List AVal) (st : ASt) {r}, aopsP E fid (rw E) ops l ts st = some r → ∃ m, aopsP E fid (run E m) ops l ts st = some r
  | [], ts, st, r, h => ⟨0, h⟩
  | .one i re :: l, ts, st, r, h => by
    unfold aopsP at h
    cases hi : ops[i]? with
    | none => rw [hi] at h; cases h
    | some o =>
      rw [hi] at h
      simp only at h
      cases hx : aop E fid (rw E) ops o ts st with
      | none => rw [hx] at h; cases h
      | some x =>
        rw [hx] at h
        obtain ⟨m1, h1⟩ := aop_cont ops o ts st hx
        obtain ⟨v, ts', st'⟩ := x
        cases v with
        | some v => cases h
        | none =>
          simp only at h
          cases re with
          | nil =>
            obtain ⟨m2, h2⟩ := aopsP_cont ops l ts' st' h
            refine ⟨max m1 m2, ?_⟩
            unfold aopsP
            simp only [hi]
            rw [aop_mono (lec (Nat.le_max_left m1 m2)) ops o ts st _ h1]
            exact aopsP_mono (lec (Nat.le_max_right m1 m2)) ops l ts' st' _ h2
          | cons k re =>
            simp only at h
            split at h
            · rename_i hs
              obtain ⟨m2, h2⟩ := aopsP_cont ops l ts' st' h
              refine ⟨max m1 m2, ?_⟩
              unfold aopsP
              simp only [hi]
              rw [aop_mono (lec (Nat.le_max_left m1 m2)) ops o ts st _ h1]
              simp only [if_pos hs]
              exact aopsP_mono (lec (Nat.le_max_right m1 m2)) ops l ts' st' _ h2
            · cases h
  | .two i j ri rj rij :: l, ts, st, r, h => by
    unfold aopsP at h
    split at h
    · rename_i oi oj hi hj
      split at h
      · rename_i ts1 st1 h1
        split at h
        · rename_i ts2 st2 h2
          split at h
          · rename_i ts3 st3 h3
            split at h
            · rename_i ts4 st4 h4
              split at h
              · rename_i hs
                obtain ⟨m1, h1⟩ := aop_cont ops oi ts st h1
                obtain ⟨m2, h2⟩ := aop_cont ops oj ts1 st1 h2
                obtain ⟨m3, h3⟩ := aop_cont ops oj ts st.bump h3
                obtain ⟨m5, h5⟩ := aopsP_cont ops l ts2 st2 h
                refine ⟨max (max m1 m2) (max m3 m5), ?_⟩
                unfold aopsP
                simp only [hi, hj]
                rw [aop_mono (lec (by omega)) ops oi ts st _ h1]
                simp only
                rw [aop_mono (lec (by omega)) ops oj ts1 st1 _ h2]
                simp only
                rw [aop_mono (lec (by omega)) ops oj ts st.bump _ h3]
                simp only
                rw [h4]
                simp only
                rw [if_pos hs]
                exact aopsP_mono (lec (by omega)) ops l ts2 st2 _ h5
              · cases h
            · cases h
          · cases h
        · cases h
      · cases h
    · cases h

theorem aseq_cont {x : ARes} {X : Nat → ARes} {y : List AVal → ASt → ARes} {Y : Nat → List AVal → ASt → ARes} (hX : ∀ m m', m ≤ m' → LeR (X m) (X m')) (hY : ∀ m m', m ≤ m' → ∀ ts st, LeR (Y m ts st) (Y m' ts st))
    (hx : ∀ r, x = some r → ∃ m, X m = some r) (hy : ∀ ts st r, y ts st = some r → ∃ m, Y m ts st = some r) {r} (h : aseq x y = some r) : ∃ m, aseq (X m) (Y m) = some r := by
  cases hxx : x with
  | none => rw [hxx] at h; cases h
  | some q =>
    rw [hxx] at h
    obtain ⟨m1, h1⟩ := hx q hxx
    obtain ⟨e, ts, st⟩ := q
    by_cases he : e = .normal
    · subst he
      obtain ⟨m2, h2⟩ := hy ts st r h
      refine ⟨max m1 m2, ?_⟩
      rw [hX _ _ (Nat.le_max_left m1 m2) _ h1]
      exact hY _ _ (Nat.le_max_right m1 m2) ts st _ h2
    · refine ⟨m1, ?_⟩
      rw [h1]
      cases e <;> first | exact h | exact absurd rfl he

theorem aloop_cont {b : List AVal → ASt → ARes} {B : Nat → List AVal → ASt → ARes} (hB : ∀ m m', m ≤ m' → ∀ ts st, LeR (B m ts st) (B m' ts st)) (hb : ∀ ts st r, b ts st = some r → ∃ m, B m ts st = some r) :
    ∀ n ts st r, aloop b n ts st = some r → ∃ m, aloop (B m) n ts st = some r
  | 0, ts, st, r, h => by cases h
  | n + 1, ts, st, r, h => aseq_cont (fun m m' hm => hB m m' hm ts st) (fun m m' hm ts st => aloop_mono (hB m m' hm) n n (Nat.le_refl _) ts st) (fun r hr => hb ts st r hr) (fun ts st r hr => aloop_cont hB hb n ts st r hr) h

theorem ascope_cont {fr : Nat → List AVal → ASt → ARes} {F : Nat → Nat → List AVal → ASt → ARes} {code : Code} (hF : ∀ m m', m ≤ m' → ∀ l ts st, LeR (F m l ts st) (F m' l ts st)) (hf : ∀ l ts st r, fr l ts st = some r → ∃ m, F m l ts st = some r) :
    ∀ n (x : ARes) (X : Nat → ARes), (∀ m m', m ≤ m' → LeR (X m) (X m')) → (∀ r, x = some r → ∃ m, X m = some r) → ∀ r, ascope fr code n x = some r → ∃ m, ascope (F m) code n (X m) = some r
  | 0, x, X, hX, hx, r, h => by cases x <;> simp [ascope] at h
  | n + 1, x, X, hX, hx, r, h => by
    cases hxx : x with
    | none => rw [hxx] at h; simp [ascope] at h
    | some q =>
      rw [hxx] at h
      obtain ⟨m1, h1⟩ := hx q hxx
      obtain ⟨e, ts, st⟩ := q
      cases e with
      | goto l =>
        unfold ascope at h
        cases hl : findLabel code l with
        | none =>
          simp only [hl] at h
          exact ⟨m1, by rw [h1]; unfold ascope; simp only [hl]; exact h⟩
        | some rest =>
          simp only [hl] at h
          obtain ⟨m2, h2⟩ := ascope_cont hF hf n (fr l ts st) (fun m => F m l ts st) (fun m m' hm => hF m m' hm l ts st) (fun r hr => hf l ts st r hr) r h
          refine ⟨max m1 m2, ?_⟩
          rw [hX _ _ (Nat.le_max_left m1 m2) _ h1]
          unfold ascope
          simp only [hl]
          exact ascope_mono (hF _ _ (Nat.le_max_right m1 m2)) n n (Nat.le_refl _) _ _ (hF _ _ (Nat.le_max_right m1 m2) l ts st) _ h2
      | _ => exact ⟨m1, by rw [h1]; unfold ascope at h ⊢; exact h⟩

mutual
theorem aexec_cont {dr : Array Oper → Bool} (n : Nat) : ∀ (k : Code) (ts : List AVal) (st : ASt) (r), aexec E fid (rw E) dr n k ts st = some r → ∃ m, aexec E fid (run E m) dr n k ts st = some r
  | .skip, ts, st, r, h => ⟨0, by rw [aexec] at h ⊢; exact h⟩
  | .region id ops draw, ts, st, r, h => by
    rw [aexec] at h
    split at h
    · rename_i hd
      split at h
      · rename_i p hp
        obtain ⟨m, hm⟩ := aopsP_cont ops _ ts st h
        exact ⟨m, by rw [aexec, if_pos hd]; simp only [hp]; exact hm⟩
      · cases h
    · rename_i hd
      obtain ⟨m, hm⟩ := aops_cont ops _ ts st h
      exact ⟨m, by rw [aexec, if_neg hd]; exact hm⟩
  | .seq a b, ts, st, r, h => by
    rw [aexec] at h
    obtain ⟨m, hm⟩ := aseq_cont (X := fun m => aexec E fid (run E m) dr n a ts st) (Y := fun m => aexec E fid (run E m) dr n b) (fun m m' hm => aexec_mono (lec hm) (Nat.le_refl _) a ts st) (fun m m' hm ts st => aexec_mono (lec hm) (Nat.le_refl _) b ts st)
      (fun r hr => aexec_cont n a ts st r hr) (fun ts st r hr => aexec_cont n b ts st r hr) h
    exact ⟨m, by rw [aexec]; exact hm⟩
  | .cond c a b, ts, st, r, h => by
    rw [aexec] at h
    split at h
    · rename_i hc
      obtain ⟨m, hm⟩ := aexec_cont n a ts st r h
      exact ⟨m, by rw [aexec]; simp only [hc]; exact hm⟩
    · rename_i hc
      obtain ⟨m, hm⟩ := aexec_cont n b ts st r h
      exact ⟨m, by rw [aexec]; simp only [hc]; exact hm⟩
    · cases h
  | .block id c, ts, st, r, h => by
    rw [aexec] at h
    cases hx : aexec E fid (rw E) dr n c ts st with
    | none => rw [hx] at h; cases h
    | some q =>
      obtain ⟨m, hm⟩ := aexec_cont n c ts st q hx
      exact ⟨m, by rw [aexec, hm]; rw [hx] at h; exact h⟩
  | .loop c, ts, st, r, h => by
    rw [aexec] at h
    obtain ⟨m, hm⟩ := aloop_cont (B := fun m => aexec E fid (run E m) dr n c) (fun m m' hm ts st => aexec_mono (lec hm) (Nat.le_refl _) c ts st) (fun ts st r hr => aexec_cont n c ts st r hr) n ts st r h
    exact ⟨m, by rw [aexec]; exact hm⟩
  | .scope c, ts, st, r, h => by
    rw [aexec] at h
    obtain ⟨m, hm⟩ := ascope_cont (F := fun m l => afrom E fid (run E m) dr n l c) (fun m m' hm l ts st => afrom_mono (lec hm) (Nat.le_refl _) l c ts st) (fun l ts st r hr => afrom_cont n l c ts st r hr) n _ (fun m => aexec E fid (run E m) dr n c ts st)
      (fun m m' hm => aexec_mono (lec hm) (Nat.le_refl _) c ts st) (fun r hr => aexec_cont n c ts st r hr) r h
    exact ⟨m, by rw [aexec]; exact hm⟩
  | .exit id, ts, st, r, h => ⟨0, by rw [aexec] at h ⊢; exact h⟩
  | .label l, ts, st, r, h => ⟨0, by rw [aexec] at h ⊢; exact h⟩
  | .goto l, ts, st, r, h => ⟨0, by rw [aexec] at h ⊢; exact h⟩
  | .ret, ts, st, r, h => ⟨0, by rw [aexec] at h ⊢; exact h⟩
  | .rangeFunc .., ts, st, r, h => by simp [aexec] at h
  | .refuse _, ts, st, r, h => by simp [aexec] at h
theorem afrom_cont {dr : Array Oper → Bool} (n : Nat) (l : Nat) : ∀ (k : Code) (ts : List AVal) (st : ASt) (r), afrom E fid (rw E) dr n l k ts st = some r → ∃ m, afrom E fid (run E m) dr n l k ts st = some r
  | .seq a b, ts, st, r, h => by
    rw [afrom] at h
    split at h
    · rename_i rest hl
      obtain ⟨m, hm⟩ := aseq_cont (X := fun m => afrom E fid (run E m) dr n l a ts st) (Y := fun m => aexec E fid (run E m) dr n b) (fun m m' hm => afrom_mono (lec hm) (Nat.le_refl _) l a ts st) (fun m m' hm ts st => aexec_mono (lec hm) (Nat.le_refl _) b ts st)
        (fun r hr => afrom_cont n l a ts st r hr) (fun ts st r hr => aexec_cont n b ts st r hr) h
      exact ⟨m, by rw [afrom]; simp only [hl]; exact hm⟩
    · rename_i hl
      obtain ⟨m, hm⟩ := afrom_cont n l b ts st r h
      exact ⟨m, by rw [afrom]; simp only [hl]; exact hm⟩
  | .label l', ts, st, r, h => ⟨0, by rw [afrom] at h ⊢; exact h⟩
  | .skip, ts, st, r, h | .region .., ts, st, r, h | .cond .., ts, st, r, h | .block .., ts, st, r, h | .loop .., ts, st, r, h | .scope .., ts, st, r, h | .exit _, ts, st, r, h | .goto _, ts, st, r, h | .ret, ts, st, r, h | .rangeFunc .., ts, st, r, h | .refuse _, ts, st, r, h => by
    simp [afrom] at h
end

/-- a call, by its body -/
theorem rw_body {f : FuncId} {args : List AVal} {st : ASt} {r : AEnd × ASt} {fn : Func} {c : Code} (n : Nat) (hf : E.P.funcs[f]? = some fn) (hb : fn.body = some c)
    (h : aend E fn (aexec E f (rw E) (drawB E f) n c (args ++ List.replicate (fn.ntmps - args.length) .undef) st) = some r) (hp : E.prim f = none := by rfl) : rw E f args st = some r := by
  cases hx : aexec E f (rw E) (drawB E f) n c (args ++ List.replicate (fn.ntmps - args.length) .undef) st with
  | none => rw [hx] at h; cases h
  | some q =>
    rw [hx] at h
    obtain ⟨m, hm⟩ := aexec_cont n c _ st q hx
    refine rw_of (n := max m n + 1) ?_
    rw [run_succ hf hb hp, aexec_mono (lec (Nat.le_max_left m n)) (Nat.le_max_right m n) c _ st _ hm]
    exact h

/-! ### what holds behind a piece of code -/
abbrev APost := AExit → List AVal → ASt → Prop
def Wp (E : Env) (fid : FuncId) (c : Code) (ts : List AVal) (st : ASt) (Q : APost) : Prop := ∃ n e ts' st', aexec E fid (rw E) (drawB E fid) n c ts st = some (e, ts', st') ∧ Q e ts' st'
/-- behind a piece that comes to its end: K; else Q -/
def Nx (K : List AVal → ASt → Prop) (Q : APost) : APost := fun e ts st => match e with
  | .normal => K ts st
  | e => Q e ts st
def Bx (id : Nat) (Q : APost) : APost := fun e ts st => match e with
  | .exit k => if k = id then Q .normal ts st else Q (.exit k) ts st
  | e => Q e ts st

theorem aw_run {c : Code} {ts : List AVal} {st : ASt} {Q : APost} (n : Nat) {e : AExit} {ts' : List AVal} {st' : ASt} (h : aexec E fid (rw E) (drawB E fid) n c ts st = some (e, ts', st')) (hq : Q e ts' st') : Wp E fid c ts st Q := ⟨n, e, ts', st', h, hq⟩
theorem Wp.mono {c : Code} {ts : List AVal} {st : ASt} {Q Q' : APost} (h : Wp E fid c ts st Q) (hq : ∀ e ts st, Q e ts st → Q' e ts st) : Wp E fid c ts st Q' := by
  obtain ⟨n, e, ts', st', a, b⟩ := h
  exact ⟨n, e, ts', st', a, hq _ _ _ b⟩
theorem aw_seq {a b : Code} {ts : List AVal} {st : ASt} {Q : APost} (h : Wp E fid a ts st (Nx (fun ts st => Wp E fid b ts st Q) Q)) : Wp E fid (.seq a b) ts st Q := by
  obtain ⟨n, e, ts', st', h1, h2⟩ := h
  by_cases he : e = .normal
  · subst he
    obtain ⟨m, e2, ts2, st2, h3, h4⟩ := h2
    refine ⟨max n m, e2, ts2, st2, ?_, h4⟩
    rw [aexec, aexec_mono (fun _ _ _ => LeR.refl _) (Nat.le_max_left n m) a ts st _ h1]
    exact aexec_mono (fun _ _ _ => LeR.refl _) (Nat.le_max_right n m) b ts' st' _ h3
  · refine ⟨n, e, ts', st', ?_, ?_⟩
    · rw [aexec, h1]
      cases e <;> first | rfl | exact absurd rfl he
    · cases e <;> first | exact h2 | exact absurd rfl he
theorem aw_assoc {a b c : Code} {ts : List AVal} {st : ASt} {Q : APost} (h : Wp E fid (.seq a (.seq b c)) ts st Q) : Wp E fid (.seq (.seq a b) c) ts st Q := by
  obtain ⟨n, e, ts', st', h1, h2⟩ := h
  refine ⟨n, e, ts', st', ?_, h2⟩
  simp only [aexec_seq, aseq_assoc] at h1 ⊢
  exact h1
theorem aw_assoc' {a b c : Code} {ts : List AVal} {st : ASt} {Q : APost} (h : Wp E fid (.seq (.seq a b) c) ts st Q) : Wp E fid (.seq a (.seq b c)) ts st Q := by
  obtain ⟨n, e, ts', st', h1, h2⟩ := h
  refine ⟨n, e, ts', st', ?_, h2⟩
  simp only [aexec_seq, aseq_assoc] at h1 ⊢
  exact h1
theorem aw_block {id : Nat} {c : Code} {ts : List AVal} {st : ASt} {Q : APost} (h : Wp E fid c ts st (Bx id Q)) : Wp E fid (.block id c) ts st Q := by
  obtain ⟨n, e, ts', st', h1, h2⟩ := h
  cases e with
  | exit k =>
    by_cases hk : k = id
    · refine ⟨n, .normal, ts', st', ?_, ?_⟩
      · rw [aexec, h1, ablock]; simp only [if_pos hk]
      · simpa only [Bx, if_pos hk] using h2
    · refine ⟨n, .exit k, ts', st', ?_, ?_⟩
      · rw [aexec, h1, ablock]; simp only [if_neg hk]
      · simpa only [Bx, if_neg hk] using h2
  | _ => exact ⟨n, _, ts', st', by rw [aexec, h1]; rfl, h2⟩
theorem aw_loop {c : Code} {Q : APost} (I : Nat → List AVal → ASt → Prop) (step : ∀ i ts st, I i ts st → Wp E fid c ts st (Nx (fun ts st => ∃ j, j < i ∧ I j ts st) Q)) : ∀ i ts st, I i ts st → Wp E fid (.loop c) ts st Q := by
  intro i
  induction i using Nat.strongRecOn with
  | ind i ih =>
    intro ts st hI
    obtain ⟨n, e, ts', st', h1, h2⟩ := step i ts st hI
    by_cases he : e = .normal
    · subst he
      obtain ⟨j, hj, hJ⟩ := h2
      obtain ⟨m, e2, ts2, st2, h3, h4⟩ := ih j hj ts' st' hJ
      refine ⟨max n m + 1, e2, ts2, st2, ?_, h4⟩
      rw [aexec] at h3 ⊢
      rw [aloop, aexec_mono (fun _ _ _ => LeR.refl _) (Nat.le_succ_of_le (Nat.le_max_left n m)) c ts st _ h1]
      exact aloop_mono (fun ts st => aexec_mono (fun _ _ _ => LeR.refl _) (Nat.le_succ_of_le (Nat.le_max_right n m)) c ts st) m (max n m) (Nat.le_max_right n m) ts' st' _ h3
    · refine ⟨n + 1, e, ts', st', ?_, ?_⟩
      · rw [aexec, aloop, aexec_mono (fun _ _ _ => LeR.refl _) (Nat.le_succ n) c ts st _ h1]
        cases e <;> first | rfl | exact absurd rfl he
      · cases e <;> first | exact h2 | exact absurd rfl he
/-- a loop in its block -/
theorem aw_for {id : Nat} {c : Code} {Q : APost} (I : Nat → List AVal → ASt → Prop) (step : ∀ i ts st, I i ts st → Wp E fid c ts st (Nx (fun ts st => ∃ j, j < i ∧ I j ts st) (Bx id Q))) : ∀ i ts st, I i ts st → Wp E fid (.block id (.loop c)) ts st Q :=
  fun i ts st h => aw_block (aw_loop I step i ts st h)

/-- a call, by what holds behind its body -/
theorem rw_wp {f : FuncId} {args : List AVal} {st : ASt} {r : AEnd × ASt} {fn : Func} {c : Code} (hf : E.P.funcs[f]? = some fn) (hb : fn.body = some c)
    (h : Wp E f c (args ++ List.replicate (fn.ntmps - args.length) .undef) st (fun e ts st => aend E fn (some (e, ts, st)) = some r)) (hp : E.prim f = none := by rfl) : rw E f args st = some r := by
  obtain ⟨n, e, ts', st', h1, h2⟩ := h
  exact rw_body n hf hb (by rw [h1]; exact h2) hp
/-- likewise, where what it comes to isn't told whole -/
theorem rw_wpx {f : FuncId} {args : List AVal} {st : ASt} {R : AEnd → ASt → Prop} {fn : Func} {c : Code} (hf : E.P.funcs[f]? = some fn) (hb : fn.body = some c)
    (h : Wp E f c (args ++ List.replicate (fn.ntmps - args.length) .undef) st (fun e ts st => ∃ r st', aend E fn (some (e, ts, st)) = some (r, st') ∧ R r st')) (hp : E.prim f = none := by rfl) : ∃ r st', rw E f args st = some (r, st') ∧ R r st' := by
  obtain ⟨n, e, ts', st', h1, r, st'', h2, h3⟩ := h
  exact ⟨r, st'', rw_body n hf hb (by rw [h1]; exact h2) hp, h3⟩
end

/-- the temporaries at a call's beginning -/
structure TsOf (args : List AVal) (n : Nat) (ts : List AVal) : Prop where
  len : ts.length = n
  at' : ∀ (i : Nat) (v : AVal), args[i]? = some v → ts[i]? = some v
theorem tsOf {args : List AVal} {n : Nat} (h : args.length ≤ n) : TsOf args n (args ++ List.replicate (n - args.length) .undef) :=
  ⟨by simp; omega, fun i v hi => by rw [List.getElem?_append_left (List.getElem?_eq_some_iff.1 hi).1]; exact hi⟩

theorem law_of_rw {E : Env} (hm : E.P.follows .mixedOrders = true) (hglob : ∀ k, E.glob k = none) {f : FuncId} {args : List AVal} {st : ASt} (h : rw E f args st0 = some (.returned (.lit (.bool true)), st))
    {W : World} {us : Array Value} (hr : Reps (g0 W) args us.toList) (hprim : PrimOK E W.heap.size W := by exact prim_none rfl) : Calls E.P f us W (fun e w' => e = .returned (.bool true) ∧ Below W.heap.size W w') := by
  obtain ⟨n, hn⟩ := rw_out h
  exact law_of_run hm hglob hn hr hprim

end Go.Proofs.YtpgcbmmifmnfpaaDoorA
