/- Reverse, walked; what nodes are tried behind, in plain. No condition. -/
import Derived.Test.YtnndngoanknemaaN9
namespace Go.Proofs.YtnndngoanknemaaV
open Go Go.RowKit Go.Proofs.YtnndngoanknemaaA
set_option linter.unusedVariables false
set_option linter.unusedSimpArgs false
set_option maxRecDepth 100000

/-- the first so many exchanged with the last -/
def revN (l : List Int) (i : Nat) : List Int := (List.range l.length).map fun p => if p < i ∨ l.length ≤ p + i then l.getD (l.length - 1 - p) 0 else l.getD p 0
theorem revN_len (l : List Int) (i : Nat) : (revN l i).length = l.length := by simp [revN]
theorem revN_get (l : List Int) (i p : Nat) (h : p < l.length) : (revN l i)[p]'(by rw [revN_len]; exact h) = if p < i ∨ l.length ≤ p + i then l.getD (l.length - 1 - p) 0 else l.getD p 0 := by
  simp [revN]
theorem revN_zero (l : List Int) : revN l 0 = l := by
  refine List.ext_getElem (revN_len l 0) fun p h1 h2 => ?_
  rw [revN_get l 0 p h2, if_neg (by omega), List.getD_eq_getElem?_getD, List.getElem?_eq_getElem h2]; rfl
theorem revN_step (l : List Int) (i : Nat) (h : 2 * i + 1 < l.length) :
    ((revN l i).set i ((revN l i)[l.length - 1 - i]'(by rw [revN_len]; omega))).set (l.length - 1 - i) ((revN l i)[i]'(by rw [revN_len]; omega)) = revN l (i + 1) := by
  refine List.ext_getElem (by simp [revN_len]) fun p h1 h2 => ?_
  rw [revN_len] at h2
  rw [List.getElem_set, revN_get l (i + 1) p h2]
  split
  · rename_i e
    rw [revN_get l i i (by omega), if_neg (by omega), if_pos (by omega)]
    congr 1; omega
  · rw [List.getElem_set]
    split
    · rename_i e1 e2
      rw [revN_get l i _ (by omega), if_neg (by omega), if_pos (by omega)]
      congr 1; omega
    · rename_i e1 e2
      rw [revN_get l i p h2]
      by_cases hc : p < i ∨ l.length ≤ p + i
      · rw [if_pos hc, if_pos (by omega)]
      · rw [if_neg hc, if_neg (by omega)]
theorem revN_all (l : List Int) (i : Nat) (h : l.length ≤ 2 * i + 1) : revN l i = l.reverse := by
  refine List.ext_getElem (by simp [revN_len]) fun p h1 h2 => ?_
  rw [revN_len] at h1
  rw [revN_get l i p h1, List.getElem_reverse]
  have g : ∀ q, (hq : q < l.length) → l.getD q 0 = l[q] := fun q hq => by rw [List.getD_eq_getElem?_getD, List.getElem?_eq_getElem hq]; rfl
  split
  · rw [g _ (by omega)]
  · rw [g _ h1]
    congr 1; omega

noncomputable def rvBody : Code := (code Try.f45).snd.inn
noncomputable def rvR3 : Code := rvBody.snd.fst.inn

structure RvI (v : AVal) (n i : Nat) (ts : List AVal) : Prop where
  t0 : ts[0]? = some v
  t2 : ts[2]? = some (.lit (.int .i64 i))
  t3 : ts[3]? = some (.lit (.int .i64 ((n : Int) - 1 - i)))
  tl : ts.length = 28

theorem rv_exit (call : ACall) (dr : Array Oper → Bool) (m : Nat) {v : AVal} {n i : Nat} {ts : List AVal} {st : ASt} (h : RvI v n i ts) (hi : n ≤ 2 * i + 1) :
    ∃ ts', aexec E 45 call dr m rvBody ts st = some (.exit 0, ts', st) := by
  obtain ⟨t0, t2, t3, tl⟩ := h
  have hh : ∀ t, E.hint 45 t = false := fun _ => rfl
  have hd : decide ((i : Int) < (n : Int) - 1 - i) = false := by rw [decide_eq_false_iff_not]; omega
  simp only [rvBody, code, Try.f45, Option.getD_some, Code.fst, Code.snd, Code.inn, aexec, aops, aop, Region.wanted, ayielded, aexecOp, aeval, aput, aseq, ablock, ahint, absOf, flat, nilCheckA, ANext.ofP, evals, evalPs, evalO, aresults, aresults1, aresult, aend, List.getElem?_set, List.length_set, Option.map_some, Option.bind_some, if_true, if_false, ↓reduceIte, Nat.reduceLT, Nat.reduceEqDiff, reduceCtorEq, Bool.false_eq_true, false_and, and_false, and_true, true_and, Nat.reduceAdd, Nat.reduceLeDiff, callA, List.getElem?_toArray, List.getElem?_cons_succ, List.getElem?_cons_zero, sb1, sb2, sb3, sb4, sliceU_i, sliceU_s, sliceU_p, sliceU_l, evalV, hh, t0, t2, t3, tl, b_lss, hd]
  exact ⟨_, rfl⟩

set_option maxHeartbeats 1000000 in
theorem rv_go (call : ACall) (m : Nat) {v : AVal} {l : List Int} {i : Nat} {s : Option Nat} {ts : List AVal} {st : ASt} (hl : l.length ≤ 100000) (hr : IRow st v (revN l i) s) (h : RvI v l.length i ts) (hi : 2 * i + 1 < l.length) :
    ∃ ts' st', aexec E 45 call (drawB E 45) m rvBody ts st = some (.normal, ts', st') ∧ RvI v l.length (i + 1) ts' ∧ IRow st' v (revN l (i + 1)) s ∧ st'.ctr = st.ctr ∧ ∀ k, s ≠ some k → st'.heap k = st.heap k := by
  obtain ⟨t0, t2, t3, tl⟩ := h
  have hh : ∀ t, E.hint 45 t = false := fun _ => rfl
  have d1 : drawB E 45 rvR3.ops = false := by kernel_rfl
  have p1 : drawPlan E 45 rvR3.ops = some [.one 0 [], .one 1 [], .one 2 [], .one 3 [], .one 4 [], .one 5 [], .one 6 [], .one 7 [], .one 8 [], .one 9 [], .one 10 [], .one 11 [], .one 12 [], .one 13 [], .one 14 [], .one 15 []] := by kernel_rfl
  simp only [rvR3, rvBody, code, Try.f45, Option.getD_some, Code.fst, Code.snd, Code.inn, Code.ops] at d1 p1
  obtain ⟨j, hj⟩ : ∃ j : Nat, l.length - 1 - i = j := ⟨_, rfl⟩
  have hjc : ((l.length : Int) - 1 - i) = ((j : Nat) : Int) := by omega
  rw [hjc] at t3
  have hd : decide ((i : Int) < ((j : Nat) : Int)) = true := by rw [decide_eq_true_eq]; omega
  have hi1 : i < (revN l i).length := by rw [revN_len]; omega
  have hj1 : j < (revN l i).length := by rw [revN_len]; omega
  obtain ⟨s1, e1, a1, a2⟩ := irow_idx hr hi1
  obtain ⟨s1', e1', b1, b2⟩ := irow_idx hr hj1
  have : s1 = s1' := by rw [e1] at e1'; exact Option.some.inj e1'
  subst this
  rw [e1] at hr
  obtain ⟨st1, c1, c2, c3, c4⟩ := irow_store hr hi1 ((revN l i)[j])
  obtain ⟨st2, g1, g2, g3, g4⟩ := irow_store c2 (i := j) (by rw [List.length_set]; exact hj1) ((revN l i)[i])
  have hstep : ((revN l i).set i (revN l i)[j]).set j (revN l i)[i] = revN l (i + 1) := by
    have := revN_step l i hi
    simp only [hj] at this
    exact this
  rw [hstep] at g2
  have q1 : IntKind.i64.wrap ((i : Int) + 1) = ((i + 1 : Nat) : Int) := by
    simp [IntKind.wrap, IntKind.bits, IntKind.signed]; omega
  have q2 : IntKind.i64.wrap (((j : Nat) : Int) - 1) = (l.length : Int) - 1 - ((i + 1 : Nat) : Int) := by
    simp [IntKind.wrap, IntKind.bits, IntKind.signed]; omega
  simp only [rvBody, code, Try.f45, Option.getD_some, Code.fst, Code.snd, Code.inn, aexec, aops, aop, Region.wanted, ayielded, aexecOp, aeval, aput, aseq, ablock, ahint, absOf, flat, nilCheckA, ANext.ofP, evals, evalPs, evalO, aresults, aresults1, aresult, aend, List.getElem?_set, List.length_set, Option.map_some, Option.bind_some, if_true, if_false, ↓reduceIte, Nat.reduceLT, Nat.reduceEqDiff, reduceCtorEq, Bool.false_eq_true, false_and, and_false, and_true, true_and, Nat.reduceAdd, Nat.reduceLeDiff, callA, List.getElem?_toArray, List.getElem?_cons_succ, List.getElem?_cons_zero, sb1, sb2, sb3, sb4, sliceU_i, sliceU_s, sliceU_p, sliceU_l, evalV, hh, t0, t2, t3, tl, b_lss, hd, d1, p1, and_self, aopsP, eq_self, a1, a2, b1, b2, c1, g1, b_add, q1, b_sub, q2]
  refine ⟨_, st2, rfl, ⟨by simp only [List.getElem?_set, List.length_set, Nat.reduceLT, Nat.reduceEqDiff, ↓reduceIte, reduceCtorEq, *], by simp only [List.getElem?_set, List.length_set, Nat.reduceLT, Nat.reduceEqDiff, ↓reduceIte, reduceCtorEq, *], by simp only [List.getElem?_set, List.length_set, Nat.reduceLT, Nat.reduceEqDiff, ↓reduceIte, reduceCtorEq, *], by simp only [List.getElem?_set, List.length_set, Nat.reduceLT, Nat.reduceEqDiff, ↓reduceIte, reduceCtorEq, *]⟩, by rw [e1]; exact g2, by rw [g3, c3], fun k hk => ?_⟩
  have hks : k ≠ s1 := fun e => hk (by rw [e1, e])
  rw [g4 k hks, c4 k hks]

theorem rev_run {v : AVal} {l : List Int} {s : Option Nat} {st : ASt} (hr : IRow st v l s) (hl : l.length ≤ 1000) :
    ∃ st', RetN E 1002 45 [v] st (.tuple []) st' ∧ IRow st' v l.reverse s ∧ st'.ctr = st.ctr ∧ ∀ k, s ≠ some k → st'.heap k = st.heap k := by
  obtain ⟨ts, et, t0, tl⟩ : ∃ ts : List AVal, ([v] ++ List.replicate (Try.f45.ntmps - [v].length) .undef) = ts ∧ ts[0]? = some v ∧ ts.length = 28 := ⟨_, rfl, rfl, rfl⟩
  have hres : ∀ ts st, aresults E Try.f45 ts st = some (.tuple []) := fun _ _ => rfl
  have hh : ∀ t, E.hint 45 t = false := fun _ => rfl
  have q : IntKind.i64.wrap ((l.length : Int) - 1) = (l.length : Int) - 1 - ((0 : Nat) : Int) := by
    simp [IntKind.wrap, IntKind.bits, IntKind.signed]; omega
  obtain ⟨ts1, e1, h1⟩ : ∃ ts', aexec E 45 (run E 1001) (drawB E 45) 1001 (code Try.f45).fst ts st = some (.normal, ts', st) ∧ RvI v l.length 0 ts' := by
    simp only [code, Try.f45, Option.getD_some, Code.fst, Code.snd, Code.inn, aexec, aops, aop, Region.wanted, ayielded, aexecOp, aeval, aput, aseq, ablock, ahint, absOf, flat, nilCheckA, ANext.ofP, evals, evalPs, evalO, aresults, aresults1, aresult, aend, List.getElem?_set, List.length_set, Option.map_some, Option.bind_some, if_true, if_false, ↓reduceIte, Nat.reduceLT, Nat.reduceEqDiff, reduceCtorEq, Bool.false_eq_true, false_and, and_false, and_true, true_and, Nat.reduceAdd, Nat.reduceLeDiff, callA, List.getElem?_toArray, List.getElem?_cons_succ, List.getElem?_cons_zero, sb1, sb2, sb3, sb4, sliceU_i, sliceU_s, sliceU_p, sliceU_l, evalV, hh, t0, tl, irow_len hr, b_sub, q]
    exact ⟨_, rfl, ⟨by simp only [List.getElem?_set, List.length_set, Nat.reduceLT, Nat.reduceEqDiff, ↓reduceIte, reduceCtorEq, *], by simp only [List.getElem?_set, List.length_set, Nat.reduceLT, Nat.reduceEqDiff, ↓reduceIte, reduceCtorEq, *]; rfl, by simp only [List.getElem?_set, List.length_set, Nat.reduceLT, Nat.reduceEqDiff, ↓reduceIte, reduceCtorEq, *], by simp only [List.getElem?_set, List.length_set, Nat.reduceLT, Nat.reduceEqDiff, ↓reduceIte, reduceCtorEq, *]⟩⟩
  obtain ⟨e, ts2, st2, e2, rfl, a1, a2, a3⟩ := aloop_rule (b := aexec E 45 (run E 1001) (drawB E 45) 1001 rvBody)
    (I := fun k ts s' => ∃ i, k + i = l.length ∧ RvI v l.length i ts ∧ IRow s' v (revN l i) s ∧ s'.ctr = st.ctr ∧ ∀ k, s ≠ some k → s'.heap k = st.heap k)
    (Q := fun e ts' s' => e = .exit 0 ∧ IRow s' v l.reverse s ∧ s'.ctr = st.ctr ∧ ∀ k, s ≠ some k → s'.heap k = st.heap k)
    (step := by
      rintro k ts2 s' ⟨i, hi, hI, h2, h3, h4⟩
      by_cases hc : 2 * i + 1 < l.length
      · obtain ⟨ts', st', e, h', g1, g2, g3⟩ := rv_go (run E 1001) 1001 (by omega) h2 hI hc
        exact .inl ⟨ts', st', e, k - 1, by omega, i + 1, by omega, h', g1, by rw [g2, h3], fun k hk => by rw [g3 k hk, h4 k hk]⟩
      · obtain ⟨ts', e⟩ := rv_exit (run E 1001) (drawB E 45) 1001 (st := s') hI (by omega)
        rw [revN_all l i (by omega)] at h2
        exact .inr ⟨_, ts', _, e, by simp, rfl, h2, h3, h4⟩)
    1001 l.length ts1 st ⟨0, by omega, h1, by rw [revN_zero]; exact hr, rfl, fun _ _ => rfl⟩ (by omega)
  refine ⟨st2, RetN.of (n := 1001 + 1) ?_, a1, a2, a3⟩
  have e : code Try.f45 = .seq (code Try.f45).fst (.block 0 (.loop rvBody)) := rfl
  rw [run_code (fn := Try.f45) rfl rfl, et, e]
  simp only [aexec_seq, aexec_block, aexec_loop, e1, aseq, e2, ablock, if_true, aend, hres, Option.map_some]

/-! ### what nodes are tried behind -/
def openAt (l : List Nd) : Nat → Int
  | 0 => 1
  | i + 1 => openAt l i + ((l.getD i default).kd - 1)

theorem getD_nd {l : List Nd} {i : Nat} (h : i < l.length) : l.getD i default = l[i] := by rw [List.getD_eq_getElem?_getD, List.getElem?_eq_getElem h]; rfl

theorem ck_open {l : List Nd} (h : ck l 0 1 = (0, 0)) : ∀ i, i ≤ l.length → ck (l.drop i) i (openAt l i) = (0, 0)
  | 0, _ => h
  | i + 1, hi => by
    have ih := ck_open h i (by omega)
    rw [List.drop_eq_getElem_cons (by omega), ck] at ih
    by_cases h0 : openAt l i = 0
    · rw [if_pos h0] at ih; cases ih
    · rw [if_neg h0] at ih
      by_cases hb : badN l[i] i
      · rw [if_pos hb] at ih; cases ih
      · rw [if_neg hb] at ih
        rw [openAt, getD_nd (by omega)]; exact ih

theorem open_ne {l : List Nd} (h : ck l 0 1 = (0, 0)) {i : Nat} (hi : i < l.length) : openAt l i ≠ 0 := by
  intro h0
  have ih := ck_open h i (by omega)
  rw [List.drop_eq_getElem_cons hi, ck, if_pos h0] at ih
  cases ih
theorem open_end {l : List Nd} (h : ck l 0 1 = (0, 0)) : openAt l l.length ≤ 0 := by
  have ih := ck_open h l.length (Nat.le_refl _)
  rw [List.drop_length, ck] at ih
  by_cases hg : openAt l l.length > 0
  · rw [if_pos hg] at ih
    simp only [Prod.mk.injEq] at ih
    omega
  · omega

def sumC (S : List (Nat × Int)) : Int := (S.map (·.2)).sum
theorem popZ_sum : ∀ S : List (Nat × Int), sumC (popZ S) = sumC S
  | [] => rfl
  | (a, c) :: r => by
    rw [popZ]
    split
    · rename_i h; rw [popZ_sum r]; simp [sumC, h]
    · rfl
theorem popZ_mem : ∀ (S : List (Nat × Int)) p, p ∈ popZ S → p ∈ S
  | [], p, h => h
  | (a, c) :: r, p, h => by
    rw [popZ] at h
    split at h
    · exact List.mem_cons_of_mem _ (popZ_mem r p h)
    · exact h

/-- what holds of the stack -/
theorem par_inv {l : List Nd} (hck : ck l 0 1 = (0, 0)) : ∀ i, 1 ≤ i → i ≤ l.length → sumC (parSt l i).1 = openAt l i ∧ ∀ p ∈ (parSt l i).1, p.1 < i
  | 0, h, _ => by omega
  | i + 1, _, hi => by
    have hget : l[i]? = some l[i] := List.getElem?_eq_getElem (by omega)
    rw [parSt, hget]
    simp only [parStep]
    cases i with
    | zero =>
      simp only [parSt, popZ]
      refine ⟨?_, fun p hp => ?_⟩
      · simp only [openAt, getD_nd (show 0 < l.length by omega)]
        simp [sumC]; omega
      · simp at hp; subst hp; simp
    | succ i =>
      obtain ⟨h1, h2⟩ := par_inv hck (i + 1) (by omega) (by omega)
      have hs := popZ_sum (parSt l (i + 1)).1
      rw [h1] at hs
      rw [openAt, getD_nd (show i + 1 < l.length by omega)]
      cases hS : popZ (parSt l (i + 1)).1 with
      | nil =>
        rw [hS] at hs
        have h0 : openAt l (i + 1) = 0 := by rw [← hs]; rfl
        exact absurd h0 (open_ne hck (by omega))
      | cons p r =>
        obtain ⟨a, c⟩ := p
        rw [hS] at hs
        refine ⟨?_, fun p hp => ?_⟩
        · simp [sumC] at hs ⊢; omega
        · have hm : ∀ p ∈ (a, c) :: r, p.1 < i + 1 := fun p hp => h2 p (popZ_mem _ p (by rw [hS]; exact hp))
          simp only [List.mem_cons] at hp
          rcases hp with rfl | rfl | hp
          · simp
          · have := hm (a, c) (by simp); simp only at this ⊢; omega
          · have := hm p (by simp [hp]); omega

def upAt (l : List Nd) (k : Nat) : Int := match popZ (parSt l k).1 with
  | [] => -1
  | (a, _) :: _ => (a : Int)

theorem par_get' (l : List Nd) (k : Nat) : ∀ j, k < j → j ≤ l.length → (parSt l j).2[k]? = some (upAt l k)
  | 0, h, _ => by omega
  | j + 1, h, hj => by
    have hlen := (par_len l j (by omega)).2
    have hx : (parSt l (j + 1)).2 = (parSt l j).2 ++ [upAt l j] := by
      rw [parSt, List.getElem?_eq_getElem (show j < l.length by omega)]
      simp only [parStep, upAt]
      cases popZ (parSt l j).1 with
      | nil => rfl
      | cons p r => rfl
    rw [hx]
    by_cases hkj : k = j
    · subst hkj
      rw [List.getElem?_append_right (by omega), hlen, Nat.sub_self]; rfl
    · rw [List.getElem?_append_left (by omega)]
      exact par_get' l k j (by omega) (by omega)
theorem par_get {l : List Nd} {k : Nat} (hk : k < l.length) : (par l)[k]? = some (upAt l k) := par_get' l k l.length hk (Nat.le_refl _)
theorem par_length (l : List Nd) : (par l).length = l.length := (par_len l l.length (Nat.le_refl _)).2

theorem up_zero (l : List Nd) : upAt l 0 = -1 := rfl
theorem up_lt {l : List Nd} (hck : ck l 0 1 = (0, 0)) {k : Nat} (h0 : 0 < k) (hk : k < l.length) : ∃ m : Nat, upAt l k = m ∧ m < k := by
  obtain ⟨h1, h2⟩ := par_inv hck k h0 (by omega)
  have hs := popZ_sum (parSt l k).1
  rw [h1] at hs
  unfold upAt
  cases hS : popZ (parSt l k).1 with
  | nil =>
    rw [hS] at hs
    exact absurd hs.symm (open_ne hck hk)
  | cons p r =>
    obtain ⟨a, c⟩ := p
    exact ⟨a, rfl, h2 (a, c) (popZ_mem _ _ (by rw [hS]; simp))⟩

/-- the way up -/
def chain (l : List Nd) : Nat → Nat → List Nat
  | 0, _ => []
  | f + 1, k => if k = 0 then [] else k :: chain l f (upAt l k).toNat
def thAt (l : List Nd) (k : Nat) : Int := (l.getD k default).th
/-- the threads on the way to a node -/
def pathN (l : List Nd) (k : Nat) : List Int := ((chain l (k + 1) k).map (thAt l)).reverse
def pathF (l : List Nd) (i : Int) : List Int := if 0 ≤ i ∧ i < l.length then pathN l i.toNat else []

theorem chain_more {l : List Nd} (hck : ck l 0 1 = (0, 0)) : ∀ (f g k : Nat), k < f → k < g → k < l.length → chain l f k = chain l g k
  | 0, _, k, h, _, _ => by omega
  | f + 1, 0, k, _, h, _ => by omega
  | f + 1, g + 1, k, hf, hg, hk => by
    rw [chain, chain]
    by_cases h0 : k = 0
    · rw [if_pos h0, if_pos h0]
    · rw [if_neg h0, if_neg h0]
      obtain ⟨m, e, hm⟩ := up_lt hck (by omega) hk
      rw [e, Int.toNat_natCast, chain_more hck f g m (by omega) (by omega) (by omega)]

/-- a node's path is that of the one that it comes behind, and its own thread -/
theorem path_up {l : List Nd} (hck : ck l 0 1 = (0, 0)) {k : Nat} (h0 : 0 < k) (hk : k < l.length) : pathF l k = pathF l (upAt l k) ++ [thAt l k] := by
  obtain ⟨m, e, hm⟩ := up_lt hck h0 hk
  unfold pathF
  rw [e, if_pos ⟨by omega, by omega⟩, if_pos ⟨by omega, by omega⟩, Int.toNat_natCast, Int.toNat_natCast]
  unfold pathN
  rw [chain, if_neg (by omega), e, Int.toNat_natCast, chain_more hck k (m + 1) m hm (by omega) (by omega)]
  simp

end Go.Proofs.YtnndngoanknemaaV
