/- Parents, walked: its contract. No condition. -/
import Derived.Test.YtnndngoanknemaaN8
namespace Go.Proofs.YtnndngoanknemaaV
open Go Go.RowKit Go.Proofs.YtnndngoanknemaaA
set_option linter.unusedVariables false
set_option linter.unusedSimpArgs false
set_option maxRecDepth 100000

theorem bs_int (x : Int) (st : ASt) : buildSliceA E.P false 74 1 [(0, .lit (.int .i64 x))] st = some (.islice 1 [.lit (.int .i64 x)] .exact, st) := rfl

def dOut (S : List (Nat × Int)) (out : List Int) : List Int := match S with
  | [] => out ++ [-1]
  | (x, _) :: _ => out ++ [(x : Int)]
def dTop (S : List (Nat × Int)) : List (Nat × Int) := match S with
  | [] => []
  | (x, k) :: r => (x, k - 1) :: r
theorem dTop_len (S : List (Nat × Int)) : (dTop S).length = S.length := by
  cases S with
  | nil => rfl
  | cons p r => rfl

theorem pa7 (call : ACall) (dr : Array Oper → Bool) (n : Nat) {base st : ASt} {v outv ov lv nv : AVal} {out : List Int} {S : List (Nat × Int)} {a b c : Option Nat} {len i s7 : Nat} {nd : Nd} {ts : List AVal} (h : PaS v outv ov lv len i ts) (hH : PaH base st outv out ov lv S a b c) (hS : popZ S = S)
    (t6 : ts[6]? = some (.lit (.int .i64 i))) (t7 : ts[7]? = some nv) (h7 : st.heap s7 = some (.cells nd.cs)) (l7 : s7 < st.ctr) (n7 : a ≠ some s7 ∧ b ≠ some s7 ∧ c ≠ some s7) (hol : out.length ≤ 999) :
    ∃ ts' st' outv' a', aexec E 44 call dr n paR7 ts st = some (.normal, ts', st') ∧ PaS v outv' ov lv len i ts' ∧ ts'[6]? = some (.lit (.int .i64 i)) ∧ ts'[7]? = some nv ∧ st'.heap s7 = some (.cells nd.cs) ∧ s7 < st'.ctr ∧ (a' ≠ some s7 ∧ b ≠ some s7 ∧ c ≠ some s7) ∧
      PaH base st' outv' (dOut S out) ov lv (dTop S) a' b c := by
  obtain ⟨t0, t3, t4, t5, t8, t9, t10, tl⟩ := h
  have h34 : E.hint 44 35 = false := rfl
  have h36 : E.hint 44 36 = true := rfl
  have h44 : E.hint 44 44 = false := rfl
  have h45 : E.hint 44 45 = true := rfl
  have L1 := fun mt ty cs s2 => irow_len hH.r1 mt ty cs s2
  have L2 := fun mt ty cs s2 => irow_len hH.r2 mt ty cs s2
  rw [opens_len] at L1
  rw [lefts_len] at L2
  have hSl := hH.len
  cases S with
  | nil =>
    obtain ⟨outv', st', e1, w1, w2, w3⟩ := irow_app hH.r0 (by omega) (-1) .exact
    have a1 : ((([] : List (Nat × Int)).length : Int) == 0) = true := rfl
    simp only [paR7, paBody, paIn, code, Try.f44, Option.getD_some, Code.fst, Code.snd, Code.inn, aexec, aops, aop, Region.wanted, ayielded, aexecOp, aeval, aput, aseq, ablock, ahint, absOf, flat, nilCheckA, ANext.ofP, evals, evalPs, evalO, aresults, aresults1, aresult, aend, List.getElem?_set, List.length_set, Option.map_some, Option.bind_some, if_true, if_false, ↓reduceIte, Nat.reduceLT, Nat.reduceEqDiff, reduceCtorEq, Bool.false_eq_true, false_and, and_false, and_true, true_and, Nat.reduceAdd, Nat.reduceLeDiff, callA, List.getElem?_toArray, List.getElem?_cons_succ, List.getElem?_cons_zero, sb1, sb2, sb3, sb4, sliceU_i, sliceU_s, sliceU_p, sliceU_l, evalV, t0, t3, t4, t5, t8, t9, t10, tl, L1, b_eql, a1, h34, h36, bs_int, b_app, e1]
    have nb : ∀ k, b = some k → st'.heap k = st.heap k := fun k e => w3 k (irow_lt hH.r1 k e) (fun e2 => hH.ab k e2 e)
    have nc : ∀ k, c = some k → st'.heap k = st.heap k := fun k e => w3 k (irow_lt hH.r2 k e) (fun e2 => hH.ac k e2 e)
    refine ⟨_, st', outv', some st.ctr, rfl, ⟨by simp only [List.getElem?_set, List.length_set, Nat.reduceLT, Nat.reduceEqDiff, ↓reduceIte, reduceCtorEq, *], by simp only [List.getElem?_set, List.length_set, Nat.reduceLT, Nat.reduceEqDiff, ↓reduceIte, reduceCtorEq, *], by simp only [List.getElem?_set, List.length_set, Nat.reduceLT, Nat.reduceEqDiff, ↓reduceIte, reduceCtorEq, *], by simp only [List.getElem?_set, List.length_set, Nat.reduceLT, Nat.reduceEqDiff, ↓reduceIte, reduceCtorEq, *], by simp only [List.getElem?_set, List.length_set, Nat.reduceLT, Nat.reduceEqDiff, ↓reduceIte, reduceCtorEq, *], by simp only [List.getElem?_set, List.length_set, Nat.reduceLT, Nat.reduceEqDiff, ↓reduceIte, reduceCtorEq, *], by simp only [List.getElem?_set, List.length_set, Nat.reduceLT, Nat.reduceEqDiff, ↓reduceIte, reduceCtorEq, *], by simp only [List.getElem?_set, List.length_set, Nat.reduceLT, Nat.reduceEqDiff, ↓reduceIte, reduceCtorEq, *]⟩, by simp only [List.getElem?_set, List.length_set, Nat.reduceLT, Nat.reduceEqDiff, ↓reduceIte, reduceCtorEq, *], by simp only [List.getElem?_set, List.length_set, Nat.reduceLT, Nat.reduceEqDiff, ↓reduceIte, reduceCtorEq, *], by rw [w3 s7 l7 n7.1]; exact h7, by omega, ⟨fun e => by cases e; omega, n7.2.1, n7.2.2⟩, ?_⟩
    exact ⟨w1, hH.r1.gr (by omega) nb, hH.r2.gr (by omega) nc, fun k e e2 => by cases e; have := irow_lt hH.r1 _ e2; omega, fun k e e2 => by cases e; have := irow_lt hH.r2 _ e2; omega, hH.bc, fun k e => by cases e; exact hH.gr.1, hH.fb, hH.fc,
      ⟨by have := hH.gr.1; omega, fun j hj => by rw [w3 j (by have := hH.gr.1; omega) (fun e => by have := hH.fa j e; omega)]; exact hH.gr.2 j hj⟩, by simp [dTop], by simp [dOut]; omega, fun p hp => by cases hp⟩
  | cons p r =>
    obtain ⟨x, k⟩ := p
    have hk : k ≠ 0 := by
      intro e
      rw [popZ, if_pos e] at hS
      have hle : ∀ S : List (Nat × Int), (popZ S).length ≤ S.length := by
        intro S
        induction S with
        | nil => simp [popZ]
        | cons p r ih =>
          obtain ⟨x, c⟩ := p
          rw [popZ]
          split
          · simp; omega
          · simp
      have := congrArg List.length hS
      have h2 := hle r
      simp at this
      omega
    have hcnt := hH.cnt (x, k) (by simp)
    simp only at hcnt
    have r1 := hH.r1
    have r2 := hH.r2
    rw [opens_cons] at r1
    rw [lefts_cons] at r2
    obtain ⟨s1, f1, f2, f3⟩ := irow_last r1
    rw [opens_len] at f2 f3
    obtain ⟨outv', st1, e1, w1, w2, w3⟩ := irow_app hH.r0 (by omega) ((x : Nat) : Int) .exact
    have nb : ∀ k, b = some k → st1.heap k = st.heap k := fun k e => w3 k (irow_lt hH.r1 k e) (fun e2 => hH.ab k e2 e)
    have nc : ∀ k, c = some k → st1.heap k = st.heap k := fun k e => w3 k (irow_lt hH.r2 k e) (fun e2 => hH.ac k e2 e)
    have r2' := r2.gr (st' := st1) (by omega) nc
    obtain ⟨s2, g1, g2, g3⟩ := irow_last r2'
    rw [lefts_len] at g2 g3
    rw [g1] at r2'
    obtain ⟨st2, e2, z1, z2, z3⟩ := irow_store r2' (i := r.length) (by rw [List.length_append, lefts_len]; simp) (k - 1)
    have hset : (lefts r ++ [k]).set r.length (k - 1) = lefts ((x, k - 1) :: r) := by
      rw [lefts_cons, List.set_append_right _ _ (by rw [lefts_len]; exact Nat.le_refl _), lefts_len, Nat.sub_self]; rfl
    simp only at z1
    rw [hset] at z1
    simp at hSl
    have a1 : ((((x, k) :: r).length : Int) == 0) = false := by rw [beq_eq_false_iff_ne]; simp; omega
    have q : IntKind.i64.wrap ((((x, k) :: r).length : Int) - 1) = ((r.length : Nat) : Int) := by
      simp [IntKind.wrap, IntKind.bits, IntKind.signed]; omega
    have q2 : IntKind.i64.wrap (k - 1) = k - 1 := by
      simp [IntKind.wrap, IntKind.bits, IntKind.signed]; omega
    simp only [paR7, paBody, paIn, code, Try.f44, Option.getD_some, Code.fst, Code.snd, Code.inn, aexec, aops, aop, Region.wanted, ayielded, aexecOp, aeval, aput, aseq, ablock, ahint, absOf, flat, nilCheckA, ANext.ofP, evals, evalPs, evalO, aresults, aresults1, aresult, aend, List.getElem?_set, List.length_set, Option.map_some, Option.bind_some, if_true, if_false, ↓reduceIte, Nat.reduceLT, Nat.reduceEqDiff, reduceCtorEq, Bool.false_eq_true, false_and, and_false, and_true, true_and, Nat.reduceAdd, Nat.reduceLeDiff, callA, List.getElem?_toArray, List.getElem?_cons_succ, List.getElem?_cons_zero, sb1, sb2, sb3, sb4, sliceU_i, sliceU_s, sliceU_p, sliceU_l, evalV, t0, t3, t4, t5, t8, t9, t10, tl, L1, L2, b_eql, a1, h44, h45, b_sub, q, f2, f3, bs_int, b_app, e1, g2, g3, q2, e2]
    have nb2 : ∀ k, b = some k → st2.heap k = st.heap k := fun k e => by rw [z3 k (fun e2 => hH.bc k e (by rw [g1, e2]))]; exact nb k e
    refine ⟨_, st2, outv', some st.ctr, rfl, ⟨by simp only [List.getElem?_set, List.length_set, Nat.reduceLT, Nat.reduceEqDiff, ↓reduceIte, reduceCtorEq, *], by simp only [List.getElem?_set, List.length_set, Nat.reduceLT, Nat.reduceEqDiff, ↓reduceIte, reduceCtorEq, *], by simp only [List.getElem?_set, List.length_set, Nat.reduceLT, Nat.reduceEqDiff, ↓reduceIte, reduceCtorEq, *], by simp only [List.getElem?_set, List.length_set, Nat.reduceLT, Nat.reduceEqDiff, ↓reduceIte, reduceCtorEq, *], by simp only [List.getElem?_set, List.length_set, Nat.reduceLT, Nat.reduceEqDiff, ↓reduceIte, reduceCtorEq, *], by simp only [List.getElem?_set, List.length_set, Nat.reduceLT, Nat.reduceEqDiff, ↓reduceIte, reduceCtorEq, *], by simp only [List.getElem?_set, List.length_set, Nat.reduceLT, Nat.reduceEqDiff, ↓reduceIte, reduceCtorEq, *], by simp only [List.getElem?_set, List.length_set, Nat.reduceLT, Nat.reduceEqDiff, ↓reduceIte, reduceCtorEq, *]⟩, by simp only [List.getElem?_set, List.length_set, Nat.reduceLT, Nat.reduceEqDiff, ↓reduceIte, reduceCtorEq, *], by simp only [List.getElem?_set, List.length_set, Nat.reduceLT, Nat.reduceEqDiff, ↓reduceIte, reduceCtorEq, *], ?_, by omega, ⟨fun e => by cases e; omega, n7.2.1, n7.2.2⟩, ?_⟩
    · rw [z3 s7 (fun e => n7.2.2 (by rw [g1, e])), w3 s7 l7 n7.1]; exact h7
    · have hc0 : s2 ≠ st.ctr := fun e => by have := irow_lt hH.r2 _ g1; omega
      refine ⟨w1.gr (by omega) (fun k e => by cases e; exact z3 _ (Ne.symm hc0)), ?_, by rw [g1]; exact z1, fun k e e2 => by cases e; have := irow_lt hH.r1 _ e2; omega, fun k e e2 => by cases e; have := irow_lt hH.r2 _ e2; omega, hH.bc, fun k e => by cases e; exact hH.gr.1, hH.fb, hH.fc,
        ⟨by have := hH.gr.1; omega, fun j hj => ?_⟩, by simp [dTop]; omega, by simp [dOut]; omega, fun p hp => ?_⟩
      · have := hH.r1.gr (st' := st2) (by omega) nb2
        show IRow st2 ov (opens ((x, k - 1) :: r)) b
        rw [opens_cons] at this ⊢
        exact this
      · rw [z3 j (fun e => by have := hH.fc _ g1; omega), w3 j (by have := hH.gr.1; omega) (fun e => by have := hH.fa j e; omega)]; exact hH.gr.2 j hj
      · rcases List.mem_cons.1 hp with rfl | hp
        · simp only; omega
        · exact hH.cnt p (List.mem_cons_of_mem _ hp)

set_option maxHeartbeats 1000000 in
theorem pa11 (call : ACall) (n : Nat) {base st : ASt} {v outv ov lv : AVal} {out : List Int} {S : List (Nat × Int)} {a b c : Option Nat} {len i s7 : Nat} {nd : Nd} {ts : List AVal} (h : PaS v outv ov lv len i ts) (hH : PaH base st outv out ov lv S a b c)
    (t6 : ts[6]? = some (.lit (.int .i64 i))) (t7 : ts[7]? = some (.ptr s7 0)) (h7 : st.heap s7 = some (.cells nd.cs)) (l7 : s7 < st.ctr) (n7 : a ≠ some s7 ∧ b ≠ some s7 ∧ c ≠ some s7) (hSl : S.length ≤ 999) (hk : 0 ≤ nd.kd ∧ nd.kd ≤ 6) :
    ∃ ts' st' ov' lv' b' c', aexec E 44 call (drawB E 44) n paR11 ts st = some (.normal, ts', st') ∧ PaS v outv ov' lv' len i ts' ∧ PaH base st' outv out ov' lv' ((i, nd.kd) :: S) a b' c' := by
  obtain ⟨t0, t3, t4, t5, t8, t9, t10, tl⟩ := h
  have d1 : drawB E 44 paR11.ops = false := by kernel_rfl
  have p1 : drawPlan E 44 paR11.ops = some [.one 0 [], .one 1 [], .one 2 [], .one 4 [], .one 5 [], .one 6 [], .one 7 [], .one 3 [6, 7], .one 8 [], .one 9 [], .one 10 []] := by kernel_rfl
  simp only [paR11, paBody, paIn, code, Try.f44, Option.getD_some, Code.fst, Code.snd, Code.inn, Code.ops] at d1 p1
  have h56 : E.hint 44 56 = false := rfl
  have h57 : E.hint 44 57 = true := rfl
  have h61 : E.hint 44 61 = false := rfl
  have h62 : E.hint 44 62 = true := rfl
  obtain ⟨f0, f1, f2, f3⟩ := fldN1 s7
  obtain ⟨l0, l1, l2, l3, l4⟩ := ldN1 h7
  obtain ⟨ov', st1, e1, w1, w2, w3⟩ := irow_app hH.r1 (by rw [opens_len]; omega) ((i : Nat) : Int) .exact
  have h71 : st1.heap s7 = some (.cells nd.cs) := by rw [w3 s7 l7 n7.2.1]; exact h7
  obtain ⟨m0, m1, m2, m3, m4⟩ := ldN1 h71
  have nc : ∀ k, c = some k → st1.heap k = st.heap k := fun k e => w3 k (irow_lt hH.r2 k e) (fun e2 => hH.bc k e2 e)
  have na : ∀ k, a = some k → st1.heap k = st.heap k := fun k e => w3 k (irow_lt hH.r0 k e) (fun e2 => hH.ab k e e2)
  obtain ⟨lv', st2, e2, z1, z2, z3⟩ := irow_app (hH.r2.gr (st' := st1) (by omega) nc) (by rw [lefts_len]; omega) nd.kd .exact
  simp only [paR11, paBody, paIn, code, Try.f44, Option.getD_some, Code.fst, Code.snd, Code.inn, aexec, aops, aop, Region.wanted, ayielded, aexecOp, aeval, aput, aseq, ablock, ahint, absOf, flat, nilCheckA, ANext.ofP, evals, evalPs, evalO, aresults, aresults1, aresult, aend, List.getElem?_set, List.length_set, Option.map_some, Option.bind_some, if_true, if_false, ↓reduceIte, Nat.reduceLT, Nat.reduceEqDiff, reduceCtorEq, Bool.false_eq_true, false_and, and_false, and_true, true_and, Nat.reduceAdd, Nat.reduceLeDiff, callA, List.getElem?_toArray, List.getElem?_cons_succ, List.getElem?_cons_zero, sb1, sb2, sb3, sb4, sliceU_i, sliceU_s, sliceU_p, sliceU_l, evalV, t0, t3, t4, t5, t6, t7, t8, t9, t10, tl, d1, p1, and_self, aopsP, Stills, Still, forall_const, Option.isSome_some, eq_self, h56, h57, h61, h62, bs_int, b_app, f3, l4, m4, e1, e2]
  refine ⟨_, st2, ov', lv', some st.ctr, some st1.ctr, rfl, ⟨by simp only [List.getElem?_set, List.length_set, Nat.reduceLT, Nat.reduceEqDiff, ↓reduceIte, reduceCtorEq, *], by simp only [List.getElem?_set, List.length_set, Nat.reduceLT, Nat.reduceEqDiff, ↓reduceIte, reduceCtorEq, *], by simp only [List.getElem?_set, List.length_set, Nat.reduceLT, Nat.reduceEqDiff, ↓reduceIte, reduceCtorEq, *], by simp only [List.getElem?_set, List.length_set, Nat.reduceLT, Nat.reduceEqDiff, ↓reduceIte, reduceCtorEq, *], by simp only [List.getElem?_set, List.length_set, Nat.reduceLT, Nat.reduceEqDiff, ↓reduceIte, reduceCtorEq, *], by simp only [List.getElem?_set, List.length_set, Nat.reduceLT, Nat.reduceEqDiff, ↓reduceIte, reduceCtorEq, *], by simp only [List.getElem?_set, List.length_set, Nat.reduceLT, Nat.reduceEqDiff, ↓reduceIte, reduceCtorEq, *], by simp only [List.getElem?_set, List.length_set, Nat.reduceLT, Nat.reduceEqDiff, ↓reduceIte, reduceCtorEq, *]⟩, ?_⟩
  have la := irow_lt hH.r0
  refine ⟨hH.r0.gr (by omega) (fun k e => by rw [z3 k (by have := la k e; omega) (hH.ac k e)]; exact na k e), ?_, by rw [lefts_cons]; exact z1, fun k e e2 => by cases e2; have := la _ e; omega, fun k e e2 => by cases e2; have := la _ e; omega, fun k e e2 => by have e3 := e.trans e2.symm; simp only [Option.some.injEq] at e3; omega, hH.fa, fun k e => by cases e; exact hH.gr.1, fun k e => by cases e; have := hH.gr.1; omega,
    ⟨by have := hH.gr.1; omega, fun j hj => ?_⟩, by simp; omega, hH.ol, fun p hp => ?_⟩
  · rw [opens_cons]
    exact w1.gr (by omega) (fun k e => by cases e; exact z3 _ (by omega) (fun e2 => by have := irow_lt hH.r2 _ e2; omega))
  · have hg := hH.gr.1
    rw [z3 j (by omega) (fun e => by have := hH.fc j e; omega), w3 j (by omega) (fun e => by have := hH.fb j e; omega)]; exact hH.gr.2 j hj
  · rcases List.mem_cons.1 hp with rfl | hp
    · exact hk
    · exact hH.cnt p hp

theorem pa12 (call : ACall) (dr : Array Oper → Bool) (n : Nat) {v outv ov lv : AVal} {len i : Nat} {ts : List AVal} {st : ASt} (h : PaS v outv ov lv len i ts) (hi : i ≤ 1000) :
    ∃ ts', aexec E 44 call dr n paR12 ts st = some (.normal, ts', st) ∧ PaS v outv ov lv len (i + 1) ts' := by
  obtain ⟨t0, t3, t4, t5, t8, t9, t10, tl⟩ := h
  have q1 : IntKind.i64.wrap ((i : Int) + 1) = ((i + 1 : Nat) : Int) := by
    simp [IntKind.wrap, IntKind.bits, IntKind.signed]; omega
  simp only [paR12, paBody, paIn, code, Try.f44, Option.getD_some, Code.fst, Code.snd, Code.inn, aexec, aops, aop, Region.wanted, ayielded, aexecOp, aeval, aput, aseq, ablock, ahint, absOf, flat, nilCheckA, ANext.ofP, evals, evalPs, evalO, aresults, aresults1, aresult, aend, List.getElem?_set, List.length_set, Option.map_some, Option.bind_some, if_true, if_false, ↓reduceIte, Nat.reduceLT, Nat.reduceEqDiff, reduceCtorEq, Bool.false_eq_true, false_and, and_false, and_true, true_and, Nat.reduceAdd, Nat.reduceLeDiff, callA, List.getElem?_toArray, List.getElem?_cons_succ, List.getElem?_cons_zero, sb1, sb2, sb3, sb4, sliceU_i, sliceU_s, sliceU_p, sliceU_l, evalV, t0, t3, t4, t5, t8, t9, t10, tl, b_add, q1]
  exact ⟨_, rfl, ⟨by simp only [List.getElem?_set, List.length_set, Nat.reduceLT, Nat.reduceEqDiff, ↓reduceIte, reduceCtorEq, *], by simp only [List.getElem?_set, List.length_set, Nat.reduceLT, Nat.reduceEqDiff, ↓reduceIte, reduceCtorEq, *], by simp only [List.getElem?_set, List.length_set, Nat.reduceLT, Nat.reduceEqDiff, ↓reduceIte, reduceCtorEq, *], by simp only [List.getElem?_set, List.length_set, Nat.reduceLT, Nat.reduceEqDiff, ↓reduceIte, reduceCtorEq, *], by simp only [List.getElem?_set, List.length_set, Nat.reduceLT, Nat.reduceEqDiff, ↓reduceIte, reduceCtorEq, *], by simp only [List.getElem?_set, List.length_set, Nat.reduceLT, Nat.reduceEqDiff, ↓reduceIte, reduceCtorEq, *], by simp only [List.getElem?_set, List.length_set, Nat.reduceLT, Nat.reduceEqDiff, ↓reduceIte, reduceCtorEq, *], by simp only [List.getElem?_set, List.length_set, Nat.reduceLT, Nat.reduceEqDiff, ↓reduceIte, reduceCtorEq, *]⟩⟩

theorem popZ_len : ∀ S : List (Nat × Int), (popZ S).length ≤ S.length
  | [] => Nat.le_refl _
  | (a, c) :: r => by
    have := popZ_len r
    rw [popZ]
    split
    · simp; omega
    · exact Nat.le_refl _

theorem par_len (l : List Nd) : ∀ i, i ≤ l.length → (parSt l i).1.length ≤ i ∧ (parSt l i).2.length = i
  | 0, h => ⟨by simp [parSt], by simp [parSt]⟩
  | i + 1, h => by
    obtain ⟨h1, h2⟩ := par_len l i (by omega)
    rw [parSt, List.getElem?_eq_getElem (by omega)]
    simp only [parStep]
    have := popZ_len (parSt l i).1
    split
    · simp [h2]
    · rename_i a c r e
      rw [e] at this
      simp at this ⊢
      omega

theorem pa_round (N : Nat) (hN : 1 ≤ N) (n : Nat) (hn : 1000 < n) {base st : ASt} {v outv ov lv : AVal} {l : List Nd} {a b c : Option Nat} {i : Nat} {ts : List AVal} (hp : PS st v l) (hl : l.length ≤ 900) (hk : ∀ nd ∈ l, 0 ≤ nd.kd ∧ nd.kd ≤ 6) (hile : i ≤ l.length)
    (h : PaS v outv ov lv l.length i ts) (hH : PaH base st outv (parSt l i).2 ov lv (parSt l i).1 a b c) :
    (i = l.length → ∃ ts', aexec E 44 (run E N) (drawB E 44) n paBody ts st = some (.exit 0, ts', st) ∧ PaS v outv ov lv l.length i ts') ∧
    (i < l.length → ∃ ts' st' outv' ov' lv' a' b' c', aexec E 44 (run E N) (drawB E 44) n paBody ts st = some (.normal, ts', st') ∧ PaS v outv' ov' lv' l.length (i + 1) ts' ∧ PaH base st' outv' (parSt l (i + 1)).2 ov' lv' (parSt l (i + 1)).1 a' b' c') := by
  obtain ⟨ts1, e1, h1, d1⟩ := pa3 (run E N) (drawB E 44) n (st := st) h
  refine ⟨fun hi => ⟨ts1, ?_, h1⟩, fun hi => ?_⟩
  · rw [decide_eq_false (by omega)] at d1
    simp only [pa_body, aexec_seq, aexec_block, aexec_cond, aexec_exit, aexec_skip, e1, aseq, aeval, d1]
  · rw [decide_eq_true hi] at d1
    obtain ⟨ts2, e2, h2, u6, u7⟩ := pa4 (run E N) (drawB E 44) n hp hi h1
    obtain ⟨ts3, ov3, lv3, e3, h3, H3, v6, v7⟩ := pa_pops N hN (drawB E 44) n hn h2 (hH.laid l[i]) u6 u7
    obtain ⟨q1, q2⟩ := par_len l i (by omega)
    have n7 : a ≠ some st.ctr ∧ b ≠ some st.ctr ∧ c ≠ some st.ctr := ⟨fun e => by have := irow_lt hH.r0 _ e; omega, fun e => by have := irow_lt hH.r1 _ e; omega, fun e => by have := irow_lt hH.r2 _ e; omega⟩
    obtain ⟨ts4, st4, outv4, a4, e4, h4, w6, w7, k7, l7, n7', H4⟩ := pa7 (run E N) (drawB E 44) n h3 H3 (popZ_idem _) v6 v7 (laidN_at st l[i]) (by rw [laidN_ctr]; omega) n7 (by omega)
    have hpl := popZ_len (parSt l i).1
    obtain ⟨ts5, st5, ov5, lv5, b5, c5, e5, h5, H5⟩ := pa11 (run E N) n h4 H4 w6 w7 k7 l7 n7' (by rw [dTop_len]; omega) (hk _ (List.getElem_mem hi))
    obtain ⟨ts6, e6, h6⟩ := pa12 (run E N) (drawB E 44) n (st := st5) h5 (by omega)
    refine ⟨ts6, st5, outv4, ov5, lv5, a4, b5, c5, ?_, h6, ?_⟩
    · simp only [pa_body, aexec_seq, aexec_block, aexec_loop, aexec_cond, aexec_skip, e1, e2, e3, e4, e5, e6, aseq, ablock, if_true, aeval, d1]
    · rw [parSt, List.getElem?_eq_getElem hi]
      have e : parStep (parSt l i) i l[i].kd = ((i, l[i].kd) :: dTop (popZ (parSt l i).1), dOut (popZ (parSt l i).1) (parSt l i).2) := by
        unfold parStep
        cases popZ (parSt l i).1 with
        | nil => rfl
        | cons p r => rfl
      simp only [e]
      exact H5

noncomputable def paPre : Code := .seq (code Try.f44).fst (.seq (code Try.f44).snd.fst (code Try.f44).snd.snd.fst.fst)
noncomputable def paEnd : Code := (code Try.f44).snd.snd.snd
theorem pa_parts (call : ACall) (dr : Array Oper → Bool) (n : Nat) (ts : List AVal) (st : ASt) : aexec E 44 call dr n (code Try.f44) ts st =
    aseq (aexec E 44 call dr n paPre ts st) fun ts st => aseq (ablock 0 (aloop (aexec E 44 call dr n paBody) n ts st)) (aexec E 44 call dr n paEnd) := by
  have e : code Try.f44 = .seq (code Try.f44).fst (.seq (code Try.f44).snd.fst (.seq (.seq (code Try.f44).snd.snd.fst.fst (.block 0 (.loop paBody))) paEnd)) := rfl
  rw [e, paPre]
  simp only [aexec_seq, aexec_block, aexec_loop, aseq_assoc]

/-- Parents' contract -/
theorem par_run {v : AVal} {l : List Nd} {st : ASt} (hp : PS st v l) (hl : l.length ≤ 900) (hk : ∀ nd ∈ l, 0 ≤ nd.kd ∧ nd.kd ≤ 6) :
    ∃ v' st' s, RetN E 1002 44 [v] st v' st' ∧ IRow st' v' (par l) s ∧ Gr st st' ∧ (∀ k, s = some k → st.ctr ≤ k) := by
  obtain ⟨ts, et, t0, tl⟩ : ∃ ts : List AVal, ([v] ++ List.replicate (Try.f44.ntmps - [v].length) .undef) = ts ∧ ts[0]? = some v ∧ ts.length = 65 := ⟨_, rfl, rfl, rfl⟩
  have hres : ∀ ts st v, ts[2]? = some v → aresults E Try.f44 ts st = some v := by
    intro ts st v h
    unfold aresults
    simp only [Try.f44, aresults1, aresult, h]
  obtain ⟨ts1, e1, h1⟩ : ∃ ts', aexec E 44 (run E 1001) (drawB E 44) 1001 paPre ts st = some (.normal, ts', st) ∧ PaS v .nilSlice .nilSlice .nilSlice l.length 0 ts' := by
    simp only [paPre, code, Try.f44, Option.getD_some, Code.fst, Code.snd, Code.inn, aexec, aops, aop, Region.wanted, ayielded, aexecOp, aeval, aput, aseq, ablock, ahint, absOf, flat, nilCheckA, ANext.ofP, evals, evalPs, evalO, aresults, aresults1, aresult, aend, List.getElem?_set, List.length_set, Option.map_some, Option.bind_some, if_true, if_false, ↓reduceIte, Nat.reduceLT, Nat.reduceEqDiff, reduceCtorEq, Bool.false_eq_true, false_and, and_false, and_true, true_and, Nat.reduceAdd, Nat.reduceLeDiff, callA, List.getElem?_toArray, List.getElem?_cons_succ, List.getElem?_cons_zero, sb1, sb2, sb3, sb4, sliceU_i, sliceU_s, sliceU_p, sliceU_l, evalV, t0, tl, ps_len hp]
    exact ⟨_, rfl, ⟨by simp only [List.getElem?_set, List.length_set, Nat.reduceLT, Nat.reduceEqDiff, ↓reduceIte, reduceCtorEq, *], by simp only [List.getElem?_set, List.length_set, Nat.reduceLT, Nat.reduceEqDiff, ↓reduceIte, reduceCtorEq, *]; rfl, by simp only [List.getElem?_set, List.length_set, Nat.reduceLT, Nat.reduceEqDiff, ↓reduceIte, reduceCtorEq, *]; rfl, by simp only [List.getElem?_set, List.length_set, Nat.reduceLT, Nat.reduceEqDiff, ↓reduceIte, reduceCtorEq, *]; rfl, by simp only [List.getElem?_set, List.length_set, Nat.reduceLT, Nat.reduceEqDiff, ↓reduceIte, reduceCtorEq, *], by simp only [List.getElem?_set, List.length_set, Nat.reduceLT, Nat.reduceEqDiff, ↓reduceIte, reduceCtorEq, *], by simp only [List.getElem?_set, List.length_set, Nat.reduceLT, Nat.reduceEqDiff, ↓reduceIte, reduceCtorEq, *]; rfl, by simp only [List.getElem?_set, List.length_set, Nat.reduceLT, Nat.reduceEqDiff, ↓reduceIte, reduceCtorEq, *]⟩⟩
  have key := aloop_rule (b := aexec E 44 (run E 1001) (drawB E 44) 1001 paBody)
    (I := fun k ts s => ∃ i outv ov lv a b c, k + i = l.length ∧ PaS v outv ov lv l.length i ts ∧ PaH st s outv (parSt l i).2 ov lv (parSt l i).1 a b c)
    (Q := fun e ts' s => e = .exit 0 ∧ ∃ outv ov lv a b c, PaS v outv ov lv l.length l.length ts' ∧ PaH st s outv (par l) ov lv (parSt l l.length).1 a b c)
    (step := by
      rintro k ts2 s ⟨i, outv, ov, lv, a, b, c, hi, hI, hH⟩
      have hr := pa_round 1001 (by omega) 1001 (by omega) (hp.gr hH.gr) hl hk (by omega) hI hH
      by_cases he : i = l.length
      · obtain ⟨ts', e, h'⟩ := hr.1 he
        subst he
        exact .inr ⟨_, ts', _, e, by simp, rfl, outv, ov, lv, a, b, c, h', hH⟩
      · obtain ⟨ts', st', outv', ov', lv', a', b', c', e, h', H'⟩ := hr.2 (by omega)
        exact .inl ⟨ts', st', e, k - 1, by omega, i + 1, outv', ov', lv', a', b', c', by omega, h', H'⟩)
    1001 l.length ts1 st ⟨0, .nilSlice, .nilSlice, .nilSlice, none, none, none, by omega, h1, ⟨⟨rfl, rfl⟩, ⟨rfl, rfl⟩, ⟨rfl, rfl⟩, fun k e => (by cases e), fun k e => (by cases e), fun k e => (by cases e), fun k e => (by cases e), fun k e => (by cases e), fun k e => (by cases e), Gr.refl st, by simp [parSt], by simp [parSt], fun p hp => by simp [parSt] at hp⟩⟩ (by omega)
  obtain ⟨e, ts2, st2, e2, rfl, outv, ov, lv, a, b, c, h2, H2⟩ := key
  obtain ⟨ts3, e3, a2⟩ : ∃ ts', aexec E 44 (run E 1001) (drawB E 44) 1001 paEnd ts2 st2 = some (.ret, ts', st2) ∧ ts'[2]? = some outv := by
    obtain ⟨u0, u3, u4, u5, u8, u9, u10, ul⟩ := h2
    simp only [paEnd, code, Try.f44, Option.getD_some, Code.fst, Code.snd, Code.inn, aexec, aops, aop, Region.wanted, ayielded, aexecOp, aeval, aput, aseq, ablock, ahint, absOf, flat, nilCheckA, ANext.ofP, evals, evalPs, evalO, aresults, aresults1, aresult, aend, List.getElem?_set, List.length_set, Option.map_some, Option.bind_some, if_true, if_false, ↓reduceIte, Nat.reduceLT, Nat.reduceEqDiff, reduceCtorEq, Bool.false_eq_true, false_and, and_false, and_true, true_and, Nat.reduceAdd, Nat.reduceLeDiff, callA, List.getElem?_toArray, List.getElem?_cons_succ, List.getElem?_cons_zero, sb1, sb2, sb3, sb4, sliceU_i, sliceU_s, sliceU_p, sliceU_l, evalV, u3, ul]
    exact ⟨_, rfl, by simp only [List.getElem?_set, List.length_set, Nat.reduceLT, Nat.reduceEqDiff, ↓reduceIte, reduceCtorEq, *]⟩
  refine ⟨outv, st2, a, RetN.of (n := 1001 + 1) ?_, H2.r0, H2.gr, H2.fa⟩
  rw [run_code (fn := Try.f44) rfl rfl, et, pa_parts]
  simp only [e1, aseq, e2, ablock, if_true, e3, aend, hres _ _ _ a2, Option.map_some]

end Go.Proofs.YtnndngoanknemaaV
