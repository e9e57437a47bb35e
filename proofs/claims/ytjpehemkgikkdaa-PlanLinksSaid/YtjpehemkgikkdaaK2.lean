/- Up, walked: its contract. No condition. -/
import Derived.Test.YtjpehemkgikkdaaK1
namespace Go.Proofs.YtjpehemkgikkdaaV
open Go Go.RowKit Go.Proofs.YtjpehemkgikkdaaA
set_option linter.unusedVariables false
set_option linter.unusedSimpArgs false
set_option maxRecDepth 100000

theorem it_succ {g : Nat → Option Nat} : ∀ (j p : Nat), it g (j + 1) p = (it g j p).bind g
  | 0, p => by
    rw [it]
    cases h : g p with
    | none => simp [it, h]
    | some x => simp [it, h]
  | j + 1, p => by
    rw [it]
    conv => rhs; rw [it]
    cases h : g p with
    | none => rfl
    | some x => simp only; exact it_succ j x
theorem it_pre {g : Nat → Option Nat} : ∀ (k j p e : Nat), it g k p = some e → j ≤ k → ∃ q, it g j p = some q
  | k, 0, p, e, h, _ => ⟨p, rfl⟩
  | 0, j + 1, p, e, h, hj => by omega
  | k + 1, j + 1, p, e, h, hj => by
    rw [it] at h ⊢
    cases hp : g p with
    | none => rw [hp] at h; cases h
    | some x => rw [hp] at h; exact it_pre k j x e h (by omega)

noncomputable def upA : Code := .seq (code Try.f39).fst (.seq (code Try.f39).snd.fst (code Try.f39).snd.snd.fst.fst)
noncomputable def upL1 : Code := (code Try.f39).snd.snd.fst.snd.inn
noncomputable def upM : Code := (code Try.f39).snd.snd.snd.fst.fst
noncomputable def upL2 : Code := (code Try.f39).snd.snd.snd.fst.snd.inn
noncomputable def upE : Code := (code Try.f39).snd.snd.snd.snd
noncomputable def upIn : Code := upL2.snd.snd.fst.inn
noncomputable def upL3 : Code := upIn.snd.snd.snd.inn
noncomputable def upR8 : Code := upL2.fst
noncomputable def upR9 : Code := .seq upIn.fst (.seq upIn.snd.fst upIn.snd.snd.fst)
noncomputable def upR16 : Code := upL2.snd.snd.snd
theorem up_parts (call : ACall) (dr : Array Oper → Bool) (n : Nat) (ts : List AVal) (st : ASt) : aexec E 39 call dr n (code Try.f39) ts st =
    aseq (aexec E 39 call dr n upA ts st) fun ts st => aseq (ablock 0 (aloop (aexec E 39 call dr n upL1) n ts st)) fun ts st => aseq (aexec E 39 call dr n upM ts st) fun ts st => aseq (ablock 2 (aloop (aexec E 39 call dr n upL2) n ts st)) (aexec E 39 call dr n upE) := by
  have e : code Try.f39 = .seq (code Try.f39).fst (.seq (code Try.f39).snd.fst (.seq (.seq (code Try.f39).snd.snd.fst.fst (.block 0 (.loop upL1))) (.seq (.seq upM (.block 2 (.loop upL2))) upE))) := rfl
  rw [e, upA]
  simp only [aexec_seq, aexec_block, aexec_loop, aseq_assoc]
theorem up_l2 (call : ACall) (dr : Array Oper → Bool) (n : Nat) (ts : List AVal) (st : ASt) : aexec E 39 call dr n upL2 ts st =
    aseq (aexec E 39 call dr n upR8 ts st) fun ts st => aseq (aexec E 39 call dr n (.cond (.tmp 23) .skip (.exit 2)) ts st) fun ts st => aseq (ablock 3 (aseq (aexec E 39 call dr n upR9 ts st) fun ts st => ablock 4 (aloop (aexec E 39 call dr n upL3) n ts st))) (aexec E 39 call dr n upR16) := by
  have e : upL2 = .seq upR8 (.seq (.cond (.tmp 23) .skip (.exit 2)) (.seq (.block 3 (.seq upIn.fst (.seq upIn.snd.fst (.seq upIn.snd.snd.fst (.block 4 (.loop upL3)))))) upR16)) := rfl
  rw [e, upR9]
  simp only [aexec_seq, aexec_block, aexec_loop, aseq_assoc]

theorem up_1 (call : ACall) (dr : Array Oper → Bool) (m : Nat) {v ov : AVal} {O : List Int} {s n i : Nat} {ts : List AVal} {st : ASt} (hr : MRow st ov O s) (hO : O.length = n) (hn : n ≤ 1000) (hi : i ≤ n)
    (t0 : ts[0]? = some v) (t3 : ts[3]? = some ov) (t12 : ts[12]? = some (.lit (.int .i64 n))) (t13 : ts[13]? = some (.lit (.int .i64 i))) (tl : ts.length = 43) :
    (i = n → ∃ ts', aexec E 39 call dr m upL1 ts st = some (.exit 0, ts', st) ∧ ts'[0]? = some v ∧ ts'[3]? = some ov ∧ ts'.length = 43) ∧
    (i < n → ∃ ts' st', aexec E 39 call dr m upL1 ts st = some (.normal, ts', st') ∧ MRow st' ov (O.set i (-1)) s ∧ st'.ctr = st.ctr ∧ (∀ k, k ≠ s → st'.heap k = st.heap k) ∧ ts'[0]? = some v ∧ ts'[3]? = some ov ∧ ts'[12]? = some (.lit (.int .i64 n)) ∧ ts'[13]? = some (.lit (.int .i64 (i + 1 : Nat))) ∧ ts'.length = 43) := by
  have hh : ∀ t, E.hint 39 t = false := fun _ => rfl
  refine ⟨fun h => ?_, fun h => ?_⟩
  · have hd : decide ((i : Int) < n) = false := by rw [decide_eq_false_iff_not]; omega
    simp only [upL1, code, Try.f39, Option.getD_some, Code.fst, Code.snd, Code.inn, aexec, aops, aop, Region.wanted, ayielded, aexecOp, aeval, aput, aseq, ablock, ahint, absOf, flat, nilCheckA, ANext.ofP, evals, evalPs, evalO, aresults, aresults1, aresult, aend, List.getElem?_set, List.length_set, Option.map_some, Option.bind_some, if_true, if_false, ↓reduceIte, Nat.reduceLT, Nat.reduceEqDiff, reduceCtorEq, Bool.false_eq_true, false_and, and_false, and_true, true_and, Nat.reduceAdd, Nat.reduceLeDiff, callA, List.getElem?_toArray, List.getElem?_cons_succ, List.getElem?_cons_zero, sb1, sb2, sb3, sb4, hh, t0, t3, t12, t13, tl, b_lss, hd]
    exact ⟨_, rfl, by simp only [List.getElem?_set, List.length_set, Nat.reduceLT, Nat.reduceEqDiff, ↓reduceIte, reduceCtorEq, *], by simp only [List.getElem?_set, List.length_set, Nat.reduceLT, Nat.reduceEqDiff, ↓reduceIte, reduceCtorEq, *], by simp only [List.getElem?_set, List.length_set, Nat.reduceLT, Nat.reduceEqDiff, ↓reduceIte, reduceCtorEq, *]⟩
  · have hd : decide ((i : Int) < n) = true := by rw [decide_eq_true_eq]; omega
    obtain ⟨i1, _⟩ := mrow_idx hr (i := i) (by omega)
    obtain ⟨st', e1, w1, w2, w3⟩ := mrow_store hr (i := i) (by omega) (-1)
    have q1 : IntKind.i64.wrap ((i : Int) + 1) = ((i + 1 : Nat) : Int) := by
      simp [IntKind.wrap, IntKind.bits, IntKind.signed]; omega
    simp only [upL1, code, Try.f39, Option.getD_some, Code.fst, Code.snd, Code.inn, aexec, aops, aop, Region.wanted, ayielded, aexecOp, aeval, aput, aseq, ablock, ahint, absOf, flat, nilCheckA, ANext.ofP, evals, evalPs, evalO, aresults, aresults1, aresult, aend, List.getElem?_set, List.length_set, Option.map_some, Option.bind_some, if_true, if_false, ↓reduceIte, Nat.reduceLT, Nat.reduceEqDiff, reduceCtorEq, Bool.false_eq_true, false_and, and_false, and_true, true_and, Nat.reduceAdd, Nat.reduceLeDiff, callA, List.getElem?_toArray, List.getElem?_cons_succ, List.getElem?_cons_zero, sb1, sb2, sb3, sb4, hh, t0, t3, t12, t13, tl, b_lss, hd, i1, e1, b_add, q1]
    exact ⟨_, st', rfl, w1, w2, w3, by simp only [List.getElem?_set, List.length_set, Nat.reduceLT, Nat.reduceEqDiff, ↓reduceIte, reduceCtorEq, *], by simp only [List.getElem?_set, List.length_set, Nat.reduceLT, Nat.reduceEqDiff, ↓reduceIte, reduceCtorEq, *], by simp only [List.getElem?_set, List.length_set, Nat.reduceLT, Nat.reduceEqDiff, ↓reduceIte, reduceCtorEq, *], by simp only [List.getElem?_set, List.length_set, Nat.reduceLT, Nat.reduceEqDiff, ↓reduceIte, reduceCtorEq, *], by simp only [List.getElem?_set, List.length_set, Nat.reduceLT, Nat.reduceEqDiff, ↓reduceIte, reduceCtorEq, *]⟩

structure UpS (v ov : AVal) (n i : Nat) (ts : List AVal) : Prop where
  t0 : ts[0]? = some v
  t3 : ts[3]? = some ov
  t20 : ts[20]? = some v
  t21 : ts[21]? = some (.lit (.int .i64 n))
  t22 : ts[22]? = some (.lit (.int .i64 i))
  tl : ts.length = 43

theorem up_8 (call : ACall) (dr : Array Oper → Bool) (m : Nat) {v ov : AVal} {n i : Nat} {ts : List AVal} {st : ASt} (h : UpS v ov n i ts) :
    ∃ ts', aexec E 39 call dr m upR8 ts st = some (.normal, ts', st) ∧ UpS v ov n i ts' ∧ ts'[23]? = some (.lit (.bool (decide (i < n)))) := by
  obtain ⟨t0, t3, t20, t21, t22, tl⟩ := h
  have hh : ∀ t, E.hint 39 t = false := fun _ => rfl
  have hd : decide ((i : Int) < (n : Int)) = decide (i < n) := by rw [decide_eq_decide]; omega
  simp only [upR8, upL2, upIn, code, Try.f39, Option.getD_some, Code.fst, Code.snd, Code.inn, aexec, aops, aop, Region.wanted, ayielded, aexecOp, aeval, aput, aseq, ablock, ahint, absOf, flat, nilCheckA, ANext.ofP, evals, evalPs, evalO, aresults, aresults1, aresult, aend, List.getElem?_set, List.length_set, Option.map_some, Option.bind_some, if_true, if_false, ↓reduceIte, Nat.reduceLT, Nat.reduceEqDiff, reduceCtorEq, Bool.false_eq_true, false_and, and_false, and_true, true_and, Nat.reduceAdd, Nat.reduceLeDiff, callA, List.getElem?_toArray, List.getElem?_cons_succ, List.getElem?_cons_zero, sb1, sb2, sb3, sb4, hh, t0, t3, t20, t21, t22, tl, b_lss, hd]
  exact ⟨_, rfl, ⟨by simp only [List.getElem?_set, List.length_set, Nat.reduceLT, Nat.reduceEqDiff, ↓reduceIte, reduceCtorEq, *], by simp only [List.getElem?_set, List.length_set, Nat.reduceLT, Nat.reduceEqDiff, ↓reduceIte, reduceCtorEq, *], by simp only [List.getElem?_set, List.length_set, Nat.reduceLT, Nat.reduceEqDiff, ↓reduceIte, reduceCtorEq, *], by simp only [List.getElem?_set, List.length_set, Nat.reduceLT, Nat.reduceEqDiff, ↓reduceIte, reduceCtorEq, *], by simp only [List.getElem?_set, List.length_set, Nat.reduceLT, Nat.reduceEqDiff, ↓reduceIte, reduceCtorEq, *], by simp only [List.getElem?_set, List.length_set, Nat.reduceLT, Nat.reduceEqDiff, ↓reduceIte, reduceCtorEq, *]⟩, by simp only [List.getElem?_set, List.length_set, Nat.reduceLT, Nat.reduceEqDiff, ↓reduceIte, reduceCtorEq, *]⟩

theorem up_9 (call : ACall) (dr : Array Oper → Bool) (m : Nat) {v ov : AVal} {l : List Nd} {i K : Nat} {ts : List AVal} {st : ASt} (hp : PS st v l) (hi : i < l.length) (hl : l.length ≤ 1000) (hK : l[i].kd = (K : Int)) (h : UpS v ov l.length i ts) :
    ∃ ts', aexec E 39 call dr m upR9 ts st = some (.normal, ts', laidN st l[i]) ∧ UpS v ov l.length i ts' ∧ ts'[5]? = some (.lit (.int .i64 i)) ∧ ts'[7]? = some (.lit (.int .i64 (i + 1 : Nat))) ∧ ts'[30]? = some (.lit (.int .i64 K)) ∧ ts'[31]? = some (.lit (.int .i64 (0 : Nat))) := by
  obtain ⟨t0, t3, t20, t21, t22, tl⟩ := h
  have hh : ∀ t, E.hint 39 t = false := fun _ => rfl
  obtain ⟨p, q, i1, i2, _⟩ := ps_idx hp hi
  obtain ⟨f0, f1, f2, f3⟩ := fldN1 st.ctr
  obtain ⟨l0, l1, l2, l3, l4⟩ := ldN1 (laidN_at st l[i])
  rw [hK] at l4
  have q1 : IntKind.i64.wrap ((i : Int) + 1) = ((i + 1 : Nat) : Int) := by
    simp [IntKind.wrap, IntKind.bits, IntKind.signed]; omega
  simp only [upR9, upL2, upIn, code, Try.f39, Option.getD_some, Code.fst, Code.snd, Code.inn, aexec, aops, aop, Region.wanted, ayielded, aexecOp, aeval, aput, aseq, ablock, ahint, absOf, flat, nilCheckA, ANext.ofP, evals, evalPs, evalO, aresults, aresults1, aresult, aend, List.getElem?_set, List.length_set, Option.map_some, Option.bind_some, if_true, if_false, ↓reduceIte, Nat.reduceLT, Nat.reduceEqDiff, reduceCtorEq, Bool.false_eq_true, false_and, and_false, and_true, true_and, Nat.reduceAdd, Nat.reduceLeDiff, callA, List.getElem?_toArray, List.getElem?_cons_succ, List.getElem?_cons_zero, sb1, sb2, sb3, sb4, hh, t0, t3, t20, t21, t22, tl, i1, i2, alloc_n, store_n, b_add, q1, f3, l4]
  exact ⟨_, rfl, ⟨by simp only [List.getElem?_set, List.length_set, Nat.reduceLT, Nat.reduceEqDiff, ↓reduceIte, reduceCtorEq, *], by simp only [List.getElem?_set, List.length_set, Nat.reduceLT, Nat.reduceEqDiff, ↓reduceIte, reduceCtorEq, *], by simp only [List.getElem?_set, List.length_set, Nat.reduceLT, Nat.reduceEqDiff, ↓reduceIte, reduceCtorEq, *], by simp only [List.getElem?_set, List.length_set, Nat.reduceLT, Nat.reduceEqDiff, ↓reduceIte, reduceCtorEq, *], by simp only [List.getElem?_set, List.length_set, Nat.reduceLT, Nat.reduceEqDiff, ↓reduceIte, reduceCtorEq, *], by simp only [List.getElem?_set, List.length_set, Nat.reduceLT, Nat.reduceEqDiff, ↓reduceIte, reduceCtorEq, *]⟩, by simp only [List.getElem?_set, List.length_set, Nat.reduceLT, Nat.reduceEqDiff, ↓reduceIte, reduceCtorEq, *], by simp only [List.getElem?_set, List.length_set, Nat.reduceLT, Nat.reduceEqDiff, ↓reduceIte, reduceCtorEq, *], by simp only [List.getElem?_set, List.length_set, Nat.reduceLT, Nat.reduceEqDiff, ↓reduceIte, reduceCtorEq, *], by simp only [List.getElem?_set, List.length_set, Nat.reduceLT, Nat.reduceEqDiff, ↓reduceIte, reduceCtorEq, *]; rfl⟩

theorem up_16 (call : ACall) (dr : Array Oper → Bool) (m : Nat) {v ov : AVal} {n i : Nat} {ts : List AVal} {st : ASt} (h : UpS v ov n i ts) (hi : i ≤ 1000) :
    ∃ ts', aexec E 39 call dr m upR16 ts st = some (.normal, ts', st) ∧ UpS v ov n (i + 1) ts' := by
  obtain ⟨t0, t3, t20, t21, t22, tl⟩ := h
  have hh : ∀ t, E.hint 39 t = false := fun _ => rfl
  have q1 : IntKind.i64.wrap ((i : Int) + 1) = ((i + 1 : Nat) : Int) := by
    simp [IntKind.wrap, IntKind.bits, IntKind.signed]; omega
  simp only [upR16, upL2, upIn, code, Try.f39, Option.getD_some, Code.fst, Code.snd, Code.inn, aexec, aops, aop, Region.wanted, ayielded, aexecOp, aeval, aput, aseq, ablock, ahint, absOf, flat, nilCheckA, ANext.ofP, evals, evalPs, evalO, aresults, aresults1, aresult, aend, List.getElem?_set, List.length_set, Option.map_some, Option.bind_some, if_true, if_false, ↓reduceIte, Nat.reduceLT, Nat.reduceEqDiff, reduceCtorEq, Bool.false_eq_true, false_and, and_false, and_true, true_and, Nat.reduceAdd, Nat.reduceLeDiff, callA, List.getElem?_toArray, List.getElem?_cons_succ, List.getElem?_cons_zero, sb1, sb2, sb3, sb4, hh, t0, t3, t20, t21, t22, tl, b_add, q1]
  exact ⟨_, rfl, ⟨by simp only [List.getElem?_set, List.length_set, Nat.reduceLT, Nat.reduceEqDiff, ↓reduceIte, reduceCtorEq, *], by simp only [List.getElem?_set, List.length_set, Nat.reduceLT, Nat.reduceEqDiff, ↓reduceIte, reduceCtorEq, *], by simp only [List.getElem?_set, List.length_set, Nat.reduceLT, Nat.reduceEqDiff, ↓reduceIte, reduceCtorEq, *], by simp only [List.getElem?_set, List.length_set, Nat.reduceLT, Nat.reduceEqDiff, ↓reduceIte, reduceCtorEq, *], by simp only [List.getElem?_set, List.length_set, Nat.reduceLT, Nat.reduceEqDiff, ↓reduceIte, reduceCtorEq, *], by simp only [List.getElem?_set, List.length_set, Nat.reduceLT, Nat.reduceEqDiff, ↓reduceIte, reduceCtorEq, *]⟩⟩

theorem up_3 (N : Nat) (dr : Array Oper → Bool) (m : Nat) {v ov : AVal} {O : List Int} {s n i K j p : Nat} {ts : List AVal} {st : ASt} (hr : MRow st ov O s) (h : UpS v ov n i ts) (hO : O.length = n) (hK : K ≤ 10)
    (t5 : ts[5]? = some (.lit (.int .i64 i))) (t7 : ts[7]? = some (.lit (.int .i64 p))) (t30 : ts[30]? = some (.lit (.int .i64 K))) (t31 : ts[31]? = some (.lit (.int .i64 j))) :
    (j = K → ∃ ts', aexec E 39 (run E N) dr m upL3 ts st = some (.exit 4, ts', st) ∧ UpS v ov n i ts') ∧
    (j < K → p < n → ∀ e, (∀ st', (∀ k, k ≠ s → st'.heap k = st.heap k) → st'.ctr = st.ctr → run E N 28 [v, .lit (.int .i64 p)] st' = some (.returned (.lit (.int .i64 e)), st')) → ∃ ts' st', aexec E 39 (run E N) dr m upL3 ts st = some (.normal, ts', st') ∧ MRow st' ov (O.set p i) s ∧ st'.ctr = st.ctr ∧ (∀ k, k ≠ s → st'.heap k = st.heap k) ∧
      UpS v ov n i ts' ∧ ts'[5]? = some (.lit (.int .i64 i)) ∧ ts'[7]? = some (.lit (.int .i64 e)) ∧ ts'[30]? = some (.lit (.int .i64 K)) ∧ ts'[31]? = some (.lit (.int .i64 (j + 1 : Nat)))) := by
  obtain ⟨t0, t3, t20, t21, t22, tl⟩ := h
  have hh : ∀ t, E.hint 39 t = false := fun _ => rfl
  refine ⟨fun hj => ?_, fun hj hp e hc => ?_⟩
  · have hd : decide ((j : Int) < K) = false := by rw [decide_eq_false_iff_not]; omega
    simp only [upL3, upL2, upIn, code, Try.f39, Option.getD_some, Code.fst, Code.snd, Code.inn, aexec, aops, aop, Region.wanted, ayielded, aexecOp, aeval, aput, aseq, ablock, ahint, absOf, flat, nilCheckA, ANext.ofP, evals, evalPs, evalO, aresults, aresults1, aresult, aend, List.getElem?_set, List.length_set, Option.map_some, Option.bind_some, if_true, if_false, ↓reduceIte, Nat.reduceLT, Nat.reduceEqDiff, reduceCtorEq, Bool.false_eq_true, false_and, and_false, and_true, true_and, Nat.reduceAdd, Nat.reduceLeDiff, callA, List.getElem?_toArray, List.getElem?_cons_succ, List.getElem?_cons_zero, sb1, sb2, sb3, sb4, hh, t0, t3, t5, t7, t20, t21, t22, t30, t31, tl, b_lss, hd]
    exact ⟨_, rfl, ⟨by simp only [List.getElem?_set, List.length_set, Nat.reduceLT, Nat.reduceEqDiff, ↓reduceIte, reduceCtorEq, *], by simp only [List.getElem?_set, List.length_set, Nat.reduceLT, Nat.reduceEqDiff, ↓reduceIte, reduceCtorEq, *], by simp only [List.getElem?_set, List.length_set, Nat.reduceLT, Nat.reduceEqDiff, ↓reduceIte, reduceCtorEq, *], by simp only [List.getElem?_set, List.length_set, Nat.reduceLT, Nat.reduceEqDiff, ↓reduceIte, reduceCtorEq, *], by simp only [List.getElem?_set, List.length_set, Nat.reduceLT, Nat.reduceEqDiff, ↓reduceIte, reduceCtorEq, *], by simp only [List.getElem?_set, List.length_set, Nat.reduceLT, Nat.reduceEqDiff, ↓reduceIte, reduceCtorEq, *]⟩⟩
  · have hd : decide ((j : Int) < K) = true := by rw [decide_eq_true_eq]; omega
    obtain ⟨i1, _⟩ := mrow_idx hr (i := p) (by omega)
    obtain ⟨st', e1, w1, w2, w3⟩ := mrow_store hr (i := p) (by omega) ((i : Nat) : Int)
    have c1 := hc st' w3 w2
    have q1 : IntKind.i64.wrap ((j : Int) + 1) = ((j + 1 : Nat) : Int) := by
      simp [IntKind.wrap, IntKind.bits, IntKind.signed]; omega
    simp only [upL3, upL2, upIn, code, Try.f39, Option.getD_some, Code.fst, Code.snd, Code.inn, aexec, aops, aop, Region.wanted, ayielded, aexecOp, aeval, aput, aseq, ablock, ahint, absOf, flat, nilCheckA, ANext.ofP, evals, evalPs, evalO, aresults, aresults1, aresult, aend, List.getElem?_set, List.length_set, Option.map_some, Option.bind_some, if_true, if_false, ↓reduceIte, Nat.reduceLT, Nat.reduceEqDiff, reduceCtorEq, Bool.false_eq_true, false_and, and_false, and_true, true_and, Nat.reduceAdd, Nat.reduceLeDiff, callA, List.getElem?_toArray, List.getElem?_cons_succ, List.getElem?_cons_zero, sb1, sb2, sb3, sb4, hh, t0, t3, t5, t7, t20, t21, t22, t30, t31, tl, b_lss, hd, i1, e1, cf28, c1, b_add, q1]
    exact ⟨_, st', rfl, w1, w2, w3, ⟨by simp only [List.getElem?_set, List.length_set, Nat.reduceLT, Nat.reduceEqDiff, ↓reduceIte, reduceCtorEq, *], by simp only [List.getElem?_set, List.length_set, Nat.reduceLT, Nat.reduceEqDiff, ↓reduceIte, reduceCtorEq, *], by simp only [List.getElem?_set, List.length_set, Nat.reduceLT, Nat.reduceEqDiff, ↓reduceIte, reduceCtorEq, *], by simp only [List.getElem?_set, List.length_set, Nat.reduceLT, Nat.reduceEqDiff, ↓reduceIte, reduceCtorEq, *], by simp only [List.getElem?_set, List.length_set, Nat.reduceLT, Nat.reduceEqDiff, ↓reduceIte, reduceCtorEq, *], by simp only [List.getElem?_set, List.length_set, Nat.reduceLT, Nat.reduceEqDiff, ↓reduceIte, reduceCtorEq, *]⟩, by simp only [List.getElem?_set, List.length_set, Nat.reduceLT, Nat.reduceEqDiff, ↓reduceIte, reduceCtorEq, *], by simp only [List.getElem?_set, List.length_set, Nat.reduceLT, Nat.reduceEqDiff, ↓reduceIte, reduceCtorEq, *], by simp only [List.getElem?_set, List.length_set, Nat.reduceLT, Nat.reduceEqDiff, ↓reduceIte, reduceCtorEq, *], by simp only [List.getElem?_set, List.length_set, Nat.reduceLT, Nat.reduceEqDiff, ↓reduceIte, reduceCtorEq, *]⟩

/-- what is laid down so far -/
structure UpO (l : List Nd) (O : List Int) : Prop where
  len : O.length = l.length
  one : ∀ k, k < l.length → O[k]? = some (-1) ∨ O[k]? = some (upAt l k)
theorem UpO.set {l : List Nd} {O : List Int} (h : UpO l O) {x : Nat} {i : Nat} (hx : upAt l x = (i : Int)) (hlt : x < l.length) : UpO l (O.set x (i : Int)) := by
  refine ⟨by rw [List.length_set, h.len], fun k hk => ?_⟩
  rw [List.getElem?_set]
  by_cases e : x = k
  · subst e; rw [if_pos rfl, if_pos (by rw [h.len]; exact hlt)]; exact .inr (by rw [hx])
  · rw [if_neg e]; exact h.one k hk
theorem set_keep {l : List Nd} {O : List Int} (hO : O.length = l.length) {x i k y : Nat} (hx : upAt l x = (i : Int)) (hk : O[k]? = some ((y : Nat) : Int)) (hu : upAt l k = (y : Int)) : (O.set x (i : Int))[k]? = some ((y : Nat) : Int) := by
  rw [List.getElem?_set]
  by_cases e : x = k
  · subst e
    have hlt := (List.getElem?_eq_some_iff.1 hk).1
    rw [if_pos rfl, if_pos hlt, ← hx, hu]
  · rw [if_neg e]; exact hk

theorem up_kids (N m : Nat) (hN : 60 ≤ N) (hm : 60 < m) {v ov : AVal} {l : List Nd} {O : List Int} {s i K : Nat} {ts : List AVal} {base st : ASt} (hT : IsTree l) (hps : PS base v l) (hg : Gr base st) (hsb : base.ctr ≤ s) (hr : MRow st ov O s) (hO : UpO l O) (hi : i < l.length) (hK : l[i].kd = (K : Int)) (h : UpS v ov l.length i ts)
    (t5 : ts[5]? = some (.lit (.int .i64 i))) (t7 : ts[7]? = some (.lit (.int .i64 (i + 1 : Nat)))) (t30 : ts[30]? = some (.lit (.int .i64 K))) (t31 : ts[31]? = some (.lit (.int .i64 (0 : Nat))))
    (hd : ∀ y j x, y < i → j < (l.getD y default).kd.toNat → kidAt l y j = some x → O[x]? = some ((y : Nat) : Int)) (h0 : O[0]? = some (-1)) :
    ∃ ts' st' O', aloop (aexec E 39 (run E N) (drawB E 39) m upL3) m ts st = some (.exit 4, ts', st') ∧ UpS v ov l.length i ts' ∧ MRow st' ov O' s ∧ Gr base st' ∧ UpO l O' ∧ (∀ y j x, y < i + 1 → j < (l.getD y default).kd.toNat → kidAt l y j = some x → O'[x]? = some ((y : Nat) : Int)) ∧ O'[0]? = some (-1) := by
  obtain ⟨⟨e, he, hel⟩, hkids⟩ := kids_up hT.ok hT.kd hi
  rw [hK, Int.toNat_natCast] at he
  simp only [hK, Int.toNat_natCast] at hkids
  have hkd := hT.kd _ (List.getElem_mem hi)
  have hTl := hT.len
  have key := aloop_rule (b := aexec E 39 (run E N) (drawB E 39) m upL3)
    (I := fun f ts s' => ∃ j p O, f + j = K ∧ it (oneF l l.length) j (i + 1) = some p ∧ UpS v ov l.length i ts ∧ MRow s' ov O s ∧ Gr base s' ∧ UpO l O ∧ ts[5]? = some (.lit (.int .i64 i)) ∧ ts[7]? = some (.lit (.int .i64 p)) ∧ ts[30]? = some (.lit (.int .i64 K)) ∧ ts[31]? = some (.lit (.int .i64 j)) ∧
      (∀ y j x, y < i → j < (l.getD y default).kd.toNat → kidAt l y j = some x → O[x]? = some ((y : Nat) : Int)) ∧ (∀ j' x, j' < j → kidAt l i j' = some x → O[x]? = some ((i : Nat) : Int)) ∧ O[0]? = some (-1))
    (Q := fun ex ts' s' => ex = .exit 4 ∧ ∃ O', UpS v ov l.length i ts' ∧ MRow s' ov O' s ∧ Gr base s' ∧ UpO l O' ∧ (∀ y j x, y < i + 1 → j < (l.getD y default).kd.toNat → kidAt l y j = some x → O'[x]? = some ((y : Nat) : Int)) ∧ O'[0]? = some (-1))
    (step := by
      rintro f ts s' ⟨j, p, O, hf, hit, hS, hr, hg, hO, u5, u7, u30, u31, hd, hdi, h0⟩
      obtain ⟨ha, hb⟩ := up_3 N (drawB E 39) m hr hS hO.len (show K ≤ 10 by omega) u5 u7 u30 u31
      by_cases hj : j = K
      · obtain ⟨ts', e1, h'⟩ := ha hj
        refine .inr ⟨_, ts', _, e1, by simp, rfl, O, h', hr, hg, hO, fun y j' x hy hj' hkx => ?_, h0⟩
        by_cases hyi : y = i
        · subst hyi
          rw [getD_nd hi, hK, Int.toNat_natCast] at hj'
          exact hdi j' x (by omega) hkx
        · exact hd y j' x (by omega) hj' hkx
      · have hjlt : j < K := by omega
        obtain ⟨x, hx1, hx2, hx3, hx4⟩ := hkids j hjlt
        have hpx : p = x := by
          unfold kidAt at hx1; rw [hit] at hx1; exact Option.some.inj hx1
        subst hpx
        obtain ⟨q, hq⟩ := it_pre _ (j + 1) _ _ he (by omega)
        have hq2 : oneF l l.length p = some q := by rw [it_succ, hit] at hq; exact hq
        obtain ⟨ts', st', e1, w1, w2, w3, h', v5, v7, v30, v31⟩ := hb hjlt hx3 q (fun st' hk hc => by
          have hg' : Gr base st' := ⟨by rw [hc]; exact hg.1, fun k hk2 => by rw [hk k (by omega)]; exact hg.2 k hk2⟩
          exact one_run (hps.gr hg') (by omega) hT.kd l.length p q hq2 N (by omega))
        have hg' : Gr base st' := ⟨by rw [w2]; exact hg.1, fun k hk2 => by rw [w3 k (by omega)]; exact hg.2 k hk2⟩
        refine .inl ⟨ts', st', e1, f - 1, by omega, j + 1, q, _, by omega, hq, h', w1, hg', hO.set hx4 hx3, v5, v7, v30, v31, fun y j' z hy hj' hkz => ?_, fun j' z hj' hkz => ?_, ?_⟩
        · have hyl : y < l.length := by omega
          rw [getD_nd hyl] at hj'
          obtain ⟨z', a1, _, a3, a4⟩ := (kids_up hT.ok hT.kd hyl).2 j' hj'
          rw [hkz] at a1; cases a1
          exact set_keep hO.len hx4 (hd y j' z hy (by rw [getD_nd hyl]; exact hj') hkz) a4
        · by_cases hjj : j' = j
          · subst hjj
            rw [hx1] at hkz; cases hkz
            rw [List.getElem?_set, if_pos rfl, if_pos (by rw [hO.len]; exact hx3)]
          · obtain ⟨z', a1, _, a3, a4⟩ := hkids j' (by omega)
            rw [hkz] at a1; cases a1
            exact set_keep hO.len hx4 (hdi j' z (by omega) hkz) a4
        · rw [List.getElem?_set, if_neg (by omega)]; exact h0)
    m K ts st ⟨0, i + 1, O, by omega, rfl, h, hr, hg, hO, t5, t7, t30, t31, hd, fun j' x hj => by omega, h0⟩ (by omega)
  obtain ⟨ex, ts', st', h1, rfl, O', h2⟩ := key
  exact ⟨ts', st', O', h1, h2⟩

theorem up_run {v : AVal} {l : List Nd} {st : ASt} (hps : PS st v l) (hT : IsTree l) : ∃ v' st' s, RetN E 100 39 [v] st v' st' ∧ MRow st' v' (par l) s ∧ Gr st st' := by
  have hTl := hT.len
  obtain ⟨ts, et, t0, tl⟩ : ∃ ts : List AVal, ([v] ++ List.replicate (Try.f39.ntmps - [v].length) .undef) = ts ∧ ts[0]? = some v ∧ ts.length = 43 := ⟨_, rfl, rfl, rfl⟩
  have hres : ∀ ts st v, ts[2]? = some v → aresults E Try.f39 ts st = some v := by
    intro ts st v h
    unfold aresults
    simp only [Try.f39, aresults1, aresult, h]
  have hh : ∀ t, E.hint 39 t = false := fun _ => rfl
  obtain ⟨ov, st1, em, w1, g1⟩ := mrow_make l.length (by omega) st
  obtain ⟨ts1, e1, a0, a3, a12, a13, al⟩ : ∃ ts', aexec E 39 (run E 99) (drawB E 39) 99 upA ts st = some (.normal, ts', st1) ∧ ts'[0]? = some v ∧ ts'[3]? = some ov ∧ ts'[12]? = some (.lit (.int .i64 l.length)) ∧ ts'[13]? = some (.lit (.int .i64 (0 : Nat))) ∧ ts'.length = 43 := by
    simp only [upA, code, Try.f39, Option.getD_some, Code.fst, Code.snd, Code.inn, aexec, aops, aop, Region.wanted, ayielded, aexecOp, aeval, aput, aseq, ablock, ahint, absOf, flat, nilCheckA, ANext.ofP, evals, evalPs, evalO, aresults, aresults1, aresult, aend, List.getElem?_set, List.length_set, Option.map_some, Option.bind_some, if_true, if_false, ↓reduceIte, Nat.reduceLT, Nat.reduceEqDiff, reduceCtorEq, Bool.false_eq_true, false_and, and_false, and_true, true_and, Nat.reduceAdd, Nat.reduceLeDiff, callA, List.getElem?_toArray, List.getElem?_cons_succ, List.getElem?_cons_zero, sb1, sb2, sb3, sb4, hh, t0, tl, ps_len hps, em]
    exact ⟨_, rfl, by simp only [List.getElem?_set, List.length_set, Nat.reduceLT, Nat.reduceEqDiff, ↓reduceIte, reduceCtorEq, *], by simp only [List.getElem?_set, List.length_set, Nat.reduceLT, Nat.reduceEqDiff, ↓reduceIte, reduceCtorEq, *], by simp only [List.getElem?_set, List.length_set, Nat.reduceLT, Nat.reduceEqDiff, ↓reduceIte, reduceCtorEq, *], by simp only [List.getElem?_set, List.length_set, Nat.reduceLT, Nat.reduceEqDiff, ↓reduceIte, reduceCtorEq, *]; rfl, by simp only [List.getElem?_set, List.length_set, Nat.reduceLT, Nat.reduceEqDiff, ↓reduceIte, reduceCtorEq, *]⟩
  obtain ⟨x2, ts2, st2, e2, rfl, b0, b3, bl, O, w2, hO2, hO3, g2⟩ := aloop_rule (b := aexec E 39 (run E 99) (drawB E 39) 99 upL1)
    (I := fun f ts s' => ∃ i O, f + i = l.length ∧ O.length = l.length ∧ (∀ k, k < i → O[k]? = some (-1)) ∧ MRow s' ov O st.ctr ∧ Gr st s' ∧ ts[0]? = some v ∧ ts[3]? = some ov ∧ ts[12]? = some (.lit (.int .i64 l.length)) ∧ ts[13]? = some (.lit (.int .i64 i)) ∧ ts.length = 43)
    (Q := fun ex ts' s' => ex = .exit 0 ∧ ts'[0]? = some v ∧ ts'[3]? = some ov ∧ ts'.length = 43 ∧ ∃ O, MRow s' ov O st.ctr ∧ O.length = l.length ∧ (∀ k, k < l.length → O[k]? = some (-1)) ∧ Gr st s')
    (step := by
      rintro f ts s' ⟨i, O, hf, hO, hk, hr, hg, u0, u3, u12, u13, ul⟩
      obtain ⟨ha, hb⟩ := up_1 (run E 99) (drawB E 39) 99 hr hO (by omega) (by omega) u0 u3 u12 u13 ul
      by_cases he : i = l.length
      · obtain ⟨ts', e, c0, c3, cl⟩ := ha he
        subst he
        exact .inr ⟨_, ts', _, e, by simp, rfl, c0, c3, cl, O, hr, hO, hk, hg⟩
      · obtain ⟨ts', st', e, r1, r2, r3, c0, c3, c12, c13, cl⟩ := hb (by omega)
        refine .inl ⟨ts', st', e, f - 1, by omega, i + 1, _, by omega, by rw [List.length_set, hO], fun k hk2 => ?_, r1, ⟨by rw [r2]; exact hg.1, fun j hj => by rw [r3 j (by omega)]; exact hg.2 j hj⟩, c0, c3, c12, c13, cl⟩
        rw [List.getElem?_set]
        by_cases e : i = k
        · subst e; rw [if_pos rfl, if_pos (by omega)]
        · rw [if_neg e]; exact hk k (by omega))
    99 l.length ts1 st1 ⟨0, List.replicate l.length 0, by omega, by simp, fun k hk => by omega, w1, g1, a0, a3, a12, a13, al⟩ (by omega)
  obtain ⟨ts3, e3, h3⟩ : ∃ ts', aexec E 39 (run E 99) (drawB E 39) 99 upM ts2 st2 = some (.normal, ts', st2) ∧ UpS v ov l.length 0 ts' := by
    simp only [upM, code, Try.f39, Option.getD_some, Code.fst, Code.snd, Code.inn, aexec, aops, aop, Region.wanted, ayielded, aexecOp, aeval, aput, aseq, ablock, ahint, absOf, flat, nilCheckA, ANext.ofP, evals, evalPs, evalO, aresults, aresults1, aresult, aend, List.getElem?_set, List.length_set, Option.map_some, Option.bind_some, if_true, if_false, ↓reduceIte, Nat.reduceLT, Nat.reduceEqDiff, reduceCtorEq, Bool.false_eq_true, false_and, and_false, and_true, true_and, Nat.reduceAdd, Nat.reduceLeDiff, callA, List.getElem?_toArray, List.getElem?_cons_succ, List.getElem?_cons_zero, sb1, sb2, sb3, sb4, hh, b0, b3, bl, ps_len hps]
    exact ⟨_, rfl, ⟨by simp only [List.getElem?_set, List.length_set, Nat.reduceLT, Nat.reduceEqDiff, ↓reduceIte, reduceCtorEq, *], by simp only [List.getElem?_set, List.length_set, Nat.reduceLT, Nat.reduceEqDiff, ↓reduceIte, reduceCtorEq, *], by simp only [List.getElem?_set, List.length_set, Nat.reduceLT, Nat.reduceEqDiff, ↓reduceIte, reduceCtorEq, *], by simp only [List.getElem?_set, List.length_set, Nat.reduceLT, Nat.reduceEqDiff, ↓reduceIte, reduceCtorEq, *], by simp only [List.getElem?_set, List.length_set, Nat.reduceLT, Nat.reduceEqDiff, ↓reduceIte, reduceCtorEq, *]; rfl, by simp only [List.getElem?_set, List.length_set, Nat.reduceLT, Nat.reduceEqDiff, ↓reduceIte, reduceCtorEq, *]⟩⟩
  have key := aloop_rule (b := aexec E 39 (run E 99) (drawB E 39) 99 upL2)
    (I := fun f ts s' => ∃ i O, f + i = l.length ∧ UpO l O ∧ MRow s' ov O st.ctr ∧ Gr st s' ∧ UpS v ov l.length i ts ∧ (∀ y j x, y < i → j < (l.getD y default).kd.toNat → kidAt l y j = some x → O[x]? = some ((y : Nat) : Int)) ∧ O[0]? = some (-1))
    (Q := fun ex ts' s' => ex = .exit 2 ∧ UpS v ov l.length l.length ts' ∧ MRow s' ov (par l) st.ctr ∧ Gr st s')
    (step := by
      rintro f ts s' ⟨i, O, hf, hO, hr, hg, hS, hd, h0⟩
      obtain ⟨tsa, ea, ha, da⟩ := up_8 (run E 99) (drawB E 39) 99 (st := s') hS
      by_cases he : i = l.length
      · subst he
        rw [decide_eq_false (by omega)] at da
        have hpar : O = par l := by
          refine List.ext_getElem? fun k => ?_
          by_cases hk : k < l.length
          · rw [par_get hk]
            rcases Nat.eq_zero_or_pos k with hz | hz
            · subst hz; rw [h0, up_zero]
            · obtain ⟨y, j, hy, hj, hkid⟩ := cover l.length 0 l.length k (Nat.le_refl _) (one_all hT.ok) hz hk
              rw [hd y j k hy hj hkid]
              rw [getD_nd hy] at hj
              obtain ⟨z, a1, _, _, a4⟩ := (kids_up hT.ok hT.kd hy).2 j hj
              rw [hkid] at a1; cases a1
              rw [a4]
          · rw [List.getElem?_eq_none (by rw [hO.len]; omega), List.getElem?_eq_none (by rw [par_length]; omega)]
        rw [hpar] at hr
        exact .inr ⟨_, tsa, _, by simp only [up_l2, ea, aseq, aexec_cond, aeval, da, aexec_exit], by simp, rfl, ha, hr, hg⟩
      · have hlt : i < l.length := by omega
        rw [decide_eq_true hlt] at da
        have hkd := hT.kd _ (List.getElem_mem hlt)
        obtain ⟨tsb, eb, hb, u5, u7, u30, u31⟩ := up_9 (run E 99) (drawB E 39) 99 (hps.gr hg) hlt (by omega) (show l[i].kd = ((l[i].kd.toNat : Nat) : Int) by omega) ha
        have hgL := laidN_gr s' l[i]
        have hrL : MRow (laidN s' l[i]) ov O st.ctr := ⟨hr.1, Nat.lt_of_lt_of_le hr.2.1 hgL.1, by rw [hgL.2 _ hr.2.1]; exact hr.2.2⟩
        obtain ⟨tsc, stc, O', ec, hc, rc, gc, oc, dc, zc⟩ := up_kids 99 99 (by omega) (by omega) hT hps (hg.trans hgL) (Nat.le_refl _) hrL hO hlt (show l[i].kd = ((l[i].kd.toNat : Nat) : Int) by omega) hb u5 u7 u30 u31 hd h0
        obtain ⟨tsd, ed, hdd⟩ := up_16 (run E 99) (drawB E 39) 99 (st := stc) hc (by omega)
        exact .inl ⟨tsd, stc, by simp only [up_l2, ea, aseq, aexec_cond, aeval, da, aexec_skip, eb, ec, ablock, if_true, ed], f - 1, by omega, i + 1, O', by omega, oc, rc, gc, hdd, dc, zc⟩)
    99 l.length ts3 st2 ⟨0, O, by omega, ⟨hO2, fun k hk => .inl (hO3 k hk)⟩, w2, g2, h3, fun y j x hy => by omega, hO3 0 hT.pos⟩ (by omega)
  obtain ⟨x4, ts4, st4, e4, rfl, h4, r4, g4⟩ := key
  obtain ⟨ts5, e5, c2⟩ : ∃ ts', aexec E 39 (run E 99) (drawB E 39) 99 upE ts4 st4 = some (.ret, ts', st4) ∧ ts'[2]? = some ov := by
    obtain ⟨u0, u3, u20, u21, u22, ul⟩ := h4
    simp only [upE, code, Try.f39, Option.getD_some, Code.fst, Code.snd, Code.inn, aexec, aops, aop, Region.wanted, ayielded, aexecOp, aeval, aput, aseq, ablock, ahint, absOf, flat, nilCheckA, ANext.ofP, evals, evalPs, evalO, aresults, aresults1, aresult, aend, List.getElem?_set, List.length_set, Option.map_some, Option.bind_some, if_true, if_false, ↓reduceIte, Nat.reduceLT, Nat.reduceEqDiff, reduceCtorEq, Bool.false_eq_true, false_and, and_false, and_true, true_and, Nat.reduceAdd, Nat.reduceLeDiff, callA, List.getElem?_toArray, List.getElem?_cons_succ, List.getElem?_cons_zero, sb1, sb2, sb3, sb4, hh, u3, ul]
    exact ⟨_, rfl, by simp only [List.getElem?_set, List.length_set, Nat.reduceLT, Nat.reduceEqDiff, ↓reduceIte, reduceCtorEq, *]⟩
  refine ⟨ov, st4, st.ctr, RetN.of (n := 99 + 1) ?_, r4, g4⟩
  rw [run_code (fn := Try.f39) rfl rfl, et, up_parts]
  simp only [e1, aseq, e2, e3, e4, ablock, if_true, e5, aend, hres _ _ _ c2, Option.map_some]

end Go.Proofs.YtjpehemkgikkdaaV
