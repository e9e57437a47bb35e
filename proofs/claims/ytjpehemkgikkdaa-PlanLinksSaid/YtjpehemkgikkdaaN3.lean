/- The laws' own check of a plan: its contract. No condition. -/
import Derived.Test.YtjpehemkgikkdaaN2
namespace Go.Proofs.YtjpehemkgikkdaaV
open Go Go.RowKit Go.Proofs.YtjpehemkgikkdaaA
set_option linter.unusedVariables false
set_option linter.unusedSimpArgs false
set_option maxRecDepth 100000

noncomputable def lkBody : Code := (code Try.f27).snd.snd.fst.snd.inn
noncomputable def lkIn : Code := lkBody.snd.snd.fst.inn
noncomputable def lkR3 : Code := lkBody.fst
noncomputable def lkR4 : Code := lkIn.fst
noncomputable def lkR5 : Code := lkIn.snd.fst.fst
noncomputable def lkR6 : Code := lkIn.snd.fst.snd.yes.fst
noncomputable def lkR7 : Code := lkIn.snd.snd.fst.fst
noncomputable def lkR8 : Code := lkIn.snd.snd.fst.snd.yes.fst
noncomputable def lkR9 : Code := lkIn.snd.snd.snd
noncomputable def lkR10 : Code := lkBody.snd.snd.snd
theorem lk_body : lkBody = .seq lkR3 (.seq (.cond (.tmp 10) .skip (.exit 0)) (.seq (.block 1 (.seq lkR4 (.seq (.seq lkR5 (.cond (.tmp 15) (.seq lkR6 .ret) .skip)) (.seq (.seq lkR7 (.cond (.tmp 53) (.seq lkR8 .ret) .skip)) lkR9)))) lkR10)) := rfl

structure LkS (v : AVal) (len i : Nat) (left : Int) (ts : List AVal) : Prop where
  t4 : ts[4]? = some (.lit (.int .i64 left))
  t7 : ts[7]? = some v
  t8 : ts[8]? = some (.lit (.int .i64 len))
  t9 : ts[9]? = some (.lit (.int .i64 i))
  t0 : ts[0]? = some v
  tl : ts.length = 65
structure LkN (v : AVal) (len i : Nat) (left : Int) (s : Nat) (ts : List AVal) : Prop extends LkS v len i left ts where
  t5 : ts[5]? = some (.lit (.int .i64 i))
  t6 : ts[6]? = some (.ptr s 0)

theorem lk3 (call : ACall) (dr : Array Oper → Bool) (n : Nat) {v : AVal} {len i : Nat} {left : Int} {ts : List AVal} {st : ASt} (h : LkS v len i left ts) :
    ∃ ts', aexec E 27 call dr n lkR3 ts st = some (.normal, ts', st) ∧ LkS v len i left ts' ∧ ts'[10]? = some (.lit (.bool (decide (i < len)))) := by
  obtain ⟨t4, t7, t8, t9, t0, tl⟩ := h
  have hh : ∀ t, E.hint 27 t = false := fun _ => rfl
  have hd : decide ((i : Int) < (len : Int)) = decide (i < len) := by rw [decide_eq_decide]; omega
  simp only [lkR3, lkBody, lkIn, AVal.undef, sbn, sbn', code, Try.f27, Option.getD_some, Code.fst, Code.snd, Code.inn, Code.yes, Code.no, aexec, aops, aop, Region.wanted, ayielded, aexecOp, aeval, aput, aseq, ablock, ahint, absOf, flat, nilCheckA, ANext.ofP, evals, evalPs, evalO, aresults, aresults1, aresult, aend, List.getElem?_set, List.length_set, Option.map_some, Option.bind_some, if_true, if_false, ↓reduceIte, Nat.reduceLT, Nat.reduceEqDiff, reduceCtorEq, Bool.false_eq_true, false_and, and_false, and_true, true_and, Nat.reduceAdd, Nat.reduceLeDiff, callA, List.getElem?_toArray, List.getElem?_cons_succ, List.getElem?_cons_zero, sb1, sb2, sb3, sb4, hh, t4, t7, t8, t9, t0, tl, b_lss, hd]
  exact ⟨_, rfl, ⟨by simp only [List.getElem?_set, List.length_set, Nat.reduceLT, Nat.reduceEqDiff, ↓reduceIte, reduceCtorEq, *], by simp only [List.getElem?_set, List.length_set, Nat.reduceLT, Nat.reduceEqDiff, ↓reduceIte, reduceCtorEq, *], by simp only [List.getElem?_set, List.length_set, Nat.reduceLT, Nat.reduceEqDiff, ↓reduceIte, reduceCtorEq, *], by simp only [List.getElem?_set, List.length_set, Nat.reduceLT, Nat.reduceEqDiff, ↓reduceIte, reduceCtorEq, *], by simp only [List.getElem?_set, List.length_set, Nat.reduceLT, Nat.reduceEqDiff, ↓reduceIte, reduceCtorEq, *], by simp only [List.getElem?_set, List.length_set, Nat.reduceLT, Nat.reduceEqDiff, ↓reduceIte, reduceCtorEq, *]⟩, by simp only [List.getElem?_set, List.length_set, Nat.reduceLT, Nat.reduceEqDiff, ↓reduceIte, reduceCtorEq, *]⟩

theorem lk4 (call : ACall) (dr : Array Oper → Bool) (n : Nat) {v : AVal} {l : List Nd} {i : Nat} {left : Int} {ts : List AVal} {st : ASt} (hp : PS st v l) (hi : i < l.length) (h : LkS v l.length i left ts) :
    ∃ ts', aexec E 27 call dr n lkR4 ts st = some (.normal, ts', laidN st l[i]) ∧ LkN v l.length i left st.ctr ts' := by
  obtain ⟨t4, t7, t8, t9, t0, tl⟩ := h
  have hh : ∀ t, E.hint 27 t = false := fun _ => rfl
  obtain ⟨p, q, i1, i2, _⟩ := ps_idx hp hi
  simp only [lkR4, lkBody, lkIn, AVal.undef, sbn, sbn', code, Try.f27, Option.getD_some, Code.fst, Code.snd, Code.inn, Code.yes, Code.no, aexec, aops, aop, Region.wanted, ayielded, aexecOp, aeval, aput, aseq, ablock, ahint, absOf, flat, nilCheckA, ANext.ofP, evals, evalPs, evalO, aresults, aresults1, aresult, aend, List.getElem?_set, List.length_set, Option.map_some, Option.bind_some, if_true, if_false, ↓reduceIte, Nat.reduceLT, Nat.reduceEqDiff, reduceCtorEq, Bool.false_eq_true, false_and, and_false, and_true, true_and, Nat.reduceAdd, Nat.reduceLeDiff, callA, List.getElem?_toArray, List.getElem?_cons_succ, List.getElem?_cons_zero, sb1, sb2, sb3, sb4, hh, t4, t7, t8, t9, t0, tl, i1, i2, alloc_n, store_n]
  exact ⟨_, rfl, ⟨⟨by simp only [List.getElem?_set, List.length_set, Nat.reduceLT, Nat.reduceEqDiff, ↓reduceIte, reduceCtorEq, *], by simp only [List.getElem?_set, List.length_set, Nat.reduceLT, Nat.reduceEqDiff, ↓reduceIte, reduceCtorEq, *], by simp only [List.getElem?_set, List.length_set, Nat.reduceLT, Nat.reduceEqDiff, ↓reduceIte, reduceCtorEq, *], by simp only [List.getElem?_set, List.length_set, Nat.reduceLT, Nat.reduceEqDiff, ↓reduceIte, reduceCtorEq, *], by simp only [List.getElem?_set, List.length_set, Nat.reduceLT, Nat.reduceEqDiff, ↓reduceIte, reduceCtorEq, *], by simp only [List.getElem?_set, List.length_set, Nat.reduceLT, Nat.reduceEqDiff, ↓reduceIte, reduceCtorEq, *]⟩, by simp only [List.getElem?_set, List.length_set, Nat.reduceLT, Nat.reduceEqDiff, ↓reduceIte, reduceCtorEq, *], by simp only [List.getElem?_set, List.length_set, Nat.reduceLT, Nat.reduceEqDiff, ↓reduceIte, reduceCtorEq, *]⟩⟩

theorem lk5 (call : ACall) (dr : Array Oper → Bool) (n : Nat) {v : AVal} {len i s : Nat} {left : Int} {ts : List AVal} {st : ASt} (h : LkN v len i left s ts) :
    ∃ ts', aexec E 27 call dr n lkR5 ts st = some (.normal, ts', st) ∧ LkN v len i left s ts' ∧ ts'[15]? = some (.lit (.bool (decide (left = 0)))) := by
  obtain ⟨⟨t4, t7, t8, t9, t0, tl⟩, t5, t6⟩ := h
  have hh : ∀ t, E.hint 27 t = false := fun _ => rfl
  have hd : (left == 0) = decide (left = 0) := by by_cases e : left = 0 <;> simp [e]
  simp only [lkR5, lkBody, lkIn, AVal.undef, sbn, sbn', code, Try.f27, Option.getD_some, Code.fst, Code.snd, Code.inn, Code.yes, Code.no, aexec, aops, aop, Region.wanted, ayielded, aexecOp, aeval, aput, aseq, ablock, ahint, absOf, flat, nilCheckA, ANext.ofP, evals, evalPs, evalO, aresults, aresults1, aresult, aend, List.getElem?_set, List.length_set, Option.map_some, Option.bind_some, if_true, if_false, ↓reduceIte, Nat.reduceLT, Nat.reduceEqDiff, reduceCtorEq, Bool.false_eq_true, false_and, and_false, and_true, true_and, Nat.reduceAdd, Nat.reduceLeDiff, callA, List.getElem?_toArray, List.getElem?_cons_succ, List.getElem?_cons_zero, sb1, sb2, sb3, sb4, hh, t4, t7, t8, t9, t0, tl, t5, t6, b_eql, hd]
  exact ⟨_, rfl, ⟨⟨by simp only [List.getElem?_set, List.length_set, Nat.reduceLT, Nat.reduceEqDiff, ↓reduceIte, reduceCtorEq, *], by simp only [List.getElem?_set, List.length_set, Nat.reduceLT, Nat.reduceEqDiff, ↓reduceIte, reduceCtorEq, *], by simp only [List.getElem?_set, List.length_set, Nat.reduceLT, Nat.reduceEqDiff, ↓reduceIte, reduceCtorEq, *], by simp only [List.getElem?_set, List.length_set, Nat.reduceLT, Nat.reduceEqDiff, ↓reduceIte, reduceCtorEq, *], by simp only [List.getElem?_set, List.length_set, Nat.reduceLT, Nat.reduceEqDiff, ↓reduceIte, reduceCtorEq, *], by simp only [List.getElem?_set, List.length_set, Nat.reduceLT, Nat.reduceEqDiff, ↓reduceIte, reduceCtorEq, *]⟩, by simp only [List.getElem?_set, List.length_set, Nat.reduceLT, Nat.reduceEqDiff, ↓reduceIte, reduceCtorEq, *], by simp only [List.getElem?_set, List.length_set, Nat.reduceLT, Nat.reduceEqDiff, ↓reduceIte, reduceCtorEq, *]⟩, by simp only [List.getElem?_set, List.length_set, Nat.reduceLT, Nat.reduceEqDiff, ↓reduceIte, reduceCtorEq, *]⟩

theorem lk6 (call : ACall) (dr : Array Oper → Bool) (n : Nat) {v : AVal} {len i s : Nat} {left : Int} {ts : List AVal} {st : ASt} (h : LkN v len i left s ts) :
    ∃ ts', aexec E 27 call dr n lkR6 ts st = some (.normal, ts', st) ∧ ts'[2]? = some (.lit (.int .i64 i)) ∧ ts'[3]? = some (.lit (.int .i64 (11 : Nat))) := by
  obtain ⟨⟨t4, t7, t8, t9, t0, tl⟩, t5, t6⟩ := h
  have hh : ∀ t, E.hint 27 t = false := fun _ => rfl
  simp only [lkR6, lkBody, lkIn, AVal.undef, sbn, sbn', code, Try.f27, Option.getD_some, Code.fst, Code.snd, Code.inn, Code.yes, Code.no, aexec, aops, aop, Region.wanted, ayielded, aexecOp, aeval, aput, aseq, ablock, ahint, absOf, flat, nilCheckA, ANext.ofP, evals, evalPs, evalO, aresults, aresults1, aresult, aend, List.getElem?_set, List.length_set, Option.map_some, Option.bind_some, if_true, if_false, ↓reduceIte, Nat.reduceLT, Nat.reduceEqDiff, reduceCtorEq, Bool.false_eq_true, false_and, and_false, and_true, true_and, Nat.reduceAdd, Nat.reduceLeDiff, callA, List.getElem?_toArray, List.getElem?_cons_succ, List.getElem?_cons_zero, sb1, sb2, sb3, sb4, hh, t4, t7, t8, t9, t0, tl, t5, t6]
  exact ⟨_, rfl, by simp only [List.getElem?_set, List.length_set, Nat.reduceLT, Nat.reduceEqDiff, ↓reduceIte, reduceCtorEq, *], by simp only [List.getElem?_set, List.length_set, Nat.reduceLT, Nat.reduceEqDiff, ↓reduceIte, reduceCtorEq, *]; rfl⟩

theorem lk8 (call : ACall) (dr : Array Oper → Bool) (n : Nat) {v : AVal} {len i s : Nat} {left : Int} {ts : List AVal} {st : ASt} (h : LkN v len i left s ts) :
    ∃ ts', aexec E 27 call dr n lkR8 ts st = some (.normal, ts', st) ∧ ts'[2]? = some (.lit (.int .i64 i)) ∧ ts'[3]? = some (.lit (.int .i64 (6 : Nat))) := by
  obtain ⟨⟨t4, t7, t8, t9, t0, tl⟩, t5, t6⟩ := h
  have hh : ∀ t, E.hint 27 t = false := fun _ => rfl
  simp only [lkR8, lkBody, lkIn, AVal.undef, sbn, sbn', code, Try.f27, Option.getD_some, Code.fst, Code.snd, Code.inn, Code.yes, Code.no, aexec, aops, aop, Region.wanted, ayielded, aexecOp, aeval, aput, aseq, ablock, ahint, absOf, flat, nilCheckA, ANext.ofP, evals, evalPs, evalO, aresults, aresults1, aresult, aend, List.getElem?_set, List.length_set, Option.map_some, Option.bind_some, if_true, if_false, ↓reduceIte, Nat.reduceLT, Nat.reduceEqDiff, reduceCtorEq, Bool.false_eq_true, false_and, and_false, and_true, true_and, Nat.reduceAdd, Nat.reduceLeDiff, callA, List.getElem?_toArray, List.getElem?_cons_succ, List.getElem?_cons_zero, sb1, sb2, sb3, sb4, hh, t4, t7, t8, t9, t0, tl, t5, t6]
  exact ⟨_, rfl, by simp only [List.getElem?_set, List.length_set, Nat.reduceLT, Nat.reduceEqDiff, ↓reduceIte, reduceCtorEq, *], by simp only [List.getElem?_set, List.length_set, Nat.reduceLT, Nat.reduceEqDiff, ↓reduceIte, reduceCtorEq, *]; rfl⟩

set_option maxHeartbeats 4000000 in
theorem lk7 (call : ACall) (dr : Array Oper → Bool) (n : Nat) {v : AVal} {len i s : Nat} {left : Int} {ts : List AVal} {st : ASt} {nd : Nd} (hn : st.heap s = some (.cells nd.cs)) (h : LkN v len i left s ts) :
    ∃ ts', aexec E 27 call dr n lkR7 ts st = some (.normal, ts', st) ∧ LkN v len i left s ts' ∧ ts'[53]? = some (.lit (.bool (decide (badN nd i)))) := by
  obtain ⟨⟨t4, t7, t8, t9, t0, tl⟩, t5, t6⟩ := h
  have hh : ∀ t, E.hint 27 t = false := fun _ => rfl
  obtain ⟨f0, f1, f2, f3⟩ := fldN1 s
  obtain ⟨l0, l1, l2, l3, l4⟩ := ldN1 hn
  cases a1 : decide (nd.th < 0) with
  | true =>
    have hr : decide (badN nd i) = true := by
      rw [decide_eq_true_eq]; unfold badN
      simp only [decide_eq_true_eq, decide_eq_false_iff_not, beq_iff_eq, beq_eq_false_iff_ne] at a1
      omega
    rw [hr]
    simp only [lkR7, lkBody, lkIn, AVal.undef, sbn, sbn', code, Try.f27, Option.getD_some, Code.fst, Code.snd, Code.inn, Code.yes, Code.no, aexec, aops, aop, Region.wanted, ayielded, aexecOp, aeval, aput, aseq, ablock, ahint, absOf, flat, nilCheckA, ANext.ofP, evals, evalPs, evalO, aresults, aresults1, aresult, aend, List.getElem?_set, List.length_set, Option.map_some, Option.bind_some, if_true, if_false, ↓reduceIte, Nat.reduceLT, Nat.reduceEqDiff, reduceCtorEq, Bool.false_eq_true, false_and, and_false, and_true, true_and, Nat.reduceAdd, Nat.reduceLeDiff, callA, List.getElem?_toArray, List.getElem?_cons_succ, List.getElem?_cons_zero, sb1, sb2, sb3, sb4, hh, t4, t7, t8, t9, t0, tl, t5, t6, f0, f1, f2, f3, l1, l2, l3, l4, b_gtr, b_lss, b_eql, a1]
    exact ⟨_, rfl, ⟨⟨by simp only [List.getElem?_set, List.length_set, Nat.reduceLT, Nat.reduceEqDiff, ↓reduceIte, reduceCtorEq, *], by simp only [List.getElem?_set, List.length_set, Nat.reduceLT, Nat.reduceEqDiff, ↓reduceIte, reduceCtorEq, *], by simp only [List.getElem?_set, List.length_set, Nat.reduceLT, Nat.reduceEqDiff, ↓reduceIte, reduceCtorEq, *], by simp only [List.getElem?_set, List.length_set, Nat.reduceLT, Nat.reduceEqDiff, ↓reduceIte, reduceCtorEq, *], by simp only [List.getElem?_set, List.length_set, Nat.reduceLT, Nat.reduceEqDiff, ↓reduceIte, reduceCtorEq, *], by simp only [List.getElem?_set, List.length_set, Nat.reduceLT, Nat.reduceEqDiff, ↓reduceIte, reduceCtorEq, *]⟩, by simp only [List.getElem?_set, List.length_set, Nat.reduceLT, Nat.reduceEqDiff, ↓reduceIte, reduceCtorEq, *], by simp only [List.getElem?_set, List.length_set, Nat.reduceLT, Nat.reduceEqDiff, ↓reduceIte, reduceCtorEq, *]⟩, by simp only [List.getElem?_set, List.length_set, Nat.reduceLT, Nat.reduceEqDiff, ↓reduceIte, reduceCtorEq, *]⟩
  | false =>
    cases a2 : decide (nd.th > 5) with
    | true =>
      have hr : decide (badN nd i) = true := by
        rw [decide_eq_true_eq]; unfold badN
        simp only [decide_eq_true_eq, decide_eq_false_iff_not, beq_iff_eq, beq_eq_false_iff_ne] at a1 a2
        omega
      rw [hr]
      simp only [lkR7, lkBody, lkIn, AVal.undef, sbn, sbn', code, Try.f27, Option.getD_some, Code.fst, Code.snd, Code.inn, Code.yes, Code.no, aexec, aops, aop, Region.wanted, ayielded, aexecOp, aeval, aput, aseq, ablock, ahint, absOf, flat, nilCheckA, ANext.ofP, evals, evalPs, evalO, aresults, aresults1, aresult, aend, List.getElem?_set, List.length_set, Option.map_some, Option.bind_some, if_true, if_false, ↓reduceIte, Nat.reduceLT, Nat.reduceEqDiff, reduceCtorEq, Bool.false_eq_true, false_and, and_false, and_true, true_and, Nat.reduceAdd, Nat.reduceLeDiff, callA, List.getElem?_toArray, List.getElem?_cons_succ, List.getElem?_cons_zero, sb1, sb2, sb3, sb4, hh, t4, t7, t8, t9, t0, tl, t5, t6, f0, f1, f2, f3, l1, l2, l3, l4, b_gtr, b_lss, b_eql, a1, a2]
      exact ⟨_, rfl, ⟨⟨by simp only [List.getElem?_set, List.length_set, Nat.reduceLT, Nat.reduceEqDiff, ↓reduceIte, reduceCtorEq, *], by simp only [List.getElem?_set, List.length_set, Nat.reduceLT, Nat.reduceEqDiff, ↓reduceIte, reduceCtorEq, *], by simp only [List.getElem?_set, List.length_set, Nat.reduceLT, Nat.reduceEqDiff, ↓reduceIte, reduceCtorEq, *], by simp only [List.getElem?_set, List.length_set, Nat.reduceLT, Nat.reduceEqDiff, ↓reduceIte, reduceCtorEq, *], by simp only [List.getElem?_set, List.length_set, Nat.reduceLT, Nat.reduceEqDiff, ↓reduceIte, reduceCtorEq, *], by simp only [List.getElem?_set, List.length_set, Nat.reduceLT, Nat.reduceEqDiff, ↓reduceIte, reduceCtorEq, *]⟩, by simp only [List.getElem?_set, List.length_set, Nat.reduceLT, Nat.reduceEqDiff, ↓reduceIte, reduceCtorEq, *], by simp only [List.getElem?_set, List.length_set, Nat.reduceLT, Nat.reduceEqDiff, ↓reduceIte, reduceCtorEq, *]⟩, by simp only [List.getElem?_set, List.length_set, Nat.reduceLT, Nat.reduceEqDiff, ↓reduceIte, reduceCtorEq, *]⟩
    | false =>
      cases a3 : (((i : Nat) : Int) == 0) with
      | true =>
        cases a4 : decide (nd.th > 0) with
        | true =>
          have hr : decide (badN nd i) = true := by
            rw [decide_eq_true_eq]; unfold badN
            simp only [decide_eq_true_eq, decide_eq_false_iff_not, beq_iff_eq, beq_eq_false_iff_ne] at a1 a2 a3 a4
            omega
          rw [hr]
          simp only [lkR7, lkBody, lkIn, AVal.undef, sbn, sbn', code, Try.f27, Option.getD_some, Code.fst, Code.snd, Code.inn, Code.yes, Code.no, aexec, aops, aop, Region.wanted, ayielded, aexecOp, aeval, aput, aseq, ablock, ahint, absOf, flat, nilCheckA, ANext.ofP, evals, evalPs, evalO, aresults, aresults1, aresult, aend, List.getElem?_set, List.length_set, Option.map_some, Option.bind_some, if_true, if_false, ↓reduceIte, Nat.reduceLT, Nat.reduceEqDiff, reduceCtorEq, Bool.false_eq_true, false_and, and_false, and_true, true_and, Nat.reduceAdd, Nat.reduceLeDiff, callA, List.getElem?_toArray, List.getElem?_cons_succ, List.getElem?_cons_zero, sb1, sb2, sb3, sb4, hh, t4, t7, t8, t9, t0, tl, t5, t6, f0, f1, f2, f3, l1, l2, l3, l4, b_gtr, b_lss, b_eql, a1, a2, a3, a4]
          exact ⟨_, rfl, ⟨⟨by simp only [List.getElem?_set, List.length_set, Nat.reduceLT, Nat.reduceEqDiff, ↓reduceIte, reduceCtorEq, *], by simp only [List.getElem?_set, List.length_set, Nat.reduceLT, Nat.reduceEqDiff, ↓reduceIte, reduceCtorEq, *], by simp only [List.getElem?_set, List.length_set, Nat.reduceLT, Nat.reduceEqDiff, ↓reduceIte, reduceCtorEq, *], by simp only [List.getElem?_set, List.length_set, Nat.reduceLT, Nat.reduceEqDiff, ↓reduceIte, reduceCtorEq, *], by simp only [List.getElem?_set, List.length_set, Nat.reduceLT, Nat.reduceEqDiff, ↓reduceIte, reduceCtorEq, *], by simp only [List.getElem?_set, List.length_set, Nat.reduceLT, Nat.reduceEqDiff, ↓reduceIte, reduceCtorEq, *]⟩, by simp only [List.getElem?_set, List.length_set, Nat.reduceLT, Nat.reduceEqDiff, ↓reduceIte, reduceCtorEq, *], by simp only [List.getElem?_set, List.length_set, Nat.reduceLT, Nat.reduceEqDiff, ↓reduceIte, reduceCtorEq, *]⟩, by simp only [List.getElem?_set, List.length_set, Nat.reduceLT, Nat.reduceEqDiff, ↓reduceIte, reduceCtorEq, *]⟩
        | false =>
          cases a5 : decide (((nd.sl : Nat) : Int) > 63) with
          | true =>
            have hr : decide (badN nd i) = true := by
              rw [decide_eq_true_eq]; unfold badN
              simp only [decide_eq_true_eq, decide_eq_false_iff_not, beq_iff_eq, beq_eq_false_iff_ne] at a1 a2 a3 a4 a5
              omega
            rw [hr]
            simp only [lkR7, lkBody, lkIn, AVal.undef, sbn, sbn', code, Try.f27, Option.getD_some, Code.fst, Code.snd, Code.inn, Code.yes, Code.no, aexec, aops, aop, Region.wanted, ayielded, aexecOp, aeval, aput, aseq, ablock, ahint, absOf, flat, nilCheckA, ANext.ofP, evals, evalPs, evalO, aresults, aresults1, aresult, aend, List.getElem?_set, List.length_set, Option.map_some, Option.bind_some, if_true, if_false, ↓reduceIte, Nat.reduceLT, Nat.reduceEqDiff, reduceCtorEq, Bool.false_eq_true, false_and, and_false, and_true, true_and, Nat.reduceAdd, Nat.reduceLeDiff, callA, List.getElem?_toArray, List.getElem?_cons_succ, List.getElem?_cons_zero, sb1, sb2, sb3, sb4, hh, t4, t7, t8, t9, t0, tl, t5, t6, f0, f1, f2, f3, l1, l2, l3, l4, b_gtr, b_lss, b_eql, a1, a2, a3, a4, a5]
            exact ⟨_, rfl, ⟨⟨by simp only [List.getElem?_set, List.length_set, Nat.reduceLT, Nat.reduceEqDiff, ↓reduceIte, reduceCtorEq, *], by simp only [List.getElem?_set, List.length_set, Nat.reduceLT, Nat.reduceEqDiff, ↓reduceIte, reduceCtorEq, *], by simp only [List.getElem?_set, List.length_set, Nat.reduceLT, Nat.reduceEqDiff, ↓reduceIte, reduceCtorEq, *], by simp only [List.getElem?_set, List.length_set, Nat.reduceLT, Nat.reduceEqDiff, ↓reduceIte, reduceCtorEq, *], by simp only [List.getElem?_set, List.length_set, Nat.reduceLT, Nat.reduceEqDiff, ↓reduceIte, reduceCtorEq, *], by simp only [List.getElem?_set, List.length_set, Nat.reduceLT, Nat.reduceEqDiff, ↓reduceIte, reduceCtorEq, *]⟩, by simp only [List.getElem?_set, List.length_set, Nat.reduceLT, Nat.reduceEqDiff, ↓reduceIte, reduceCtorEq, *], by simp only [List.getElem?_set, List.length_set, Nat.reduceLT, Nat.reduceEqDiff, ↓reduceIte, reduceCtorEq, *]⟩, by simp only [List.getElem?_set, List.length_set, Nat.reduceLT, Nat.reduceEqDiff, ↓reduceIte, reduceCtorEq, *]⟩
          | false =>
            cases a6 : decide (((nd.so : Nat) : Int) > 63) with
            | true =>
              have hr : decide (badN nd i) = true := by
                rw [decide_eq_true_eq]; unfold badN
                simp only [decide_eq_true_eq, decide_eq_false_iff_not, beq_iff_eq, beq_eq_false_iff_ne] at a1 a2 a3 a4 a5 a6
                omega
              rw [hr]
              simp only [lkR7, lkBody, lkIn, AVal.undef, sbn, sbn', code, Try.f27, Option.getD_some, Code.fst, Code.snd, Code.inn, Code.yes, Code.no, aexec, aops, aop, Region.wanted, ayielded, aexecOp, aeval, aput, aseq, ablock, ahint, absOf, flat, nilCheckA, ANext.ofP, evals, evalPs, evalO, aresults, aresults1, aresult, aend, List.getElem?_set, List.length_set, Option.map_some, Option.bind_some, if_true, if_false, ↓reduceIte, Nat.reduceLT, Nat.reduceEqDiff, reduceCtorEq, Bool.false_eq_true, false_and, and_false, and_true, true_and, Nat.reduceAdd, Nat.reduceLeDiff, callA, List.getElem?_toArray, List.getElem?_cons_succ, List.getElem?_cons_zero, sb1, sb2, sb3, sb4, hh, t4, t7, t8, t9, t0, tl, t5, t6, f0, f1, f2, f3, l1, l2, l3, l4, b_gtr, b_lss, b_eql, a1, a2, a3, a4, a5, a6]
              exact ⟨_, rfl, ⟨⟨by simp only [List.getElem?_set, List.length_set, Nat.reduceLT, Nat.reduceEqDiff, ↓reduceIte, reduceCtorEq, *], by simp only [List.getElem?_set, List.length_set, Nat.reduceLT, Nat.reduceEqDiff, ↓reduceIte, reduceCtorEq, *], by simp only [List.getElem?_set, List.length_set, Nat.reduceLT, Nat.reduceEqDiff, ↓reduceIte, reduceCtorEq, *], by simp only [List.getElem?_set, List.length_set, Nat.reduceLT, Nat.reduceEqDiff, ↓reduceIte, reduceCtorEq, *], by simp only [List.getElem?_set, List.length_set, Nat.reduceLT, Nat.reduceEqDiff, ↓reduceIte, reduceCtorEq, *], by simp only [List.getElem?_set, List.length_set, Nat.reduceLT, Nat.reduceEqDiff, ↓reduceIte, reduceCtorEq, *]⟩, by simp only [List.getElem?_set, List.length_set, Nat.reduceLT, Nat.reduceEqDiff, ↓reduceIte, reduceCtorEq, *], by simp only [List.getElem?_set, List.length_set, Nat.reduceLT, Nat.reduceEqDiff, ↓reduceIte, reduceCtorEq, *]⟩, by simp only [List.getElem?_set, List.length_set, Nat.reduceLT, Nat.reduceEqDiff, ↓reduceIte, reduceCtorEq, *]⟩
            | false =>
              cases a7 : decide (nd.kd < 0) with
              | true =>
                have hr : decide (badN nd i) = true := by
                  rw [decide_eq_true_eq]; unfold badN
                  simp only [decide_eq_true_eq, decide_eq_false_iff_not, beq_iff_eq, beq_eq_false_iff_ne] at a1 a2 a3 a4 a5 a6 a7
                  omega
                rw [hr]
                simp only [lkR7, lkBody, lkIn, AVal.undef, sbn, sbn', code, Try.f27, Option.getD_some, Code.fst, Code.snd, Code.inn, Code.yes, Code.no, aexec, aops, aop, Region.wanted, ayielded, aexecOp, aeval, aput, aseq, ablock, ahint, absOf, flat, nilCheckA, ANext.ofP, evals, evalPs, evalO, aresults, aresults1, aresult, aend, List.getElem?_set, List.length_set, Option.map_some, Option.bind_some, if_true, if_false, ↓reduceIte, Nat.reduceLT, Nat.reduceEqDiff, reduceCtorEq, Bool.false_eq_true, false_and, and_false, and_true, true_and, Nat.reduceAdd, Nat.reduceLeDiff, callA, List.getElem?_toArray, List.getElem?_cons_succ, List.getElem?_cons_zero, sb1, sb2, sb3, sb4, hh, t4, t7, t8, t9, t0, tl, t5, t6, f0, f1, f2, f3, l1, l2, l3, l4, b_gtr, b_lss, b_eql, a1, a2, a3, a4, a5, a6, a7]
                exact ⟨_, rfl, ⟨⟨by simp only [List.getElem?_set, List.length_set, Nat.reduceLT, Nat.reduceEqDiff, ↓reduceIte, reduceCtorEq, *], by simp only [List.getElem?_set, List.length_set, Nat.reduceLT, Nat.reduceEqDiff, ↓reduceIte, reduceCtorEq, *], by simp only [List.getElem?_set, List.length_set, Nat.reduceLT, Nat.reduceEqDiff, ↓reduceIte, reduceCtorEq, *], by simp only [List.getElem?_set, List.length_set, Nat.reduceLT, Nat.reduceEqDiff, ↓reduceIte, reduceCtorEq, *], by simp only [List.getElem?_set, List.length_set, Nat.reduceLT, Nat.reduceEqDiff, ↓reduceIte, reduceCtorEq, *], by simp only [List.getElem?_set, List.length_set, Nat.reduceLT, Nat.reduceEqDiff, ↓reduceIte, reduceCtorEq, *]⟩, by simp only [List.getElem?_set, List.length_set, Nat.reduceLT, Nat.reduceEqDiff, ↓reduceIte, reduceCtorEq, *], by simp only [List.getElem?_set, List.length_set, Nat.reduceLT, Nat.reduceEqDiff, ↓reduceIte, reduceCtorEq, *]⟩, by simp only [List.getElem?_set, List.length_set, Nat.reduceLT, Nat.reduceEqDiff, ↓reduceIte, reduceCtorEq, *]⟩
              | false =>
                cases a8 : decide (nd.kd > 6) with
                | true =>
                  have hr : decide (badN nd i) = true := by
                    rw [decide_eq_true_eq]; unfold badN
                    simp only [decide_eq_true_eq, decide_eq_false_iff_not, beq_iff_eq, beq_eq_false_iff_ne] at a1 a2 a3 a4 a5 a6 a7 a8
                    omega
                  rw [hr]
                  simp only [lkR7, lkBody, lkIn, AVal.undef, sbn, sbn', code, Try.f27, Option.getD_some, Code.fst, Code.snd, Code.inn, Code.yes, Code.no, aexec, aops, aop, Region.wanted, ayielded, aexecOp, aeval, aput, aseq, ablock, ahint, absOf, flat, nilCheckA, ANext.ofP, evals, evalPs, evalO, aresults, aresults1, aresult, aend, List.getElem?_set, List.length_set, Option.map_some, Option.bind_some, if_true, if_false, ↓reduceIte, Nat.reduceLT, Nat.reduceEqDiff, reduceCtorEq, Bool.false_eq_true, false_and, and_false, and_true, true_and, Nat.reduceAdd, Nat.reduceLeDiff, callA, List.getElem?_toArray, List.getElem?_cons_succ, List.getElem?_cons_zero, sb1, sb2, sb3, sb4, hh, t4, t7, t8, t9, t0, tl, t5, t6, f0, f1, f2, f3, l1, l2, l3, l4, b_gtr, b_lss, b_eql, a1, a2, a3, a4, a5, a6, a7, a8]
                  exact ⟨_, rfl, ⟨⟨by simp only [List.getElem?_set, List.length_set, Nat.reduceLT, Nat.reduceEqDiff, ↓reduceIte, reduceCtorEq, *], by simp only [List.getElem?_set, List.length_set, Nat.reduceLT, Nat.reduceEqDiff, ↓reduceIte, reduceCtorEq, *], by simp only [List.getElem?_set, List.length_set, Nat.reduceLT, Nat.reduceEqDiff, ↓reduceIte, reduceCtorEq, *], by simp only [List.getElem?_set, List.length_set, Nat.reduceLT, Nat.reduceEqDiff, ↓reduceIte, reduceCtorEq, *], by simp only [List.getElem?_set, List.length_set, Nat.reduceLT, Nat.reduceEqDiff, ↓reduceIte, reduceCtorEq, *], by simp only [List.getElem?_set, List.length_set, Nat.reduceLT, Nat.reduceEqDiff, ↓reduceIte, reduceCtorEq, *]⟩, by simp only [List.getElem?_set, List.length_set, Nat.reduceLT, Nat.reduceEqDiff, ↓reduceIte, reduceCtorEq, *], by simp only [List.getElem?_set, List.length_set, Nat.reduceLT, Nat.reduceEqDiff, ↓reduceIte, reduceCtorEq, *]⟩, by simp only [List.getElem?_set, List.length_set, Nat.reduceLT, Nat.reduceEqDiff, ↓reduceIte, reduceCtorEq, *]⟩
                | false =>
                  have hr : decide (badN nd i) = false := by
                    rw [decide_eq_false_iff_not]; unfold badN
                    simp only [decide_eq_true_eq, decide_eq_false_iff_not, beq_iff_eq, beq_eq_false_iff_ne] at a1 a2 a3 a4 a5 a6 a7 a8
                    omega
                  rw [hr]
                  simp only [lkR7, lkBody, lkIn, AVal.undef, sbn, sbn', code, Try.f27, Option.getD_some, Code.fst, Code.snd, Code.inn, Code.yes, Code.no, aexec, aops, aop, Region.wanted, ayielded, aexecOp, aeval, aput, aseq, ablock, ahint, absOf, flat, nilCheckA, ANext.ofP, evals, evalPs, evalO, aresults, aresults1, aresult, aend, List.getElem?_set, List.length_set, Option.map_some, Option.bind_some, if_true, if_false, ↓reduceIte, Nat.reduceLT, Nat.reduceEqDiff, reduceCtorEq, Bool.false_eq_true, false_and, and_false, and_true, true_and, Nat.reduceAdd, Nat.reduceLeDiff, callA, List.getElem?_toArray, List.getElem?_cons_succ, List.getElem?_cons_zero, sb1, sb2, sb3, sb4, hh, t4, t7, t8, t9, t0, tl, t5, t6, f0, f1, f2, f3, l1, l2, l3, l4, b_gtr, b_lss, b_eql, a1, a2, a3, a4, a5, a6, a7, a8]
                  exact ⟨_, rfl, ⟨⟨by simp only [List.getElem?_set, List.length_set, Nat.reduceLT, Nat.reduceEqDiff, ↓reduceIte, reduceCtorEq, *], by simp only [List.getElem?_set, List.length_set, Nat.reduceLT, Nat.reduceEqDiff, ↓reduceIte, reduceCtorEq, *], by simp only [List.getElem?_set, List.length_set, Nat.reduceLT, Nat.reduceEqDiff, ↓reduceIte, reduceCtorEq, *], by simp only [List.getElem?_set, List.length_set, Nat.reduceLT, Nat.reduceEqDiff, ↓reduceIte, reduceCtorEq, *], by simp only [List.getElem?_set, List.length_set, Nat.reduceLT, Nat.reduceEqDiff, ↓reduceIte, reduceCtorEq, *], by simp only [List.getElem?_set, List.length_set, Nat.reduceLT, Nat.reduceEqDiff, ↓reduceIte, reduceCtorEq, *]⟩, by simp only [List.getElem?_set, List.length_set, Nat.reduceLT, Nat.reduceEqDiff, ↓reduceIte, reduceCtorEq, *], by simp only [List.getElem?_set, List.length_set, Nat.reduceLT, Nat.reduceEqDiff, ↓reduceIte, reduceCtorEq, *]⟩, by simp only [List.getElem?_set, List.length_set, Nat.reduceLT, Nat.reduceEqDiff, ↓reduceIte, reduceCtorEq, *]⟩
      | false =>
        cases a5 : decide (((nd.sl : Nat) : Int) > 63) with
        | true =>
          have hr : decide (badN nd i) = true := by
            rw [decide_eq_true_eq]; unfold badN
            simp only [decide_eq_true_eq, decide_eq_false_iff_not, beq_iff_eq, beq_eq_false_iff_ne] at a1 a2 a3 a5
            omega
          rw [hr]
          simp only [lkR7, lkBody, lkIn, AVal.undef, sbn, sbn', code, Try.f27, Option.getD_some, Code.fst, Code.snd, Code.inn, Code.yes, Code.no, aexec, aops, aop, Region.wanted, ayielded, aexecOp, aeval, aput, aseq, ablock, ahint, absOf, flat, nilCheckA, ANext.ofP, evals, evalPs, evalO, aresults, aresults1, aresult, aend, List.getElem?_set, List.length_set, Option.map_some, Option.bind_some, if_true, if_false, ↓reduceIte, Nat.reduceLT, Nat.reduceEqDiff, reduceCtorEq, Bool.false_eq_true, false_and, and_false, and_true, true_and, Nat.reduceAdd, Nat.reduceLeDiff, callA, List.getElem?_toArray, List.getElem?_cons_succ, List.getElem?_cons_zero, sb1, sb2, sb3, sb4, hh, t4, t7, t8, t9, t0, tl, t5, t6, f0, f1, f2, f3, l1, l2, l3, l4, b_gtr, b_lss, b_eql, a1, a2, a3, a5]
          exact ⟨_, rfl, ⟨⟨by simp only [List.getElem?_set, List.length_set, Nat.reduceLT, Nat.reduceEqDiff, ↓reduceIte, reduceCtorEq, *], by simp only [List.getElem?_set, List.length_set, Nat.reduceLT, Nat.reduceEqDiff, ↓reduceIte, reduceCtorEq, *], by simp only [List.getElem?_set, List.length_set, Nat.reduceLT, Nat.reduceEqDiff, ↓reduceIte, reduceCtorEq, *], by simp only [List.getElem?_set, List.length_set, Nat.reduceLT, Nat.reduceEqDiff, ↓reduceIte, reduceCtorEq, *], by simp only [List.getElem?_set, List.length_set, Nat.reduceLT, Nat.reduceEqDiff, ↓reduceIte, reduceCtorEq, *], by simp only [List.getElem?_set, List.length_set, Nat.reduceLT, Nat.reduceEqDiff, ↓reduceIte, reduceCtorEq, *]⟩, by simp only [List.getElem?_set, List.length_set, Nat.reduceLT, Nat.reduceEqDiff, ↓reduceIte, reduceCtorEq, *], by simp only [List.getElem?_set, List.length_set, Nat.reduceLT, Nat.reduceEqDiff, ↓reduceIte, reduceCtorEq, *]⟩, by simp only [List.getElem?_set, List.length_set, Nat.reduceLT, Nat.reduceEqDiff, ↓reduceIte, reduceCtorEq, *]⟩
        | false =>
          cases a6 : decide (((nd.so : Nat) : Int) > 63) with
          | true =>
            have hr : decide (badN nd i) = true := by
              rw [decide_eq_true_eq]; unfold badN
              simp only [decide_eq_true_eq, decide_eq_false_iff_not, beq_iff_eq, beq_eq_false_iff_ne] at a1 a2 a3 a5 a6
              omega
            rw [hr]
            simp only [lkR7, lkBody, lkIn, AVal.undef, sbn, sbn', code, Try.f27, Option.getD_some, Code.fst, Code.snd, Code.inn, Code.yes, Code.no, aexec, aops, aop, Region.wanted, ayielded, aexecOp, aeval, aput, aseq, ablock, ahint, absOf, flat, nilCheckA, ANext.ofP, evals, evalPs, evalO, aresults, aresults1, aresult, aend, List.getElem?_set, List.length_set, Option.map_some, Option.bind_some, if_true, if_false, ↓reduceIte, Nat.reduceLT, Nat.reduceEqDiff, reduceCtorEq, Bool.false_eq_true, false_and, and_false, and_true, true_and, Nat.reduceAdd, Nat.reduceLeDiff, callA, List.getElem?_toArray, List.getElem?_cons_succ, List.getElem?_cons_zero, sb1, sb2, sb3, sb4, hh, t4, t7, t8, t9, t0, tl, t5, t6, f0, f1, f2, f3, l1, l2, l3, l4, b_gtr, b_lss, b_eql, a1, a2, a3, a5, a6]
            exact ⟨_, rfl, ⟨⟨by simp only [List.getElem?_set, List.length_set, Nat.reduceLT, Nat.reduceEqDiff, ↓reduceIte, reduceCtorEq, *], by simp only [List.getElem?_set, List.length_set, Nat.reduceLT, Nat.reduceEqDiff, ↓reduceIte, reduceCtorEq, *], by simp only [List.getElem?_set, List.length_set, Nat.reduceLT, Nat.reduceEqDiff, ↓reduceIte, reduceCtorEq, *], by simp only [List.getElem?_set, List.length_set, Nat.reduceLT, Nat.reduceEqDiff, ↓reduceIte, reduceCtorEq, *], by simp only [List.getElem?_set, List.length_set, Nat.reduceLT, Nat.reduceEqDiff, ↓reduceIte, reduceCtorEq, *], by simp only [List.getElem?_set, List.length_set, Nat.reduceLT, Nat.reduceEqDiff, ↓reduceIte, reduceCtorEq, *]⟩, by simp only [List.getElem?_set, List.length_set, Nat.reduceLT, Nat.reduceEqDiff, ↓reduceIte, reduceCtorEq, *], by simp only [List.getElem?_set, List.length_set, Nat.reduceLT, Nat.reduceEqDiff, ↓reduceIte, reduceCtorEq, *]⟩, by simp only [List.getElem?_set, List.length_set, Nat.reduceLT, Nat.reduceEqDiff, ↓reduceIte, reduceCtorEq, *]⟩
          | false =>
            cases a7 : decide (nd.kd < 0) with
            | true =>
              have hr : decide (badN nd i) = true := by
                rw [decide_eq_true_eq]; unfold badN
                simp only [decide_eq_true_eq, decide_eq_false_iff_not, beq_iff_eq, beq_eq_false_iff_ne] at a1 a2 a3 a5 a6 a7
                omega
              rw [hr]
              simp only [lkR7, lkBody, lkIn, AVal.undef, sbn, sbn', code, Try.f27, Option.getD_some, Code.fst, Code.snd, Code.inn, Code.yes, Code.no, aexec, aops, aop, Region.wanted, ayielded, aexecOp, aeval, aput, aseq, ablock, ahint, absOf, flat, nilCheckA, ANext.ofP, evals, evalPs, evalO, aresults, aresults1, aresult, aend, List.getElem?_set, List.length_set, Option.map_some, Option.bind_some, if_true, if_false, ↓reduceIte, Nat.reduceLT, Nat.reduceEqDiff, reduceCtorEq, Bool.false_eq_true, false_and, and_false, and_true, true_and, Nat.reduceAdd, Nat.reduceLeDiff, callA, List.getElem?_toArray, List.getElem?_cons_succ, List.getElem?_cons_zero, sb1, sb2, sb3, sb4, hh, t4, t7, t8, t9, t0, tl, t5, t6, f0, f1, f2, f3, l1, l2, l3, l4, b_gtr, b_lss, b_eql, a1, a2, a3, a5, a6, a7]
              exact ⟨_, rfl, ⟨⟨by simp only [List.getElem?_set, List.length_set, Nat.reduceLT, Nat.reduceEqDiff, ↓reduceIte, reduceCtorEq, *], by simp only [List.getElem?_set, List.length_set, Nat.reduceLT, Nat.reduceEqDiff, ↓reduceIte, reduceCtorEq, *], by simp only [List.getElem?_set, List.length_set, Nat.reduceLT, Nat.reduceEqDiff, ↓reduceIte, reduceCtorEq, *], by simp only [List.getElem?_set, List.length_set, Nat.reduceLT, Nat.reduceEqDiff, ↓reduceIte, reduceCtorEq, *], by simp only [List.getElem?_set, List.length_set, Nat.reduceLT, Nat.reduceEqDiff, ↓reduceIte, reduceCtorEq, *], by simp only [List.getElem?_set, List.length_set, Nat.reduceLT, Nat.reduceEqDiff, ↓reduceIte, reduceCtorEq, *]⟩, by simp only [List.getElem?_set, List.length_set, Nat.reduceLT, Nat.reduceEqDiff, ↓reduceIte, reduceCtorEq, *], by simp only [List.getElem?_set, List.length_set, Nat.reduceLT, Nat.reduceEqDiff, ↓reduceIte, reduceCtorEq, *]⟩, by simp only [List.getElem?_set, List.length_set, Nat.reduceLT, Nat.reduceEqDiff, ↓reduceIte, reduceCtorEq, *]⟩
            | false =>
              cases a8 : decide (nd.kd > 6) with
              | true =>
                have hr : decide (badN nd i) = true := by
                  rw [decide_eq_true_eq]; unfold badN
                  simp only [decide_eq_true_eq, decide_eq_false_iff_not, beq_iff_eq, beq_eq_false_iff_ne] at a1 a2 a3 a5 a6 a7 a8
                  omega
                rw [hr]
                simp only [lkR7, lkBody, lkIn, AVal.undef, sbn, sbn', code, Try.f27, Option.getD_some, Code.fst, Code.snd, Code.inn, Code.yes, Code.no, aexec, aops, aop, Region.wanted, ayielded, aexecOp, aeval, aput, aseq, ablock, ahint, absOf, flat, nilCheckA, ANext.ofP, evals, evalPs, evalO, aresults, aresults1, aresult, aend, List.getElem?_set, List.length_set, Option.map_some, Option.bind_some, if_true, if_false, ↓reduceIte, Nat.reduceLT, Nat.reduceEqDiff, reduceCtorEq, Bool.false_eq_true, false_and, and_false, and_true, true_and, Nat.reduceAdd, Nat.reduceLeDiff, callA, List.getElem?_toArray, List.getElem?_cons_succ, List.getElem?_cons_zero, sb1, sb2, sb3, sb4, hh, t4, t7, t8, t9, t0, tl, t5, t6, f0, f1, f2, f3, l1, l2, l3, l4, b_gtr, b_lss, b_eql, a1, a2, a3, a5, a6, a7, a8]
                exact ⟨_, rfl, ⟨⟨by simp only [List.getElem?_set, List.length_set, Nat.reduceLT, Nat.reduceEqDiff, ↓reduceIte, reduceCtorEq, *], by simp only [List.getElem?_set, List.length_set, Nat.reduceLT, Nat.reduceEqDiff, ↓reduceIte, reduceCtorEq, *], by simp only [List.getElem?_set, List.length_set, Nat.reduceLT, Nat.reduceEqDiff, ↓reduceIte, reduceCtorEq, *], by simp only [List.getElem?_set, List.length_set, Nat.reduceLT, Nat.reduceEqDiff, ↓reduceIte, reduceCtorEq, *], by simp only [List.getElem?_set, List.length_set, Nat.reduceLT, Nat.reduceEqDiff, ↓reduceIte, reduceCtorEq, *], by simp only [List.getElem?_set, List.length_set, Nat.reduceLT, Nat.reduceEqDiff, ↓reduceIte, reduceCtorEq, *]⟩, by simp only [List.getElem?_set, List.length_set, Nat.reduceLT, Nat.reduceEqDiff, ↓reduceIte, reduceCtorEq, *], by simp only [List.getElem?_set, List.length_set, Nat.reduceLT, Nat.reduceEqDiff, ↓reduceIte, reduceCtorEq, *]⟩, by simp only [List.getElem?_set, List.length_set, Nat.reduceLT, Nat.reduceEqDiff, ↓reduceIte, reduceCtorEq, *]⟩
              | false =>
                have hr : decide (badN nd i) = false := by
                  rw [decide_eq_false_iff_not]; unfold badN
                  simp only [decide_eq_true_eq, decide_eq_false_iff_not, beq_iff_eq, beq_eq_false_iff_ne] at a1 a2 a3 a5 a6 a7 a8
                  omega
                rw [hr]
                simp only [lkR7, lkBody, lkIn, AVal.undef, sbn, sbn', code, Try.f27, Option.getD_some, Code.fst, Code.snd, Code.inn, Code.yes, Code.no, aexec, aops, aop, Region.wanted, ayielded, aexecOp, aeval, aput, aseq, ablock, ahint, absOf, flat, nilCheckA, ANext.ofP, evals, evalPs, evalO, aresults, aresults1, aresult, aend, List.getElem?_set, List.length_set, Option.map_some, Option.bind_some, if_true, if_false, ↓reduceIte, Nat.reduceLT, Nat.reduceEqDiff, reduceCtorEq, Bool.false_eq_true, false_and, and_false, and_true, true_and, Nat.reduceAdd, Nat.reduceLeDiff, callA, List.getElem?_toArray, List.getElem?_cons_succ, List.getElem?_cons_zero, sb1, sb2, sb3, sb4, hh, t4, t7, t8, t9, t0, tl, t5, t6, f0, f1, f2, f3, l1, l2, l3, l4, b_gtr, b_lss, b_eql, a1, a2, a3, a5, a6, a7, a8]
                exact ⟨_, rfl, ⟨⟨by simp only [List.getElem?_set, List.length_set, Nat.reduceLT, Nat.reduceEqDiff, ↓reduceIte, reduceCtorEq, *], by simp only [List.getElem?_set, List.length_set, Nat.reduceLT, Nat.reduceEqDiff, ↓reduceIte, reduceCtorEq, *], by simp only [List.getElem?_set, List.length_set, Nat.reduceLT, Nat.reduceEqDiff, ↓reduceIte, reduceCtorEq, *], by simp only [List.getElem?_set, List.length_set, Nat.reduceLT, Nat.reduceEqDiff, ↓reduceIte, reduceCtorEq, *], by simp only [List.getElem?_set, List.length_set, Nat.reduceLT, Nat.reduceEqDiff, ↓reduceIte, reduceCtorEq, *], by simp only [List.getElem?_set, List.length_set, Nat.reduceLT, Nat.reduceEqDiff, ↓reduceIte, reduceCtorEq, *]⟩, by simp only [List.getElem?_set, List.length_set, Nat.reduceLT, Nat.reduceEqDiff, ↓reduceIte, reduceCtorEq, *], by simp only [List.getElem?_set, List.length_set, Nat.reduceLT, Nat.reduceEqDiff, ↓reduceIte, reduceCtorEq, *]⟩, by simp only [List.getElem?_set, List.length_set, Nat.reduceLT, Nat.reduceEqDiff, ↓reduceIte, reduceCtorEq, *]⟩

theorem lk9 (call : ACall) (dr : Array Oper → Bool) (n : Nat) {v : AVal} {len i s : Nat} {left : Int} {ts : List AVal} {st : ASt} {nd : Nd} (hn : st.heap s = some (.cells nd.cs)) (h : LkN v len i left s ts) (hk : 0 ≤ nd.kd ∧ nd.kd ≤ 6) (hl : 0 ≤ left ∧ left ≤ 1000000) :
    ∃ ts', aexec E 27 call dr n lkR9 ts st = some (.normal, ts', st) ∧ LkN v len i (left + (nd.kd - 1)) s ts' := by
  obtain ⟨⟨t4, t7, t8, t9, t0, tl⟩, t5, t6⟩ := h
  have hh : ∀ t, E.hint 27 t = false := fun _ => rfl
  obtain ⟨f0, f1, f2, f3⟩ := fldN1 s
  obtain ⟨l0, l1, l2, l3, l4⟩ := ldN1 hn
  have q1 : IntKind.i64.wrap (nd.kd - 1) = nd.kd - 1 := by
    simp [IntKind.wrap, IntKind.bits, IntKind.signed]; omega
  have q2 : IntKind.i64.wrap (left + (nd.kd - 1)) = left + (nd.kd - 1) := by
    simp [IntKind.wrap, IntKind.bits, IntKind.signed]; omega
  simp only [lkR9, lkBody, lkIn, AVal.undef, sbn, sbn', code, Try.f27, Option.getD_some, Code.fst, Code.snd, Code.inn, Code.yes, Code.no, aexec, aops, aop, Region.wanted, ayielded, aexecOp, aeval, aput, aseq, ablock, ahint, absOf, flat, nilCheckA, ANext.ofP, evals, evalPs, evalO, aresults, aresults1, aresult, aend, List.getElem?_set, List.length_set, Option.map_some, Option.bind_some, if_true, if_false, ↓reduceIte, Nat.reduceLT, Nat.reduceEqDiff, reduceCtorEq, Bool.false_eq_true, false_and, and_false, and_true, true_and, Nat.reduceAdd, Nat.reduceLeDiff, callA, List.getElem?_toArray, List.getElem?_cons_succ, List.getElem?_cons_zero, sb1, sb2, sb3, sb4, hh, t4, t7, t8, t9, t0, tl, t5, t6, f3, l4, b_sub, q1, b_add, q2]
  exact ⟨_, rfl, ⟨⟨by simp only [List.getElem?_set, List.length_set, Nat.reduceLT, Nat.reduceEqDiff, ↓reduceIte, reduceCtorEq, *], by simp only [List.getElem?_set, List.length_set, Nat.reduceLT, Nat.reduceEqDiff, ↓reduceIte, reduceCtorEq, *], by simp only [List.getElem?_set, List.length_set, Nat.reduceLT, Nat.reduceEqDiff, ↓reduceIte, reduceCtorEq, *], by simp only [List.getElem?_set, List.length_set, Nat.reduceLT, Nat.reduceEqDiff, ↓reduceIte, reduceCtorEq, *], by simp only [List.getElem?_set, List.length_set, Nat.reduceLT, Nat.reduceEqDiff, ↓reduceIte, reduceCtorEq, *], by simp only [List.getElem?_set, List.length_set, Nat.reduceLT, Nat.reduceEqDiff, ↓reduceIte, reduceCtorEq, *]⟩, by simp only [List.getElem?_set, List.length_set, Nat.reduceLT, Nat.reduceEqDiff, ↓reduceIte, reduceCtorEq, *], by simp only [List.getElem?_set, List.length_set, Nat.reduceLT, Nat.reduceEqDiff, ↓reduceIte, reduceCtorEq, *]⟩⟩

theorem lk10 (call : ACall) (dr : Array Oper → Bool) (n : Nat) {v : AVal} {len i s : Nat} {left : Int} {ts : List AVal} {st : ASt} (h : LkN v len i left s ts) (hi : i ≤ 1000000) :
    ∃ ts', aexec E 27 call dr n lkR10 ts st = some (.normal, ts', st) ∧ LkS v len (i + 1) left ts' := by
  obtain ⟨⟨t4, t7, t8, t9, t0, tl⟩, t5, t6⟩ := h
  have hh : ∀ t, E.hint 27 t = false := fun _ => rfl
  have q1 : IntKind.i64.wrap ((i : Int) + 1) = ((i + 1 : Nat) : Int) := by
    simp [IntKind.wrap, IntKind.bits, IntKind.signed]; omega
  simp only [lkR10, lkBody, lkIn, AVal.undef, sbn, sbn', code, Try.f27, Option.getD_some, Code.fst, Code.snd, Code.inn, Code.yes, Code.no, aexec, aops, aop, Region.wanted, ayielded, aexecOp, aeval, aput, aseq, ablock, ahint, absOf, flat, nilCheckA, ANext.ofP, evals, evalPs, evalO, aresults, aresults1, aresult, aend, List.getElem?_set, List.length_set, Option.map_some, Option.bind_some, if_true, if_false, ↓reduceIte, Nat.reduceLT, Nat.reduceEqDiff, reduceCtorEq, Bool.false_eq_true, false_and, and_false, and_true, true_and, Nat.reduceAdd, Nat.reduceLeDiff, callA, List.getElem?_toArray, List.getElem?_cons_succ, List.getElem?_cons_zero, sb1, sb2, sb3, sb4, hh, t4, t7, t8, t9, t0, tl, t5, t6, b_add, q1]
  exact ⟨_, rfl, ⟨by simp only [List.getElem?_set, List.length_set, Nat.reduceLT, Nat.reduceEqDiff, ↓reduceIte, reduceCtorEq, *], by simp only [List.getElem?_set, List.length_set, Nat.reduceLT, Nat.reduceEqDiff, ↓reduceIte, reduceCtorEq, *], by simp only [List.getElem?_set, List.length_set, Nat.reduceLT, Nat.reduceEqDiff, ↓reduceIte, reduceCtorEq, *], by simp only [List.getElem?_set, List.length_set, Nat.reduceLT, Nat.reduceEqDiff, ↓reduceIte, reduceCtorEq, *], by simp only [List.getElem?_set, List.length_set, Nat.reduceLT, Nat.reduceEqDiff, ↓reduceIte, reduceCtorEq, *], by simp only [List.getElem?_set, List.length_set, Nat.reduceLT, Nat.reduceEqDiff, ↓reduceIte, reduceCtorEq, *]⟩⟩

/-- a round -/
theorem lk_round (call : ACall) (dr : Array Oper → Bool) (n : Nat) {v : AVal} {l : List Nd} {i : Nat} {left : Int} {ts : List AVal} {st : ASt} (hp : PS st v l) (hll : l.length ≤ 1000) (h : LkS v l.length i left ts) (hle : i ≤ l.length) (hl : 0 ≤ left ∧ left ≤ 1 + 6 * (i : Int)) :
    (i = l.length → ∃ ts', aexec E 27 call dr n lkBody ts st = some (.exit 0, ts', st) ∧ LkS v l.length i left ts') ∧
    (∀ hi : i < l.length, ((left = 0 ∨ badN l[i] i) → ∃ ts' st', aexec E 27 call dr n lkBody ts st = some (.ret, ts', st') ∧ Gr st st' ∧ ts'[2]? = some (.lit (.int .i64 (ck (l.drop i) i left).1)) ∧ ts'[3]? = some (.lit (.int .i64 (ck (l.drop i) i left).2))) ∧
      (left ≠ 0 → ¬ badN l[i] i → ∃ ts' st', aexec E 27 call dr n lkBody ts st = some (.normal, ts', st') ∧ Gr st st' ∧ LkS v l.length (i + 1) (left + (l[i].kd - 1)) ts')) := by
  obtain ⟨ts1, e1, h1, d1⟩ := lk3 call dr n (st := st) h
  refine ⟨fun hi => ⟨ts1, ?_, h1⟩, fun hi => ?_⟩
  · have hd : decide (i < l.length) = false := by rw [decide_eq_false_iff_not]; omega
    rw [hd] at d1
    simp only [lk_body, aexec_seq, aexec_block, aexec_cond, aexec_exit, aexec_skip, e1, aseq, aeval, d1]
  · have hd : decide (i < l.length) = true := by rw [decide_eq_true_eq]; omega
    rw [hd] at d1
    obtain ⟨ts2, e2, h2⟩ := lk4 call dr n hp hi h1
    obtain ⟨ts3, e3, h3, d3⟩ := lk5 call dr n (st := laidN st l[i]) h2
    have hat := laidN_at st l[i]
    have hgr := laidN_gr st l[i]
    have hdrop : l.drop i = l[i] :: l.drop (i + 1) := List.drop_eq_getElem_cons hi
    obtain ⟨ts4, e4, h4, d4⟩ := lk7 call dr n hat h3
    refine ⟨fun hb => ?_, fun h0 hb => ?_⟩
    · by_cases h0 : left = 0
      · obtain ⟨ts6, e6, a2, a3⟩ := lk6 call dr n (st := laidN st l[i]) h3
        rw [decide_eq_true h0] at d3
        refine ⟨ts6, _, ?_, hgr, ?_, ?_⟩
        · simp only [lk_body, aexec_seq, aexec_block, aexec_cond, aexec_ret, aexec_skip, e1, e2, e3, e6, aseq, ablock, aeval, d1, d3]
        · rw [hdrop, ck, if_pos h0]; exact a2
        · rw [hdrop, ck, if_pos h0]; exact a3
      · have hbad : badN l[i] i := hb.resolve_left h0
        rw [decide_eq_false h0] at d3
        rw [decide_eq_true hbad] at d4
        obtain ⟨ts6, e6, a2, a3⟩ := lk8 call dr n (st := laidN st l[i]) h4
        refine ⟨ts6, _, ?_, hgr, ?_, ?_⟩
        · simp only [lk_body, aexec_seq, aexec_block, aexec_cond, aexec_ret, aexec_skip, e1, e2, e3, e4, e6, aseq, ablock, aeval, d1, d3, d4]
        · rw [hdrop, ck, if_neg h0, if_pos hbad]; exact a2
        · rw [hdrop, ck, if_neg h0, if_pos hbad]; exact a3
    · rw [decide_eq_false h0] at d3
      rw [decide_eq_false hb] at d4
      unfold badN at hb
      obtain ⟨ts6, e6, h6⟩ := lk9 call dr n hat h4 ⟨by omega, by omega⟩ ⟨hl.1, by omega⟩
      obtain ⟨ts7, e7, h7⟩ := lk10 call dr n (st := laidN st l[i]) h6 (by omega)
      refine ⟨ts7, _, ?_, hgr, h7⟩
      simp only [lk_body, aexec_seq, aexec_block, aexec_cond, aexec_ret, aexec_skip, e1, e2, e3, e4, e6, e7, aseq, ablock, aeval, d1, d3, d4]

noncomputable def lkPre : Code := .seq (code Try.f27).fst (.seq (code Try.f27).snd.fst (code Try.f27).snd.snd.fst.fst)
noncomputable def lkEnd : Code := (code Try.f27).snd.snd.snd
theorem lk_parts (call : ACall) (dr : Array Oper → Bool) (n : Nat) (ts : List AVal) (st : ASt) : aexec E 27 call dr n (code Try.f27) ts st =
    aseq (aexec E 27 call dr n lkPre ts st) fun ts st => aseq (ablock 0 (aloop (aexec E 27 call dr n lkBody) n ts st)) (aexec E 27 call dr n lkEnd) := by
  have e : code Try.f27 = .seq (code Try.f27).fst (.seq (code Try.f27).snd.fst (.seq (.seq (code Try.f27).snd.snd.fst.fst (.block 0 (.loop lkBody))) lkEnd)) := rfl
  rw [e, lkPre]
  simp only [aexec_seq, aexec_block, aexec_loop, aseq_assoc]

theorem lk_run {v : AVal} {l : List Nd} {st : ASt} (hp : PS st v l) (hll : l.length ≤ 1000) :
    ∃ st', RetN E (l.length + 2) 27 [v] st (.tuple [.lit (.int .i64 (ck l 0 1).1), .lit (.int .i64 (ck l 0 1).2)]) st' ∧ Gr st st' := by
  obtain ⟨ts, et, t0, tl⟩ : ∃ ts : List AVal, ([v] ++ List.replicate (Try.f27.ntmps - [v].length) .undef) = ts ∧ ts[0]? = some v ∧ ts.length = 65 := ⟨_, rfl, rfl, rfl⟩
  have hres : ∀ ts st a b, ts[2]? = some a → ts[3]? = some b → aresults E Try.f27 ts st = some (.tuple [a, b]) := by
    intro ts st a b h1 h2
    unfold aresults
    simp only [Try.f27, aresults1, aresult, h1, h2]
  have hh : ∀ t, E.hint 27 t = false := fun _ => rfl
  generalize hN : l.length + 1 = N
  obtain ⟨ts1, e1, h1⟩ : ∃ ts', aexec E 27 (run E N) (drawB E 27) N lkPre ts st = some (.normal, ts', st) ∧ LkS v l.length 0 1 ts' := by
    simp only [lkPre, AVal.undef, sbn, sbn', code, Try.f27, Option.getD_some, Code.fst, Code.snd, Code.inn, Code.yes, Code.no, aexec, aops, aop, Region.wanted, ayielded, aexecOp, aeval, aput, aseq, ablock, ahint, absOf, flat, nilCheckA, ANext.ofP, evals, evalPs, evalO, aresults, aresults1, aresult, aend, List.getElem?_set, List.length_set, Option.map_some, Option.bind_some, if_true, if_false, ↓reduceIte, Nat.reduceLT, Nat.reduceEqDiff, reduceCtorEq, Bool.false_eq_true, false_and, and_false, and_true, true_and, Nat.reduceAdd, Nat.reduceLeDiff, callA, List.getElem?_toArray, List.getElem?_cons_succ, List.getElem?_cons_zero, sb1, sb2, sb3, sb4, hh, t0, tl, ps_len hp]
    exact ⟨_, rfl, ⟨by simp only [List.getElem?_set, List.length_set, Nat.reduceLT, Nat.reduceEqDiff, ↓reduceIte, reduceCtorEq, *], by simp only [List.getElem?_set, List.length_set, Nat.reduceLT, Nat.reduceEqDiff, ↓reduceIte, reduceCtorEq, *], by simp only [List.getElem?_set, List.length_set, Nat.reduceLT, Nat.reduceEqDiff, ↓reduceIte, reduceCtorEq, *], by simp only [List.getElem?_set, List.length_set, Nat.reduceLT, Nat.reduceEqDiff, ↓reduceIte, reduceCtorEq, *]; rfl, by simp only [List.getElem?_set, List.length_set, Nat.reduceLT, Nat.reduceEqDiff, ↓reduceIte, reduceCtorEq, *], by simp only [List.getElem?_set, List.length_set, Nat.reduceLT, Nat.reduceEqDiff, ↓reduceIte, reduceCtorEq, *]⟩⟩
  have key := aloop_rule (b := aexec E 27 (run E N) (drawB E 27) N lkBody)
    (I := fun k ts s => Gr st s ∧ ∃ i left, k + i = l.length ∧ LkS v l.length i left ts ∧ 0 ≤ left ∧ left ≤ 1 + 6 * (i : Int) ∧ ck (l.drop i) i left = ck l 0 1)
    (Q := fun e ts' s => Gr st s ∧ ((e = .exit 0 ∧ ∃ left, LkS v l.length l.length left ts' ∧ ck [] l.length left = ck l 0 1) ∨ (e = .ret ∧ ts'[2]? = some (.lit (.int .i64 (ck l 0 1).1)) ∧ ts'[3]? = some (.lit (.int .i64 (ck l 0 1).2)))))
    (step := by
      rintro k ts2 s ⟨hg, i, left, hi, hI, hl0, hl1, hck⟩
      have hr := lk_round (run E N) (drawB E 27) N (hp.gr hg) hll hI (by omega) ⟨hl0, hl1⟩
      by_cases he : i = l.length
      · obtain ⟨ts', e, h'⟩ := hr.1 he
        rw [List.drop_of_length_le (by omega), he] at hck
        rw [he] at h'
        exact .inr ⟨_, ts', _, e, by simp, hg, .inl ⟨rfl, left, h', hck⟩⟩
      · have hlt : i < l.length := by omega
        by_cases hb : left = 0 ∨ badN l[i] i
        · obtain ⟨ts', st', e, hg', a2, a3⟩ := (hr.2 hlt).1 hb
          rw [hck] at a2 a3
          exact .inr ⟨_, ts', _, e, by simp, hg.trans hg', .inr ⟨rfl, a2, a3⟩⟩
        · have h0 : left ≠ 0 := fun e => hb (.inl e)
          have hb2 : ¬ badN l[i] i := fun e => hb (.inr e)
          obtain ⟨ts', st', e, hg', h'⟩ := (hr.2 hlt).2 h0 hb2
          rw [List.drop_eq_getElem_cons hlt, ck, if_neg h0, if_neg hb2] at hck
          unfold badN at hb2
          exact .inl ⟨ts', st', e, k - 1, by omega, hg.trans hg', i + 1, _, by omega, h', by omega, by omega, hck⟩)
    N l.length ts1 st ⟨Gr.refl st, 0, 1, by omega, h1, by decide, by omega, rfl⟩ (by omega)
  obtain ⟨e, ts2, st2, e2, hg, hq⟩ := key
  refine ⟨st2, ?_, hg⟩
  rw [show l.length + 2 = N + 1 by omega]
  refine RetN.of (n := N + 1) ?_
  rw [run_code (fn := Try.f27) rfl rfl, et, lk_parts]
  rcases hq with ⟨rfl, left, h2, hck⟩ | ⟨rfl, a2, a3⟩
  · obtain ⟨ts3, e3, a2, a3⟩ : ∃ ts', aexec E 27 (run E N) (drawB E 27) N lkEnd ts2 st2 = some (.ret, ts', st2) ∧ ts'[2]? = some (.lit (.int .i64 (ck l 0 1).1)) ∧ ts'[3]? = some (.lit (.int .i64 (ck l 0 1).2)) := by
      obtain ⟨t4, t7, t8, t9, u0, ul⟩ := h2
      rw [← hck]
      cases hd : decide (left > 0) with
      | true =>
        have hc : ck [] l.length left = (l.length, 3) := by rw [ck, if_pos (of_decide_eq_true hd)]
        rw [hc]
        simp only [lkEnd, AVal.undef, sbn, sbn', code, Try.f27, Option.getD_some, Code.fst, Code.snd, Code.inn, Code.yes, Code.no, aexec, aops, aop, Region.wanted, ayielded, aexecOp, aeval, aput, aseq, ablock, ahint, absOf, flat, nilCheckA, ANext.ofP, evals, evalPs, evalO, aresults, aresults1, aresult, aend, List.getElem?_set, List.length_set, Option.map_some, Option.bind_some, if_true, if_false, ↓reduceIte, Nat.reduceLT, Nat.reduceEqDiff, reduceCtorEq, Bool.false_eq_true, false_and, and_false, and_true, true_and, Nat.reduceAdd, Nat.reduceLeDiff, callA, List.getElem?_toArray, List.getElem?_cons_succ, List.getElem?_cons_zero, sb1, sb2, sb3, sb4, hh, t4, u0, ul, ps_len hp, b_gtr, hd]
        exact ⟨_, rfl, by simp only [List.getElem?_set, List.length_set, Nat.reduceLT, Nat.reduceEqDiff, ↓reduceIte, reduceCtorEq, *], by simp only [List.getElem?_set, List.length_set, Nat.reduceLT, Nat.reduceEqDiff, ↓reduceIte, reduceCtorEq, *]; rfl⟩
      | false =>
        have hc : ck [] l.length left = (0, 0) := by rw [ck, if_neg (of_decide_eq_false hd)]
        rw [hc]
        simp only [lkEnd, AVal.undef, sbn, sbn', code, Try.f27, Option.getD_some, Code.fst, Code.snd, Code.inn, Code.yes, Code.no, aexec, aops, aop, Region.wanted, ayielded, aexecOp, aeval, aput, aseq, ablock, ahint, absOf, flat, nilCheckA, ANext.ofP, evals, evalPs, evalO, aresults, aresults1, aresult, aend, List.getElem?_set, List.length_set, Option.map_some, Option.bind_some, if_true, if_false, ↓reduceIte, Nat.reduceLT, Nat.reduceEqDiff, reduceCtorEq, Bool.false_eq_true, false_and, and_false, and_true, true_and, Nat.reduceAdd, Nat.reduceLeDiff, callA, List.getElem?_toArray, List.getElem?_cons_succ, List.getElem?_cons_zero, sb1, sb2, sb3, sb4, hh, t4, u0, ul, ps_len hp, b_gtr, hd]
        exact ⟨_, rfl, by simp only [List.getElem?_set, List.length_set, Nat.reduceLT, Nat.reduceEqDiff, ↓reduceIte, reduceCtorEq, *]; rfl, by simp only [List.getElem?_set, List.length_set, Nat.reduceLT, Nat.reduceEqDiff, ↓reduceIte, reduceCtorEq, *]; rfl⟩
    simp only [e1, aseq, e2, ablock, if_true, e3, aend, hres _ _ _ _ a2 a3, Option.map_some]
  · simp only [e1, aseq, e2, ablock, aend, hres _ _ _ _ a2 a3, Option.map_some]

end Go.Proofs.YtjpehemkgikkdaaV
