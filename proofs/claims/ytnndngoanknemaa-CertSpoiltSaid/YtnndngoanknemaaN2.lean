/- Plan.Check's contract. No condition. -/
import Derived.Test.YtnndngoanknemaaN1
namespace Go.Proofs.YtnndngoanknemaaV
open Go Go.RowKit Go.Proofs.YtnndngoanknemaaA
set_option linter.unusedVariables false
set_option linter.unusedSimpArgs false
set_option maxRecDepth 100000

theorem aexec_cond (E : Env) (fid : FuncId) (call : ACall) (dr : Array Oper → Bool) (n : Nat) (c : Operand) (a b : Code) (ts : List AVal) (st : ASt) : aexec E fid call dr n (.cond c a b) ts st = (match aeval E ts c with
    | some (.lit (.bool true)) => aexec E fid call dr n a ts st
    | some (.lit (.bool false)) => aexec E fid call dr n b ts st
    | _ => none) := by rw [aexec]; rfl
theorem aexec_skip (E : Env) (fid : FuncId) (call : ACall) (dr : Array Oper → Bool) (n : Nat) (ts : List AVal) (st : ASt) : aexec E fid call dr n .skip ts st = some (.normal, ts, st) := by rw [aexec]
theorem aexec_exit (E : Env) (fid : FuncId) (call : ACall) (dr : Array Oper → Bool) (n k : Nat) (ts : List AVal) (st : ASt) : aexec E fid call dr n (.exit k) ts st = some (.exit k, ts, st) := by rw [aexec]
theorem aexec_ret (E : Env) (fid : FuncId) (call : ACall) (dr : Array Oper → Bool) (n : Nat) (ts : List AVal) (st : ASt) : aexec E fid call dr n .ret ts st = some (.ret, ts, st) := by rw [aexec]

theorem fdiv64 (x : Nat) : (x : Int).fdiv (2 ^ min (6 : Int).toNat (IntKind.bits .u64)) = ((x / 64 : Nat) : Int) := by
  rw [Int.fdiv_eq_ediv_of_nonneg _ (by decide)]
  rfl

noncomputable def ckBody : Code := (code Try.f37).snd.snd.snd.fst.snd.inn
noncomputable def ckIn : Code := ckBody.snd.snd.fst.inn
noncomputable def ckIn2 : Code := ckIn.snd.fst.inn
noncomputable def ckR5 : Code := ckBody.fst
noncomputable def ckR6 : Code := ckIn.fst
noncomputable def ckR7 : Code := ckIn2.fst
noncomputable def ckR8 : Code := ckIn2.snd.yes.fst
noncomputable def ckR9 : Code := ckIn2.snd.no.fst
noncomputable def ckR10 : Code := ckIn2.snd.no.snd.yes.fst
noncomputable def ckR11 : Code := ckIn2.snd.no.snd.no.fst
noncomputable def ckR12 : Code := ckIn2.snd.no.snd.no.snd.yes.fst
noncomputable def ckR13 : Code := ckIn.snd.snd
noncomputable def ckR14 : Code := ckBody.snd.snd.snd
theorem ck_body : ckBody = .seq ckR5 (.seq (.cond (.tmp 13) .skip (.exit 0)) (.seq (.block 1 (.seq ckR6 (.seq (.block 2 (.seq ckR7 (.cond (.tmp 17) (.seq ckR8 .ret) (.seq ckR9 (.cond (.tmp 21) (.seq ckR10 .ret) (.seq ckR11 (.cond (.tmp 40) (.seq ckR12 .ret) .skip))))))) ckR13))) ckR14)) := rfl

/-- what holds around a node -/
structure CkS (v : AVal) (len i : Nat) (left : Int) (ts : List AVal) : Prop where
  t4 : ts[4]? = some (.lit (.int .i64 left))
  t10 : ts[10]? = some v
  t11 : ts[11]? = some (.lit (.int .i64 len))
  t12 : ts[12]? = some (.lit (.int .i64 i))
  t0 : ts[0]? = some v
  tl : ts.length = 72
structure CkN (v : AVal) (len i : Nat) (left : Int) (s : Nat) (ts : List AVal) : Prop extends CkS v len i left ts where
  t5 : ts[5]? = some (.lit (.int .i64 i))
  t6 : ts[6]? = some (.ptr s 0)

theorem ck5 (call : ACall) (dr : Array Oper → Bool) (n : Nat) {v : AVal} {len i : Nat} {left : Int} {ts : List AVal} {st : ASt} (h : CkS v len i left ts) :
    ∃ ts', aexec E 37 call dr n ckR5 ts st = some (.normal, ts', st) ∧ CkS v len i left ts' ∧ ts'[13]? = some (.lit (.bool (decide (i < len)))) := by
  obtain ⟨t4, t10, t11, t12, t0, tl⟩ := h
  have hh : ∀ t, E.hint 37 t = false := fun _ => rfl
  have hd : decide ((i : Int) < (len : Int)) = decide (i < len) := by rw [decide_eq_decide]; omega
  simp only [ckR5, ckBody, ckIn, ckIn2, AVal.undef, sbn, sbn', code, Try.f37, Option.getD_some, Code.fst, Code.snd, Code.inn, Code.yes, Code.no, aexec, aops, aop, Region.wanted, ayielded, aexecOp, aeval, aput, aseq, ablock, ahint, absOf, flat, nilCheckA, ANext.ofP, evals, evalPs, evalO, aresults, aresults1, aresult, aend, List.getElem?_set, List.length_set, Option.map_some, Option.bind_some, if_true, if_false, ↓reduceIte, Nat.reduceLT, Nat.reduceEqDiff, reduceCtorEq, Bool.false_eq_true, false_and, and_false, and_true, true_and, Nat.reduceAdd, Nat.reduceLeDiff, callA, List.getElem?_toArray, List.getElem?_cons_succ, List.getElem?_cons_zero, sb1, sb2, sb3, sb4, sliceU_i, sliceU_s, sliceU_p, sliceU_l, evalV, hh, t4, t10, t11, t12, t0, tl, b_lss, hd]
  exact ⟨_, rfl, ⟨by simp only [List.getElem?_set, List.length_set, Nat.reduceLT, Nat.reduceEqDiff, ↓reduceIte, reduceCtorEq, *], by simp only [List.getElem?_set, List.length_set, Nat.reduceLT, Nat.reduceEqDiff, ↓reduceIte, reduceCtorEq, *], by simp only [List.getElem?_set, List.length_set, Nat.reduceLT, Nat.reduceEqDiff, ↓reduceIte, reduceCtorEq, *], by simp only [List.getElem?_set, List.length_set, Nat.reduceLT, Nat.reduceEqDiff, ↓reduceIte, reduceCtorEq, *], by simp only [List.getElem?_set, List.length_set, Nat.reduceLT, Nat.reduceEqDiff, ↓reduceIte, reduceCtorEq, *], by simp only [List.getElem?_set, List.length_set, Nat.reduceLT, Nat.reduceEqDiff, ↓reduceIte, reduceCtorEq, *]⟩, by simp only [List.getElem?_set, List.length_set, Nat.reduceLT, Nat.reduceEqDiff, ↓reduceIte, reduceCtorEq, *]⟩

theorem ck6 (call : ACall) (dr : Array Oper → Bool) (n : Nat) {v : AVal} {l : List Nd} {i : Nat} {left : Int} {ts : List AVal} {st : ASt} (hp : PS st v l) (hi : i < l.length) (h : CkS v l.length i left ts) :
    ∃ ts', aexec E 37 call dr n ckR6 ts st = some (.normal, ts', laidN st l[i]) ∧ CkN v l.length i left st.ctr ts' := by
  obtain ⟨t4, t10, t11, t12, t0, tl⟩ := h
  have hh : ∀ t, E.hint 37 t = false := fun _ => rfl
  obtain ⟨p, q, i1, i2, _⟩ := ps_idx hp hi
  simp only [ckR6, ckBody, ckIn, ckIn2, AVal.undef, sbn, sbn', code, Try.f37, Option.getD_some, Code.fst, Code.snd, Code.inn, Code.yes, Code.no, aexec, aops, aop, Region.wanted, ayielded, aexecOp, aeval, aput, aseq, ablock, ahint, absOf, flat, nilCheckA, ANext.ofP, evals, evalPs, evalO, aresults, aresults1, aresult, aend, List.getElem?_set, List.length_set, Option.map_some, Option.bind_some, if_true, if_false, ↓reduceIte, Nat.reduceLT, Nat.reduceEqDiff, reduceCtorEq, Bool.false_eq_true, false_and, and_false, and_true, true_and, Nat.reduceAdd, Nat.reduceLeDiff, callA, List.getElem?_toArray, List.getElem?_cons_succ, List.getElem?_cons_zero, sb1, sb2, sb3, sb4, sliceU_i, sliceU_s, sliceU_p, sliceU_l, evalV, hh, t4, t10, t11, t12, t0, tl, i1, i2, alloc_n, store_n]
  exact ⟨_, rfl, ⟨⟨by simp only [List.getElem?_set, List.length_set, Nat.reduceLT, Nat.reduceEqDiff, ↓reduceIte, reduceCtorEq, *], by simp only [List.getElem?_set, List.length_set, Nat.reduceLT, Nat.reduceEqDiff, ↓reduceIte, reduceCtorEq, *], by simp only [List.getElem?_set, List.length_set, Nat.reduceLT, Nat.reduceEqDiff, ↓reduceIte, reduceCtorEq, *], by simp only [List.getElem?_set, List.length_set, Nat.reduceLT, Nat.reduceEqDiff, ↓reduceIte, reduceCtorEq, *], by simp only [List.getElem?_set, List.length_set, Nat.reduceLT, Nat.reduceEqDiff, ↓reduceIte, reduceCtorEq, *], by simp only [List.getElem?_set, List.length_set, Nat.reduceLT, Nat.reduceEqDiff, ↓reduceIte, reduceCtorEq, *]⟩, by simp only [List.getElem?_set, List.length_set, Nat.reduceLT, Nat.reduceEqDiff, ↓reduceIte, reduceCtorEq, *], by simp only [List.getElem?_set, List.length_set, Nat.reduceLT, Nat.reduceEqDiff, ↓reduceIte, reduceCtorEq, *]⟩⟩

theorem ck7 (call : ACall) (dr : Array Oper → Bool) (n : Nat) {v : AVal} {len i s : Nat} {left : Int} {ts : List AVal} {st : ASt} (h : CkN v len i left s ts) :
    ∃ ts', aexec E 37 call dr n ckR7 ts st = some (.normal, ts', st) ∧ CkN v len i left s ts' ∧ ts'[17]? = some (.lit (.bool (decide (left = 0)))) := by
  obtain ⟨⟨t4, t10, t11, t12, t0, tl⟩, t5, t6⟩ := h
  have hh : ∀ t, E.hint 37 t = false := fun _ => rfl
  have hd : (left == 0) = decide (left = 0) := by by_cases e : left = 0 <;> simp [e]
  simp only [ckR7, ckBody, ckIn, ckIn2, AVal.undef, sbn, sbn', code, Try.f37, Option.getD_some, Code.fst, Code.snd, Code.inn, Code.yes, Code.no, aexec, aops, aop, Region.wanted, ayielded, aexecOp, aeval, aput, aseq, ablock, ahint, absOf, flat, nilCheckA, ANext.ofP, evals, evalPs, evalO, aresults, aresults1, aresult, aend, List.getElem?_set, List.length_set, Option.map_some, Option.bind_some, if_true, if_false, ↓reduceIte, Nat.reduceLT, Nat.reduceEqDiff, reduceCtorEq, Bool.false_eq_true, false_and, and_false, and_true, true_and, Nat.reduceAdd, Nat.reduceLeDiff, callA, List.getElem?_toArray, List.getElem?_cons_succ, List.getElem?_cons_zero, sb1, sb2, sb3, sb4, sliceU_i, sliceU_s, sliceU_p, sliceU_l, evalV, hh, t4, t10, t11, t12, t0, tl, t5, t6, b_eql, hd]
  exact ⟨_, rfl, ⟨⟨by simp only [List.getElem?_set, List.length_set, Nat.reduceLT, Nat.reduceEqDiff, ↓reduceIte, reduceCtorEq, *], by simp only [List.getElem?_set, List.length_set, Nat.reduceLT, Nat.reduceEqDiff, ↓reduceIte, reduceCtorEq, *], by simp only [List.getElem?_set, List.length_set, Nat.reduceLT, Nat.reduceEqDiff, ↓reduceIte, reduceCtorEq, *], by simp only [List.getElem?_set, List.length_set, Nat.reduceLT, Nat.reduceEqDiff, ↓reduceIte, reduceCtorEq, *], by simp only [List.getElem?_set, List.length_set, Nat.reduceLT, Nat.reduceEqDiff, ↓reduceIte, reduceCtorEq, *], by simp only [List.getElem?_set, List.length_set, Nat.reduceLT, Nat.reduceEqDiff, ↓reduceIte, reduceCtorEq, *]⟩, by simp only [List.getElem?_set, List.length_set, Nat.reduceLT, Nat.reduceEqDiff, ↓reduceIte, reduceCtorEq, *], by simp only [List.getElem?_set, List.length_set, Nat.reduceLT, Nat.reduceEqDiff, ↓reduceIte, reduceCtorEq, *]⟩, by simp only [List.getElem?_set, List.length_set, Nat.reduceLT, Nat.reduceEqDiff, ↓reduceIte, reduceCtorEq, *]⟩

theorem ck8 (call : ACall) (dr : Array Oper → Bool) (n : Nat) {v : AVal} {len i s : Nat} {left : Int} {ts : List AVal} {st : ASt} (h : CkN v len i left s ts) :
    ∃ ts', aexec E 37 call dr n ckR8 ts st = some (.normal, ts', st) ∧ ts'[2]? = some (.lit (.int .i64 i)) ∧ ts'[3]? = some (.lit (.int .i64 (11 : Nat))) := by
  obtain ⟨⟨t4, t10, t11, t12, t0, tl⟩, t5, t6⟩ := h
  have hh : ∀ t, E.hint 37 t = false := fun _ => rfl
  simp only [ckR8, ckBody, ckIn, ckIn2, AVal.undef, sbn, sbn', code, Try.f37, Option.getD_some, Code.fst, Code.snd, Code.inn, Code.yes, Code.no, aexec, aops, aop, Region.wanted, ayielded, aexecOp, aeval, aput, aseq, ablock, ahint, absOf, flat, nilCheckA, ANext.ofP, evals, evalPs, evalO, aresults, aresults1, aresult, aend, List.getElem?_set, List.length_set, Option.map_some, Option.bind_some, if_true, if_false, ↓reduceIte, Nat.reduceLT, Nat.reduceEqDiff, reduceCtorEq, Bool.false_eq_true, false_and, and_false, and_true, true_and, Nat.reduceAdd, Nat.reduceLeDiff, callA, List.getElem?_toArray, List.getElem?_cons_succ, List.getElem?_cons_zero, sb1, sb2, sb3, sb4, sliceU_i, sliceU_s, sliceU_p, sliceU_l, evalV, hh, t4, t10, t11, t12, t0, tl, t5, t6]
  exact ⟨_, rfl, by simp only [List.getElem?_set, List.length_set, Nat.reduceLT, Nat.reduceEqDiff, ↓reduceIte, reduceCtorEq, *], by simp only [List.getElem?_set, List.length_set, Nat.reduceLT, Nat.reduceEqDiff, ↓reduceIte, reduceCtorEq, *]; rfl⟩

theorem ck10 (call : ACall) (dr : Array Oper → Bool) (n : Nat) {v : AVal} {len i s : Nat} {left : Int} {ts : List AVal} {st : ASt} (h : CkN v len i left s ts) :
    ∃ ts', aexec E 37 call dr n ckR10 ts st = some (.normal, ts', st) ∧ ts'[2]? = some (.lit (.int .i64 i)) ∧ ts'[3]? = some (.lit (.int .i64 (6 : Nat))) := by
  obtain ⟨⟨t4, t10, t11, t12, t0, tl⟩, t5, t6⟩ := h
  have hh : ∀ t, E.hint 37 t = false := fun _ => rfl
  simp only [ckR10, ckBody, ckIn, ckIn2, AVal.undef, sbn, sbn', code, Try.f37, Option.getD_some, Code.fst, Code.snd, Code.inn, Code.yes, Code.no, aexec, aops, aop, Region.wanted, ayielded, aexecOp, aeval, aput, aseq, ablock, ahint, absOf, flat, nilCheckA, ANext.ofP, evals, evalPs, evalO, aresults, aresults1, aresult, aend, List.getElem?_set, List.length_set, Option.map_some, Option.bind_some, if_true, if_false, ↓reduceIte, Nat.reduceLT, Nat.reduceEqDiff, reduceCtorEq, Bool.false_eq_true, false_and, and_false, and_true, true_and, Nat.reduceAdd, Nat.reduceLeDiff, callA, List.getElem?_toArray, List.getElem?_cons_succ, List.getElem?_cons_zero, sb1, sb2, sb3, sb4, sliceU_i, sliceU_s, sliceU_p, sliceU_l, evalV, hh, t4, t10, t11, t12, t0, tl, t5, t6]
  exact ⟨_, rfl, by simp only [List.getElem?_set, List.length_set, Nat.reduceLT, Nat.reduceEqDiff, ↓reduceIte, reduceCtorEq, *], by simp only [List.getElem?_set, List.length_set, Nat.reduceLT, Nat.reduceEqDiff, ↓reduceIte, reduceCtorEq, *]; rfl⟩

theorem ck12 (call : ACall) (dr : Array Oper → Bool) (n : Nat) {v : AVal} {len i s : Nat} {left : Int} {ts : List AVal} {st : ASt} (h : CkN v len i left s ts) :
    ∃ ts', aexec E 37 call dr n ckR12 ts st = some (.normal, ts', st) ∧ ts'[2]? = some (.lit (.int .i64 i)) ∧ ts'[3]? = some (.lit (.int .i64 (6 : Nat))) := by
  obtain ⟨⟨t4, t10, t11, t12, t0, tl⟩, t5, t6⟩ := h
  have hh : ∀ t, E.hint 37 t = false := fun _ => rfl
  simp only [ckR12, ckBody, ckIn, ckIn2, AVal.undef, sbn, sbn', code, Try.f37, Option.getD_some, Code.fst, Code.snd, Code.inn, Code.yes, Code.no, aexec, aops, aop, Region.wanted, ayielded, aexecOp, aeval, aput, aseq, ablock, ahint, absOf, flat, nilCheckA, ANext.ofP, evals, evalPs, evalO, aresults, aresults1, aresult, aend, List.getElem?_set, List.length_set, Option.map_some, Option.bind_some, if_true, if_false, ↓reduceIte, Nat.reduceLT, Nat.reduceEqDiff, reduceCtorEq, Bool.false_eq_true, false_and, and_false, and_true, true_and, Nat.reduceAdd, Nat.reduceLeDiff, callA, List.getElem?_toArray, List.getElem?_cons_succ, List.getElem?_cons_zero, sb1, sb2, sb3, sb4, sliceU_i, sliceU_s, sliceU_p, sliceU_l, evalV, hh, t4, t10, t11, t12, t0, tl, t5, t6]
  exact ⟨_, rfl, by simp only [List.getElem?_set, List.length_set, Nat.reduceLT, Nat.reduceEqDiff, ↓reduceIte, reduceCtorEq, *], by simp only [List.getElem?_set, List.length_set, Nat.reduceLT, Nat.reduceEqDiff, ↓reduceIte, reduceCtorEq, *]; rfl⟩

set_option maxHeartbeats 1000000 in
theorem ck9 (call : ACall) (dr : Array Oper → Bool) (n : Nat) {v : AVal} {len i s : Nat} {left : Int} {ts : List AVal} {st : ASt} {nd : Nd} (hn : st.heap s = some (.cells nd.cs)) (h : CkN v len i left s ts) :
    ∃ ts', aexec E 37 call dr n ckR9 ts st = some (.normal, ts', st) ∧ CkN v len i left s ts' ∧ ts'[21]? = some (.lit (.bool (decide (nd.th < 0 ∨ 6 ≤ nd.th ∨ (i = 0 ∧ nd.th ≠ 0))))) := by
  obtain ⟨⟨t4, t10, t11, t12, t0, tl⟩, t5, t6⟩ := h
  have hh : ∀ t, E.hint 37 t = false := fun _ => rfl
  obtain ⟨f0, f1, f2, f3⟩ := fldN1 s
  obtain ⟨l0, l1, l2, l3, l4⟩ := ldN1 hn
  cases a1 : decide (nd.th < 0) with
  | true =>
    have hr : decide (nd.th < 0 ∨ 6 ≤ nd.th ∨ (i = 0 ∧ nd.th ≠ 0)) = true := by rw [decide_eq_true_eq] at a1 ⊢; exact .inl a1
    rw [hr]
    simp only [ckR9, ckBody, ckIn, ckIn2, AVal.undef, sbn, sbn', code, Try.f37, Option.getD_some, Code.fst, Code.snd, Code.inn, Code.yes, Code.no, aexec, aops, aop, Region.wanted, ayielded, aexecOp, aeval, aput, aseq, ablock, ahint, absOf, flat, nilCheckA, ANext.ofP, evals, evalPs, evalO, aresults, aresults1, aresult, aend, List.getElem?_set, List.length_set, Option.map_some, Option.bind_some, if_true, if_false, ↓reduceIte, Nat.reduceLT, Nat.reduceEqDiff, reduceCtorEq, Bool.false_eq_true, false_and, and_false, and_true, true_and, Nat.reduceAdd, Nat.reduceLeDiff, callA, List.getElem?_toArray, List.getElem?_cons_succ, List.getElem?_cons_zero, sb1, sb2, sb3, sb4, sliceU_i, sliceU_s, sliceU_p, sliceU_l, evalV, hh, t4, t10, t11, t12, t0, tl, t5, t6, f0, l1, b_lss, a1]
    exact ⟨_, rfl, ⟨⟨by simp only [List.getElem?_set, List.length_set, Nat.reduceLT, Nat.reduceEqDiff, ↓reduceIte, reduceCtorEq, *], by simp only [List.getElem?_set, List.length_set, Nat.reduceLT, Nat.reduceEqDiff, ↓reduceIte, reduceCtorEq, *], by simp only [List.getElem?_set, List.length_set, Nat.reduceLT, Nat.reduceEqDiff, ↓reduceIte, reduceCtorEq, *], by simp only [List.getElem?_set, List.length_set, Nat.reduceLT, Nat.reduceEqDiff, ↓reduceIte, reduceCtorEq, *], by simp only [List.getElem?_set, List.length_set, Nat.reduceLT, Nat.reduceEqDiff, ↓reduceIte, reduceCtorEq, *], by simp only [List.getElem?_set, List.length_set, Nat.reduceLT, Nat.reduceEqDiff, ↓reduceIte, reduceCtorEq, *]⟩, by simp only [List.getElem?_set, List.length_set, Nat.reduceLT, Nat.reduceEqDiff, ↓reduceIte, reduceCtorEq, *], by simp only [List.getElem?_set, List.length_set, Nat.reduceLT, Nat.reduceEqDiff, ↓reduceIte, reduceCtorEq, *]⟩, by simp only [List.getElem?_set, List.length_set, Nat.reduceLT, Nat.reduceEqDiff, ↓reduceIte, reduceCtorEq, *]⟩
  | false =>
    cases a2 : decide (nd.th ≥ 6) with
    | true =>
      have hr : decide (nd.th < 0 ∨ 6 ≤ nd.th ∨ (i = 0 ∧ nd.th ≠ 0)) = true := by rw [decide_eq_true_eq] at a2 ⊢; exact .inr (.inl a2)
      rw [hr]
      simp only [ckR9, ckBody, ckIn, ckIn2, AVal.undef, sbn, sbn', code, Try.f37, Option.getD_some, Code.fst, Code.snd, Code.inn, Code.yes, Code.no, aexec, aops, aop, Region.wanted, ayielded, aexecOp, aeval, aput, aseq, ablock, ahint, absOf, flat, nilCheckA, ANext.ofP, evals, evalPs, evalO, aresults, aresults1, aresult, aend, List.getElem?_set, List.length_set, Option.map_some, Option.bind_some, if_true, if_false, ↓reduceIte, Nat.reduceLT, Nat.reduceEqDiff, reduceCtorEq, Bool.false_eq_true, false_and, and_false, and_true, true_and, Nat.reduceAdd, Nat.reduceLeDiff, callA, List.getElem?_toArray, List.getElem?_cons_succ, List.getElem?_cons_zero, sb1, sb2, sb3, sb4, sliceU_i, sliceU_s, sliceU_p, sliceU_l, evalV, hh, t4, t10, t11, t12, t0, tl, t5, t6, f0, l1, b_lss, a1, b_geq, a2]
      exact ⟨_, rfl, ⟨⟨by simp only [List.getElem?_set, List.length_set, Nat.reduceLT, Nat.reduceEqDiff, ↓reduceIte, reduceCtorEq, *], by simp only [List.getElem?_set, List.length_set, Nat.reduceLT, Nat.reduceEqDiff, ↓reduceIte, reduceCtorEq, *], by simp only [List.getElem?_set, List.length_set, Nat.reduceLT, Nat.reduceEqDiff, ↓reduceIte, reduceCtorEq, *], by simp only [List.getElem?_set, List.length_set, Nat.reduceLT, Nat.reduceEqDiff, ↓reduceIte, reduceCtorEq, *], by simp only [List.getElem?_set, List.length_set, Nat.reduceLT, Nat.reduceEqDiff, ↓reduceIte, reduceCtorEq, *], by simp only [List.getElem?_set, List.length_set, Nat.reduceLT, Nat.reduceEqDiff, ↓reduceIte, reduceCtorEq, *]⟩, by simp only [List.getElem?_set, List.length_set, Nat.reduceLT, Nat.reduceEqDiff, ↓reduceIte, reduceCtorEq, *], by simp only [List.getElem?_set, List.length_set, Nat.reduceLT, Nat.reduceEqDiff, ↓reduceIte, reduceCtorEq, *]⟩, by simp only [List.getElem?_set, List.length_set, Nat.reduceLT, Nat.reduceEqDiff, ↓reduceIte, reduceCtorEq, *]⟩
    | false =>
      cases a3 : (((i : Nat) : Int) == 0) with
      | true =>
        have hi : i = 0 := by have := eq_of_beq a3; omega
        have hr : decide (nd.th < 0 ∨ 6 ≤ nd.th ∨ (i = 0 ∧ nd.th ≠ 0)) = (nd.th != 0) := by
          rw [decide_eq_false_iff_not] at a1 a2
          by_cases e : nd.th = 0
          · simp [e]
          · simp only [hi, e]; simp [e]
        rw [hr]
        simp only [ckR9, ckBody, ckIn, ckIn2, AVal.undef, sbn, sbn', code, Try.f37, Option.getD_some, Code.fst, Code.snd, Code.inn, Code.yes, Code.no, aexec, aops, aop, Region.wanted, ayielded, aexecOp, aeval, aput, aseq, ablock, ahint, absOf, flat, nilCheckA, ANext.ofP, evals, evalPs, evalO, aresults, aresults1, aresult, aend, List.getElem?_set, List.length_set, Option.map_some, Option.bind_some, if_true, if_false, ↓reduceIte, Nat.reduceLT, Nat.reduceEqDiff, reduceCtorEq, Bool.false_eq_true, false_and, and_false, and_true, true_and, Nat.reduceAdd, Nat.reduceLeDiff, callA, List.getElem?_toArray, List.getElem?_cons_succ, List.getElem?_cons_zero, sb1, sb2, sb3, sb4, sliceU_i, sliceU_s, sliceU_p, sliceU_l, evalV, hh, t4, t10, t11, t12, t0, tl, t5, t6, f0, l1, b_lss, a1, b_geq, a2, b_eql, a3, b_neq]
        exact ⟨_, rfl, ⟨⟨by simp only [List.getElem?_set, List.length_set, Nat.reduceLT, Nat.reduceEqDiff, ↓reduceIte, reduceCtorEq, *], by simp only [List.getElem?_set, List.length_set, Nat.reduceLT, Nat.reduceEqDiff, ↓reduceIte, reduceCtorEq, *], by simp only [List.getElem?_set, List.length_set, Nat.reduceLT, Nat.reduceEqDiff, ↓reduceIte, reduceCtorEq, *], by simp only [List.getElem?_set, List.length_set, Nat.reduceLT, Nat.reduceEqDiff, ↓reduceIte, reduceCtorEq, *], by simp only [List.getElem?_set, List.length_set, Nat.reduceLT, Nat.reduceEqDiff, ↓reduceIte, reduceCtorEq, *], by simp only [List.getElem?_set, List.length_set, Nat.reduceLT, Nat.reduceEqDiff, ↓reduceIte, reduceCtorEq, *]⟩, by simp only [List.getElem?_set, List.length_set, Nat.reduceLT, Nat.reduceEqDiff, ↓reduceIte, reduceCtorEq, *], by simp only [List.getElem?_set, List.length_set, Nat.reduceLT, Nat.reduceEqDiff, ↓reduceIte, reduceCtorEq, *]⟩, by simp only [List.getElem?_set, List.length_set, Nat.reduceLT, Nat.reduceEqDiff, ↓reduceIte, reduceCtorEq, *]⟩
      | false =>
        have hi : i ≠ 0 := by intro e; rw [e] at a3; cases a3
        have hr : decide (nd.th < 0 ∨ 6 ≤ nd.th ∨ (i = 0 ∧ nd.th ≠ 0)) = false := by
          rw [decide_eq_false_iff_not] at a1 a2 ⊢
          rintro (h | h | h)
          · exact a1 h
          · exact a2 h
          · exact hi h.1
        rw [hr]
        simp only [ckR9, ckBody, ckIn, ckIn2, AVal.undef, sbn, sbn', code, Try.f37, Option.getD_some, Code.fst, Code.snd, Code.inn, Code.yes, Code.no, aexec, aops, aop, Region.wanted, ayielded, aexecOp, aeval, aput, aseq, ablock, ahint, absOf, flat, nilCheckA, ANext.ofP, evals, evalPs, evalO, aresults, aresults1, aresult, aend, List.getElem?_set, List.length_set, Option.map_some, Option.bind_some, if_true, if_false, ↓reduceIte, Nat.reduceLT, Nat.reduceEqDiff, reduceCtorEq, Bool.false_eq_true, false_and, and_false, and_true, true_and, Nat.reduceAdd, Nat.reduceLeDiff, callA, List.getElem?_toArray, List.getElem?_cons_succ, List.getElem?_cons_zero, sb1, sb2, sb3, sb4, sliceU_i, sliceU_s, sliceU_p, sliceU_l, evalV, hh, t4, t10, t11, t12, t0, tl, t5, t6, f0, l1, b_lss, a1, b_geq, a2, b_eql, a3]
        exact ⟨_, rfl, ⟨⟨by simp only [List.getElem?_set, List.length_set, Nat.reduceLT, Nat.reduceEqDiff, ↓reduceIte, reduceCtorEq, *], by simp only [List.getElem?_set, List.length_set, Nat.reduceLT, Nat.reduceEqDiff, ↓reduceIte, reduceCtorEq, *], by simp only [List.getElem?_set, List.length_set, Nat.reduceLT, Nat.reduceEqDiff, ↓reduceIte, reduceCtorEq, *], by simp only [List.getElem?_set, List.length_set, Nat.reduceLT, Nat.reduceEqDiff, ↓reduceIte, reduceCtorEq, *], by simp only [List.getElem?_set, List.length_set, Nat.reduceLT, Nat.reduceEqDiff, ↓reduceIte, reduceCtorEq, *], by simp only [List.getElem?_set, List.length_set, Nat.reduceLT, Nat.reduceEqDiff, ↓reduceIte, reduceCtorEq, *]⟩, by simp only [List.getElem?_set, List.length_set, Nat.reduceLT, Nat.reduceEqDiff, ↓reduceIte, reduceCtorEq, *], by simp only [List.getElem?_set, List.length_set, Nat.reduceLT, Nat.reduceEqDiff, ↓reduceIte, reduceCtorEq, *]⟩, by simp only [List.getElem?_set, List.length_set, Nat.reduceLT, Nat.reduceEqDiff, ↓reduceIte, reduceCtorEq, *]⟩

set_option maxHeartbeats 1000000 in
theorem ck11 (call : ACall) (dr : Array Oper → Bool) (n : Nat) {v : AVal} {len i s : Nat} {left : Int} {ts : List AVal} {st : ASt} {nd : Nd} (hn : st.heap s = some (.cells nd.cs)) (h : CkN v len i left s ts) :
    ∃ ts', aexec E 37 call dr n ckR11 ts st = some (.normal, ts', st) ∧ CkN v len i left s ts' ∧ ts'[40]? = some (.lit (.bool (decide (63 < nd.sl ∨ 63 < nd.so ∨ nd.kd < 0 ∨ 6 < nd.kd)))) := by
  obtain ⟨⟨t4, t10, t11, t12, t0, tl⟩, t5, t6⟩ := h
  have hh : ∀ t, E.hint 37 t = false := fun _ => rfl
  obtain ⟨f0, f1, f2, f3⟩ := fldN1 s
  obtain ⟨l0, l1, l2, l3, l4⟩ := ldN1 hn
  cases a1 : decide (((nd.sl / 64 : Nat) : Int) > 0) with
  | true =>
    have hr : decide (63 < nd.sl ∨ 63 < nd.so ∨ nd.kd < 0 ∨ 6 < nd.kd) = true := by
      rw [decide_eq_true_eq] at a1 ⊢
      omega
    rw [hr]
    simp only [ckR11, ckBody, ckIn, ckIn2, AVal.undef, sbn, sbn', code, Try.f37, Option.getD_some, Code.fst, Code.snd, Code.inn, Code.yes, Code.no, aexec, aops, aop, Region.wanted, ayielded, aexecOp, aeval, aput, aseq, ablock, ahint, absOf, flat, nilCheckA, ANext.ofP, evals, evalPs, evalO, aresults, aresults1, aresult, aend, List.getElem?_set, List.length_set, Option.map_some, Option.bind_some, if_true, if_false, ↓reduceIte, Nat.reduceLT, Nat.reduceEqDiff, reduceCtorEq, Bool.false_eq_true, false_and, and_false, and_true, true_and, Nat.reduceAdd, Nat.reduceLeDiff, callA, List.getElem?_toArray, List.getElem?_cons_succ, List.getElem?_cons_zero, sb1, sb2, sb3, sb4, sliceU_i, sliceU_s, sliceU_p, sliceU_l, evalV, hh, t4, t10, t11, t12, t0, tl, t5, t6, f1, f2, f3, l2, l3, l4, b_shr _ _ _ _ _ _ _ _ (show (0 : Int) ≤ 6 by decide), fdiv64, b_gtr, b_lss, a1]
    exact ⟨_, rfl, ⟨⟨by simp only [List.getElem?_set, List.length_set, Nat.reduceLT, Nat.reduceEqDiff, ↓reduceIte, reduceCtorEq, *], by simp only [List.getElem?_set, List.length_set, Nat.reduceLT, Nat.reduceEqDiff, ↓reduceIte, reduceCtorEq, *], by simp only [List.getElem?_set, List.length_set, Nat.reduceLT, Nat.reduceEqDiff, ↓reduceIte, reduceCtorEq, *], by simp only [List.getElem?_set, List.length_set, Nat.reduceLT, Nat.reduceEqDiff, ↓reduceIte, reduceCtorEq, *], by simp only [List.getElem?_set, List.length_set, Nat.reduceLT, Nat.reduceEqDiff, ↓reduceIte, reduceCtorEq, *], by simp only [List.getElem?_set, List.length_set, Nat.reduceLT, Nat.reduceEqDiff, ↓reduceIte, reduceCtorEq, *]⟩, by simp only [List.getElem?_set, List.length_set, Nat.reduceLT, Nat.reduceEqDiff, ↓reduceIte, reduceCtorEq, *], by simp only [List.getElem?_set, List.length_set, Nat.reduceLT, Nat.reduceEqDiff, ↓reduceIte, reduceCtorEq, *]⟩, by simp only [List.getElem?_set, List.length_set, Nat.reduceLT, Nat.reduceEqDiff, ↓reduceIte, reduceCtorEq, *]⟩
  | false =>
    cases a2 : decide (((nd.so / 64 : Nat) : Int) > 0) with
    | true =>
      have hr : decide (63 < nd.sl ∨ 63 < nd.so ∨ nd.kd < 0 ∨ 6 < nd.kd) = true := by
        rw [decide_eq_true_eq] at a2 ⊢
        omega
      rw [hr]
      simp only [ckR11, ckBody, ckIn, ckIn2, AVal.undef, sbn, sbn', code, Try.f37, Option.getD_some, Code.fst, Code.snd, Code.inn, Code.yes, Code.no, aexec, aops, aop, Region.wanted, ayielded, aexecOp, aeval, aput, aseq, ablock, ahint, absOf, flat, nilCheckA, ANext.ofP, evals, evalPs, evalO, aresults, aresults1, aresult, aend, List.getElem?_set, List.length_set, Option.map_some, Option.bind_some, if_true, if_false, ↓reduceIte, Nat.reduceLT, Nat.reduceEqDiff, reduceCtorEq, Bool.false_eq_true, false_and, and_false, and_true, true_and, Nat.reduceAdd, Nat.reduceLeDiff, callA, List.getElem?_toArray, List.getElem?_cons_succ, List.getElem?_cons_zero, sb1, sb2, sb3, sb4, sliceU_i, sliceU_s, sliceU_p, sliceU_l, evalV, hh, t4, t10, t11, t12, t0, tl, t5, t6, f1, f2, f3, l2, l3, l4, b_shr _ _ _ _ _ _ _ _ (show (0 : Int) ≤ 6 by decide), fdiv64, b_gtr, b_lss, a1, a2]
      exact ⟨_, rfl, ⟨⟨by simp only [List.getElem?_set, List.length_set, Nat.reduceLT, Nat.reduceEqDiff, ↓reduceIte, reduceCtorEq, *], by simp only [List.getElem?_set, List.length_set, Nat.reduceLT, Nat.reduceEqDiff, ↓reduceIte, reduceCtorEq, *], by simp only [List.getElem?_set, List.length_set, Nat.reduceLT, Nat.reduceEqDiff, ↓reduceIte, reduceCtorEq, *], by simp only [List.getElem?_set, List.length_set, Nat.reduceLT, Nat.reduceEqDiff, ↓reduceIte, reduceCtorEq, *], by simp only [List.getElem?_set, List.length_set, Nat.reduceLT, Nat.reduceEqDiff, ↓reduceIte, reduceCtorEq, *], by simp only [List.getElem?_set, List.length_set, Nat.reduceLT, Nat.reduceEqDiff, ↓reduceIte, reduceCtorEq, *]⟩, by simp only [List.getElem?_set, List.length_set, Nat.reduceLT, Nat.reduceEqDiff, ↓reduceIte, reduceCtorEq, *], by simp only [List.getElem?_set, List.length_set, Nat.reduceLT, Nat.reduceEqDiff, ↓reduceIte, reduceCtorEq, *]⟩, by simp only [List.getElem?_set, List.length_set, Nat.reduceLT, Nat.reduceEqDiff, ↓reduceIte, reduceCtorEq, *]⟩
    | false =>
      cases a3 : decide (nd.kd < 0) with
      | true =>
        have hr : decide (63 < nd.sl ∨ 63 < nd.so ∨ nd.kd < 0 ∨ 6 < nd.kd) = true := by
          rw [decide_eq_true_eq] at a3 ⊢
          omega
        rw [hr]
        simp only [ckR11, ckBody, ckIn, ckIn2, AVal.undef, sbn, sbn', code, Try.f37, Option.getD_some, Code.fst, Code.snd, Code.inn, Code.yes, Code.no, aexec, aops, aop, Region.wanted, ayielded, aexecOp, aeval, aput, aseq, ablock, ahint, absOf, flat, nilCheckA, ANext.ofP, evals, evalPs, evalO, aresults, aresults1, aresult, aend, List.getElem?_set, List.length_set, Option.map_some, Option.bind_some, if_true, if_false, ↓reduceIte, Nat.reduceLT, Nat.reduceEqDiff, reduceCtorEq, Bool.false_eq_true, false_and, and_false, and_true, true_and, Nat.reduceAdd, Nat.reduceLeDiff, callA, List.getElem?_toArray, List.getElem?_cons_succ, List.getElem?_cons_zero, sb1, sb2, sb3, sb4, sliceU_i, sliceU_s, sliceU_p, sliceU_l, evalV, hh, t4, t10, t11, t12, t0, tl, t5, t6, f1, f2, f3, l2, l3, l4, b_shr _ _ _ _ _ _ _ _ (show (0 : Int) ≤ 6 by decide), fdiv64, b_gtr, b_lss, a1, a2, a3]
        exact ⟨_, rfl, ⟨⟨by simp only [List.getElem?_set, List.length_set, Nat.reduceLT, Nat.reduceEqDiff, ↓reduceIte, reduceCtorEq, *], by simp only [List.getElem?_set, List.length_set, Nat.reduceLT, Nat.reduceEqDiff, ↓reduceIte, reduceCtorEq, *], by simp only [List.getElem?_set, List.length_set, Nat.reduceLT, Nat.reduceEqDiff, ↓reduceIte, reduceCtorEq, *], by simp only [List.getElem?_set, List.length_set, Nat.reduceLT, Nat.reduceEqDiff, ↓reduceIte, reduceCtorEq, *], by simp only [List.getElem?_set, List.length_set, Nat.reduceLT, Nat.reduceEqDiff, ↓reduceIte, reduceCtorEq, *], by simp only [List.getElem?_set, List.length_set, Nat.reduceLT, Nat.reduceEqDiff, ↓reduceIte, reduceCtorEq, *]⟩, by simp only [List.getElem?_set, List.length_set, Nat.reduceLT, Nat.reduceEqDiff, ↓reduceIte, reduceCtorEq, *], by simp only [List.getElem?_set, List.length_set, Nat.reduceLT, Nat.reduceEqDiff, ↓reduceIte, reduceCtorEq, *]⟩, by simp only [List.getElem?_set, List.length_set, Nat.reduceLT, Nat.reduceEqDiff, ↓reduceIte, reduceCtorEq, *]⟩
      | false =>
        cases a4 : decide (nd.kd > 6) with
        | true =>
          have hr : decide (63 < nd.sl ∨ 63 < nd.so ∨ nd.kd < 0 ∨ 6 < nd.kd) = true := by
            rw [decide_eq_true_eq] at a4 ⊢
            omega
          rw [hr]
          simp only [ckR11, ckBody, ckIn, ckIn2, AVal.undef, sbn, sbn', code, Try.f37, Option.getD_some, Code.fst, Code.snd, Code.inn, Code.yes, Code.no, aexec, aops, aop, Region.wanted, ayielded, aexecOp, aeval, aput, aseq, ablock, ahint, absOf, flat, nilCheckA, ANext.ofP, evals, evalPs, evalO, aresults, aresults1, aresult, aend, List.getElem?_set, List.length_set, Option.map_some, Option.bind_some, if_true, if_false, ↓reduceIte, Nat.reduceLT, Nat.reduceEqDiff, reduceCtorEq, Bool.false_eq_true, false_and, and_false, and_true, true_and, Nat.reduceAdd, Nat.reduceLeDiff, callA, List.getElem?_toArray, List.getElem?_cons_succ, List.getElem?_cons_zero, sb1, sb2, sb3, sb4, sliceU_i, sliceU_s, sliceU_p, sliceU_l, evalV, hh, t4, t10, t11, t12, t0, tl, t5, t6, f1, f2, f3, l2, l3, l4, b_shr _ _ _ _ _ _ _ _ (show (0 : Int) ≤ 6 by decide), fdiv64, b_gtr, b_lss, a1, a2, a3, a4]
          exact ⟨_, rfl, ⟨⟨by simp only [List.getElem?_set, List.length_set, Nat.reduceLT, Nat.reduceEqDiff, ↓reduceIte, reduceCtorEq, *], by simp only [List.getElem?_set, List.length_set, Nat.reduceLT, Nat.reduceEqDiff, ↓reduceIte, reduceCtorEq, *], by simp only [List.getElem?_set, List.length_set, Nat.reduceLT, Nat.reduceEqDiff, ↓reduceIte, reduceCtorEq, *], by simp only [List.getElem?_set, List.length_set, Nat.reduceLT, Nat.reduceEqDiff, ↓reduceIte, reduceCtorEq, *], by simp only [List.getElem?_set, List.length_set, Nat.reduceLT, Nat.reduceEqDiff, ↓reduceIte, reduceCtorEq, *], by simp only [List.getElem?_set, List.length_set, Nat.reduceLT, Nat.reduceEqDiff, ↓reduceIte, reduceCtorEq, *]⟩, by simp only [List.getElem?_set, List.length_set, Nat.reduceLT, Nat.reduceEqDiff, ↓reduceIte, reduceCtorEq, *], by simp only [List.getElem?_set, List.length_set, Nat.reduceLT, Nat.reduceEqDiff, ↓reduceIte, reduceCtorEq, *]⟩, by simp only [List.getElem?_set, List.length_set, Nat.reduceLT, Nat.reduceEqDiff, ↓reduceIte, reduceCtorEq, *]⟩
        | false =>
          have hr : decide (63 < nd.sl ∨ 63 < nd.so ∨ nd.kd < 0 ∨ 6 < nd.kd) = false := by
            rw [decide_eq_false_iff_not] at a1 a2 a3 a4 ⊢
            omega
          rw [hr]
          simp only [ckR11, ckBody, ckIn, ckIn2, AVal.undef, sbn, sbn', code, Try.f37, Option.getD_some, Code.fst, Code.snd, Code.inn, Code.yes, Code.no, aexec, aops, aop, Region.wanted, ayielded, aexecOp, aeval, aput, aseq, ablock, ahint, absOf, flat, nilCheckA, ANext.ofP, evals, evalPs, evalO, aresults, aresults1, aresult, aend, List.getElem?_set, List.length_set, Option.map_some, Option.bind_some, if_true, if_false, ↓reduceIte, Nat.reduceLT, Nat.reduceEqDiff, reduceCtorEq, Bool.false_eq_true, false_and, and_false, and_true, true_and, Nat.reduceAdd, Nat.reduceLeDiff, callA, List.getElem?_toArray, List.getElem?_cons_succ, List.getElem?_cons_zero, sb1, sb2, sb3, sb4, sliceU_i, sliceU_s, sliceU_p, sliceU_l, evalV, hh, t4, t10, t11, t12, t0, tl, t5, t6, f1, f2, f3, l2, l3, l4, b_shr _ _ _ _ _ _ _ _ (show (0 : Int) ≤ 6 by decide), fdiv64, b_gtr, b_lss, a1, a2, a3, a4]
          exact ⟨_, rfl, ⟨⟨by simp only [List.getElem?_set, List.length_set, Nat.reduceLT, Nat.reduceEqDiff, ↓reduceIte, reduceCtorEq, *], by simp only [List.getElem?_set, List.length_set, Nat.reduceLT, Nat.reduceEqDiff, ↓reduceIte, reduceCtorEq, *], by simp only [List.getElem?_set, List.length_set, Nat.reduceLT, Nat.reduceEqDiff, ↓reduceIte, reduceCtorEq, *], by simp only [List.getElem?_set, List.length_set, Nat.reduceLT, Nat.reduceEqDiff, ↓reduceIte, reduceCtorEq, *], by simp only [List.getElem?_set, List.length_set, Nat.reduceLT, Nat.reduceEqDiff, ↓reduceIte, reduceCtorEq, *], by simp only [List.getElem?_set, List.length_set, Nat.reduceLT, Nat.reduceEqDiff, ↓reduceIte, reduceCtorEq, *]⟩, by simp only [List.getElem?_set, List.length_set, Nat.reduceLT, Nat.reduceEqDiff, ↓reduceIte, reduceCtorEq, *], by simp only [List.getElem?_set, List.length_set, Nat.reduceLT, Nat.reduceEqDiff, ↓reduceIte, reduceCtorEq, *]⟩, by simp only [List.getElem?_set, List.length_set, Nat.reduceLT, Nat.reduceEqDiff, ↓reduceIte, reduceCtorEq, *]⟩

theorem ck13 (call : ACall) (dr : Array Oper → Bool) (n : Nat) {v : AVal} {len i s : Nat} {left : Int} {ts : List AVal} {st : ASt} {nd : Nd} (hn : st.heap s = some (.cells nd.cs)) (h : CkN v len i left s ts) (hk : 0 ≤ nd.kd ∧ nd.kd ≤ 6) (hl : 0 ≤ left ∧ left ≤ 1000000) :
    ∃ ts', aexec E 37 call dr n ckR13 ts st = some (.normal, ts', st) ∧ CkN v len i (left + (nd.kd - 1)) s ts' := by
  obtain ⟨⟨t4, t10, t11, t12, t0, tl⟩, t5, t6⟩ := h
  have hh : ∀ t, E.hint 37 t = false := fun _ => rfl
  obtain ⟨f0, f1, f2, f3⟩ := fldN1 s
  obtain ⟨l0, l1, l2, l3, l4⟩ := ldN1 hn
  have q1 : IntKind.i64.wrap (nd.kd - 1) = nd.kd - 1 := by
    simp [IntKind.wrap, IntKind.bits, IntKind.signed]; omega
  have q2 : IntKind.i64.wrap (left + (nd.kd - 1)) = left + (nd.kd - 1) := by
    simp [IntKind.wrap, IntKind.bits, IntKind.signed]; omega
  simp only [ckR13, ckBody, ckIn, ckIn2, AVal.undef, sbn, sbn', code, Try.f37, Option.getD_some, Code.fst, Code.snd, Code.inn, Code.yes, Code.no, aexec, aops, aop, Region.wanted, ayielded, aexecOp, aeval, aput, aseq, ablock, ahint, absOf, flat, nilCheckA, ANext.ofP, evals, evalPs, evalO, aresults, aresults1, aresult, aend, List.getElem?_set, List.length_set, Option.map_some, Option.bind_some, if_true, if_false, ↓reduceIte, Nat.reduceLT, Nat.reduceEqDiff, reduceCtorEq, Bool.false_eq_true, false_and, and_false, and_true, true_and, Nat.reduceAdd, Nat.reduceLeDiff, callA, List.getElem?_toArray, List.getElem?_cons_succ, List.getElem?_cons_zero, sb1, sb2, sb3, sb4, sliceU_i, sliceU_s, sliceU_p, sliceU_l, evalV, hh, t4, t10, t11, t12, t0, tl, t5, t6, f3, l4, b_sub, q1, b_add, q2]
  exact ⟨_, rfl, ⟨⟨by simp only [List.getElem?_set, List.length_set, Nat.reduceLT, Nat.reduceEqDiff, ↓reduceIte, reduceCtorEq, *], by simp only [List.getElem?_set, List.length_set, Nat.reduceLT, Nat.reduceEqDiff, ↓reduceIte, reduceCtorEq, *], by simp only [List.getElem?_set, List.length_set, Nat.reduceLT, Nat.reduceEqDiff, ↓reduceIte, reduceCtorEq, *], by simp only [List.getElem?_set, List.length_set, Nat.reduceLT, Nat.reduceEqDiff, ↓reduceIte, reduceCtorEq, *], by simp only [List.getElem?_set, List.length_set, Nat.reduceLT, Nat.reduceEqDiff, ↓reduceIte, reduceCtorEq, *], by simp only [List.getElem?_set, List.length_set, Nat.reduceLT, Nat.reduceEqDiff, ↓reduceIte, reduceCtorEq, *]⟩, by simp only [List.getElem?_set, List.length_set, Nat.reduceLT, Nat.reduceEqDiff, ↓reduceIte, reduceCtorEq, *], by simp only [List.getElem?_set, List.length_set, Nat.reduceLT, Nat.reduceEqDiff, ↓reduceIte, reduceCtorEq, *]⟩⟩

theorem ck14 (call : ACall) (dr : Array Oper → Bool) (n : Nat) {v : AVal} {len i s : Nat} {left : Int} {ts : List AVal} {st : ASt} (h : CkN v len i left s ts) (hi : i ≤ 1000000) :
    ∃ ts', aexec E 37 call dr n ckR14 ts st = some (.normal, ts', st) ∧ CkS v len (i + 1) left ts' := by
  obtain ⟨⟨t4, t10, t11, t12, t0, tl⟩, t5, t6⟩ := h
  have hh : ∀ t, E.hint 37 t = false := fun _ => rfl
  have q1 : IntKind.i64.wrap ((i : Int) + 1) = ((i + 1 : Nat) : Int) := by
    simp [IntKind.wrap, IntKind.bits, IntKind.signed]; omega
  simp only [ckR14, ckBody, ckIn, ckIn2, AVal.undef, sbn, sbn', code, Try.f37, Option.getD_some, Code.fst, Code.snd, Code.inn, Code.yes, Code.no, aexec, aops, aop, Region.wanted, ayielded, aexecOp, aeval, aput, aseq, ablock, ahint, absOf, flat, nilCheckA, ANext.ofP, evals, evalPs, evalO, aresults, aresults1, aresult, aend, List.getElem?_set, List.length_set, Option.map_some, Option.bind_some, if_true, if_false, ↓reduceIte, Nat.reduceLT, Nat.reduceEqDiff, reduceCtorEq, Bool.false_eq_true, false_and, and_false, and_true, true_and, Nat.reduceAdd, Nat.reduceLeDiff, callA, List.getElem?_toArray, List.getElem?_cons_succ, List.getElem?_cons_zero, sb1, sb2, sb3, sb4, sliceU_i, sliceU_s, sliceU_p, sliceU_l, evalV, hh, t4, t10, t11, t12, t0, tl, t5, t6, b_add, q1]
  exact ⟨_, rfl, ⟨by simp only [List.getElem?_set, List.length_set, Nat.reduceLT, Nat.reduceEqDiff, ↓reduceIte, reduceCtorEq, *], by simp only [List.getElem?_set, List.length_set, Nat.reduceLT, Nat.reduceEqDiff, ↓reduceIte, reduceCtorEq, *], by simp only [List.getElem?_set, List.length_set, Nat.reduceLT, Nat.reduceEqDiff, ↓reduceIte, reduceCtorEq, *], by simp only [List.getElem?_set, List.length_set, Nat.reduceLT, Nat.reduceEqDiff, ↓reduceIte, reduceCtorEq, *], by simp only [List.getElem?_set, List.length_set, Nat.reduceLT, Nat.reduceEqDiff, ↓reduceIte, reduceCtorEq, *], by simp only [List.getElem?_set, List.length_set, Nat.reduceLT, Nat.reduceEqDiff, ↓reduceIte, reduceCtorEq, *]⟩⟩

/-- a round -/
theorem ck_round (call : ACall) (dr : Array Oper → Bool) (n : Nat) {v : AVal} {l : List Nd} {i : Nat} {left : Int} {ts : List AVal} {st : ASt} (hp : PS st v l) (hll : l.length ≤ 1000) (h : CkS v l.length i left ts) (hle : i ≤ l.length) (hl : 0 ≤ left ∧ left ≤ 1 + 6 * (i : Int)) :
    (i = l.length → ∃ ts', aexec E 37 call dr n ckBody ts st = some (.exit 0, ts', st) ∧ CkS v l.length i left ts') ∧
    (∀ hi : i < l.length, ((left = 0 ∨ badN l[i] i) → ∃ ts' st', aexec E 37 call dr n ckBody ts st = some (.ret, ts', st') ∧ Gr st st' ∧ ts'[2]? = some (.lit (.int .i64 (ck (l.drop i) i left).1)) ∧ ts'[3]? = some (.lit (.int .i64 (ck (l.drop i) i left).2))) ∧
      (left ≠ 0 → ¬ badN l[i] i → ∃ ts' st', aexec E 37 call dr n ckBody ts st = some (.normal, ts', st') ∧ Gr st st' ∧ CkS v l.length (i + 1) (left + (l[i].kd - 1)) ts')) := by
  obtain ⟨ts1, e1, h1, d1⟩ := ck5 call dr n (st := st) h
  refine ⟨fun hi => ⟨ts1, ?_, h1⟩, fun hi => ?_⟩
  · have hd : decide (i < l.length) = false := by rw [decide_eq_false_iff_not]; omega
    rw [hd] at d1
    simp only [ck_body, aexec_seq, aexec_block, aexec_cond, aexec_exit, aexec_skip, e1, aseq, aeval, d1]
  · have hd : decide (i < l.length) = true := by rw [decide_eq_true_eq]; omega
    rw [hd] at d1
    obtain ⟨ts2, e2, h2⟩ := ck6 call dr n hp hi h1
    obtain ⟨ts3, e3, h3, d3⟩ := ck7 call dr n (st := laidN st l[i]) h2
    have hat := laidN_at st l[i]
    have hgr := laidN_gr st l[i]
    have hdrop : l.drop i = l[i] :: l.drop (i + 1) := List.drop_eq_getElem_cons hi
    obtain ⟨ts4, e4, h4, d4⟩ := ck9 call dr n hat h3
    obtain ⟨ts5, e5, h5, d5⟩ := ck11 call dr n hat h4
    refine ⟨fun hb => ?_, fun h0 hb => ?_⟩
    · by_cases h0 : left = 0
      · obtain ⟨ts6, e6, a2, a3⟩ := ck8 call dr n (st := laidN st l[i]) h3
        rw [decide_eq_true h0] at d3
        refine ⟨ts6, _, ?_, hgr, ?_, ?_⟩
        · simp only [ck_body, aexec_seq, aexec_block, aexec_cond, aexec_ret, aexec_skip, e1, e2, e3, e6, aseq, ablock, aeval, d1, d3]
        · rw [hdrop, ck, if_pos h0]; exact a2
        · rw [hdrop, ck, if_pos h0]; exact a3
      · have hbad : badN l[i] i := hb.resolve_left h0
        rw [decide_eq_false h0] at d3
        by_cases hc : l[i].th < 0 ∨ 6 ≤ l[i].th ∨ (i = 0 ∧ l[i].th ≠ 0)
        · obtain ⟨ts6, e6, a2, a3⟩ := ck10 call dr n (st := laidN st l[i]) h4
          rw [decide_eq_true hc] at d4
          refine ⟨ts6, _, ?_, hgr, ?_, ?_⟩
          · simp only [ck_body, aexec_seq, aexec_block, aexec_cond, aexec_ret, aexec_skip, e1, e2, e3, e4, e6, aseq, ablock, aeval, d1, d3, d4]
          · rw [hdrop, ck, if_neg h0, if_pos hbad]; exact a2
          · rw [hdrop, ck, if_neg h0, if_pos hbad]; exact a3
        · have hc2 : 63 < l[i].sl ∨ 63 < l[i].so ∨ l[i].kd < 0 ∨ 6 < l[i].kd := by
            unfold badN at hbad; omega
          obtain ⟨ts6, e6, a2, a3⟩ := ck12 call dr n (st := laidN st l[i]) h5
          rw [decide_eq_false hc] at d4
          rw [decide_eq_true hc2] at d5
          refine ⟨ts6, _, ?_, hgr, ?_, ?_⟩
          · simp only [ck_body, aexec_seq, aexec_block, aexec_cond, aexec_ret, aexec_skip, e1, e2, e3, e4, e5, e6, aseq, ablock, aeval, d1, d3, d4, d5]
          · rw [hdrop, ck, if_neg h0, if_pos hbad]; exact a2
          · rw [hdrop, ck, if_neg h0, if_pos hbad]; exact a3
    · have hc : ¬ (l[i].th < 0 ∨ 6 ≤ l[i].th ∨ (i = 0 ∧ l[i].th ≠ 0)) := by unfold badN at hb; omega
      have hc2 : ¬ (63 < l[i].sl ∨ 63 < l[i].so ∨ l[i].kd < 0 ∨ 6 < l[i].kd) := by unfold badN at hb; omega
      rw [decide_eq_false h0] at d3
      rw [decide_eq_false hc] at d4
      rw [decide_eq_false hc2] at d5
      obtain ⟨ts6, e6, h6⟩ := ck13 call dr n hat h5 ⟨by omega, by omega⟩ ⟨hl.1, by omega⟩
      obtain ⟨ts7, e7, h7⟩ := ck14 call dr n (st := laidN st l[i]) h6 (by omega)
      refine ⟨ts7, _, ?_, hgr, h7⟩
      simp only [ck_body, aexec_seq, aexec_block, aexec_cond, aexec_ret, aexec_skip, e1, e2, e3, e4, e5, e6, e7, aseq, ablock, aeval, d1, d3, d4, d5]

noncomputable def ckPre : Code := .seq (code Try.f37).fst (.seq (code Try.f37).snd.fst (.seq (code Try.f37).snd.snd.fst (code Try.f37).snd.snd.snd.fst.fst))
noncomputable def ckEnd : Code := (code Try.f37).snd.snd.snd.snd
theorem ck_parts (call : ACall) (dr : Array Oper → Bool) (n : Nat) (ts : List AVal) (st : ASt) : aexec E 37 call dr n (code Try.f37) ts st =
    aseq (aexec E 37 call dr n ckPre ts st) fun ts st => aseq (ablock 0 (aloop (aexec E 37 call dr n ckBody) n ts st)) (aexec E 37 call dr n ckEnd) := by
  have e : code Try.f37 = .seq (code Try.f37).fst (.seq (code Try.f37).snd.fst (.seq (code Try.f37).snd.snd.fst (.seq (.seq (code Try.f37).snd.snd.snd.fst.fst (.block 0 (.loop ckBody))) ckEnd))) := rfl
  rw [e, ckPre]
  simp only [aexec_seq, aexec_block, aexec_loop, aseq_assoc]

theorem ck_run {v : AVal} {l : List Nd} {st : ASt} (hp : PS st v l) (hll : l.length ≤ 1000) :
    ∃ st', RetN E (l.length + 2) 37 [v] st (.tuple [.lit (.int .i64 (ck l 0 1).1), .lit (.int .i64 (ck l 0 1).2)]) st' ∧ Gr st st' := by
  obtain ⟨ts, et, t0, tl⟩ : ∃ ts : List AVal, ([v] ++ List.replicate (Try.f37.ntmps - [v].length) .undef) = ts ∧ ts[0]? = some v ∧ ts.length = 72 := ⟨_, rfl, rfl, rfl⟩
  have hres : ∀ ts st a b, ts[2]? = some a → ts[3]? = some b → aresults E Try.f37 ts st = some (.tuple [a, b]) := by
    intro ts st a b h1 h2
    unfold aresults
    simp only [Try.f37, aresults1, aresult, h1, h2]
  have hh : ∀ t, E.hint 37 t = false := fun _ => rfl
  generalize hN : l.length + 1 = N
  have hbig : decide (((l.length : Nat) : Int) > 20000) = false := by rw [decide_eq_false_iff_not]; omega
  obtain ⟨ts1, e1, h1⟩ : ∃ ts', aexec E 37 (run E N) (drawB E 37) N ckPre ts st = some (.normal, ts', st) ∧ CkS v l.length 0 1 ts' := by
    simp only [ckPre, AVal.undef, sbn, sbn', code, Try.f37, Option.getD_some, Code.fst, Code.snd, Code.inn, Code.yes, Code.no, aexec, aops, aop, Region.wanted, ayielded, aexecOp, aeval, aput, aseq, ablock, ahint, absOf, flat, nilCheckA, ANext.ofP, evals, evalPs, evalO, aresults, aresults1, aresult, aend, List.getElem?_set, List.length_set, Option.map_some, Option.bind_some, if_true, if_false, ↓reduceIte, Nat.reduceLT, Nat.reduceEqDiff, reduceCtorEq, Bool.false_eq_true, false_and, and_false, and_true, true_and, Nat.reduceAdd, Nat.reduceLeDiff, callA, List.getElem?_toArray, List.getElem?_cons_succ, List.getElem?_cons_zero, sb1, sb2, sb3, sb4, sliceU_i, sliceU_s, sliceU_p, sliceU_l, evalV, hh, t0, tl, ps_len hp, b_gtr, hbig]
    exact ⟨_, rfl, ⟨by simp only [List.getElem?_set, List.length_set, Nat.reduceLT, Nat.reduceEqDiff, ↓reduceIte, reduceCtorEq, *], by simp only [List.getElem?_set, List.length_set, Nat.reduceLT, Nat.reduceEqDiff, ↓reduceIte, reduceCtorEq, *], by simp only [List.getElem?_set, List.length_set, Nat.reduceLT, Nat.reduceEqDiff, ↓reduceIte, reduceCtorEq, *], by simp only [List.getElem?_set, List.length_set, Nat.reduceLT, Nat.reduceEqDiff, ↓reduceIte, reduceCtorEq, *]; rfl, by simp only [List.getElem?_set, List.length_set, Nat.reduceLT, Nat.reduceEqDiff, ↓reduceIte, reduceCtorEq, *], by simp only [List.getElem?_set, List.length_set, Nat.reduceLT, Nat.reduceEqDiff, ↓reduceIte, reduceCtorEq, *]⟩⟩
  have key := aloop_rule (b := aexec E 37 (run E N) (drawB E 37) N ckBody)
    (I := fun k ts s => Gr st s ∧ ∃ i left, k + i = l.length ∧ CkS v l.length i left ts ∧ 0 ≤ left ∧ left ≤ 1 + 6 * (i : Int) ∧ ck (l.drop i) i left = ck l 0 1)
    (Q := fun e ts' s => Gr st s ∧ ((e = .exit 0 ∧ ∃ left, CkS v l.length l.length left ts' ∧ ck [] l.length left = ck l 0 1) ∨ (e = .ret ∧ ts'[2]? = some (.lit (.int .i64 (ck l 0 1).1)) ∧ ts'[3]? = some (.lit (.int .i64 (ck l 0 1).2)))))
    (step := by
      rintro k ts2 s ⟨hg, i, left, hi, hI, hl0, hl1, hck⟩
      have hr := ck_round (run E N) (drawB E 37) N (hp.gr hg) hll hI (by omega) ⟨hl0, hl1⟩
      by_cases he : i = l.length
      · obtain ⟨ts', e, h'⟩ := hr.1 he
        rw [List.drop_of_length_le (by omega), he] at hck
        rw [he] at h'
        exact .inr ⟨_, ts', _, e, by simp, hg, .inl ⟨rfl, left, h', hck⟩⟩
      · have hlt : i < l.length := by omega
        by_cases hb : left = 0 ∨ badN l[i] i
        · obtain ⟨ts', st', e, hg', a2, a3⟩ := (hr.2 hlt).1 hb
          rw [hck] at a2 a3
          exact .inr ⟨_, ts', _, e, by simp, hg.trans hg', .inr ⟨rfl, a2, a3⟩⟩
        · have h0 : left ≠ 0 := fun e => hb (.inl e)
          have hb2 : ¬ badN l[i] i := fun e => hb (.inr e)
          obtain ⟨ts', st', e, hg', h'⟩ := (hr.2 hlt).2 h0 hb2
          rw [List.drop_eq_getElem_cons hlt, ck, if_neg h0, if_neg hb2] at hck
          unfold badN at hb2
          exact .inl ⟨ts', st', e, k - 1, by omega, hg.trans hg', i + 1, _, by omega, h', by omega, by omega, hck⟩)
    N l.length ts1 st ⟨Gr.refl st, 0, 1, by omega, h1, by decide, by omega, rfl⟩ (by omega)
  obtain ⟨e, ts2, st2, e2, hg, hq⟩ := key
  refine ⟨st2, ?_, hg⟩
  rw [show l.length + 2 = N + 1 by omega]
  refine RetN.of (n := N + 1) ?_
  rw [run_code (fn := Try.f37) rfl rfl, et, ck_parts]
  rcases hq with ⟨rfl, left, h2, hck⟩ | ⟨rfl, a2, a3⟩
  · obtain ⟨ts3, e3, a2, a3⟩ : ∃ ts', aexec E 37 (run E N) (drawB E 37) N ckEnd ts2 st2 = some (.ret, ts', st2) ∧ ts'[2]? = some (.lit (.int .i64 (ck l 0 1).1)) ∧ ts'[3]? = some (.lit (.int .i64 (ck l 0 1).2)) := by
      obtain ⟨t4, t10, t11, t12, u0, ul⟩ := h2
      rw [← hck]
      cases hd : decide (left > 0) with
      | true =>
        have hc : ck [] l.length left = (l.length, 3) := by rw [ck, if_pos (of_decide_eq_true hd)]
        rw [hc]
        simp only [ckEnd, AVal.undef, sbn, sbn', code, Try.f37, Option.getD_some, Code.fst, Code.snd, Code.inn, Code.yes, Code.no, aexec, aops, aop, Region.wanted, ayielded, aexecOp, aeval, aput, aseq, ablock, ahint, absOf, flat, nilCheckA, ANext.ofP, evals, evalPs, evalO, aresults, aresults1, aresult, aend, List.getElem?_set, List.length_set, Option.map_some, Option.bind_some, if_true, if_false, ↓reduceIte, Nat.reduceLT, Nat.reduceEqDiff, reduceCtorEq, Bool.false_eq_true, false_and, and_false, and_true, true_and, Nat.reduceAdd, Nat.reduceLeDiff, callA, List.getElem?_toArray, List.getElem?_cons_succ, List.getElem?_cons_zero, sb1, sb2, sb3, sb4, sliceU_i, sliceU_s, sliceU_p, sliceU_l, evalV, hh, t4, u0, ul, ps_len hp, b_gtr, hd]
        exact ⟨_, rfl, by simp only [List.getElem?_set, List.length_set, Nat.reduceLT, Nat.reduceEqDiff, ↓reduceIte, reduceCtorEq, *], by simp only [List.getElem?_set, List.length_set, Nat.reduceLT, Nat.reduceEqDiff, ↓reduceIte, reduceCtorEq, *]; rfl⟩
      | false =>
        have hc : ck [] l.length left = (0, 0) := by rw [ck, if_neg (of_decide_eq_false hd)]
        rw [hc]
        simp only [ckEnd, AVal.undef, sbn, sbn', code, Try.f37, Option.getD_some, Code.fst, Code.snd, Code.inn, Code.yes, Code.no, aexec, aops, aop, Region.wanted, ayielded, aexecOp, aeval, aput, aseq, ablock, ahint, absOf, flat, nilCheckA, ANext.ofP, evals, evalPs, evalO, aresults, aresults1, aresult, aend, List.getElem?_set, List.length_set, Option.map_some, Option.bind_some, if_true, if_false, ↓reduceIte, Nat.reduceLT, Nat.reduceEqDiff, reduceCtorEq, Bool.false_eq_true, false_and, and_false, and_true, true_and, Nat.reduceAdd, Nat.reduceLeDiff, callA, List.getElem?_toArray, List.getElem?_cons_succ, List.getElem?_cons_zero, sb1, sb2, sb3, sb4, sliceU_i, sliceU_s, sliceU_p, sliceU_l, evalV, hh, t4, u0, ul, ps_len hp, b_gtr, hd]
        exact ⟨_, rfl, by simp only [List.getElem?_set, List.length_set, Nat.reduceLT, Nat.reduceEqDiff, ↓reduceIte, reduceCtorEq, *]; rfl, by simp only [List.getElem?_set, List.length_set, Nat.reduceLT, Nat.reduceEqDiff, ↓reduceIte, reduceCtorEq, *]; rfl⟩
    simp only [e1, aseq, e2, ablock, if_true, e3, aend, hres _ _ _ _ a2 a3, Option.map_some]
  · simp only [e1, aseq, e2, ablock, aend, hres _ _ _ _ a2 a3, Option.map_some]

end Go.Proofs.YtnndngoanknemaaV
