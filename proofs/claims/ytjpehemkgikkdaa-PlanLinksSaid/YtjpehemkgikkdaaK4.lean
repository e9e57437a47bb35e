/- PlanLinks, walked in the second reading: the inner rounds. No condition. -/
import Derived.Test.YtjpehemkgikkdaaK3
namespace Go.Proofs.YtjpehemkgikkdaaV
open Go Go.RowKit Go.Proofs.YtjpehemkgikkdaaA
set_option linter.unusedVariables false
set_option linter.unusedSimpArgs false
set_option maxRecDepth 100000

theorem irow_src {st : ASt} {v : AVal} {l : List Int} {s : Option Nat} (h : IRow st v l s) : srcA E.P 3 59 false 1 st v = some (l.map intN) := by
  cases s with
  | none => obtain ⟨rfl, rfl⟩ := h; rfl
  | some s =>
    obtain ⟨rfl, h2, cs, h3⟩ := h
    have e : srcA E.P 3 59 false 1 st (.slice s 0 l.length 1 none) = (match st.heap s with
        | some (.cells cs) => match chunkA E.P 3 1 cs 0 l.length with
          | some es => if es.all (elemOk false 1) = true then some es else none
          | none => none
        | _ => none) := rfl
    have hc := chunk_ints (l.map intN ++ cs) l.length 0 (by simp)
    rw [List.drop_zero, List.take_left' (by simp)] at hc
    rw [e, h3]
    simp only [hc, ints_ok, if_true]

/-- a path so far: a row, or one number -/
def PV (st : ASt) (v : AVal) (l : List Int) : Prop := (∃ c, v = .islice 1 (l.map intN) c) ∨ ∃ s, IRow st v l s
theorem PV.ri {st : ASt} {v : AVal} {l : List Int} (h : PV st v l) : RI st v l := by
  rcases h with h | h
  · exact .inl h
  · exact .inr (.inl h)
theorem PV.gr {st st' : ASt} {v : AVal} {l : List Int} (h : PV st v l) (hg : Gr st st') : PV st' v l := by
  rcases h with h | ⟨s, h⟩
  · exact .inl h
  · exact .inr ⟨s, h.gr hg.1 (fun k e => hg.2 k (irow_lt h k e))⟩
theorem pv_front {st : ASt} {v : AVal} {l : List Int} (h : PV st v l) (hl : l.length ≤ 100000) (x : Int) :
    ∃ v' st', appendA E.P true 59 59 (.islice 1 [.lit (.int .i64 x)] .exact) v st = some (v', st') ∧ PV st' v' (x :: l) ∧ Gr st st' := by
  have hx : srcA E.P 3 59 false 1 st v = some (l.map intN) := by
    rcases h with ⟨c, rfl⟩ | ⟨s, h⟩
    · exact src_islice intT (ints_ok l)
    · exact irow_src h
  by_cases he : l = []
  · subst he
    exact ⟨_, _, app_none intT hx (.inr ⟨_, _, rfl⟩), .inl ⟨.exact, rfl⟩, Gr.refl _⟩
  · have h1 := app_mut (st := st) (es := [x].map intN) intT (ints_ok [x]) hx (by simpa using he) (by simp; omega)
    rw [← List.map_append, flatE_ints, List.length_map] at h1
    exact ⟨_, _, h1, .inr ⟨some st.ctr, rfl, by simp [ASt.new], [], by simp [ASt.new]⟩, Gr.new _ _⟩

noncomputable def lkA : Code := .seq (code Try.f12).fst (.seq (code Try.f12).snd.fst (.seq (code Try.f12).snd.snd.fst (.seq (code Try.f12).snd.snd.snd.fst (.seq (code Try.f12).snd.snd.snd.snd.fst (.seq (code Try.f12).snd.snd.snd.snd.snd.fst (code Try.f12).snd.snd.snd.snd.snd.snd.fst.fst)))))
noncomputable def lkB : Code := (code Try.f12).snd.snd.snd.snd.snd.snd.fst.snd.inn
noncomputable def lkE : Code := (code Try.f12).snd.snd.snd.snd.snd.snd.snd
noncomputable def lkIn' : Code := lkB.snd.snd.fst.inn
noncomputable def lkP1 : Code := .seq lkIn'.fst (.seq lkIn'.snd.fst lkIn'.snd.snd.fst.fst)
noncomputable def lkK : Code := lkIn'.snd.snd.fst.snd.inn
noncomputable def lkP2 : Code := lkIn'.snd.snd.snd.fst.fst
noncomputable def lkP : Code := lkIn'.snd.snd.snd.fst.snd.inn
noncomputable def lkP3 : Code := lkIn'.snd.snd.snd.snd
noncomputable def lkR10' : Code := lkB.fst
noncomputable def lkR25 : Code := lkB.snd.snd.snd
theorem lnk_parts (call : ACall) (dr : Array Oper → Bool) (n : Nat) (ts : List AVal) (st : ASt) : aexec E 12 call dr n (code Try.f12) ts st =
    aseq (aexec E 12 call dr n lkA ts st) fun ts st => aseq (ablock 0 (aloop (aexec E 12 call dr n lkB) n ts st)) (aexec E 12 call dr n lkE) := by
  have e : code Try.f12 = .seq (code Try.f12).fst (.seq (code Try.f12).snd.fst (.seq (code Try.f12).snd.snd.fst (.seq (code Try.f12).snd.snd.snd.fst (.seq (code Try.f12).snd.snd.snd.snd.fst (.seq (code Try.f12).snd.snd.snd.snd.snd.fst (.seq (.seq (code Try.f12).snd.snd.snd.snd.snd.snd.fst.fst (.block 0 (.loop lkB))) lkE)))))) := rfl
  rw [e, lkA]
  simp only [aexec_seq, aexec_block, aexec_loop, aseq_assoc]
theorem lnk_body (call : ACall) (dr : Array Oper → Bool) (n : Nat) (ts : List AVal) (st : ASt) : aexec E 12 call dr n lkB ts st =
    aseq (aexec E 12 call dr n lkR10' ts st) fun ts st => aseq (aexec E 12 call dr n (.cond (.tmp 30) .skip (.exit 0)) ts st) fun ts st => aseq (ablock 1 (aseq (aexec E 12 call dr n lkP1 ts st) fun ts st => aseq (ablock 2 (aloop (aexec E 12 call dr n lkK) n ts st)) fun ts st =>
      aseq (aexec E 12 call dr n lkP2 ts st) fun ts st => aseq (ablock 4 (aloop (aexec E 12 call dr n lkP) n ts st)) (aexec E 12 call dr n lkP3))) (aexec E 12 call dr n lkR25) := by
  have e : lkB = .seq lkR10' (.seq (.cond (.tmp 30) .skip (.exit 0)) (.seq (.block 1 (.seq lkIn'.fst (.seq lkIn'.snd.fst (.seq (.seq lkIn'.snd.snd.fst.fst (.block 2 (.loop lkK))) (.seq (.seq lkP2 (.block 4 (.loop lkP))) lkP3))))) lkR25)) := rfl
  rw [e, lkP1]
  simp only [aexec_seq, aexec_block, aexec_loop, aseq_assoc]

structure LnS (ow pv uv : AVal) (n i : Nat) (ts : List AVal) : Prop where
  t1 : ts[1]? = some ow
  t5 : ts[5]? = some pv
  t6 : ts[6]? = some uv
  t28 : ts[28]? = some (.lit (.int .i64 n))
  t29 : ts[29]? = some (.lit (.int .i64 i))
  tl : ts.length = 102

theorem ln_10 (call : ACall) (dr : Array Oper → Bool) (m : Nat) {ow pv uv : AVal} {n i : Nat} {ts : List AVal} {st : ASt} (h : LnS ow pv uv n i ts) :
    ∃ ts', aexec E 12 call dr m lkR10' ts st = some (.normal, ts', st) ∧ LnS ow pv uv n i ts' ∧ ts'[30]? = some (.lit (.bool (decide (i < n)))) := by
  obtain ⟨t1, t5, t6, t28, t29, tl⟩ := h
  have hd : decide ((i : Int) < (n : Int)) = decide (i < n) := by rw [decide_eq_decide]; omega
  simp only [lkR10', lkB, lkIn', code, Try.f12, Option.getD_some, Code.fst, Code.snd, Code.inn, aexec, aops, aop, Region.wanted, ayielded, aexecOp, aeval, aput, aseq, ablock, ahint, absOf, flat, nilCheckA, ANext.ofP, evals, evalPs, evalO, aresults, aresults1, aresult, aend, List.getElem?_set, List.length_set, Option.map_some, Option.bind_some, if_true, if_false, ↓reduceIte, Nat.reduceLT, Nat.reduceEqDiff, reduceCtorEq, Bool.false_eq_true, false_and, and_false, and_true, true_and, Nat.reduceAdd, Nat.reduceLeDiff, callA, List.getElem?_toArray, List.getElem?_cons_succ, List.getElem?_cons_zero, sb1, sb2, sb3, sb4, t1, t5, t6, t28, t29, tl, b_lss, hd]
  exact ⟨_, rfl, ⟨by simp only [List.getElem?_set, List.length_set, Nat.reduceLT, Nat.reduceEqDiff, ↓reduceIte, reduceCtorEq, *], by simp only [List.getElem?_set, List.length_set, Nat.reduceLT, Nat.reduceEqDiff, ↓reduceIte, reduceCtorEq, *], by simp only [List.getElem?_set, List.length_set, Nat.reduceLT, Nat.reduceEqDiff, ↓reduceIte, reduceCtorEq, *], by simp only [List.getElem?_set, List.length_set, Nat.reduceLT, Nat.reduceEqDiff, ↓reduceIte, reduceCtorEq, *], by simp only [List.getElem?_set, List.length_set, Nat.reduceLT, Nat.reduceEqDiff, ↓reduceIte, reduceCtorEq, *], by simp only [List.getElem?_set, List.length_set, Nat.reduceLT, Nat.reduceEqDiff, ↓reduceIte, reduceCtorEq, *]⟩, by simp only [List.getElem?_set, List.length_set, Nat.reduceLT, Nat.reduceEqDiff, ↓reduceIte, reduceCtorEq, *]⟩

theorem ln_p1 (call : ACall) (dr : Array Oper → Bool) (m : Nat) {ow pv uv : AVal} {l : List Nd} {n i s : Nat} {ts : List AVal} {st : ASt} (hu : MRow st uv (par l) s) (h : LnS ow pv uv n i ts) :
    ∃ ts', aexec E 12 call dr m lkP1 ts st = some (.normal, ts', st) ∧ LnS ow pv uv n i ts' ∧ ts'[7]? = some (.lit (.int .i64 i)) ∧ ts'[8]? = some .nilSlice ∧ ts'[9]? = some .nilSlice ∧ ts'[32]? = some uv ∧ ts'[33]? = some (.lit (.int .i64 l.length)) ∧ ts'[34]? = some (.lit (.int .i64 (0 : Nat))) := by
  obtain ⟨t1, t5, t6, t28, t29, tl⟩ := h
  have L := fun mt ty cs s2 => ri_len (.inr (.inr ⟨s, hu⟩)) mt ty cs s2
  rw [par_length] at L
  simp only [lkP1, lkB, lkIn', code, Try.f12, Option.getD_some, Code.fst, Code.snd, Code.inn, aexec, aops, aop, Region.wanted, ayielded, aexecOp, aeval, aput, aseq, ablock, ahint, absOf, flat, nilCheckA, ANext.ofP, evals, evalPs, evalO, aresults, aresults1, aresult, aend, List.getElem?_set, List.length_set, Option.map_some, Option.bind_some, if_true, if_false, ↓reduceIte, Nat.reduceLT, Nat.reduceEqDiff, reduceCtorEq, Bool.false_eq_true, false_and, and_false, and_true, true_and, Nat.reduceAdd, Nat.reduceLeDiff, callA, List.getElem?_toArray, List.getElem?_cons_succ, List.getElem?_cons_zero, sb1, sb2, sb3, sb4, t1, t5, t6, t28, t29, tl, L]
  exact ⟨_, rfl, ⟨by simp only [List.getElem?_set, List.length_set, Nat.reduceLT, Nat.reduceEqDiff, ↓reduceIte, reduceCtorEq, *], by simp only [List.getElem?_set, List.length_set, Nat.reduceLT, Nat.reduceEqDiff, ↓reduceIte, reduceCtorEq, *], by simp only [List.getElem?_set, List.length_set, Nat.reduceLT, Nat.reduceEqDiff, ↓reduceIte, reduceCtorEq, *], by simp only [List.getElem?_set, List.length_set, Nat.reduceLT, Nat.reduceEqDiff, ↓reduceIte, reduceCtorEq, *], by simp only [List.getElem?_set, List.length_set, Nat.reduceLT, Nat.reduceEqDiff, ↓reduceIte, reduceCtorEq, *], by simp only [List.getElem?_set, List.length_set, Nat.reduceLT, Nat.reduceEqDiff, ↓reduceIte, reduceCtorEq, *]⟩, by simp only [List.getElem?_set, List.length_set, Nat.reduceLT, Nat.reduceEqDiff, ↓reduceIte, reduceCtorEq, *], by simp only [List.getElem?_set, List.length_set, Nat.reduceLT, Nat.reduceEqDiff, ↓reduceIte, reduceCtorEq, *]; rfl, by simp only [List.getElem?_set, List.length_set, Nat.reduceLT, Nat.reduceEqDiff, ↓reduceIte, reduceCtorEq, *]; rfl, by simp only [List.getElem?_set, List.length_set, Nat.reduceLT, Nat.reduceEqDiff, ↓reduceIte, reduceCtorEq, *], by simp only [List.getElem?_set, List.length_set, Nat.reduceLT, Nat.reduceEqDiff, ↓reduceIte, reduceCtorEq, *], by simp only [List.getElem?_set, List.length_set, Nat.reduceLT, Nat.reduceEqDiff, ↓reduceIte, reduceCtorEq, *]; rfl⟩

structure LnK (ow pv uv kv wv : AVal) (n i : Nat) (ts : List AVal) : Prop extends LnS ow pv uv n i ts where
  t7 : ts[7]? = some (.lit (.int .i64 i))
  t8 : ts[8]? = some kv
  t9 : ts[9]? = some wv

theorem ln_k (call : ACall) (dr : Array Oper → Bool) (m : Nat) {ow pv uv kv wv : AVal} {l : List Nd} {n i k s : Nat} {so : Option Nat} {ts : List AVal} {base st : ASt} (hl : l.length ≤ 900) (hu : MRow st uv (par l) s) (hus : s < base.ctr) (ho : IRow st kv (kidsI l i k) so) (hf : ∀ j, so = some j → base.ctr ≤ j) (hg : Gr base st) (h : LnK ow pv uv kv wv n i ts)
    (t32 : ts[32]? = some uv) (t33 : ts[33]? = some (.lit (.int .i64 l.length))) (t34 : ts[34]? = some (.lit (.int .i64 k))) :
    (k = l.length → ∃ ts', aexec E 12 call dr m lkK ts st = some (.exit 2, ts', st) ∧ LnK ow pv uv kv wv n i ts') ∧
    (k < l.length → ∃ ts' st' kv' so', aexec E 12 call dr m lkK ts st = some (.normal, ts', st') ∧ LnK ow pv uv kv' wv n i ts' ∧ IRow st' kv' (kidsI l i (k + 1)) so' ∧ (∀ j, so' = some j → base.ctr ≤ j) ∧ Gr base st' ∧ ts'[32]? = some uv ∧ ts'[33]? = some (.lit (.int .i64 l.length)) ∧ ts'[34]? = some (.lit (.int .i64 (k + 1 : Nat)))) := by
  obtain ⟨⟨t1, t5, t6, t28, t29, tl⟩, t7, t8, t9⟩ := h
  have h44 : E.hint 12 44 = false := rfl
  have h45 : E.hint 12 45 = true := rfl
  refine ⟨fun he => ?_, fun hlt => ?_⟩
  · have hd : decide ((k : Int) < l.length) = false := by rw [decide_eq_false_iff_not]; omega
    simp only [lkK, lkB, lkIn', code, Try.f12, Option.getD_some, Code.fst, Code.snd, Code.inn, aexec, aops, aop, Region.wanted, ayielded, aexecOp, aeval, aput, aseq, ablock, ahint, absOf, flat, nilCheckA, ANext.ofP, evals, evalPs, evalO, aresults, aresults1, aresult, aend, List.getElem?_set, List.length_set, Option.map_some, Option.bind_some, if_true, if_false, ↓reduceIte, Nat.reduceLT, Nat.reduceEqDiff, reduceCtorEq, Bool.false_eq_true, false_and, and_false, and_true, true_and, Nat.reduceAdd, Nat.reduceLeDiff, callA, List.getElem?_toArray, List.getElem?_cons_succ, List.getElem?_cons_zero, sb1, sb2, sb3, sb4, t1, t5, t6, t7, t8, t9, t28, t29, t32, t33, t34, tl, b_lss, hd]
    exact ⟨_, rfl, ⟨⟨by simp only [List.getElem?_set, List.length_set, Nat.reduceLT, Nat.reduceEqDiff, ↓reduceIte, reduceCtorEq, *], by simp only [List.getElem?_set, List.length_set, Nat.reduceLT, Nat.reduceEqDiff, ↓reduceIte, reduceCtorEq, *], by simp only [List.getElem?_set, List.length_set, Nat.reduceLT, Nat.reduceEqDiff, ↓reduceIte, reduceCtorEq, *], by simp only [List.getElem?_set, List.length_set, Nat.reduceLT, Nat.reduceEqDiff, ↓reduceIte, reduceCtorEq, *], by simp only [List.getElem?_set, List.length_set, Nat.reduceLT, Nat.reduceEqDiff, ↓reduceIte, reduceCtorEq, *], by simp only [List.getElem?_set, List.length_set, Nat.reduceLT, Nat.reduceEqDiff, ↓reduceIte, reduceCtorEq, *]⟩, by simp only [List.getElem?_set, List.length_set, Nat.reduceLT, Nat.reduceEqDiff, ↓reduceIte, reduceCtorEq, *], by simp only [List.getElem?_set, List.length_set, Nat.reduceLT, Nat.reduceEqDiff, ↓reduceIte, reduceCtorEq, *], by simp only [List.getElem?_set, List.length_set, Nat.reduceLT, Nat.reduceEqDiff, ↓reduceIte, reduceCtorEq, *]⟩⟩
  · have hd : decide ((k : Int) < l.length) = true := by rw [decide_eq_true_eq]; omega
    obtain ⟨i1, i2⟩ := mrow_idx hu (i := k) (by rw [par_length]; exact hlt)
    have hget : (par l)[k]'(by rw [par_length]; exact hlt) = upAt l k := by
      have := par_get hlt
      rw [List.getElem?_eq_getElem (by rw [par_length]; exact hlt)] at this
      exact Option.some.inj this
    rw [hget] at i2
    have q1 : IntKind.i64.wrap ((k : Int) + 1) = ((k + 1 : Nat) : Int) := by
      simp [IntKind.wrap, IntKind.bits, IntKind.signed]; omega
    have hkl := kidsI_len l i k
    cases a1 : (upAt l k == (i : Int)) with
    | true =>
      have hy : upAt l k = (i : Int) := eq_of_beq a1
      obtain ⟨kv', st', e2, w1, w2, w3⟩ := irow_app ho (by omega) ((k : Nat) : Int) .exact
      simp only [lkK, lkB, lkIn', code, Try.f12, Option.getD_some, Code.fst, Code.snd, Code.inn, aexec, aops, aop, Region.wanted, ayielded, aexecOp, aeval, aput, aseq, ablock, ahint, absOf, flat, nilCheckA, ANext.ofP, evals, evalPs, evalO, aresults, aresults1, aresult, aend, List.getElem?_set, List.length_set, Option.map_some, Option.bind_some, if_true, if_false, ↓reduceIte, Nat.reduceLT, Nat.reduceEqDiff, reduceCtorEq, Bool.false_eq_true, false_and, and_false, and_true, true_and, Nat.reduceAdd, Nat.reduceLeDiff, callA, List.getElem?_toArray, List.getElem?_cons_succ, List.getElem?_cons_zero, sb1, sb2, sb3, sb4, t1, t5, t6, t7, t8, t9, t28, t29, t32, t33, t34, tl, b_lss, hd, i1, i2, b_eql, a1, h44, h45, bs_int, b_app, e2, b_add, q1]
      have hgc := hg.1
      refine ⟨_, st', kv', some st.ctr, rfl, ⟨⟨by simp only [List.getElem?_set, List.length_set, Nat.reduceLT, Nat.reduceEqDiff, ↓reduceIte, reduceCtorEq, *], by simp only [List.getElem?_set, List.length_set, Nat.reduceLT, Nat.reduceEqDiff, ↓reduceIte, reduceCtorEq, *], by simp only [List.getElem?_set, List.length_set, Nat.reduceLT, Nat.reduceEqDiff, ↓reduceIte, reduceCtorEq, *], by simp only [List.getElem?_set, List.length_set, Nat.reduceLT, Nat.reduceEqDiff, ↓reduceIte, reduceCtorEq, *], by simp only [List.getElem?_set, List.length_set, Nat.reduceLT, Nat.reduceEqDiff, ↓reduceIte, reduceCtorEq, *], by simp only [List.getElem?_set, List.length_set, Nat.reduceLT, Nat.reduceEqDiff, ↓reduceIte, reduceCtorEq, *]⟩, by simp only [List.getElem?_set, List.length_set, Nat.reduceLT, Nat.reduceEqDiff, ↓reduceIte, reduceCtorEq, *], by simp only [List.getElem?_set, List.length_set, Nat.reduceLT, Nat.reduceEqDiff, ↓reduceIte, reduceCtorEq, *], by simp only [List.getElem?_set, List.length_set, Nat.reduceLT, Nat.reduceEqDiff, ↓reduceIte, reduceCtorEq, *]⟩, by rw [kidsI_succ, if_pos hy]; exact w1, fun j e => by cases e; omega, ⟨by omega, fun j hj => ?_⟩, by simp only [List.getElem?_set, List.length_set, Nat.reduceLT, Nat.reduceEqDiff, ↓reduceIte, reduceCtorEq, *], by simp only [List.getElem?_set, List.length_set, Nat.reduceLT, Nat.reduceEqDiff, ↓reduceIte, reduceCtorEq, *], by simp only [List.getElem?_set, List.length_set, Nat.reduceLT, Nat.reduceEqDiff, ↓reduceIte, reduceCtorEq, *]⟩
      rw [w3 j (by omega) (fun e => by have := hf j e; omega)]; exact hg.2 j hj
    | false =>
      have hy : ¬ upAt l k = (i : Int) := fun e => by rw [e, beq_self_eq_true] at a1; cases a1
      simp only [lkK, lkB, lkIn', code, Try.f12, Option.getD_some, Code.fst, Code.snd, Code.inn, aexec, aops, aop, Region.wanted, ayielded, aexecOp, aeval, aput, aseq, ablock, ahint, absOf, flat, nilCheckA, ANext.ofP, evals, evalPs, evalO, aresults, aresults1, aresult, aend, List.getElem?_set, List.length_set, Option.map_some, Option.bind_some, if_true, if_false, ↓reduceIte, Nat.reduceLT, Nat.reduceEqDiff, reduceCtorEq, Bool.false_eq_true, false_and, and_false, and_true, true_and, Nat.reduceAdd, Nat.reduceLeDiff, callA, List.getElem?_toArray, List.getElem?_cons_succ, List.getElem?_cons_zero, sb1, sb2, sb3, sb4, t1, t5, t6, t7, t8, t9, t28, t29, t32, t33, t34, tl, b_lss, hd, i1, i2, b_eql, a1, b_add, q1]
      exact ⟨_, st, kv, so, rfl, ⟨⟨by simp only [List.getElem?_set, List.length_set, Nat.reduceLT, Nat.reduceEqDiff, ↓reduceIte, reduceCtorEq, *], by simp only [List.getElem?_set, List.length_set, Nat.reduceLT, Nat.reduceEqDiff, ↓reduceIte, reduceCtorEq, *], by simp only [List.getElem?_set, List.length_set, Nat.reduceLT, Nat.reduceEqDiff, ↓reduceIte, reduceCtorEq, *], by simp only [List.getElem?_set, List.length_set, Nat.reduceLT, Nat.reduceEqDiff, ↓reduceIte, reduceCtorEq, *], by simp only [List.getElem?_set, List.length_set, Nat.reduceLT, Nat.reduceEqDiff, ↓reduceIte, reduceCtorEq, *], by simp only [List.getElem?_set, List.length_set, Nat.reduceLT, Nat.reduceEqDiff, ↓reduceIte, reduceCtorEq, *]⟩, by simp only [List.getElem?_set, List.length_set, Nat.reduceLT, Nat.reduceEqDiff, ↓reduceIte, reduceCtorEq, *], by simp only [List.getElem?_set, List.length_set, Nat.reduceLT, Nat.reduceEqDiff, ↓reduceIte, reduceCtorEq, *], by simp only [List.getElem?_set, List.length_set, Nat.reduceLT, Nat.reduceEqDiff, ↓reduceIte, reduceCtorEq, *]⟩, by rw [kidsI_succ, if_neg hy, List.append_nil]; exact ho, hf, hg, by simp only [List.getElem?_set, List.length_set, Nat.reduceLT, Nat.reduceEqDiff, ↓reduceIte, reduceCtorEq, *], by simp only [List.getElem?_set, List.length_set, Nat.reduceLT, Nat.reduceEqDiff, ↓reduceIte, reduceCtorEq, *], by simp only [List.getElem?_set, List.length_set, Nat.reduceLT, Nat.reduceEqDiff, ↓reduceIte, reduceCtorEq, *]⟩

theorem ln_p2 (call : ACall) (dr : Array Oper → Bool) (m : Nat) {ow pv uv kv wv : AVal} {n i : Nat} {ts : List AVal} {st : ASt} (h : LnK ow pv uv kv wv n i ts) :
    ∃ ts', aexec E 12 call dr m lkP2 ts st = some (.normal, ts', st) ∧ LnK ow pv uv kv wv n i ts' ∧ ts'[12]? = some (.lit (.int .i64 i)) := by
  obtain ⟨⟨t1, t5, t6, t28, t29, tl⟩, t7, t8, t9⟩ := h
  simp only [lkP2, lkB, lkIn', code, Try.f12, Option.getD_some, Code.fst, Code.snd, Code.inn, aexec, aops, aop, Region.wanted, ayielded, aexecOp, aeval, aput, aseq, ablock, ahint, absOf, flat, nilCheckA, ANext.ofP, evals, evalPs, evalO, aresults, aresults1, aresult, aend, List.getElem?_set, List.length_set, Option.map_some, Option.bind_some, if_true, if_false, ↓reduceIte, Nat.reduceLT, Nat.reduceEqDiff, reduceCtorEq, Bool.false_eq_true, false_and, and_false, and_true, true_and, Nat.reduceAdd, Nat.reduceLeDiff, callA, List.getElem?_toArray, List.getElem?_cons_succ, List.getElem?_cons_zero, sb1, sb2, sb3, sb4, t1, t5, t6, t7, t8, t9, t28, t29, tl]
  exact ⟨_, rfl, ⟨⟨by simp only [List.getElem?_set, List.length_set, Nat.reduceLT, Nat.reduceEqDiff, ↓reduceIte, reduceCtorEq, *], by simp only [List.getElem?_set, List.length_set, Nat.reduceLT, Nat.reduceEqDiff, ↓reduceIte, reduceCtorEq, *], by simp only [List.getElem?_set, List.length_set, Nat.reduceLT, Nat.reduceEqDiff, ↓reduceIte, reduceCtorEq, *], by simp only [List.getElem?_set, List.length_set, Nat.reduceLT, Nat.reduceEqDiff, ↓reduceIte, reduceCtorEq, *], by simp only [List.getElem?_set, List.length_set, Nat.reduceLT, Nat.reduceEqDiff, ↓reduceIte, reduceCtorEq, *], by simp only [List.getElem?_set, List.length_set, Nat.reduceLT, Nat.reduceEqDiff, ↓reduceIte, reduceCtorEq, *]⟩, by simp only [List.getElem?_set, List.length_set, Nat.reduceLT, Nat.reduceEqDiff, ↓reduceIte, reduceCtorEq, *], by simp only [List.getElem?_set, List.length_set, Nat.reduceLT, Nat.reduceEqDiff, ↓reduceIte, reduceCtorEq, *], by simp only [List.getElem?_set, List.length_set, Nat.reduceLT, Nat.reduceEqDiff, ↓reduceIte, reduceCtorEq, *]⟩, by simp only [List.getElem?_set, List.length_set, Nat.reduceLT, Nat.reduceEqDiff, ↓reduceIte, reduceCtorEq, *]⟩

theorem ln_p (call : ACall) (dr : Array Oper → Bool) (m : Nat) {ow pv uv kv wv : AVal} {l : List Nd} {W : List Int} {n i k s : Nat} {ts : List AVal} {st : ASt} (hps : PS st pv l) (hck : ck l 0 1 = (0, 0)) (hk : k < l.length) (hu : MRow st uv (par l) s) (hw : PV st wv W) (hW : W.length ≤ 1000) (h : LnK ow pv uv kv wv n i ts) (t12 : ts[12]? = some (.lit (.int .i64 k))) :
    (k = 0 → ∃ ts', aexec E 12 call dr m lkP ts st = some (.exit 4, ts', st) ∧ LnK ow pv uv kv wv n i ts') ∧
    (0 < k → ∃ ts' st' wv', aexec E 12 call dr m lkP ts st = some (.normal, ts', st') ∧ LnK ow pv uv kv wv' n i ts' ∧ PV st' wv' (thAt l k :: W) ∧ Gr st st' ∧ ts'[12]? = some (.lit (.int .i64 (upAt l k).toNat))) := by
  obtain ⟨⟨t1, t5, t6, t28, t29, tl⟩, t7, t8, t9⟩ := h
  have h59 : E.hint 12 59 = false := rfl
  have h61 : E.hint 12 61 = true := rfl
  refine ⟨fun h0 => ?_, fun h0 => ?_⟩
  · have hd : decide ((k : Int) > 0) = false := by rw [decide_eq_false_iff_not]; omega
    simp only [lkP, lkB, lkIn', code, Try.f12, Option.getD_some, Code.fst, Code.snd, Code.inn, aexec, aops, aop, Region.wanted, ayielded, aexecOp, aeval, aput, aseq, ablock, ahint, absOf, flat, nilCheckA, ANext.ofP, evals, evalPs, evalO, aresults, aresults1, aresult, aend, List.getElem?_set, List.length_set, Option.map_some, Option.bind_some, if_true, if_false, ↓reduceIte, Nat.reduceLT, Nat.reduceEqDiff, reduceCtorEq, Bool.false_eq_true, false_and, and_false, and_true, true_and, Nat.reduceAdd, Nat.reduceLeDiff, callA, List.getElem?_toArray, List.getElem?_cons_succ, List.getElem?_cons_zero, sb1, sb2, sb3, sb4, t1, t5, t6, t7, t8, t9, t12, t28, t29, tl, b_gtr, hd]
    exact ⟨_, rfl, ⟨⟨by simp only [List.getElem?_set, List.length_set, Nat.reduceLT, Nat.reduceEqDiff, ↓reduceIte, reduceCtorEq, *], by simp only [List.getElem?_set, List.length_set, Nat.reduceLT, Nat.reduceEqDiff, ↓reduceIte, reduceCtorEq, *], by simp only [List.getElem?_set, List.length_set, Nat.reduceLT, Nat.reduceEqDiff, ↓reduceIte, reduceCtorEq, *], by simp only [List.getElem?_set, List.length_set, Nat.reduceLT, Nat.reduceEqDiff, ↓reduceIte, reduceCtorEq, *], by simp only [List.getElem?_set, List.length_set, Nat.reduceLT, Nat.reduceEqDiff, ↓reduceIte, reduceCtorEq, *], by simp only [List.getElem?_set, List.length_set, Nat.reduceLT, Nat.reduceEqDiff, ↓reduceIte, reduceCtorEq, *]⟩, by simp only [List.getElem?_set, List.length_set, Nat.reduceLT, Nat.reduceEqDiff, ↓reduceIte, reduceCtorEq, *], by simp only [List.getElem?_set, List.length_set, Nat.reduceLT, Nat.reduceEqDiff, ↓reduceIte, reduceCtorEq, *], by simp only [List.getElem?_set, List.length_set, Nat.reduceLT, Nat.reduceEqDiff, ↓reduceIte, reduceCtorEq, *]⟩⟩
  · have hd : decide ((k : Int) > 0) = true := by rw [decide_eq_true_eq]; omega
    obtain ⟨p, q, i1, _, _, _, q0, i5, i6⟩ := ps_idx hps hk
    have hth : thAt l k = l[k].th := by unfold thAt; rw [getD_nd hk]
    rw [hth]
    obtain ⟨wv', st', e1, w1, g1⟩ := pv_front hw (by omega) l[k].th
    have hu1 : MRow st' uv (par l) s := ⟨hu.1, Nat.lt_of_lt_of_le hu.2.1 g1.1, by rw [g1.2 _ hu.2.1]; exact hu.2.2⟩
    obtain ⟨f1, f2⟩ := mrow_idx hu1 (i := k) (by rw [par_length]; exact hk)
    have hget : (par l)[k]'(by rw [par_length]; exact hk) = upAt l k := by
      have := par_get hk
      rw [List.getElem?_eq_getElem (by rw [par_length]; exact hk)] at this
      exact Option.some.inj this
    obtain ⟨mm, em, hm⟩ := up_lt hck h0 hk
    rw [hget, em] at f2
    simp only [lkP, lkB, lkIn', code, Try.f12, Option.getD_some, Code.fst, Code.snd, Code.inn, aexec, aops, aop, Region.wanted, ayielded, aexecOp, aeval, aput, aseq, ablock, ahint, absOf, flat, nilCheckA, ANext.ofP, evals, evalPs, evalO, aresults, aresults1, aresult, aend, List.getElem?_set, List.length_set, Option.map_some, Option.bind_some, if_true, if_false, ↓reduceIte, Nat.reduceLT, Nat.reduceEqDiff, reduceCtorEq, Bool.false_eq_true, false_and, and_false, and_true, true_and, Nat.reduceAdd, Nat.reduceLeDiff, callA, List.getElem?_toArray, List.getElem?_cons_succ, List.getElem?_cons_zero, sb1, sb2, sb3, sb4, t1, t5, t6, t7, t8, t9, t12, t28, t29, tl, b_gtr, hd, h59, h61, i1, i5, i6, bs_int, b_app, e1, f1, f2]
    exact ⟨_, st', wv', rfl, ⟨⟨by simp only [List.getElem?_set, List.length_set, Nat.reduceLT, Nat.reduceEqDiff, ↓reduceIte, reduceCtorEq, *], by simp only [List.getElem?_set, List.length_set, Nat.reduceLT, Nat.reduceEqDiff, ↓reduceIte, reduceCtorEq, *], by simp only [List.getElem?_set, List.length_set, Nat.reduceLT, Nat.reduceEqDiff, ↓reduceIte, reduceCtorEq, *], by simp only [List.getElem?_set, List.length_set, Nat.reduceLT, Nat.reduceEqDiff, ↓reduceIte, reduceCtorEq, *], by simp only [List.getElem?_set, List.length_set, Nat.reduceLT, Nat.reduceEqDiff, ↓reduceIte, reduceCtorEq, *], by simp only [List.getElem?_set, List.length_set, Nat.reduceLT, Nat.reduceEqDiff, ↓reduceIte, reduceCtorEq, *]⟩, by simp only [List.getElem?_set, List.length_set, Nat.reduceLT, Nat.reduceEqDiff, ↓reduceIte, reduceCtorEq, *], by simp only [List.getElem?_set, List.length_set, Nat.reduceLT, Nat.reduceEqDiff, ↓reduceIte, reduceCtorEq, *], by simp only [List.getElem?_set, List.length_set, Nat.reduceLT, Nat.reduceEqDiff, ↓reduceIte, reduceCtorEq, *]⟩, w1, g1, by rw [em, Int.toNat_natCast]; simp only [List.getElem?_set, List.length_set, Nat.reduceLT, Nat.reduceEqDiff, ↓reduceIte, reduceCtorEq, *]⟩

theorem ln_25 (call : ACall) (dr : Array Oper → Bool) (m : Nat) {ow pv uv : AVal} {n i : Nat} {ts : List AVal} {st : ASt} (h : LnS ow pv uv n i ts) (hi : i ≤ 1000) :
    ∃ ts', aexec E 12 call dr m lkR25 ts st = some (.normal, ts', st) ∧ LnS ow pv uv n (i + 1) ts' := by
  obtain ⟨t1, t5, t6, t28, t29, tl⟩ := h
  have q1 : IntKind.i64.wrap ((i : Int) + 1) = ((i + 1 : Nat) : Int) := by
    simp [IntKind.wrap, IntKind.bits, IntKind.signed]; omega
  simp only [lkR25, lkB, lkIn', code, Try.f12, Option.getD_some, Code.fst, Code.snd, Code.inn, aexec, aops, aop, Region.wanted, ayielded, aexecOp, aeval, aput, aseq, ablock, ahint, absOf, flat, nilCheckA, ANext.ofP, evals, evalPs, evalO, aresults, aresults1, aresult, aend, List.getElem?_set, List.length_set, Option.map_some, Option.bind_some, if_true, if_false, ↓reduceIte, Nat.reduceLT, Nat.reduceEqDiff, reduceCtorEq, Bool.false_eq_true, false_and, and_false, and_true, true_and, Nat.reduceAdd, Nat.reduceLeDiff, callA, List.getElem?_toArray, List.getElem?_cons_succ, List.getElem?_cons_zero, sb1, sb2, sb3, sb4, t1, t5, t6, t28, t29, tl, b_add, q1]
  exact ⟨_, rfl, ⟨by simp only [List.getElem?_set, List.length_set, Nat.reduceLT, Nat.reduceEqDiff, ↓reduceIte, reduceCtorEq, *], by simp only [List.getElem?_set, List.length_set, Nat.reduceLT, Nat.reduceEqDiff, ↓reduceIte, reduceCtorEq, *], by simp only [List.getElem?_set, List.length_set, Nat.reduceLT, Nat.reduceEqDiff, ↓reduceIte, reduceCtorEq, *], by simp only [List.getElem?_set, List.length_set, Nat.reduceLT, Nat.reduceEqDiff, ↓reduceIte, reduceCtorEq, *], by simp only [List.getElem?_set, List.length_set, Nat.reduceLT, Nat.reduceEqDiff, ↓reduceIte, reduceCtorEq, *], by simp only [List.getElem?_set, List.length_set, Nat.reduceLT, Nat.reduceEqDiff, ↓reduceIte, reduceCtorEq, *]⟩⟩

set_option maxHeartbeats 1000000 in
/-- what is asked of a node -/
theorem ln_p3 (N m : Nat) (hN : 2000 ≤ N) (dr : Array Oper → Bool) {ow pv uv kv wv : AVal} {l : List Nd} {n i : Nat} {so : Option Nat} {ts : List AVal} {st : ASt} (hT : IsTree l) (hps : PS st pv l) (hi : i < l.length) (ho : IRow st kv (kidsI l i l.length) so) (hw : PV st wv (pathN l i)) (h : LnK ow pv uv kv wv n i ts) :
    ∃ ts' st', aexec E 12 (run E N) dr m lkP3 ts st = some (.normal, ts', st') ∧ Gr st st' ∧ LnS ow pv uv n i ts' := by
  obtain ⟨⟨t1, t5, t6, t28, t29, tl⟩, t7, t8, t9⟩ := h
  have hh : ∀ t, t ≠ 45 → t ≠ 61 → E.hint 12 t = false := fun t h1 h2 => by simp [E, h1, h2]
  have hTl := hT.len
  obtain ⟨k2, st1, s1, n1, w1, g1⟩ := kids_run hps (by omega) hT.kd i
  have hkl := kidsI_len l i l.length
  have n2 := qi_run (l := kidsI l i l.length) (st := st1) (.inr (.inl ⟨s1, w1⟩)) (.inr (.inl ⟨so, ho.gr g1.1 (fun k e => g1.2 k (irow_lt ho k e))⟩)) (by omega)
  obtain ⟨r2, st2, s2, n3, w3, g3, _⟩ := path_run (hps.gr g1) (by omega) hT.ok hT.kd ((i : Nat) : Int) (by omega)
  have hpF : pathF l ((i : Nat) : Int) = pathN l i := by unfold pathF; rw [if_pos ⟨by omega, by omega⟩, Int.toNat_natCast]
  rw [hpF] at w3
  have hpl : (pathN l i).length ≤ 1000 := by
    have hch : ∀ f k, (chain l f k).length ≤ f := by
      intro f
      induction f with
      | zero => intro k; simp [chain]
      | succ f ih =>
        intro k
        rw [chain]
        split
        · simp
        · simp; exact ih _
    have := hch (i + 1) i
    unfold pathN
    rw [List.length_reverse, List.length_map]; omega
  have n4 := qi_run (l := pathN l i) (st := st2) (.inr (.inl ⟨s2, w3⟩)) ((hw.gr (g1.trans g3)).ri) (by omega)
  have c1 := n1 N (by omega)
  have c2 := n2 N (by omega)
  have c3 := n3 N (by omega)
  have c4 := n4 N (by omega)
  have hnot : ∀ b, pureV E.P (Op.unary .not (.bool b)) = some (.lit (.bool (!b))) := fun _ => rfl
  have hmany := kids_many hT hi
  have hkk : ((kidsI l i l.length).length : Int) = l[i].kd := by
    rw [← hmany]; unfold kidsI kidsL; rw [List.length_map]
  have L := fun mt ty cs s => irow_len ho mt ty cs s
  rw [hkk] at L
  obtain ⟨p, q, i1, _, i3, i4, _⟩ := ps_idx ((hps.gr g1).gr g3) hi
  simp only [AVal.undef, sbn, sbn', lkP3, lkB, lkIn', code, Try.f12, Option.getD_some, Code.fst, Code.snd, Code.inn, aexec, aops, aop, Region.wanted, ayielded, aexecOp, aeval, aput, aseq, ablock, ahint, absOf, flat, nilCheckA, ANext.ofP, evals, evalPs, evalO, aresults, aresults1, aresult, aend, List.getElem?_set, List.length_set, Option.map_some, Option.bind_some, if_true, if_false, ↓reduceIte, Nat.reduceLT, Nat.reduceEqDiff, reduceCtorEq, Bool.false_eq_true, false_and, and_false, and_true, true_and, Nat.reduceAdd, Nat.reduceLeDiff, callA, List.getElem?_toArray, List.getElem?_cons_succ, List.getElem?_cons_zero, sb1, sb2, sb3, sb4, t1, t5, t6, t7, t8, t9, t28, t29, tl, cf40, c1, cf33, c2, YtjpehemkgikkdaaA.valOf, hnot, Bool.not_true, cf32, c3, c4, L, i1, i3, i4, b_neq, bne_self_eq_false]
  exact ⟨_, st2, rfl, g1.trans g3, ⟨by simp only [List.getElem?_set, List.length_set, Nat.reduceLT, Nat.reduceEqDiff, ↓reduceIte, reduceCtorEq, *], by simp only [List.getElem?_set, List.length_set, Nat.reduceLT, Nat.reduceEqDiff, ↓reduceIte, reduceCtorEq, *], by simp only [List.getElem?_set, List.length_set, Nat.reduceLT, Nat.reduceEqDiff, ↓reduceIte, reduceCtorEq, *], by simp only [List.getElem?_set, List.length_set, Nat.reduceLT, Nat.reduceEqDiff, ↓reduceIte, reduceCtorEq, *], by simp only [List.getElem?_set, List.length_set, Nat.reduceLT, Nat.reduceEqDiff, ↓reduceIte, reduceCtorEq, *], by simp only [List.getElem?_set, List.length_set, Nat.reduceLT, Nat.reduceEqDiff, ↓reduceIte, reduceCtorEq, *]⟩⟩

end Go.Proofs.YtjpehemkgikkdaaV
