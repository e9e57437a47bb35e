/- The laws' Tree, walked: its contract. No condition. -/
import Derived.Test.YtnndngoanknemaaN5
namespace Go.Proofs.YtnndngoanknemaaV
open Go Go.RowKit Go.Proofs.YtnndngoanknemaaA
set_option linter.unusedVariables false
set_option linter.unusedSimpArgs false
set_option maxRecDepth 100000

noncomputable def trBody : Code := (code Try.f10).snd.snd.snd.fst.snd.inn
noncomputable def trIn : Code := trBody.snd.fst.inn
noncomputable def trR4 : Code := trBody.fst.fst
noncomputable def trS6 : Code := .seq trIn.fst trIn.snd.fst
noncomputable def trS9 : Code := .seq trIn.snd.snd.fst trIn.snd.snd.snd.fst
noncomputable def trS12 : Code := .seq trIn.snd.snd.snd.snd.fst trIn.snd.snd.snd.snd.snd.fst
noncomputable def trS15 : Code := trIn.snd.snd.snd.snd.snd.snd
noncomputable def trR5 : Code := trBody.snd.snd
theorem tr_body : trBody = .seq (.seq trR4 (.cond (.tmp 14) .skip (.exit 0))) (.seq (.block 1 (.seq trIn.fst (.seq trIn.snd.fst (.seq trIn.snd.snd.fst (.seq trIn.snd.snd.snd.fst (.seq trIn.snd.snd.snd.snd.fst (.seq trIn.snd.snd.snd.snd.snd.fst trS15))))))) trR5) := rfl
theorem tr_run (call : ACall) (dr : Array Oper → Bool) (n : Nat) (ts : List AVal) (st : ASt) : aexec E 10 call dr n trBody ts st =
    aseq (aseq (aexec E 10 call dr n trR4 ts st) (aexec E 10 call dr n (.cond (.tmp 14) .skip (.exit 0)))) fun ts st => aseq (ablock 1 (aseq (aexec E 10 call dr n trS6 ts st) fun ts st => aseq (aexec E 10 call dr n trS9 ts st) fun ts st => aseq (aexec E 10 call dr n trS12 ts st) (aexec E 10 call dr n trS15))) (aexec E 10 call dr n trR5) := by
  rw [tr_body, trS6, trS9, trS12]
  simp only [aexec_seq, aexec_block, aseq_assoc]

structure TrS (v ov : AVal) (i op : Nat) (ts : List AVal) : Prop where
  t0 : ts[0]? = some v
  t3 : ts[3]? = some ov
  t4 : ts[4]? = some (.lit (.int .i64 op))
  t5 : ts[5]? = some (.lit (.int .i64 i))
  tl : ts.length = 72

theorem tr4 (call : ACall) (dr : Array Oper → Bool) (n : Nat) {v ov : AVal} {i op : Nat} {ts : List AVal} {st : ASt} (h : TrS v ov i op ts) (hi : i ≤ 40) :
    ∃ ts', aexec E 10 call dr n trR4 ts st = some (.normal, ts', st) ∧ TrS v ov i op ts' ∧ ts'[14]? = some (.lit (.bool (decide (0 < op)))) := by
  obtain ⟨t0, t3, t4, t5, tl⟩ := h
  have hh : ∀ t, E.hint 10 t = (t == 66) := fun t => by
    simp [E]
  cases a1 : decide ((op : Int) > 0) with
  | true =>
    have hr : decide (0 < op) = true := by rw [decide_eq_true_eq] at a1 ⊢; omega
    have a2 : decide ((i : Int) < 60) = true := by rw [decide_eq_true_eq]; omega
    rw [hr]
    simp only [AVal.undef, sbn, sbn', trR4, trBody, trIn, code, Try.f10, Option.getD_some, Code.fst, Code.snd, Code.inn, aexec, aops, aop, Region.wanted, ayielded, aexecOp, aeval, aput, aseq, ablock, ahint, absOf, flat, nilCheckA, ANext.ofP, evals, evalPs, evalO, aresults, aresults1, aresult, aend, List.getElem?_set, List.length_set, Option.map_some, Option.bind_some, if_true, if_false, ↓reduceIte, Nat.reduceLT, Nat.reduceEqDiff, reduceCtorEq, Bool.false_eq_true, false_and, and_false, and_true, true_and, Nat.reduceAdd, Nat.reduceLeDiff, callA, List.getElem?_toArray, List.getElem?_cons_succ, List.getElem?_cons_zero, sb1, sb2, sb3, sb4, sliceU_i, sliceU_s, sliceU_p, sliceU_l, evalV, t0, t3, t4, t5, tl, b_gtr, a1, b_lss, a2]
    exact ⟨_, rfl, ⟨by simp only [List.getElem?_set, List.length_set, Nat.reduceLT, Nat.reduceEqDiff, ↓reduceIte, reduceCtorEq, *], by simp only [List.getElem?_set, List.length_set, Nat.reduceLT, Nat.reduceEqDiff, ↓reduceIte, reduceCtorEq, *], by simp only [List.getElem?_set, List.length_set, Nat.reduceLT, Nat.reduceEqDiff, ↓reduceIte, reduceCtorEq, *], by simp only [List.getElem?_set, List.length_set, Nat.reduceLT, Nat.reduceEqDiff, ↓reduceIte, reduceCtorEq, *], by simp only [List.getElem?_set, List.length_set, Nat.reduceLT, Nat.reduceEqDiff, ↓reduceIte, reduceCtorEq, *]⟩, by simp only [List.getElem?_set, List.length_set, Nat.reduceLT, Nat.reduceEqDiff, ↓reduceIte, reduceCtorEq, *]⟩
  | false =>
    have hr : decide (0 < op) = false := by rw [decide_eq_false_iff_not] at a1 ⊢; omega
    rw [hr]
    simp only [AVal.undef, sbn, sbn', trR4, trBody, trIn, code, Try.f10, Option.getD_some, Code.fst, Code.snd, Code.inn, aexec, aops, aop, Region.wanted, ayielded, aexecOp, aeval, aput, aseq, ablock, ahint, absOf, flat, nilCheckA, ANext.ofP, evals, evalPs, evalO, aresults, aresults1, aresult, aend, List.getElem?_set, List.length_set, Option.map_some, Option.bind_some, if_true, if_false, ↓reduceIte, Nat.reduceLT, Nat.reduceEqDiff, reduceCtorEq, Bool.false_eq_true, false_and, and_false, and_true, true_and, Nat.reduceAdd, Nat.reduceLeDiff, callA, List.getElem?_toArray, List.getElem?_cons_succ, List.getElem?_cons_zero, sb1, sb2, sb3, sb4, sliceU_i, sliceU_s, sliceU_p, sliceU_l, evalV, t0, t3, t4, t5, tl, b_gtr, a1]
    exact ⟨_, rfl, ⟨by simp only [List.getElem?_set, List.length_set, Nat.reduceLT, Nat.reduceEqDiff, ↓reduceIte, reduceCtorEq, *], by simp only [List.getElem?_set, List.length_set, Nat.reduceLT, Nat.reduceEqDiff, ↓reduceIte, reduceCtorEq, *], by simp only [List.getElem?_set, List.length_set, Nat.reduceLT, Nat.reduceEqDiff, ↓reduceIte, reduceCtorEq, *], by simp only [List.getElem?_set, List.length_set, Nat.reduceLT, Nat.reduceEqDiff, ↓reduceIte, reduceCtorEq, *], by simp only [List.getElem?_set, List.length_set, Nat.reduceLT, Nat.reduceEqDiff, ↓reduceIte, reduceCtorEq, *]⟩, by simp only [List.getElem?_set, List.length_set, Nat.reduceLT, Nat.reduceEqDiff, ↓reduceIte, reduceCtorEq, *]⟩

theorem tr6 (call : ACall) (dr : Array Oper → Bool) (n : Nat) {v ov : AVal} {ns : List N8} {i op : Nat} {ts : List AVal} {st : ASt} (hv : NS v ns) (h : TrS v ov i op ts) :
    ∃ ts', aexec E 10 call dr n trS6 ts st = some (.normal, ts', laid8 st (trN ns i)) ∧ TrS v ov i op ts' ∧ ts'[6]? = some (.ptr st.ctr 0) := by
  obtain ⟨t0, t3, t4, t5, tl⟩ := h
  by_cases hi : i < ns.length
  · have a1 : decide ((i : Int) < (ns.length : Int)) = true := by rw [decide_eq_true_eq]; omega
    have hn : trN ns i = ns[i] := by unfold trN; rw [List.getD_eq_getElem?_getD, List.getElem?_eq_getElem hi]; rfl
    rw [hn]
    simp only [AVal.undef, sbn, sbn', trS6, trBody, trIn, code, Try.f10, Option.getD_some, Code.fst, Code.snd, Code.inn, aexec, aops, aop, Region.wanted, ayielded, aexecOp, aeval, aput, aseq, ablock, ahint, absOf, flat, nilCheckA, ANext.ofP, evals, evalPs, evalO, aresults, aresults1, aresult, aend, List.getElem?_set, List.length_set, Option.map_some, Option.bind_some, if_true, if_false, ↓reduceIte, Nat.reduceLT, Nat.reduceEqDiff, reduceCtorEq, Bool.false_eq_true, false_and, and_false, and_true, true_and, Nat.reduceAdd, Nat.reduceLeDiff, callA, List.getElem?_toArray, List.getElem?_cons_succ, List.getElem?_cons_zero, sb1, sb2, sb3, sb4, sliceU_i, sliceU_s, sliceU_p, sliceU_l, evalV, t0, t3, t4, t5, tl, build_8, alloc_8, store_8, len_ns hv, b_lss, a1, idx_ns hv hi, load_n8, store_88]
    exact ⟨_, rfl, ⟨by simp only [List.getElem?_set, List.length_set, Nat.reduceLT, Nat.reduceEqDiff, ↓reduceIte, reduceCtorEq, *], by simp only [List.getElem?_set, List.length_set, Nat.reduceLT, Nat.reduceEqDiff, ↓reduceIte, reduceCtorEq, *], by simp only [List.getElem?_set, List.length_set, Nat.reduceLT, Nat.reduceEqDiff, ↓reduceIte, reduceCtorEq, *], by simp only [List.getElem?_set, List.length_set, Nat.reduceLT, Nat.reduceEqDiff, ↓reduceIte, reduceCtorEq, *], by simp only [List.getElem?_set, List.length_set, Nat.reduceLT, Nat.reduceEqDiff, ↓reduceIte, reduceCtorEq, *]⟩, by simp only [List.getElem?_set, List.length_set, Nat.reduceLT, Nat.reduceEqDiff, ↓reduceIte, reduceCtorEq, *]⟩
  · have a1 : decide ((i : Int) < (ns.length : Int)) = false := by rw [decide_eq_false_iff_not]; omega
    have hn : trN ns i = zero8 := by unfold trN; rw [List.getD_eq_getElem?_getD, List.getElem?_eq_none (by omega)]; rfl
    rw [hn]
    simp only [AVal.undef, sbn, sbn', trS6, trBody, trIn, code, Try.f10, Option.getD_some, Code.fst, Code.snd, Code.inn, aexec, aops, aop, Region.wanted, ayielded, aexecOp, aeval, aput, aseq, ablock, ahint, absOf, flat, nilCheckA, ANext.ofP, evals, evalPs, evalO, aresults, aresults1, aresult, aend, List.getElem?_set, List.length_set, Option.map_some, Option.bind_some, if_true, if_false, ↓reduceIte, Nat.reduceLT, Nat.reduceEqDiff, reduceCtorEq, Bool.false_eq_true, false_and, and_false, and_true, true_and, Nat.reduceAdd, Nat.reduceLeDiff, callA, List.getElem?_toArray, List.getElem?_cons_succ, List.getElem?_cons_zero, sb1, sb2, sb3, sb4, sliceU_i, sliceU_s, sliceU_p, sliceU_l, evalV, t0, t3, t4, t5, tl, build_8, alloc_8, store_8, len_ns hv, b_lss, a1]
    exact ⟨_, rfl, ⟨by simp only [List.getElem?_set, List.length_set, Nat.reduceLT, Nat.reduceEqDiff, ↓reduceIte, reduceCtorEq, *], by simp only [List.getElem?_set, List.length_set, Nat.reduceLT, Nat.reduceEqDiff, ↓reduceIte, reduceCtorEq, *], by simp only [List.getElem?_set, List.length_set, Nat.reduceLT, Nat.reduceEqDiff, ↓reduceIte, reduceCtorEq, *], by simp only [List.getElem?_set, List.length_set, Nat.reduceLT, Nat.reduceEqDiff, ↓reduceIte, reduceCtorEq, *], by simp only [List.getElem?_set, List.length_set, Nat.reduceLT, Nat.reduceEqDiff, ↓reduceIte, reduceCtorEq, *]⟩, by simp only [List.getElem?_set, List.length_set, Nat.reduceLT, Nat.reduceEqDiff, ↓reduceIte, reduceCtorEq, *]⟩

theorem w8 (z : Int) : IntKind.u8.wrap z = ((u8 z : Nat) : Int) := by
  unfold u8
  simp only [IntKind.wrap, IntKind.bits, IntKind.signed, Bool.false_and, Bool.false_eq_true, if_false]
  omega
theorem cv8 (mt : Bool) (z : Int) (st : ASt) : convA E.P mt 49 5 (.lit (.int .i8 z)) st = some (.lit (.int .u8 ((u8 z : Nat) : Int)), st) := by
  rw [c_int u52 u5, w8]
theorem cvi (mt : Bool) {z : Nat} (hz : z < 256) (st : ASt) : convA E.P mt 5 3 (.lit (.int .u8 (z : Int))) st = some (.lit (.int .i64 ((z : Nat) : Int)), st) := by
  rw [c_int u5 u3, show IntKind.i64.wrap (z : Int) = (z : Int) by simp [IntKind.wrap, IntKind.bits, IntKind.signed]; omega]
theorem cvu (mt : Bool) {z : Nat} (hz : z < 256) (st : ASt) : convA E.P mt 5 32 (.lit (.int .u8 (z : Int))) st = some (.lit (.int .u64 ((z : Nat) : Int)), st) := by
  rw [c_int u5 u22, wrap_u rfl (by simp only [IntKind.bits]; omega)]
theorem tmod_nat (a b : Nat) : ((a : Nat) : Int).tmod (b : Int) = ((a % b : Nat) : Int) := by rw [Int.tmod_eq_emod_of_nonneg (Int.natCast_nonneg _)]; rfl

theorem tr9 (call : ACall) (dr : Array Oper → Bool) (n : Nat) {v ov : AVal} {ns : List N8} {i op s : Nat} {ts : List AVal} {st : ASt} (hv : NS v ns) (h : TrS v ov i op ts) (hio : i + op ≤ 40) (hs : st.heap s = some (.cells (trN ns i).cs)) (t6 : ts[6]? = some (.ptr s 0)) :
    ∃ ts', aexec E 10 call dr n trS9 ts st = some (.normal, ts', st) ∧ TrS v ov i op ts' ∧ ts'[6]? = some (.ptr s 0) ∧ ts'[7]? = some (.lit (.int .i64 (trK ns i op : Nat))) := by
  obtain ⟨t0, t3, t4, t5, tl⟩ := h
  obtain ⟨f0, f1, f2, f3⟩ := fld8 s
  obtain ⟨l0, l1, l2, l3⟩ := ld8 hs
  have q1 : ((u8 (trN ns i).kd : Nat) : Int).tmod 4 = ((u8 (trN ns i).kd % 4 : Nat) : Int) := tmod_nat _ 4
  have q2 : IntKind.i64.wrap ((i : Int) + (op : Int)) = ((i + op : Nat) : Int) := by
    simp [IntKind.wrap, IntKind.bits, IntKind.signed]; omega
  have q3 : IntKind.i64.wrap (((i + op : Nat) : Int) + ((u8 (trN ns i).kd % 4 : Nat) : Int)) = ((i + op + u8 (trN ns i).kd % 4 : Nat) : Int) := by
    simp [IntKind.wrap, IntKind.bits, IntKind.signed]; omega
  have c1 := fun mt st => cvi mt (show u8 (trN ns i).kd % 4 < 256 by omega) st
  cases a1 : decide (((i + op + u8 (trN ns i).kd % 4 : Nat) : Int) > 40) with
  | true =>
    have hk : trK ns i op = 0 := by unfold trK; rw [if_pos (.inl (by rw [decide_eq_true_eq] at a1; omega))]
    rw [hk]
    simp only [AVal.undef, sbn, sbn', trS9, trBody, trIn, code, Try.f10, Option.getD_some, Code.fst, Code.snd, Code.inn, aexec, aops, aop, Region.wanted, ayielded, aexecOp, aeval, aput, aseq, ablock, ahint, absOf, flat, nilCheckA, ANext.ofP, evals, evalPs, evalO, aresults, aresults1, aresult, aend, List.getElem?_set, List.length_set, Option.map_some, Option.bind_some, if_true, if_false, ↓reduceIte, Nat.reduceLT, Nat.reduceEqDiff, reduceCtorEq, Bool.false_eq_true, false_and, and_false, and_true, true_and, Nat.reduceAdd, Nat.reduceLeDiff, callA, List.getElem?_toArray, List.getElem?_cons_succ, List.getElem?_cons_zero, sb1, sb2, sb3, sb4, sliceU_i, sliceU_s, sliceU_p, sliceU_l, evalV, t0, t3, t4, t5, t6, tl, f3, l3, cv8, ANext.ofP, b_rem _ _ _ _ _ _ _ (show (4 : Int) ≠ 0 by decide), q1, c1, b_add, q2, q3, b_gtr, a1]
    exact ⟨_, rfl, ⟨by simp only [List.getElem?_set, List.length_set, Nat.reduceLT, Nat.reduceEqDiff, ↓reduceIte, reduceCtorEq, *], by simp only [List.getElem?_set, List.length_set, Nat.reduceLT, Nat.reduceEqDiff, ↓reduceIte, reduceCtorEq, *], by simp only [List.getElem?_set, List.length_set, Nat.reduceLT, Nat.reduceEqDiff, ↓reduceIte, reduceCtorEq, *], by simp only [List.getElem?_set, List.length_set, Nat.reduceLT, Nat.reduceEqDiff, ↓reduceIte, reduceCtorEq, *], by simp only [List.getElem?_set, List.length_set, Nat.reduceLT, Nat.reduceEqDiff, ↓reduceIte, reduceCtorEq, *]⟩, by simp only [List.getElem?_set, List.length_set, Nat.reduceLT, Nat.reduceEqDiff, ↓reduceIte, reduceCtorEq, *], by simp only [List.getElem?_set, List.length_set, Nat.reduceLT, Nat.reduceEqDiff, ↓reduceIte, reduceCtorEq, *]; rfl⟩
  | false =>
    cases a2 : decide ((i : Int) ≥ (ns.length : Int)) with
    | true =>
      have hk : trK ns i op = 0 := by unfold trK; rw [if_pos (.inr (by rw [decide_eq_true_eq] at a2; omega))]
      rw [hk]
      simp only [AVal.undef, sbn, sbn', trS9, trBody, trIn, code, Try.f10, Option.getD_some, Code.fst, Code.snd, Code.inn, aexec, aops, aop, Region.wanted, ayielded, aexecOp, aeval, aput, aseq, ablock, ahint, absOf, flat, nilCheckA, ANext.ofP, evals, evalPs, evalO, aresults, aresults1, aresult, aend, List.getElem?_set, List.length_set, Option.map_some, Option.bind_some, if_true, if_false, ↓reduceIte, Nat.reduceLT, Nat.reduceEqDiff, reduceCtorEq, Bool.false_eq_true, false_and, and_false, and_true, true_and, Nat.reduceAdd, Nat.reduceLeDiff, callA, List.getElem?_toArray, List.getElem?_cons_succ, List.getElem?_cons_zero, sb1, sb2, sb3, sb4, sliceU_i, sliceU_s, sliceU_p, sliceU_l, evalV, t0, t3, t4, t5, t6, tl, f3, l3, cv8, ANext.ofP, b_rem _ _ _ _ _ _ _ (show (4 : Int) ≠ 0 by decide), q1, c1, b_add, q2, q3, b_gtr, a1, len_ns hv, b_geq, a2]
      exact ⟨_, rfl, ⟨by simp only [List.getElem?_set, List.length_set, Nat.reduceLT, Nat.reduceEqDiff, ↓reduceIte, reduceCtorEq, *], by simp only [List.getElem?_set, List.length_set, Nat.reduceLT, Nat.reduceEqDiff, ↓reduceIte, reduceCtorEq, *], by simp only [List.getElem?_set, List.length_set, Nat.reduceLT, Nat.reduceEqDiff, ↓reduceIte, reduceCtorEq, *], by simp only [List.getElem?_set, List.length_set, Nat.reduceLT, Nat.reduceEqDiff, ↓reduceIte, reduceCtorEq, *], by simp only [List.getElem?_set, List.length_set, Nat.reduceLT, Nat.reduceEqDiff, ↓reduceIte, reduceCtorEq, *]⟩, by simp only [List.getElem?_set, List.length_set, Nat.reduceLT, Nat.reduceEqDiff, ↓reduceIte, reduceCtorEq, *], by simp only [List.getElem?_set, List.length_set, Nat.reduceLT, Nat.reduceEqDiff, ↓reduceIte, reduceCtorEq, *]; rfl⟩
    | false =>
      have hk : trK ns i op = u8 (trN ns i).kd % 4 := by
        rw [decide_eq_false_iff_not] at a1 a2
        unfold trK; rw [if_neg (by omega)]
      rw [hk]
      simp only [AVal.undef, sbn, sbn', trS9, trBody, trIn, code, Try.f10, Option.getD_some, Code.fst, Code.snd, Code.inn, aexec, aops, aop, Region.wanted, ayielded, aexecOp, aeval, aput, aseq, ablock, ahint, absOf, flat, nilCheckA, ANext.ofP, evals, evalPs, evalO, aresults, aresults1, aresult, aend, List.getElem?_set, List.length_set, Option.map_some, Option.bind_some, if_true, if_false, ↓reduceIte, Nat.reduceLT, Nat.reduceEqDiff, reduceCtorEq, Bool.false_eq_true, false_and, and_false, and_true, true_and, Nat.reduceAdd, Nat.reduceLeDiff, callA, List.getElem?_toArray, List.getElem?_cons_succ, List.getElem?_cons_zero, sb1, sb2, sb3, sb4, sliceU_i, sliceU_s, sliceU_p, sliceU_l, evalV, t0, t3, t4, t5, t6, tl, f3, l3, cv8, ANext.ofP, b_rem _ _ _ _ _ _ _ (show (4 : Int) ≠ 0 by decide), q1, c1, b_add, q2, q3, b_gtr, a1, len_ns hv, b_geq, a2]
      exact ⟨_, rfl, ⟨by simp only [List.getElem?_set, List.length_set, Nat.reduceLT, Nat.reduceEqDiff, ↓reduceIte, reduceCtorEq, *], by simp only [List.getElem?_set, List.length_set, Nat.reduceLT, Nat.reduceEqDiff, ↓reduceIte, reduceCtorEq, *], by simp only [List.getElem?_set, List.length_set, Nat.reduceLT, Nat.reduceEqDiff, ↓reduceIte, reduceCtorEq, *], by simp only [List.getElem?_set, List.length_set, Nat.reduceLT, Nat.reduceEqDiff, ↓reduceIte, reduceCtorEq, *], by simp only [List.getElem?_set, List.length_set, Nat.reduceLT, Nat.reduceEqDiff, ↓reduceIte, reduceCtorEq, *]⟩, by simp only [List.getElem?_set, List.length_set, Nat.reduceLT, Nat.reduceEqDiff, ↓reduceIte, reduceCtorEq, *], by simp only [List.getElem?_set, List.length_set, Nat.reduceLT, Nat.reduceEqDiff, ↓reduceIte, reduceCtorEq, *]⟩

theorem build_54 (a b c d : AVal) : buildA E.P 53 [(0, a), (1, b), (2, c), (3, d)] = buildA E.P 53 [(0, a), (1, b), (2, c), (3, d)] := rfl
theorem build_n (th sl so kd : Int) : buildA E.P 53 [(0, .lit (.int .i64 th)), (1, .lit (.int .u64 sl)), (2, .lit (.int .u64 so)), (3, .lit (.int .i64 kd))] = some (.agg [.lit (.int .i64 th), .lit (.int .u64 sl), .lit (.int .u64 so), .lit (.int .i64 kd)]) := rfl

theorem tr12 (call : ACall) (dr : Array Oper → Bool) (n : Nat) {v ov : AVal} {ns : List N8} {i op s : Nat} {ts : List AVal} {st : ASt} (h : TrS v ov i op ts) (hs : st.heap s = some (.cells (trN ns i).cs)) (t6 : ts[6]? = some (.ptr s 0)) (t7 : ts[7]? = some (.lit (.int .i64 (trK ns i op : Nat)))) :
    ∃ ts', aexec E 10 call dr n trS12 ts st = some (.normal, ts', laidN st (trX ns i op)) ∧ TrS v ov i op ts' ∧ ts'[7]? = some (.lit (.int .i64 (trK ns i op : Nat))) ∧ ts'[8]? = some (.ptr st.ctr 0) := by
  obtain ⟨t0, t3, t4, t5, tl⟩ := h
  obtain ⟨f0, f1, f2, f3⟩ := fld8 s
  obtain ⟨g0, g1, g2, g3⟩ := fldN1 st.ctr
  obtain ⟨l0, l1, l2, l3⟩ := ld8 hs
  have q0 : ((u8 (trN ns i).th : Nat) : Int).tmod 6 = ((u8 (trN ns i).th % 6 : Nat) : Int) := tmod_nat _ 6
  have q1 : ((u8 (trN ns i).sl : Nat) : Int).tmod 64 = ((u8 (trN ns i).sl % 64 : Nat) : Int) := tmod_nat _ 64
  have q2 : ((u8 (trN ns i).so : Nat) : Int).tmod 64 = ((u8 (trN ns i).so % 64 : Nat) : Int) := tmod_nat _ 64
  have c0 := fun mt st => cvi mt (show u8 (trN ns i).th % 6 < 256 by omega) st
  have c1 := fun mt st => cvu mt (show u8 (trN ns i).sl % 64 < 256 by omega) st
  have c2 := fun mt st => cvu mt (show u8 (trN ns i).so % 64 < 256 by omega) st
  have hst := store_n st ⟨(u8 (trN ns i).th % 6 : Nat), u8 (trN ns i).sl % 64, u8 (trN ns i).so % 64, (trK ns i op : Nat)⟩
  unfold Nd.a Nd.cs at hst
  simp only at hst
  cases a1 : ((i : Int) == 0) with
  | true =>
    have hi : i = 0 := by have := eq_of_beq a1; omega
    have hx := store_th st ⟨(u8 (trN ns i).th % 6 : Nat), u8 (trN ns i).sl % 64, u8 (trN ns i).so % 64, (trK ns i op : Nat)⟩
    have he : ({ (⟨(u8 (trN ns i).th % 6 : Nat), u8 (trN ns i).sl % 64, u8 (trN ns i).so % 64, (trK ns i op : Nat)⟩ : Nd) with th := 0 } : Nd) = trX ns i op := by unfold trX; rw [if_pos hi]
    rw [he] at hx
    simp only [AVal.undef, sbn, sbn', trS12, trBody, trIn, code, Try.f10, Option.getD_some, Code.fst, Code.snd, Code.inn, aexec, aops, aop, Region.wanted, ayielded, aexecOp, aeval, aput, aseq, ablock, ahint, absOf, flat, nilCheckA, ANext.ofP, evals, evalPs, evalO, aresults, aresults1, aresult, aend, List.getElem?_set, List.length_set, Option.map_some, Option.bind_some, if_true, if_false, ↓reduceIte, Nat.reduceLT, Nat.reduceEqDiff, reduceCtorEq, Bool.false_eq_true, false_and, and_false, and_true, true_and, Nat.reduceAdd, Nat.reduceLeDiff, callA, List.getElem?_toArray, List.getElem?_cons_succ, List.getElem?_cons_zero, sb1, sb2, sb3, sb4, sliceU_i, sliceU_s, sliceU_p, sliceU_l, evalV, t0, t3, t4, t5, t6, t7, tl, f0, f1, f2, l0, l1, l2, cv8, ANext.ofP, b_rem _ _ _ _ _ _ _ (show (6 : Int) ≠ 0 by decide), b_rem _ _ _ _ _ _ _ (show (64 : Int) ≠ 0 by decide), q0, q1, q2, c0, c1, c2, build_n, alloc_n, hst, b_eql, a1, g0, hx]
    exact ⟨_, rfl, ⟨by simp only [List.getElem?_set, List.length_set, Nat.reduceLT, Nat.reduceEqDiff, ↓reduceIte, reduceCtorEq, *], by simp only [List.getElem?_set, List.length_set, Nat.reduceLT, Nat.reduceEqDiff, ↓reduceIte, reduceCtorEq, *], by simp only [List.getElem?_set, List.length_set, Nat.reduceLT, Nat.reduceEqDiff, ↓reduceIte, reduceCtorEq, *], by simp only [List.getElem?_set, List.length_set, Nat.reduceLT, Nat.reduceEqDiff, ↓reduceIte, reduceCtorEq, *], by simp only [List.getElem?_set, List.length_set, Nat.reduceLT, Nat.reduceEqDiff, ↓reduceIte, reduceCtorEq, *]⟩, by simp only [List.getElem?_set, List.length_set, Nat.reduceLT, Nat.reduceEqDiff, ↓reduceIte, reduceCtorEq, *], by simp only [List.getElem?_set, List.length_set, Nat.reduceLT, Nat.reduceEqDiff, ↓reduceIte, reduceCtorEq, *]⟩
  | false =>
    have hi : i ≠ 0 := by intro e; rw [e] at a1; cases a1
    have he : (⟨(u8 (trN ns i).th % 6 : Nat), u8 (trN ns i).sl % 64, u8 (trN ns i).so % 64, (trK ns i op : Nat)⟩ : Nd) = trX ns i op := by unfold trX; rw [if_neg hi]
    rw [he] at hst
    simp only [AVal.undef, sbn, sbn', trS12, trBody, trIn, code, Try.f10, Option.getD_some, Code.fst, Code.snd, Code.inn, aexec, aops, aop, Region.wanted, ayielded, aexecOp, aeval, aput, aseq, ablock, ahint, absOf, flat, nilCheckA, ANext.ofP, evals, evalPs, evalO, aresults, aresults1, aresult, aend, List.getElem?_set, List.length_set, Option.map_some, Option.bind_some, if_true, if_false, ↓reduceIte, Nat.reduceLT, Nat.reduceEqDiff, reduceCtorEq, Bool.false_eq_true, false_and, and_false, and_true, true_and, Nat.reduceAdd, Nat.reduceLeDiff, callA, List.getElem?_toArray, List.getElem?_cons_succ, List.getElem?_cons_zero, sb1, sb2, sb3, sb4, sliceU_i, sliceU_s, sliceU_p, sliceU_l, evalV, t0, t3, t4, t5, t6, t7, tl, f0, f1, f2, l0, l1, l2, cv8, ANext.ofP, b_rem _ _ _ _ _ _ _ (show (6 : Int) ≠ 0 by decide), b_rem _ _ _ _ _ _ _ (show (64 : Int) ≠ 0 by decide), q0, q1, q2, c0, c1, c2, build_n, alloc_n, hst, b_eql, a1]
    exact ⟨_, rfl, ⟨by simp only [List.getElem?_set, List.length_set, Nat.reduceLT, Nat.reduceEqDiff, ↓reduceIte, reduceCtorEq, *], by simp only [List.getElem?_set, List.length_set, Nat.reduceLT, Nat.reduceEqDiff, ↓reduceIte, reduceCtorEq, *], by simp only [List.getElem?_set, List.length_set, Nat.reduceLT, Nat.reduceEqDiff, ↓reduceIte, reduceCtorEq, *], by simp only [List.getElem?_set, List.length_set, Nat.reduceLT, Nat.reduceEqDiff, ↓reduceIte, reduceCtorEq, *], by simp only [List.getElem?_set, List.length_set, Nat.reduceLT, Nat.reduceEqDiff, ↓reduceIte, reduceCtorEq, *]⟩, by simp only [List.getElem?_set, List.length_set, Nat.reduceLT, Nat.reduceEqDiff, ↓reduceIte, reduceCtorEq, *], by simp only [List.getElem?_set, List.length_set, Nat.reduceLT, Nat.reduceEqDiff, ↓reduceIte, reduceCtorEq, *]⟩

theorem tr15 (call : ACall) (dr : Array Oper → Bool) (n : Nat) {v ov : AVal} {out : List Nd} {x : Nd} {i op k s : Nat} {ts : List AVal} {st : ASt} (ho : Out st ov out) (hol : out.length ≤ 1000) (h : TrS v ov i op ts) (hs : st.heap s = some (.cells x.cs)) (t7 : ts[7]? = some (.lit (.int .i64 (k : Nat)))) (t8 : ts[8]? = some (.ptr s 0)) (h0 : 0 < op) (hop : op ≤ 1000) (hk : k ≤ 1000) :
    ∃ ts' st' ov', aexec E 10 call dr n trS15 ts st = some (.normal, ts', st') ∧ TrS v ov' i (op - 1 + k) ts' ∧ Out st' ov' (out ++ [x]) ∧ st.ctr ≤ st'.ctr ∧ ∀ base, Gr base st → Fsh base ov → Gr base st' ∧ Fsh base ov' := by
  obtain ⟨t0, t3, t4, t5, tl⟩ := h
  have hh : ∀ t, E.hint 10 t = (t == 66) := fun t => by
    simp [E]
  have hb65 : (65 == 66) = false := rfl
  have hb66 : (66 == 66) = true := rfl
  obtain ⟨l0, _⟩ := ldN1 hs
  obtain ⟨ov', st', ha, ho', hc, hfr⟩ := out_app (n := x) ho hol
  have hbs : buildSliceA E.P false 26 1 [(0, x.a)] st = some (.islice 4 [x.a] .exact, st) := rfl
  have q1 : IntKind.i64.wrap ((op : Int) - 1) = ((op - 1 : Nat) : Int) := by
    simp [IntKind.wrap, IntKind.bits, IntKind.signed]; omega
  have q2 : IntKind.i64.wrap (((op - 1 : Nat) : Int) + (k : Int)) = ((op - 1 + k : Nat) : Int) := by
    simp [IntKind.wrap, IntKind.bits, IntKind.signed]; omega
  simp only [trS15, trBody, trIn, code, Try.f10, Option.getD_some, Code.fst, Code.snd, Code.inn, aexec, aops, aop, Region.wanted, ayielded, aexecOp, aeval, aput, aseq, ablock, ahint, absOf, flat, nilCheckA, ANext.ofP, evals, evalPs, evalO, aresults, aresults1, aresult, aend, List.getElem?_set, List.length_set, Option.map_some, Option.bind_some, if_true, if_false, ↓reduceIte, Nat.reduceLT, Nat.reduceEqDiff, reduceCtorEq, Bool.false_eq_true, false_and, and_false, and_true, true_and, Nat.reduceAdd, Nat.reduceLeDiff, callA, List.getElem?_toArray, List.getElem?_cons_succ, List.getElem?_cons_zero, sb1, sb2, sb3, sb4, sliceU_i, sliceU_s, sliceU_p, sliceU_l, evalV, hh, hb65, hb66, t0, t3, t4, t5, t7, t8, tl, l0, hbs, b_app, ha, b_sub, q1, b_add, q2]
  exact ⟨_, _, ov', rfl, ⟨by simp only [List.getElem?_set, List.length_set, Nat.reduceLT, Nat.reduceEqDiff, ↓reduceIte, reduceCtorEq, *], by simp only [List.getElem?_set, List.length_set, Nat.reduceLT, Nat.reduceEqDiff, ↓reduceIte, reduceCtorEq, *], by simp only [List.getElem?_set, List.length_set, Nat.reduceLT, Nat.reduceEqDiff, ↓reduceIte, reduceCtorEq, *], by simp only [List.getElem?_set, List.length_set, Nat.reduceLT, Nat.reduceEqDiff, ↓reduceIte, reduceCtorEq, *], by simp only [List.getElem?_set, List.length_set, Nat.reduceLT, Nat.reduceEqDiff, ↓reduceIte, reduceCtorEq, *]⟩, ho', hc, hfr⟩

theorem tr5 (call : ACall) (dr : Array Oper → Bool) (n : Nat) {v ov : AVal} {i op : Nat} {ts : List AVal} {st : ASt} (h : TrS v ov i op ts) (hi : i ≤ 1000) :
    ∃ ts', aexec E 10 call dr n trR5 ts st = some (.normal, ts', st) ∧ TrS v ov (i + 1) op ts' := by
  obtain ⟨t0, t3, t4, t5, tl⟩ := h
  have q1 : IntKind.i64.wrap ((i : Int) + 1) = ((i + 1 : Nat) : Int) := by
    simp [IntKind.wrap, IntKind.bits, IntKind.signed]; omega
  simp only [trR5, trBody, trIn, code, Try.f10, Option.getD_some, Code.fst, Code.snd, Code.inn, aexec, aops, aop, Region.wanted, ayielded, aexecOp, aeval, aput, aseq, ablock, ahint, absOf, flat, nilCheckA, ANext.ofP, evals, evalPs, evalO, aresults, aresults1, aresult, aend, List.getElem?_set, List.length_set, Option.map_some, Option.bind_some, if_true, if_false, ↓reduceIte, Nat.reduceLT, Nat.reduceEqDiff, reduceCtorEq, Bool.false_eq_true, false_and, and_false, and_true, true_and, Nat.reduceAdd, Nat.reduceLeDiff, callA, List.getElem?_toArray, List.getElem?_cons_succ, List.getElem?_cons_zero, sb1, sb2, sb3, sb4, sliceU_i, sliceU_s, sliceU_p, sliceU_l, evalV, t0, t3, t4, t5, tl, b_add, q1]
  exact ⟨_, rfl, ⟨by simp only [List.getElem?_set, List.length_set, Nat.reduceLT, Nat.reduceEqDiff, ↓reduceIte, reduceCtorEq, *], by simp only [List.getElem?_set, List.length_set, Nat.reduceLT, Nat.reduceEqDiff, ↓reduceIte, reduceCtorEq, *], by simp only [List.getElem?_set, List.length_set, Nat.reduceLT, Nat.reduceEqDiff, ↓reduceIte, reduceCtorEq, *], by simp only [List.getElem?_set, List.length_set, Nat.reduceLT, Nat.reduceEqDiff, ↓reduceIte, reduceCtorEq, *], by simp only [List.getElem?_set, List.length_set, Nat.reduceLT, Nat.reduceEqDiff, ↓reduceIte, reduceCtorEq, *]⟩⟩

theorem tr_round (call : ACall) (dr : Array Oper → Bool) (n : Nat) {v ov : AVal} {ns : List N8} {out : List Nd} {i op : Nat} {ts : List AVal} {st : ASt} (hv : NS v ns) (hT : Tr out i op) (ho : Out st ov out) (h : TrS v ov i op ts) :
    (op = 0 → ∃ ts', aexec E 10 call dr n trBody ts st = some (.exit 0, ts', st) ∧ TrS v ov i op ts') ∧
    (0 < op → ∃ ts' st' ov', aexec E 10 call dr n trBody ts st = some (.normal, ts', st') ∧ st.ctr ≤ st'.ctr ∧ Out st' ov' (out ++ [trX ns i op]) ∧ TrS v ov' (i + 1) (op - 1 + trK ns i op) ts' ∧ ∀ base, Gr base st → Fsh base ov → Gr base st' ∧ Fsh base ov') := by
  have hop := hT.hop
  obtain ⟨ts1, e1, h1, d1⟩ := tr4 call dr n (st := st) h (by omega)
  refine ⟨fun h0 => ⟨ts1, ?_, h1⟩, fun h0 => ?_⟩
  · rw [decide_eq_false (by omega)] at d1
    simp only [tr_run, e1, aseq, aexec_cond, aeval, d1, aexec_exit]
  · rw [decide_eq_true h0] at d1
    obtain ⟨ts2, e2, h2, a6⟩ := tr6 call dr n (st := st) hv h1
    obtain ⟨ts3, e3, h3, b6, b7⟩ := tr9 call dr n hv h2 hop (laid8_at st _) a6
    obtain ⟨ts4, e4, h4, c7, c8⟩ := tr12 call dr n h3 (laid8_at st _) b6 b7
    have g1 := laid8_gr st (trN ns i)
    have g2 := laidN_gr (laid8 st (trN ns i)) (trX ns i op)
    have hk := trK_lt ns i op
    obtain ⟨ts5, st5, ov5, e5, h5, ho5, hc5, hf5⟩ := tr15 call dr n (ho.gr (g1.trans g2)) (by have := hT.hi; omega) h4 (laidN_at _ _) c7 c8 h0 (by omega) (by omega)
    obtain ⟨ts6, e6, h6⟩ := tr5 call dr n (st := st5) h5 (by omega)
    refine ⟨ts6, st5, ov5, ?_, Nat.le_trans (g1.trans g2).1 hc5, ho5, h6, fun base hg hf => hf5 base (hg.trans (g1.trans g2)) hf⟩
    simp only [tr_run, e1, aseq, aexec_cond, aeval, d1, aexec_skip, e2, e3, e4, e5, ablock, e6]

noncomputable def trPre : Code := .seq (code Try.f10).fst (.seq (code Try.f10).snd.fst (.seq (code Try.f10).snd.snd.fst (code Try.f10).snd.snd.snd.fst.fst))
noncomputable def trEnd : Code := (code Try.f10).snd.snd.snd.snd
theorem tr_parts (call : ACall) (dr : Array Oper → Bool) (n : Nat) (ts : List AVal) (st : ASt) : aexec E 10 call dr n (code Try.f10) ts st =
    aseq (aexec E 10 call dr n trPre ts st) fun ts st => aseq (ablock 0 (aloop (aexec E 10 call dr n trBody) n ts st)) (aexec E 10 call dr n trEnd) := by
  have e : code Try.f10 = .seq (code Try.f10).fst (.seq (code Try.f10).snd.fst (.seq (code Try.f10).snd.snd.fst (.seq (.seq (code Try.f10).snd.snd.snd.fst.fst (.block 0 (.loop trBody))) trEnd))) := rfl
  rw [e, trPre]
  simp only [aexec_seq, aexec_block, aexec_loop, aseq_assoc]

/-- Tree's plan -/
structure IsTree (l : List Nd) : Prop where
  len : l.length ≤ 40
  pos : 0 < l.length
  ok : ck l 0 1 = (0, 0)
  kd : ∀ n ∈ l, 0 ≤ n.kd ∧ n.kd ≤ 6

theorem tree_run {v : AVal} {ns : List N8} (hv : NS v ns) (st : ASt) : ∃ v' st' l, RetN E 50 10 [v] st v' st' ∧ Out st' v' l ∧ IsTree l ∧ Gr st st' := by
  obtain ⟨ts, et, t0, tl⟩ : ∃ ts : List AVal, ([v] ++ List.replicate (Try.f10.ntmps - [v].length) .undef) = ts ∧ ts[0]? = some v ∧ ts.length = 72 := ⟨_, rfl, rfl, rfl⟩
  have hres : ∀ ts st v, ts[2]? = some v → aresults E Try.f10 ts st = some v := by
    intro ts st v h
    unfold aresults
    simp only [Try.f10, aresults1, aresult, h]
  obtain ⟨ts1, e1, h1⟩ : ∃ ts', aexec E 10 (run E 49) (drawB E 10) 49 trPre ts st = some (.normal, ts', st) ∧ TrS v .nilSlice 0 1 ts' := by
    simp only [trPre, code, Try.f10, Option.getD_some, Code.fst, Code.snd, Code.inn, aexec, aops, aop, Region.wanted, ayielded, aexecOp, aeval, aput, aseq, ablock, ahint, absOf, flat, nilCheckA, ANext.ofP, evals, evalPs, evalO, aresults, aresults1, aresult, aend, List.getElem?_set, List.length_set, Option.map_some, Option.bind_some, if_true, if_false, ↓reduceIte, Nat.reduceLT, Nat.reduceEqDiff, reduceCtorEq, Bool.false_eq_true, false_and, and_false, and_true, true_and, Nat.reduceAdd, Nat.reduceLeDiff, callA, List.getElem?_toArray, List.getElem?_cons_succ, List.getElem?_cons_zero, sb1, sb2, sb3, sb4, sliceU_i, sliceU_s, sliceU_p, sliceU_l, evalV, t0, tl]
    exact ⟨_, rfl, ⟨by simp only [List.getElem?_set, List.length_set, Nat.reduceLT, Nat.reduceEqDiff, ↓reduceIte, reduceCtorEq, *], by simp only [List.getElem?_set, List.length_set, Nat.reduceLT, Nat.reduceEqDiff, ↓reduceIte, reduceCtorEq, *]; rfl, by simp only [List.getElem?_set, List.length_set, Nat.reduceLT, Nat.reduceEqDiff, ↓reduceIte, reduceCtorEq, *]; rfl, by simp only [List.getElem?_set, List.length_set, Nat.reduceLT, Nat.reduceEqDiff, ↓reduceIte, reduceCtorEq, *]; rfl, by simp only [List.getElem?_set, List.length_set, Nat.reduceLT, Nat.reduceEqDiff, ↓reduceIte, reduceCtorEq, *]⟩⟩
  have key := aloop_rule (b := aexec E 10 (run E 49) (drawB E 10) 49 trBody)
    (I := fun k ts s => Gr st s ∧ ∃ i op ov out, Fsh st ov ∧ k + i = 41 ∧ Tr out i op ∧ Out s ov out ∧ TrS v ov i op ts ∧ (0 < i ∨ 0 < op))
    (Q := fun e ts' s => Gr st s ∧ e = .exit 0 ∧ ∃ i ov out, Tr out i 0 ∧ Out s ov out ∧ TrS v ov i 0 ts' ∧ 0 < i)
    (step := by
      rintro k ts2 s ⟨hg, i, op, ov, out, hfs, hi, hT, ho, hI, hp⟩
      have hr := tr_round (run E 49) (drawB E 10) 49 hv hT ho hI
      have hop := hT.hop
      by_cases h0 : op = 0
      · obtain ⟨ts', e, h'⟩ := hr.1 h0
        subst h0
        exact .inr ⟨_, ts', _, e, by simp, hg, rfl, i, ov, out, hT, ho, h', by omega⟩
      · obtain ⟨ts', st', ov', e, hc, ho', h', hfr⟩ := hr.2 (by omega)
        obtain ⟨hg', hfs'⟩ := hfr st hg hfs
        exact .inl ⟨ts', st', e, k - 1, by omega, hg', i + 1, _, ov', _, hfs', by omega, hT.step (ns := ns) (by omega), ho', h', .inl (by omega)⟩)
    49 41 ts1 st ⟨Gr.refl _, 0, 1, .nilSlice, [], fun s o n z c e => (by cases e), by omega, Tr.init, .inl ⟨rfl, rfl⟩, h1, .inr (by decide)⟩ (by omega)
  obtain ⟨e, ts2, st2, e2, hg, rfl, i, ov, out, hT, ho, h2, hi⟩ := key
  obtain ⟨ts3, e3, a2⟩ : ∃ ts', aexec E 10 (run E 49) (drawB E 10) 49 trEnd ts2 st2 = some (.ret, ts', st2) ∧ ts'[2]? = some ov := by
    obtain ⟨u0, u3, u4, u5, ul⟩ := h2
    simp only [trEnd, code, Try.f10, Option.getD_some, Code.fst, Code.snd, Code.inn, aexec, aops, aop, Region.wanted, ayielded, aexecOp, aeval, aput, aseq, ablock, ahint, absOf, flat, nilCheckA, ANext.ofP, evals, evalPs, evalO, aresults, aresults1, aresult, aend, List.getElem?_set, List.length_set, Option.map_some, Option.bind_some, if_true, if_false, ↓reduceIte, Nat.reduceLT, Nat.reduceEqDiff, reduceCtorEq, Bool.false_eq_true, false_and, and_false, and_true, true_and, Nat.reduceAdd, Nat.reduceLeDiff, callA, List.getElem?_toArray, List.getElem?_cons_succ, List.getElem?_cons_zero, sb1, sb2, sb3, sb4, sliceU_i, sliceU_s, sliceU_p, sliceU_l, evalV, u3, ul]
    exact ⟨_, rfl, by simp only [List.getElem?_set, List.length_set, Nat.reduceLT, Nat.reduceEqDiff, ↓reduceIte, reduceCtorEq, *]⟩
  refine ⟨ov, st2, out, RetN.of (n := 49 + 1) ?_, ho, ⟨by have := hT.hi; have := hT.hop; omega, by have := hT.hi; omega, ?_, hT.hkd⟩, hg⟩
  · rw [run_code (fn := Try.f10) rfl rfl, et, tr_parts]
    simp only [e1, aseq, e2, ablock, if_true, e3, aend, hres _ _ _ a2, Option.map_some]
  · have := hT.hck []
    rw [List.append_nil] at this
    rw [this]; rfl

end Go.Proofs.YtnndngoanknemaaV
