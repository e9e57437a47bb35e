/- The table's contract, its end. No condition. -/
import Derived.Test.YtjpehemkgikkdaaV6
namespace Go.Proofs.YtjpehemkgikkdaaV
open Go Go.RowKit Go.Proofs.YtjpehemkgikkdaaA
set_option linter.unusedVariables false
set_option linter.unusedSimpArgs false
set_option maxRecDepth 100000


/-- the table, as far as it is made -/
def tabC (i : Nat) : List AVal := (List.range 256).map fun j => .lit (.int .u32 (if j < i then (tabN j : Int) else 0))

theorem tabC_len (i : Nat) : (tabC i).length = 256 := by simp [tabC]
theorem tabC_set {i : Nat} (h : i < 256) : (tabC i).set i (.lit (.int .u32 (tabN i : Nat))) = tabC (i + 1) := by
  apply List.ext_getElem
  · simp [tabC]
  · intro j h1 h2
    rw [List.getElem_set]
    simp only [tabC, List.getElem_map, List.getElem_range]
    by_cases e : i = j
    · subst e; simp
    · rw [if_neg e]
      by_cases hj : j < i
      · rw [if_pos hj, if_pos (by omega)]
      · rw [if_neg hj, if_neg (by omega)]

theorem tabC_all : tabC 256 = (List.range 256).map fun j => AVal.lit (.int .u32 (tabN j)) := by
  unfold tabC
  apply List.map_congr_left
  intro j hj
  rw [if_pos (List.mem_range.1 hj)]

theorem idx_arr {s : Nat} {i : Nat} (h : i < 256) (k : IntKind) : indexA E.P 77 (.ptr s 0) (.lit (.int k i)) = some (.ptr s i) := by
  have : indexA E.P 77 (.ptr s 0) (.lit (.int k i)) = if 0 ≤ (i : Int) ∧ (i : Int) < (256 : Nat) then some (.ptr s (0 + (i : Int).toNat * 1)) else none := rfl
  rw [this, if_pos ⟨by omega, by omega⟩]
  simp

theorem store_cell {st : ASt} {s i : Nat} {cs : List AVal} (hs : st.heap s = some (.cells cs)) (hi : i < cs.length) (n : Int) :
    storeA E.P 38 st (.ptr s i) (.lit (.int .u32 n)) = some (st.set s (some (.cells (cs.set i (.lit (.int .u32 n)))))) := by
  have : storeA E.P 38 st (.ptr s i) (.lit (.int .u32 n)) = (match st.heap s with
    | some (.cells cs) => if some 1 = some 1 ∧ i + 1 ≤ cs.length ∧ true = true then some (st.set s (some (.cells (cs.set i (.lit (.int .u32 n)))))) else none
    | _ => none) := rfl
  rw [this, hs]
  simp only
  rw [if_pos ⟨trivial, by omega, trivial⟩]

theorem tb_alloc (st : ASt) : allocA E.P 77 st = some (.ptr st.ctr 0, st.new (.cells (tabC 0))) := by
  have : allocA E.P 77 st = some (.ptr st.ctr 0, st.new (.cells (List.replicate 256 (.lit (.int .u32 0))))) := rfl
  rw [this]
  have e : tabC 0 = List.replicate 256 (.lit (.int .u32 0)) := by
    rw [List.eq_replicate_iff]
    refine ⟨tabC_len 0, fun b hb => ?_⟩
    obtain ⟨j, _, rfl⟩ := List.mem_map.1 hb
    simp
  rw [e]

theorem tb_head (call : ACall) (dr : Array Oper → Bool) (n : Nat) {i s0 s1 : Nat} {st : ASt} {ts : List AVal} (h0 : ts[0]? = some (.ptr s0 0)) (h1 : ts[1]? = some (.ptr s1 0)) (h4 : ts[4]? = some (.lit (.int .i64 i))) (hl : ts.length = 25) :
    (i = 256 → ∃ ts', aexec E 43 call dr n tbHead ts st = some (.exit 0, ts', st) ∧ ts'[0]? = ts[0]? ∧ ts'[1]? = ts[1]? ∧ ts'.length = 25) ∧
    (i < 256 → ∃ ts', aexec E 43 call dr n tbHead ts st = some (.normal, ts', st) ∧ ts'[0]? = ts[0]? ∧ ts'[1]? = ts[1]? ∧ ts'[4]? = ts[4]? ∧ ts'.length = 25) := by
  have hh : ∀ t, E.hint 43 t = false := fun _ => rfl
  refine ⟨fun hk => ?_, fun hk => ?_⟩
  · have hd : decide ((i : Int) < 256) = false := by simp; omega
    simp only [tbHead, tbOut, code, Try.f43, Option.getD_some, Code.fst, Code.snd, Code.inn, aexec, aops, aop, Region.wanted, ayielded, aexecOp, aeval, aput, aseq, ablock, ahint, absOf, flat, nilCheckA, ANext.ofP, evals, evalPs, evalO, aresults, aresults1, aresult, aend, List.getElem?_set, List.length_set, Option.map_some, Option.bind_some, if_true, if_false, ↓reduceIte, Nat.reduceLT, Nat.reduceEqDiff, reduceCtorEq, Bool.false_eq_true, false_and, and_false, and_true, true_and, Nat.reduceAdd, Nat.reduceLeDiff, callA, List.getElem?_toArray, List.getElem?_cons_succ, List.getElem?_cons_zero, sb1, sb2, sb3, sb4, h0, h1, h4, hl, hh, b_lss, hd]
    exact ⟨_, rfl, by simp only [List.getElem?_set, List.length_set, Nat.reduceLT, Nat.reduceEqDiff, ↓reduceIte, reduceCtorEq, *], by simp only [List.getElem?_set, List.length_set, Nat.reduceLT, Nat.reduceEqDiff, ↓reduceIte, reduceCtorEq, *], by simp only [List.getElem?_set, List.length_set, Nat.reduceLT, Nat.reduceEqDiff, ↓reduceIte, reduceCtorEq, *]⟩
  · have hd : decide ((i : Int) < 256) = true := by simp; omega
    simp only [tbHead, tbOut, code, Try.f43, Option.getD_some, Code.fst, Code.snd, Code.inn, aexec, aops, aop, Region.wanted, ayielded, aexecOp, aeval, aput, aseq, ablock, ahint, absOf, flat, nilCheckA, ANext.ofP, evals, evalPs, evalO, aresults, aresults1, aresult, aend, List.getElem?_set, List.length_set, Option.map_some, Option.bind_some, if_true, if_false, ↓reduceIte, Nat.reduceLT, Nat.reduceEqDiff, reduceCtorEq, Bool.false_eq_true, false_and, and_false, and_true, true_and, Nat.reduceAdd, Nat.reduceLeDiff, callA, List.getElem?_toArray, List.getElem?_cons_succ, List.getElem?_cons_zero, sb1, sb2, sb3, sb4, h0, h1, h4, hl, hh, b_lss, hd]
    exact ⟨_, rfl, by simp only [List.getElem?_set, List.length_set, Nat.reduceLT, Nat.reduceEqDiff, ↓reduceIte, reduceCtorEq, *], by simp only [List.getElem?_set, List.length_set, Nat.reduceLT, Nat.reduceEqDiff, ↓reduceIte, reduceCtorEq, *], by simp only [List.getElem?_set, List.length_set, Nat.reduceLT, Nat.reduceEqDiff, ↓reduceIte, reduceCtorEq, *], by simp only [List.getElem?_set, List.length_set, Nat.reduceLT, Nat.reduceEqDiff, ↓reduceIte, reduceCtorEq, *]⟩

theorem u3 : E.P.underlying 3 = some (.int .i64) := rfl
theorem u38 : E.P.underlying 38 = some (.int .u32) := rfl

theorem tb_mid (call : ACall) (dr : Array Oper → Bool) (n : Nat) {i s0 s1 : Nat} {st : ASt} {ts : List AVal} (h0 : ts[0]? = some (.ptr s0 0)) (h1 : ts[1]? = some (.ptr s1 0)) (h4 : ts[4]? = some (.lit (.int .i64 i))) (hl : ts.length = 25) (hi : i < 256) :
    ∃ ts', aexec E 43 call dr n tbMid ts st = some (.normal, ts', st) ∧ ts'[0]? = ts[0]? ∧ ts'[1]? = ts[1]? ∧ ts'[2]? = some (.lit (.int .i64 i)) ∧ ts'[3]? = some (.lit (.int .u32 i)) ∧ ts'[4]? = ts[4]? ∧ ts'[9]? = some (.lit (.int .i64 (0 : Nat))) ∧ ts'.length = 25 := by
  have hh : ∀ t, E.hint 43 t = false := fun _ => rfl
  have hc := c_int (mt := false) (st := st) (k := .i64) (n := (i : Int)) u3 u38
  rw [wrap_u rfl (by simp only [IntKind.bits]; omega)] at hc
  simp only [tbMid, tbOut, code, Try.f43, Option.getD_some, Code.fst, Code.snd, Code.inn, aexec, aops, aop, Region.wanted, ayielded, aexecOp, aeval, aput, aseq, ablock, ahint, absOf, flat, nilCheckA, ANext.ofP, evals, evalPs, evalO, aresults, aresults1, aresult, aend, List.getElem?_set, List.length_set, Option.map_some, Option.bind_some, if_true, if_false, ↓reduceIte, Nat.reduceLT, Nat.reduceEqDiff, reduceCtorEq, Bool.false_eq_true, false_and, and_false, and_true, true_and, Nat.reduceAdd, Nat.reduceLeDiff, callA, List.getElem?_toArray, List.getElem?_cons_succ, List.getElem?_cons_zero, sb1, sb2, sb3, sb4, h0, h1, h4, hl, hh, hc]
  exact ⟨_, rfl, by simp only [List.getElem?_set, List.length_set, Nat.reduceLT, Nat.reduceEqDiff, ↓reduceIte, reduceCtorEq, *], by simp only [List.getElem?_set, List.length_set, Nat.reduceLT, Nat.reduceEqDiff, ↓reduceIte, reduceCtorEq, *], by simp only [List.getElem?_set, List.length_set, Nat.reduceLT, Nat.reduceEqDiff, ↓reduceIte, reduceCtorEq, *], by simp only [List.getElem?_set, List.length_set, Nat.reduceLT, Nat.reduceEqDiff, ↓reduceIte, reduceCtorEq, *], by simp only [List.getElem?_set, List.length_set, Nat.reduceLT, Nat.reduceEqDiff, ↓reduceIte, reduceCtorEq, *], by simp only [List.getElem?_set, List.length_set, Nat.reduceLT, Nat.reduceEqDiff, ↓reduceIte, reduceCtorEq, *]; rfl, by simp only [List.getElem?_set, List.length_set, Nat.reduceLT, Nat.reduceEqDiff, ↓reduceIte, reduceCtorEq, *]⟩

theorem tb_put (call : ACall) (dr : Array Oper → Bool) (n : Nat) {i s0 s1 : Nat} {st : ASt} {ts : List AVal} (h0 : ts[0]? = some (.ptr s0 0)) (h1 : ts[1]? = some (.ptr s1 0)) (h2 : ts[2]? = some (.lit (.int .i64 i))) (h3 : ts[3]? = some (.lit (.int .u32 (tabN i : Nat)))) (hl : ts.length = 25) (hi : i < 256)
    (hs : st.heap s1 = some (.cells (tabC i))) :
    ∃ ts', aexec E 43 call dr n tbPut ts st = some (.normal, ts', st.set s1 (some (.cells (tabC (i + 1))))) ∧ ts'[0]? = ts[0]? ∧ ts'[1]? = ts[1]? ∧ ts'[4]? = ts[4]? ∧ ts'.length = 25 := by
  have hh : ∀ t, E.hint 43 t = false := fun _ => rfl
  have hx := store_cell hs (by rw [tabC_len]; exact hi) (tabN i : Nat)
  rw [tabC_set hi] at hx
  simp only [tbPut, tbOut, code, Try.f43, Option.getD_some, Code.fst, Code.snd, Code.inn, aexec, aops, aop, Region.wanted, ayielded, aexecOp, aeval, aput, aseq, ablock, ahint, absOf, flat, nilCheckA, ANext.ofP, evals, evalPs, evalO, aresults, aresults1, aresult, aend, List.getElem?_set, List.length_set, Option.map_some, Option.bind_some, if_true, if_false, ↓reduceIte, Nat.reduceLT, Nat.reduceEqDiff, reduceCtorEq, Bool.false_eq_true, false_and, and_false, and_true, true_and, Nat.reduceAdd, Nat.reduceLeDiff, callA, List.getElem?_toArray, List.getElem?_cons_succ, List.getElem?_cons_zero, sb1, sb2, sb3, sb4, h0, h1, h2, h3, hl, hh, idx_arr hi, hx]
  exact ⟨_, rfl, by simp only [List.getElem?_set, List.length_set, Nat.reduceLT, Nat.reduceEqDiff, ↓reduceIte, reduceCtorEq, *], by simp only [List.getElem?_set, List.length_set, Nat.reduceLT, Nat.reduceEqDiff, ↓reduceIte, reduceCtorEq, *], by simp only [List.getElem?_set, List.length_set, Nat.reduceLT, Nat.reduceEqDiff, ↓reduceIte, reduceCtorEq, *], by simp only [List.getElem?_set, List.length_set, Nat.reduceLT, Nat.reduceEqDiff, ↓reduceIte, reduceCtorEq, *]⟩

theorem tb_inc (call : ACall) (dr : Array Oper → Bool) (n : Nat) {i s0 s1 : Nat} {st : ASt} {ts : List AVal} (h4 : ts[4]? = some (.lit (.int .i64 i))) (hl : ts.length = 25) (hi : i < 256) :
    ∃ ts', aexec E 43 call dr n tbInc ts st = some (.normal, ts', st) ∧ ts'[0]? = ts[0]? ∧ ts'[1]? = ts[1]? ∧ ts'[4]? = some (.lit (.int .i64 (i + 1 : Nat))) ∧ ts'.length = 25 := by
  have hh : ∀ t, E.hint 43 t = false := fun _ => rfl
  have hw : IntKind.i64.wrap ((i : Int) + 1) = ((i + 1 : Nat) : Int) := by
    simp [IntKind.wrap, IntKind.bits, IntKind.signed]; omega
  simp only [tbInc, tbOut, code, Try.f43, Option.getD_some, Code.fst, Code.snd, Code.inn, aexec, aops, aop, Region.wanted, ayielded, aexecOp, aeval, aput, aseq, ablock, ahint, absOf, flat, nilCheckA, ANext.ofP, evals, evalPs, evalO, aresults, aresults1, aresult, aend, List.getElem?_set, List.length_set, Option.map_some, Option.bind_some, if_true, if_false, ↓reduceIte, Nat.reduceLT, Nat.reduceEqDiff, reduceCtorEq, Bool.false_eq_true, false_and, and_false, and_true, true_and, Nat.reduceAdd, Nat.reduceLeDiff, callA, List.getElem?_toArray, List.getElem?_cons_succ, List.getElem?_cons_zero, sb1, sb2, sb3, sb4, h4, hl, hh, b_add, hw]
  exact ⟨_, rfl, by simp only [List.getElem?_set, List.length_set, Nat.reduceLT, Nat.reduceEqDiff, ↓reduceIte, reduceCtorEq, *], by simp only [List.getElem?_set, List.length_set, Nat.reduceLT, Nat.reduceEqDiff, ↓reduceIte, reduceCtorEq, *], by simp only [List.getElem?_set, List.length_set, Nat.reduceLT, Nat.reduceEqDiff, ↓reduceIte, reduceCtorEq, *], by simp only [List.getElem?_set, List.length_set, Nat.reduceLT, Nat.reduceEqDiff, ↓reduceIte, reduceCtorEq, *]⟩

theorem tb_out_eq : tbOut = .seq tbOut.fst (.seq tbOut.snd.fst (.seq (.block 1 (.seq tbOut.snd.snd.fst.inn.fst (.seq tbOut.snd.snd.fst.inn.snd.fst (.seq (.seq tbOut.snd.snd.fst.inn.snd.snd.fst.fst (.block 2 (.loop tbIn))) tbPut)))) tbInc)) := rfl

theorem tb_out_parts (call : ACall) (dr : Array Oper → Bool) (n : Nat) (ts : List AVal) (st : ASt) : aexec E 43 call dr n tbOut ts st =
    aseq (aexec E 43 call dr n tbHead ts st) fun ts st => aseq (ablock 1 (aseq (aexec E 43 call dr n tbMid ts st) fun ts st => aseq (ablock 2 (aloop (aexec E 43 call dr n tbIn) n ts st)) (aexec E 43 call dr n tbPut))) (aexec E 43 call dr n tbInc) := by
  rw [tb_out_eq, tbHead, tbMid]
  simp only [aexec_seq, aexec_block, aexec_loop, aseq_assoc]

theorem tb_out (call : ACall) (dr : Array Oper → Bool) (n : Nat) (hn : 8 < n) {i s0 s1 : Nat} {st : ASt} {ts : List AVal} (h0 : ts[0]? = some (.ptr s0 0)) (h1 : ts[1]? = some (.ptr s1 0)) (h4 : ts[4]? = some (.lit (.int .i64 i))) (hl : ts.length = 25)
    (hs : st.heap s1 = some (.cells (tabC i))) :
    (i = 256 → ∃ ts', aexec E 43 call dr n tbOut ts st = some (.exit 0, ts', st) ∧ ts'[0]? = ts[0]? ∧ ts'[1]? = ts[1]? ∧ ts'.length = 25) ∧
    (i < 256 → ∃ ts', aexec E 43 call dr n tbOut ts st = some (.normal, ts', st.set s1 (some (.cells (tabC (i + 1))))) ∧ ts'[0]? = ts[0]? ∧ ts'[1]? = ts[1]? ∧ ts'[4]? = some (.lit (.int .i64 (i + 1 : Nat))) ∧ ts'.length = 25) := by
  rw [tb_out_parts]
  refine ⟨fun hi => ?_, fun hi => ?_⟩
  · obtain ⟨ts1, e1, a0, a1, al⟩ := (tb_head call dr n (st := st) h0 h1 h4 hl).1 hi
    exact ⟨ts1, by rw [e1]; rfl, a0, a1, al⟩
  · obtain ⟨ts1, e1, a0, a1, a4, al⟩ := (tb_head call dr n (st := st) h0 h1 h4 hl).2 hi
    obtain ⟨ts2, e2, b0, b1, b2, b3, b4, b9, bl⟩ := tb_mid call dr n (st := st) (by rw [a0, h0]) (by rw [a1, h1]) (by rw [a4, h4]) al hi
    obtain ⟨ts3, e3, c3, cl, c0, c1, c2, c4⟩ := tb_loop call dr n (st := st) b3 b9 bl (by omega) hn
    obtain ⟨ts4, e4, d0, d1, d4, dl⟩ := tb_put call dr n (st := st) (by rw [c0, b0, a0, h0]) (by rw [c1, b1, a1, h1]) (by rw [c2, b2]) c3 cl hi hs
    obtain ⟨ts5, e5, f0, f1, f4, fl⟩ := tb_inc call dr n (s0 := s0) (s1 := s1) (st := st.set s1 (some (.cells (tabC (i + 1))))) (by rw [d4, c4, b4, a4, h4]) dl hi
    refine ⟨ts5, ?_, by rw [f0, d0, c0, b0, a0], by rw [f1, d1, c1, b1, a1], f4, fl⟩
    simp only [e1, aseq, e2, e3, ablock, if_true, e4, e5]

end Go.Proofs.YtjpehemkgikkdaaV
