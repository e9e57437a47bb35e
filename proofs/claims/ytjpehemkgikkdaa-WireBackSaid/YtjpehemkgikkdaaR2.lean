/- A reader's contracts: At, Err, Left, fail. No condition. -/
import Derived.Test.YtjpehemkgikkdaaD1
namespace Go.Proofs.YtjpehemkgikkdaaV
open Go Go.RowKit Go.Proofs.YtjpehemkgikkdaaA
set_option linter.unusedVariables false
set_option linter.unusedSimpArgs false
set_option maxRecDepth 100000

theorem fld84 (s : Nat) : fieldA E.P 84 (.ptr s 0) 0 = some (.ptr s 0) ∧ fieldA E.P 84 (.ptr s 0) 1 = some (.ptr s 1) ∧ fieldA E.P 84 (.ptr s 0) 2 = some (.ptr s 2) := ⟨rfl, rfl, rfl⟩

theorem ld_r {st : ASt} {s : Nat} {v : AVal} {l : List UInt8} {p e : Nat} (h : RAt st s v l p e) : loadA E.P 24 st (.ptr s 0) = some v ∧ loadA E.P 3 st (.ptr s 1) = some (.lit (.int .i64 p)) ∧ loadA E.P 46 st (.ptr s 2) = some (.lit (.int .i64 e)) := by
  have a0 : loadA E.P 24 st (.ptr s 0) = (match st.heap s with | some (.cells cs) => cs[0]? | _ => none) := rfl
  have a1 : loadA E.P 3 st (.ptr s 1) = (match st.heap s with | some (.cells cs) => cs[1]? | _ => none) := rfl
  have a2 : loadA E.P 46 st (.ptr s 2) = (match st.heap s with | some (.cells cs) => cs[2]? | _ => none) := rfl
  rw [a0, a1, a2, h.2.1]
  exact ⟨rfl, rfl, rfl⟩

/-- the state behind a reader's numbers set -/
def rset (st : ASt) (s : Nat) (v : AVal) (p e : Nat) : ASt := st.set s (some (.cells [v, .lit (.int .i64 p), .lit (.int .i64 e)]))

theorem rset_at {st : ASt} {s : Nat} {v : AVal} {l : List UInt8} {p e : Nat} (h : RAt st s v l p e) (p' e' : Nat) : RAt (rset st s v p' e') s v l p' e' :=
  ⟨h.1, by simp [rset, ASt.set], h.2.2⟩

theorem st_r {st : ASt} {s : Nat} {v : AVal} {l : List UInt8} {p e : Nat} (h : RAt st s v l p e) (n : Nat) :
    storeA E.P 3 st (.ptr s 1) (.lit (.int .i64 n)) = some (rset st s v n e) ∧ storeA E.P 46 st (.ptr s 2) (.lit (.int .i64 n)) = some (rset st s v p n) := by
  have a1 : storeA E.P 3 st (.ptr s 1) (.lit (.int .i64 n)) = (match st.heap s with | some (.cells cs) => if some 1 = some 1 ∧ 1 + 1 ≤ cs.length ∧ true = true then some (st.set s (some (.cells (cs.set 1 (.lit (.int .i64 n)))))) else none | _ => none) := rfl
  have a2 : storeA E.P 46 st (.ptr s 2) (.lit (.int .i64 n)) = (match st.heap s with | some (.cells cs) => if some 1 = some 1 ∧ 2 + 1 ≤ cs.length ∧ true = true then some (st.set s (some (.cells (cs.set 2 (.lit (.int .i64 n)))))) else none | _ => none) := rfl
  rw [a1, a2, h.2.1]
  exact ⟨rfl, rfl⟩

theorem at_run {st : ASt} {s : Nat} {v : AVal} {l : List UInt8} {p e : Nat} (h : RAt st s v l p e) : RetN E 1 38 [.ptr s 0] st (.lit (.int .i64 p)) st := by
  refine RetN.of (n := 0 + 1) ?_
  rw [run_code (fn := Try.f38) rfl rfl]
  have hh : ∀ t, E.hint 38 t = false := fun _ => rfl
  obtain ⟨ts, et, t0, tl⟩ : ∃ ts : List AVal, ([AVal.ptr s 0] ++ List.replicate (Try.f38.ntmps - [AVal.ptr s 0].length) .undef) = ts ∧ ts[0]? = some (.ptr s 0) ∧ ts.length = 7 := ⟨_, rfl, rfl, rfl⟩
  rw [et]
  simp only [code, Try.f38, Option.getD_some, aexec, aops, aop, Region.wanted, ayielded, aexecOp, aeval, aput, aseq, ablock, ahint, absOf, flat, nilCheckA, ANext.ofP, evals, evalPs, evalO, aresults, aresults1, aresult, aend, List.getElem?_set, List.length_set, Option.map_some, Option.bind_some, if_true, if_false, ↓reduceIte, Nat.reduceLT, Nat.reduceEqDiff, reduceCtorEq, Bool.false_eq_true, false_and, and_false, and_true, true_and, Nat.reduceAdd, Nat.reduceLeDiff, callA, List.getElem?_toArray, List.getElem?_cons_succ, List.getElem?_cons_zero, sb1, sb2, sb3, sb4, t0, tl, hh, (fld84 s).2.1, (ld_r h).2.1]

theorem err_run {st : ASt} {s : Nat} {v : AVal} {l : List UInt8} {p e : Nat} (h : RAt st s v l p e) : RetN E 1 37 [.ptr s 0] st (.lit (.int .i64 e)) st := by
  refine RetN.of (n := 0 + 1) ?_
  rw [run_code (fn := Try.f37) rfl rfl]
  have hh : ∀ t, E.hint 37 t = false := fun _ => rfl
  obtain ⟨ts, et, t0, tl⟩ : ∃ ts : List AVal, ([AVal.ptr s 0] ++ List.replicate (Try.f37.ntmps - [AVal.ptr s 0].length) .undef) = ts ∧ ts[0]? = some (.ptr s 0) ∧ ts.length = 7 := ⟨_, rfl, rfl, rfl⟩
  rw [et]
  simp only [code, Try.f37, Option.getD_some, aexec, aops, aop, Region.wanted, ayielded, aexecOp, aeval, aput, aseq, ablock, ahint, absOf, flat, nilCheckA, ANext.ofP, evals, evalPs, evalO, aresults, aresults1, aresult, aend, List.getElem?_set, List.length_set, Option.map_some, Option.bind_some, if_true, if_false, ↓reduceIte, Nat.reduceLT, Nat.reduceEqDiff, reduceCtorEq, Bool.false_eq_true, false_and, and_false, and_true, true_and, Nat.reduceAdd, Nat.reduceLeDiff, callA, List.getElem?_toArray, List.getElem?_cons_succ, List.getElem?_cons_zero, sb1, sb2, sb3, sb4, t0, tl, hh, (fld84 s).2.2, (ld_r h).2.2]

theorem left_run {st : ASt} {s : Nat} {v : AVal} {l : List UInt8} {p e : Nat} (h : RAt st s v l p e) (hp : p ≤ l.length) (hl : l.length ≤ 1000000) : RetN E 1 36 [.ptr s 0] st (.lit (.int .i64 (l.length - p : Nat))) st := by
  refine RetN.of (n := 0 + 1) ?_
  rw [run_code (fn := Try.f36) rfl rfl]
  have hh : ∀ t, E.hint 36 t = false := fun _ => rfl
  have hdr : drawB E 36 ((code Try.f36).snd.fst.ops) = true := by kernel_rfl
  simp only [code, Try.f36, Option.getD_some, Code.fst, Code.snd, Code.inn, Code.ops] at hdr
  have hw : IntKind.i64.wrap ((l.length : Int) - (p : Int)) = ((l.length - p : Nat) : Int) := by
    simp [IntKind.wrap, IntKind.bits, IntKind.signed]; omega
  obtain ⟨ts, et, t0, tl⟩ : ∃ ts : List AVal, ([AVal.ptr s 0] ++ List.replicate (Try.f36.ntmps - [AVal.ptr s 0].length) .undef) = ts ∧ ts[0]? = some (.ptr s 0) ∧ ts.length = 13 := ⟨_, rfl, rfl, rfl⟩
  rw [et]
  simp only [code, Try.f36, Option.getD_some, aexec, aops, aop, Region.wanted, ayielded, aexecOp, aeval, aput, aseq, ablock, ahint, absOf, flat, nilCheckA, ANext.ofP, evals, evalPs, evalO, aresults, aresults1, aresult, aend, List.getElem?_set, List.length_set, Option.map_some, Option.bind_some, if_true, if_false, ↓reduceIte, Nat.reduceLT, Nat.reduceEqDiff, reduceCtorEq, Bool.false_eq_true, false_and, and_false, and_true, true_and, Nat.reduceAdd, Nat.reduceLeDiff, callA, List.getElem?_toArray, List.getElem?_cons_succ, List.getElem?_cons_zero, sb1, sb2, sb3, sb4, t0, tl, hh, hdr, (fld84 s).1, (fld84 s).2.1, (ld_r h).1, (ld_r h).2.1, len_b (.inl h.2.2), b_sub, hw]

theorem fail_run {st : ASt} {s : Nat} {v : AVal} {l : List UInt8} {p e f : Nat} (h : RAt st s v l p e) : RetN E 1 46 [.ptr s 0, .lit (.int .i64 f)] st (.tuple []) (if e = 0 then rset st s v p f else st) := by
  refine RetN.of (n := 0 + 1) ?_
  rw [run_code (fn := Try.f46) rfl rfl]
  have hh : ∀ t, E.hint 46 t = false := fun _ => rfl
  obtain ⟨ts, et, t0, t1, tl⟩ : ∃ ts : List AVal, ([AVal.ptr s 0, .lit (.int .i64 f)] ++ List.replicate (Try.f46.ntmps - [AVal.ptr s 0, .lit (.int .i64 f)].length) .undef) = ts ∧ ts[0]? = some (.ptr s 0) ∧ ts[1]? = some (.lit (.int .i64 f)) ∧ ts.length = 13 := ⟨_, rfl, rfl, rfl, rfl⟩
  rw [et]
  by_cases he : e = 0
  · have hd : (((e : Nat) : Int) == 0) = true := by subst he; rfl
    rw [if_pos he]
    simp only [code, Try.f46, Option.getD_some, aexec, aops, aop, Region.wanted, ayielded, aexecOp, aeval, aput, aseq, ablock, ahint, absOf, flat, nilCheckA, ANext.ofP, evals, evalPs, evalO, aresults, aresults1, aresult, aend, List.getElem?_set, List.length_set, Option.map_some, Option.bind_some, if_true, if_false, ↓reduceIte, Nat.reduceLT, Nat.reduceEqDiff, reduceCtorEq, Bool.false_eq_true, false_and, and_false, and_true, true_and, Nat.reduceAdd, Nat.reduceLeDiff, callA, List.getElem?_toArray, List.getElem?_cons_succ, List.getElem?_cons_zero, sb1, sb2, sb3, sb4, t0, t1, tl, hh, (fld84 s).2.2, (ld_r h).2.2, b_eql, hd, (st_r h f).2]
  · have hd : (((e : Nat) : Int) == 0) = false := by rw [beq_eq_false_iff_ne]; omega
    rw [if_neg he]
    simp only [code, Try.f46, Option.getD_some, aexec, aops, aop, Region.wanted, ayielded, aexecOp, aeval, aput, aseq, ablock, ahint, absOf, flat, nilCheckA, ANext.ofP, evals, evalPs, evalO, aresults, aresults1, aresult, aend, List.getElem?_set, List.length_set, Option.map_some, Option.bind_some, if_true, if_false, ↓reduceIte, Nat.reduceLT, Nat.reduceEqDiff, reduceCtorEq, Bool.false_eq_true, false_and, and_false, and_true, true_and, Nat.reduceAdd, Nat.reduceLeDiff, callA, List.getElem?_toArray, List.getElem?_cons_succ, List.getElem?_cons_zero, sb1, sb2, sb3, sb4, t0, t1, tl, hh, (fld84 s).2.2, (ld_r h).2.2, b_eql, hd]

end Go.Proofs.YtjpehemkgikkdaaV
