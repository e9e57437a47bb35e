/- A reader's Num, whole. No condition. -/
import Derived.Test.YtjpehemkgikkdaaR7
namespace Go.Proofs.YtjpehemkgikkdaaV
open Go Go.RowKit Go.Proofs.YtjpehemkgikkdaaA
set_option linter.unusedVariables false
set_option linter.unusedSimpArgs false
set_option maxRecDepth 100000

theorem nu_pre (call : ACall) (m : Nat) {v : AVal} {l : List UInt8} {p s e : Nat} {st : ASt} {ts : List AVal} (h : RAt st s v l p e) (hp : p ≤ l.length) (t0 : ts[0]? = some (.ptr s 0)) (tl : ts.length = 66) :
    (e ≠ 0 → ∃ ts', aexec E 35 call (drawB E 35) m nuPre ts st = some (.ret, ts', st) ∧ ts'[2]? = some (.lit (.int .u64 (0 : Nat)))) ∧
    (e = 0 → ∃ ts', aexec E 35 call (drawB E 35) m nuPre ts st = some (.normal, ts', st) ∧ NuI v l p s p 0 0 ts' st) := by
  have hh : ∀ t, E.hint 35 t = false := fun _ => rfl
  have hdr : drawB E 35 nuScope.fst.ops = true := by kernel_rfl
  simp only [nuScope, code, Try.f35, Option.getD_some, Code.fst, Code.snd, Code.inn, Code.ops] at hdr
  refine ⟨fun he => ?_, fun he => ?_⟩
  · have hd : (((e : Nat) : Int) != 0) = true := by
      have : ((e : Nat) : Int) ≠ 0 := by omega
      rw [bne, beq_eq_false_iff_ne.2 this]; rfl
    simp only [nuPre, nuScope, code, Try.f35, Option.getD_some, Code.fst, Code.snd, Code.inn, aexec, aops, aop, Region.wanted, ayielded, aexecOp, aeval, aput, aseq, ablock, ahint, absOf, flat, nilCheckA, ANext.ofP, evals, evalPs, evalO, aresults, aresults1, aresult, aend, List.getElem?_set, List.length_set, Option.map_some, Option.bind_some, if_true, if_false, ↓reduceIte, Nat.reduceLT, Nat.reduceEqDiff, reduceCtorEq, Bool.false_eq_true, false_and, and_false, and_true, true_and, Nat.reduceAdd, Nat.reduceLeDiff, callA, List.getElem?_toArray, List.getElem?_cons_succ, List.getElem?_cons_zero, sb1, sb2, sb3, sb4, t0, tl, hh, hdr, (fld84 s).2.1, (fld84 s).2.2, (ld_r h).2.1, (ld_r h).2.2, b_neq, hd]
    exact ⟨_, rfl, by simp only [List.getElem?_set, List.length_set, Nat.reduceLT, Nat.reduceEqDiff, ↓reduceIte, reduceCtorEq, *]; rfl⟩
  · subst he
    have hd : (((0 : Nat) : Int) != 0) = false := rfl
    simp only [nuPre, nuScope, code, Try.f35, Option.getD_some, Code.fst, Code.snd, Code.inn, aexec, aops, aop, Region.wanted, ayielded, aexecOp, aeval, aput, aseq, ablock, ahint, absOf, flat, nilCheckA, ANext.ofP, evals, evalPs, evalO, aresults, aresults1, aresult, aend, List.getElem?_set, List.length_set, Option.map_some, Option.bind_some, if_true, if_false, ↓reduceIte, Nat.reduceLT, Nat.reduceEqDiff, reduceCtorEq, Bool.false_eq_true, false_and, and_false, and_true, true_and, Nat.reduceAdd, Nat.reduceLeDiff, callA, List.getElem?_toArray, List.getElem?_cons_succ, List.getElem?_cons_zero, sb1, sb2, sb3, sb4, t0, tl, hh, hdr, (fld84 s).2.1, (fld84 s).2.2, (ld_r h).2.1, (ld_r h).2.2, b_neq, hd]
    exact ⟨_, rfl, h, hp, by decide, by simp only [List.getElem?_set, List.length_set, Nat.reduceLT, Nat.reduceEqDiff, ↓reduceIte, reduceCtorEq, *], by simp only [List.getElem?_set, List.length_set, Nat.reduceLT, Nat.reduceEqDiff, ↓reduceIte, reduceCtorEq, *]; rfl, by simp only [List.getElem?_set, List.length_set, Nat.reduceLT, Nat.reduceEqDiff, ↓reduceIte, reduceCtorEq, *]; rfl, by simp only [List.getElem?_set, List.length_set, Nat.reduceLT, Nat.reduceEqDiff, ↓reduceIte, reduceCtorEq, *], by simp only [List.getElem?_set, List.length_set, Nat.reduceLT, Nat.reduceEqDiff, ↓reduceIte, reduceCtorEq, *]⟩

theorem nu_zero (call : ACall) (dr : Array Oper → Bool) (m : Nat) {s : Nat} {st : ASt} {ts : List AVal} (t0 : ts[0]? = some (.ptr s 0)) (tl : ts.length = 66) :
    ∃ ts', aexec E 35 call dr m (code Try.f35).fst ts st = some (.normal, ts', st) ∧ ts'[0]? = some (.ptr s 0) ∧ ts'.length = 66 := by
  have hh : ∀ t, E.hint 35 t = false := fun _ => rfl
  simp only [code, Try.f35, Option.getD_some, Code.fst, Code.snd, Code.inn, aexec, aops, aop, Region.wanted, ayielded, aexecOp, aeval, aput, aseq, ablock, ahint, absOf, flat, nilCheckA, ANext.ofP, evals, evalPs, evalO, aresults, aresults1, aresult, aend, List.getElem?_set, List.length_set, Option.map_some, Option.bind_some, if_true, if_false, ↓reduceIte, Nat.reduceLT, Nat.reduceEqDiff, reduceCtorEq, Bool.false_eq_true, false_and, and_false, and_true, true_and, Nat.reduceAdd, Nat.reduceLeDiff, callA, List.getElem?_toArray, List.getElem?_cons_succ, List.getElem?_cons_zero, sb1, sb2, sb3, sb4, t0, tl, hh]
  exact ⟨_, rfl, by simp only [List.getElem?_set, List.length_set, Nat.reduceLT, Nat.reduceEqDiff, ↓reduceIte, reduceCtorEq, *], by simp only [List.getElem?_set, List.length_set, Nat.reduceLT, Nat.reduceEqDiff, ↓reduceIte, reduceCtorEq, *]⟩

theorem nu_seq (call : ACall) (dr : Array Oper → Bool) (m : Nat) (ts : List AVal) (st : ASt) : aexec E 35 call dr m nuScope ts st = aseq (aexec E 35 call dr m nuPre ts st) (aexec E 35 call dr m nuRest) := by
  rw [nu_scope, nuPre]
  have e : aexec E 35 call dr m (.label 0) = fun ts st => some (.normal, ts, st) := by funext ts st; rw [aexec]
  simp only [aexec_seq, aseq_assoc, e]
  congr 1

end Go.Proofs.YtjpehemkgikkdaaV
