/- A reader's Num: one round. No condition. -/
import Derived.Test.YtjpehemkgikkdaaR4
namespace Go.Proofs.YtjpehemkgikkdaaV
open Go Go.RowKit Go.Proofs.YtjpehemkgikkdaaA
set_option linter.unusedVariables false
set_option linter.unusedSimpArgs false
set_option maxRecDepth 100000

theorem sbn : ((none : Option Bool) == some true) = false := rfl
theorem sbn' : ((none : Option Bool) == some false) = false := rfl

theorem cf46 (a : List AVal) (st : ASt) : callFuncA E.P 46 a st = some (.enter 46 a st) := rfl

structure NuI (v : AVal) (l : List UInt8) (p s i sh n : Nat) (ts : List AVal) (st : ASt) : Prop where
  r : RAt st s v l p 0
  il : i ≤ l.length
  n64 : n < 2 ^ 64
  t0 : ts[0]? = some (.ptr s 0)
  t3 : ts[3]? = some (.lit (.int .u64 n))
  t4 : ts[4]? = some (.lit (.int .i64 sh))
  t5 : ts[5]? = some (.lit (.int .i64 i))
  tl : ts.length = 66

theorem nu_short (N m : Nat) (hN : 1 ≤ N) (dr : Array Oper → Bool) {v : AVal} {l : List UInt8} {p s i sh n : Nat} {ts : List AVal} {st : ASt} (h : NuI v l p s i sh n ts st) (hi : i = l.length) :
    ∃ ts', aexec E 35 (run E N) dr m nuRest ts st = some (.ret, ts', rset st s v p 3) ∧ ts'[2]? = some (.lit (.int .u64 (0 : Nat))) := by
  obtain ⟨r, il, n64, t0, t3, t4, t5, tl⟩ := h
  have hh : ∀ t, E.hint 35 t = false := fun _ => rfl
  have c1 := fail_run (f := 3) r N hN
  rw [if_pos rfl] at c1
  have hd : (((i : Nat) : Int) == ((l.length : Nat) : Int)) = true := by rw [hi]; exact beq_self_eq_true _
  have c1' : run E N 46 [.ptr s 0, .lit (.int .i64 3)] st = some (.returned (.tuple []), rset st s v p 3) := c1
  simp only [nuRest, nuScope, code, Try.f35, Option.getD_some, Code.fst, Code.snd, Code.inn, aexec, aops, aop, Region.wanted, ayielded, aexecOp, aeval, aput, aseq, ablock, ahint, absOf, flat, nilCheckA, ANext.ofP, evals, evalPs, evalO, aresults, aresults1, aresult, aend, List.getElem?_set, List.length_set, Option.map_some, Option.bind_some, if_true, if_false, ↓reduceIte, Nat.reduceLT, Nat.reduceEqDiff, reduceCtorEq, Bool.false_eq_true, false_and, and_false, and_true, true_and, Nat.reduceAdd, Nat.reduceLeDiff, callA, List.getElem?_toArray, List.getElem?_cons_succ, List.getElem?_cons_zero, sb1, sb2, sb3, sb4, t0, t3, t4, t5, tl, hh, (fld84 s).1, (ld_r r).1, len_b (.inl r.2.2), b_eql, hd, cf46, c1']
  exact ⟨_, rfl, by simp only [List.getElem?_set, List.length_set, Nat.reduceLT, Nat.reduceEqDiff, ↓reduceIte, reduceCtorEq, *]; rfl⟩

set_option maxHeartbeats 1000000 in
theorem nu_bad (N m : Nat) (hN : 1 ≤ N) (dr : Array Oper → Bool) {v : AVal} {l : List UInt8} {p s i sh n : Nat} {ts : List AVal} {st : ASt} (h : NuI v l p s i sh n ts st) (hi : i < l.length)
    (hb : (sh = 63 ∧ 1 < l[i].toNat) ∨ (0 < sh ∧ l[i].toNat = 0)) :
    ∃ ts', aexec E 35 (run E N) dr m nuRest ts st = some (.ret, ts', rset st s v p 1) ∧ ts'[2]? = some (.lit (.int .u64 (0 : Nat))) := by
  obtain ⟨r, il, n64, t0, t3, t4, t5, tl⟩ := h
  have hh : ∀ t, E.hint 35 t = false := fun _ => rfl
  obtain ⟨w35, x35⟩ : ∃ w, ts[35]? = some w := ⟨_, List.getElem?_eq_getElem (by omega)⟩
  obtain ⟨w36, x36⟩ : ∃ w, ts[36]? = some w := ⟨_, List.getElem?_eq_getElem (by omega)⟩
  obtain ⟨w39, x39⟩ : ∃ w, ts[39]? = some w := ⟨_, List.getElem?_eq_getElem (by omega)⟩
  obtain ⟨w40, x40⟩ : ∃ w, ts[40]? = some w := ⟨_, List.getElem?_eq_getElem (by omega)⟩
  obtain ⟨w41, x41⟩ : ∃ w, ts[41]? = some w := ⟨_, List.getElem?_eq_getElem (by omega)⟩
  obtain ⟨w42, x42⟩ : ∃ w, ts[42]? = some w := ⟨_, List.getElem?_eq_getElem (by omega)⟩
  obtain ⟨w43, x43⟩ : ∃ w, ts[43]? = some w := ⟨_, List.getElem?_eq_getElem (by omega)⟩
  obtain ⟨w44, x44⟩ : ∃ w, ts[44]? = some w := ⟨_, List.getElem?_eq_getElem (by omega)⟩
  have c1 := fail_run (f := 1) r N hN
  rw [if_pos rfl] at c1
  have hd : (((i : Nat) : Int) == ((l.length : Nat) : Int)) = false := by rw [beq_eq_false_iff_ne]; omega
  have c1' : run E N 46 [.ptr s 0, .lit (.int .i64 1)] st = some (.returned (.tuple []), rset st s v p 1) := c1
  obtain ⟨p1, i1, i2⟩ := bs_idx (st := st) (.inl (.inl r.2.2)) hi
  unfold byteA at i2
  cases b1 : (((sh : Nat) : Int) == 63) with
  | true =>
    have hsh : sh = 63 := by have := eq_of_beq b1; omega
    cases b2 : decide (((l[i].toNat : Nat) : Int) > 1) with
    | true =>
      simp only [AVal.undef, sbn, sbn', nuRest, nuScope, code, Try.f35, Option.getD_some, Code.fst, Code.snd, Code.inn, aexec, aops, aop, Region.wanted, ayielded, aexecOp, aeval, aput, aseq, ablock, ahint, absOf, flat, nilCheckA, ANext.ofP, evals, evalPs, evalO, aresults, aresults1, aresult, aend, List.getElem?_set, List.length_set, Option.map_some, Option.bind_some, if_true, if_false, ↓reduceIte, Nat.reduceLT, Nat.reduceEqDiff, reduceCtorEq, Bool.false_eq_true, false_and, and_false, and_true, true_and, Nat.reduceAdd, Nat.reduceLeDiff, callA, List.getElem?_toArray, List.getElem?_cons_succ, List.getElem?_cons_zero, sb1, sb2, sb3, sb4, t0, t3, t4, t5, tl, x35, x36, x39, x40, x41, x42, x43, x44, hh, (fld84 s).1, (ld_r r).1, len_b (.inl r.2.2), b_eql, hd, cf46, c1', i1, i2, b1, b_gtr, b2]
      exact ⟨_, rfl, by simp only [List.getElem?_set, List.length_set, Nat.reduceLT, Nat.reduceEqDiff, ↓reduceIte, reduceCtorEq, *]; rfl⟩
    | false =>
      have b3 : decide (((sh : Nat) : Int) > 0) = true := by rw [decide_eq_true_eq]; omega
      have b4 : (((l[i].toNat : Nat) : Int) == 0) = true := by
        rw [decide_eq_false_iff_not] at b2
        rcases hb with ⟨_, h1⟩ | ⟨_, h1⟩
        · omega
        · rw [h1]; rfl
      simp only [AVal.undef, sbn, sbn', nuRest, nuScope, code, Try.f35, Option.getD_some, Code.fst, Code.snd, Code.inn, aexec, aops, aop, Region.wanted, ayielded, aexecOp, aeval, aput, aseq, ablock, ahint, absOf, flat, nilCheckA, ANext.ofP, evals, evalPs, evalO, aresults, aresults1, aresult, aend, List.getElem?_set, List.length_set, Option.map_some, Option.bind_some, if_true, if_false, ↓reduceIte, Nat.reduceLT, Nat.reduceEqDiff, reduceCtorEq, Bool.false_eq_true, false_and, and_false, and_true, true_and, Nat.reduceAdd, Nat.reduceLeDiff, callA, List.getElem?_toArray, List.getElem?_cons_succ, List.getElem?_cons_zero, sb1, sb2, sb3, sb4, t0, t3, t4, t5, tl, x35, x36, x39, x40, x41, x42, x43, x44, hh, (fld84 s).1, (ld_r r).1, len_b (.inl r.2.2), b_eql, hd, cf46, c1', i1, i2, b1, b_gtr, b2, b3, b4]
      exact ⟨_, rfl, by simp only [List.getElem?_set, List.length_set, Nat.reduceLT, Nat.reduceEqDiff, ↓reduceIte, reduceCtorEq, *]; rfl⟩
  | false =>
    have hsh : sh ≠ 63 := by rw [beq_eq_false_iff_ne] at b1; omega
    have h2 : 0 < sh ∧ l[i].toNat = 0 := by
      rcases hb with ⟨h1, _⟩ | h1
      · exact absurd h1 hsh
      · exact h1
    have b3 : decide (((sh : Nat) : Int) > 0) = true := by rw [decide_eq_true_eq]; omega
    have b4 : (((l[i].toNat : Nat) : Int) == 0) = true := by rw [h2.2]; rfl
    simp only [AVal.undef, sbn, sbn', nuRest, nuScope, code, Try.f35, Option.getD_some, Code.fst, Code.snd, Code.inn, aexec, aops, aop, Region.wanted, ayielded, aexecOp, aeval, aput, aseq, ablock, ahint, absOf, flat, nilCheckA, ANext.ofP, evals, evalPs, evalO, aresults, aresults1, aresult, aend, List.getElem?_set, List.length_set, Option.map_some, Option.bind_some, if_true, if_false, ↓reduceIte, Nat.reduceLT, Nat.reduceEqDiff, reduceCtorEq, Bool.false_eq_true, false_and, and_false, and_true, true_and, Nat.reduceAdd, Nat.reduceLeDiff, callA, List.getElem?_toArray, List.getElem?_cons_succ, List.getElem?_cons_zero, sb1, sb2, sb3, sb4, t0, t3, t4, t5, tl, x35, x36, x39, x40, x41, x42, x43, x44, hh, (fld84 s).1, (ld_r r).1, len_b (.inl r.2.2), b_eql, hd, cf46, c1', i1, i2, b1, b_gtr, b3, b4]
    exact ⟨_, rfl, by simp only [List.getElem?_set, List.length_set, Nat.reduceLT, Nat.reduceEqDiff, ↓reduceIte, reduceCtorEq, *]; rfl⟩

end Go.Proofs.YtjpehemkgikkdaaV
