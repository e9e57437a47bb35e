/- Equal's contract. No condition. -/
import Derived.Test.YtjpehemkgikkdaaV3
namespace Go.Proofs.YtjpehemkgikkdaaV
open Go Go.RowKit Go.Proofs.YtjpehemkgikkdaaA
set_option linter.unusedVariables false
set_option linter.unusedSimpArgs false
set_option maxRecDepth 100000

noncomputable def eqHead : Code := .seq (.seq (code Try.f17).fst eqFst) eqInit

theorem eq_head (call : ACall) (n : Nat) {x y : AVal} {l1 l2 : List UInt8} {st : ASt} {ts : List AVal} (hx : IsB x l1) (hy : IsB y l2) (h0 : ts[0]? = some x) (h1 : ts[1]? = some y) (hl : ts.length = 26) :
    (l1.length ≠ l2.length → ∃ ts', aexec E 17 call (drawB E 17) n eqHead ts st = some (.ret, ts', st) ∧ ts'[4]? = some (.lit (.bool false))) ∧
    (l1.length = l2.length → ∃ ts', aexec E 17 call (drawB E 17) n eqHead ts st = some (.normal, ts', st) ∧ 
          ts'[0]? = some x ∧ ts'[1]? = some y ∧ ts'[12]? = some (.lit (.int .i64 l1.length)) ∧ ts'[13]? = some (.lit (.int .i64 (0 : Nat))) ∧ ts'.length = 26) := by
  have hh : ∀ t, E.hint 17 t = false := fun _ => rfl
  refine ⟨fun he => ?_, fun he => ?_⟩
  · have hd : (((l1.length : Nat) : Int) != ((l2.length : Nat) : Int)) = true := by
      have : ((l1.length : Nat) : Int) ≠ ((l2.length : Nat) : Int) := by omega
      rw [bne, beq_eq_false_iff_ne.2 this]; rfl
    simp only [eqHead, eqFst, eqInit, code, Try.f17, Option.getD_some, Code.fst, Code.snd, Code.inn, aexec, aops, aop, Region.wanted, ayielded, aexecOp, aeval, aput, aseq, ablock, ahint, absOf, flat, nilCheckA, ANext.ofP, evals, evalPs, evalO, aresults, aresults1, aresult, aend, List.getElem?_set, List.length_set, Option.map_some, Option.bind_some, if_true, if_false, ↓reduceIte, Nat.reduceLT, Nat.reduceEqDiff, reduceCtorEq, Bool.false_eq_true, false_and, and_false, and_true, true_and, Nat.reduceAdd, Nat.reduceLeDiff, callA, List.getElem?_toArray, List.getElem?_cons_succ, List.getElem?_cons_zero, sb1, sb2, sb3, sb4, h0, h1, hl, hh, len_b hx, len_b hy, b_neq, hd]
    exact ⟨_, rfl, by simp [hl]⟩
  · have hd : (((l1.length : Nat) : Int) != ((l2.length : Nat) : Int)) = false := by
      simp [he]
    simp only [eqHead, eqFst, eqInit, code, Try.f17, Option.getD_some, Code.fst, Code.snd, Code.inn, aexec, aops, aop, Region.wanted, ayielded, aexecOp, aeval, aput, aseq, ablock, ahint, absOf, flat, nilCheckA, ANext.ofP, evals, evalPs, evalO, aresults, aresults1, aresult, aend, List.getElem?_set, List.length_set, Option.map_some, Option.bind_some, if_true, if_false, ↓reduceIte, Nat.reduceLT, Nat.reduceEqDiff, reduceCtorEq, Bool.false_eq_true, false_and, and_false, and_true, true_and, Nat.reduceAdd, Nat.reduceLeDiff, callA, List.getElem?_toArray, List.getElem?_cons_succ, List.getElem?_cons_zero, sb1, sb2, sb3, sb4, h0, h1, hl, hh, len_b hx, len_b hy, b_neq, hd]
    exact ⟨_, rfl, by simp [h0], by simp [h1], by simp [hl], by simp [hl], by simp [hl]⟩

theorem eq_parts (call : ACall) (n : Nat) (ts : List AVal) (st : ASt) : aexec E 17 call (drawB E 17) n (code Try.f17) ts st =
    aseq (aexec E 17 call (drawB E 17) n eqHead ts st) (fun ts st => aseq (ablock 0 (aloop (aexec E 17 call (drawB E 17) n eqBody) n ts st)) (aexec E 17 call (drawB E 17) n eqTail)) := by
  rw [eq_code, eqHead]
  simp only [aexec_seq, aexec_block, aexec_loop, aseq_assoc]

theorem eq_tail (call : ACall) (n : Nat) {st : ASt} {ts : List AVal} (hl : ts.length = 26) :
    ∃ ts', aexec E 17 call (drawB E 17) n eqTail ts st = some (.ret, ts', st) ∧ ts'[4]? = some (.lit (.bool true)) := by
  have hh : ∀ t, E.hint 17 t = false := fun _ => rfl
  simp only [eqTail, code, Try.f17, Option.getD_some, Code.fst, Code.snd, Code.inn, aexec, aops, aop, Region.wanted, ayielded, aexecOp, aeval, aput, aseq, ablock, ahint, absOf, flat, nilCheckA, ANext.ofP, evals, evalPs, evalO, aresults, aresults1, aresult, aend, List.getElem?_set, List.length_set, Option.map_some, Option.bind_some, if_true, if_false, ↓reduceIte, Nat.reduceLT, Nat.reduceEqDiff, reduceCtorEq, Bool.false_eq_true, false_and, and_false, and_true, true_and, Nat.reduceAdd, Nat.reduceLeDiff, callA, List.getElem?_toArray, List.getElem?_cons_succ, List.getElem?_cons_zero, sb1, sb2, sb3, sb4, hl, hh]
  exact ⟨_, rfl, by simp [hl]⟩

theorem eq_loop (call : ACall) (n : Nat) {x y : AVal} {l1 l2 : List UInt8} {st : ASt} {ts : List AVal} (hx : IsB x l1) (hy : IsB y l2) (hll : l1.length = l2.length) (hlt : l1.length ≤ 1000000)
    (h0 : ts[0]? = some x) (h1 : ts[1]? = some y) (h12 : ts[12]? = some (.lit (.int .i64 l1.length))) (h13 : ts[13]? = some (.lit (.int .i64 (0 : Nat)))) (hl : ts.length = 26) (hn : l1.length < n) :
    ∃ e ts', aloop (aexec E 17 call (drawB E 17) n eqBody) n ts st = some (e, ts', st) ∧ ((e = .exit 0 ∧ l1 = l2 ∧ ts'.length = 26) ∨ (e = .ret ∧ l1 ≠ l2 ∧ ts'[4]? = some (.lit (.bool false)))) := by
  obtain ⟨e, ts', st', h, rfl, hq⟩ := aloop_rule (b := aexec E 17 call (drawB E 17) n eqBody)
    (I := fun k ts s => s = st ∧ ∃ i, k + i = l1.length ∧ l1.take i = l2.take i ∧ ts[0]? = some x ∧ ts[1]? = some y ∧ ts[12]? = some (.lit (.int .i64 l1.length)) ∧ ts[13]? = some (.lit (.int .i64 (i : Nat))) ∧ ts.length = 26)
    (Q := fun e ts' s => s = st ∧ ((e = .exit 0 ∧ l1 = l2 ∧ ts'.length = 26) ∨ (e = .ret ∧ l1 ≠ l2 ∧ ts'[4]? = some (.lit (.bool false)))))
    (step := by
      rintro k ts s ⟨hs, i, hi, ht, a0, a1, a12, a13, al⟩
      rw [hs]
      by_cases hk : i = l1.length
      · obtain ⟨ts', e, hl'⟩ := (eq_body call n (st := st) hx hy hll a0 a1 a12 a13 al hlt).1 hk
        refine .inr ⟨_, ts', _, e, by simp, rfl, .inl ⟨rfl, ?_, hl'⟩⟩
        rw [List.take_of_length_le (by omega), List.take_of_length_le (by omega)] at ht
        exact ht
      · have hlt2 : i < l1.length := by omega
        have hb := (eq_body call n (st := st) hx hy hll a0 a1 a12 a13 al hlt).2 hlt2
        by_cases hee : l1[i] = l2[i]'(hll ▸ hlt2)
        · obtain ⟨ts', e, b0, b1, b12, b13, bl⟩ := hb.1 hee
          refine .inl ⟨ts', _, e, k - 1, by omega, rfl, i + 1, by omega, ?_, b0, b1, b12, b13, bl⟩
          rw [List.take_succ_eq_append_getElem hlt2, List.take_succ_eq_append_getElem (hll ▸ hlt2), ht, hee]
        · obtain ⟨ts', e, b4⟩ := hb.2 hee
          refine .inr ⟨_, ts', _, e, by simp, rfl, .inr ⟨rfl, ?_, b4⟩⟩
          intro hc
          subst hc
          exact hee rfl)
    n l1.length ts st ⟨rfl, 0, by omega, by simp, h0, h1, h12, h13, hl⟩ hn
  exact ⟨e, ts', h, hq⟩

theorem eq_run {x y : AVal} {l1 l2 : List UInt8} (st : ASt) (hx : IsB x l1) (hy : IsB y l2) (hlt : l1.length ≤ 1000000) :
    RetN E (l1.length + 2) 17 [x, y] st (.lit (.bool (l1 == l2))) st := by
  refine RetN.of (n := l1.length + 1 + 1) ?_
  rw [run_code (fn := Try.f17) rfl rfl, eq_parts]
  obtain ⟨ha, hb⟩ := eq_head (run E (l1.length + 1)) (l1.length + 1) (st := st) (ts := [x, y] ++ List.replicate 24 .undef) hx hy rfl rfl rfl
  have hts : ([x, y] ++ List.replicate (Try.f17.ntmps - [x, y].length) .undef) = [x, y] ++ List.replicate 24 .undef := rfl
  have hres : ∀ ts v, ts[4]? = some v → aresults E Try.f17 ts st = some v := by
    intro ts v h
    have : aresults E Try.f17 ts st = (match (match ts[4]? with | some v => some [v] | _ => none) with | some [v] => some v | some vs => some (.tuple vs) | none => none) := by
      unfold aresults
      simp only [Try.f17, aresults1, aresult]
      cases ts[4]? <;> rfl
    rw [this, h]
  rw [hts]
  by_cases hl : l1.length = l2.length
  · obtain ⟨ts3, e3, a0, a1, a12, a13, al⟩ := hb hl
    obtain ⟨e, ts4, e4, hq⟩ := eq_loop (run E (l1.length + 1)) (l1.length + 1) (st := st) hx hy hl hlt a0 a1 a12 a13 al (by omega)
    simp only [aseq, e3]
    rcases hq with ⟨rfl, rfl, h4⟩ | ⟨rfl, hne, h4⟩
    · obtain ⟨ts5, e5, h5⟩ := eq_tail (run E (l1.length + 1)) (l1.length + 1) (st := st) h4
      simp only [e4, ablock, if_true, aseq, e5, aend, hres _ _ h5, Option.map_some, beq_self_eq_true]
    · simp only [e4, ablock, aseq, aend, hres _ _ h4, Option.map_some, beq_eq_false_iff_ne.2 hne]
  · obtain ⟨ts2, e2, h2⟩ := ha hl
    have hne : l1 ≠ l2 := fun e => hl (by rw [e])
    simp only [aseq, e2, aend, hres _ _ h2, Option.map_some, beq_eq_false_iff_ne.2 hne]

end Go.Proofs.YtjpehemkgikkdaaV
