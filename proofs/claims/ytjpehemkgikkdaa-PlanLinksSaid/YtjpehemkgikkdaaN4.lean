/- The laws' own reading of a plan: where a node and all behind it end: its contract, and that it ends where it should. No condition. -/
import Derived.Test.YtjpehemkgikkdaaN3
namespace Go.Proofs.YtjpehemkgikkdaaV
open Go Go.RowKit Go.Proofs.YtjpehemkgikkdaaA
set_option linter.unusedVariables false
set_option linter.unusedSimpArgs false
set_option maxRecDepth 100000

/-- so many steps on -/
def it (g : Nat → Option Nat) : Nat → Nat → Option Nat
  | 0, p => some p
  | k + 1, p => match g p with
    | some e => it g k e
    | none => none
/-- where a node and all behind it end -/
def oneF (l : List Nd) : Nat → Nat → Option Nat
  | 0, _ => none
  | f + 1, i => match l[i]? with
    | some n => it (oneF l f) n.kd.toNat (i + 1)
    | none => none

theorem one_ck (l : List Nd) : ∀ (f i m : Nat), l.length ≤ i + f → ck (l.drop i) i ((m : Int) + 1) = (0, 0) → ∃ e, oneF l f i = some e ∧ i < e ∧ e ≤ l.length ∧ ck (l.drop e) e m = (0, 0)
  | 0, i, m, hf, h => by
    rw [List.drop_of_length_le (by omega), ck, if_pos (by omega)] at h
    cases h
  | f + 1, i, m, hf, h => by
    by_cases hi : i < l.length
    · rw [List.drop_eq_getElem_cons hi, ck, if_neg (by omega)] at h
      by_cases hb : badN l[i] i
      · rw [if_pos hb] at h; cases h
      · rw [if_neg hb] at h
        have hkd : 0 ≤ l[i].kd := by unfold badN at hb; omega
        have key : ∀ (k p : Nat), i < p → ck (l.drop p) p ((m + k : Nat) : Int) = (0, 0) → p ≤ l.length → ∃ e, it (oneF l f) k p = some e ∧ i < e ∧ e ≤ l.length ∧ ck (l.drop e) e m = (0, 0) := by
          intro k
          induction k with
          | zero => intro p hp hc hl; exact ⟨p, rfl, hp, hl, by simpa using hc⟩
          | succ k ih =>
            intro p hp hc hl
            obtain ⟨e, h1, h2, h3, h4⟩ := one_ck l f p (m + k) (by omega) (by rw [← hc]; congr 1)
            obtain ⟨e', g1, g2, g3, g4⟩ := ih e (by omega) h4 h3
            exact ⟨e', by rw [it, h1]; exact g1, g2, g3, g4⟩
        obtain ⟨e, g1, g2, g3, g4⟩ := key l[i].kd.toNat (i + 1) (by omega) (by rw [← h]; congr 1; omega) (by omega)
        exact ⟨e, by rw [oneF, List.getElem?_eq_getElem hi]; exact g1, g2, g3, g4⟩
    · rw [List.drop_of_length_le (by omega), ck, if_pos (by omega)] at h
      simp only [Prod.mk.injEq] at h
      omega

/-- of a plan that may be the first node, and all behind it, is all of it -/
theorem one_all {l : List Nd} (h : ck l 0 1 = (0, 0)) : oneF l l.length 0 = some l.length := by
  obtain ⟨e, h1, h2, h3, h4⟩ := one_ck l l.length 0 0 (by omega) h
  have : e = l.length := by
    rcases Nat.lt_or_ge e l.length with hlt | hge
    · rw [List.drop_eq_getElem_cons hlt, ck, if_pos (by rfl)] at h4
      cases h4
    · omega
  rw [← this]; rw [← this] at h1; exact h1

noncomputable def onBody : Code := (code Try.f28).snd.snd.snd.fst.snd.inn
noncomputable def onPre : Code := .seq (code Try.f28).fst (.seq (code Try.f28).snd.fst (.seq (code Try.f28).snd.snd.fst (code Try.f28).snd.snd.snd.fst.fst))
noncomputable def onEnd : Code := (code Try.f28).snd.snd.snd.snd
theorem on_parts (call : ACall) (dr : Array Oper → Bool) (n : Nat) (ts : List AVal) (st : ASt) : aexec E 28 call dr n (code Try.f28) ts st =
    aseq (aexec E 28 call dr n onPre ts st) fun ts st => aseq (ablock 0 (aloop (aexec E 28 call dr n onBody) n ts st)) (aexec E 28 call dr n onEnd) := by
  have e : code Try.f28 = .seq (code Try.f28).fst (.seq (code Try.f28).snd.fst (.seq (code Try.f28).snd.snd.fst (.seq (.seq (code Try.f28).snd.snd.snd.fst.fst (.block 0 (.loop onBody))) onEnd))) := rfl
  rw [e, onPre]
  simp only [aexec_seq, aexec_block, aexec_loop, aseq_assoc]

theorem cf28 (a : List AVal) (st : ASt) : callFuncA E.P 28 a st = some (.enter 28 a st) := rfl
theorem cf26 (a : List AVal) (st : ASt) : callFuncA E.P 26 a st = some (.enter 26 a st) := rfl
theorem cf27 (a : List AVal) (st : ASt) : callFuncA E.P 27 a st = some (.enter 27 a st) := rfl

structure OnI (v : AVal) (K k p : Nat) (ts : List AVal) : Prop where
  t0 : ts[0]? = some v
  t5 : ts[5]? = some (.lit (.int .i64 p))
  t20 : ts[20]? = some (.lit (.int .i64 K))
  t21 : ts[21]? = some (.lit (.int .i64 k))
  tl : ts.length = 30

theorem on_exit (call : ACall) (dr : Array Oper → Bool) (n : Nat) {v : AVal} {K k p : Nat} {ts : List AVal} {st : ASt} (h : OnI v K k p ts) (hk : k = K) :
    ∃ ts', aexec E 28 call dr n onBody ts st = some (.exit 0, ts', st) ∧ ts'[5]? = some (.lit (.int .i64 p)) ∧ ts'.length = 30 := by
  obtain ⟨t0, t5, t20, t21, tl⟩ := h
  have hh : ∀ t, E.hint 28 t = false := fun _ => rfl
  have hd : decide ((k : Int) < (K : Int)) = false := by rw [decide_eq_false_iff_not]; omega
  simp only [onBody, code, Try.f28, Option.getD_some, Code.fst, Code.snd, Code.inn, aexec, aops, aop, Region.wanted, ayielded, aexecOp, aeval, aput, aseq, ablock, ahint, absOf, flat, nilCheckA, ANext.ofP, evals, evalPs, evalO, aresults, aresults1, aresult, aend, List.getElem?_set, List.length_set, Option.map_some, Option.bind_some, if_true, if_false, ↓reduceIte, Nat.reduceLT, Nat.reduceEqDiff, reduceCtorEq, Bool.false_eq_true, false_and, and_false, and_true, true_and, Nat.reduceAdd, Nat.reduceLeDiff, callA, List.getElem?_toArray, List.getElem?_cons_succ, List.getElem?_cons_zero, sb1, sb2, sb3, sb4, hh, t0, t5, t20, t21, tl, b_lss, hd]
  exact ⟨_, rfl, by simp only [List.getElem?_set, List.length_set, Nat.reduceLT, Nat.reduceEqDiff, ↓reduceIte, reduceCtorEq, *], by simp only [List.getElem?_set, List.length_set, Nat.reduceLT, Nat.reduceEqDiff, ↓reduceIte, reduceCtorEq, *]⟩

theorem on_go (N : Nat) (dr : Array Oper → Bool) (n : Nat) {v : AVal} {K k p e : Nat} {ts : List AVal} {st : ASt} (h : OnI v K k p ts) (hk : k < K) (hK : K ≤ 100) (hc : run E N 28 [v, .lit (.int .i64 p)] st = some (.returned (.lit (.int .i64 e)), st)) :
    ∃ ts', aexec E 28 (run E N) dr n onBody ts st = some (.normal, ts', st) ∧ OnI v K (k + 1) e ts' := by
  obtain ⟨t0, t5, t20, t21, tl⟩ := h
  have hh : ∀ t, E.hint 28 t = false := fun _ => rfl
  have hd : decide ((k : Int) < (K : Int)) = true := by rw [decide_eq_true_eq]; omega
  have hz : decide (((e : Nat) : Int) < 0) = false := by rw [decide_eq_false_iff_not]; omega
  have q1 : IntKind.i64.wrap ((k : Int) + 1) = ((k + 1 : Nat) : Int) := by
    simp [IntKind.wrap, IntKind.bits, IntKind.signed]; omega
  simp only [onBody, code, Try.f28, Option.getD_some, Code.fst, Code.snd, Code.inn, aexec, aops, aop, Region.wanted, ayielded, aexecOp, aeval, aput, aseq, ablock, ahint, absOf, flat, nilCheckA, ANext.ofP, evals, evalPs, evalO, aresults, aresults1, aresult, aend, List.getElem?_set, List.length_set, Option.map_some, Option.bind_some, if_true, if_false, ↓reduceIte, Nat.reduceLT, Nat.reduceEqDiff, reduceCtorEq, Bool.false_eq_true, false_and, and_false, and_true, true_and, Nat.reduceAdd, Nat.reduceLeDiff, callA, List.getElem?_toArray, List.getElem?_cons_succ, List.getElem?_cons_zero, sb1, sb2, sb3, sb4, hh, t0, t5, t20, t21, tl, b_lss, hd, cf28, hc, hz, b_add, q1]
  exact ⟨_, rfl, ⟨by simp only [List.getElem?_set, List.length_set, Nat.reduceLT, Nat.reduceEqDiff, ↓reduceIte, reduceCtorEq, *], by simp only [List.getElem?_set, List.length_set, Nat.reduceLT, Nat.reduceEqDiff, ↓reduceIte, reduceCtorEq, *], by simp only [List.getElem?_set, List.length_set, Nat.reduceLT, Nat.reduceEqDiff, ↓reduceIte, reduceCtorEq, *], by simp only [List.getElem?_set, List.length_set, Nat.reduceLT, Nat.reduceEqDiff, ↓reduceIte, reduceCtorEq, *], by simp only [List.getElem?_set, List.length_set, Nat.reduceLT, Nat.reduceEqDiff, ↓reduceIte, reduceCtorEq, *]⟩⟩

theorem one_run {v : AVal} {l : List Nd} {st : ASt} (hp : PS st v l) (hl : l.length ≤ 1000) (hk : ∀ n ∈ l, 0 ≤ n.kd ∧ n.kd ≤ 6) : ∀ (f i e : Nat), oneF l f i = some e → RetN E (f + 8) 28 [v, .lit (.int .i64 i)] st (.lit (.int .i64 e)) st
  | 0, i, e, h => by cases h
  | f + 1, i, e, h => by
    have ih := one_run hp hl hk f
    refine RetN.of (n := f + 8 + 1) ?_
    rw [run_code (fn := Try.f28) rfl rfl, on_parts]
    obtain ⟨ts, et, t0, t1, tl⟩ : ∃ ts : List AVal, ([v, .lit (.int .i64 i)] ++ List.replicate (Try.f28.ntmps - [v, AVal.lit (.int .i64 i)].length) .undef) = ts ∧ ts[0]? = some v ∧ ts[1]? = some (.lit (.int .i64 i)) ∧ ts.length = 30 := ⟨_, rfl, rfl, rfl, rfl⟩
    rw [et]
    have hres : ∀ ts st v, ts[4]? = some v → aresults E Try.f28 ts st = some v := by
      intro ts st v h
      unfold aresults
      simp only [Try.f28, aresults1, aresult, h]
    have hh : ∀ t, E.hint 28 t = false := fun _ => rfl
    rw [oneF] at h
    cases hi : l[i]? with
    | none => rw [hi] at h; cases h
    | some nd =>
      rw [hi] at h
      simp only at h
      have hlt : i < l.length := (List.getElem?_eq_some_iff.1 hi).1
      have hnd : l[i] = nd := (List.getElem?_eq_some_iff.1 hi).2
      have hkd := hk nd (by rw [← hnd]; exact List.getElem_mem hlt)
      obtain ⟨p, q, i1, i2, i3, i4, _⟩ := ps_idx hp hlt
      rw [hnd] at i4
      have hz : decide (((i : Nat) : Int) < 0) = false := by rw [decide_eq_false_iff_not]; omega
      have hz2 : decide (((i : Nat) : Int) ≥ ((l.length : Nat) : Int)) = false := by rw [decide_eq_false_iff_not]; omega
      have q1 : IntKind.i64.wrap ((i : Int) + 1) = ((i + 1 : Nat) : Int) := by
        simp [IntKind.wrap, IntKind.bits, IntKind.signed]; omega
      obtain ⟨K, hK⟩ : ∃ K : Nat, nd.kd = (K : Int) := ⟨nd.kd.toNat, by omega⟩
      rw [hK, Int.toNat_natCast] at h
      rw [hK] at i4
      obtain ⟨ts1, e1, h1⟩ : ∃ ts', aexec E 28 (run E (f + 8)) (drawB E 28) (f + 8) onPre ts st = some (.normal, ts', st) ∧ OnI v K 0 (i + 1) ts' := by
        simp only [AVal.undef, sbn, sbn', onPre, code, Try.f28, Option.getD_some, Code.fst, Code.snd, Code.inn, aexec, aops, aop, Region.wanted, ayielded, aexecOp, aeval, aput, aseq, ablock, ahint, absOf, flat, nilCheckA, ANext.ofP, evals, evalPs, evalO, aresults, aresults1, aresult, aend, List.getElem?_set, List.length_set, Option.map_some, Option.bind_some, if_true, if_false, ↓reduceIte, Nat.reduceLT, Nat.reduceEqDiff, reduceCtorEq, Bool.false_eq_true, false_and, and_false, and_true, true_and, Nat.reduceAdd, Nat.reduceLeDiff, callA, List.getElem?_toArray, List.getElem?_cons_succ, List.getElem?_cons_zero, sb1, sb2, sb3, sb4, hh, t0, t1, tl, b_lss, hz, ps_len hp, b_geq, hz2, b_add, q1, i1, i3, i4]
        exact ⟨_, rfl, ⟨by simp only [List.getElem?_set, List.length_set, Nat.reduceLT, Nat.reduceEqDiff, ↓reduceIte, reduceCtorEq, *], by simp only [List.getElem?_set, List.length_set, Nat.reduceLT, Nat.reduceEqDiff, ↓reduceIte, reduceCtorEq, *], by simp only [List.getElem?_set, List.length_set, Nat.reduceLT, Nat.reduceEqDiff, ↓reduceIte, reduceCtorEq, *], by simp only [List.getElem?_set, List.length_set, Nat.reduceLT, Nat.reduceEqDiff, ↓reduceIte, reduceCtorEq, *]; rfl, by simp only [List.getElem?_set, List.length_set, Nat.reduceLT, Nat.reduceEqDiff, ↓reduceIte, reduceCtorEq, *]⟩⟩
      have key := aloop_rule (b := aexec E 28 (run E (f + 8)) (drawB E 28) (f + 8) onBody)
        (I := fun j ts s => s = st ∧ ∃ k p, j + k = K ∧ OnI v K k p ts ∧ it (oneF l f) j p = some e)
        (Q := fun x ts' s => s = st ∧ x = .exit 0 ∧ ts'[5]? = some (.lit (.int .i64 e)) ∧ ts'.length = 30)
        (step := by
          rintro j ts2 s ⟨hs, k, p, hj, hI, hit⟩
          rw [hs]
          cases j with
          | zero =>
            obtain ⟨ts', e', a5, al⟩ := on_exit (run E (f + 8)) (drawB E 28) (f + 8) (st := st) hI (by omega)
            rw [it] at hit
            cases hit
            exact .inr ⟨_, ts', _, e', by simp, rfl, rfl, a5, al⟩
          | succ j =>
            rw [it] at hit
            cases hg : oneF l f p with
            | none => rw [hg] at hit; cases hit
            | some e2 =>
              rw [hg] at hit
              obtain ⟨ts', e', hI'⟩ := on_go (f + 8) (drawB E 28) (f + 8) hI (by omega) (by omega) (ih p e2 hg (f + 8) (Nat.le_refl _))
              exact .inl ⟨ts', _, e', j, by omega, rfl, k + 1, e2, by omega, hI', hit⟩)
        (f + 8) K ts1 st ⟨rfl, 0, i + 1, by omega, h1, h⟩ (by omega)
      obtain ⟨x, ts2, s2, e2, rfl, rfl, a5, al⟩ := key
      obtain ⟨ts3, e3, a4⟩ : ∃ ts', aexec E 28 (run E (f + 8)) (drawB E 28) (f + 8) onEnd ts2 s2 = some (.ret, ts', s2) ∧ ts'[4]? = some (.lit (.int .i64 e)) := by
        simp only [onEnd, code, Try.f28, Option.getD_some, Code.fst, Code.snd, Code.inn, aexec, aops, aop, Region.wanted, ayielded, aexecOp, aeval, aput, aseq, ablock, ahint, absOf, flat, nilCheckA, ANext.ofP, evals, evalPs, evalO, aresults, aresults1, aresult, aend, List.getElem?_set, List.length_set, Option.map_some, Option.bind_some, if_true, if_false, ↓reduceIte, Nat.reduceLT, Nat.reduceEqDiff, reduceCtorEq, Bool.false_eq_true, false_and, and_false, and_true, true_and, Nat.reduceAdd, Nat.reduceLeDiff, callA, List.getElem?_toArray, List.getElem?_cons_succ, List.getElem?_cons_zero, sb1, sb2, sb3, sb4, hh, a5, al]
        exact ⟨_, rfl, by simp only [List.getElem?_set, List.length_set, Nat.reduceLT, Nat.reduceEqDiff, ↓reduceIte, reduceCtorEq, *]⟩
      simp only [e1, aseq, e2, ablock, if_true, e3, aend, hres _ _ _ a4, Option.map_some]

end Go.Proofs.YtjpehemkgikkdaaV
