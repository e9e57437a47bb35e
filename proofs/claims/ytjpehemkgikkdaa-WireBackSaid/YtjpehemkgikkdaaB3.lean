/- WireBack, walked in the second reading. No condition. -/
import Derived.Test.YtjpehemkgikkdaaB2
namespace Go.Proofs.YtjpehemkgikkdaaV
open Go Go.RowKit Go.Proofs.YtjpehemkgikkdaaA
set_option linter.unusedVariables false
set_option linter.unusedSimpArgs false
set_option maxRecDepth 100000

theorem bk_mid (N n : Nat) (hN : 2000 ≤ N) {its : List Item} {x : AVal} {s : Nat} {kw : Option Nat} {ts : List AVal} {st : ASt} (dr : Array Oper → Bool) (hx : Items x its) (hol : (outs its).length ≤ 1600)
    (hw : WAt st s (outs its) kw) (h0 : ts[0]? = some x) (h3 : ts[3]? = some (.ptr s 0)) (tl : ts.length = 75) :
    ∃ ts' st' rs v, aexec E 14 (run E N) dr n bkMid ts st = some (.normal, ts', st') ∧ BtI its 0 x s kw rs v ts' st' := by
  have hh : ∀ t, E.hint 14 t = false := fun _ => rfl
  obtain ⟨b, st1, n1, b1, g1⟩ := bytes_run hw (by omega)
  obtain ⟨rs, v, st2, n2, r2, g2, lt2⟩ := read_run (.inl b1 : BS st1 b (outs its)) (by omega)
  have c1 := n1 N (by omega)
  have c2 := n2 N (by omega)
  have hnil : ∀ q : Nat, binA E.P .eql 63 (.tmp 35) (.const (.pointer none)) (.ptr q 0) (.lit (.pointer none)) = some (.lit (.bool false)) := fun _ => rfl
  have hs := hw.1
  have hkw : kw ≠ some rs := fun e => by
    subst e
    have h1 : rs < st.ctr := hw.2.1
    have := g1.1
    omega
  have := g1.1
  simp only [bkMid, code, Try.f14, Option.getD_some, Code.fst, Code.snd, Code.inn, aexec, aops, aop, Region.wanted, ayielded, aexecOp, aeval, aput, aseq, ablock, ahint, absOf, flat, nilCheckA, ANext.ofP, evals, evalPs, evalO, aresults, aresults1, aresult, aend, List.getElem?_set, List.length_set, Option.map_some, Option.bind_some, if_true, if_false, ↓reduceIte, Nat.reduceLT, Nat.reduceEqDiff, reduceCtorEq, Bool.false_eq_true, false_and, and_false, and_true, true_and, Nat.reduceAdd, Nat.reduceLeDiff, callA, List.getElem?_toArray, List.getElem?_cons_succ, List.getElem?_cons_zero, sb1, sb2, sb3, sb4, h0, h3, tl, hh, cf18, cf34, c1, c2, hnil, len_items hx]
  exact ⟨_, _, rs, v, rfl, ⟨wat_gr (wat_gr hw g1) g2, r2, by omega, hkw, by simp only [List.getElem?_set, List.length_set, Nat.reduceLT, Nat.reduceEqDiff, ↓reduceIte, reduceCtorEq, *], by simp only [List.getElem?_set, List.length_set, Nat.reduceLT, Nat.reduceEqDiff, ↓reduceIte, reduceCtorEq, *], by simp only [List.getElem?_set, List.length_set, Nat.reduceLT, Nat.reduceEqDiff, ↓reduceIte, reduceCtorEq, *], by simp only [List.getElem?_set, List.length_set, Nat.reduceLT, Nat.reduceEqDiff, ↓reduceIte, reduceCtorEq, *], by simp only [List.getElem?_set, List.length_set, Nat.reduceLT, Nat.reduceEqDiff, ↓reduceIte, reduceCtorEq, *]; rfl, by simp only [List.getElem?_set, List.length_set, Nat.reduceLT, Nat.reduceEqDiff, ↓reduceIte, reduceCtorEq, *]⟩⟩

theorem bk_end (N n : Nat) (hN : 2000 ≤ N) (dr : Array Oper → Bool) {its : List Item} {s rs : Nat} {kw : Option Nat} {v : AVal} {st : ASt} {ts : List AVal} (hol : (outs its).length ≤ 1600)
    (hw : WAt st s (outs its) kw) (hr : RAt st rs v (outs its) (outs its).length 0) (h3 : ts[3]? = some (.ptr s 0)) (h6 : ts[6]? = some (.ptr rs 0)) (tl : ts.length = 75) :
    ∃ ts' st', aexec E 14 (run E N) dr n bkEnd ts st = some (.ret, ts', st') ∧ ts'[2]? = some (.lit (.bool true)) := by
  have hh : ∀ t, E.hint 14 t = false := fun _ => rfl
  obtain ⟨b, st1, n1, b1, g1⟩ := bytes_run hw (by omega)
  have n2 := left_run hr (Nat.le_refl _) (by omega)
  have n3 := err_run hr
  have n4 := at_run hr
  rw [Nat.sub_self] at n2
  have c1 := n1 N (by omega)
  have c2 := n2 N (by omega)
  have c3 := n3 N (by omega)
  have c4 := n4 N (by omega)
  have q0 : (((0 : Nat) : Int) == 0) = true := rfl
  simp only [bkEnd, code, Try.f14, Option.getD_some, Code.fst, Code.snd, Code.inn, aexec, aops, aop, Region.wanted, ayielded, aexecOp, aeval, aput, aseq, ablock, ahint, absOf, flat, nilCheckA, ANext.ofP, evals, evalPs, evalO, aresults, aresults1, aresult, aend, List.getElem?_set, List.length_set, Option.map_some, Option.bind_some, if_true, if_false, ↓reduceIte, Nat.reduceLT, Nat.reduceEqDiff, reduceCtorEq, Bool.false_eq_true, false_and, and_false, and_true, true_and, Nat.reduceAdd, Nat.reduceLeDiff, callA, List.getElem?_toArray, List.getElem?_cons_succ, List.getElem?_cons_zero, sb1, sb2, sb3, sb4, h3, h6, tl, hh, cf18, cf36, cf37, cf38, c1, c2, c3, c4, b_eql, q0, len_b b1, beq_self_eq_true]
  exact ⟨_, _, rfl, by simp only [List.getElem?_set, List.length_set, Nat.reduceLT, Nat.reduceEqDiff, ↓reduceIte, reduceCtorEq, *]⟩

theorem bk_loop2 (N n : Nat) (hN : 2000 ≤ N) (hn : 40 < n) {its : List Item} {x : AVal} {s rs : Nat} {v : AVal} {kw : Option Nat} {ts : List AVal} {st : ASt} (hx : Items x its) (hok : ∀ it ∈ its, it.ok) (hlen : its.length ≤ 40) (hol : (outs its).length ≤ 1600)
    (h : BtI its 0 x s kw rs v ts st) :
    ∃ e ts' st', aloop (aexec E 14 (run E N) (drawB E 14) n bkL2) n ts st = some (e, ts', st') ∧ (e = .exit 2 ∧ WAt st' s (outs its) kw ∧ RAt st' rs v (outs its) (outs its).length 0 ∧ ts'[3]? = some (.ptr s 0) ∧ ts'[6]? = some (.ptr rs 0) ∧ ts'.length = 75) := by
  exact aloop_rule (b := aexec E 14 (run E N) (drawB E 14) n bkL2)
    (I := fun k ts st => ∃ i, k + i = its.length ∧ BtI its i x s kw rs v ts st)
    (Q := fun e ts' st' => e = .exit 2 ∧ WAt st' s (outs its) kw ∧ RAt st' rs v (outs its) (outs its).length 0 ∧ ts'[3]? = some (.ptr s 0) ∧ ts'[6]? = some (.ptr rs 0) ∧ ts'.length = 75)
    (step := by
      rintro k ts st ⟨i, hi, hI⟩
      have hb := bk_body2 N n hN hx hok hlen hol hI
      by_cases he : i = its.length
      · obtain ⟨ts', e, a3, a6, al⟩ := hb.1 he
        have h1 := hI.r
        rw [he, List.take_length] at h1
        exact .inr ⟨_, ts', _, e, by simp, rfl, hI.w, h1, a3, a6, al⟩
      · obtain ⟨ts', st', e, hI'⟩ := hb.2 (by omega)
        exact .inl ⟨ts', st', e, k - 1, by omega, i + 1, by omega, hI'⟩)
    n its.length ts st ⟨0, by omega, h⟩ (by omega)

theorem back_runs (b0 : AVal) (h : DatV E.P 6 31 b0) : ∃ n st', run E n 14 [b0] st0 = some (.returned (.lit (.bool true)), st') := by
  obtain ⟨its, hx, _, hok⟩ := datv_items h
  obtain ⟨s0, d0, hA⟩ := awake
  have hN : d0 ≤ max d0 2000 := Nat.le_max_left _ _
  have hN2 : 2000 ≤ max d0 2000 := Nat.le_max_right _ _
  refine ⟨max d0 2000 + 1, ?_⟩
  generalize max d0 2000 = N at hN hN2
  obtain ⟨ts, et, t0, tl⟩ : ∃ ts : List AVal, ([b0] ++ List.replicate (Try.f14.ntmps - [b0].length) .undef) = ts ∧ ts[0]? = some b0 ∧ ts.length = 75 := ⟨_, rfl, rfl, rfl⟩
  have hpre := bk_pre N N d0 (drawB E 14) hx hA hN t0 tl
  have hres : ∀ ts st v, ts[2]? = some v → aresults E Try.f14 ts st = some v := by
    intro ts st v h
    unfold aresults
    simp only [Try.f14, aresults1, aresult, h]
  rw [run_code (fn := Try.f14) rfl rfl, et, bk_parts]
  by_cases hl : 40 < its.length
  · obtain ⟨ts1, st1, e1, a2⟩ := hpre.1 hl
    exact ⟨st1, by simp only [e1, aseq, aend, hres _ _ _ a2, Option.map_some]⟩
  · obtain ⟨ts1, e1, hI⟩ := hpre.2 (by omega)
    obtain ⟨e, ts2, st2, e2, hq⟩ := bk_loop1 N N (by omega) (by omega) (drawB E 14) hx hok (by omega) hI
    rcases hq with ⟨rfl, a2⟩ | ⟨rfl, kw, hw, hol, b0', b3, bl⟩
    · exact ⟨st2, by simp only [e1, aseq, e2, ablock, aend, hres _ _ _ a2, Option.map_some]⟩
    · obtain ⟨ts3, st3, rs, v, e3, hI2⟩ := bk_mid N N hN2 (drawB E 14) hx hol hw b0' b3 bl
      obtain ⟨e', ts4, st4, e4, rfl, hw4, hr4, c3, c6, cl⟩ := bk_loop2 N N hN2 (by omega) hx hok (by omega) hol hI2
      obtain ⟨ts5, st5, e5, d2⟩ := bk_end N N hN2 (drawB E 14) hol hw4 hr4 c3 c6 cl
      exact ⟨st5, by simp only [e1, aseq, e2, ablock, if_true, e3, e4, e5, aend, hres _ _ _ d2, Option.map_some]⟩

end Go.Proofs.YtjpehemkgikkdaaV
