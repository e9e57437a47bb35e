/- WirePuts, walked in the second reading. No condition. -/
import Derived.Test.YtjpehemkgikkdaaVC
namespace Go.Proofs.YtjpehemkgikkdaaV
open Go Go.RowKit Go.Proofs.YtjpehemkgikkdaaA
set_option linter.unusedVariables false
set_option linter.unusedSimpArgs false
set_option maxRecDepth 100000

theorem pt_pre (N n d0 : Nat) (dr : Array Oper → Bool) {its : List Item} {x : AVal} {s0 : ASt} {ts : List AVal} (hx : Items x its) (hA : RetN E d0 15 [] st0 (.lit (.bool true)) s0) (hN : d0 ≤ N) (h0 : ts[0]? = some x) (tl : ts.length = 43) :
    (40 < its.length → ∃ ts' st', aexec E 4 (run E N) dr n ptPre ts st0 = some (.ret, ts', st') ∧ ts'[2]? = some (.lit (.bool true))) ∧
    (its.length ≤ 40 → ∃ ts', aexec E 4 (run E N) dr n ptPre ts st0 = some (.normal, ts', s0.new (.cells [.nilSlice])) ∧ PtI its 0 x s0.ctr [] none none ts' (s0.new (.cells [.nilSlice]))) := by
  have hh : ∀ t, E.hint 4 t = false := fun _ => rfl
  have c0 := hA N hN
  have hnot : ∀ b, pureV E.P (Op.unary .not (.bool b)) = some (.lit (.bool (!b))) := fun _ => rfl
  refine ⟨fun hl => ?_, fun hl => ?_⟩
  · have hd : decide (((its.length : Nat) : Int) > 40) = true := by rw [decide_eq_true_eq]; omega
    simp only [ptPre, code, Try.f4, Option.getD_some, Code.fst, Code.snd, Code.inn, aexec, aops, aop, Region.wanted, ayielded, aexecOp, aeval, aput, aseq, ablock, ahint, absOf, flat, nilCheckA, ANext.ofP, evals, evalPs, evalO, aresults, aresults1, aresult, aend, List.getElem?_set, List.length_set, Option.map_some, Option.bind_some, if_true, if_false, ↓reduceIte, Nat.reduceLT, Nat.reduceEqDiff, reduceCtorEq, Bool.false_eq_true, false_and, and_false, and_true, true_and, Nat.reduceAdd, Nat.reduceLeDiff, callA, List.getElem?_toArray, List.getElem?_cons_succ, List.getElem?_cons_zero, sb1, sb2, sb3, sb4, h0, tl, hh, cf15, c0, YtjpehemkgikkdaaA.valOf, hnot, Bool.not_true, len_items hx, b_gtr, hd]
    exact ⟨_, _, rfl, by simp only [List.getElem?_set, List.length_set, Nat.reduceLT, Nat.reduceEqDiff, ↓reduceIte, reduceCtorEq, *]⟩
  · have hd : decide (((its.length : Nat) : Int) > 40) = false := by rw [decide_eq_false_iff_not]; omega
    simp only [ptPre, code, Try.f4, Option.getD_some, Code.fst, Code.snd, Code.inn, aexec, aops, aop, Region.wanted, ayielded, aexecOp, aeval, aput, aseq, ablock, ahint, absOf, flat, nilCheckA, ANext.ofP, evals, evalPs, evalO, aresults, aresults1, aresult, aend, List.getElem?_set, List.length_set, Option.map_some, Option.bind_some, if_true, if_false, ↓reduceIte, Nat.reduceLT, Nat.reduceEqDiff, reduceCtorEq, Bool.false_eq_true, false_and, and_false, and_true, true_and, Nat.reduceAdd, Nat.reduceLeDiff, callA, List.getElem?_toArray, List.getElem?_cons_succ, List.getElem?_cons_zero, sb1, sb2, sb3, sb4, h0, tl, hh, cf15, c0, YtjpehemkgikkdaaA.valOf, hnot, Bool.not_true, len_items hx, b_gtr, hd, alloc_w]
    exact ⟨_, rfl, ⟨wat_init s0, ⟨fun _ => rfl, fun t e => (by cases e)⟩, by simp, fun j e => (by cases e)⟩, by simp, by simp only [List.getElem?_set, List.length_set, Nat.reduceLT, Nat.reduceEqDiff, ↓reduceIte, reduceCtorEq, *], by simp only [List.getElem?_set, List.length_set, Nat.reduceLT, Nat.reduceEqDiff, ↓reduceIte, reduceCtorEq, *]; rfl, by simp only [List.getElem?_set, List.length_set, Nat.reduceLT, Nat.reduceEqDiff, ↓reduceIte, reduceCtorEq, *], by simp only [List.getElem?_set, List.length_set, Nat.reduceLT, Nat.reduceEqDiff, ↓reduceIte, reduceCtorEq, *], by simp only [List.getElem?_set, List.length_set, Nat.reduceLT, Nat.reduceEqDiff, ↓reduceIte, reduceCtorEq, *]; rfl, by simp only [List.getElem?_set, List.length_set, Nat.reduceLT, Nat.reduceEqDiff, ↓reduceIte, reduceCtorEq, *]⟩

theorem pt_end (N n : Nat) (hN : 2000 ≤ N) (dr : Array Oper → Bool) {s : Nat} {l : List UInt8} {kw kt : Option Nat} {st : ASt} {ts : List AVal} (hb : Both st s l kw kt) (hl : l.length ≤ 1600) (t3 : ts[3]? = some (.ptr s 0)) (t4 : ts[4]? = some (wval l kt)) (tl : ts.length = 43) :
    ∃ ts' st', aexec E 4 (run E N) dr n ptEnd ts st = some (.ret, ts', st') ∧ ts'[2]? = some (.lit (.bool true)) := by
  have hh : ∀ t, E.hint 4 t = false := fun _ => rfl
  obtain ⟨v, st', n1, b1, g1⟩ := bytes_run hb.w (by omega)
  have b2 : IsB (wval l kt) l := by
    cases hk : kt with
    | none => exact .inr ⟨none, rfl, hb.t.nil hk⟩
    | some t => exact .inl ⟨_, rfl⟩
  have n2 := eq_run st' b1 b2 (by omega)
  rw [beq_self_eq_true] at n2
  have c1 := n1 N (by omega)
  have c2 := n2 N (by omega)
  simp only [ptEnd, code, Try.f4, Option.getD_some, Code.fst, Code.snd, Code.inn, aexec, aops, aop, Region.wanted, ayielded, aexecOp, aeval, aput, aseq, ablock, ahint, absOf, flat, nilCheckA, ANext.ofP, evals, evalPs, evalO, aresults, aresults1, aresult, aend, List.getElem?_set, List.length_set, Option.map_some, Option.bind_some, if_true, if_false, ↓reduceIte, Nat.reduceLT, Nat.reduceEqDiff, reduceCtorEq, Bool.false_eq_true, false_and, and_false, and_true, true_and, Nat.reduceAdd, Nat.reduceLeDiff, callA, List.getElem?_toArray, List.getElem?_cons_succ, List.getElem?_cons_zero, sb1, sb2, sb3, sb4, t3, t4, tl, hh, cf17, cf18, c1, c2]
  exact ⟨_, _, rfl, by simp only [List.getElem?_set, List.length_set, Nat.reduceLT, Nat.reduceEqDiff, ↓reduceIte, reduceCtorEq, *]⟩

theorem pt_loop (N n : Nat) (hN : 100 ≤ N) (hn : 40 < n) (dr : Array Oper → Bool) {its : List Item} {x : AVal} {s : Nat} {ts : List AVal} {st : ASt} (hx : Items x its) (hok : ∀ it ∈ its, it.ok) (hlen : its.length ≤ 40)
    (h : PtI its 0 x s [] none none ts st) :
    ∃ e ts' st', aloop (aexec E 4 (run E N) dr n ptBody) n ts st = some (e, ts', st') ∧ ((e = .ret ∧ ts'[2]? = some (.lit (.bool true))) ∨
      (e = .exit 0 ∧ ∃ l kw kt, Both st' s l kw kt ∧ l.length ≤ 1600 ∧ ts'[3]? = some (.ptr s 0) ∧ ts'[4]? = some (wval l kt) ∧ ts'.length = 43)) := by
  exact aloop_rule (b := aexec E 4 (run E N) dr n ptBody)
    (I := fun k ts st => ∃ i l kw kt, k + i = its.length ∧ PtI its i x s l kw kt ts st)
    (Q := fun e ts' st' => (e = .ret ∧ ts'[2]? = some (.lit (.bool true))) ∨
      (e = .exit 0 ∧ ∃ l kw kt, Both st' s l kw kt ∧ l.length ≤ 1600 ∧ ts'[3]? = some (.ptr s 0) ∧ ts'[4]? = some (wval l kt) ∧ ts'.length = 43))
    (step := by
      rintro k ts st ⟨i, l, kw, kt, hi, hI⟩
      have hb := pt_body N n hN dr hx hok hlen hI
      by_cases he : i = its.length
      · obtain ⟨ts', e, a3, a4, al⟩ := hb.1 he
        have := hI.len
        exact .inr ⟨_, ts', _, e, by simp, .inr ⟨rfl, l, kw, kt, hI.both, by omega, a3, a4, al⟩⟩
      · have hlt : i < its.length := by omega
        by_cases hr : 40 < its[i].raw.length
        · obtain ⟨ts', st', e, a2⟩ := (hb.2 hlt).1 hr
          exact .inr ⟨_, ts', st', e, by simp, .inl ⟨rfl, a2⟩⟩
        · obtain ⟨ts', st', kw', kt', e, hI'⟩ := (hb.2 hlt).2 (by omega)
          exact .inl ⟨ts', st', e, k - 1, by omega, i + 1, _, kw', kt', by omega, hI'⟩)
    n its.length ts st ⟨0, [], none, none, by omega, h⟩ (by omega)

theorem pt_eq : code Try.f4 = .seq (code Try.f4).fst (.seq (code Try.f4).snd.fst (.seq (code Try.f4).snd.snd.fst (.seq (code Try.f4).snd.snd.snd.fst (.seq (code Try.f4).snd.snd.snd.snd.fst (.seq (.seq (code Try.f4).snd.snd.snd.snd.snd.fst.fst (.block 0 (.loop ptBody))) ptEnd))))) := rfl

theorem pt_parts (call : ACall) (dr : Array Oper → Bool) (n : Nat) (ts : List AVal) (st : ASt) : aexec E 4 call dr n (code Try.f4) ts st =
    aseq (aexec E 4 call dr n ptPre ts st) fun ts st => aseq (ablock 0 (aloop (aexec E 4 call dr n ptBody) n ts st)) (aexec E 4 call dr n ptEnd) := by
  rw [pt_eq, ptPre]
  simp only [aexec_seq, aexec_block, aexec_loop, aseq_assoc]

theorem puts_runs (b0 : AVal) (h : DatV E.P 6 31 b0) : ∃ n st', run E n 4 [b0] st0 = some (.returned (.lit (.bool true)), st') := by
  obtain ⟨its, hx, _, hok⟩ := datv_items h
  obtain ⟨s0, d0, hA⟩ := awake
  have hN : d0 ≤ max d0 2000 := Nat.le_max_left _ _
  have hN2 : 2000 ≤ max d0 2000 := Nat.le_max_right _ _
  refine ⟨max d0 2000 + 1, ?_⟩
  generalize max d0 2000 = N at hN hN2
  obtain ⟨ts, et, t0, tl⟩ : ∃ ts : List AVal, ([b0] ++ List.replicate (Try.f4.ntmps - [b0].length) .undef) = ts ∧ ts[0]? = some b0 ∧ ts.length = 43 := ⟨_, rfl, rfl, rfl⟩
  have hpre := pt_pre N N d0 (drawB E 4) hx hA hN t0 tl
  have hres : ∀ ts st v, ts[2]? = some v → aresults E Try.f4 ts st = some v := by
    intro ts st v h
    unfold aresults
    simp only [Try.f4, aresults1, aresult, h]
  rw [run_code (fn := Try.f4) rfl rfl, et, pt_parts]
  by_cases hl : 40 < its.length
  · obtain ⟨ts1, st1, e1, a2⟩ := hpre.1 hl
    exact ⟨st1, by simp only [e1, aseq, aend, hres _ _ _ a2, Option.map_some]⟩
  · obtain ⟨ts1, e1, hI⟩ := hpre.2 (by omega)
    obtain ⟨e, ts2, st2, e2, hq⟩ := pt_loop N N (by omega) (by omega) (drawB E 4) hx hok (by omega) hI
    rcases hq with ⟨rfl, a2⟩ | ⟨rfl, l, kw, kt, hb, hll, a3, a4, al⟩
    · exact ⟨st2, by simp only [e1, aseq, e2, ablock, aend, hres _ _ _ a2, Option.map_some]⟩
    · obtain ⟨ts3, st3, e3, c2⟩ := pt_end N N (by omega) (drawB E 4) hb hll a3 a4 al
      exact ⟨st3, by simp only [e1, aseq, e2, ablock, if_true, e3, aend, hres _ _ _ c2, Option.map_some]⟩

end Go.Proofs.YtjpehemkgikkdaaV
