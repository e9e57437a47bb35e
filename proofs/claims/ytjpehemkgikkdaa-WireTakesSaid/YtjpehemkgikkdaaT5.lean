/- WireTakes, walked in the second reading. No condition. -/
import Derived.Test.YtjpehemkgikkdaaT4
namespace Go.Proofs.YtjpehemkgikkdaaV
open Go Go.RowKit Go.Proofs.YtjpehemkgikkdaaA
set_option linter.unusedVariables false
set_option linter.unusedSimpArgs false
set_option maxRecDepth 100000

noncomputable def tkPre : Code := .seq (code Try.f13).fst (.seq (code Try.f13).snd.fst (.seq (code Try.f13).snd.snd.fst (.seq (code Try.f13).snd.snd.snd.fst (.seq (code Try.f13).snd.snd.snd.snd.fst (code Try.f13).snd.snd.snd.snd.snd.fst.fst))))
noncomputable def tkEnd : Code := (code Try.f13).snd.snd.snd.snd.snd.snd

theorem tk_parts (call : ACall) (dr : Array Oper → Bool) (n : Nat) (ts : List AVal) (st : ASt) : aexec E 13 call dr n (code Try.f13) ts st =
    aseq (aexec E 13 call dr n tkPre ts st) fun ts st => aseq (ablock 0 (aloop (aexec E 13 call dr n tkBody) n ts st)) (aexec E 13 call dr n tkEnd) := by
  have e : code Try.f13 = .seq (code Try.f13).fst (.seq (code Try.f13).snd.fst (.seq (code Try.f13).snd.snd.fst (.seq (code Try.f13).snd.snd.snd.fst (.seq (code Try.f13).snd.snd.snd.snd.fst (.seq (.seq (code Try.f13).snd.snd.snd.snd.snd.fst.fst (.block 0 (.loop tkBody))) tkEnd))))) := rfl
  rw [e, tkPre]
  simp only [aexec_seq, aexec_block, aexec_loop, aseq_assoc]

theorem tk_pre (N n d0 : Nat) (hN2 : 300 ≤ N) (dr : Array Oper → Bool) {x y : AVal} {l : List UInt8} {ns : List Int} {s0 : ASt} {ts : List AVal} (hx : IsB x l) (hy : IsI y ns) (hA : RetN E d0 15 [] st0 (.lit (.bool true)) s0) (hN : d0 ≤ N) (h0 : ts[0]? = some x) (h1 : ts[1]? = some y) (tl : ts.length = 111) :
    (200 < l.length ∨ 40 < ns.length → ∃ ts' st', aexec E 13 (run E N) dr n tkPre ts st0 = some (.ret, ts', st') ∧ ts'[4]? = some (.lit (.bool true))) ∧
    (l.length ≤ 200 → ns.length ≤ 40 → ∃ ts' st' rs v, aexec E 13 (run E N) dr n tkPre ts st0 = some (.normal, ts', st') ∧ TkI x y l ns 0 0 0 rs v ts' st') := by
  have hh : ∀ t, E.hint 13 t = false := fun _ => rfl
  have c0 := hA N hN
  have hnot : ∀ b, pureV E.P (Op.unary .not (.bool b)) = some (.lit (.bool (!b))) := fun _ => rfl
  refine ⟨fun hl => ?_, fun hl hn => ?_⟩
  · cases hd : decide (((l.length : Nat) : Int) > 200) with
    | true =>
      simp only [AVal.undef, sbn, sbn', tkPre, code, Try.f13, Option.getD_some, Code.fst, Code.snd, Code.inn, aexec, aops, aop, Region.wanted, ayielded, aexecOp, aeval, aput, aseq, ablock, ahint, absOf, flat, nilCheckA, ANext.ofP, evals, evalPs, evalO, aresults, aresults1, aresult, aend, List.getElem?_set, List.length_set, Option.map_some, Option.bind_some, if_true, if_false, ↓reduceIte, Nat.reduceLT, Nat.reduceEqDiff, reduceCtorEq, Bool.false_eq_true, false_and, and_false, and_true, true_and, Nat.reduceAdd, Nat.reduceLeDiff, callA, List.getElem?_toArray, List.getElem?_cons_succ, List.getElem?_cons_zero, sb1, sb2, sb3, sb4, h0, h1, tl, hh, cf15, c0, YtjpehemkgikkdaaA.valOf, hnot, Bool.not_true, len_b hx, b_gtr, hd]
      exact ⟨_, _, rfl, by simp only [List.getElem?_set, List.length_set, Nat.reduceLT, Nat.reduceEqDiff, ↓reduceIte, reduceCtorEq, *]⟩
    | false =>
      have hd2 : decide (((ns.length : Nat) : Int) > 40) = true := by
        rw [decide_eq_false_iff_not] at hd
        rw [decide_eq_true_eq]; omega
      simp only [AVal.undef, sbn, sbn', tkPre, code, Try.f13, Option.getD_some, Code.fst, Code.snd, Code.inn, aexec, aops, aop, Region.wanted, ayielded, aexecOp, aeval, aput, aseq, ablock, ahint, absOf, flat, nilCheckA, ANext.ofP, evals, evalPs, evalO, aresults, aresults1, aresult, aend, List.getElem?_set, List.length_set, Option.map_some, Option.bind_some, if_true, if_false, ↓reduceIte, Nat.reduceLT, Nat.reduceEqDiff, reduceCtorEq, Bool.false_eq_true, false_and, and_false, and_true, true_and, Nat.reduceAdd, Nat.reduceLeDiff, callA, List.getElem?_toArray, List.getElem?_cons_succ, List.getElem?_cons_zero, sb1, sb2, sb3, sb4, h0, h1, tl, hh, cf15, c0, YtjpehemkgikkdaaA.valOf, hnot, Bool.not_true, len_b hx, len_i hy, b_gtr, hd, hd2]
      exact ⟨_, _, rfl, by simp only [List.getElem?_set, List.length_set, Nat.reduceLT, Nat.reduceEqDiff, ↓reduceIte, reduceCtorEq, *]⟩
  · have hd : decide (((l.length : Nat) : Int) > 200) = false := by rw [decide_eq_false_iff_not]; omega
    have hd2 : decide (((ns.length : Nat) : Int) > 40) = false := by rw [decide_eq_false_iff_not]; omega
    obtain ⟨rs, v, st2, n2, r2, g2, lt2⟩ := read_run (.inl hx : BS s0 x l) (by omega)
    have c2 := n2 N (by omega)
    have hnil : ∀ (q : Nat) (xo yo : Operand), binA E.P .eql 63 xo yo (.ptr q 0) (.lit (.pointer none)) = some (.lit (.bool false)) := fun _ _ _ => rfl
    simp only [AVal.undef, sbn, sbn', tkPre, code, Try.f13, Option.getD_some, Code.fst, Code.snd, Code.inn, aexec, aops, aop, Region.wanted, ayielded, aexecOp, aeval, aput, aseq, ablock, ahint, absOf, flat, nilCheckA, ANext.ofP, evals, evalPs, evalO, aresults, aresults1, aresult, aend, List.getElem?_set, List.length_set, Option.map_some, Option.bind_some, if_true, if_false, ↓reduceIte, Nat.reduceLT, Nat.reduceEqDiff, reduceCtorEq, Bool.false_eq_true, false_and, and_false, and_true, true_and, Nat.reduceAdd, Nat.reduceLeDiff, callA, List.getElem?_toArray, List.getElem?_cons_succ, List.getElem?_cons_zero, sb1, sb2, sb3, sb4, h0, h1, tl, hh, cf15, c0, YtjpehemkgikkdaaA.valOf, hnot, Bool.not_true, len_b hx, len_i hy, b_gtr, hd, hd2, cf34, c2, hnil]
    exact ⟨_, _, rs, v, rfl, ⟨r2, by omega, by simp only [List.getElem?_set, List.length_set, Nat.reduceLT, Nat.reduceEqDiff, ↓reduceIte, reduceCtorEq, *], by simp only [List.getElem?_set, List.length_set, Nat.reduceLT, Nat.reduceEqDiff, ↓reduceIte, reduceCtorEq, *], by simp only [List.getElem?_set, List.length_set, Nat.reduceLT, Nat.reduceEqDiff, ↓reduceIte, reduceCtorEq, *]; rfl, by simp only [List.getElem?_set, List.length_set, Nat.reduceLT, Nat.reduceEqDiff, ↓reduceIte, reduceCtorEq, *]; rfl, by simp only [List.getElem?_set, List.length_set, Nat.reduceLT, Nat.reduceEqDiff, ↓reduceIte, reduceCtorEq, *], by simp only [List.getElem?_set, List.length_set, Nat.reduceLT, Nat.reduceEqDiff, ↓reduceIte, reduceCtorEq, *], by simp only [List.getElem?_set, List.length_set, Nat.reduceLT, Nat.reduceEqDiff, ↓reduceIte, reduceCtorEq, *]; rfl, by simp only [List.getElem?_set, List.length_set, Nat.reduceLT, Nat.reduceEqDiff, ↓reduceIte, reduceCtorEq, *]⟩⟩

theorem tk_end (call : ACall) (n : Nat) (dr : Array Oper → Bool) {st : ASt} {ts : List AVal} (tl : ts.length = 111) :
    ∃ ts', aexec E 13 call dr n tkEnd ts st = some (.ret, ts', st) ∧ ts'[4]? = some (.lit (.bool true)) := by
  have hh : ∀ t, E.hint 13 t = false := fun _ => rfl
  simp only [tkEnd, code, Try.f13, Option.getD_some, Code.fst, Code.snd, Code.inn, aexec, aops, aop, Region.wanted, ayielded, aexecOp, aeval, aput, aseq, ablock, ahint, absOf, flat, nilCheckA, ANext.ofP, evals, evalPs, evalO, aresults, aresults1, aresult, aend, List.getElem?_set, List.length_set, Option.map_some, Option.bind_some, if_true, if_false, ↓reduceIte, Nat.reduceLT, Nat.reduceEqDiff, reduceCtorEq, Bool.false_eq_true, false_and, and_false, and_true, true_and, Nat.reduceAdd, Nat.reduceLeDiff, callA, List.getElem?_toArray, List.getElem?_cons_succ, List.getElem?_cons_zero, sb1, sb2, sb3, sb4, tl, hh]
  exact ⟨_, rfl, by simp only [List.getElem?_set, List.length_set, Nat.reduceLT, Nat.reduceEqDiff, ↓reduceIte, reduceCtorEq, *]⟩

theorem tk_loop (N n : Nat) (hN : 300 ≤ N) (hn : 40 < n) (dr : Array Oper → Bool) {x y : AVal} {l : List UInt8} {ns : List Int} {rs : Nat} {v : AVal} {ts : List AVal} {st : ASt} (hx : IsB x l) (hy : IsI y ns) (hl : l.length ≤ 200) (hns : ns.length ≤ 40)
    (hbd : ∀ n ∈ ns, -9223372036854775808 ≤ n ∧ n ≤ 9223372036854775807) (h : TkI x y l ns 0 0 0 rs v ts st) :
    ∃ e ts' st', aloop (aexec E 13 (run E N) dr n tkBody) n ts st = some (e, ts', st') ∧ (e = .exit 0 ∧ ts'.length = 111) := by
  exact aloop_rule (b := aexec E 13 (run E N) dr n tkBody)
    (I := fun k ts st => ∃ i p e, k + i = ns.length ∧ TkI x y l ns i p e rs v ts st)
    (Q := fun e ts' st' => e = .exit 0 ∧ ts'.length = 111)
    (step := by
      rintro k ts st ⟨i, p, e, hi, hI⟩
      by_cases he : i = ns.length
      · obtain ⟨ts', e', al⟩ := tk_exit N n dr hI he
        exact .inr ⟨_, ts', _, e', by simp, rfl, al⟩
      · have hlt : i < ns.length := by omega
        have hgo : ∃ ts' st' p' e', aexec E 13 (run E N) dr n tkBody ts st = some (.normal, ts', st') ∧ TkI x y l ns (i + 1) p' e' rs v ts' st' := by
          by_cases hev : ns[i].tmod 2 = 0
          · exact tk_even N n hN dr hx hy hl hns hI hlt hev
          · by_cases hk : e ≠ 0 ∨ ns[i].tdiv 2 < 0 ∨ ((l.length - p : Nat) : Int) < ns[i].tdiv 2
            · exact tk_odd_bad N n hN dr hx hy hl hns hbd hI hlt hev hk
            · have h1 : e = 0 ∧ 0 ≤ ns[i].tdiv 2 ∧ ns[i].tdiv 2 ≤ ((l.length - p : Nat) : Int) := ⟨by omega, by omega, by omega⟩
              exact tk_odd_ok N n hN dr hx hy hl hns hbd hI hlt hev h1.1 h1.2.1 h1.2.2
        obtain ⟨ts', st', p', e', ex, hI'⟩ := hgo
        exact .inl ⟨ts', st', ex, k - 1, by omega, i + 1, p', e', by omega, hI'⟩)
    n ns.length ts st ⟨0, 0, 0, by omega, h⟩ (by omega)

theorem takes_runs (b0 b1 : AVal) (h0 : DatV E.P 6 24 b0) (h1 : DatV E.P 6 59 b1) : ∃ n st', run E n 13 [b0, b1] st0 = some (.returned (.lit (.bool true)), st') := by
  obtain ⟨l, hx⟩ := datv_bytes h0
  obtain ⟨ns, hy, hbd⟩ := datv_ints h1
  obtain ⟨s0, d0, hA⟩ := awake
  have hN : d0 ≤ max d0 2000 := Nat.le_max_left _ _
  have hN2 : 2000 ≤ max d0 2000 := Nat.le_max_right _ _
  refine ⟨max d0 2000 + 1, ?_⟩
  generalize max d0 2000 = N at hN hN2
  obtain ⟨ts, et, t0, t1, tl⟩ : ∃ ts : List AVal, ([b0, b1] ++ List.replicate (Try.f13.ntmps - [b0, b1].length) .undef) = ts ∧ ts[0]? = some b0 ∧ ts[1]? = some b1 ∧ ts.length = 111 := ⟨_, rfl, rfl, rfl, rfl⟩
  have hpre := tk_pre N N d0 (by omega) (drawB E 13) hx hy hA hN t0 t1 tl
  have hres : ∀ ts st v, ts[4]? = some v → aresults E Try.f13 ts st = some v := by
    intro ts st v h
    unfold aresults
    simp only [Try.f13, aresults1, aresult, h]
  rw [run_code (fn := Try.f13) rfl rfl, et, tk_parts]
  by_cases hl : 200 < l.length ∨ 40 < ns.length
  · obtain ⟨ts1, st1, e1, a2⟩ := hpre.1 hl
    exact ⟨st1, by simp only [e1, aseq, aend, hres _ _ _ a2, Option.map_some]⟩
  · obtain ⟨ts1, st1, rs, v, e1, hI⟩ := hpre.2 (by omega) (by omega)
    obtain ⟨e, ts2, st2, e2, rfl, al⟩ := tk_loop N N (by omega) (by omega) (drawB E 13) hx hy (by omega) (by omega) hbd hI
    obtain ⟨ts3, e3, c2⟩ := tk_end (run E N) N (drawB E 13) (st := st2) al
    exact ⟨st2, by simp only [e1, aseq, e2, ablock, if_true, e3, aend, hres _ _ _ c2, Option.map_some]⟩

end Go.Proofs.YtjpehemkgikkdaaV
