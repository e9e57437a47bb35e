/- WirePuts, walked in the second reading: a round. No condition. -/
import Derived.Test.YtjpehemkgikkdaaW4
namespace Go.Proofs.YtjpehemkgikkdaaV
open Go Go.RowKit Go.Proofs.YtjpehemkgikkdaaA
set_option linter.unusedVariables false
set_option linter.unusedSimpArgs false
set_option maxRecDepth 100000

theorem b_app {P : Program} {mt : Bool} {t tx ty : TypeId} {cs : Array Bool} {s x : AVal} {st : ASt} : builtinA P mt .append #[t, tx] ty cs [s, x] st = (appendA P mt t tx s x st).map .ofP := rfl

/-- what an item puts -/
def Item.out (it : Item) : List UInt8 := if it.is then it.raw else enc it.n

structure PtI (its : List Item) (i : Nat) (x : AVal) (s : Nat) (l : List UInt8) (kw kt : Option Nat) (ts : List AVal) (st : ASt) : Prop where
  both : Both st s l kw kt
  len : l.length ≤ 40 * i
  t3 : ts[3]? = some (.ptr s 0)
  t4 : ts[4]? = some (wval l kt)
  t12 : ts[12]? = some x
  t13 : ts[13]? = some (.lit (.int .i64 its.length))
  t14 : ts[14]? = some (.lit (.int .i64 i))
  tl : ts.length = 43

set_option maxHeartbeats 1000000 in
theorem pt_body (N n : Nat) (hN : 100 ≤ N) (dr : Array Oper → Bool) {its : List Item} {i : Nat} {x : AVal} {s : Nat} {l : List UInt8} {kw kt : Option Nat} {ts : List AVal} {st : ASt} (hx : Items x its) (hok : ∀ it ∈ its, it.ok) (hlen : its.length ≤ 40)
    (h : PtI its i x s l kw kt ts st) :
    (i = its.length → ∃ ts', aexec E 4 (run E N) dr n ptBody ts st = some (.exit 0, ts', st) ∧ ts'[3]? = some (.ptr s 0) ∧ ts'[4]? = some (wval l kt) ∧ ts'.length = 43) ∧
    (∀ hi : i < its.length, (40 < its[i].raw.length → ∃ ts' st', aexec E 4 (run E N) dr n ptBody ts st = some (.ret, ts', st') ∧ ts'[2]? = some (.lit (.bool true))) ∧
      (its[i].raw.length ≤ 40 → ∃ ts' st' kw' kt', aexec E 4 (run E N) dr n ptBody ts st = some (.normal, ts', st') ∧ PtI its (i + 1) x s (l ++ its[i].out) kw' kt' ts' st')) := by
  obtain ⟨hb, hl, h3, h4, h12, h13, h14, tl⟩ := h
  have hh : ∀ t, E.hint 4 t = false := fun _ => rfl
  refine ⟨fun hi => ?_, fun hi => ⟨fun hr => ?_, fun hr => ?_⟩⟩
  · have hd : decide ((i : Int) < its.length) = false := by rw [decide_eq_false_iff_not]; omega
    simp only [ptBody, code, Try.f4, Option.getD_some, Code.fst, Code.snd, Code.inn, aexec, aops, aop, Region.wanted, ayielded, aexecOp, aeval, aput, aseq, ablock, ahint, absOf, flat, nilCheckA, ANext.ofP, evals, evalPs, evalO, aresults, aresults1, aresult, aend, List.getElem?_set, List.length_set, Option.map_some, Option.bind_some, if_true, if_false, ↓reduceIte, Nat.reduceLT, Nat.reduceEqDiff, reduceCtorEq, Bool.false_eq_true, false_and, and_false, and_true, true_and, Nat.reduceAdd, Nat.reduceLeDiff, callA, List.getElem?_toArray, List.getElem?_cons_succ, List.getElem?_cons_zero, sb1, sb2, sb3, sb4, h3, h4, h12, h13, h14, tl, hh, b_lss, hd]
    exact ⟨_, rfl, by simp only [List.getElem?_set, List.length_set, Nat.reduceLT, Nat.reduceEqDiff, ↓reduceIte, reduceCtorEq, *], by simp only [List.getElem?_set, List.length_set, Nat.reduceLT, Nat.reduceEqDiff, ↓reduceIte, reduceCtorEq, *], by simp only [List.getElem?_set, List.length_set, Nat.reduceLT, Nat.reduceEqDiff, ↓reduceIte, reduceCtorEq, *]⟩
  · have hd : decide ((i : Int) < its.length) = true := by rw [decide_eq_true_eq]; omega
    have ok := hok _ (List.getElem_mem hi)
    obtain ⟨l0, l1, l2⟩ := ld_i (laidI_at st its[i])
    obtain ⟨f0, f1, f2⟩ := fld33 st.ctr
    have hg : decide (((its[i].raw.length : Nat) : Int) > 40) = true := by rw [decide_eq_true_eq]; omega
    simp only [ptBody, code, Try.f4, Option.getD_some, Code.fst, Code.snd, Code.inn, aexec, aops, aop, Region.wanted, ayielded, aexecOp, aeval, aput, aseq, ablock, ahint, absOf, flat, nilCheckA, ANext.ofP, evals, evalPs, evalO, aresults, aresults1, aresult, aend, List.getElem?_set, List.length_set, Option.map_some, Option.bind_some, if_true, if_false, ↓reduceIte, Nat.reduceLT, Nat.reduceEqDiff, reduceCtorEq, Bool.false_eq_true, false_and, and_false, and_true, true_and, Nat.reduceAdd, Nat.reduceLeDiff, callA, List.getElem?_toArray, List.getElem?_cons_succ, List.getElem?_cons_zero, sb1, sb2, sb3, sb4, h3, h4, h12, h13, h14, tl, hh, b_lss, hd, idx_items hx hi, load_item, alloc_i, store_i st its[i] ok.2, f1, l1, len_b ok.2, b_gtr, hg]
    exact ⟨_, _, rfl, by simp only [List.getElem?_set, List.length_set, Nat.reduceLT, Nat.reduceEqDiff, ↓reduceIte, reduceCtorEq, *]⟩
  · have hd : decide ((i : Int) < its.length) = true := by rw [decide_eq_true_eq]; omega
    have ok := hok _ (List.getElem_mem hi)
    obtain ⟨l0, l1, l2⟩ := ld_i (laidI_at st its[i])
    obtain ⟨f0, f1, f2⟩ := fld33 st.ctr
    have hg : decide (((its[i].raw.length : Nat) : Int) > 40) = false := by rw [decide_eq_false_iff_not]; omega
    have hw : IntKind.i64.wrap ((i : Int) + 1) = ((i + 1 : Nat) : Int) := by
      simp [IntKind.wrap, IntKind.bits, IntKind.signed]; omega
    have hbB := hb.gr (laidI_gr st its[i])
    have hs0 := hb.w.1
    have s6ne : st.ctr ≠ s := by omega
    have s6kw : kw ≠ some st.ctr := fun e => by have := hb.lt _ e; omega
    cases his : its[i].is with
    | true =>
      obtain ⟨stC, kw', n1, w1⟩ := raw_run hbB.w (src_b ok.2 _) (by omega)
      have lC : stC.heap st.ctr = some (.cells its[i].cs) := by
        rw [w1.fr.2 st.ctr (by rw [laidI_ctr]; omega) s6ne s6kw]; exact laidI_at st its[i]
      obtain ⟨m0, m1, m2⟩ := ld_i lC
      obtain ⟨kt', stD, e2, o2, c2, fr2, k2⟩ := app_room (own_fr hbB w1) (src_b ok.2 stC) (by omega)
      have hbD := both_step hbB w1 o2 c2 fr2 k2
      have c1 := n1 N (by omega)
      have hout : its[i].out = its[i].raw := by unfold Item.out; rw [his]; rfl
      rw [his] at l2
      rw [hout]
      simp only [ptBody, code, Try.f4, Option.getD_some, Code.fst, Code.snd, Code.inn, aexec, aops, aop, Region.wanted, ayielded, aexecOp, aeval, aput, aseq, ablock, ahint, absOf, flat, nilCheckA, ANext.ofP, evals, evalPs, evalO, aresults, aresults1, aresult, aend, List.getElem?_set, List.length_set, Option.map_some, Option.bind_some, if_true, if_false, ↓reduceIte, Nat.reduceLT, Nat.reduceEqDiff, reduceCtorEq, Bool.false_eq_true, false_and, and_false, and_true, true_and, Nat.reduceAdd, Nat.reduceLeDiff, callA, List.getElem?_toArray, List.getElem?_cons_succ, List.getElem?_cons_zero, sb1, sb2, sb3, sb4, h3, h4, h12, h13, h14, tl, hh, b_lss, hd, idx_items hx hi, load_item, alloc_i, store_i st its[i] ok.2, f0, f1, f2, l1, l2, len_b ok.2, b_gtr, hg, cf19, c1, m1, b_app, e2, b_add, hw]
      exact ⟨_, _, kw', kt', rfl, hbD, by simp only [List.length_append]; omega, by simp only [List.getElem?_set, List.length_set, Nat.reduceLT, Nat.reduceEqDiff, ↓reduceIte, reduceCtorEq, *], by simp only [List.getElem?_set, List.length_set, Nat.reduceLT, Nat.reduceEqDiff, ↓reduceIte, reduceCtorEq, *], by simp only [List.getElem?_set, List.length_set, Nat.reduceLT, Nat.reduceEqDiff, ↓reduceIte, reduceCtorEq, *], by simp only [List.getElem?_set, List.length_set, Nat.reduceLT, Nat.reduceEqDiff, ↓reduceIte, reduceCtorEq, *], by simp only [List.getElem?_set, List.length_set, Nat.reduceLT, Nat.reduceEqDiff, ↓reduceIte, reduceCtorEq, *], by simp only [List.getElem?_set, List.length_set, Nat.reduceLT, Nat.reduceEqDiff, ↓reduceIte, reduceCtorEq, *]⟩
    | false =>
      obtain ⟨stC, kw', n1, w1⟩ := num_run hbB.w ok.1 (by omega)
      have lC : stC.heap st.ctr = some (.cells its[i].cs) := by
        rw [w1.fr.2 st.ctr (by rw [laidI_ctr]; omega) s6ne s6kw]; exact laidI_at st its[i]
      obtain ⟨m0, m1, m2⟩ := ld_i lC
      obtain ⟨v2, stE, n2, b2, g2⟩ := refnum_run 9 its[i].n stC (lt_enc ok.1) ok.1 (Nat.le_refl _)
      have henc := enc_len its[i].n
      have hE : Own' stE l kt := ⟨hb.t.nil, fun t e => by
        obtain ⟨q1, q2⟩ := (own_fr hbB w1).room t e
        exact ⟨Nat.lt_of_lt_of_le q1 g2.1, by rw [g2.2 t q1]; exact q2⟩⟩
      obtain ⟨kt', stD, e2, o2, c2, fr2, k2⟩ := app_room hE (src_b b2 stE) (by have := encF_len 9 its[i].n; omega)
      have hbD := both_step hbB w1 o2 (Nat.le_trans g2.1 c2) (fun j hj hk => by rw [fr2 j (Nat.lt_of_lt_of_le hj g2.1) hk, g2.2 j hj]) (fun j e => by
        rcases k2 j e with h1 | h1
        · exact .inl (Nat.le_trans g2.1 h1)
        · exact .inr h1)
      have c1 := n1 N (by omega)
      have c3 := n2 N (by omega)
      have hout : its[i].out = enc its[i].n := by unfold Item.out; rw [his]; rfl
      rw [his] at l2
      rw [hout]
      simp only [ptBody, code, Try.f4, Option.getD_some, Code.fst, Code.snd, Code.inn, aexec, aops, aop, Region.wanted, ayielded, aexecOp, aeval, aput, aseq, ablock, ahint, absOf, flat, nilCheckA, ANext.ofP, evals, evalPs, evalO, aresults, aresults1, aresult, aend, List.getElem?_set, List.length_set, Option.map_some, Option.bind_some, if_true, if_false, ↓reduceIte, Nat.reduceLT, Nat.reduceEqDiff, reduceCtorEq, Bool.false_eq_true, false_and, and_false, and_true, true_and, Nat.reduceAdd, Nat.reduceLeDiff, callA, List.getElem?_toArray, List.getElem?_cons_succ, List.getElem?_cons_zero, sb1, sb2, sb3, sb4, h3, h4, h12, h13, h14, tl, hh, b_lss, hd, idx_items hx hi, load_item, alloc_i, store_i st its[i] ok.2, f0, f1, f2, l0, l1, l2, len_b ok.2, b_gtr, hg, cf16, cf20, c1, c3, m0, b_app, e2, b_add, hw]
      exact ⟨_, _, kw', kt', rfl, hbD, by simp only [List.length_append]; omega, by simp only [List.getElem?_set, List.length_set, Nat.reduceLT, Nat.reduceEqDiff, ↓reduceIte, reduceCtorEq, *], by simp only [List.getElem?_set, List.length_set, Nat.reduceLT, Nat.reduceEqDiff, ↓reduceIte, reduceCtorEq, *]; rfl, by simp only [List.getElem?_set, List.length_set, Nat.reduceLT, Nat.reduceEqDiff, ↓reduceIte, reduceCtorEq, *], by simp only [List.getElem?_set, List.length_set, Nat.reduceLT, Nat.reduceEqDiff, ↓reduceIte, reduceCtorEq, *], by simp only [List.getElem?_set, List.length_set, Nat.reduceLT, Nat.reduceEqDiff, ↓reduceIte, reduceCtorEq, *], by simp only [List.getElem?_set, List.length_set, Nat.reduceLT, Nat.reduceEqDiff, ↓reduceIte, reduceCtorEq, *]⟩

end Go.Proofs.YtjpehemkgikkdaaV
