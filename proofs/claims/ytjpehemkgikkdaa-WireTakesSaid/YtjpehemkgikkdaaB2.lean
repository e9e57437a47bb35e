/- WireBack, walked in the second reading: taking. No condition. -/
import Derived.Test.YtjpehemkgikkdaaB1
namespace Go.Proofs.YtjpehemkgikkdaaV
open Go Go.RowKit Go.Proofs.YtjpehemkgikkdaaA
set_option linter.unusedVariables false
set_option linter.unusedSimpArgs false
set_option maxRecDepth 100000

theorem cf42 (a : List AVal) (st : ASt) : callFuncA E.P 42 a st = some (.enter 42 a st) := rfl
theorem cf35 (a : List AVal) (st : ASt) : callFuncA E.P 35 a st = some (.enter 35 a st) := rfl
theorem cf36 (a : List AVal) (st : ASt) : callFuncA E.P 36 a st = some (.enter 36 a st) := rfl
theorem cf37 (a : List AVal) (st : ASt) : callFuncA E.P 37 a st = some (.enter 37 a st) := rfl
theorem cf38 (a : List AVal) (st : ASt) : callFuncA E.P 38 a st = some (.enter 38 a st) := rfl

theorem outs_split {its : List Item} {i : Nat} (hi : i < its.length) : ∃ r, outs its = outs (its.take i) ++ (its[i].out ++ r) := by
  refine ⟨outs (its.drop (i + 1)), ?_⟩
  have h1 : its = its.take i ++ its[i] :: its.drop (i + 1) := by
    rw [← List.drop_eq_getElem_cons hi, List.take_append_drop]
  conv => lhs; rw [h1]
  unfold outs
  rw [List.flatMap_append, List.flatMap_cons]

theorem rat_gr {st st' : ASt} {s : Nat} {v : AVal} {l : List UInt8} {p e : Nat} (h : RAt st s v l p e) (hg : Gr st st') : RAt st' s v l p e :=
  ⟨Nat.lt_of_lt_of_le h.1 hg.1, by rw [hg.2 s h.1]; exact h.2.1, h.2.2⟩

/-- the writer, where only a reader was turned -/
theorem wat_but {st st' : ASt} {s rs : Nat} {l : List UInt8} {k : Option Nat} (h : WAt st s l k) (hc : st.ctr ≤ st'.ctr) (hf : ∀ j, j < st.ctr → j ≠ rs → st'.heap j = st.heap j) (hs : s ≠ rs) (hk : k ≠ some rs) : WAt st' s l k := by
  have h1 : s < st.ctr := h.1
  refine ⟨Nat.lt_of_lt_of_le h1 hc, ?_⟩
  cases k with
  | none => exact ⟨h.2.1, by rw [hf s h1 hs]; exact h.2.2⟩
  | some t =>
    have h2 : t < st.ctr := h.2.1
    exact ⟨Nat.lt_of_lt_of_le h2 hc, h.2.2.1, by rw [hf s h1 hs]; exact h.2.2.2.1, by rw [hf t h2 (fun e => hk (by rw [e]))]; exact h.2.2.2.2⟩

structure BtI (its : List Item) (i : Nat) (x : AVal) (s : Nat) (kw : Option Nat) (rs : Nat) (v : AVal) (ts : List AVal) (st : ASt) : Prop where
  w : WAt st s (outs its) kw
  r : RAt st rs v (outs its) (outs (its.take i)).length 0
  ne : s ≠ rs
  nk : kw ≠ some rs
  t3 : ts[3]? = some (.ptr s 0)
  t6 : ts[6]? = some (.ptr rs 0)
  t37 : ts[37]? = some x
  t38 : ts[38]? = some (.lit (.int .i64 its.length))
  t39 : ts[39]? = some (.lit (.int .i64 i))
  tl : ts.length = 75

theorem bk_raw {its : List Item} {i : Nat} {s rs : Nat} {kw : Option Nat} {v : AVal} {st : ASt} (hok : ∀ it ∈ its, it.ok) (hlen : (outs its).length ≤ 1600) (hi : i < its.length) (his : its[i].is = true)
    (hw : WAt st s (outs its) kw) (hr : RAt st rs v (outs its) (outs (its.take i)).length 0) (hne : s ≠ rs) (hnk : kw ≠ some rs) :
    ∃ r stR, RetN E 1 42 [.ptr rs 0, .lit (.int .i64 its[i].raw.length)] (laidI st its[i]) r stR ∧ RetN E 1602 17 [r, its[i].v] stR (.lit (.bool true)) stR ∧ stR.heap st.ctr = some (.cells its[i].cs) ∧
      WAt stR s (outs its) kw ∧ RAt stR rs v (outs its) (outs (its.take (i + 1))).length 0 := by
  have ok := hok _ (List.getElem_mem hi)
  have hout : its[i].out = its[i].raw := by unfold Item.out; rw [his]; rfl
  obtain ⟨r, hs⟩ := outs_split hi
  have hst := outs_step hi
  rw [hout] at hs hst
  have hlen2 := hlen
  rw [hs] at hlen2
  simp only [List.length_append] at hlen2
  have hbnd : (outs (its.take i)).length + its[i].raw.length ≤ (outs its).length := by
    conv => rhs; rw [hs]
    simp only [List.length_append]; omega
  obtain ⟨q, stR, n1, b1, r1, c1, f1⟩ := rraw_ok (k := its[i].raw.length) (rat_gr hr (laidI_gr st its[i])) hbnd (by omega)
  have hb : ((outs its).drop (outs (its.take i)).length).take its[i].raw.length = its[i].raw := by
    rw [hs, List.drop_left, List.take_left]
  rw [hb] at b1
  have n2 := eq_run stR b1 ok.2 (by omega)
  rw [beq_self_eq_true] at n2
  have hr1 := hr.1
  refine ⟨q, stR, n1, fun N hN => n2 N (by omega), ?_, wat_but (wat_gr hw (laidI_gr st its[i])) c1 f1 hne hnk, ?_⟩
  · rw [f1 st.ctr (by rw [laidI_ctr]; omega) (by omega)]; exact laidI_at st its[i]
  · rw [hst, List.length_append]; exact r1

theorem bk_num {its : List Item} {i : Nat} {s rs : Nat} {kw : Option Nat} {v : AVal} {st : ASt} (hok : ∀ it ∈ its, it.ok) (hlen : (outs its).length ≤ 1600) (hi : i < its.length) (his : its[i].is = false)
    (hw : WAt st s (outs its) kw) (hr : RAt st rs v (outs its) (outs (its.take i)).length 0) (hne : s ≠ rs) (hnk : kw ≠ some rs) :
    ∃ stR, RetN E 1602 35 [.ptr rs 0] (laidI st its[i]) (.lit (.int .u64 its[i].n)) stR ∧ stR.heap st.ctr = some (.cells its[i].cs) ∧
      WAt stR s (outs its) kw ∧ RAt stR rs v (outs its) (outs (its.take (i + 1))).length 0 := by
  have ok := hok _ (List.getElem_mem hi)
  have hout : its[i].out = enc its[i].n := by unfold Item.out; rw [his]; rfl
  obtain ⟨r, hs⟩ := outs_split hi
  have hst := outs_step hi
  rw [hout] at hs hst
  have hr2 := rat_gr hr (laidI_gr st its[i])
  have hbnd : (outs (its.take i)).length ≤ (outs its).length := by
    conv => rhs; rw [hs]
    simp only [List.length_append]; omega
  have n1 := rnum_run hr2 hbnd (by omega)
  have hb : rd ((outs its).drop (outs (its.take i)).length) 0 0 0 = .inr (its[i].n, (enc its[i].n).length) := by
    rw [hs, List.drop_left, rd_put ok.1]
  rw [hb] at n1
  simp only [if_true, rdVal, rdEnd] at n1
  have hr1 := hr.1
  have hfr : ∀ j, j ≠ rs → (rset (laidI st its[i]) rs v ((outs (its.take i)).length + (enc its[i].n).length) 0).heap j = (laidI st its[i]).heap j := fun j hj => by
    unfold rset; rw [ASt.set_ne _ _ _ _ hj]
  refine ⟨_, fun N hN => n1 N (by omega), ?_, wat_but (wat_gr hw (laidI_gr st its[i])) (Nat.le_refl _) (fun j _ hj => hfr j hj) hne hnk, ?_⟩
  · rw [hfr _ (by omega)]; exact laidI_at st its[i]
  · rw [hst, List.length_append]; exact rset_at hr2 _ _

set_option maxHeartbeats 1000000 in
theorem bk_body2 (N n : Nat) (hN : 2000 ≤ N) {its : List Item} {i : Nat} {x : AVal} {s rs : Nat} {v : AVal} {kw : Option Nat} {ts : List AVal} {st : ASt} (hx : Items x its) (hok : ∀ it ∈ its, it.ok) (hlen : its.length ≤ 40) (hol : (outs its).length ≤ 1600)
    (h : BtI its i x s kw rs v ts st) :
    (i = its.length → ∃ ts', aexec E 14 (run E N) (drawB E 14) n bkL2 ts st = some (.exit 2, ts', st) ∧ ts'[3]? = some (.ptr s 0) ∧ ts'[6]? = some (.ptr rs 0) ∧ ts'.length = 75) ∧
    (i < its.length → ∃ ts' st', aexec E 14 (run E N) (drawB E 14) n bkL2 ts st = some (.normal, ts', st') ∧ BtI its (i + 1) x s kw rs v ts' st') := by
  obtain ⟨hw, hr, hne, hnk, h3, h6, h37, h38, h39, tl⟩ := h
  have hh : ∀ t, E.hint 14 t = false := fun _ => rfl
  refine ⟨fun hi => ?_, fun hi => ?_⟩
  · have hd : decide ((i : Int) < its.length) = false := by rw [decide_eq_false_iff_not]; omega
    simp only [bkL2, code, Try.f14, Option.getD_some, Code.fst, Code.snd, Code.inn, aexec, aops, aop, Region.wanted, ayielded, aexecOp, aeval, aput, aseq, ablock, ahint, absOf, flat, nilCheckA, ANext.ofP, evals, evalPs, evalO, aresults, aresults1, aresult, aend, List.getElem?_set, List.length_set, Option.map_some, Option.bind_some, if_true, if_false, ↓reduceIte, Nat.reduceLT, Nat.reduceEqDiff, reduceCtorEq, Bool.false_eq_true, false_and, and_false, and_true, true_and, Nat.reduceAdd, Nat.reduceLeDiff, callA, List.getElem?_toArray, List.getElem?_cons_succ, List.getElem?_cons_zero, sb1, sb2, sb3, sb4, h3, h6, h37, h38, h39, tl, hh, b_lss, hd]
    exact ⟨_, rfl, by simp only [List.getElem?_set, List.length_set, Nat.reduceLT, Nat.reduceEqDiff, ↓reduceIte, reduceCtorEq, *], by simp only [List.getElem?_set, List.length_set, Nat.reduceLT, Nat.reduceEqDiff, ↓reduceIte, reduceCtorEq, *], by simp only [List.getElem?_set, List.length_set, Nat.reduceLT, Nat.reduceEqDiff, ↓reduceIte, reduceCtorEq, *]⟩
  · have hd : decide ((i : Int) < its.length) = true := by rw [decide_eq_true_eq]; omega
    have ok := hok _ (List.getElem_mem hi)
    obtain ⟨l0, l1, l2⟩ := ld_i (laidI_at st its[i])
    obtain ⟨f0, f1, f2⟩ := fld33 st.ctr
    have hw1 : IntKind.i64.wrap ((i : Int) + 1) = ((i + 1 : Nat) : Int) := by
      simp [IntKind.wrap, IntKind.bits, IntKind.signed]; omega
    have hnot : ∀ b, pureV E.P (Op.unary .not (.bool b)) = some (.lit (.bool (!b))) := fun _ => rfl
    have d1 : drawB E 14 (bkL2.snd.snd.fst.inn.snd.snd.yes.fst.ops) = false := by kernel_rfl
    have d2 : drawB E 14 (bkL2.snd.snd.fst.inn.snd.snd.no.fst.ops) = false := by kernel_rfl
    have p1 : drawPlan E 14 (bkL2.snd.snd.fst.inn.snd.snd.yes.fst.ops) = some [(0, []), (1, []), (2, []), (3, []), (5, []), (6, []), (4, [6]), (7, []), (8, [])] := by kernel_rfl
    have p2 : drawPlan E 14 (bkL2.snd.snd.fst.inn.snd.snd.no.fst.ops) = some [(0, []), (2, []), (3, []), (1, [3]), (4, [])] := by kernel_rfl
    simp only [bkL2, code, Try.f14, Option.getD_some, Code.fst, Code.snd, Code.inn, Code.yes, Code.no, Code.ops] at d1 d2 p1 p2
    cases his : its[i].is with
    | true =>
      obtain ⟨r, stR, n1, n2, hc, hw', hr'⟩ := bk_raw hok hol hi his hw hr hne hnk
      have c1 := n1 N (by omega)
      have c2 := n2 N (by omega)
      obtain ⟨m0, m1, m2⟩ := ld_i hc
      rw [his] at l2
      simp only [bkL2, code, Try.f14, Option.getD_some, Code.fst, Code.snd, Code.inn, aexec, aops, aop, Region.wanted, ayielded, aexecOp, aeval, aput, aseq, ablock, ahint, absOf, flat, nilCheckA, ANext.ofP, evals, evalPs, evalO, aresults, aresults1, aresult, aend, List.getElem?_set, List.length_set, Option.map_some, Option.bind_some, if_true, if_false, ↓reduceIte, Nat.reduceLT, Nat.reduceEqDiff, reduceCtorEq, Bool.false_eq_true, false_and, and_false, and_true, true_and, Nat.reduceAdd, Nat.reduceLeDiff, callA, List.getElem?_toArray, List.getElem?_cons_succ, List.getElem?_cons_zero, sb1, sb2, sb3, sb4, h3, h6, h37, h38, h39, tl, hh, b_lss, hd, idx_items hx hi, load_item, alloc_i, store_i st its[i] ok.2, f0, f1, f2, l1, l2, len_b ok.2, d1, p1, and_self, aopsP, Stills, Still, forall_const, Option.isSome_some, eq_self, m1, cf42, cf17, c1, c2, YtjpehemkgikkdaaA.valOf, hnot, Bool.not_true, b_add, hw1]
      exact ⟨_, _, rfl, ⟨hw', hr', hne, hnk, by simp only [List.getElem?_set, List.length_set, Nat.reduceLT, Nat.reduceEqDiff, ↓reduceIte, reduceCtorEq, *], by simp only [List.getElem?_set, List.length_set, Nat.reduceLT, Nat.reduceEqDiff, ↓reduceIte, reduceCtorEq, *], by simp only [List.getElem?_set, List.length_set, Nat.reduceLT, Nat.reduceEqDiff, ↓reduceIte, reduceCtorEq, *], by simp only [List.getElem?_set, List.length_set, Nat.reduceLT, Nat.reduceEqDiff, ↓reduceIte, reduceCtorEq, *], by simp only [List.getElem?_set, List.length_set, Nat.reduceLT, Nat.reduceEqDiff, ↓reduceIte, reduceCtorEq, *], by simp only [List.getElem?_set, List.length_set, Nat.reduceLT, Nat.reduceEqDiff, ↓reduceIte, reduceCtorEq, *]⟩⟩
    | false =>
      obtain ⟨stR, n1, hc, hw', hr'⟩ := bk_num hok hol hi his hw hr hne hnk
      have c1 := n1 N (by omega)
      obtain ⟨m0, m1, m2⟩ := ld_i hc
      rw [his] at l2
      simp only [bkL2, code, Try.f14, Option.getD_some, Code.fst, Code.snd, Code.inn, aexec, aops, aop, Region.wanted, ayielded, aexecOp, aeval, aput, aseq, ablock, ahint, absOf, flat, nilCheckA, ANext.ofP, evals, evalPs, evalO, aresults, aresults1, aresult, aend, List.getElem?_set, List.length_set, Option.map_some, Option.bind_some, if_true, if_false, ↓reduceIte, Nat.reduceLT, Nat.reduceEqDiff, reduceCtorEq, Bool.false_eq_true, false_and, and_false, and_true, true_and, Nat.reduceAdd, Nat.reduceLeDiff, callA, List.getElem?_toArray, List.getElem?_cons_succ, List.getElem?_cons_zero, sb1, sb2, sb3, sb4, h3, h6, h37, h38, h39, tl, hh, b_lss, hd, idx_items hx hi, load_item, alloc_i, store_i st its[i] ok.2, f0, f1, f2, l0, l1, l2, len_b ok.2, d2, p2, and_self, aopsP, Stills, Still, forall_const, Option.isSome_some, eq_self, m0, cf35, c1, b_neq, bne_self_eq_false, b_add, hw1]
      exact ⟨_, _, rfl, ⟨hw', hr', hne, hnk, by simp only [List.getElem?_set, List.length_set, Nat.reduceLT, Nat.reduceEqDiff, ↓reduceIte, reduceCtorEq, *], by simp only [List.getElem?_set, List.length_set, Nat.reduceLT, Nat.reduceEqDiff, ↓reduceIte, reduceCtorEq, *], by simp only [List.getElem?_set, List.length_set, Nat.reduceLT, Nat.reduceEqDiff, ↓reduceIte, reduceCtorEq, *], by simp only [List.getElem?_set, List.length_set, Nat.reduceLT, Nat.reduceEqDiff, ↓reduceIte, reduceCtorEq, *], by simp only [List.getElem?_set, List.length_set, Nat.reduceLT, Nat.reduceEqDiff, ↓reduceIte, reduceCtorEq, *], by simp only [List.getElem?_set, List.length_set, Nat.reduceLT, Nat.reduceEqDiff, ↓reduceIte, reduceCtorEq, *]⟩⟩

end Go.Proofs.YtjpehemkgikkdaaV
