/- WireBack, walked in the second reading: putting. No condition. -/
import Derived.Test.YtjpehemkgikkdaaW6
import Derived.Test.YtjpehemkgikkdaaRA
namespace Go.Proofs.YtjpehemkgikkdaaV
open Go Go.RowKit Go.Proofs.YtjpehemkgikkdaaA
set_option linter.unusedVariables false
set_option linter.unusedSimpArgs false
set_option maxRecDepth 100000

noncomputable def bkPre : Code := .seq (code Try.f14).fst (.seq (code Try.f14).snd.fst (.seq (code Try.f14).snd.snd.fst (.seq (code Try.f14).snd.snd.snd.fst (code Try.f14).snd.snd.snd.snd.fst.fst)))
noncomputable def bkL1 : Code := (code Try.f14).snd.snd.snd.snd.fst.snd.inn
noncomputable def bkMid : Code := .seq (code Try.f14).snd.snd.snd.snd.snd.fst (.seq (code Try.f14).snd.snd.snd.snd.snd.snd.fst (code Try.f14).snd.snd.snd.snd.snd.snd.snd.fst.fst)
noncomputable def bkL2 : Code := (code Try.f14).snd.snd.snd.snd.snd.snd.snd.fst.snd.inn
noncomputable def bkEnd : Code := (code Try.f14).snd.snd.snd.snd.snd.snd.snd.snd

theorem bk_eq : code Try.f14 = .seq (code Try.f14).fst (.seq (code Try.f14).snd.fst (.seq (code Try.f14).snd.snd.fst (.seq (code Try.f14).snd.snd.snd.fst (.seq (.seq (code Try.f14).snd.snd.snd.snd.fst.fst (.block 0 (.loop bkL1)))
    (.seq (code Try.f14).snd.snd.snd.snd.snd.fst (.seq (code Try.f14).snd.snd.snd.snd.snd.snd.fst (.seq (.seq (code Try.f14).snd.snd.snd.snd.snd.snd.snd.fst.fst (.block 2 (.loop bkL2))) bkEnd))))))) := rfl

theorem bk_parts (call : ACall) (dr : Array Oper → Bool) (n : Nat) (ts : List AVal) (st : ASt) : aexec E 14 call dr n (code Try.f14) ts st =
    aseq (aexec E 14 call dr n bkPre ts st) fun ts st => aseq (ablock 0 (aloop (aexec E 14 call dr n bkL1) n ts st)) fun ts st =>
      aseq (aexec E 14 call dr n bkMid ts st) fun ts st => aseq (ablock 2 (aloop (aexec E 14 call dr n bkL2) n ts st)) (aexec E 14 call dr n bkEnd) := by
  rw [bk_eq, bkPre, bkMid]
  simp only [aexec_seq, aexec_block, aexec_loop, aseq_assoc]

/-- what items put -/
def outs (its : List Item) : List UInt8 := its.flatMap Item.out
theorem outs_step {its : List Item} {i : Nat} (hi : i < its.length) : outs (its.take (i + 1)) = outs (its.take i) ++ its[i].out := by
  unfold outs
  rw [List.take_succ_eq_append_getElem hi, List.flatMap_append]
  simp

structure BkI (its : List Item) (i : Nat) (x : AVal) (s : Nat) (kw : Option Nat) (ts : List AVal) (st : ASt) : Prop where
  w : WAt st s (outs (its.take i)) kw
  len : (outs (its.take i)).length ≤ 40 * i
  t0 : ts[0]? = some x
  t3 : ts[3]? = some (.ptr s 0)
  t14 : ts[14]? = some x
  t15 : ts[15]? = some (.lit (.int .i64 its.length))
  t16 : ts[16]? = some (.lit (.int .i64 i))
  tl : ts.length = 75

set_option maxHeartbeats 1000000 in
theorem bk_body1 (N n : Nat) (hN : 100 ≤ N) (dr : Array Oper → Bool) {its : List Item} {i : Nat} {x : AVal} {s : Nat} {kw : Option Nat} {ts : List AVal} {st : ASt} (hx : Items x its) (hok : ∀ it ∈ its, it.ok) (hlen : its.length ≤ 40)
    (h : BkI its i x s kw ts st) :
    (i = its.length → ∃ ts', aexec E 14 (run E N) dr n bkL1 ts st = some (.exit 0, ts', st) ∧ ts'[0]? = some x ∧ ts'[3]? = some (.ptr s 0) ∧ ts'.length = 75) ∧
    (∀ hi : i < its.length, (40 < its[i].raw.length → ∃ ts' st', aexec E 14 (run E N) dr n bkL1 ts st = some (.ret, ts', st') ∧ ts'[2]? = some (.lit (.bool true))) ∧
      (its[i].raw.length ≤ 40 → ∃ ts' st' kw', aexec E 14 (run E N) dr n bkL1 ts st = some (.normal, ts', st') ∧ BkI its (i + 1) x s kw' ts' st')) := by
  obtain ⟨hb, hl, h0, h3, h14, h15, h16, tl⟩ := h
  have hh : ∀ t, E.hint 14 t = false := fun _ => rfl
  refine ⟨fun hi => ?_, fun hi => ⟨fun hr => ?_, fun hr => ?_⟩⟩
  · have hd : decide ((i : Int) < its.length) = false := by rw [decide_eq_false_iff_not]; omega
    simp only [bkL1, code, Try.f14, Option.getD_some, Code.fst, Code.snd, Code.inn, aexec, aops, aop, Region.wanted, ayielded, aexecOp, aeval, aput, aseq, ablock, ahint, absOf, flat, nilCheckA, ANext.ofP, evals, evalPs, evalO, aresults, aresults1, aresult, aend, List.getElem?_set, List.length_set, Option.map_some, Option.bind_some, if_true, if_false, ↓reduceIte, Nat.reduceLT, Nat.reduceEqDiff, reduceCtorEq, Bool.false_eq_true, false_and, and_false, and_true, true_and, Nat.reduceAdd, Nat.reduceLeDiff, callA, List.getElem?_toArray, List.getElem?_cons_succ, List.getElem?_cons_zero, sb1, sb2, sb3, sb4, h3, h14, h15, h16, tl, hh, b_lss, hd]
    exact ⟨_, rfl, by simp only [List.getElem?_set, List.length_set, Nat.reduceLT, Nat.reduceEqDiff, ↓reduceIte, reduceCtorEq, *], by simp only [List.getElem?_set, List.length_set, Nat.reduceLT, Nat.reduceEqDiff, ↓reduceIte, reduceCtorEq, *], by simp only [List.getElem?_set, List.length_set, Nat.reduceLT, Nat.reduceEqDiff, ↓reduceIte, reduceCtorEq, *]⟩
  · have hd : decide ((i : Int) < its.length) = true := by rw [decide_eq_true_eq]; omega
    have ok := hok _ (List.getElem_mem hi)
    obtain ⟨l0, l1, l2⟩ := ld_i (laidI_at st its[i])
    obtain ⟨f0, f1, f2⟩ := fld33 st.ctr
    have hg : decide (((its[i].raw.length : Nat) : Int) > 40) = true := by rw [decide_eq_true_eq]; omega
    simp only [bkL1, code, Try.f14, Option.getD_some, Code.fst, Code.snd, Code.inn, aexec, aops, aop, Region.wanted, ayielded, aexecOp, aeval, aput, aseq, ablock, ahint, absOf, flat, nilCheckA, ANext.ofP, evals, evalPs, evalO, aresults, aresults1, aresult, aend, List.getElem?_set, List.length_set, Option.map_some, Option.bind_some, if_true, if_false, ↓reduceIte, Nat.reduceLT, Nat.reduceEqDiff, reduceCtorEq, Bool.false_eq_true, false_and, and_false, and_true, true_and, Nat.reduceAdd, Nat.reduceLeDiff, callA, List.getElem?_toArray, List.getElem?_cons_succ, List.getElem?_cons_zero, sb1, sb2, sb3, sb4, h3, h14, h15, h16, tl, hh, b_lss, hd, idx_items hx hi, load_item, alloc_i, store_i st its[i] ok.2, f1, l1, len_b ok.2, b_gtr, hg]
    exact ⟨_, _, rfl, by simp only [List.getElem?_set, List.length_set, Nat.reduceLT, Nat.reduceEqDiff, ↓reduceIte, reduceCtorEq, *]⟩
  · have hd : decide ((i : Int) < its.length) = true := by rw [decide_eq_true_eq]; omega
    have ok := hok _ (List.getElem_mem hi)
    obtain ⟨l0, l1, l2⟩ := ld_i (laidI_at st its[i])
    obtain ⟨f0, f1, f2⟩ := fld33 st.ctr
    have hg : decide (((its[i].raw.length : Nat) : Int) > 40) = false := by rw [decide_eq_false_iff_not]; omega
    have hw : IntKind.i64.wrap ((i : Int) + 1) = ((i + 1 : Nat) : Int) := by
      simp [IntKind.wrap, IntKind.bits, IntKind.signed]; omega
    have hbB := wat_gr hb (laidI_gr st its[i])
    have hout := outs_step hi
    cases his : its[i].is with
    | true =>
      obtain ⟨stC, kw', n1, w1⟩ := raw_run hbB (src_b ok.2 _) (by omega)
      have c1 := n1 N (by omega)
      have hout2 : its[i].out = its[i].raw := by unfold Item.out; rw [his]; rfl
      rw [his] at l2
      rw [hout2] at hout
      simp only [bkL1, code, Try.f14, Option.getD_some, Code.fst, Code.snd, Code.inn, aexec, aops, aop, Region.wanted, ayielded, aexecOp, aeval, aput, aseq, ablock, ahint, absOf, flat, nilCheckA, ANext.ofP, evals, evalPs, evalO, aresults, aresults1, aresult, aend, List.getElem?_set, List.length_set, Option.map_some, Option.bind_some, if_true, if_false, ↓reduceIte, Nat.reduceLT, Nat.reduceEqDiff, reduceCtorEq, Bool.false_eq_true, false_and, and_false, and_true, true_and, Nat.reduceAdd, Nat.reduceLeDiff, callA, List.getElem?_toArray, List.getElem?_cons_succ, List.getElem?_cons_zero, sb1, sb2, sb3, sb4, h3, h14, h15, h16, tl, hh, b_lss, hd, idx_items hx hi, load_item, alloc_i, store_i st its[i] ok.2, f0, f1, f2, l1, l2, len_b ok.2, b_gtr, hg, cf19, c1, b_add, hw]
      exact ⟨_, _, kw', rfl, by rw [hout]; exact w1.at', by rw [hout]; simp only [List.length_append]; omega, by simp only [List.getElem?_set, List.length_set, Nat.reduceLT, Nat.reduceEqDiff, ↓reduceIte, reduceCtorEq, *], by simp only [List.getElem?_set, List.length_set, Nat.reduceLT, Nat.reduceEqDiff, ↓reduceIte, reduceCtorEq, *], by simp only [List.getElem?_set, List.length_set, Nat.reduceLT, Nat.reduceEqDiff, ↓reduceIte, reduceCtorEq, *], by simp only [List.getElem?_set, List.length_set, Nat.reduceLT, Nat.reduceEqDiff, ↓reduceIte, reduceCtorEq, *], by simp only [List.getElem?_set, List.length_set, Nat.reduceLT, Nat.reduceEqDiff, ↓reduceIte, reduceCtorEq, *], by simp only [List.getElem?_set, List.length_set, Nat.reduceLT, Nat.reduceEqDiff, ↓reduceIte, reduceCtorEq, *]⟩
    | false =>
      obtain ⟨stC, kw', n1, w1⟩ := num_run hbB ok.1 (by omega)
      have henc := enc_len its[i].n
      have c1 := n1 N (by omega)
      have hout2 : its[i].out = enc its[i].n := by unfold Item.out; rw [his]; rfl
      rw [his] at l2
      rw [hout2] at hout
      simp only [bkL1, code, Try.f14, Option.getD_some, Code.fst, Code.snd, Code.inn, aexec, aops, aop, Region.wanted, ayielded, aexecOp, aeval, aput, aseq, ablock, ahint, absOf, flat, nilCheckA, ANext.ofP, evals, evalPs, evalO, aresults, aresults1, aresult, aend, List.getElem?_set, List.length_set, Option.map_some, Option.bind_some, if_true, if_false, ↓reduceIte, Nat.reduceLT, Nat.reduceEqDiff, reduceCtorEq, Bool.false_eq_true, false_and, and_false, and_true, true_and, Nat.reduceAdd, Nat.reduceLeDiff, callA, List.getElem?_toArray, List.getElem?_cons_succ, List.getElem?_cons_zero, sb1, sb2, sb3, sb4, h3, h14, h15, h16, tl, hh, b_lss, hd, idx_items hx hi, load_item, alloc_i, store_i st its[i] ok.2, f0, f1, f2, l0, l1, l2, len_b ok.2, b_gtr, hg, cf16, c1, b_add, hw]
      exact ⟨_, _, kw', rfl, by rw [hout]; exact w1.at', by rw [hout]; simp only [List.length_append]; omega, by simp only [List.getElem?_set, List.length_set, Nat.reduceLT, Nat.reduceEqDiff, ↓reduceIte, reduceCtorEq, *], by simp only [List.getElem?_set, List.length_set, Nat.reduceLT, Nat.reduceEqDiff, ↓reduceIte, reduceCtorEq, *], by simp only [List.getElem?_set, List.length_set, Nat.reduceLT, Nat.reduceEqDiff, ↓reduceIte, reduceCtorEq, *], by simp only [List.getElem?_set, List.length_set, Nat.reduceLT, Nat.reduceEqDiff, ↓reduceIte, reduceCtorEq, *], by simp only [List.getElem?_set, List.length_set, Nat.reduceLT, Nat.reduceEqDiff, ↓reduceIte, reduceCtorEq, *], by simp only [List.getElem?_set, List.length_set, Nat.reduceLT, Nat.reduceEqDiff, ↓reduceIte, reduceCtorEq, *]⟩

theorem bk_pre (N n d0 : Nat) (dr : Array Oper → Bool) {its : List Item} {x : AVal} {s0 : ASt} {ts : List AVal} (hx : Items x its) (hA : RetN E d0 15 [] st0 (.lit (.bool true)) s0) (hN : d0 ≤ N) (h0 : ts[0]? = some x) (tl : ts.length = 75) :
    (40 < its.length → ∃ ts' st', aexec E 14 (run E N) dr n bkPre ts st0 = some (.ret, ts', st') ∧ ts'[2]? = some (.lit (.bool true))) ∧
    (its.length ≤ 40 → ∃ ts', aexec E 14 (run E N) dr n bkPre ts st0 = some (.normal, ts', s0.new (.cells [.nilSlice])) ∧ BkI its 0 x s0.ctr none ts' (s0.new (.cells [.nilSlice]))) := by
  have hh : ∀ t, E.hint 14 t = false := fun _ => rfl
  have c0 := hA N hN
  have hnot : ∀ b, pureV E.P (Op.unary .not (.bool b)) = some (.lit (.bool (!b))) := fun _ => rfl
  refine ⟨fun hl => ?_, fun hl => ?_⟩
  · have hd : decide (((its.length : Nat) : Int) > 40) = true := by rw [decide_eq_true_eq]; omega
    simp only [bkPre, code, Try.f14, Option.getD_some, Code.fst, Code.snd, Code.inn, aexec, aops, aop, Region.wanted, ayielded, aexecOp, aeval, aput, aseq, ablock, ahint, absOf, flat, nilCheckA, ANext.ofP, evals, evalPs, evalO, aresults, aresults1, aresult, aend, List.getElem?_set, List.length_set, Option.map_some, Option.bind_some, if_true, if_false, ↓reduceIte, Nat.reduceLT, Nat.reduceEqDiff, reduceCtorEq, Bool.false_eq_true, false_and, and_false, and_true, true_and, Nat.reduceAdd, Nat.reduceLeDiff, callA, List.getElem?_toArray, List.getElem?_cons_succ, List.getElem?_cons_zero, sb1, sb2, sb3, sb4, h0, tl, hh, cf15, c0, YtjpehemkgikkdaaA.valOf, hnot, Bool.not_true, len_items hx, b_gtr, hd]
    exact ⟨_, _, rfl, by simp only [List.getElem?_set, List.length_set, Nat.reduceLT, Nat.reduceEqDiff, ↓reduceIte, reduceCtorEq, *]⟩
  · have hd : decide (((its.length : Nat) : Int) > 40) = false := by rw [decide_eq_false_iff_not]; omega
    simp only [bkPre, code, Try.f14, Option.getD_some, Code.fst, Code.snd, Code.inn, aexec, aops, aop, Region.wanted, ayielded, aexecOp, aeval, aput, aseq, ablock, ahint, absOf, flat, nilCheckA, ANext.ofP, evals, evalPs, evalO, aresults, aresults1, aresult, aend, List.getElem?_set, List.length_set, Option.map_some, Option.bind_some, if_true, if_false, ↓reduceIte, Nat.reduceLT, Nat.reduceEqDiff, reduceCtorEq, Bool.false_eq_true, false_and, and_false, and_true, true_and, Nat.reduceAdd, Nat.reduceLeDiff, callA, List.getElem?_toArray, List.getElem?_cons_succ, List.getElem?_cons_zero, sb1, sb2, sb3, sb4, h0, tl, hh, cf15, c0, YtjpehemkgikkdaaA.valOf, hnot, Bool.not_true, len_items hx, b_gtr, hd, alloc_w]
    exact ⟨_, rfl, ⟨wat_init s0, by simp [outs], by simp only [List.getElem?_set, List.length_set, Nat.reduceLT, Nat.reduceEqDiff, ↓reduceIte, reduceCtorEq, *], by simp only [List.getElem?_set, List.length_set, Nat.reduceLT, Nat.reduceEqDiff, ↓reduceIte, reduceCtorEq, *], by simp only [List.getElem?_set, List.length_set, Nat.reduceLT, Nat.reduceEqDiff, ↓reduceIte, reduceCtorEq, *], by simp only [List.getElem?_set, List.length_set, Nat.reduceLT, Nat.reduceEqDiff, ↓reduceIte, reduceCtorEq, *], by simp only [List.getElem?_set, List.length_set, Nat.reduceLT, Nat.reduceEqDiff, ↓reduceIte, reduceCtorEq, *]; rfl, by simp only [List.getElem?_set, List.length_set, Nat.reduceLT, Nat.reduceEqDiff, ↓reduceIte, reduceCtorEq, *]⟩⟩

theorem bk_loop1 (N n : Nat) (hN : 100 ≤ N) (hn : 40 < n) (dr : Array Oper → Bool) {its : List Item} {x : AVal} {s : Nat} {ts : List AVal} {st : ASt} (hx : Items x its) (hok : ∀ it ∈ its, it.ok) (hlen : its.length ≤ 40)
    (h : BkI its 0 x s none ts st) :
    ∃ e ts' st', aloop (aexec E 14 (run E N) dr n bkL1) n ts st = some (e, ts', st') ∧ ((e = .ret ∧ ts'[2]? = some (.lit (.bool true))) ∨
      (e = .exit 0 ∧ ∃ kw, WAt st' s (outs its) kw ∧ (outs its).length ≤ 1600 ∧ ts'[0]? = some x ∧ ts'[3]? = some (.ptr s 0) ∧ ts'.length = 75)) := by
  exact aloop_rule (b := aexec E 14 (run E N) dr n bkL1)
    (I := fun k ts st => ∃ i kw, k + i = its.length ∧ BkI its i x s kw ts st)
    (Q := fun e ts' st' => (e = .ret ∧ ts'[2]? = some (.lit (.bool true))) ∨
      (e = .exit 0 ∧ ∃ kw, WAt st' s (outs its) kw ∧ (outs its).length ≤ 1600 ∧ ts'[0]? = some x ∧ ts'[3]? = some (.ptr s 0) ∧ ts'.length = 75))
    (step := by
      rintro k ts st ⟨i, kw, hi, hI⟩
      have hb := bk_body1 N n hN dr hx hok hlen hI
      by_cases he : i = its.length
      · obtain ⟨ts', e, a0, a3, al⟩ := hb.1 he
        have h1 := hI.len
        have h2 := hI.w
        rw [he, List.take_length] at h1 h2
        exact .inr ⟨_, ts', _, e, by simp, .inr ⟨rfl, kw, h2, by omega, a0, a3, al⟩⟩
      · have hlt : i < its.length := by omega
        by_cases hr : 40 < its[i].raw.length
        · obtain ⟨ts', st', e, a2⟩ := (hb.2 hlt).1 hr
          exact .inr ⟨_, ts', st', e, by simp, .inl ⟨rfl, a2⟩⟩
        · obtain ⟨ts', st', kw', e, hI'⟩ := (hb.2 hlt).2 (by omega)
          exact .inl ⟨ts', st', e, k - 1, by omega, i + 1, kw', by omega, hI'⟩)
    n its.length ts st ⟨0, none, by omega, h⟩ (by omega)

end Go.Proofs.YtjpehemkgikkdaaV
