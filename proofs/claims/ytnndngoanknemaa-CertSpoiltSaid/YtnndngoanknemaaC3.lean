/- plan.Same, walked; CertApart. No condition. -/
import Derived.Test.YtnndngoanknemaaC2
namespace Go.Proofs.YtnndngoanknemaaV
open Go Go.RowKit Go.Proofs.YtnndngoanknemaaA
set_option linter.unusedVariables false
set_option linter.unusedSimpArgs false
set_option maxRecDepth 100000

/-! ### nodes compared -/
deriving instance DecidableEq for Nd
def ndEq (a b : Nd) : Bool := (a.th == b.th) && (((a.sl : Int) == b.sl) && (((a.so : Int) == b.so) && ((a.kd == b.kd) && true)))
theorem nd_held : E.P.stoodInHeld 53 = false := by kernel_rfl
theorem nd_guard : E.P.eqGuardType E.P.depth 53 = false := by kernel_rfl
theorem nd_flds (a b : Nd) : eqFldA E.P (E.P.fieldsOf 53).toList a.cs b.cs = some (ndEq a b) := by kernel_rfl
theorem nd_und : ∃ fs, E.P.underlying 53 = some (.struct fs) := ⟨_, rfl⟩
theorem nd_neq (xo yo : Operand) (a b : Nd) : binA E.P .neq 53 xo yo a.a b.a = some (.lit (.bool (!ndEq a b))) := by
  obtain ⟨fs, hu⟩ := nd_und
  have e : eqAggA E.P 53 a.a b.a = some (ndEq a b) := by
    simp only [eqAggA, Nd.a, hu, nd_held, nd_guard, and_self, if_true, nd_flds]
  simp only [binA, e]
  rfl
theorem ndEq_iff (a b : Nd) : ndEq a b = true ↔ a = b := by
  obtain ⟨a1, a2, a3, a4⟩ := a
  obtain ⟨b1, b2, b3, b4⟩ := b
  simp only [ndEq, Bool.and_eq_true, beq_iff_eq, Nd.mk.injEq, and_true]
  omega
theorem ndEq_self (a : Nd) : ndEq a a = true := (ndEq_iff a a).2 rfl
theorem ndEq_ne {a b : Nd} (h : a ≠ b) : ndEq a b = false := by
  cases e : ndEq a b with
  | false => rfl
  | true => exact absurd ((ndEq_iff a b).1 e) h

noncomputable def nqBody : Code := (code Try.f26).snd.snd.fst.snd.inn
noncomputable def nqTail : Code := (code Try.f26).snd.snd.snd
noncomputable def nqInit : Code := (code Try.f26).snd.snd.fst.fst
noncomputable def nqFst : Code := (code Try.f26).snd.fst
theorem nq_code : code Try.f26 = .seq (code Try.f26).fst (.seq nqFst (.seq (.seq nqInit (.block 0 (.loop nqBody))) nqTail)) := rfl

set_option maxHeartbeats 1000000 in
theorem nq_body (call : ACall) (n : Nat) {x y : AVal} {l1 l2 : List Nd} {st : ASt} {ts : List AVal} {i : Nat} (hx : PS st x l1) (hy : PS st y l2) (hll : l1.length = l2.length)
    (h0 : ts[0]? = some x) (h1 : ts[1]? = some y) (h12 : ts[12]? = some (.lit (.int .i64 l1.length))) (h13 : ts[13]? = some (.lit (.int .i64 i))) (hl : ts.length = 26) (hlt : l1.length ≤ 1000000) :
    (i = l1.length → ∃ ts', aexec E 26 call (drawB E 26) n nqBody ts st = some (.exit 0, ts', st) ∧ ts'.length = 26) ∧
    (∀ h : i < l1.length, (l1[i] = l2[i]'(hll ▸ h) → ∃ ts', aexec E 26 call (drawB E 26) n nqBody ts st = some (.normal, ts', st) ∧ ts'[0]? = some x ∧ ts'[1]? = some y ∧ ts'[12]? = some (.lit (.int .i64 l1.length)) ∧ ts'[13]? = some (.lit (.int .i64 (i + 1 : Nat))) ∧ ts'.length = 26) ∧
      (l1[i] ≠ l2[i]'(hll ▸ h) → ∃ ts', aexec E 26 call (drawB E 26) n nqBody ts st = some (.ret, ts', st) ∧ ts'[4]? = some (.lit (.bool false)))) := by
  have hh : ∀ t, E.hint 26 t = false := fun _ => rfl
  have hdr : drawB E 26 (nqBody.snd.snd.fst.inn.snd.fst.ops) = true := by kernel_rfl
  simp only [nqBody, code, Try.f26, Option.getD_some, Code.fst, Code.snd, Code.inn, Code.ops] at hdr
  refine ⟨fun hi => ?_, fun hi => ⟨fun he => ?_, fun he => ?_⟩⟩
  · have hd : decide ((i : Int) < l1.length) = false := by simp; omega
    simp only [nqBody, code, Try.f26, Option.getD_some, Code.fst, Code.snd, Code.inn, aexec, aops, aop, Region.wanted, ayielded, aexecOp, aeval, aput, aseq, ablock, ahint, absOf, flat, nilCheckA, ANext.ofP, evals, evalPs, evalO, aresults, aresults1, aresult, aend, List.getElem?_set, List.length_set, Option.map_some, Option.bind_some, if_true, if_false, ↓reduceIte, Nat.reduceLT, Nat.reduceEqDiff, reduceCtorEq, Bool.false_eq_true, false_and, and_false, and_true, true_and, Nat.reduceAdd, Nat.reduceLeDiff, callA, List.getElem?_toArray, List.getElem?_cons_succ, List.getElem?_cons_zero, sb1, sb2, sb3, sb4, sliceU_i, sliceU_s, sliceU_p, sliceU_l, evalV, h0, h1, h12, h13, hl, hh, b_lss, hd]
    exact ⟨_, rfl, by simp [hl]⟩
  · have hd : decide ((i : Int) < l1.length) = true := by simp; omega
    obtain ⟨p1, _, i1, j1, _⟩ := ps_idx hx hi
    obtain ⟨p2, _, i2, j2, _⟩ := ps_idx hy (hll ▸ hi)
    have hw : IntKind.i64.wrap ((i : Int) + 1) = ((i + 1 : Nat) : Int) := by
      simp [IntKind.wrap, IntKind.bits, IntKind.signed]; omega
    simp only [nqBody, code, Try.f26, Option.getD_some, Code.fst, Code.snd, Code.inn, aexec, aops, aop, Region.wanted, ayielded, aexecOp, aeval, aput, aseq, ablock, ahint, absOf, flat, nilCheckA, ANext.ofP, evals, evalPs, evalO, aresults, aresults1, aresult, aend, List.getElem?_set, List.length_set, Option.map_some, Option.bind_some, if_true, if_false, ↓reduceIte, Nat.reduceLT, Nat.reduceEqDiff, reduceCtorEq, Bool.false_eq_true, false_and, and_false, and_true, true_and, Nat.reduceAdd, Nat.reduceLeDiff, callA, List.getElem?_toArray, List.getElem?_cons_succ, List.getElem?_cons_zero, sb1, sb2, sb3, sb4, sliceU_i, sliceU_s, sliceU_p, sliceU_l, evalV, h0, h1, h12, h13, hl, hh, hdr, b_lss, hd, i1, i2, j1, j2, b_neq, nd_neq, he, ndEq_self, Bool.not_true, b_add, hw]
    exact ⟨_, rfl, by simp [h0], by simp [h1], by simp [h12], by simp [hl], by simp [hl]⟩
  · have hd : decide ((i : Int) < l1.length) = true := by simp; omega
    obtain ⟨p1, _, i1, j1, _⟩ := ps_idx hx hi
    obtain ⟨p2, _, i2, j2, _⟩ := ps_idx hy (hll ▸ hi)
    have he' : (!ndEq l1[i] (l2[i]'(hll ▸ hi))) = true := by rw [ndEq_ne he]; rfl
    simp only [nqBody, code, Try.f26, Option.getD_some, Code.fst, Code.snd, Code.inn, aexec, aops, aop, Region.wanted, ayielded, aexecOp, aeval, aput, aseq, ablock, ahint, absOf, flat, nilCheckA, ANext.ofP, evals, evalPs, evalO, aresults, aresults1, aresult, aend, List.getElem?_set, List.length_set, Option.map_some, Option.bind_some, if_true, if_false, ↓reduceIte, Nat.reduceLT, Nat.reduceEqDiff, reduceCtorEq, Bool.false_eq_true, false_and, and_false, and_true, true_and, Nat.reduceAdd, Nat.reduceLeDiff, callA, List.getElem?_toArray, List.getElem?_cons_succ, List.getElem?_cons_zero, sb1, sb2, sb3, sb4, sliceU_i, sliceU_s, sliceU_p, sliceU_l, evalV, h0, h1, h12, h13, hl, hh, hdr, b_lss, hd, i1, i2, j1, j2, b_neq, nd_neq, he']
    exact ⟨_, rfl, by simp [hl]⟩

end Go.Proofs.YtnndngoanknemaaV

/- Equal's contract. No condition. -/
namespace Go.Proofs.YtnndngoanknemaaV
open Go Go.RowKit Go.Proofs.YtnndngoanknemaaA
set_option linter.unusedVariables false
set_option linter.unusedSimpArgs false
set_option maxRecDepth 100000

noncomputable def nqHead : Code := .seq (.seq (code Try.f26).fst nqFst) nqInit

theorem nq_head (call : ACall) (n : Nat) {x y : AVal} {l1 l2 : List Nd} {st : ASt} {ts : List AVal} (hx : PS st x l1) (hy : PS st y l2) (h0 : ts[0]? = some x) (h1 : ts[1]? = some y) (hl : ts.length = 26) :
    (l1.length ≠ l2.length → ∃ ts', aexec E 26 call (drawB E 26) n nqHead ts st = some (.ret, ts', st) ∧ ts'[4]? = some (.lit (.bool false))) ∧
    (l1.length = l2.length → ∃ ts', aexec E 26 call (drawB E 26) n nqHead ts st = some (.normal, ts', st) ∧ 
          ts'[0]? = some x ∧ ts'[1]? = some y ∧ ts'[12]? = some (.lit (.int .i64 l1.length)) ∧ ts'[13]? = some (.lit (.int .i64 (0 : Nat))) ∧ ts'.length = 26) := by
  have hh : ∀ t, E.hint 26 t = false := fun _ => rfl
  refine ⟨fun he => ?_, fun he => ?_⟩
  · have hd : (((l1.length : Nat) : Int) != ((l2.length : Nat) : Int)) = true := by
      have : ((l1.length : Nat) : Int) ≠ ((l2.length : Nat) : Int) := by omega
      rw [bne, beq_eq_false_iff_ne.2 this]; rfl
    simp only [nqHead, nqFst, nqInit, code, Try.f26, Option.getD_some, Code.fst, Code.snd, Code.inn, aexec, aops, aop, Region.wanted, ayielded, aexecOp, aeval, aput, aseq, ablock, ahint, absOf, flat, nilCheckA, ANext.ofP, evals, evalPs, evalO, aresults, aresults1, aresult, aend, List.getElem?_set, List.length_set, Option.map_some, Option.bind_some, if_true, if_false, ↓reduceIte, Nat.reduceLT, Nat.reduceEqDiff, reduceCtorEq, Bool.false_eq_true, false_and, and_false, and_true, true_and, Nat.reduceAdd, Nat.reduceLeDiff, callA, List.getElem?_toArray, List.getElem?_cons_succ, List.getElem?_cons_zero, sb1, sb2, sb3, sb4, sliceU_i, sliceU_s, sliceU_p, sliceU_l, evalV, h0, h1, hl, hh, ps_len hx, ps_len hy, b_neq, hd]
    exact ⟨_, rfl, by simp [hl]⟩
  · have hd : (((l1.length : Nat) : Int) != ((l2.length : Nat) : Int)) = false := by
      simp [he]
    simp only [nqHead, nqFst, nqInit, code, Try.f26, Option.getD_some, Code.fst, Code.snd, Code.inn, aexec, aops, aop, Region.wanted, ayielded, aexecOp, aeval, aput, aseq, ablock, ahint, absOf, flat, nilCheckA, ANext.ofP, evals, evalPs, evalO, aresults, aresults1, aresult, aend, List.getElem?_set, List.length_set, Option.map_some, Option.bind_some, if_true, if_false, ↓reduceIte, Nat.reduceLT, Nat.reduceEqDiff, reduceCtorEq, Bool.false_eq_true, false_and, and_false, and_true, true_and, Nat.reduceAdd, Nat.reduceLeDiff, callA, List.getElem?_toArray, List.getElem?_cons_succ, List.getElem?_cons_zero, sb1, sb2, sb3, sb4, sliceU_i, sliceU_s, sliceU_p, sliceU_l, evalV, h0, h1, hl, hh, ps_len hx, ps_len hy, b_neq, hd]
    exact ⟨_, rfl, by simp [h0], by simp [h1], by simp [hl], by simp [hl], by simp [hl]⟩

theorem nq_parts (call : ACall) (n : Nat) (ts : List AVal) (st : ASt) : aexec E 26 call (drawB E 26) n (code Try.f26) ts st =
    aseq (aexec E 26 call (drawB E 26) n nqHead ts st) (fun ts st => aseq (ablock 0 (aloop (aexec E 26 call (drawB E 26) n nqBody) n ts st)) (aexec E 26 call (drawB E 26) n nqTail)) := by
  rw [nq_code, nqHead]
  simp only [aexec_seq, aexec_block, aexec_loop, aseq_assoc]

theorem nq_tail (call : ACall) (n : Nat) {st : ASt} {ts : List AVal} (hl : ts.length = 26) :
    ∃ ts', aexec E 26 call (drawB E 26) n nqTail ts st = some (.ret, ts', st) ∧ ts'[4]? = some (.lit (.bool true)) := by
  have hh : ∀ t, E.hint 26 t = false := fun _ => rfl
  simp only [nqTail, code, Try.f26, Option.getD_some, Code.fst, Code.snd, Code.inn, aexec, aops, aop, Region.wanted, ayielded, aexecOp, aeval, aput, aseq, ablock, ahint, absOf, flat, nilCheckA, ANext.ofP, evals, evalPs, evalO, aresults, aresults1, aresult, aend, List.getElem?_set, List.length_set, Option.map_some, Option.bind_some, if_true, if_false, ↓reduceIte, Nat.reduceLT, Nat.reduceEqDiff, reduceCtorEq, Bool.false_eq_true, false_and, and_false, and_true, true_and, Nat.reduceAdd, Nat.reduceLeDiff, callA, List.getElem?_toArray, List.getElem?_cons_succ, List.getElem?_cons_zero, sb1, sb2, sb3, sb4, sliceU_i, sliceU_s, sliceU_p, sliceU_l, evalV, hl, hh]
  exact ⟨_, rfl, by simp [hl]⟩

theorem nq_loop (call : ACall) (n : Nat) {x y : AVal} {l1 l2 : List Nd} {st : ASt} {ts : List AVal} (hx : PS st x l1) (hy : PS st y l2) (hll : l1.length = l2.length) (hlt : l1.length ≤ 1000000)
    (h0 : ts[0]? = some x) (h1 : ts[1]? = some y) (h12 : ts[12]? = some (.lit (.int .i64 l1.length))) (h13 : ts[13]? = some (.lit (.int .i64 (0 : Nat)))) (hl : ts.length = 26) (hn : l1.length < n) :
    ∃ e ts', aloop (aexec E 26 call (drawB E 26) n nqBody) n ts st = some (e, ts', st) ∧ ((e = .exit 0 ∧ l1 = l2 ∧ ts'.length = 26) ∨ (e = .ret ∧ l1 ≠ l2 ∧ ts'[4]? = some (.lit (.bool false)))) := by
  obtain ⟨e, ts', st', h, rfl, hq⟩ := aloop_rule (b := aexec E 26 call (drawB E 26) n nqBody)
    (I := fun k ts s => s = st ∧ ∃ i, k + i = l1.length ∧ l1.take i = l2.take i ∧ ts[0]? = some x ∧ ts[1]? = some y ∧ ts[12]? = some (.lit (.int .i64 l1.length)) ∧ ts[13]? = some (.lit (.int .i64 (i : Nat))) ∧ ts.length = 26)
    (Q := fun e ts' s => s = st ∧ ((e = .exit 0 ∧ l1 = l2 ∧ ts'.length = 26) ∨ (e = .ret ∧ l1 ≠ l2 ∧ ts'[4]? = some (.lit (.bool false)))))
    (step := by
      rintro k ts s ⟨hs, i, hi, ht, a0, a1, a12, a13, al⟩
      rw [hs]
      by_cases hk : i = l1.length
      · obtain ⟨ts', e, hl'⟩ := (nq_body call n (st := st) hx hy hll a0 a1 a12 a13 al hlt).1 hk
        refine .inr ⟨_, ts', _, e, by simp, rfl, .inl ⟨rfl, ?_, hl'⟩⟩
        rw [List.take_of_length_le (by omega), List.take_of_length_le (by omega)] at ht
        exact ht
      · have hlt2 : i < l1.length := by omega
        have hb := (nq_body call n (st := st) hx hy hll a0 a1 a12 a13 al hlt).2 hlt2
        by_cases hee : l1[i] = l2[i]'(hll ▸ hlt2)
        · obtain ⟨ts', e, b0, b1, b12, b13, bl⟩ := hb.1 hee
          refine .inl ⟨ts', _, e, k - 1, by omega, rfl, i + 1, by omega, ?_, b0, b1, b12, b13, bl⟩
          rw [List.take_succ_eq_append_getElem hlt2, List.take_succ_eq_append_getElem (hll ▸ hlt2), ht, hee]
        · obtain ⟨ts', e, b4⟩ := hb.2 hee
          refine .inr ⟨_, ts', _, e, by simp, rfl, .inr ⟨rfl, ?_, b4⟩⟩
          intro hc
          subst hc
          exact hee rfl)
    n l1.length ts st ⟨rfl, 0, by omega, by simp, h0, h1, h12, h13, hl⟩ hn
  exact ⟨e, ts', h, hq⟩

theorem nq_run {x y : AVal} {l1 l2 : List Nd} (st : ASt) (hx : PS st x l1) (hy : PS st y l2) (hlt : l1.length ≤ 1000000) :
    RetN E (l1.length + 2) 26 [x, y] st (.lit (.bool (l1 == l2))) st := by
  refine RetN.of (n := l1.length + 1 + 1) ?_
  rw [run_code (fn := Try.f26) rfl rfl, nq_parts]
  obtain ⟨ha, hb⟩ := nq_head (run E (l1.length + 1)) (l1.length + 1) (st := st) (ts := [x, y] ++ List.replicate 24 .undef) hx hy rfl rfl rfl
  have hts : ([x, y] ++ List.replicate (Try.f26.ntmps - [x, y].length) .undef) = [x, y] ++ List.replicate 24 .undef := rfl
  have hres : ∀ ts v, ts[4]? = some v → aresults E Try.f26 ts st = some v := by
    intro ts v h
    have : aresults E Try.f26 ts st = (match (match ts[4]? with | some v => some [v] | _ => none) with | some [v] => some v | some vs => some (.tuple vs) | none => none) := by
      unfold aresults
      simp only [Try.f26, aresults1, aresult]
      cases ts[4]? <;> rfl
    rw [this, h]
  rw [hts]
  by_cases hl : l1.length = l2.length
  · obtain ⟨ts3, e3, a0, a1, a12, a13, al⟩ := hb hl
    obtain ⟨e, ts4, e4, hq⟩ := nq_loop (run E (l1.length + 1)) (l1.length + 1) (st := st) hx hy hl hlt a0 a1 a12 a13 al (by omega)
    simp only [aseq, e3]
    rcases hq with ⟨rfl, rfl, h4⟩ | ⟨rfl, hne, h4⟩
    · obtain ⟨ts5, e5, h5⟩ := nq_tail (run E (l1.length + 1)) (l1.length + 1) (st := st) h4
      simp only [e4, ablock, if_true, aseq, e5, aend, hres _ _ h5, Option.map_some, beq_self_eq_true]
    · simp only [e4, ablock, aseq, aend, hres _ _ h4, Option.map_some, beq_eq_false_iff_ne.2 hne]
  · obtain ⟨ts2, e2, h2⟩ := ha hl
    have hne : l1 ≠ l2 := fun e => hl (by rw [e])
    simp only [aseq, e2, aend, hres _ _ h2, Option.map_some, beq_eq_false_iff_ne.2 hne]


theorem cf26' (a : List AVal) (st : ASt) : callFuncA E.P 26 a st = some (.enter 26 a st) := rfl
theorem cf15' (a : List AVal) (st : ASt) : callFuncA E.P 15 a st = some (.enter 15 a st) := rfl
theorem same_run {x y : AVal} {l1 l2 : List Nd} (st : ASt) (hx : PS st x l1) (hy : PS st y l2) (hlt : l1.length ≤ 1000000) :
    RetN E (l1.length + 3) 15 [x, y] st (.lit (.bool (l1 == l2))) st := by
  refine RetN.of (n := l1.length + 2 + 1) ?_
  have c1 := nq_run st hx hy hlt (l1.length + 2) (by omega)
  obtain ⟨ts, et, t0, t1, tl⟩ : ∃ ts : List AVal, ([x, y] ++ List.replicate (Try.f15.ntmps - [x, y].length) .undef) = ts ∧ ts[0]? = some x ∧ ts[1]? = some y ∧ ts.length = 8 := ⟨_, rfl, rfl, rfl, rfl⟩
  have hh : ∀ t, E.hint 15 t = false := fun _ => rfl
  rw [run_code (fn := Try.f15) rfl rfl, et]
  simp only [AVal.undef, sbn, sbn', code, Try.f15, Option.getD_some, Code.fst, Code.snd, Code.inn, aexec, aops, aop, Region.wanted, ayielded, aexecOp, aeval, aput, aseq, ablock, ahint, absOf, flat, nilCheckA, ANext.ofP, evals, evalPs, evalO, aresults, aresults1, aresult, aend, List.getElem?_set, List.length_set, Option.map_some, Option.bind_some, if_true, if_false, ↓reduceIte, Nat.reduceLT, Nat.reduceEqDiff, reduceCtorEq, Bool.false_eq_true, false_and, and_false, and_true, true_and, Nat.reduceAdd, Nat.reduceLeDiff, callA, List.getElem?_toArray, List.getElem?_cons_succ, List.getElem?_cons_zero, sb1, sb2, sb3, sb4, sliceU_i, sliceU_s, sliceU_p, sliceU_l, evalV, t0, t1, tl, hh, cf26', c1]

/-! ### certificates told apart -/
theorem ndB_inj {a b : Nd} {r r' : List UInt8} (ha : NdOk a) (hb : NdOk b) (h : ndB a ++ r = ndB b ++ r') : a = b ∧ r = r' := by
  obtain ⟨⟨a1, a2⟩, a3, a4, a5, a6⟩ := ha
  obtain ⟨⟨b1, b2⟩, b3, b4, b5, b6⟩ := hb
  simp only [ndB, List.append_assoc] at h
  obtain ⟨e1, k1⟩ := enc_inj (by omega) (by omega) h
  obtain ⟨e2, k2⟩ := enc_inj a3 b3 k1
  obtain ⟨e3, k3⟩ := enc_inj a4 b4 k2
  obtain ⟨e4, k4⟩ := enc_inj (by omega) (by omega) k3
  refine ⟨?_, k4⟩
  have f1 : a.th = b.th := by omega
  have f4 : a.kd = b.kd := by omega
  cases a
  cases b
  simp only at f1 e2 e3 f4
  rw [f1, e2, e3, f4]
theorem ndsB_inj : ∀ {l m : List Nd} {r r' : List UInt8}, (∀ n ∈ l, NdOk n) → (∀ n ∈ m, NdOk n) → l.length = m.length → l.flatMap ndB ++ r = m.flatMap ndB ++ r' → l = m ∧ r = r'
  | [], [], r, r', _, _, _, h => ⟨rfl, h⟩
  | [], _ :: _, _, _, _, _, hl, _ => by simp at hl
  | _ :: _, [], _, _, _, _, hl, _ => by simp at hl
  | a :: l, b :: m, r, r', ha, hb, hl, h => by
    simp only [List.flatMap_cons, List.append_assoc] at h
    obtain ⟨e1, h⟩ := ndB_inj (ha a (by simp)) (hb b (by simp)) h
    obtain ⟨e2, h⟩ := ndsB_inj (fun n hn => ha n (by simp [hn])) (fun n hn => hb n (by simp [hn])) (by simpa using hl) h
    exact ⟨by rw [e1, e2], h⟩
theorem bodyB_inj {a b : Nat} {l m : List Nd} (ha : a < 2 ^ 32) (hb : b < 2 ^ 32) (hl : l.length ≤ 1000) (hm : m.length ≤ 1000) (h1 : ∀ n ∈ l, NdOk n) (h2 : ∀ n ∈ m, NdOk n) {r r' : List UInt8} (h : bodyB a l ++ r = bodyB b m ++ r') : a = b ∧ l = m ∧ r = r' := by
  simp only [bodyB, List.append_assoc, List.append_cancel_left_eq] at h
  obtain ⟨e1, h⟩ := enc_inj (by omega) (by omega) h
  obtain ⟨e2, h⟩ := enc_inj (by omega) (by omega) h
  obtain ⟨e3, h⟩ := ndsB_inj h1 h2 e2 h
  exact ⟨e1, e3, h⟩
theorem certB_eq {a b : Nat} {l m : List Nd} (ha : a < 2 ^ 32) (hb : b < 2 ^ 32) (hl : l.length ≤ 1000) (hm : m.length ≤ 1000) (h1 : ∀ n ∈ l, NdOk n) (h2 : ∀ n ∈ m, NdOk n) : (certB a l == certB b m) = (((a : Int) == (b : Int)) && (l == m)) := by
  by_cases h : a = b ∧ l = m
  · obtain ⟨rfl, rfl⟩ := h
    simp
  · have hne : certB a l ≠ certB b m := by
      intro e
      unfold certB at e
      obtain ⟨e1, e2, _⟩ := bodyB_inj ha hb hl hm h1 h2 e
      exact h ⟨e1, e2⟩
    rw [beq_eq_false_iff_ne.2 hne]
    symm
    rw [Bool.and_eq_false_iff]
    by_cases h' : a = b
    · right
      rw [beq_eq_false_iff_ne]
      intro e
      exact h ⟨h', e⟩
    · left
      rw [beq_eq_false_iff_ne]
      omega

theorem datv_bool {n : Nat} {v : AVal} (h : DatV E.P n 4 v) : ∃ b, v = .lit (.bool b) := by
  obtain ⟨cells, h1, _, rfl⟩ := h
  obtain ⟨b, rfl⟩ := dat_bool u4 h1
  exact ⟨b, rfl⟩

theorem ap_tail (N : Nat) (hN : 65000 ≤ N) {a b : Nat} (ha : a < 2 ^ 32) (hb : b < 2 ^ 32) {x y : AVal} {ns ms : List N8} (hx : NS x ns) (hy : NS y ms) {st : ASt} {ts : List AVal} (t0 : ts[0]? = some (.lit (.int .u32 a))) (t1 : ts[1]? = some (.lit (.int .u32 b))) (t2 : ts[2]? = some x) (t3 : ts[3]? = some y) (tl : ts.length = 45) :
    ∃ ts' st', aexec E 4 (run E N) (drawB E 4) N (code Try.f4).snd.snd.snd.snd ts st = some (.ret, ts', st') ∧ ts'[10]? = some (.lit (.bool true)) := by
  obtain ⟨p, s1, l, n1, o1, hT1, g1⟩ := tree_run hx st
  obtain ⟨q, s2, m, n2, o2, hT2, g2⟩ := tree_run hy s1
  have hl1 := hT1.len
  have hl2 := hT2.len
  obtain ⟨v3, s3, n3, o3⟩ := enc_run (sum := a) (o1.ps.gr g2) hT1.good (by omega) ha
  obtain ⟨v4, s4, n4, o4⟩ := enc_run (sum := b) (o2.ps.gr o3.gr) hT2.good (by omega) hb
  have hc3 : (certB a l).length ≤ 60000 := by
    have := bodyB_len a l
    rw [certB, List.length_append, le4_len]; omega
  have n5 := eq_run s4 (o3.bs.gr o4.gr) o4.bs (by omega)
  have n6 := same_run s4 ((o1.ps.gr g2).gr (o3.gr.trans o4.gr)) (o2.ps.gr (o3.gr.trans o4.gr)) (by omega)
  have c1 := n1 N (by omega)
  have c2 := n2 N (by omega)
  have c3 := n3 N (by omega)
  have c4 := n4 N (by omega)
  have c5 := n5 N (by omega)
  have c6 := n6 N (by omega)
  rw [certB_eq ha hb (by omega) (by omega) hT1.good hT2.good] at c5
  have hh : ∀ t, E.hint 4 t = false := fun _ => rfl
  cases e1 : ((a : Int) == (b : Int)) with
  | true =>
    rw [e1, Bool.true_and] at c5
    simp only [AVal.undef, sbn, sbn', code, Try.f4, Option.getD_some, Code.fst, Code.snd, Code.inn, aexec, aops, aop, Region.wanted, ayielded, aexecOp, aeval, aput, aseq, ablock, ahint, absOf, flat, nilCheckA, ANext.ofP, evals, evalPs, evalO, aresults, aresults1, aresult, aend, List.getElem?_set, List.length_set, Option.map_some, Option.bind_some, if_true, if_false, ↓reduceIte, Nat.reduceLT, Nat.reduceEqDiff, reduceCtorEq, Bool.false_eq_true, false_and, and_false, and_true, true_and, Nat.reduceAdd, Nat.reduceLeDiff, callA, List.getElem?_toArray, List.getElem?_cons_succ, List.getElem?_cons_zero, sb1, sb2, sb3, sb4, sliceU_i, sliceU_s, sliceU_p, sliceU_l, evalV, t0, t1, t2, t3, tl, hh, cf29, c1, c2, cf12', c3, c4, cf17, c5, b_eql, e1, cf15', c6, YtnndngoanknemaaA.valOf, b_eqb u4, beq_self_eq_true]
    exact ⟨_, _, rfl, by simp only [List.getElem?_set, List.length_set, Nat.reduceLT, Nat.reduceEqDiff, ↓reduceIte, reduceCtorEq, *]⟩
  | false =>
    rw [e1, Bool.false_and] at c5
    simp only [AVal.undef, sbn, sbn', code, Try.f4, Option.getD_some, Code.fst, Code.snd, Code.inn, aexec, aops, aop, Region.wanted, ayielded, aexecOp, aeval, aput, aseq, ablock, ahint, absOf, flat, nilCheckA, ANext.ofP, evals, evalPs, evalO, aresults, aresults1, aresult, aend, List.getElem?_set, List.length_set, Option.map_some, Option.bind_some, if_true, if_false, ↓reduceIte, Nat.reduceLT, Nat.reduceEqDiff, reduceCtorEq, Bool.false_eq_true, false_and, and_false, and_true, true_and, Nat.reduceAdd, Nat.reduceLeDiff, callA, List.getElem?_toArray, List.getElem?_cons_succ, List.getElem?_cons_zero, sb1, sb2, sb3, sb4, sliceU_i, sliceU_s, sliceU_p, sliceU_l, evalV, t0, t1, t2, t3, tl, hh, cf29, c1, c2, cf12', c3, c4, cf17, c5, b_eql, e1, cf15', c6, YtnndngoanknemaaA.valOf, b_eqb u4, beq_self_eq_true]
    exact ⟨_, _, rfl, by simp only [List.getElem?_set, List.length_set, Nat.reduceLT, Nat.reduceEqDiff, ↓reduceIte, reduceCtorEq, *]⟩

noncomputable def apA : Code := .seq (code Try.f4).fst (.seq (code Try.f4).snd.fst (.seq (code Try.f4).snd.snd.fst (code Try.f4).snd.snd.snd.fst))
theorem ap_parts (call : ACall) (dr : Array Oper → Bool) (n : Nat) (ts : List AVal) (st : ASt) : aexec E 4 call dr n (code Try.f4) ts st =
    aseq (aexec E 4 call dr n apA ts st) (aexec E 4 call dr n (code Try.f4).snd.snd.snd.snd) := by
  have e : code Try.f4 = .seq (code Try.f4).fst (.seq (code Try.f4).snd.fst (.seq (code Try.f4).snd.snd.fst (.seq (code Try.f4).snd.snd.snd.fst (code Try.f4).snd.snd.snd.snd))) := rfl
  rw [e, apA]
  simp only [aexec_seq, aseq_assoc]
  rfl

theorem apart_runs (b0 b1 b2 b3 b4 : AVal) (d0 : DatV E.P 6 22 b0) (d1 : DatV E.P 6 22 b1) (d2 : DatV E.P 6 23 b2) (d3 : DatV E.P 6 23 b3) (d4 : DatV E.P 6 4 b4) :
    ∃ n st', run E n 4 [b0, b1, b2, b3, b4] st0 = some (.returned (.lit (.bool true)), st') := by
  obtain ⟨a, rfl, ha⟩ := datv_natN u38 rfl rfl d0
  obtain ⟨b, rfl, hb⟩ := datv_natN u38 rfl rfl d1
  obtain ⟨ns, hx⟩ := datv_ns d2
  obtain ⟨ms, hy⟩ := datv_ns d3
  obtain ⟨sm, rfl⟩ := datv_bool d4
  simp only [IntKind.bits] at ha hb
  refine ⟨70000 + 1, ?_⟩
  obtain ⟨N, hN⟩ : ∃ N, N = 70000 := ⟨_, rfl⟩
  rw [← hN]
  obtain ⟨ts, et, t0, t1, t2, t3, t4, tl⟩ : ∃ ts : List AVal, ([AVal.lit (.int .u32 a), .lit (.int .u32 b), b2, b3, .lit (.bool sm)] ++ List.replicate (Try.f4.ntmps - [AVal.lit (.int .u32 a), .lit (.int .u32 b), b2, b3, .lit (.bool sm)].length) .undef) = ts ∧
      ts[0]? = some (.lit (.int .u32 a)) ∧ ts[1]? = some (.lit (.int .u32 b)) ∧ ts[2]? = some b2 ∧ ts[3]? = some b3 ∧ ts[4]? = some (.lit (.bool sm)) ∧ ts.length = 45 := ⟨_, rfl, rfl, rfl, rfl, rfl, rfl, rfl⟩
  have hres : ∀ ts st v, ts[10]? = some v → aresults E Try.f4 ts st = some v := by
    intro ts st v h
    unfold aresults
    simp only [Try.f4, aresults1, aresult, h]
  obtain ⟨s0, n0⟩ := awake18 st0
  have c0 := n0 N (by omega)
  have hnot : ∀ b, pureV E.P (Op.unary .not (.bool b)) = some (.lit (.bool (!b))) := fun _ => rfl
  have hh : ∀ t, E.hint 4 t = false := fun _ => rfl
  rw [run_code (fn := Try.f4) rfl rfl, et, ap_parts]
  cases e1 : decide (((ns.length : Nat) : Int) > 60) with
  | true =>
    obtain ⟨ts1, h1, h2⟩ : ∃ ts', aexec E 4 (run E N) (drawB E 4) N apA ts st0 = some (.ret, ts', s0) ∧ ts'[10]? = some (.lit (.bool true)) := by
      simp only [AVal.undef, sbn, sbn', apA, code, Try.f4, Option.getD_some, Code.fst, Code.snd, Code.inn, aexec, aops, aop, Region.wanted, ayielded, aexecOp, aeval, aput, aseq, ablock, ahint, absOf, flat, nilCheckA, ANext.ofP, evals, evalPs, evalO, aresults, aresults1, aresult, aend, List.getElem?_set, List.length_set, Option.map_some, Option.bind_some, if_true, if_false, ↓reduceIte, Nat.reduceLT, Nat.reduceEqDiff, reduceCtorEq, Bool.false_eq_true, false_and, and_false, and_true, true_and, Nat.reduceAdd, Nat.reduceLeDiff, callA, List.getElem?_toArray, List.getElem?_cons_succ, List.getElem?_cons_zero, sb1, sb2, sb3, sb4, sliceU_i, sliceU_s, sliceU_p, sliceU_l, evalV, t0, t1, t2, t3, t4, tl, hh, cf9', c0, YtnndngoanknemaaA.valOf, hnot, Bool.not_true, len_ns hx, len_ns hy, b_gtr, e1]
      exact ⟨_, rfl, by simp only [List.getElem?_set, List.length_set, Nat.reduceLT, Nat.reduceEqDiff, ↓reduceIte, reduceCtorEq, *]⟩
    exact ⟨s0, by simp only [h1, aseq, aend, hres _ _ _ h2, Option.map_some]⟩
  | false =>
    cases e2 : decide (((ms.length : Nat) : Int) > 60) with
    | true =>
      obtain ⟨ts1, h1, h2⟩ : ∃ ts', aexec E 4 (run E N) (drawB E 4) N apA ts st0 = some (.ret, ts', s0) ∧ ts'[10]? = some (.lit (.bool true)) := by
        simp only [AVal.undef, sbn, sbn', apA, code, Try.f4, Option.getD_some, Code.fst, Code.snd, Code.inn, aexec, aops, aop, Region.wanted, ayielded, aexecOp, aeval, aput, aseq, ablock, ahint, absOf, flat, nilCheckA, ANext.ofP, evals, evalPs, evalO, aresults, aresults1, aresult, aend, List.getElem?_set, List.length_set, Option.map_some, Option.bind_some, if_true, if_false, ↓reduceIte, Nat.reduceLT, Nat.reduceEqDiff, reduceCtorEq, Bool.false_eq_true, false_and, and_false, and_true, true_and, Nat.reduceAdd, Nat.reduceLeDiff, callA, List.getElem?_toArray, List.getElem?_cons_succ, List.getElem?_cons_zero, sb1, sb2, sb3, sb4, sliceU_i, sliceU_s, sliceU_p, sliceU_l, evalV, t0, t1, t2, t3, t4, tl, hh, cf9', c0, YtnndngoanknemaaA.valOf, hnot, Bool.not_true, len_ns hx, len_ns hy, b_gtr, e1, e2]
        exact ⟨_, rfl, by simp only [List.getElem?_set, List.length_set, Nat.reduceLT, Nat.reduceEqDiff, ↓reduceIte, reduceCtorEq, *]⟩
      exact ⟨s0, by simp only [h1, aseq, aend, hres _ _ _ h2, Option.map_some]⟩
    | false =>
      obtain ⟨ts1, y, ms', hy', h1, u0, u1, u2, u3, ul⟩ : ∃ ts' y ms', NS y ms' ∧ aexec E 4 (run E N) (drawB E 4) N apA ts st0 = some (.normal, ts', s0) ∧ ts'[0]? = some (.lit (.int .u32 a)) ∧ ts'[1]? = some (.lit (.int .u32 b)) ∧ ts'[2]? = some b2 ∧ ts'[3]? = some y ∧ ts'.length = 45 := by
        cases sm with
        | true =>
          simp only [AVal.undef, sbn, sbn', apA, code, Try.f4, Option.getD_some, Code.fst, Code.snd, Code.inn, aexec, aops, aop, Region.wanted, ayielded, aexecOp, aeval, aput, aseq, ablock, ahint, absOf, flat, nilCheckA, ANext.ofP, evals, evalPs, evalO, aresults, aresults1, aresult, aend, List.getElem?_set, List.length_set, Option.map_some, Option.bind_some, if_true, if_false, ↓reduceIte, Nat.reduceLT, Nat.reduceEqDiff, reduceCtorEq, Bool.false_eq_true, false_and, and_false, and_true, true_and, Nat.reduceAdd, Nat.reduceLeDiff, callA, List.getElem?_toArray, List.getElem?_cons_succ, List.getElem?_cons_zero, sb1, sb2, sb3, sb4, sliceU_i, sliceU_s, sliceU_p, sliceU_l, evalV, t0, t1, t2, t3, t4, tl, hh, cf9', c0, YtnndngoanknemaaA.valOf, hnot, Bool.not_true, len_ns hx, len_ns hy, b_gtr, e1, e2]
          exact ⟨_, b2, ns, hx, rfl, by simp only [List.getElem?_set, List.length_set, Nat.reduceLT, Nat.reduceEqDiff, ↓reduceIte, reduceCtorEq, *], by simp only [List.getElem?_set, List.length_set, Nat.reduceLT, Nat.reduceEqDiff, ↓reduceIte, reduceCtorEq, *], by simp only [List.getElem?_set, List.length_set, Nat.reduceLT, Nat.reduceEqDiff, ↓reduceIte, reduceCtorEq, *], by simp only [List.getElem?_set, List.length_set, Nat.reduceLT, Nat.reduceEqDiff, ↓reduceIte, reduceCtorEq, *], by simp only [List.getElem?_set, List.length_set, Nat.reduceLT, Nat.reduceEqDiff, ↓reduceIte, reduceCtorEq, *]⟩
        | false =>
          simp only [AVal.undef, sbn, sbn', apA, code, Try.f4, Option.getD_some, Code.fst, Code.snd, Code.inn, aexec, aops, aop, Region.wanted, ayielded, aexecOp, aeval, aput, aseq, ablock, ahint, absOf, flat, nilCheckA, ANext.ofP, evals, evalPs, evalO, aresults, aresults1, aresult, aend, List.getElem?_set, List.length_set, Option.map_some, Option.bind_some, if_true, if_false, ↓reduceIte, Nat.reduceLT, Nat.reduceEqDiff, reduceCtorEq, Bool.false_eq_true, false_and, and_false, and_true, true_and, Nat.reduceAdd, Nat.reduceLeDiff, callA, List.getElem?_toArray, List.getElem?_cons_succ, List.getElem?_cons_zero, sb1, sb2, sb3, sb4, sliceU_i, sliceU_s, sliceU_p, sliceU_l, evalV, t0, t1, t2, t3, t4, tl, hh, cf9', c0, YtnndngoanknemaaA.valOf, hnot, Bool.not_true, len_ns hx, len_ns hy, b_gtr, e1, e2]
          exact ⟨_, b3, ms, hy, rfl, by simp only [List.getElem?_set, List.length_set, Nat.reduceLT, Nat.reduceEqDiff, ↓reduceIte, reduceCtorEq, *], by simp only [List.getElem?_set, List.length_set, Nat.reduceLT, Nat.reduceEqDiff, ↓reduceIte, reduceCtorEq, *], by simp only [List.getElem?_set, List.length_set, Nat.reduceLT, Nat.reduceEqDiff, ↓reduceIte, reduceCtorEq, *], by simp only [List.getElem?_set, List.length_set, Nat.reduceLT, Nat.reduceEqDiff, ↓reduceIte, reduceCtorEq, *], by simp only [List.getElem?_set, List.length_set, Nat.reduceLT, Nat.reduceEqDiff, ↓reduceIte, reduceCtorEq, *]⟩
      obtain ⟨ts2, st2, h2, h10⟩ := ap_tail N (by omega) ha hb hx hy' (st := s0) u0 u1 u2 u3 ul
      exact ⟨st2, by simp only [h1, aseq, h2, aend, hres _ _ _ h10, Option.map_some]⟩

end Go.Proofs.YtnndngoanknemaaV
