/- PlanPaths, walked in the second reading. No condition. -/
import Derived.Test.YtjpehemkgikkdaaN13
namespace Go.Proofs.YtjpehemkgikkdaaV
open Go Go.RowKit Go.Proofs.YtjpehemkgikkdaaA
set_option linter.unusedVariables false
set_option linter.unusedSimpArgs false
set_option maxRecDepth 100000

noncomputable def ppA : Code := .seq (code Try.f10).fst (.seq (code Try.f10).snd.fst (.seq (code Try.f10).snd.snd.fst (.seq (code Try.f10).snd.snd.snd.fst (.seq (code Try.f10).snd.snd.snd.snd.fst (.seq (code Try.f10).snd.snd.snd.snd.snd.fst (code Try.f10).snd.snd.snd.snd.snd.snd.fst.fst)))))
noncomputable def ppL : Code := (code Try.f10).snd.snd.snd.snd.snd.snd.fst.snd.inn
noncomputable def ppE : Code := (code Try.f10).snd.snd.snd.snd.snd.snd.snd
noncomputable def ppR13 : Code := ppL.snd.snd.fst.inn.snd.snd.fst
theorem pp_parts (call : ACall) (dr : Array Oper → Bool) (n : Nat) (ts : List AVal) (st : ASt) : aexec E 10 call dr n (code Try.f10) ts st =
    aseq (aexec E 10 call dr n ppA ts st) fun ts st => aseq (ablock 0 (aloop (aexec E 10 call dr n ppL) n ts st)) (aexec E 10 call dr n ppE) := by
  have e : code Try.f10 = .seq (code Try.f10).fst (.seq (code Try.f10).snd.fst (.seq (code Try.f10).snd.snd.fst (.seq (code Try.f10).snd.snd.snd.fst (.seq (code Try.f10).snd.snd.snd.snd.fst (.seq (code Try.f10).snd.snd.snd.snd.snd.fst (.seq (.seq (code Try.f10).snd.snd.snd.snd.snd.snd.fst.fst (.block 0 (.loop ppL))) ppE)))))) := rfl
  rw [e, ppA]
  simp only [aexec_seq, aexec_block, aexec_loop, aseq_assoc]

structure PpI (pv uv : AVal) (l : List Nd) (i : Nat) (ts : List AVal) : Prop where
  t3 : ts[3]? = some pv
  t4 : ts[4]? = some uv
  t5 : ts[5]? = some (.lit (.int .i64 (openAt l i + (i : Int) - 1)))
  t34 : ts[34]? = some pv
  t35 : ts[35]? = some (.lit (.int .i64 l.length))
  t36 : ts[36]? = some (.lit (.int .i64 i))
  tl : ts.length = 85

theorem pp_A (N m : Nat) (hN : 2000 ≤ N) (dr : Array Oper → Bool) {v : AVal} {ns : List N8} {ts : List AVal} (hv : NS v ns) (h0 : ts[0]? = some v) (tl : ts.length = 85) :
    (100 < ns.length → ∃ ts' st', aexec E 10 (run E N) dr m ppA ts st0 = some (.ret, ts', st') ∧ ts'[2]? = some (.lit (.bool true))) ∧
    (ns.length ≤ 100 → ∃ ts' st' l pv uv su, aexec E 10 (run E N) dr m ppA ts st0 = some (.normal, ts', st') ∧ IsTree l ∧ PS st' pv l ∧ IRow st' uv (par l) su ∧ PpI pv uv l 0 ts') := by
  have hh : ∀ t, E.hint 10 t = false := fun _ => rfl
  obtain ⟨s0, n0, _⟩ := awake17 st0
  have c0 := n0 N (by omega)
  have hnot : ∀ b, pureV E.P (Op.unary .not (.bool b)) = some (.lit (.bool (!b))) := fun _ => rfl
  refine ⟨fun hl => ?_, fun hl => ?_⟩
  · have hd : decide (((ns.length : Nat) : Int) > 100) = true := by rw [decide_eq_true_eq]; omega
    simp only [ppA, code, Try.f10, Option.getD_some, Code.fst, Code.snd, Code.inn, aexec, aops, aop, Region.wanted, ayielded, aexecOp, aeval, aput, aseq, ablock, ahint, absOf, flat, nilCheckA, ANext.ofP, evals, evalPs, evalO, aresults, aresults1, aresult, aend, List.getElem?_set, List.length_set, Option.map_some, Option.bind_some, if_true, if_false, ↓reduceIte, Nat.reduceLT, Nat.reduceEqDiff, reduceCtorEq, Bool.false_eq_true, false_and, and_false, and_true, true_and, Nat.reduceAdd, Nat.reduceLeDiff, callA, List.getElem?_toArray, List.getElem?_cons_succ, List.getElem?_cons_zero, sb1, sb2, sb3, sb4, h0, tl, hh, cf24, c0, YtjpehemkgikkdaaA.valOf, hnot, Bool.not_true, len_ns hv, b_gtr, hd]
    exact ⟨_, _, rfl, by simp only [List.getElem?_set, List.length_set, Nat.reduceLT, Nat.reduceEqDiff, ↓reduceIte, reduceCtorEq, *]⟩
  · have hd : decide (((ns.length : Nat) : Int) > 100) = false := by rw [decide_eq_false_iff_not]; omega
    obtain ⟨pv, s1, l, n1, ho, hT, _⟩ := tree_run hv s0
    have hps := ho.ps
    have hTl := hT.len
    have hTp := hT.pos
    obtain ⟨uv, s2, su, n2, w2, g2, _⟩ := par_run hps (by omega) hT.kd
    obtain ⟨rv, s3, sr, n3, w3, g3, _⟩ := path_run (hps.gr g2) (by omega) hT.ok hT.kd 0 (by decide)
    have hp0 : pathF l 0 = [] := by
      unfold pathF
      split
      · rfl
      · rfl
    rw [hp0] at w3
    have c1 := n1 N (by omega)
    have c2 := n2 N (by omega)
    have c3 := n3 N (by omega)
    have L2 := fun mt ty cs s => irow_len w2 mt ty cs s
    rw [par_length] at L2
    have L3 := fun mt ty cs s => irow_len w3 mt ty cs s
    obtain ⟨s', e1, i1, i2⟩ := irow_idx w2 (i := 0) (by rw [par_length]; exact hTp)
    have hget : (par l)[0]'(by rw [par_length]; exact hTp) = -1 := by
      have := par_get hTp
      rw [List.getElem?_eq_getElem (by rw [par_length]; exact hTp), up_zero] at this
      exact Option.some.inj this
    rw [hget] at i2
    have i1' : indexA E.P 59 uv (.lit (.int .i64 0)) = some (.ptr s' 0) := i1
    have z1 : ((-1 : Int) != -1) = false := rfl
    have z2 : (((([] : List Int).length : Nat) : Int) != 0) = false := rfl
    simp only [AVal.undef, sbn, sbn', ppA, code, Try.f10, Option.getD_some, Code.fst, Code.snd, Code.inn, aexec, aops, aop, Region.wanted, ayielded, aexecOp, aeval, aput, aseq, ablock, ahint, absOf, flat, nilCheckA, ANext.ofP, evals, evalPs, evalO, aresults, aresults1, aresult, aend, List.getElem?_set, List.length_set, Option.map_some, Option.bind_some, if_true, if_false, ↓reduceIte, Nat.reduceLT, Nat.reduceEqDiff, reduceCtorEq, Bool.false_eq_true, false_and, and_false, and_true, true_and, Nat.reduceAdd, Nat.reduceLeDiff, callA, List.getElem?_toArray, List.getElem?_cons_succ, List.getElem?_cons_zero, sb1, sb2, sb3, sb4, h0, tl, hh, cf24, c0, YtjpehemkgikkdaaA.valOf, hnot, Bool.not_true, len_ns hv, b_gtr, hd, cf29, c1, cf31, c2, L2, ps_len hps, b_neq, bne_self_eq_false, i1', i2, z1, cf32, c3, L3, z2]
    exact ⟨_, s3, l, pv, uv, su, rfl, hT, (hps.gr g2).gr g3, w2.gr g3.1 (fun k e => g3.2 k (irow_lt w2 k e)), ⟨by simp only [List.getElem?_set, List.length_set, Nat.reduceLT, Nat.reduceEqDiff, ↓reduceIte, reduceCtorEq, *], by simp only [List.getElem?_set, List.length_set, Nat.reduceLT, Nat.reduceEqDiff, ↓reduceIte, reduceCtorEq, *], by simp only [List.getElem?_set, List.length_set, Nat.reduceLT, Nat.reduceEqDiff, ↓reduceIte, reduceCtorEq, *]; rfl, by simp only [List.getElem?_set, List.length_set, Nat.reduceLT, Nat.reduceEqDiff, ↓reduceIte, reduceCtorEq, *], by simp only [List.getElem?_set, List.length_set, Nat.reduceLT, Nat.reduceEqDiff, ↓reduceIte, reduceCtorEq, *], by simp only [List.getElem?_set, List.length_set, Nat.reduceLT, Nat.reduceEqDiff, ↓reduceIte, reduceCtorEq, *]; rfl, by simp only [List.getElem?_set, List.length_set, Nat.reduceLT, Nat.reduceEqDiff, ↓reduceIte, reduceCtorEq, *]⟩⟩

set_option maxHeartbeats 4000000 in
theorem pp_body (N m : Nat) (hN : 2000 ≤ N) {l : List Nd} {pv uv : AVal} {su : Option Nat} {i : Nat} {ts : List AVal} {st : ASt} (hT : IsTree l) (hps : PS st pv l) (hu : IRow st uv (par l) su) (h : PpI pv uv l i ts) (hile : i ≤ l.length) :
    (i = l.length → ∃ ts', aexec E 10 (run E N) (drawB E 10) m ppL ts st = some (.exit 0, ts', st) ∧ PpI pv uv l i ts') ∧
    (i < l.length → ∃ ts' st', aexec E 10 (run E N) (drawB E 10) m ppL ts st = some (.normal, ts', st') ∧ Gr st st' ∧ PpI pv uv l (i + 1) ts') := by
  obtain ⟨t3, t4, t5, t34, t35, t36, tl⟩ := h
  have hh : ∀ t, E.hint 10 t = false := fun _ => rfl
  have hTl := hT.len
  refine ⟨fun hi => ?_, fun hi => ?_⟩
  · have hd : decide ((i : Int) < l.length) = false := by rw [decide_eq_false_iff_not]; omega
    simp only [ppL, code, Try.f10, Option.getD_some, Code.fst, Code.snd, Code.inn, aexec, aops, aop, Region.wanted, ayielded, aexecOp, aeval, aput, aseq, ablock, ahint, absOf, flat, nilCheckA, ANext.ofP, evals, evalPs, evalO, aresults, aresults1, aresult, aend, List.getElem?_set, List.length_set, Option.map_some, Option.bind_some, if_true, if_false, ↓reduceIte, Nat.reduceLT, Nat.reduceEqDiff, reduceCtorEq, Bool.false_eq_true, false_and, and_false, and_true, true_and, Nat.reduceAdd, Nat.reduceLeDiff, callA, List.getElem?_toArray, List.getElem?_cons_succ, List.getElem?_cons_zero, sb1, sb2, sb3, sb4, t3, t4, t5, t34, t35, t36, tl, hh, b_lss, hd]
    exact ⟨_, rfl, ⟨by simp only [List.getElem?_set, List.length_set, Nat.reduceLT, Nat.reduceEqDiff, ↓reduceIte, reduceCtorEq, *], by simp only [List.getElem?_set, List.length_set, Nat.reduceLT, Nat.reduceEqDiff, ↓reduceIte, reduceCtorEq, *], by simp only [List.getElem?_set, List.length_set, Nat.reduceLT, Nat.reduceEqDiff, ↓reduceIte, reduceCtorEq, *], by simp only [List.getElem?_set, List.length_set, Nat.reduceLT, Nat.reduceEqDiff, ↓reduceIte, reduceCtorEq, *], by simp only [List.getElem?_set, List.length_set, Nat.reduceLT, Nat.reduceEqDiff, ↓reduceIte, reduceCtorEq, *], by simp only [List.getElem?_set, List.length_set, Nat.reduceLT, Nat.reduceEqDiff, ↓reduceIte, reduceCtorEq, *], by simp only [List.getElem?_set, List.length_set, Nat.reduceLT, Nat.reduceEqDiff, ↓reduceIte, reduceCtorEq, *]⟩⟩
  · have d1 : drawB E 10 ppR13.fst.ops = false := by kernel_rfl
    have p1 : drawPlan E 10 ppR13.fst.ops = some [.one 0 [], .one 1 [], .one 2 [], .one 3 [], .one 4 [], .one 5 [], .one 6 [], .one 7 [], .one 8 [], .one 9 [], .one 10 [], .one 11 [], .one 12 [], .one 13 [], .one 14 [], .one 15 [], .one 16 [], .one 17 [], .one 18 [], .one 20 [],
      .one 21 [], .one 22 [], .one 23 [], .one 24 [], .one 26 [], .one 27 [], .one 28 [], .one 19 [24, 27, 28], .one 25 [27, 28], .one 29 [], .one 30 [], .one 31 [], .one 32 [], .one 33 []] := by kernel_rfl
    simp only [ppR13, ppL, code, Try.f10, Option.getD_some, Code.fst, Code.snd, Code.inn, Code.ops] at d1 p1
    have hd : decide ((i : Int) < l.length) = true := by rw [decide_eq_true_eq]; omega
    obtain ⟨p, q, i1, i2, _⟩ := ps_idx hps hi
    have hat := laidN_at st l[i]
    have hgL := laidN_gr st l[i]
    obtain ⟨f0, f1, f2, f3⟩ := fldN1 st.ctr
    obtain ⟨l0, l1, l2, l3, l4⟩ := ldN1 hat
    obtain ⟨o1, o2⟩ := open_nonneg hT.ok hT.kd i (by omega)
    have hkd := hT.kd _ (List.getElem_mem hi)
    have hsum : IntKind.i64.wrap (openAt l i + (i : Int) - 1 + l[i].kd) = openAt l (i + 1) + ((i + 1 : Nat) : Int) - 1 := by
      rw [openAt, getD_nd hi]
      simp [IntKind.wrap, IntKind.bits, IntKind.signed]; omega
    have q1 : IntKind.i64.wrap ((i : Int) + 1) = ((i + 1 : Nat) : Int) := by
      simp [IntKind.wrap, IntKind.bits, IntKind.signed]; omega
    have huL : IRow (laidN st l[i]) uv (par l) su := hu.gr hgL.1 (fun k e => hgL.2 k (irow_lt hu k e))
    cases a0 : decide ((i : Int) > 0) with
    | false =>
      simp only [AVal.undef, sbn, sbn', ppL, code, Try.f10, Option.getD_some, Code.fst, Code.snd, Code.inn, aexec, aops, aop, Region.wanted, ayielded, aexecOp, aeval, aput, aseq, ablock, ahint, absOf, flat, nilCheckA, ANext.ofP, evals, evalPs, evalO, aresults, aresults1, aresult, aend, List.getElem?_set, List.length_set, Option.map_some, Option.bind_some, if_true, if_false, ↓reduceIte, Nat.reduceLT, Nat.reduceEqDiff, reduceCtorEq, Bool.false_eq_true, false_and, and_false, and_true, true_and, Nat.reduceAdd, Nat.reduceLeDiff, callA, List.getElem?_toArray, List.getElem?_cons_succ, List.getElem?_cons_zero, sb1, sb2, sb3, sb4, t3, t4, t5, t34, t35, t36, tl, hh, b_lss, hd, i1, i2, alloc_n, store_n, f3, l4, b_add, hsum, d1, p1, and_self, aopsP, eq_self, Stills, Still, forall_const, b_gtr, a0, false_implies, q1]
      exact ⟨_, _, rfl, hgL, ⟨by simp only [List.getElem?_set, List.length_set, Nat.reduceLT, Nat.reduceEqDiff, ↓reduceIte, reduceCtorEq, *], by simp only [List.getElem?_set, List.length_set, Nat.reduceLT, Nat.reduceEqDiff, ↓reduceIte, reduceCtorEq, *], by simp only [List.getElem?_set, List.length_set, Nat.reduceLT, Nat.reduceEqDiff, ↓reduceIte, reduceCtorEq, *], by simp only [List.getElem?_set, List.length_set, Nat.reduceLT, Nat.reduceEqDiff, ↓reduceIte, reduceCtorEq, *], by simp only [List.getElem?_set, List.length_set, Nat.reduceLT, Nat.reduceEqDiff, ↓reduceIte, reduceCtorEq, *], by simp only [List.getElem?_set, List.length_set, Nat.reduceLT, Nat.reduceEqDiff, ↓reduceIte, reduceCtorEq, *], by simp only [List.getElem?_set, List.length_set, Nat.reduceLT, Nat.reduceEqDiff, ↓reduceIte, reduceCtorEq, *]⟩⟩
    | true =>
      have h0 : 0 < i := by rw [decide_eq_true_eq] at a0; omega
      obtain ⟨mm, em, hm⟩ := up_lt hT.ok h0 hi
      have hgu : (par l)[i]'(by rw [par_length]; exact hi) = ((mm : Nat) : Int) := by
        have := par_get hi
        rw [List.getElem?_eq_getElem (by rw [par_length]; exact hi), em] at this
        exact Option.some.inj this
      obtain ⟨r1, st1, s1, n1, w1, g1, b1⟩ := path_run (hps.gr hgL) (by omega) hT.ok hT.kd ((i : Nat) : Int) (by omega)
      obtain ⟨r2, st2, s2, n2, w2, g2, b2⟩ := path_run ((hps.gr hgL).gr g1) (by omega) hT.ok hT.kd ((mm : Nat) : Int) (by omega)
      have hplen : ∀ k : Int, (pathF l k).length ≤ 1000 := fun k => by
        have hch : ∀ f k, (chain l f k).length ≤ f := by
          intro f
          induction f with
          | zero => intro k; simp [chain]
          | succ f ih =>
            intro k
            rw [chain]
            split
            · simp
            · simp; exact ih _
        unfold pathF pathN
        split
        · rename_i hk
          have := hch (k.toNat + 1) k.toNat
          rw [List.length_reverse, List.length_map]; omega
        · simp
      obtain ⟨v3, st3, ea, w3, c3, fr3⟩ := row_more w2 (by have := hplen ((mm : Nat) : Int); omega) l[i].th
      have hpu := path_up hT.ok h0 hi
      rw [em] at hpu
      have hth : thAt l i = l[i].th := by unfold thAt; rw [getD_nd hi]
      rw [hth] at hpu
      rw [← hpu] at w3
      have hr1 : RI st3 r1 (pathF l ((i : Nat) : Int)) := .inr ⟨s1, (w1.gr g2.1 (fun k e => g2.2 k (irow_lt w1 k e))).gr c3 (fun k e => by
        have hk := irow_lt w1 k e
        exact fr3 k (by have := g2.1; omega) (fun e2 => by have := b2 k e2; omega))⟩
      have n3 := qi_run hr1 w3 (by have := hplen ((i : Nat) : Int); omega)
      have k1 := n1 N (by omega)
      have k2 := n2 N (by omega)
      have k3 := n3 N (by have := hplen ((i : Nat) : Int); omega)
      obtain ⟨su1, eu1, j1, j2⟩ := irow_idx huL (i := i) (by rw [par_length]; exact hi)
      rw [hgu] at j2
      have hu1 : IRow st1 uv (par l) su := huL.gr g1.1 (fun k e => g1.2 k (irow_lt huL k e))
      obtain ⟨su2, eu2, j3, j4⟩ := irow_idx hu1 (i := i) (by rw [par_length]; exact hi)
      rw [hgu] at j4
      have : su1 = su2 := by rw [eu1] at eu2; exact Option.some.inj eu2
      subst this
      have hlt : st.ctr < (laidN st l[i]).ctr := by rw [laidN_ctr]; omega
      have hat1 : st1.heap st.ctr = some (.cells l[i].cs) := by rw [g1.2 _ hlt]; exact hat
      have hat2 : st2.heap st.ctr = some (.cells l[i].cs) := by rw [g2.2 _ (by have := g1.1; omega)]; exact hat1
      obtain ⟨_, x1, _⟩ := ldN1 hat1
      obtain ⟨_, y1, _⟩ := ldN1 hat2
      have a1 : decide (((mm : Nat) : Int) < 0) = false := by rw [decide_eq_false_iff_not]; omega
      have a2 : decide (((mm : Nat) : Int) ≥ ((i : Nat) : Int)) = false := by rw [decide_eq_false_iff_not]; omega
      have hnot : ∀ b, pureV E.P (Op.unary .not (.bool b)) = some (.lit (.bool (!b))) := fun _ => rfl
      simp only [AVal.undef, sbn, sbn', ppL, code, Try.f10, Option.getD_some, Code.fst, Code.snd, Code.inn, aexec, aops, aop, Region.wanted, ayielded, aexecOp, aeval, aput, aseq, ablock, ahint, absOf, flat, nilCheckA, ANext.ofP, evals, evalPs, evalO, aresults, aresults1, aresult, aend, List.getElem?_set, List.length_set, Option.map_some, Option.bind_some, if_true, if_false, ↓reduceIte, Nat.reduceLT, Nat.reduceEqDiff, reduceCtorEq, Bool.false_eq_true, false_and, and_false, and_true, true_and, Nat.reduceAdd, Nat.reduceLeDiff, callA, List.getElem?_toArray, List.getElem?_cons_succ, List.getElem?_cons_zero, sb1, sb2, sb3, sb4, t3, t4, t5, t34, t35, t36, tl, hh, b_lss, hd, i1, i2, alloc_n, store_n, f0, f3, l1, l4, x1, y1, b_add, hsum, d1, p1, and_self, aopsP, eq_self, Stills, Still, forall_const, Option.isSome_some, b_gtr, a0, j1, j2, j4, a1, b_geq, a2, bs_int, cf32, k1, k2, b_app, ea, cf33, k3, YtjpehemkgikkdaaA.valOf, hnot, Bool.not_true, q1]
      refine ⟨_, st3, rfl, ⟨by have := hgL.1; have := g1.1; have := g2.1; omega, fun j hj => ?_⟩, ⟨by simp only [List.getElem?_set, List.length_set, Nat.reduceLT, Nat.reduceEqDiff, ↓reduceIte, reduceCtorEq, *], by simp only [List.getElem?_set, List.length_set, Nat.reduceLT, Nat.reduceEqDiff, ↓reduceIte, reduceCtorEq, *], by simp only [List.getElem?_set, List.length_set, Nat.reduceLT, Nat.reduceEqDiff, ↓reduceIte, reduceCtorEq, *], by simp only [List.getElem?_set, List.length_set, Nat.reduceLT, Nat.reduceEqDiff, ↓reduceIte, reduceCtorEq, *], by simp only [List.getElem?_set, List.length_set, Nat.reduceLT, Nat.reduceEqDiff, ↓reduceIte, reduceCtorEq, *], by simp only [List.getElem?_set, List.length_set, Nat.reduceLT, Nat.reduceEqDiff, ↓reduceIte, reduceCtorEq, *], by simp only [List.getElem?_set, List.length_set, Nat.reduceLT, Nat.reduceEqDiff, ↓reduceIte, reduceCtorEq, *]⟩⟩
      have hA := hgL.1
      have hB := g1.1
      have hC := g2.1
      rw [fr3 j (by omega) (fun e => by have := b2 j e; omega), g2.2 j (by omega), g1.2 j (by omega), hgL.2 j hj]

theorem paths_runs (b0 : AVal) (d0 : DatV E.P 6 42 b0) : ∃ n st', run E n 10 [b0] st0 = some (.returned (.lit (.bool true)), st') := by
  obtain ⟨ns, hv⟩ := datv_ns d0
  refine ⟨3000 + 1, ?_⟩
  obtain ⟨ts, et, t0, tl⟩ : ∃ ts : List AVal, ([b0] ++ List.replicate (Try.f10.ntmps - [b0].length) .undef) = ts ∧ ts[0]? = some b0 ∧ ts.length = 85 := ⟨_, rfl, rfl, rfl⟩
  have hres : ∀ ts st v, ts[2]? = some v → aresults E Try.f10 ts st = some v := by
    intro ts st v h
    unfold aresults
    simp only [Try.f10, aresults1, aresult, h]
  rw [run_code (fn := Try.f10) rfl rfl, et, pp_parts]
  have hA := pp_A 3000 3000 (by omega) (drawB E 10) hv t0 tl
  by_cases hl : 100 < ns.length
  · obtain ⟨ts1, st1, e1, a2⟩ := hA.1 hl
    exact ⟨st1, by simp only [e1, aseq, aend, hres _ _ _ a2, Option.map_some]⟩
  · obtain ⟨ts1, st1, l, pv, uv, su, e1, hT, hps, hu, hI⟩ := hA.2 (by omega)
    have hTl := hT.len
    obtain ⟨e, ts2, st2, e2, rfl, hI2, hps2⟩ := aloop_rule (b := aexec E 10 (run E 3000) (drawB E 10) 3000 ppL)
      (I := fun k ts s => ∃ i, k + i = l.length ∧ PpI pv uv l i ts ∧ PS s pv l ∧ IRow s uv (par l) su)
      (Q := fun e ts' s => e = .exit 0 ∧ PpI pv uv l l.length ts' ∧ PS s pv l)
      (step := by
        rintro k ts2 s ⟨i, hi, hI, hp, hu⟩
        have hb := pp_body 3000 3000 (by omega) hT hp hu hI (by omega)
        by_cases he : i = l.length
        · obtain ⟨ts', e, h'⟩ := hb.1 he
          rw [he] at h'
          exact .inr ⟨_, ts', _, e, by simp, rfl, h', hp⟩
        · obtain ⟨ts', st', e, hg, h'⟩ := hb.2 (by omega)
          exact .inl ⟨ts', st', e, k - 1, by omega, i + 1, by omega, h', hp.gr hg, hu.gr hg.1 (fun k e => hg.2 k (irow_lt hu k e))⟩)
      3000 l.length ts1 st1 ⟨0, by omega, hI, hps, hu⟩ (by omega)
    have hh : ∀ t, E.hint 10 t = false := fun _ => rfl
    obtain ⟨ts3, e3, a2⟩ : ∃ ts', aexec E 10 (run E 3000) (drawB E 10) 3000 ppE ts2 st2 = some (.ret, ts', st2) ∧ ts'[2]? = some (.lit (.bool true)) := by
      obtain ⟨t3, t4, t5, t34, t35, t36, tl⟩ := hI2
      rw [open_last hT.ok hT.kd] at t5
      have q : IntKind.i64.wrap (((l.length : Nat) : Int) - 1) = (0 : Int) + (l.length : Int) - 1 := by
        simp [IntKind.wrap, IntKind.bits, IntKind.signed]; omega
      simp only [ppE, code, Try.f10, Option.getD_some, Code.fst, Code.snd, Code.inn, aexec, aops, aop, Region.wanted, ayielded, aexecOp, aeval, aput, aseq, ablock, ahint, absOf, flat, nilCheckA, ANext.ofP, evals, evalPs, evalO, aresults, aresults1, aresult, aend, List.getElem?_set, List.length_set, Option.map_some, Option.bind_some, if_true, if_false, ↓reduceIte, Nat.reduceLT, Nat.reduceEqDiff, reduceCtorEq, Bool.false_eq_true, false_and, and_false, and_true, true_and, Nat.reduceAdd, Nat.reduceLeDiff, callA, List.getElem?_toArray, List.getElem?_cons_succ, List.getElem?_cons_zero, sb1, sb2, sb3, sb4, t3, t5, tl, hh, ps_len hps2, b_sub, q, b_eql, beq_self_eq_true]
      exact ⟨_, rfl, by simp only [List.getElem?_set, List.length_set, Nat.reduceLT, Nat.reduceEqDiff, ↓reduceIte, reduceCtorEq, *]⟩
    exact ⟨st2, by simp only [e1, aseq, e2, ablock, if_true, e3, aend, hres _ _ _ a2, Option.map_some]⟩

end Go.Proofs.YtjpehemkgikkdaaV
