/- PlanTrees, walked in the second reading. No condition. -/
import Derived.Test.YtjpehemkgikkdaaN11
namespace Go.Proofs.YtjpehemkgikkdaaV
open Go Go.RowKit Go.Proofs.YtjpehemkgikkdaaA
set_option linter.unusedVariables false
set_option linter.unusedSimpArgs false
set_option maxRecDepth 100000

/-! ### the fixed fact -/
def nd0 : Nd := ⟨0, 0, 0, 0⟩
def nd1 : Nd := ⟨0, 0, 0, 1⟩
def nd2 : Nd := ⟨2, 0, 0, 0⟩
theorem cf24 (a : List AVal) (st : ASt) : callFuncA E.P 24 a st = some (.enter 24 a st) := rfl
theorem cf29 (a : List AVal) (st : ASt) : callFuncA E.P 29 a st = some (.enter 29 a st) := rfl

theorem awake17 (st : ASt) : ∃ st', RetN E 1010 24 [] st (.lit (.bool true)) st' ∧ st.ctr ≤ st'.ctr := by
  have p1 : PS st (.islice 4 [nd0.a] .exact) [nd0] := .inl ⟨.exact, rfl⟩
  obtain ⟨st1, n1, g1⟩ := ck_run p1 (by simp)
  have p2 : PS st1 (.islice 4 [nd1.a, nd2.a] .exact) [nd1, nd2] := .inl ⟨.exact, rfl⟩
  have h1 : ck [nd0] 0 1 = (0, 0) := by decide
  have h2 : ck [nd1, nd2] 0 1 = (0, 0) := by decide
  obtain ⟨v, st2, s, n2, w1, g2, _⟩ := path_run p2 (by simp) h2 (by decide) 1 (by decide)
  have hp : (pathF [nd1, nd2] 1).length = 1 := by decide
  have hl := fun mt ty cs s2 => irow_len w1 mt ty cs s2
  rw [hp] at hl
  rw [h1] at n1
  refine ⟨st2, RetN.of (n := 1009 + 1) ?_, Nat.le_trans g1.1 g2.1⟩
  have c1 := n1 1009 (by simp)
  have c2 := n2 1009 (by omega)
  obtain ⟨ts, et, tl⟩ : ∃ ts : List AVal, (([] : List AVal) ++ List.replicate (Try.f24.ntmps - ([] : List AVal).length) .undef) = ts ∧ ts.length = 23 := ⟨_, rfl, rfl⟩
  have hh : ∀ t, E.hint 24 t = false := fun _ => rfl
  have b0 : buildA E.P 54 [] = some nd0.a := rfl
  have b1 : buildA E.P 54 [(3, .lit (.int .i64 1))] = some nd1.a := rfl
  have b2 : buildA E.P 54 [(0, .lit (.int .i64 2))] = some nd2.a := rfl
  have s1 : ∀ st, buildSliceA E.P false 44 1 [(0, nd0.a)] st = some (.islice 4 [nd0.a] .exact, st) := fun _ => rfl
  have s2 : ∀ st, buildSliceA E.P false 44 2 [(0, nd1.a), (1, nd2.a)] st = some (.islice 4 [nd1.a, nd2.a] .exact, st) := fun _ => rfl
  have z : (((0 : Nat) : Int) == 0) = true := rfl
  have z1 : (((1 : Nat) : Int) == 1) = true := rfl
  rw [run_code (fn := Try.f24) rfl rfl, et]
  simp only [code, Try.f24, Option.getD_some, Code.fst, Code.snd, aexec, aops, aop, Region.wanted, ayielded, aexecOp, aeval, aput, aseq, ablock, ahint, absOf, flat, nilCheckA, ANext.ofP, evals, evalPs, evalO, aresults, aresults1, aresult, aend, List.getElem?_set, List.length_set, Option.map_some, Option.bind_some, if_true, if_false, ↓reduceIte, Nat.reduceLT, Nat.reduceEqDiff, reduceCtorEq, Bool.false_eq_true, false_and, and_false, and_true, true_and, Nat.reduceAdd, Nat.reduceLeDiff, callA, List.getElem?_toArray, List.getElem?_cons_succ, List.getElem?_cons_zero, sb1, sb2, sb3, sb4, hh, tl, b0, s1, cf26, c1, extractA, b_eql, z, b1, b2, s2, cf32, c2, hl, z1]

/-! ### a field set -/
theorem flatN_set : ∀ (l : List Nd) (k : Nat) (hk : k < l.length) (f : Nat) (x : AVal) (n' : Nd), f < 4 → n'.cs = l[k].cs.set f x → (flatN l).set (k * 4 + f) x = flatN (l.set k n')
  | [], k, hk, _, _, _, _, _ => by simp at hk
  | n :: l, 0, hk, f, x, n', hf, hx => by
    unfold flatN
    rw [List.flatMap_cons, List.set_cons_zero, List.flatMap_cons, Nat.zero_mul, Nat.zero_add, List.set_append_left _ _ (by simp [Nd.cs]; omega), hx]
    rfl
  | n :: l, k + 1, hk, f, x, n', hf, hx => by
    have ih := flatN_set l k (by simpa using hk) f x n' hf hx
    unfold flatN at ih ⊢
    rw [List.flatMap_cons, List.set_cons_succ, List.flatMap_cons, List.set_append_right _ _ (by simp [Nd.cs]; omega), ← ih]
    congr 2
    simp [Nd.cs]; omega

theorem fld_store {st : ASt} {s : Nat} {l : List Nd} {k f : Nat} {x : AVal} {n' : Nd} {t : TypeId} (h : st.heap s = some (.cells (flatN l))) (hs : s < st.ctr) (hk : k < l.length) (hf : f < 4) (hx : n'.cs = l[k].cs.set f x)
    (he : ∀ o, storeA E.P t st (.ptr s o) x = (match st.heap s with | some (.cells cs) => if some 1 = some 1 ∧ o + 1 ≤ cs.length ∧ true = true then some (st.set s (some (.cells (cs.set o x)))) else none | _ => none)) :
    ∃ st', storeA E.P t st (.ptr s (k * 4 + f)) x = some st' ∧ PS st' (.slice s 0 l.length 4 none) (l.set k n') := by
  refine ⟨st.set s (some (.cells (flatN (l.set k n')))), ?_, .inr (.inr ⟨s, [], by rw [List.length_set], hs, by simp [ASt.set]⟩)⟩
  rw [he, h]
  simp only
  have := flatN_len l
  rw [if_pos ⟨trivial, by omega, trivial⟩, flatN_set l k hk f x n' hf hx]

theorem st3 (st : ASt) (s o : Nat) (x : Int) : storeA E.P 3 st (.ptr s o) (.lit (.int .i64 x)) = (match st.heap s with | some (.cells cs) => if some 1 = some 1 ∧ o + 1 ≤ cs.length ∧ true = true then some (st.set s (some (.cells (cs.set o (.lit (.int .i64 x)))))) else none | _ => none) := rfl
theorem st22 (st : ASt) (s o : Nat) (x : Int) : storeA E.P 22 st (.ptr s o) (.lit (.int .u64 x)) = (match st.heap s with | some (.cells cs) => if some 1 = some 1 ∧ o + 1 ≤ cs.length ∧ true = true then some (st.set s (some (.cells (cs.set o (.lit (.int .u64 x)))))) else none | _ => none) := rfl

noncomputable def plA : Code := .seq (code Try.f7).fst (.seq (code Try.f7).snd.fst (.seq (code Try.f7).snd.snd.fst (.seq (code Try.f7).snd.snd.snd.fst (.seq (code Try.f7).snd.snd.snd.snd.fst (code Try.f7).snd.snd.snd.snd.snd.fst))))
noncomputable def plB : Code := (code Try.f7).snd.snd.snd.snd.snd.snd.fst
noncomputable def plC : Code := (code Try.f7).snd.snd.snd.snd.snd.snd.snd
theorem pl_parts (call : ACall) (dr : Array Oper → Bool) (n : Nat) (ts : List AVal) (st : ASt) : aexec E 7 call dr n (code Try.f7) ts st =
    aseq (aexec E 7 call dr n plA ts st) fun ts st => aseq (aexec E 7 call dr n plB ts st) (aexec E 7 call dr n plC) := by
  have e : code Try.f7 = .seq (code Try.f7).fst (.seq (code Try.f7).snd.fst (.seq (code Try.f7).snd.snd.fst (.seq (code Try.f7).snd.snd.snd.fst (.seq (code Try.f7).snd.snd.snd.snd.fst (.seq (code Try.f7).snd.snd.snd.snd.snd.fst (.seq plB plC)))))) := rfl
  rw [e, plA]
  simp only [aexec_seq, aseq_assoc]

theorem pl_A (N m : Nat) (hN : 2000 ≤ N) (dr : Array Oper → Bool) {v : AVal} {ns : List N8} {at' : Nat} {w y : AVal} {ts : List AVal} (hv : NS v ns) (ha : at' < 256) (h0 : ts[0]? = some v) (h1 : ts[1]? = some (.lit (.int .u8 at'))) (h2 : ts[2]? = some w) (h3 : ts[3]? = some y) (tl : ts.length = 126) :
    (100 < ns.length → ∃ ts' st', aexec E 7 (run E N) dr m plA ts st0 = some (.ret, ts', st') ∧ ts'[8]? = some (.lit (.bool true))) ∧
    (ns.length ≤ 100 → ∃ ts' st' l s, aexec E 7 (run E N) dr m plA ts st0 = some (.normal, ts', st') ∧ IsTree l ∧ ts'[9]? = some (.slice s 0 l.length 4 none) ∧ s < st'.ctr ∧ st'.heap s = some (.cells (flatN l)) ∧ ts'[12]? = some (.lit (.int .i64 (at' % l.length : Nat))) ∧ ts'[2]? = some w ∧ ts'[3]? = some y ∧ ts'.length = 126) := by
  have hh : ∀ t, E.hint 7 t = false := fun _ => rfl
  obtain ⟨s0, n0, _⟩ := awake17 st0
  have c0 := n0 N (by omega)
  have hnot : ∀ b, pureV E.P (Op.unary .not (.bool b)) = some (.lit (.bool (!b))) := fun _ => rfl
  refine ⟨fun hl => ?_, fun hl => ?_⟩
  · have hd : decide (((ns.length : Nat) : Int) > 100) = true := by rw [decide_eq_true_eq]; omega
    simp only [plA, code, Try.f7, Option.getD_some, Code.fst, Code.snd, Code.inn, aexec, aops, aop, Region.wanted, ayielded, aexecOp, aeval, aput, aseq, ablock, ahint, absOf, flat, nilCheckA, ANext.ofP, evals, evalPs, evalO, aresults, aresults1, aresult, aend, List.getElem?_set, List.length_set, Option.map_some, Option.bind_some, if_true, if_false, ↓reduceIte, Nat.reduceLT, Nat.reduceEqDiff, reduceCtorEq, Bool.false_eq_true, false_and, and_false, and_true, true_and, Nat.reduceAdd, Nat.reduceLeDiff, callA, List.getElem?_toArray, List.getElem?_cons_succ, List.getElem?_cons_zero, sb1, sb2, sb3, sb4, h0, h1, h2, h3, tl, hh, cf24, c0, YtjpehemkgikkdaaA.valOf, hnot, Bool.not_true, len_ns hv, b_gtr, hd]
    exact ⟨_, _, rfl, by simp only [List.getElem?_set, List.length_set, Nat.reduceLT, Nat.reduceEqDiff, ↓reduceIte, reduceCtorEq, *]⟩
  · have hd : decide (((ns.length : Nat) : Int) > 100) = false := by rw [decide_eq_false_iff_not]; omega
    obtain ⟨pv, s1, l, n1, ho, hT, _⟩ := tree_run hv s0
    have hps := ho.ps
    have hTl := hT.len
    obtain ⟨s2, n2, g2⟩ := ck_run hps (by omega)
    rw [hT.ok] at n2
    have n3 := one_run (hps.gr g2) (by omega) hT.kd l.length 0 l.length (one_all hT.ok)
    have c1 := n1 N (by omega)
    have c2 := n2 N (by omega)
    have c3 : run E N 28 [pv, .lit (.int .i64 0)] s2 = some (.returned (.lit (.int .i64 l.length)), s2) := n3 N (by omega)
    have z : (((0 : Nat) : Int) != 0) = false := rfl
    have hL0 : ((l.length : Nat) : Int) ≠ 0 := by have := hT.pos; omega
    have hrem : ((at' : Nat) : Int).tmod ((l.length : Nat) : Int) = ((at' % l.length : Nat) : Int) := tmod_nat _ _
    have hl2 := fun mt ty cs s3 => ps_len hps mt ty cs s3
    have hcv := fun mt st => cvi mt ha st
    obtain ⟨s, rfl, hs1, hs2⟩ : ∃ s, pv = .slice s 0 l.length 4 none ∧ s < s2.ctr ∧ s2.heap s = some (.cells (flatN l)) := by
      rcases ho.gr g2 with ⟨_, e⟩ | ⟨s, e, a, b⟩
      · have := hT.pos; rw [e] at this; simp at this
      · exact ⟨s, e, a, b⟩
    simp only [AVal.undef, sbn, sbn', plA, code, Try.f7, Option.getD_some, Code.fst, Code.snd, Code.inn, aexec, aops, aop, Region.wanted, ayielded, aexecOp, aeval, aput, aseq, ablock, ahint, absOf, flat, nilCheckA, ANext.ofP, evals, evalPs, evalO, aresults, aresults1, aresult, aend, List.getElem?_set, List.length_set, Option.map_some, Option.bind_some, if_true, if_false, ↓reduceIte, Nat.reduceLT, Nat.reduceEqDiff, reduceCtorEq, Bool.false_eq_true, false_and, and_false, and_true, true_and, Nat.reduceAdd, Nat.reduceLeDiff, callA, List.getElem?_toArray, List.getElem?_cons_succ, List.getElem?_cons_zero, sb1, sb2, sb3, sb4, h0, h1, h2, h3, tl, hh, cf24, c0, YtjpehemkgikkdaaA.valOf, hnot, Bool.not_true, len_ns hv, b_gtr, hd, cf29, c1, cf26, c2, extractA, b_neq, z, cf28, c3, hl2, bne_self_eq_false, hcv, ANext.ofP, b_rem _ _ _ _ _ _ _ hL0, hrem]
    exact ⟨_, s2, l, s, rfl, hT, by simp only [List.getElem?_set, List.length_set, Nat.reduceLT, Nat.reduceEqDiff, ↓reduceIte, reduceCtorEq, *], hs1, hs2, by simp only [List.getElem?_set, List.length_set, Nat.reduceLT, Nat.reduceEqDiff, ↓reduceIte, reduceCtorEq, *], by simp only [List.getElem?_set, List.length_set, Nat.reduceLT, Nat.reduceEqDiff, ↓reduceIte, reduceCtorEq, *], by simp only [List.getElem?_set, List.length_set, Nat.reduceLT, Nat.reduceEqDiff, ↓reduceIte, reduceCtorEq, *], by simp only [List.getElem?_set, List.length_set, Nat.reduceLT, Nat.reduceEqDiff, ↓reduceIte, reduceCtorEq, *]⟩

theorem slice44 {s L c : Nat} (hL : 0 < L) (hc : c ≤ L) : sliceA E.P 44 (.slice s 0 L 4 none) none (some (.lit (.int .i64 c))) none = some (.slice s 0 c 4 none) := by
  have e : sliceA E.P 44 (.slice s 0 L 4 none) none (some (.lit (.int .i64 c))) none = (match boundsA L L none (some (.lit (.int .i64 c))) none with
        | some (l, h, m) => match m, (none : Option Nat) with
          | some m, _ => some (.slice s (if m = l then 0 else 0 + l * 4) (h - l) 4 (some (m - l)))
          | none, some c => some (.slice s (if c = l then 0 else 0 + l * 4) (h - l) 4 (some (c - l)))
          | none, none => if l < L then some (.slice s (0 + l * 4) (h - l) 4 none) else some (.islice 4 [] .unk)
        | none => none) := rfl
  have e2 : boundsA L L none (some (.lit (.int .i64 c))) none = some (0, c, none) := by
    have b1 : boundA (some (.lit (.int .i64 c))) L L = some c := by
      have : boundA (some (.lit (.int .i64 c))) L L = if 0 ≤ (c : Int) ∧ (c : Int) ≤ (L : Int) then some (c : Int).toNat else none := rfl
      rw [this, if_pos ⟨by omega, by omega⟩, Int.toNat_natCast]
    have b2 : boundA none 0 c = some 0 := rfl
    unfold boundsA
    simp only [b1, b2]
  rw [e, e2]
  simp only [if_pos hL, Nat.zero_mul, Nat.zero_add, Nat.sub_zero]

theorem u2 : E.P.underlying 2 = some (.int .i64) := rfl
theorem wrap8 {z : Int} (h1 : -128 ≤ z) (h2 : z ≤ 127) : IntKind.i64.wrap z = z := by
  simp [IntKind.wrap, IntKind.bits, IntKind.signed]; omega
theorem u64_nat (z : Int) : ∃ n : Nat, IntKind.u64.wrap z = (n : Int) := by
  refine ⟨(IntKind.u64.wrap z).toNat, (Int.toNat_of_nonneg ?_).symm⟩
  simp only [IntKind.wrap, IntKind.bits, IntKind.signed, Bool.false_and, Bool.false_eq_true, if_false]
  omega

set_option maxHeartbeats 2000000 in
theorem pl_B (call : ACall) (dr : Array Oper → Bool) (m : Nat) {l : List Nd} {s k what : Nat} {by' : Int} {ts : List AVal} {st : ASt} (hl : l.length ≤ 40) (hk : k < l.length) (hs : s < st.ctr) (hh' : st.heap s = some (.cells (flatN l))) (hb : -128 ≤ by' ∧ by' ≤ 127)
    (h9 : ts[9]? = some (.slice s 0 l.length 4 none)) (h12 : ts[12]? = some (.lit (.int .i64 k))) (h2 : ts[2]? = some (.lit (.int .u8 what))) (h3 : ts[3]? = some (.lit (.int .i8 by'))) (tl : ts.length = 126) :
    ∃ ts' st' v' l', aexec E 7 call dr m plB ts st = some (.normal, ts', st') ∧ PS st' v' l' ∧ l'.length ≤ 41 ∧ ts'[9]? = some v' ∧ ts'.length = 126 := by
  have hh : ∀ t, E.hint 7 t = false := fun _ => rfl
  have hrem : ((what : Nat) : Int).tmod 6 = ((what % 6 : Nat) : Int) := tmod_nat _ 6
  obtain ⟨q, hq⟩ : ∃ q, what % 6 = q := ⟨_, rfl⟩
  rw [hq] at hrem
  have hq6 : q < 6 := by omega
  have e : indexA E.P 44 (.slice s 0 l.length 4 none) (.lit (.int .i64 k)) = some (.ptr s (k * 4)) := by
    have e : indexA E.P 44 (.slice s 0 l.length 4 none) (.lit (.int .i64 k)) = if 0 ≤ (k : Int) ∧ (k : Int) < (l.length : Nat) then some (.ptr s (0 + (k : Int).toNat * 4)) else none := rfl
    rw [e, if_pos ⟨by omega, by omega⟩]
    simp
  have hc := flatN_get l k hk []
  rw [List.append_nil] at hc
  obtain ⟨l0, l1, l2, l3, l4⟩ := ldN hh' hc
  obtain ⟨f0, f1, f2, f3⟩ := fldN s (k * 4)
  have w8 := wrap8 hb.1 hb.2
  have cv3 := fun mt st => (c_int (P := E.P) (mt := mt) (st := st) (k := .i8) (n := by') u52 u3)
  have cv2 := fun mt st => (c_int (P := E.P) (mt := mt) (st := st) (k := .i8) (n := by') u52 u2)
  simp only [w8] at cv3 cv2
  have cv22 := fun mt st => (c_int (P := E.P) (mt := mt) (st := st) (k := .i64) (n := by') u2 u22)
  have hqs : q = 0 ∨ q = 1 ∨ q = 2 ∨ q = 3 ∨ q = 4 ∨ q = 5 := by omega
  clear hq hq6
  rcases hqs with rfl | rfl | rfl | rfl | rfl | rfl
  · have z0 : (((0 : Nat) : Int) == 0) = true := rfl
    have hx : srcA E.P 54 44 true 4 st (.islice 4 ([nd0].map Nd.a) .exact) = some ([nd0].map Nd.a) := src_islice nodeT (nodes_ok [nd0])
    have hcc := chunk_nodes [] l 0 [] rfl
    rw [List.append_nil, List.nil_append] at hcc
    have ha := app_slice (mt := false) nodeT (es := l.map Nd.a) hh' (by rw [List.length_map]; exact hcc) (nodes_ok l) hx (by simp) (by simp; omega)
    rw [List.length_map, ← List.map_append, flatE_nodes, List.length_map] at ha
    have b0 : buildA E.P 54 [] = some nd0.a := rfl
    have s1 : ∀ st, buildSliceA E.P false 44 1 [(0, nd0.a)] st = some (.islice 4 ([nd0].map Nd.a) .exact, st) := fun _ => rfl
    simp only [plB, code, Try.f7, Option.getD_some, Code.fst, Code.snd, Code.inn, aexec, aops, aop, Region.wanted, ayielded, aexecOp, aeval, aput, aseq, ablock, ahint, absOf, flat, nilCheckA, ANext.ofP, evals, evalPs, evalO, aresults, aresults1, aresult, aend, List.getElem?_set, List.length_set, Option.map_some, Option.bind_some, if_true, if_false, ↓reduceIte, Nat.reduceLT, Nat.reduceEqDiff, reduceCtorEq, Bool.false_eq_true, false_and, and_false, and_true, true_and, Nat.reduceAdd, Nat.reduceLeDiff, callA, List.getElem?_toArray, List.getElem?_cons_succ, List.getElem?_cons_zero, sb1, sb2, sb3, sb4, h9, h12, h2, h3, tl, hh, b_rem _ _ _ _ _ _ _ (show (6 : Int) ≠ 0 by decide), hrem, b_eql, z0, b0, s1, b_app, ha]
    exact ⟨_, _, _, l ++ [nd0], rfl, .inr (.inr ⟨st.ctr, [], rfl, by simp [ASt.new, ASt.set], by simp [ASt.new, ASt.set]⟩), by simp; omega, by simp only [List.getElem?_set, List.length_set, Nat.reduceLT, Nat.reduceEqDiff, ↓reduceIte, reduceCtorEq, *], by simp only [List.getElem?_set, List.length_set, Nat.reduceLT, Nat.reduceEqDiff, ↓reduceIte, reduceCtorEq, *]⟩
  · have z0 : (((1 : Nat) : Int) == 0) = false := rfl
    have z1 : (((1 : Nat) : Int) == 1) = true := rfl
    have hsl := slice44 (s := s) (L := l.length) (c := k) (by omega) (by omega)
    have hfl : flatN l = flatN (l.take k) ++ flatN (l.drop k) := by
      unfold flatN; rw [← List.flatMap_append, List.take_append_drop]
    simp only [plB, code, Try.f7, Option.getD_some, Code.fst, Code.snd, Code.inn, aexec, aops, aop, Region.wanted, ayielded, aexecOp, aeval, aput, aseq, ablock, ahint, absOf, flat, nilCheckA, ANext.ofP, evals, evalPs, evalO, aresults, aresults1, aresult, aend, List.getElem?_set, List.length_set, Option.map_some, Option.bind_some, if_true, if_false, ↓reduceIte, Nat.reduceLT, Nat.reduceEqDiff, reduceCtorEq, Bool.false_eq_true, false_and, and_false, and_true, true_and, Nat.reduceAdd, Nat.reduceLeDiff, callA, List.getElem?_toArray, List.getElem?_cons_succ, List.getElem?_cons_zero, sb1, sb2, sb3, sb4, h9, h12, h2, h3, tl, hh, b_rem _ _ _ _ _ _ _ (show (6 : Int) ≠ 0 by decide), hrem, b_eql, z0, z1, evalO, hsl]
    refine ⟨_, _, _, l.take k, rfl, .inr (.inr ⟨s, flatN (l.drop k), by rw [List.length_take, Nat.min_eq_left (by omega)], hs, by rw [← hfl]; exact hh'⟩), by rw [List.length_take]; omega, by simp only [List.getElem?_set, List.length_set, Nat.reduceLT, Nat.reduceEqDiff, ↓reduceIte, reduceCtorEq, *], by simp only [List.getElem?_set, List.length_set, Nat.reduceLT, Nat.reduceEqDiff, ↓reduceIte, reduceCtorEq, *]⟩
  · have z0 : (((2 : Nat) : Int) == 0) = false := rfl
    have z1 : (((2 : Nat) : Int) == 1) = false := rfl
    have z2 : (((2 : Nat) : Int) == 2) = true := rfl
    obtain ⟨st', hst, hps⟩ := fld_store (k := k) (f := 0) (n' := { l[k] with th := IntKind.i64.wrap (l[k].th + by') }) hh' hs hk (by decide) rfl (fun o => st3 st s o (IntKind.i64.wrap (l[k].th + by')))
    rw [Nat.add_zero] at hst
    simp only [plB, code, Try.f7, Option.getD_some, Code.fst, Code.snd, Code.inn, aexec, aops, aop, Region.wanted, ayielded, aexecOp, aeval, aput, aseq, ablock, ahint, absOf, flat, nilCheckA, ANext.ofP, evals, evalPs, evalO, aresults, aresults1, aresult, aend, List.getElem?_set, List.length_set, Option.map_some, Option.bind_some, if_true, if_false, ↓reduceIte, Nat.reduceLT, Nat.reduceEqDiff, reduceCtorEq, Bool.false_eq_true, false_and, and_false, and_true, true_and, Nat.reduceAdd, Nat.reduceLeDiff, callA, List.getElem?_toArray, List.getElem?_cons_succ, List.getElem?_cons_zero, sb1, sb2, sb3, sb4, h9, h12, h2, h3, tl, hh, b_rem _ _ _ _ _ _ _ (show (6 : Int) ≠ 0 by decide), hrem, b_eql, z0, z1, z2, e, f0, l1, cv3, ANext.ofP, b_add, hst]
    exact ⟨_, st', _, _, rfl, hps, by rw [List.length_set]; omega, by simp only [List.getElem?_set, List.length_set, Nat.reduceLT, Nat.reduceEqDiff, ↓reduceIte, reduceCtorEq, *], by simp only [List.getElem?_set, List.length_set, Nat.reduceLT, Nat.reduceEqDiff, ↓reduceIte, reduceCtorEq, *]⟩
  · have z0 : (((3 : Nat) : Int) == 0) = false := rfl
    have z1 : (((3 : Nat) : Int) == 1) = false := rfl
    have z2 : (((3 : Nat) : Int) == 2) = false := rfl
    have z3 : (((3 : Nat) : Int) == 3) = true := rfl
    obtain ⟨z, hz⟩ := u64_nat ((l[k].sl : Int) + IntKind.u64.wrap by')
    obtain ⟨st', hst, hps⟩ := fld_store (k := k) (f := 1) (n' := { l[k] with sl := z }) hh' hs hk (by decide) rfl (fun o => st22 st s o ((z : Nat) : Int))
    simp only [plB, code, Try.f7, Option.getD_some, Code.fst, Code.snd, Code.inn, aexec, aops, aop, Region.wanted, ayielded, aexecOp, aeval, aput, aseq, ablock, ahint, absOf, flat, nilCheckA, ANext.ofP, evals, evalPs, evalO, aresults, aresults1, aresult, aend, List.getElem?_set, List.length_set, Option.map_some, Option.bind_some, if_true, if_false, ↓reduceIte, Nat.reduceLT, Nat.reduceEqDiff, reduceCtorEq, Bool.false_eq_true, false_and, and_false, and_true, true_and, Nat.reduceAdd, Nat.reduceLeDiff, callA, List.getElem?_toArray, List.getElem?_cons_succ, List.getElem?_cons_zero, sb1, sb2, sb3, sb4, h9, h12, h2, h3, tl, hh, b_rem _ _ _ _ _ _ _ (show (6 : Int) ≠ 0 by decide), hrem, b_eql, z0, z1, z2, z3, e, f1, l2, cv2, cv22, ANext.ofP, b_add, hz, hst]
    exact ⟨_, st', _, _, rfl, hps, by rw [List.length_set]; omega, by simp only [List.getElem?_set, List.length_set, Nat.reduceLT, Nat.reduceEqDiff, ↓reduceIte, reduceCtorEq, *], by simp only [List.getElem?_set, List.length_set, Nat.reduceLT, Nat.reduceEqDiff, ↓reduceIte, reduceCtorEq, *]⟩
  · have z0 : (((4 : Nat) : Int) == 0) = false := rfl
    have z1 : (((4 : Nat) : Int) == 1) = false := rfl
    have z2 : (((4 : Nat) : Int) == 2) = false := rfl
    have z3 : (((4 : Nat) : Int) == 3) = false := rfl
    have z4 : (((4 : Nat) : Int) == 4) = true := rfl
    obtain ⟨z, hz⟩ := u64_nat ((l[k].so : Int) + IntKind.u64.wrap by')
    obtain ⟨st', hst, hps⟩ := fld_store (k := k) (f := 2) (n' := { l[k] with so := z }) hh' hs hk (by decide) rfl (fun o => st22 st s o ((z : Nat) : Int))
    simp only [plB, code, Try.f7, Option.getD_some, Code.fst, Code.snd, Code.inn, aexec, aops, aop, Region.wanted, ayielded, aexecOp, aeval, aput, aseq, ablock, ahint, absOf, flat, nilCheckA, ANext.ofP, evals, evalPs, evalO, aresults, aresults1, aresult, aend, List.getElem?_set, List.length_set, Option.map_some, Option.bind_some, if_true, if_false, ↓reduceIte, Nat.reduceLT, Nat.reduceEqDiff, reduceCtorEq, Bool.false_eq_true, false_and, and_false, and_true, true_and, Nat.reduceAdd, Nat.reduceLeDiff, callA, List.getElem?_toArray, List.getElem?_cons_succ, List.getElem?_cons_zero, sb1, sb2, sb3, sb4, h9, h12, h2, h3, tl, hh, b_rem _ _ _ _ _ _ _ (show (6 : Int) ≠ 0 by decide), hrem, b_eql, z0, z1, z2, z3, z4, e, f2, l3, cv2, cv22, ANext.ofP, b_add, hz, hst]
    exact ⟨_, st', _, _, rfl, hps, by rw [List.length_set]; omega, by simp only [List.getElem?_set, List.length_set, Nat.reduceLT, Nat.reduceEqDiff, ↓reduceIte, reduceCtorEq, *], by simp only [List.getElem?_set, List.length_set, Nat.reduceLT, Nat.reduceEqDiff, ↓reduceIte, reduceCtorEq, *]⟩
  · have z0 : (((5 : Nat) : Int) == 0) = false := rfl
    have z1 : (((5 : Nat) : Int) == 1) = false := rfl
    have z2 : (((5 : Nat) : Int) == 2) = false := rfl
    have z3 : (((5 : Nat) : Int) == 3) = false := rfl
    have z4 : (((5 : Nat) : Int) == 4) = false := rfl
    obtain ⟨st', hst, hps⟩ := fld_store (k := k) (f := 3) (n' := { l[k] with kd := IntKind.i64.wrap (l[k].kd + by') }) hh' hs hk (by decide) rfl (fun o => st3 st s o (IntKind.i64.wrap (l[k].kd + by')))
    simp only [plB, code, Try.f7, Option.getD_some, Code.fst, Code.snd, Code.inn, aexec, aops, aop, Region.wanted, ayielded, aexecOp, aeval, aput, aseq, ablock, ahint, absOf, flat, nilCheckA, ANext.ofP, evals, evalPs, evalO, aresults, aresults1, aresult, aend, List.getElem?_set, List.length_set, Option.map_some, Option.bind_some, if_true, if_false, ↓reduceIte, Nat.reduceLT, Nat.reduceEqDiff, reduceCtorEq, Bool.false_eq_true, false_and, and_false, and_true, true_and, Nat.reduceAdd, Nat.reduceLeDiff, callA, List.getElem?_toArray, List.getElem?_cons_succ, List.getElem?_cons_zero, sb1, sb2, sb3, sb4, h9, h12, h2, h3, tl, hh, b_rem _ _ _ _ _ _ _ (show (6 : Int) ≠ 0 by decide), hrem, b_eql, z0, z1, z2, z3, z4, e, f3, l4, cv3, ANext.ofP, b_add, hst]
    exact ⟨_, st', _, _, rfl, hps, by rw [List.length_set]; omega, by simp only [List.getElem?_set, List.length_set, Nat.reduceLT, Nat.reduceEqDiff, ↓reduceIte, reduceCtorEq, *], by simp only [List.getElem?_set, List.length_set, Nat.reduceLT, Nat.reduceEqDiff, ↓reduceIte, reduceCtorEq, *]⟩

theorem pl_C (N m : Nat) (hN : 2000 ≤ N) (dr : Array Oper → Bool) {l : List Nd} {v : AVal} {ts : List AVal} {st : ASt} (hp : PS st v l) (hl : l.length ≤ 41) (h9 : ts[9]? = some v) (tl : ts.length = 126) :
    ∃ ts' st', aexec E 7 (run E N) dr m plC ts st = some (.ret, ts', st') ∧ ts'[8]? = some (.lit (.bool true)) := by
  have hh : ∀ t, E.hint 7 t = false := fun _ => rfl
  obtain ⟨s1, n1, g1⟩ := ck_run hp (by omega)
  obtain ⟨s2, n2, g2⟩ := lk_run (hp.gr g1) (by omega)
  have c1 := n1 N (by omega)
  have c2 := n2 N (by omega)
  simp only [plC, code, Try.f7, Option.getD_some, Code.fst, Code.snd, Code.inn, aexec, aops, aop, Region.wanted, ayielded, aexecOp, aeval, aput, aseq, ablock, ahint, absOf, flat, nilCheckA, ANext.ofP, evals, evalPs, evalO, aresults, aresults1, aresult, aend, List.getElem?_set, List.length_set, Option.map_some, Option.bind_some, if_true, if_false, ↓reduceIte, Nat.reduceLT, Nat.reduceEqDiff, reduceCtorEq, Bool.false_eq_true, false_and, and_false, and_true, true_and, Nat.reduceAdd, Nat.reduceLeDiff, callA, List.getElem?_toArray, List.getElem?_cons_succ, List.getElem?_cons_zero, sb1, sb2, sb3, sb4, h9, tl, hh, cf26, c1, extractA, cf27, c2, b_eql, beq_self_eq_true]
  exact ⟨_, _, rfl, by simp only [List.getElem?_set, List.length_set, Nat.reduceLT, Nat.reduceEqDiff, ↓reduceIte, reduceCtorEq, *]⟩

theorem datv_natN {n : Nat} {t : TypeId} {k : IntKind} {v : AVal} (hu : E.P.underlying t = some (.int k)) (hr : rowB E.P t = false) (hk : k.signed = false) (h : DatV E.P n t v) : ∃ i : Nat, v = .lit (.int k i) ∧ i < 2 ^ k.bits := by
  obtain ⟨i, rfl, h1, h2⟩ := datv_int hu hr h
  have h0 : (0 : Int) ≤ i := by
    have : k.min = 0 := by unfold IntKind.min; rw [hk]; rfl
    omega
  refine ⟨i.toNat, by rw [Int.toNat_of_nonneg h0], ?_⟩
  have : k.max = 2 ^ k.bits - 1 := by unfold IntKind.max; rw [hk]; rfl
  rw [this] at h2
  have h3 : (i.toNat : Int) < 2 ^ k.bits := by rw [Int.toNat_of_nonneg h0]; omega
  exact_mod_cast h3

theorem trees_runs (b0 b1 b2 b3 : AVal) (d0 : DatV E.P 6 42 b0) (d1 : DatV E.P 6 5 b1) (d2 : DatV E.P 6 5 b2) (d3 : DatV E.P 6 52 b3) : ∃ n st', run E n 7 [b0, b1, b2, b3] st0 = some (.returned (.lit (.bool true)), st') := by
  obtain ⟨ns, hv⟩ := datv_ns d0
  obtain ⟨at', rfl, ha⟩ := datv_natN u5 rfl rfl d1
  obtain ⟨what, rfl, hw⟩ := datv_natN u5 rfl rfl d2
  obtain ⟨by', rfl, hb1, hb2⟩ := datv_int u52 rfl d3
  simp only [IntKind.bits] at ha hw
  have hb1' : (-128 : Int) ≤ by' := hb1
  have hb2' : by' ≤ 127 := hb2
  refine ⟨2000 + 1, ?_⟩
  obtain ⟨ts, et, t0, t1, t2, t3, tl⟩ : ∃ ts : List AVal, ([b0, AVal.lit (.int .u8 at'), .lit (.int .u8 what), .lit (.int .i8 by')] ++ List.replicate (Try.f7.ntmps - [b0, AVal.lit (.int .u8 at'), .lit (.int .u8 what), .lit (.int .i8 by')].length) .undef) = ts ∧
      ts[0]? = some b0 ∧ ts[1]? = some (.lit (.int .u8 at')) ∧ ts[2]? = some (.lit (.int .u8 what)) ∧ ts[3]? = some (.lit (.int .i8 by')) ∧ ts.length = 126 := ⟨_, rfl, rfl, rfl, rfl, rfl, rfl⟩
  have hres : ∀ ts st v, ts[8]? = some v → aresults E Try.f7 ts st = some v := by
    intro ts st v h
    unfold aresults
    simp only [Try.f7, aresults1, aresult, h]
  rw [run_code (fn := Try.f7) rfl rfl, et, pl_parts]
  have hA := pl_A 2000 2000 (by omega) (drawB E 7) hv ha t0 t1 t2 t3 tl
  by_cases hl : 100 < ns.length
  · obtain ⟨ts1, st1, e1, a8⟩ := hA.1 hl
    exact ⟨st1, by simp only [e1, aseq, aend, hres _ _ _ a8, Option.map_some]⟩
  · obtain ⟨ts1, st1, l, s, e1, hT, a9, hs, hhs, a12, a2, a3, al⟩ := hA.2 (by omega)
    have hpos := hT.pos
    have hlen := hT.len
    obtain ⟨ts2, st2, v', l', e2, hps, hl', b9, bl⟩ := pl_B (run E 2000) (drawB E 7) 2000 hlen (Nat.mod_lt _ hpos) hs hhs ⟨hb1', hb2'⟩ a9 a12 a2 a3 al
    obtain ⟨ts3, st3, e3, c8⟩ := pl_C 2000 2000 (by omega) (drawB E 7) hps hl' b9 bl
    exact ⟨st3, by simp only [e1, aseq, e2, e3, aend, hres _ _ _ c8, Option.map_some]⟩

end Go.Proofs.YtjpehemkgikkdaaV
