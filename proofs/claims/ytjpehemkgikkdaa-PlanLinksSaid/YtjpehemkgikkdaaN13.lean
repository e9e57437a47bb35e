/- Equal of whole numbers: its contract, where they are the same. No condition. -/
import Derived.Test.YtjpehemkgikkdaaN12
namespace Go.Proofs.YtjpehemkgikkdaaV
open Go Go.RowKit Go.Proofs.YtjpehemkgikkdaaA
set_option linter.unusedVariables false
set_option linter.unusedSimpArgs false
set_option maxRecDepth 100000

/-- a row of whole numbers that was made as long as it is -/
def MRow (st : ASt) (v : AVal) (l : List Int) (s : Nat) : Prop := v = .slice s 0 l.length 1 (some l.length) ∧ s < st.ctr ∧ st.heap s = some (.cells (l.map intN))

theorem mrow_idx {st : ASt} {v : AVal} {l : List Int} {s : Nat} (h : MRow st v l s) {i : Nat} (hi : i < l.length) :
    indexA E.P 59 v (.lit (.int .i64 i)) = some (.ptr s i) ∧ loadA E.P 3 st (.ptr s i) = some (.lit (.int .i64 l[i])) := by
  obtain ⟨rfl, h2, h3⟩ := h
  have e : indexA E.P 59 (.slice s 0 l.length 1 (some l.length)) (.lit (.int .i64 i)) = if 0 ≤ (i : Int) ∧ (i : Int) < (l.length : Nat) then some (.ptr s (0 + (i : Int).toNat * 1)) else none := rfl
  have e2 : loadA E.P 3 st (.ptr s i) = (match st.heap s with
    | some (.cells cs) => cs[i]?
    | _ => none) := rfl
  refine ⟨by rw [e, if_pos ⟨by omega, by omega⟩]; simp, ?_⟩
  rw [e2, h3]
  simp [hi, intN]

theorem mrow_store {st : ASt} {v : AVal} {l : List Int} {s : Nat} (h : MRow st v l s) {i : Nat} (hi : i < l.length) (x : Int) :
    ∃ st', storeA E.P 3 st (.ptr s i) (.lit (.int .i64 x)) = some st' ∧ MRow st' v (l.set i x) s ∧ st'.ctr = st.ctr ∧ ∀ k, k ≠ s → st'.heap k = st.heap k := by
  obtain ⟨rfl, h2, h3⟩ := h
  have e : storeA E.P 3 st (.ptr s i) (.lit (.int .i64 x)) = (match st.heap s with
    | some (.cells cs) => if some 1 = some 1 ∧ i + 1 ≤ cs.length ∧ true = true then some (st.set s (some (.cells (cs.set i (.lit (.int .i64 x)))))) else none
    | _ => none) := rfl
  refine ⟨st.set s (some (.cells ((l.map intN).set i (.lit (.int .i64 x))))), ?_, ⟨by rw [List.length_set], h2, ?_⟩, rfl, fun k hk => ASt.set_ne _ _ _ _ hk⟩
  · rw [e, h3]
    simp only
    rw [if_pos ⟨trivial, by simp; omega, trivial⟩]
  · rw [List.map_set]
    simp [ASt.set, intN]

theorem mrow_make (n : Nat) (hn : n ≤ 1000) (st : ASt) : ∃ v st', makeSliceA E.P 59 (.lit (.int .i64 n)) (.lit (.int .i64 n)) st = some (v, st') ∧ MRow st' v (List.replicate n 0) st.ctr ∧ Gr st st' := by
  have e : makeSliceA E.P 59 (.lit (.int .i64 n)) (.lit (.int .i64 n)) st = if 0 ≤ (n : Int) ∧ (n : Int) ≤ (n : Int) ∧ 0 < 1 ∧ (n : Int).toNat * 1 ≤ 16777216 ∧ 8 ≤ 4096 ∧ true = true then
      some (.slice st.ctr 0 (n : Int).toNat 1 (some (n : Int).toNat), st.new (.cells (flatE (List.replicate (n : Int).toNat (.lit (.int .i64 0)))))) else none := rfl
  have hf : flatE (List.replicate n (AVal.lit (.int .i64 0))) = (List.replicate n (0 : Int)).map intN := by
    have := flatE_ints (List.replicate n 0)
    rw [List.map_replicate] at this ⊢
    exact this
  refine ⟨_, _, by rw [e, if_pos ⟨by omega, by omega, by omega, by simp; omega, by omega, rfl⟩], ⟨by simp, by simp [ASt.new], ?_⟩, Gr.new _ _⟩
  rw [Int.toNat_natCast, hf]; simp [ASt.new]

/-- these whole numbers, to be read -/
def RI (st : ASt) (v : AVal) (l : List Int) : Prop := (∃ c, v = .islice 1 (l.map intN) c) ∨ (∃ s, IRow st v l s) ∨ ∃ s, MRow st v l s

theorem ri_len {st : ASt} {v : AVal} {l : List Int} (h : RI st v l) (mt : Bool) (ty : TypeId) (cs : Array Bool) (st2 : ASt) :
    builtinA E.P mt .len #[59] ty cs [v] st2 = some (.val (.lit (.int .i64 l.length)) st2) := by
  rcases h with ⟨c, rfl⟩ | ⟨s, h⟩ | ⟨s, rfl, _⟩
  · rw [len_islice (e := 3) u59']; simp
  · exact irow_len h mt ty cs st2
  · rfl
theorem ri_idx {st : ASt} {v : AVal} {l : List Int} (h : RI st v l) {i : Nat} (hi : i < l.length) : ∃ p, indexA E.P 59 v (.lit (.int .i64 i)) = some p ∧ loadA E.P 3 st p = some (.lit (.int .i64 l[i])) := by
  rcases h with ⟨c, rfl⟩ | ⟨s, h⟩ | ⟨s, h⟩
  · have : indexA E.P 59 (.islice 1 (l.map intN) c) (.lit (.int .i64 i)) = if 0 ≤ (i : Int) ∧ (i : Int) < (l.map intN).length ∧ (some 1 : Option Nat) = some 1 then ((l.map intN)[(i : Int).toNat]?).map .iptr else none := rfl
    refine ⟨.iptr (.lit (.int .i64 l[i])), ?_, rfl⟩
    rw [this, if_pos ⟨by omega, by simp; omega, rfl⟩]
    simp [hi, intN]
  · obtain ⟨s', _, h1, h2⟩ := irow_idx h hi
    exact ⟨_, h1, h2⟩
  · obtain ⟨h1, h2⟩ := mrow_idx h hi
    exact ⟨_, h1, h2⟩
theorem RI.gr {st st' : ASt} {v : AVal} {l : List Int} (h : RI st v l) (hg : Gr st st') : RI st' v l := by
  rcases h with h | ⟨s, h⟩ | ⟨s, h1, h2, h3⟩
  · exact .inl h
  · exact .inr (.inl ⟨s, h.gr hg.1 (fun k e => hg.2 k (irow_lt h k e))⟩)
  · exact .inr (.inr ⟨s, h1, Nat.lt_of_lt_of_le h2 hg.1, by rw [hg.2 s h2]; exact h3⟩)

noncomputable def qiBody : Code := (code Try.f33).snd.snd.fst.snd.inn
noncomputable def qiPre : Code := .seq (code Try.f33).fst (.seq (code Try.f33).snd.fst (code Try.f33).snd.snd.fst.fst)
noncomputable def qiEnd : Code := (code Try.f33).snd.snd.snd
theorem qi_parts (call : ACall) (dr : Array Oper → Bool) (n : Nat) (ts : List AVal) (st : ASt) : aexec E 33 call dr n (code Try.f33) ts st =
    aseq (aexec E 33 call dr n qiPre ts st) fun ts st => aseq (ablock 0 (aloop (aexec E 33 call dr n qiBody) n ts st)) (aexec E 33 call dr n qiEnd) := by
  have e : code Try.f33 = .seq (code Try.f33).fst (.seq (code Try.f33).snd.fst (.seq (.seq (code Try.f33).snd.snd.fst.fst (.block 0 (.loop qiBody))) qiEnd)) := rfl
  rw [e, qiPre]
  simp only [aexec_seq, aexec_block, aexec_loop, aseq_assoc]

structure QiI (x y : AVal) (n i : Nat) (ts : List AVal) : Prop where
  t0 : ts[0]? = some x
  t1 : ts[1]? = some y
  t12 : ts[12]? = some (.lit (.int .i64 n))
  t13 : ts[13]? = some (.lit (.int .i64 i))
  tl : ts.length = 26

theorem qi_round (call : ACall) (m : Nat) {x y : AVal} {l : List Int} {i : Nat} {ts : List AVal} {st : ASt} (hx : RI st x l) (hy : RI st y l) (hl : l.length ≤ 100000) (h : QiI x y l.length i ts) :
    (i = l.length → ∃ ts', aexec E 33 call (drawB E 33) m qiBody ts st = some (.exit 0, ts', st) ∧ ts'.length = 26) ∧
    (i < l.length → ∃ ts', aexec E 33 call (drawB E 33) m qiBody ts st = some (.normal, ts', st) ∧ QiI x y l.length (i + 1) ts') := by
  obtain ⟨t0, t1, t12, t13, tl⟩ := h
  have hh : ∀ t, E.hint 33 t = false := fun _ => rfl
  have hdr : drawB E 33 (qiBody.snd.snd.fst.inn.snd.fst.ops) = true := by kernel_rfl
  simp only [qiBody, code, Try.f33, Option.getD_some, Code.fst, Code.snd, Code.inn, Code.ops] at hdr
  refine ⟨fun hi => ?_, fun hi => ?_⟩
  · have hd : decide ((i : Int) < l.length) = false := by rw [decide_eq_false_iff_not]; omega
    simp only [qiBody, code, Try.f33, Option.getD_some, Code.fst, Code.snd, Code.inn, aexec, aops, aop, Region.wanted, ayielded, aexecOp, aeval, aput, aseq, ablock, ahint, absOf, flat, nilCheckA, ANext.ofP, evals, evalPs, evalO, aresults, aresults1, aresult, aend, List.getElem?_set, List.length_set, Option.map_some, Option.bind_some, if_true, if_false, ↓reduceIte, Nat.reduceLT, Nat.reduceEqDiff, reduceCtorEq, Bool.false_eq_true, false_and, and_false, and_true, true_and, Nat.reduceAdd, Nat.reduceLeDiff, callA, List.getElem?_toArray, List.getElem?_cons_succ, List.getElem?_cons_zero, sb1, sb2, sb3, sb4, t0, t1, t12, t13, tl, hh, b_lss, hd]
    exact ⟨_, rfl, by simp only [List.getElem?_set, List.length_set, Nat.reduceLT, Nat.reduceEqDiff, ↓reduceIte, reduceCtorEq, *]⟩
  · have hd : decide ((i : Int) < l.length) = true := by rw [decide_eq_true_eq]; omega
    obtain ⟨p1, i1, j1⟩ := ri_idx hx hi
    obtain ⟨p2, i2, j2⟩ := ri_idx hy hi
    have q1 : IntKind.i64.wrap ((i : Int) + 1) = ((i + 1 : Nat) : Int) := by
      simp [IntKind.wrap, IntKind.bits, IntKind.signed]; omega
    simp only [qiBody, code, Try.f33, Option.getD_some, Code.fst, Code.snd, Code.inn, aexec, aops, aop, Region.wanted, ayielded, aexecOp, aeval, aput, aseq, ablock, ahint, absOf, flat, nilCheckA, ANext.ofP, evals, evalPs, evalO, aresults, aresults1, aresult, aend, List.getElem?_set, List.length_set, Option.map_some, Option.bind_some, if_true, if_false, ↓reduceIte, Nat.reduceLT, Nat.reduceEqDiff, reduceCtorEq, Bool.false_eq_true, false_and, and_false, and_true, true_and, Nat.reduceAdd, Nat.reduceLeDiff, callA, List.getElem?_toArray, List.getElem?_cons_succ, List.getElem?_cons_zero, sb1, sb2, sb3, sb4, t0, t1, t12, t13, tl, hh, hdr, b_lss, hd, i1, i2, j1, j2, b_neq, bne_self_eq_false, b_add, q1]
    exact ⟨_, rfl, ⟨by simp only [List.getElem?_set, List.length_set, Nat.reduceLT, Nat.reduceEqDiff, ↓reduceIte, reduceCtorEq, *], by simp only [List.getElem?_set, List.length_set, Nat.reduceLT, Nat.reduceEqDiff, ↓reduceIte, reduceCtorEq, *], by simp only [List.getElem?_set, List.length_set, Nat.reduceLT, Nat.reduceEqDiff, ↓reduceIte, reduceCtorEq, *], by simp only [List.getElem?_set, List.length_set, Nat.reduceLT, Nat.reduceEqDiff, ↓reduceIte, reduceCtorEq, *], by simp only [List.getElem?_set, List.length_set, Nat.reduceLT, Nat.reduceEqDiff, ↓reduceIte, reduceCtorEq, *]⟩⟩

theorem qi_run {x y : AVal} {l : List Int} {st : ASt} (hx : RI st x l) (hy : RI st y l) (hl : l.length ≤ 100000) : RetN E (l.length + 2) 33 [x, y] st (.lit (.bool true)) st := by
  refine RetN.of (n := l.length + 1 + 1) ?_
  rw [run_code (fn := Try.f33) rfl rfl, qi_parts]
  obtain ⟨ts, et, t0, t1, tl⟩ : ∃ ts : List AVal, ([x, y] ++ List.replicate (Try.f33.ntmps - [x, y].length) .undef) = ts ∧ ts[0]? = some x ∧ ts[1]? = some y ∧ ts.length = 26 := ⟨_, rfl, rfl, rfl, rfl⟩
  rw [et]
  have hres : ∀ ts st v, ts[4]? = some v → aresults E Try.f33 ts st = some v := by
    intro ts st v h
    unfold aresults
    simp only [Try.f33, aresults1, aresult, h]
  have hh : ∀ t, E.hint 33 t = false := fun _ => rfl
  obtain ⟨ts1, e1, h1⟩ : ∃ ts', aexec E 33 (run E (l.length + 1)) (drawB E 33) (l.length + 1) qiPre ts st = some (.normal, ts', st) ∧ QiI x y l.length 0 ts' := by
    simp only [qiPre, code, Try.f33, Option.getD_some, Code.fst, Code.snd, Code.inn, aexec, aops, aop, Region.wanted, ayielded, aexecOp, aeval, aput, aseq, ablock, ahint, absOf, flat, nilCheckA, ANext.ofP, evals, evalPs, evalO, aresults, aresults1, aresult, aend, List.getElem?_set, List.length_set, Option.map_some, Option.bind_some, if_true, if_false, ↓reduceIte, Nat.reduceLT, Nat.reduceEqDiff, reduceCtorEq, Bool.false_eq_true, false_and, and_false, and_true, true_and, Nat.reduceAdd, Nat.reduceLeDiff, callA, List.getElem?_toArray, List.getElem?_cons_succ, List.getElem?_cons_zero, sb1, sb2, sb3, sb4, hh, t0, t1, tl, ri_len hx, ri_len hy, b_neq, bne_self_eq_false]
    exact ⟨_, rfl, ⟨by simp only [List.getElem?_set, List.length_set, Nat.reduceLT, Nat.reduceEqDiff, ↓reduceIte, reduceCtorEq, *], by simp only [List.getElem?_set, List.length_set, Nat.reduceLT, Nat.reduceEqDiff, ↓reduceIte, reduceCtorEq, *], by simp only [List.getElem?_set, List.length_set, Nat.reduceLT, Nat.reduceEqDiff, ↓reduceIte, reduceCtorEq, *], by simp only [List.getElem?_set, List.length_set, Nat.reduceLT, Nat.reduceEqDiff, ↓reduceIte, reduceCtorEq, *]; rfl, by simp only [List.getElem?_set, List.length_set, Nat.reduceLT, Nat.reduceEqDiff, ↓reduceIte, reduceCtorEq, *]⟩⟩
  obtain ⟨e, ts2, st2, e2, rfl, rfl, al⟩ := aloop_rule (b := aexec E 33 (run E (l.length + 1)) (drawB E 33) (l.length + 1) qiBody)
    (I := fun k ts s => s = st ∧ ∃ i, k + i = l.length ∧ QiI x y l.length i ts)
    (Q := fun e ts' s => s = st ∧ e = .exit 0 ∧ ts'.length = 26)
    (step := by
      rintro k ts2 s ⟨hs, i, hi, hI⟩
      rw [hs]
      obtain ⟨ha, hb⟩ := qi_round (run E (l.length + 1)) (l.length + 1) hx hy hl hI
      by_cases he : i = l.length
      · obtain ⟨ts', e, al⟩ := ha he
        exact .inr ⟨_, ts', _, e, by simp, rfl, rfl, al⟩
      · obtain ⟨ts', e, h'⟩ := hb (by omega)
        exact .inl ⟨ts', _, e, k - 1, by omega, rfl, i + 1, by omega, h'⟩)
    (l.length + 1) l.length ts1 st ⟨rfl, 0, by omega, h1⟩ (by omega)
  obtain ⟨ts3, e3, a4⟩ : ∃ ts', aexec E 33 (run E (l.length + 1)) (drawB E 33) (l.length + 1) qiEnd ts2 st2 = some (.ret, ts', st2) ∧ ts'[4]? = some (.lit (.bool true)) := by
    simp only [qiEnd, code, Try.f33, Option.getD_some, Code.fst, Code.snd, Code.inn, aexec, aops, aop, Region.wanted, ayielded, aexecOp, aeval, aput, aseq, ablock, ahint, absOf, flat, nilCheckA, ANext.ofP, evals, evalPs, evalO, aresults, aresults1, aresult, aend, List.getElem?_set, List.length_set, Option.map_some, Option.bind_some, if_true, if_false, ↓reduceIte, Nat.reduceLT, Nat.reduceEqDiff, reduceCtorEq, Bool.false_eq_true, false_and, and_false, and_true, true_and, Nat.reduceAdd, Nat.reduceLeDiff, callA, List.getElem?_toArray, List.getElem?_cons_succ, List.getElem?_cons_zero, sb1, sb2, sb3, sb4, hh, al]
    exact ⟨_, rfl, by simp only [List.getElem?_set, List.length_set, Nat.reduceLT, Nat.reduceEqDiff, ↓reduceIte, reduceCtorEq, *]⟩
  simp only [e1, aseq, e2, ablock, if_true, e3, aend, hres _ _ _ a4, Option.map_some]

theorem cf33 (a : List AVal) (st : ASt) : callFuncA E.P 33 a st = some (.enter 33 a st) := rfl

/-- one more at the end of a copy -/
theorem row_more {st : ASt} {v : AVal} {l : List Int} {s : Option Nat} (h : IRow st v l s) (hl : l.length ≤ 100000) (x : Int) :
    ∃ v' st', appendA E.P false 59 59 v (.islice 1 [.lit (.int .i64 x)] .exact) st = some (v', st') ∧ RI st' v' (l ++ [x]) ∧ st.ctr ≤ st'.ctr ∧ ∀ k, k < st.ctr → s ≠ some k → st'.heap k = st.heap k := by
  have hx : srcA E.P 3 59 false 1 st (.islice 1 ([x].map intN) .exact) = some ([x].map intN) := src_islice intT (ints_ok [x])
  cases s with
  | none =>
    obtain ⟨rfl, rfl⟩ := h
    exact ⟨_, _, app_nil intT hx (by simp) (by simp), .inl ⟨_, rfl⟩, by simp [ASt.new], fun k hk _ => ASt.new_ne _ _ _ (by omega)⟩
  | some s =>
    obtain ⟨rfl, h2, cs, h3⟩ := h
    have hc := chunk_ints (l.map intN ++ cs) l.length 0 (by simp)
    rw [List.drop_zero, List.take_left' (by simp)] at hc
    have ha := app_slice (mt := false) intT (es := l.map intN) h3 (by rw [List.length_map]; exact hc) (ints_ok l) hx (by simp) (by simp; omega)
    rw [List.length_map] at ha
    refine ⟨_, _, ha, .inr (.inl ⟨some st.ctr, by simp, by simp [ASt.new, ASt.set], [], ?_⟩), by simp [ASt.new, ASt.set], fun k hk hne => ?_⟩
    · rw [← List.map_append, flatE_ints]; simp [ASt.new, ASt.set]
    · rw [ASt.new_ne _ _ _ (by simp [ASt.set]; omega), ASt.set_ne _ _ _ _ (fun e => hne (by rw [e]))]

theorem open_nonneg {l : List Nd} (hck : ck l 0 1 = (0, 0)) (hk : ∀ nd ∈ l, 0 ≤ nd.kd ∧ nd.kd ≤ 6) : ∀ i, i ≤ l.length → 0 ≤ openAt l i ∧ openAt l i ≤ 1 + 6 * (i : Int)
  | 0, _ => by simp [openAt]
  | i + 1, hi => by
    obtain ⟨h1, h2⟩ := open_nonneg hck hk i (by omega)
    have h0 := open_ne hck (show i < l.length by omega)
    rw [openAt, getD_nd (show i < l.length by omega)]
    have := hk _ (List.getElem_mem (show i < l.length by omega))
    omega
theorem open_last {l : List Nd} (hck : ck l 0 1 = (0, 0)) (hk : ∀ nd ∈ l, 0 ≤ nd.kd ∧ nd.kd ≤ 6) : openAt l l.length = 0 := by
  have h1 := (open_nonneg hck hk l.length (Nat.le_refl _)).1
  have h2 := open_end hck
  omega

end Go.Proofs.YtjpehemkgikkdaaV
