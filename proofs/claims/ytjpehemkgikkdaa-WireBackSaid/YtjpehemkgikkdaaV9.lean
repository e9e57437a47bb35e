/- Sum's contract. No condition. -/
import Derived.Test.YtjpehemkgikkdaaV8
namespace Go.Proofs.YtjpehemkgikkdaaV
open Go Go.RowKit Go.Proofs.YtjpehemkgikkdaaA
set_option linter.unusedVariables false
set_option linter.unusedSimpArgs false
set_option maxRecDepth 100000

/-- these bytes, in this state -/
def BS (st : ASt) (v : AVal) (l : List UInt8) : Prop := IsB v l ∨ ∃ s off cap cs, v = .slice s off l.length 1 cap ∧ s < st.ctr ∧ st.heap s = some (.cells cs) ∧ off + l.length ≤ cs.length ∧ (cs.drop off).take l.length = l.map byteA

theorem BS.gr {st st' : ASt} {v : AVal} {l : List UInt8} (h : BS st v l) (hg : Gr st st') : BS st' v l := by
  rcases h with h | ⟨s, off, cap, cs, e, h1, h2, h3, h4⟩
  · exact .inl h
  · exact .inr ⟨s, off, cap, cs, e, Nat.lt_of_lt_of_le h1 hg.1, by rw [hg.2 s h1]; exact h2, h3, h4⟩

theorem bs_len {st : ASt} {v : AVal} {l : List UInt8} (h : BS st v l) (mt : Bool) (ty : TypeId) (cs : Array Bool) (st2 : ASt) :
    builtinA E.P mt .len #[24] ty cs [v] st2 = some (.val (.lit (.int .i64 l.length)) st2) := by
  rcases h with h | ⟨s, off, cap, cs', rfl, h1, h2, h3, h4⟩
  · exact len_b h mt ty cs st2
  · rfl

theorem bs_idx {st : ASt} {v : AVal} {l : List UInt8} (h : BS st v l) {i : Nat} (hi : i < l.length) : ∃ p, indexA E.P 24 v (.lit (.int .i64 i)) = some p ∧ loadA E.P 5 st p = some (byteA l[i]) := by
  rcases h with h | ⟨s, off, cap, cs, rfl, h1, h2, h3, h4⟩
  · exact ⟨_, idx_b h hi, load_b _ _⟩
  · have e : indexA E.P 24 (.slice s off l.length 1 cap) (.lit (.int .i64 i)) = if 0 ≤ (i : Int) ∧ (i : Int) < (l.length : Nat) then some (.ptr s (off + (i : Int).toNat * 1)) else none := rfl
    refine ⟨_, by rw [e, if_pos ⟨by omega, by omega⟩], ?_⟩
    have e2 : loadA E.P 5 st (.ptr s (off + (i : Int).toNat * 1)) = (match st.heap s with
      | some (.cells cs) => cs[off + (i : Int).toNat * 1]?
      | _ => none) := rfl
    rw [e2, h2]
    simp only
    have := congrArg (fun q => q[i]?) h4
    simp only [List.getElem?_take, if_pos hi, List.getElem?_drop, List.getElem?_map, List.getElem?_eq_getElem hi, Option.map_some] at this
    simpa using this

def sumStep (c : Nat) (b : UInt8) : Nat := tabN ((c % 256) ^^^ b.toNat) ^^^ (c / 256)
def sumN (l : List UInt8) : Nat := 4294967295 ^^^ l.foldl sumStep 4294967295

theorem xor256 (c : Nat) (b : UInt8) : (c % 256) ^^^ b.toNat < 256 := Nat.xor_lt_two_pow (n := 8) (Nat.mod_lt _ (by decide)) (UInt8.toNat_lt b)
theorem sumStep_lt {c : Nat} (h : c < 2 ^ 32) (b : UInt8) : sumStep c b < 2 ^ 32 :=
  Nat.xor_lt_two_pow (crcIt_lt 8 _ (Nat.lt_trans (xor256 c b) (by decide))) (by omega)
theorem sumFold_lt : ∀ (l : List UInt8) (c : Nat), c < 2 ^ 32 → l.foldl sumStep c < 2 ^ 32
  | [], c, h => h
  | b :: l, c, h => sumFold_lt l _ (sumStep_lt h b)
theorem sumN_lt (l : List UInt8) : sumN l < 2 ^ 32 := Nat.xor_lt_two_pow (by decide) (sumFold_lt l _ (by decide))

theorem shr_8 (x : Nat) : (x : Int).fdiv (2 ^ min (8 : Int).toNat (IntKind.bits .u32)) = ((x / 256 : Nat) : Int) := by
  rw [Int.fdiv_eq_ediv_of_nonneg _ (by decide)]
  rfl

noncomputable def smBody : Code := (code Try.f21).snd.snd.fst.snd.inn
noncomputable def smPre : Code := .seq (.seq (code Try.f21).fst (code Try.f21).snd.fst) (code Try.f21).snd.snd.fst.fst
noncomputable def smEnd : Code := (code Try.f21).snd.snd.snd
theorem sm_eq : code Try.f21 = .seq (code Try.f21).fst (.seq (code Try.f21).snd.fst (.seq (.seq (code Try.f21).snd.snd.fst.fst (.block 0 (.loop smBody))) smEnd)) := rfl
theorem sm_parts (call : ACall) (dr : Array Oper → Bool) (n : Nat) (ts : List AVal) (st : ASt) : aexec E 21 call dr n (code Try.f21) ts st =
    aseq (aexec E 21 call dr n smPre ts st) fun ts st => aseq (ablock 0 (aloop (aexec E 21 call dr n smBody) n ts st)) (aexec E 21 call dr n smEnd) := by
  rw [sm_eq, smPre]
  simp only [aexec_seq, aexec_block, aexec_loop, aseq_assoc]

theorem load_tabn {st : ASt} {s i : Nat} (hs : st.heap s = some (.cells (tabC 256))) (hi : i < 256) : loadA E.P 38 st (.ptr s i) = some (.lit (.int .u32 (tabN i : Nat))) := by
  have : loadA E.P 38 st (.ptr s i) = (match st.heap s with
    | some (.cells cs) => cs[i]?
    | _ => none) := rfl
  rw [this, hs, tabC_all]
  simp [hi]

theorem cf43 (a : List AVal) (st : ASt) : callFuncA E.P 43 a st = some (.enter 43 a st) := rfl

theorem sm_pre (N n : Nat) (hN : 300 ≤ N) (dr : Array Oper → Bool) {x : AVal} {l : List UInt8} {st st' : ASt} {ts : List AVal} (hx : BS st x l) (h0 : ts[0]? = some x) (hl : ts.length = 26) (ht : RetN E 300 43 [] st (.agg (tabC 256)) st') :
    ∃ ts', aexec E 21 (run E N) dr n smPre ts st = some (.normal, ts', (st'.new (.cells (tabC 0))).set st'.ctr (some (.cells (tabC 256)))) ∧ ts'[3]? = some (.ptr st'.ctr 0) ∧ ts'[4]? = some (.lit (.int .u32 (4294967295 : Nat))) ∧ ts'[8]? = some x ∧ ts'[9]? = some (.lit (.int .i64 l.length)) ∧ ts'[10]? = some (.lit (.int .i64 (0 : Nat))) ∧ ts'.length = 26 := by
  have hh : ∀ t, E.hint 21 t = false := fun _ => rfl
  have hc := ht N hN
  have hst := store_tab (st := st'.new (.cells (tabC 0))) (s := st'.ctr) (i := 0) (j := 256) (by simp [ASt.new])
  simp only [smPre, code, Try.f21, Option.getD_some, Code.fst, Code.snd, Code.inn, aexec, aops, aop, Region.wanted, ayielded, aexecOp, aeval, aput, aseq, ablock, ahint, absOf, flat, nilCheckA, ANext.ofP, evals, evalPs, evalO, aresults, aresults1, aresult, aend, List.getElem?_set, List.length_set, Option.map_some, Option.bind_some, if_true, if_false, ↓reduceIte, Nat.reduceLT, Nat.reduceEqDiff, reduceCtorEq, Bool.false_eq_true, false_and, and_false, and_true, true_and, Nat.reduceAdd, Nat.reduceLeDiff, callA, List.getElem?_toArray, List.getElem?_cons_succ, List.getElem?_cons_zero, sb1, sb2, sb3, sb4, h0, hl, hh, tb_alloc, cf43, hc, hst, bs_len hx]
  exact ⟨_, rfl, by simp only [List.getElem?_set, List.length_set, Nat.reduceLT, Nat.reduceEqDiff, ↓reduceIte, reduceCtorEq, *], by simp only [List.getElem?_set, List.length_set, Nat.reduceLT, Nat.reduceEqDiff, ↓reduceIte, reduceCtorEq, *]; rfl, by simp only [List.getElem?_set, List.length_set, Nat.reduceLT, Nat.reduceEqDiff, ↓reduceIte, reduceCtorEq, *], by simp only [List.getElem?_set, List.length_set, Nat.reduceLT, Nat.reduceEqDiff, ↓reduceIte, reduceCtorEq, *], by simp only [List.getElem?_set, List.length_set, Nat.reduceLT, Nat.reduceEqDiff, ↓reduceIte, reduceCtorEq, *]; rfl, by simp only [List.getElem?_set, List.length_set, Nat.reduceLT, Nat.reduceEqDiff, ↓reduceIte, reduceCtorEq, *]⟩

theorem sm_body (call : ACall) (dr : Array Oper → Bool) (n : Nat) {x : AVal} {l : List UInt8} {st : ASt} {ts : List AVal} {s c i : Nat} (hx : BS st x l) (hs : st.heap s = some (.cells (tabC 256))) (hc : c < 2 ^ 32) (hlt : l.length ≤ 1000000)
    (h3 : ts[3]? = some (.ptr s 0)) (h4 : ts[4]? = some (.lit (.int .u32 c))) (h8 : ts[8]? = some x) (h9 : ts[9]? = some (.lit (.int .i64 l.length))) (h10 : ts[10]? = some (.lit (.int .i64 i))) (hl : ts.length = 26) :
    (i = l.length → ∃ ts', aexec E 21 call dr n smBody ts st = some (.exit 0, ts', st) ∧ ts'[4]? = some (.lit (.int .u32 c)) ∧ ts'.length = 26) ∧
    (∀ h : i < l.length, ∃ ts', aexec E 21 call dr n smBody ts st = some (.normal, ts', st) ∧ ts'[3]? = some (.ptr s 0) ∧ ts'[4]? = some (.lit (.int .u32 (sumStep c l[i] : Nat))) ∧ ts'[8]? = some x ∧ ts'[9]? = some (.lit (.int .i64 l.length)) ∧ ts'[10]? = some (.lit (.int .i64 (i + 1 : Nat))) ∧ ts'.length = 26) := by
  have hh : ∀ t, E.hint 21 t = false := fun _ => rfl
  refine ⟨fun hi => ?_, fun hi => ?_⟩
  · have hd : decide ((i : Int) < l.length) = false := by simp; omega
    simp only [smBody, code, Try.f21, Option.getD_some, Code.fst, Code.snd, Code.inn, aexec, aops, aop, Region.wanted, ayielded, aexecOp, aeval, aput, aseq, ablock, ahint, absOf, flat, nilCheckA, ANext.ofP, evals, evalPs, evalO, aresults, aresults1, aresult, aend, List.getElem?_set, List.length_set, Option.map_some, Option.bind_some, if_true, if_false, ↓reduceIte, Nat.reduceLT, Nat.reduceEqDiff, reduceCtorEq, Bool.false_eq_true, false_and, and_false, and_true, true_and, Nat.reduceAdd, Nat.reduceLeDiff, callA, List.getElem?_toArray, List.getElem?_cons_succ, List.getElem?_cons_zero, sb1, sb2, sb3, sb4, h3, h4, h8, h9, h10, hl, hh, b_lss, hd]
    exact ⟨_, rfl, by simp only [List.getElem?_set, List.length_set, Nat.reduceLT, Nat.reduceEqDiff, ↓reduceIte, reduceCtorEq, *], by simp only [List.getElem?_set, List.length_set, Nat.reduceLT, Nat.reduceEqDiff, ↓reduceIte, reduceCtorEq, *]⟩
  · have hd : decide ((i : Int) < l.length) = true := by simp; omega
    obtain ⟨p1, i1, i2⟩ := bs_idx hx hi
    unfold byteA at i2
    have hw : IntKind.i64.wrap ((i : Int) + 1) = ((i + 1 : Nat) : Int) := by
      simp [IntKind.wrap, IntKind.bits, IntKind.signed]; omega
    have hcv := c_int (mt := false) (st := st) (k := .u32) (n := (c : Int)) u38 u5
    rw [wrap_u8] at hcv
    have hx1 := xor_nat (k := .u8) rfl (a := c % 256) (b := l[i].toNat) (Nat.mod_lt _ (by decide)) (UInt8.toNat_lt _)
    have hx2 := xor_nat (k := .u32) rfl (a := tabN ((c % 256) ^^^ l[i].toNat)) (b := c / 256) (crcIt_lt 8 _ (Nat.lt_trans (xor256 c l[i]) (by decide))) (by simp only [IntKind.bits]; omega)
    have hix := idx_arr (s := s) (xor256 c l[i]) .u8
    have hld := load_tabn hs (xor256 c l[i])
    simp only [smBody, code, Try.f21, Option.getD_some, Code.fst, Code.snd, Code.inn, aexec, aops, aop, Region.wanted, ayielded, aexecOp, aeval, aput, aseq, ablock, ahint, absOf, flat, nilCheckA, ANext.ofP, evals, evalPs, evalO, aresults, aresults1, aresult, aend, List.getElem?_set, List.length_set, Option.map_some, Option.bind_some, if_true, if_false, ↓reduceIte, Nat.reduceLT, Nat.reduceEqDiff, reduceCtorEq, Bool.false_eq_true, false_and, and_false, and_true, true_and, Nat.reduceAdd, Nat.reduceLeDiff, callA, List.getElem?_toArray, List.getElem?_cons_succ, List.getElem?_cons_zero, sb1, sb2, sb3, sb4, h3, h4, h8, h9, h10, hl, hh, b_lss, hd, i1, i2, hcv, b_xor, hx1, hix, hld, b_shr _ _ _ _ _ _ _ _ (show (0 : Int) ≤ 8 by decide), shr_8, hx2, b_add, hw]
    exact ⟨_, rfl, by simp only [List.getElem?_set, List.length_set, Nat.reduceLT, Nat.reduceEqDiff, ↓reduceIte, reduceCtorEq, *], by simp only [List.getElem?_set, List.length_set, Nat.reduceLT, Nat.reduceEqDiff, ↓reduceIte, reduceCtorEq, *]; rfl, by simp only [List.getElem?_set, List.length_set, Nat.reduceLT, Nat.reduceEqDiff, ↓reduceIte, reduceCtorEq, *], by simp only [List.getElem?_set, List.length_set, Nat.reduceLT, Nat.reduceEqDiff, ↓reduceIte, reduceCtorEq, *], by simp only [List.getElem?_set, List.length_set, Nat.reduceLT, Nat.reduceEqDiff, ↓reduceIte, reduceCtorEq, *], by simp only [List.getElem?_set, List.length_set, Nat.reduceLT, Nat.reduceEqDiff, ↓reduceIte, reduceCtorEq, *]⟩

theorem sm_loop (call : ACall) (dr : Array Oper → Bool) (n : Nat) {x : AVal} {l : List UInt8} {st : ASt} {ts : List AVal} {s : Nat} (hx : BS st x l) (hs : st.heap s = some (.cells (tabC 256))) (hlt : l.length ≤ 1000000) (hn : l.length < n)
    (h3 : ts[3]? = some (.ptr s 0)) (h4 : ts[4]? = some (.lit (.int .u32 (4294967295 : Nat)))) (h8 : ts[8]? = some x) (h9 : ts[9]? = some (.lit (.int .i64 l.length))) (h10 : ts[10]? = some (.lit (.int .i64 (0 : Nat)))) (hl : ts.length = 26) :
    ∃ ts', aloop (aexec E 21 call dr n smBody) n ts st = some (.exit 0, ts', st) ∧ ts'[4]? = some (.lit (.int .u32 (l.foldl sumStep 4294967295 : Nat))) ∧ ts'.length = 26 := by
  obtain ⟨e, ts', st', h, rfl, rfl, hq⟩ := aloop_rule (b := aexec E 21 call dr n smBody)
    (I := fun k ts1 s' => s' = st ∧ ∃ i c, k + i = l.length ∧ c < 2 ^ 32 ∧ (l.drop i).foldl sumStep c = l.foldl sumStep 4294967295 ∧ ts1[3]? = some (.ptr s 0) ∧ ts1[4]? = some (.lit (.int .u32 (c : Nat))) ∧ ts1[8]? = some x ∧ ts1[9]? = some (.lit (.int .i64 l.length)) ∧ ts1[10]? = some (.lit (.int .i64 (i : Nat))) ∧ ts1.length = 26)
    (Q := fun e ts' s' => s' = st ∧ e = .exit 0 ∧ ts'[4]? = some (.lit (.int .u32 (l.foldl sumStep 4294967295 : Nat))) ∧ ts'.length = 26)
    (step := by
      rintro k ts1 s' ⟨hs', i, c, hi, hc, hf, a3, a4, a8, a9, a10, al⟩
      rw [hs']
      have hb := sm_body call dr n (st := st) hx hs hc hlt a3 a4 a8 a9 a10 al
      by_cases he : i = l.length
      · obtain ⟨ts', e, b4, bl⟩ := hb.1 he
        rw [List.drop_of_length_le (by omega)] at hf
        exact .inr ⟨_, ts', _, e, by simp, rfl, rfl, by rw [b4, ← hf]; rfl, bl⟩
      · have hlt2 : i < l.length := by omega
        obtain ⟨ts', e, b3, b4, b8, b9, b10, bl⟩ := hb.2 hlt2
        refine .inl ⟨ts', _, e, k - 1, by omega, rfl, i + 1, _, by omega, sumStep_lt hc l[i], ?_, b3, b4, b8, b9, b10, bl⟩
        rw [← hf, List.drop_eq_getElem_cons hlt2]
        rfl)
    n l.length ts st ⟨rfl, 0, 4294967295, by omega, by decide, rfl, h3, h4, h8, h9, h10, hl⟩ hn
  exact ⟨ts', h, hq⟩

theorem sm_end (call : ACall) (dr : Array Oper → Bool) (n : Nat) {st : ASt} {ts : List AVal} {c : Nat} (h4 : ts[4]? = some (.lit (.int .u32 c))) (hl : ts.length = 26) (hc : c < 2 ^ 32) :
    ∃ ts', aexec E 21 call dr n smEnd ts st = some (.ret, ts', st) ∧ ts'[2]? = some (.lit (.int .u32 (4294967295 ^^^ c : Nat))) := by
  have hh : ∀ t, E.hint 21 t = false := fun _ => rfl
  have hx := xor_nat (k := .u32) rfl (a := 4294967295) (b := c) (by decide) hc
  have hu : pureV E.P (Op.unary .xor (.int .u32 c)) = some (.lit (.int .u32 (IntKind.u32.wrap (BitVec.ofInt IntKind.u32.bits ((4294967295 : Nat) : Int) ^^^ BitVec.ofInt IntKind.u32.bits (c : Int)).toNat))) := rfl
  rw [hx] at hu
  simp only [smEnd, code, Try.f21, Option.getD_some, Code.fst, Code.snd, Code.inn, aexec, aops, aop, Region.wanted, ayielded, aexecOp, aeval, aput, aseq, ablock, ahint, absOf, flat, nilCheckA, ANext.ofP, evals, evalPs, evalO, aresults, aresults1, aresult, aend, List.getElem?_set, List.length_set, Option.map_some, Option.bind_some, if_true, if_false, ↓reduceIte, Nat.reduceLT, Nat.reduceEqDiff, reduceCtorEq, Bool.false_eq_true, false_and, and_false, and_true, true_and, Nat.reduceAdd, Nat.reduceLeDiff, callA, List.getElem?_toArray, List.getElem?_cons_succ, List.getElem?_cons_zero, sb1, sb2, sb3, sb4, h4, hl, hh, YtjpehemkgikkdaaA.valOf, hu]
  exact ⟨_, rfl, by simp only [List.getElem?_set, List.length_set, Nat.reduceLT, Nat.reduceEqDiff, ↓reduceIte, reduceCtorEq, *]⟩

theorem sum_run {x : AVal} {l : List UInt8} {st : ASt} (hx : BS st x l) (hlt : l.length ≤ 1000000) : ∃ st', RetN E (l.length + 302) 21 [x] st (.lit (.int .u32 (sumN l : Nat))) st' ∧ Gr st st' := by
  obtain ⟨st1, ht, hg⟩ := table_run st
  obtain ⟨ts1, e1, a3, a4, a8, a9, a10, al⟩ := sm_pre (l.length + 301) (l.length + 301) (by omega) (drawB E 21) (ts := [x] ++ List.replicate 25 .undef) hx rfl rfl ht
  have hg' : Gr st ((st1.new (.cells (tabC 0))).set st1.ctr (some (.cells (tabC 256)))) := by
    have := hg.1
    refine ⟨by simp only [ASt.set, ASt.new]; omega, fun j hj => ?_⟩
    rw [ASt.set_ne _ _ _ _ (by omega), ASt.new_ne _ _ _ (by omega), hg.2 j hj]
  have hh : ((st1.new (.cells (tabC 0))).set st1.ctr (some (.cells (tabC 256)))).heap st1.ctr = some (.cells (tabC 256)) := by simp [ASt.set]
  obtain ⟨ts2, e2, b4, bl⟩ := sm_loop (run E (l.length + 301)) (drawB E 21) (l.length + 301) (hx.gr hg') hh hlt (by omega) a3 a4 a8 a9 a10 al
  obtain ⟨ts3, e3, c2⟩ := sm_end (run E (l.length + 301)) (drawB E 21) (l.length + 301) (st := (st1.new (.cells (tabC 0))).set st1.ctr (some (.cells (tabC 256)))) b4 bl (sumFold_lt l _ (by decide))
  refine ⟨(st1.new (.cells (tabC 0))).set st1.ctr (some (.cells (tabC 256))), RetN.of (n := l.length + 301 + 1) ?_, hg'⟩
  · rw [run_code (fn := Try.f21) rfl rfl]
    have hts : ([x] ++ List.replicate (Try.f21.ntmps - [x].length) .undef) = ([x] ++ List.replicate 25 .undef : List AVal) := rfl
    rw [hts, sm_parts]
    simp only [e1, aseq, e2, ablock, if_true, e3, aend]
    unfold aresults
    simp only [Try.f21, aresults1, aresult, c2]
    rfl

end Go.Proofs.YtjpehemkgikkdaaV
