/- The table's contract, and Sum's. No condition. -/
import Derived.Test.YtjpehemkgikkdaaV7
namespace Go.Proofs.YtjpehemkgikkdaaV
open Go Go.RowKit Go.Proofs.YtjpehemkgikkdaaA
set_option linter.unusedVariables false
set_option linter.unusedSimpArgs false
set_option maxRecDepth 100000

theorem tb_outer (call : ACall) (dr : Array Oper → Bool) (n : Nat) (hn : 256 < n) {s0 s1 : Nat} {st : ASt} {ts : List AVal} (h0 : ts[0]? = some (.ptr s0 0)) (h1 : ts[1]? = some (.ptr s1 0)) (h4 : ts[4]? = some (.lit (.int .i64 (0 : Nat)))) (hl : ts.length = 25)
    (hs : st.heap s1 = some (.cells (tabC 0))) :
    ∃ ts' st', aloop (aexec E 43 call dr n tbOut) n ts st = some (.exit 0, ts', st') ∧ ts'[0]? = ts[0]? ∧ ts'[1]? = ts[1]? ∧ ts'.length = 25 ∧ st'.ctr = st.ctr ∧ st'.heap s1 = some (.cells (tabC 256)) ∧ ∀ j, j ≠ s1 → st'.heap j = st.heap j := by
  obtain ⟨e, ts', st', h, rfl, hq⟩ := aloop_rule (b := aexec E 43 call dr n tbOut)
    (I := fun k ts1 s => k ≤ 256 ∧ ts1[0]? = ts[0]? ∧ ts1[1]? = ts[1]? ∧ ts1[4]? = some (.lit (.int .i64 (256 - k : Nat))) ∧ ts1.length = 25 ∧ s.ctr = st.ctr ∧ s.heap s1 = some (.cells (tabC (256 - k))) ∧ ∀ j, j ≠ s1 → s.heap j = st.heap j)
    (Q := fun e ts' s => e = .exit 0 ∧ ts'[0]? = ts[0]? ∧ ts'[1]? = ts[1]? ∧ ts'.length = 25 ∧ s.ctr = st.ctr ∧ s.heap s1 = some (.cells (tabC 256)) ∧ ∀ j, j ≠ s1 → s.heap j = st.heap j)
    (step := by
      rintro k ts1 s ⟨hk, a0, a1, a4, al, hc, hh, hf⟩
      have hb := tb_out call dr n (by omega) (s0 := s0) (s1 := s1) (st := s) (by rw [a0, h0]) (by rw [a1, h1]) a4 al hh
      cases k with
      | zero =>
        obtain ⟨ts', e, b0, b1, bl⟩ := hb.1 rfl
        exact .inr ⟨_, ts', _, e, by simp, rfl, by rw [b0, a0], by rw [b1, a1], bl, hc, hh, hf⟩
      | succ k =>
        obtain ⟨ts', e, b0, b1, b4, bl⟩ := hb.2 (by omega)
        have e1 : 256 - (k + 1) + 1 = 256 - k := by omega
        rw [e1] at e b4
        exact .inl ⟨ts', _, e, k, by omega, by omega, by rw [b0, a0], by rw [b1, a1], b4, bl, hc, by simp [ASt.set], fun j hj => by rw [ASt.set_ne _ _ _ _ hj]; exact hf j hj⟩)
    n 256 ts st ⟨Nat.le_refl _, rfl, rfl, h4, hl, rfl, hs, fun _ _ => rfl⟩ hn
  exact ⟨ts', st', h, hq⟩

theorem tb_pre (call : ACall) (dr : Array Oper → Bool) (n : Nat) {st : ASt} {ts : List AVal} (hl : ts.length = 25) :
    ∃ ts', aexec E 43 call dr n tbPre ts st = some (.normal, ts', (st.new (.cells (tabC 0))).new (.cells (tabC 0))) ∧ ts'[0]? = some (.ptr st.ctr 0) ∧ ts'[1]? = some (.ptr (st.ctr + 1) 0) ∧ ts'[4]? = some (.lit (.int .i64 (0 : Nat))) ∧ ts'.length = 25 := by
  have hh : ∀ t, E.hint 43 t = false := fun _ => rfl
  simp only [tbPre, code, Try.f43, Option.getD_some, Code.fst, Code.snd, Code.inn, aexec, aops, aop, Region.wanted, ayielded, aexecOp, aeval, aput, aseq, ablock, ahint, absOf, flat, nilCheckA, ANext.ofP, evals, evalPs, evalO, aresults, aresults1, aresult, aend, List.getElem?_set, List.length_set, Option.map_some, Option.bind_some, if_true, if_false, ↓reduceIte, Nat.reduceLT, Nat.reduceEqDiff, reduceCtorEq, Bool.false_eq_true, false_and, and_false, and_true, true_and, Nat.reduceAdd, Nat.reduceLeDiff, callA, List.getElem?_toArray, List.getElem?_cons_succ, List.getElem?_cons_zero, sb1, sb2, sb3, sb4, hl, hh, tb_alloc]
  exact ⟨_, rfl, by simp only [List.getElem?_set, List.length_set, Nat.reduceLT, Nat.reduceEqDiff, ↓reduceIte, reduceCtorEq, *], by simp only [List.getElem?_set, List.length_set, Nat.reduceLT, Nat.reduceEqDiff, ↓reduceIte, reduceCtorEq, *]; rfl, by simp only [List.getElem?_set, List.length_set, Nat.reduceLT, Nat.reduceEqDiff, ↓reduceIte, reduceCtorEq, *]; rfl, by simp only [List.getElem?_set, List.length_set, Nat.reduceLT, Nat.reduceEqDiff, ↓reduceIte, reduceCtorEq, *]⟩

theorem load_tab {st : ASt} {s i : Nat} (hs : st.heap s = some (.cells (tabC i))) : loadA E.P 77 st (.ptr s 0) = some (.agg (tabC i)) := by
  have : loadA E.P 77 st (.ptr s 0) = (match st.heap s with
    | some (.cells cs) => if 0 + 256 ≤ cs.length then some (.agg ((cs.drop 0).take 256)) else none
    | _ => none) := rfl
  rw [this, hs]
  simp only
  rw [if_pos (by rw [tabC_len]; decide)]
  rw [List.drop_zero, List.take_of_length_le (by rw [tabC_len]; decide)]

theorem putL_all (l cs : List AVal) : ∀ off, off + l.length = cs.length → putL cs off l = cs.take off ++ l := by
  induction l generalizing cs with
  | nil => intro off h; simp at h; subst h; simp [putL]
  | cons v l ih =>
    intro off h
    simp only [List.length_cons] at h
    rw [putL, ih _ (off + 1) (by simp; omega)]
    rw [List.take_succ_eq_append_getElem (by simp; omega), List.take_set, List.set_eq_of_length_le (by simp; omega)]
    simp

theorem store_tab {st : ASt} {s i j : Nat} (hs : st.heap s = some (.cells (tabC i))) : storeA E.P 77 st (.ptr s 0) (.agg (tabC j)) = some (st.set s (some (.cells (tabC j)))) := by
  have : storeA E.P 77 st (.ptr s 0) (.agg (tabC j)) = (match st.heap s with
    | some (.cells cs) => if some 256 = some (tabC j).length ∧ 0 + (tabC j).length ≤ cs.length ∧ (tabC j).all AVal.isCell = true then some (st.set s (some (.cells (putL cs 0 (tabC j))))) else none
    | _ => none) := rfl
  rw [this, hs]
  simp only
  rw [if_pos ⟨by rw [tabC_len], by rw [tabC_len, tabC_len]; decide, by
    rw [List.all_eq_true]
    intro x hx
    obtain ⟨q, _, rfl⟩ := List.mem_map.1 hx
    rfl⟩]
  rw [putL_all _ _ 0 (by rw [tabC_len, tabC_len])]
  simp

theorem tb_end (call : ACall) (dr : Array Oper → Bool) (n : Nat) {s0 s1 : Nat} {st : ASt} {ts : List AVal} (h0 : ts[0]? = some (.ptr s0 0)) (h1 : ts[1]? = some (.ptr s1 0)) (hl : ts.length = 25) (hs : st.heap s1 = some (.cells (tabC 256))) (hs0 : st.heap s0 = some (.cells (tabC 0))) :
    ∃ ts', aexec E 43 call dr n tbEnd ts st = some (.ret, ts', st.set s0 (some (.cells (tabC 256)))) ∧ ts'[0]? = some (.ptr s0 0) := by
  have hh : ∀ t, E.hint 43 t = false := fun _ => rfl
  simp only [tbEnd, code, Try.f43, Option.getD_some, Code.fst, Code.snd, Code.inn, aexec, aops, aop, Region.wanted, ayielded, aexecOp, aeval, aput, aseq, ablock, ahint, absOf, flat, nilCheckA, ANext.ofP, evals, evalPs, evalO, aresults, aresults1, aresult, aend, List.getElem?_set, List.length_set, Option.map_some, Option.bind_some, if_true, if_false, ↓reduceIte, Nat.reduceLT, Nat.reduceEqDiff, reduceCtorEq, Bool.false_eq_true, false_and, and_false, and_true, true_and, Nat.reduceAdd, Nat.reduceLeDiff, callA, List.getElem?_toArray, List.getElem?_cons_succ, List.getElem?_cons_zero, sb1, sb2, sb3, sb4, h0, h1, hl, hh, load_tab hs, store_tab hs0]
  exact ⟨_, rfl, by simp only [List.getElem?_set, List.length_set, Nat.reduceLT, Nat.reduceEqDiff, ↓reduceIte, reduceCtorEq, *]⟩

theorem tb_eq : code Try.f43 = .seq (code Try.f43).fst (.seq (code Try.f43).snd.fst (.seq (.seq (code Try.f43).snd.snd.fst.fst (.block 0 (.loop tbOut))) tbEnd)) := rfl

theorem table_run (st : ASt) : ∃ st', RetN E 300 43 [] st (.agg (tabC 256)) st' ∧ Gr st st' := by
  obtain ⟨ts1, e1, a0, a1, a4, al⟩ := tb_pre (run E 299) (drawB E 43) 299 (st := st) (ts := [] ++ List.replicate 25 .undef) rfl
  obtain ⟨ts2, s2, e2, b0, b1, bl, hc, hs1, hf⟩ := tb_outer (run E 299) (drawB E 43) 299 (by decide) (st := (st.new (.cells (tabC 0))).new (.cells (tabC 0))) a0 a1 a4 al (by simp [ASt.new])
  have hs0 : s2.heap st.ctr = some (.cells (tabC 0)) := by
    rw [hf _ (by omega)]; simp [ASt.new]
  obtain ⟨ts3, e3, c0⟩ := tb_end (run E 299) (drawB E 43) 299 (st := s2) (by rw [b0, a0]) (by rw [b1, a1]) bl hs1 hs0
  refine ⟨_, RetN.of (n := 300) (st' := s2.set st.ctr (some (.cells (tabC 256)))) ?_, ?_, ?_⟩
  · rw [run_code (fn := Try.f43) rfl rfl]
    have hts : ([] ++ List.replicate (Try.f43.ntmps - ([] : List AVal).length) .undef) = ([] ++ List.replicate 25 .undef : List AVal) := rfl
    rw [hts]
    have hp : aexec E 43 (run E 299) (drawB E 43) 299 (code Try.f43) ([] ++ List.replicate 25 .undef) st = some (.ret, ts3, s2.set st.ctr (some (.cells (tabC 256)))) := by
      rw [tb_eq]
      have e1' := e1
      rw [tbPre] at e1'
      simp only [aexec_seq, aexec_block, aexec_loop, aseq_assoc] at e1' ⊢
      have : ∀ f, aseq (aexec E 43 (run E 299) (drawB E 43) 299 (code Try.f43).fst ([] ++ List.replicate 25 .undef) st) (fun ts st => aseq (aexec E 43 (run E 299) (drawB E 43) 299 (code Try.f43).snd.fst ts st) (fun ts st => aseq (aexec E 43 (run E 299) (drawB E 43) 299 (code Try.f43).snd.snd.fst.fst ts st) f)) =
          aseq (some (.normal, ts1, (st.new (.cells (tabC 0))).new (.cells (tabC 0)))) f := by
        intro f
        rw [← e1']
        simp only [aseq_assoc]
      rw [this]
      simp only [aseq, e2, ablock, if_true, e3]
    rw [hp]
    have hr : aresults E Try.f43 ts3 (s2.set st.ctr (some (.cells (tabC 256)))) = some (.agg (tabC 256)) := by
      have hl := load_tab (st := s2.set st.ctr (some (.cells (tabC 256)))) (s := st.ctr) (i := 256) (by simp [ASt.set])
      unfold aresults
      simp only [Try.f43, aresults1, aresult, c0, hl]
    simp only [aend, hr, Option.map_some]
  · simp only [ASt.set, hc]; simp [ASt.new]; omega
  · intro j hj
    rw [ASt.set_ne _ _ _ _ (by omega), hf j (by omega), ASt.new_ne _ _ _ (by simp [ASt.new]; omega), ASt.new_ne _ _ _ (by omega)]

end Go.Proofs.YtjpehemkgikkdaaV
