/- WireSums, walked in the second reading. No condition. -/
import Derived.Test.YtjpehemkgikkdaaS2
import Derived.Test.YtjpehemkgikkdaaVC
import Derived.Test.YtjpehemkgikkdaaO2
namespace Go.Proofs.YtjpehemkgikkdaaV
open Go Go.RowKit Go.Proofs.YtjpehemkgikkdaaA
set_option linter.unusedVariables false
set_option linter.unusedSimpArgs false
set_option maxRecDepth 100000

theorem cf22 (a : List AVal) (st : ASt) : callFuncA E.P 22 a st = some (.enter 22 a st) := rfl
theorem cf23 (a : List AVal) (st : ASt) : callFuncA E.P 23 a st = some (.enter 23 a st) := rfl
theorem u37 : E.P.underlying 37 = some (.int .u16) := rfl

theorem clone_run {c : Cap} {l : List UInt8} {st : ASt} (hne : l ≠ []) (hlen : l.length ≤ 1000000) :
    RetN E 1 23 [.islice 1 (l.map byteA) c] st (.slice st.ctr 0 l.length 1 none) (st.new (.cells (l.map byteA))) := by
  refine RetN.of (n := 0 + 1) ?_
  rw [run_code (fn := Try.f23) rfl rfl]
  have hh : ∀ t, E.hint 23 t = (t == 7) := fun t => by
    have : E.hint 23 t = ((23 == 15 && t == 11) || (23 == 18 && t == 8) || (23 == 23 && t == 7)) := rfl
    rw [this]; simp
  have hb5 : (5 == 7) = false := rfl
  have hb7 : (7 == 7) = true := rfl
  obtain ⟨ts, et, t0, tl⟩ : ∃ ts : List AVal, ([AVal.islice 1 (l.map byteA) c] ++ List.replicate (Try.f23.ntmps - [AVal.islice 1 (l.map byteA) c].length) .undef) = ts ∧ ts[0]? = some (.islice 1 (l.map byteA) c) ∧ ts.length = 8 := ⟨_, rfl, rfl, rfl⟩
  rw [et]
  have hb0 : buildSliceA E.P false 24 0 [] st = some (.islice 1 [] .exact, st) := rfl
  have hnil : ∀ (xo yo : Operand), binA E.P .eql 24 xo yo (.islice 1 (l.map byteA) c) (.lit (.slice none 0 0)) = some (.lit (.bool false)) := fun _ _ => rfl
  obtain ⟨v, st', e, _, _, hm⟩ := clone_b (src_b (.inl ⟨c, rfl⟩ : IsB (.islice 1 (l.map byteA) c) l) st) hlen
  obtain ⟨rfl, rfl⟩ := hm hne
  simp only [code, Try.f23, Option.getD_some, aexec, aops, aop, Region.wanted, ayielded, aexecOp, aeval, aput, aseq, ablock, ahint, absOf, flat, nilCheckA, ANext.ofP, evals, evalPs, evalO, aresults, aresults1, aresult, aend, List.getElem?_set, List.length_set, Option.map_some, Option.bind_some, if_true, if_false, ↓reduceIte, Nat.reduceLT, Nat.reduceEqDiff, reduceCtorEq, Bool.false_eq_true, false_and, and_false, and_true, true_and, Nat.reduceAdd, Nat.reduceLeDiff, callA, List.getElem?_toArray, List.getElem?_cons_succ, List.getElem?_cons_zero, sb1, sb2, sb3, sb4, t0, tl, hh, hb5, hb7, hnil, hb0, b_app, e]

noncomputable def suA : Code := .seq (code Try.f5).fst (.seq (code Try.f5).snd.fst (.seq (code Try.f5).snd.snd.fst (.seq (code Try.f5).snd.snd.snd.fst (code Try.f5).snd.snd.snd.snd.fst)))
noncomputable def suB : Code := (code Try.f5).snd.snd.snd.snd.snd

theorem su_parts (call : ACall) (dr : Array Oper → Bool) (n : Nat) (ts : List AVal) (st : ASt) : aexec E 5 call dr n (code Try.f5) ts st =
    aseq (aexec E 5 call dr n suA ts st) (aexec E 5 call dr n suB) := by
  have e : code Try.f5 = .seq (code Try.f5).fst (.seq (code Try.f5).snd.fst (.seq (code Try.f5).snd.snd.fst (.seq (code Try.f5).snd.snd.snd.fst (.seq (code Try.f5).snd.snd.snd.snd.fst suB)))) := rfl
  rw [e, suA]
  simp only [aexec_seq, aseq_assoc]

theorem su_A (N m d0 : Nat) (hN2 : 6000 ≤ N) (dr : Array Oper → Bool) {x : AVal} {l : List UInt8} {s0 : ASt} {ts : List AVal} {y : AVal} (hx : IsB x l) (hA : RetN E d0 15 [] st0 (.lit (.bool true)) s0) (hN : d0 ≤ N) (h0 : ts[0]? = some x) (h1 : ts[1]? = some y) (tl : ts.length = 43) :
    (500 < l.length ∨ l = [] → ∃ ts' st', aexec E 5 (run E N) dr m suA ts st0 = some (.ret, ts', st') ∧ ts'[4]? = some (.lit (.bool true))) ∧
    (l.length ≤ 500 → l ≠ [] → ∃ ts' st', aexec E 5 (run E N) dr m suA ts st0 = some (.normal, ts', st') ∧ ts'[0]? = some x ∧ ts'[1]? = some y ∧ ts'.length = 43) := by
  have hh : ∀ t, E.hint 5 t = false := fun _ => rfl
  have c0 := hA N hN
  have hnot : ∀ b, pureV E.P (Op.unary .not (.bool b)) = some (.lit (.bool (!b))) := fun _ => rfl
  by_cases hl : 500 < l.length
  · refine ⟨fun _ => ?_, fun h => by omega⟩
    have hd : decide (((l.length : Nat) : Int) > 500) = true := by rw [decide_eq_true_eq]; omega
    simp only [suA, code, Try.f5, Option.getD_some, Code.fst, Code.snd, Code.inn, aexec, aops, aop, Region.wanted, ayielded, aexecOp, aeval, aput, aseq, ablock, ahint, absOf, flat, nilCheckA, ANext.ofP, evals, evalPs, evalO, aresults, aresults1, aresult, aend, List.getElem?_set, List.length_set, Option.map_some, Option.bind_some, if_true, if_false, ↓reduceIte, Nat.reduceLT, Nat.reduceEqDiff, reduceCtorEq, Bool.false_eq_true, false_and, and_false, and_true, true_and, Nat.reduceAdd, Nat.reduceLeDiff, callA, List.getElem?_toArray, List.getElem?_cons_succ, List.getElem?_cons_zero, sb1, sb2, sb3, sb4, h0, h1, tl, hh, cf15, c0, YtjpehemkgikkdaaA.valOf, hnot, Bool.not_true, len_b hx, b_gtr, hd]
    exact ⟨_, _, rfl, by simp only [List.getElem?_set, List.length_set, Nat.reduceLT, Nat.reduceEqDiff, ↓reduceIte, reduceCtorEq, *]⟩
  · have hd : decide (((l.length : Nat) : Int) > 500) = false := by rw [decide_eq_false_iff_not]; omega
    obtain ⟨s1, n1, g1⟩ := sum_run (.inl hx : BS s0 x l) (by omega)
    have n2 := refsum_run (.inl hx : BS s1 x l) (by omega)
    have c1 := n1 N (by omega)
    have c2 := n2 N (by omega)
    by_cases he : l = []
    · refine ⟨fun _ => ?_, fun _ h => absurd he h⟩
      have hz : (((l.length : Nat) : Int) == 0) = true := by rw [he]; rfl
      simp only [suA, code, Try.f5, Option.getD_some, Code.fst, Code.snd, Code.inn, aexec, aops, aop, Region.wanted, ayielded, aexecOp, aeval, aput, aseq, ablock, ahint, absOf, flat, nilCheckA, ANext.ofP, evals, evalPs, evalO, aresults, aresults1, aresult, aend, List.getElem?_set, List.length_set, Option.map_some, Option.bind_some, if_true, if_false, ↓reduceIte, Nat.reduceLT, Nat.reduceEqDiff, reduceCtorEq, Bool.false_eq_true, false_and, and_false, and_true, true_and, Nat.reduceAdd, Nat.reduceLeDiff, callA, List.getElem?_toArray, List.getElem?_cons_succ, List.getElem?_cons_zero, sb1, sb2, sb3, sb4, h0, h1, tl, hh, cf15, c0, YtjpehemkgikkdaaA.valOf, hnot, Bool.not_true, len_b hx, b_gtr, hd, cf21, cf22, c1, c2, b_neq, bne_self_eq_false, b_eql, hz]
      exact ⟨_, _, rfl, by simp only [List.getElem?_set, List.length_set, Nat.reduceLT, Nat.reduceEqDiff, ↓reduceIte, reduceCtorEq, *]⟩
    · refine ⟨fun h => ?_, fun _ _ => ?_⟩
      · rcases h with h | h
        · omega
        · exact absurd h he
      have hz : (((l.length : Nat) : Int) == 0) = false := by
        rw [beq_eq_false_iff_ne]
        have := List.length_pos_iff.2 he
        omega
      simp only [suA, code, Try.f5, Option.getD_some, Code.fst, Code.snd, Code.inn, aexec, aops, aop, Region.wanted, ayielded, aexecOp, aeval, aput, aseq, ablock, ahint, absOf, flat, nilCheckA, ANext.ofP, evals, evalPs, evalO, aresults, aresults1, aresult, aend, List.getElem?_set, List.length_set, Option.map_some, Option.bind_some, if_true, if_false, ↓reduceIte, Nat.reduceLT, Nat.reduceEqDiff, reduceCtorEq, Bool.false_eq_true, false_and, and_false, and_true, true_and, Nat.reduceAdd, Nat.reduceLeDiff, callA, List.getElem?_toArray, List.getElem?_cons_succ, List.getElem?_cons_zero, sb1, sb2, sb3, sb4, h0, h1, tl, hh, cf15, c0, YtjpehemkgikkdaaA.valOf, hnot, Bool.not_true, len_b hx, b_gtr, hd, cf21, cf22, c1, c2, b_neq, bne_self_eq_false, b_eql, hz]
      exact ⟨_, _, rfl, by simp only [List.getElem?_set, List.length_set, Nat.reduceLT, Nat.reduceEqDiff, ↓reduceIte, reduceCtorEq, *], by simp only [List.getElem?_set, List.length_set, Nat.reduceLT, Nat.reduceEqDiff, ↓reduceIte, reduceCtorEq, *], by simp only [List.getElem?_set, List.length_set, Nat.reduceLT, Nat.reduceEqDiff, ↓reduceIte, reduceCtorEq, *]⟩

theorem su_B (N m : Nat) (hN2 : 6000 ≤ N) {l : List UInt8} {c : Cap} {at' : Nat} {ts : List AVal} {st : ASt} (hl : l.length ≤ 500) (hne : l ≠ []) (ha : at' < 65536) (h0 : ts[0]? = some (.islice 1 (l.map byteA) c)) (h1 : ts[1]? = some (.lit (.int .u16 at'))) (tl : ts.length = 43) :
    ∃ ts' st', aexec E 5 (run E N) (drawB E 5) m suB ts st = some (.ret, ts', st') ∧ ts'[4]? = some (.lit (.bool true)) := by
  have hh : ∀ t, E.hint 5 t = false := fun _ => rfl
  have hdr : drawB E 5 (suB.snd.snd.fst.ops) = true := by kernel_rfl
  simp only [suB, code, Try.f5, Option.getD_some, Code.fst, Code.snd, Code.inn, Code.ops] at hdr
  have hpos := List.length_pos_iff.2 hne
  have n1 := clone_run (c := c) (st := st) hne (by omega)
  have own : Own1 (st.new (.cells (l.map byteA))) st.ctr l := ⟨by simp [ASt.new], by simp [ASt.new]⟩
  obtain ⟨k, hk⟩ : ∃ k, at' % (8 * l.length) = k := ⟨_, rfl⟩
  have hklt : k < 8 * l.length := by rw [← hk]; exact Nat.mod_lt _ (by omega)
  have hk8 : k / 8 < l.length := by omega
  obtain ⟨i1, i2⟩ := own_idx own hk8
  have hp8 : 2 ^ (k % 8) < 256 := by
    calc 2 ^ (k % 8) ≤ 2 ^ 7 := Nat.pow_le_pow_right (by decide) (by omega)
      _ < 256 := by decide
  have hx8 : l[k / 8].toNat ^^^ 2 ^ (k % 8) < 256 := Nat.xor_lt_two_pow (n := 8) (UInt8.toNat_lt _) hp8
  have hst := own_store own hk8 hx8
  have own2 := oset_own own (l.set (k / 8) (UInt8.ofNat (l[k / 8].toNat ^^^ 2 ^ (k % 8))))
  have bs2 := own2.bs
  obtain ⟨s3, n3, g3⟩ := sum_run bs2 (by simp; omega)
  obtain ⟨s4, n4, g4⟩ := sum_run (.inl (.inl ⟨c, rfl⟩) : BS s3 (.islice 1 (l.map byteA) c) l) (by omega)
  rw [List.length_set] at n3
  have c1 := n1 N (by omega)
  have c3 := n3 N (by omega)
  have c4 := n4 N (by omega)
  have hcv := fun st => c_int (mt := false) (st := st) (k := .u16) (n := ((at' : Nat) : Int)) u37 u3
  have hw : IntKind.i64.wrap ((at' : Nat) : Int) = ((at' : Nat) : Int) := by
    simp [IntKind.wrap, IntKind.bits, IntKind.signed]; omega
  simp only [hw] at hcv
  have hlen2 : ∀ mt ty cs st', builtinA E.P mt .len #[24] ty cs [.slice st.ctr 0 l.length 1 none] st' = some (.val (.lit (.int .i64 l.length)) st') := fun mt ty cs st' => bs_len own.bs mt ty cs st'
  have q1 : IntKind.i64.wrap (8 * (l.length : Int)) = ((8 * l.length : Nat) : Int) := by
    simp [IntKind.wrap, IntKind.bits, IntKind.signed]; omega
  have hL0 : ((8 * l.length : Nat) : Int) ≠ 0 := by omega
  have q2 : ((at' : Nat) : Int).tmod ((8 * l.length : Nat) : Int) = ((k : Nat) : Int) := by
    rw [Int.tmod_eq_emod_of_nonneg (by omega), ← hk]; rfl
  have q3 : IntKind.i64.wrap ((k : Int).tdiv 8) = ((k / 8 : Nat) : Int) := by
    rw [Int.tdiv_eq_ediv_of_nonneg (by omega)]
    simp [IntKind.wrap, IntKind.bits, IntKind.signed]; omega
  have q4 : (k : Int).tmod 8 = ((k % 8 : Nat) : Int) := by rw [Int.tmod_eq_emod_of_nonneg (by omega)]; rfl
  have h80 : (0 : Int) ≤ ((k % 8 : Nat) : Int) := by omega
  have q5 : IntKind.u8.wrap (1 * 2 ^ min ((k % 8 : Nat) : Int).toNat IntKind.u8.bits) = ((2 ^ (k % 8) : Nat) : Int) := by
    rw [Int.toNat_natCast, show min (k % 8) IntKind.u8.bits = k % 8 by simp only [IntKind.bits]; omega, Int.one_mul]
    have : (2 : Int) ^ (k % 8) = ((2 ^ (k % 8) : Nat) : Int) := by simp
    rw [this]
    exact wrap_u rfl hp8
  have q6 := xor_nat (k := .u8) rfl (a := l[k / 8].toNat) (b := 2 ^ (k % 8)) (UInt8.toNat_lt _) hp8
  have hdiff : ((((sumN (l.set (k / 8) (UInt8.ofNat (l[k / 8].toNat ^^^ 2 ^ (k % 8)))) : Nat) : Int)) != ((sumN l : Nat) : Int)) = true := by
    have hb : UInt8.ofNat (l[k / 8].toNat ^^^ 2 ^ (k % 8)) ≠ l[k / 8] := by
      intro e
      have h3 := congrArg UInt8.toNat e
      rw [UInt8.toNat_ofNat_of_lt' hx8] at h3
      have h4 : l[k / 8].toNat ^^^ (l[k / 8].toNat ^^^ 2 ^ (k % 8)) = 2 ^ (k % 8) := by rw [← Nat.xor_assoc, Nat.xor_self, Nat.zero_xor]
      rw [h3, Nat.xor_self] at h4
      have := Nat.two_pow_pos (k % 8)
      omega
    have := sumN_turned hk8 hb
    rw [bne, beq_eq_false_iff_ne.2 (by omega)]; rfl
  simp only [suB, code, Try.f5, Option.getD_some, Code.fst, Code.snd, Code.inn, aexec, aops, aop, Region.wanted, ayielded, aexecOp, aeval, aput, aseq, ablock, ahint, absOf, flat, nilCheckA, ANext.ofP, evals, evalPs, evalO, aresults, aresults1, aresult, aend, List.getElem?_set, List.length_set, Option.map_some, Option.bind_some, if_true, if_false, ↓reduceIte, Nat.reduceLT, Nat.reduceEqDiff, reduceCtorEq, Bool.false_eq_true, false_and, and_false, and_true, true_and, Nat.reduceAdd, Nat.reduceLeDiff, callA, List.getElem?_toArray, List.getElem?_cons_succ, List.getElem?_cons_zero, sb1, sb2, sb3, sb4, h0, h1, tl, hh, hdr, cf21, cf23, c1, hcv, ANext.ofP, hlen2, b_mul, q1, b_rem _ _ _ _ _ _ _ hL0, q2, b_quo _ _ _ _ _ _ _ (show (8 : Int) ≠ 0 by decide), q3, i1, i2, b_rem _ _ _ _ _ _ _ (show (8 : Int) ≠ 0 by decide), q4,
    b_shl _ _ _ _ _ _ _ _ h80, q5, b_xor, q6, hst, c3, c4, b_neq, hdiff]
  exact ⟨_, _, rfl, by simp only [List.getElem?_set, List.length_set, Nat.reduceLT, Nat.reduceEqDiff, ↓reduceIte, reduceCtorEq, *]⟩

theorem datv_nat' {n : Nat} {t : TypeId} {k : IntKind} {v : AVal} (hu : E.P.underlying t = some (.int k)) (hr : rowB E.P t = false) (hk : k.signed = false) (h : DatV E.P n t v) : ∃ i : Nat, v = .lit (.int k i) ∧ i < 2 ^ k.bits := by
  obtain ⟨i, rfl, h1, h2⟩ := datv_int hu hr h
  have h0 : (0 : Int) ≤ i := by
    have : k.min = 0 := by unfold IntKind.min; rw [hk]; rfl
    omega
  refine ⟨i.toNat, by rw [Int.toNat_of_nonneg h0], ?_⟩
  have : k.max = 2 ^ k.bits - 1 := by unfold IntKind.max; rw [hk]; rfl
  rw [this] at h2
  have h3 : (i.toNat : Int) < 2 ^ k.bits := by rw [Int.toNat_of_nonneg h0]; omega
  exact_mod_cast h3

theorem sums_runs (b0 b1 : AVal) (d0 : DatV E.P 6 24 b0) (d1 : DatV E.P 6 37 b1) : ∃ n st', run E n 5 [b0, b1] st0 = some (.returned (.lit (.bool true)), st') := by
  obtain ⟨l, hx⟩ := datv_bytes d0
  obtain ⟨at', rfl, ha⟩ := datv_nat' u37 rfl rfl d1
  simp only [IntKind.bits] at ha
  obtain ⟨s0, d0, hA⟩ := awake
  have hN : d0 ≤ max d0 6000 := Nat.le_max_left _ _
  have hN2 : 6000 ≤ max d0 6000 := Nat.le_max_right _ _
  refine ⟨max d0 6000 + 1, ?_⟩
  generalize max d0 6000 = N at hN hN2
  obtain ⟨ts, et, t0, t1, tl⟩ : ∃ ts : List AVal, ([b0, .lit (.int .u16 at')] ++ List.replicate (Try.f5.ntmps - [b0, .lit (.int .u16 at')].length) .undef) = ts ∧ ts[0]? = some b0 ∧ ts[1]? = some (.lit (.int .u16 at')) ∧ ts.length = 43 := ⟨_, rfl, rfl, rfl, rfl⟩
  have hres : ∀ ts st v, ts[4]? = some v → aresults E Try.f5 ts st = some v := by
    intro ts st v h
    unfold aresults
    simp only [Try.f5, aresults1, aresult, h]
  rw [run_code (fn := Try.f5) rfl rfl, et, su_parts]
  have hA2 := su_A N N d0 hN2 (drawB E 5) hx hA hN t0 t1 tl
  by_cases hl : 500 < l.length ∨ l = []
  · obtain ⟨ts1, st1, e1, a4⟩ := hA2.1 hl
    exact ⟨st1, by simp only [e1, aseq, aend, hres _ _ _ a4, Option.map_some]⟩
  · have hl1 : l.length ≤ 500 := by omega
    have hl2 : l ≠ [] := fun e => hl (.inr e)
    obtain ⟨ts1, st1, e1, a0, a1, al⟩ := hA2.2 hl1 hl2
    rcases hx with ⟨c, rfl⟩ | ⟨a, _, e⟩
    · obtain ⟨ts2, st2, e2, b4⟩ := su_B N N hN2 hl1 hl2 (by omega) a0 a1 al (st := st1)
      exact ⟨st2, by simp only [e1, aseq, e2, aend, hres _ _ _ b4, Option.map_some]⟩
    · exact absurd e hl2

end Go.Proofs.YtjpehemkgikkdaaV
