/- The fixed fact of chapter 18, and CertLong, walked. No condition. -/
import Derived.Test.YtnndngoanknemaaC1
namespace Go.Proofs.YtnndngoanknemaaV
open Go Go.RowKit Go.Proofs.YtnndngoanknemaaA
set_option linter.unusedVariables false
set_option linter.unusedSimpArgs false
set_option maxRecDepth 100000

/-! ### bytes that may be cut -/
/-- these bytes; where they lie in a block that may be written, no less room than they need -/
def BN (st : ASt) (v : AVal) (l : List UInt8) : Prop := IsB v l ∨ ∃ s off cap cs, v = .slice s off l.length 1 cap ∧ (∀ c, cap = some c → l.length ≤ c) ∧ s < st.ctr ∧ st.heap s = some (.cells cs) ∧ off + l.length ≤ cs.length ∧ (cs.drop off).take l.length = l.map byteA
theorem BN.bs {st : ASt} {v : AVal} {l : List UInt8} (h : BN st v l) : BS st v l := by
  rcases h with h | ⟨s, off, cap, cs, e, _, h1, h2, h3, h4⟩
  · exact .inl h
  · exact .inr ⟨s, off, cap, cs, e, h1, h2, h3, h4⟩
theorem BN.gr {st st' : ASt} {v : AVal} {l : List UInt8} (h : BN st v l) (hg : Gr st st') : BN st' v l := by
  rcases h with h | ⟨s, off, cap, cs, e, h0, h1, h2, h3, h4⟩
  · exact .inl h
  · exact .inr ⟨s, off, cap, cs, e, h0, Nat.lt_of_lt_of_le h1 hg.1, by rw [hg.2 s h1]; exact h2, h3, h4⟩
theorem Own0.bn {base st : ASt} {v : AVal} {l : List UInt8} (h : Own0 base st v l) : BN st v l := by
  obtain ⟨s, e, _, h2, h3⟩ := h.v
  exact .inr ⟨s, 0, none, _, e, fun c e => (by cases e), h2, h3, by simp, by rw [List.drop_zero, List.take_of_length_le (by simp)]⟩

/-- a bound of a cut -/
def Bd (x : Option AVal) (n dflt : Nat) : Prop := (x = none ∧ n = dflt) ∨ x = some (.lit (.int .i64 (n : Int)))
theorem bd_at {x : Option AVal} {n dflt lim : Nat} (h : Bd x n dflt) (hl : n ≤ lim) (hd : x = none → dflt = n) : boundA x dflt lim = some n := by
  rcases h with ⟨rfl, rfl⟩ | rfl
  · rfl
  · have : boundA (some (.lit (.int .i64 (n : Int)))) dflt lim = if 0 ≤ (n : Int) ∧ (n : Int) ≤ (lim : Int) then some (n : Int).toNat else none := rfl
    rw [this, if_pos ⟨by omega, by omega⟩, Int.toNat_natCast]
theorem bds_at {xlo xhi : Option AVal} {lo hi len lim : Nat} (h1 : Bd xlo lo 0) (h2 : Bd xhi hi len) (hl : lo ≤ hi) (hh : hi ≤ lim) : boundsA len lim xlo xhi none = some (lo, hi, none) := by
  have e1 := bd_at (lim := lim) h2 hh (fun e => by rcases h2 with ⟨_, h⟩ | h; exact h.symm; rw [h] at e; cases e)
  have e2 := bd_at (lim := hi) h1 hl (fun e => by rcases h1 with ⟨_, h⟩ | h; exact h.symm; rw [h] at e; cases e)
  unfold boundsA
  simp only [e1, e2]

theorem bn_cut {st : ASt} {v : AVal} {l : List UInt8} (h : BN st v l) {xlo xhi : Option AVal} {lo hi : Nat} (h1 : Bd xlo lo 0) (h2 : Bd xhi hi l.length) (hl : lo ≤ hi) (hh : hi ≤ l.length) :
    ∃ v', sliceU E.P 28 v xlo xhi none = some v' ∧ BN st v' ((l.drop lo).take (hi - lo)) := by
  have hlen : ((l.drop lo).take (hi - lo)).length = hi - lo := by rw [List.length_take, List.length_drop]; omega
  rcases h with (⟨c, rfl⟩ | ⟨a, rfl, rfl⟩) | ⟨s, off, cap, cs, rfl, h0, hs, hc, h3, h4⟩
  · have e : sliceU E.P 28 (.islice 1 (l.map byteA) c) xlo xhi none = (match boundsA (l.map byteA).length (l.map byteA).length xlo xhi none with
        | some (l', h, m) => some (.islice 1 (((l.map byteA).drop l').take (h - l')) (cutCap (l.map byteA).length h l' c m))
        | none => none) := rfl
    rw [e, List.length_map, bds_at h1 h2 hl hh]
    exact ⟨_, rfl, .inl (.inl ⟨_, by rw [List.map_take, List.map_drop]⟩)⟩
  · simp only [List.length_nil, Nat.le_zero] at hh
    subst hh
    have : lo = 0 := by omega
    subst this
    refine ⟨.lit (.slice a 0 0), ?_, .inl (.inr ⟨a, rfl, by simp⟩)⟩
    rcases h1 with ⟨rfl, _⟩ | rfl <;> rcases h2 with ⟨rfl, _⟩ | rfl <;> rfl
  · have e : ∀ cap : Option Nat, sliceU E.P 28 (.slice s off l.length 1 cap) xlo xhi none = (match boundsA l.length (cap.getD l.length) xlo xhi none with
        | some (l', h, m) => match m, cap with
          | some m, _ => some (.slice s (if m = l' then off else off + l' * 1) (h - l') 1 (some (m - l')))
          | none, some c => some (.slice s (if c = l' then off else off + l' * 1) (h - l') 1 (some (c - l')))
          | none, none => if l' < l.length then some (.slice s (off + l' * 1) (h - l') 1 none) else some (.islice 1 [] .unk)
        | none => none) := fun _ => rfl
    have hcut : ((cs.drop (off + lo)).take (hi - lo)) = ((l.drop lo).take (hi - lo)).map byteA := by
      rw [List.map_take, List.map_drop, ← h4, List.drop_take, List.take_take, List.drop_drop, Nat.min_eq_left (by omega)]
    cases cap with
    | none =>
      rw [e, Option.getD_none, bds_at h1 h2 hl hh]
      by_cases hlt : lo < l.length
      · refine ⟨.slice s (off + lo) (hi - lo) 1 none, by simp [hlt], .inr ⟨s, off + lo, none, cs, by rw [hlen], fun c e => (by cases e), hs, hc, by rw [hlen]; omega, by rw [hlen]; exact hcut⟩⟩
      · have hz : hi - lo = 0 := by omega
        refine ⟨.islice 1 [] .unk, by simp [hlt], .inl (.inl ⟨.unk, by rw [hz]; simp⟩)⟩
    | some c =>
      have hle := h0 c rfl
      rw [e, Option.getD_some, bds_at h1 h2 hl (Nat.le_trans hh hle)]
      by_cases hce : c = lo
      · have hz : hi - lo = 0 := by omega
        refine ⟨.slice s off (hi - lo) 1 (some (c - lo)), by simp [hce], .inr ⟨s, off, some (c - lo), cs, by rw [hlen], fun c' e => by cases e; rw [hlen]; omega, hs, hc, by rw [hlen]; omega, by rw [hlen, hz]; simp⟩⟩
      · refine ⟨.slice s (off + lo) (hi - lo) 1 (some (c - lo)), by simp [hce], .inr ⟨s, off + lo, some (c - lo), cs, by rw [hlen], fun c' e => by cases e; rw [hlen]; omega, hs, hc, by rw [hlen]; omega, by rw [hlen]; exact hcut⟩⟩

/-! ### a plan that may be -/
theorem ck_nodes : ∀ (l : List Nd) (i : Nat) (left : Int), ck l i left = (0, 0) → ∀ n ∈ l, ∃ j, ¬ badN n j
  | [], i, left, h, n, hn => by simp at hn
  | a :: l, i, left, h, n, hn => by
    rw [ck] at h
    split at h
    · cases h
    · split at h
      · cases h
      · rename_i hb
        rcases List.mem_cons.1 hn with rfl | hm
        · exact ⟨i, hb⟩
        · exact ck_nodes l (i + 1) _ h n hm
/-- a node whose numbers are small -/
def NdS (n : Nd) : Prop := (0 ≤ n.th ∧ n.th < 6) ∧ n.sl ≤ 63 ∧ n.so ≤ 63 ∧ 0 ≤ n.kd ∧ n.kd ≤ 6
theorem NdS.ok {n : Nd} (h : NdS n) : NdOk n := by
  obtain ⟨⟨h1, h2⟩, h3, h4, h5, h6⟩ := h
  exact ⟨⟨h1, by omega⟩, by omega, by omega, h5, by omega⟩
theorem IsTree.small {l : List Nd} (h : IsTree l) : ∀ n ∈ l, NdS n := fun n hn => by
  obtain ⟨j, hb⟩ := ck_nodes l 0 1 h.ok n hn
  unfold badN at hb
  unfold NdS
  omega
theorem IsTree.good {l : List Nd} (h : IsTree l) : ∀ n ∈ l, NdOk n := fun n hn => (h.small n hn).ok

theorem enc_small {x : Nat} (h : x < 128) : enc x = [UInt8.ofNat x] := by
  unfold enc
  rw [encF, if_pos h]
theorem ndB_small {n : Nd} (h : NdS n) : (ndB n).length = 4 := by
  obtain ⟨⟨h1, h2⟩, h3, h4, h5, h6⟩ := h
  unfold ndB
  rw [enc_small (by omega), enc_small (by omega), enc_small (by omega), enc_small (by omega)]
  rfl
theorem ndsB_small : ∀ l : List Nd, (∀ n ∈ l, NdS n) → (l.flatMap ndB).length = 4 * l.length
  | [], _ => by simp
  | n :: l, h => by
    have h1 := ndB_small (h n (by simp))
    have h2 := ndsB_small l (fun m hm => h m (by simp [hm]))
    rw [List.flatMap_cons, List.length_append, List.length_cons]; omega

/-! ### the fixed fact -/
theorem cf12' (a : List AVal) (st : ASt) : callFuncA E.P 12 a st = some (.enter 12 a st) := rfl
theorem cf9' (a : List AVal) (st : ASt) : callFuncA E.P 9 a st = some (.enter 9 a st) := rfl
theorem cf01' (a : List AVal) (st : ASt) : callFuncA E.P 23 a st = some (.enter 23 a st) := rfl

theorem awake18 (st : ASt) : ∃ st', RetN E 60000 9 [] st (.lit (.bool true)) st' := by
  obtain ⟨v1, s1, n1, o1⟩ := enc_run (sum := 0) (v := .lit (.slice none 0 0)) (l := []) (st := st) (.inr (.inl ⟨none, rfl, rfl⟩)) (fun n hn => by simp at hn) (by simp) (by decide)
  have hlen : (certB 0 []).length = 10 := by decide +kernel
  obtain ⟨v2, e2, b2⟩ := bn_cut o1.bn (xlo := none) (xhi := some (.lit (.int .i64 ((6 : Nat) : Int)))) (lo := 0) (hi := 6) (.inl ⟨rfl, rfl⟩) (.inr rfl) (by omega) (by omega)
  have b3 : IsB (.islice 1 [.lit (.int .u8 66), .lit (.int .u8 82), .lit (.int .u8 68), .lit (.int .u8 49), .lit (.int .u8 0), .lit (.int .u8 0)] .exact) [66, 82, 68, 49, 0, 0] := .inl ⟨_, rfl⟩
  have n3 := eq_run s1 b2.bs (.inl b3) (by rw [List.length_take]; omega)
  have he : (((certB 0 []).drop 0).take (6 - 0) == [66, 82, 68, 49, 0, 0]) = true := by decide +kernel
  rw [he] at n3
  have hl6 : (((certB 0 []).drop 0).take (6 - 0)).length ≤ 6 := by rw [List.length_take]; omega
  obtain ⟨s4, n4, _⟩ := awake17 s1
  obtain ⟨s5, n5⟩ := awake_run s4
  refine ⟨s5, RetN.of (n := 59999 + 1) ?_⟩
  obtain ⟨N, hN⟩ : ∃ N, N = 59999 := ⟨_, rfl⟩
  rw [← hN]
  have c1 := n1 N (by omega)
  have c3 := n3 N (by omega)
  have c4 := n4 N (by omega)
  have c5 := n5 N (by omega)
  obtain ⟨ts, et, hl⟩ : ∃ ts : List AVal, (([] : List AVal) ++ List.replicate (Try.f9.ntmps - ([] : List AVal).length) .undef) = ts ∧ ts.length = 18 := ⟨_, rfl, rfl⟩
  rw [run_code (fn := Try.f9) rfl rfl, et]
  have hh : ∀ t, E.hint 9 t = false := fun _ => rfl
  have hb6 : ∀ st, buildSliceA E.P false 28 6 [(0, .lit (.int .u8 66)), (1, .lit (.int .u8 82)), (2, .lit (.int .u8 68)), (3, .lit (.int .u8 49)), (4, .lit (.int .u8 0)), (5, .lit (.int .u8 0))] st = some (.islice 1 [.lit (.int .u8 66), .lit (.int .u8 82), .lit (.int .u8 68), .lit (.int .u8 49), .lit (.int .u8 0), .lit (.int .u8 0)] .exact, st) := fun _ => rfl
  have L := fun mt ty cs st2 => bs_len o1.bs mt ty cs st2
  rw [hlen] at L
  have e0 : ((0 : Nat) : Int) = 0 := rfl
  have z10 : (((10 : Nat) : Int) == 10) = true := rfl
  have e6 : sliceU E.P 28 v1 none (some (.lit (.int .i64 6))) none = some v2 := e2
  rw [e0] at c1
  simp only [AVal.undef, sbn, sbn', code, Try.f9, Option.getD_some, Code.fst, Code.snd, Code.inn, aexec, aops, aop, Region.wanted, ayielded, aexecOp, aeval, aput, aseq, ablock, ahint, absOf, flat, nilCheckA, ANext.ofP, evals, evalPs, evalO, aresults, aresults1, aresult, aend, List.getElem?_set, List.length_set, Option.map_some, Option.bind_some, if_true, if_false, ↓reduceIte, Nat.reduceLT, Nat.reduceEqDiff, reduceCtorEq, Bool.false_eq_true, false_and, and_false, and_true, true_and, Nat.reduceAdd, Nat.reduceLeDiff, callA, List.getElem?_toArray, List.getElem?_cons_succ, List.getElem?_cons_zero, sb1, sb2, sb3, sb4, sliceU_i, sliceU_s, sliceU_p, sliceU_l, evalV, hl, hh, cf12', c1, YtnndngoanknemaaA.valOf, L, b_eql, z10, e6, hb6, cf17, c3, cf24, c4, cf01', c5]

/-! ### CertLong -/
theorem cf13' (a : List AVal) (st : ASt) : callFuncA E.P 13 a st = some (.enter 13 a st) := rfl

theorem certB_len_tree {l : List Nd} (h : IsTree l) (sum : Nat) : (certB sum l).length = 4 + (enc sum ++ enc l.length).length + 4 * l.length + 4 := by
  have := ndsB_small l h.small
  simp only [certB, bodyB, markB, le4_len, List.length_append, List.length_cons, List.length_nil] at *
  omega

theorem long_runs (b0 b1 : AVal) (d0 : DatV E.P 6 22 b0) (d1 : DatV E.P 6 23 b1) : ∃ n st', run E n 3 [b0, b1] st0 = some (.returned (.lit (.bool true)), st') := by
  obtain ⟨sum, rfl, hs⟩ := datv_natN u38 rfl rfl d0
  obtain ⟨ns, hv⟩ := datv_ns d1
  simp only [IntKind.bits] at hs
  refine ⟨70000 + 1, ?_⟩
  obtain ⟨N, hN⟩ : ∃ N, N = 70000 := ⟨_, rfl⟩
  rw [← hN]
  obtain ⟨ts, et, t0, t1, tl⟩ : ∃ ts : List AVal, ([AVal.lit (.int .u32 sum), b1] ++ List.replicate (Try.f3.ntmps - [AVal.lit (.int .u32 sum), b1].length) .undef) = ts ∧ ts[0]? = some (.lit (.int .u32 sum)) ∧ ts[1]? = some b1 ∧ ts.length = 34 := ⟨_, rfl, rfl, rfl, rfl⟩
  have hres : ∀ ts st v, ts[4]? = some v → aresults E Try.f3 ts st = some v := by
    intro ts st v h
    unfold aresults
    simp only [Try.f3, aresults1, aresult, h]
  rw [run_code (fn := Try.f3) rfl rfl, et]
  obtain ⟨s0, n0⟩ := awake18 st0
  have c0 := n0 N (by omega)
  have hnot : ∀ b, pureV E.P (Op.unary .not (.bool b)) = some (.lit (.bool (!b))) := fun _ => rfl
  have hh : ∀ t, E.hint 3 t = false := fun _ => rfl
  by_cases hl : 100 < ns.length
  · have hd : decide (((ns.length : Nat) : Int) > 100) = true := by rw [decide_eq_true_eq]; omega
    simp only [code, Try.f3, Option.getD_some, Code.fst, Code.snd, Code.inn, aexec, aops, aop, Region.wanted, ayielded, aexecOp, aeval, aput, aseq, ablock, ahint, absOf, flat, nilCheckA, ANext.ofP, evals, evalPs, evalO, aresults, aresults1, aresult, aend, List.getElem?_set, List.length_set, Option.map_some, Option.bind_some, if_true, if_false, ↓reduceIte, Nat.reduceLT, Nat.reduceEqDiff, reduceCtorEq, Bool.false_eq_true, false_and, and_false, and_true, true_and, Nat.reduceAdd, Nat.reduceLeDiff, callA, List.getElem?_toArray, List.getElem?_cons_succ, List.getElem?_cons_zero, sb1, sb2, sb3, sb4, sliceU_i, sliceU_s, sliceU_p, sliceU_l, evalV, t0, t1, tl, hh, cf9', c0, YtnndngoanknemaaA.valOf, hnot, Bool.not_true, len_ns hv, b_gtr, hd]
    exact ⟨_, rfl⟩
  · have hd : decide (((ns.length : Nat) : Int) > 100) = false := by rw [decide_eq_false_iff_not]; omega
    obtain ⟨pv, s1, l, n1, ho, hT, _⟩ := tree_run hv s0
    have hps := ho.ps
    have hTl := hT.len
    obtain ⟨stA, ea, e0⟩ : ∃ stA, allocA E.P 30 s1 = some (.ptr s1.ctr 0, stA) ∧ EnS s1 stA s1.ctr [] none := ⟨_, alloc_w s1, wat_init s1, Gr.new _ _, Nat.le_refl _, fun j e => by cases e⟩
    obtain ⟨st2, k2, n2, w2⟩ := num_run (x := sum) e0.w (by omega) (by decide)
    have e2 := e0.put w2
    have hle := enc_len sum
    obtain ⟨st3, k3, n3, w3⟩ := num_run (x := l.length) e2.w (by omega) (by simp; omega)
    have e3 := e2.put w3
    obtain ⟨v4, s4, n4, o4⟩ := enc_run (sum := sum) (hps.gr e3.gr) hT.good (by omega) (by omega)
    have hle2 := enc_len l.length
    obtain ⟨v5, s5, n5, b5, _⟩ := bytes_mut (e3.more o4.gr).w (by simp; omega)
    have c1 := n1 N (by omega)
    have c2 := n2 N (by omega)
    have c3 := n3 N (by omega)
    have c4 := n4 N (by omega)
    have c5 := n5 N (by omega)
    have cv1 := fun mt st => cv_u32 mt st (x := sum) (by omega)
    have cv2 := fun mt st => cv_iu mt st (x := ((l.length : Nat) : Int)) (by omega) (by omega)
    rw [Int.toNat_natCast] at cv2
    have L4 := fun mt ty cs st2 => bs_len o4.bs mt ty cs st2
    have L5 := fun mt ty cs st2 => bs_len b5 mt ty cs st2
    rw [certB_len_tree hT] at L4
    rw [List.nil_append] at L5
    generalize hK : (enc sum ++ enc l.length).length = K at *
    have hK2 : K ≤ 20 := by rw [← hK, List.length_append]; omega
    have w : ∀ z : Int, 0 ≤ z → z ≤ 100000 → IntKind.i64.wrap z = z := fun z h1 h2 => by
      simp [IntKind.wrap, IntKind.bits, IntKind.signed]; omega
    have q1 : IntKind.i64.wrap (4 + (K : Int)) = 4 + (K : Int) := w _ (by omega) (by omega)
    have q2 : IntKind.i64.wrap (4 * (l.length : Int)) = 4 * (l.length : Int) := w _ (by omega) (by omega)
    have q3 : IntKind.i64.wrap (4 + (K : Int) + 4 * (l.length : Int)) = 4 + (K : Int) + 4 * (l.length : Int) := w _ (by omega) (by omega)
    have q4 : IntKind.i64.wrap (4 + (K : Int) + 4 * (l.length : Int) + 4) = 4 + (K : Int) + 4 * (l.length : Int) + 4 := w _ (by omega) (by omega)
    have q5 : (((4 + K + 4 * l.length + 4 : Nat) : Int) == 4 + (K : Int) + 4 * (l.length : Int) + 4) = true := by
      rw [beq_iff_eq]; omega
    simp only [AVal.undef, sbn, sbn', code, Try.f3, Option.getD_some, Code.fst, Code.snd, Code.inn, aexec, aops, aop, Region.wanted, ayielded, aexecOp, aeval, aput, aseq, ablock, ahint, absOf, flat, nilCheckA, ANext.ofP, evals, evalPs, evalO, aresults, aresults1, aresult, aend, List.getElem?_set, List.length_set, Option.map_some, Option.bind_some, if_true, if_false, ↓reduceIte, Nat.reduceLT, Nat.reduceEqDiff, reduceCtorEq, Bool.false_eq_true, false_and, and_false, and_true, true_and, Nat.reduceAdd, Nat.reduceLeDiff, callA, List.getElem?_toArray, List.getElem?_cons_succ, List.getElem?_cons_zero, sb1, sb2, sb3, sb4, sliceU_i, sliceU_s, sliceU_p, sliceU_l, evalV, t0, t1, tl, hh, cf9', c0, YtnndngoanknemaaA.valOf, hnot, Bool.not_true, len_ns hv, b_gtr, hd, cf29, c1, ea, cv1, cf16, c2, ps_len hps, cv2, c3, cf12', c4, L4, cf13', c5, L5, b_add, b_mul, q1, q2, q3, q4, b_eql, q5]
    exact ⟨_, rfl⟩

end Go.Proofs.YtnndngoanknemaaV
