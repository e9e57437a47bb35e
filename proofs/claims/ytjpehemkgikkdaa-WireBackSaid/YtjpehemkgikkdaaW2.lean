/- WireLong, walked in the second reading. No condition. -/
import Derived.Test.YtjpehemkgikkdaaL1
import Derived.Test.YtjpehemkgikkdaaW1
namespace Go.Proofs.YtjpehemkgikkdaaV
open Go Go.RowKit Go.Proofs.YtjpehemkgikkdaaA
set_option linter.unusedVariables false
set_option linter.unusedSimpArgs false
set_option maxRecDepth 100000

theorem encF_bits : ∀ (m x : Nat), x < 128 ^ (m + 1) → ∃ (L : Nat) (b : UInt8) (r : List UInt8), encF m x = r ++ [b] ∧ r.length = L ∧ b < 128 ∧ ((L = 0 ∧ x < 128) ∨ (128 ^ L ≤ x ∧ x < 128 ^ (L + 1)))
  | 0, x, h => by
    simp only [Nat.zero_add, Nat.pow_one] at h
    refine ⟨0, UInt8.ofNat x, [], rfl, rfl, ?_, .inl ⟨rfl, h⟩⟩
    rw [UInt8.lt_iff_toNat_lt, UInt8.toNat_ofNat_of_lt' (by show x < 256; omega)]
    exact h
  | m + 1, x, h => by
    unfold encF
    by_cases h1 : x < 128
    · rw [if_pos h1]
      refine ⟨0, UInt8.ofNat x, [], rfl, rfl, ?_, .inl ⟨rfl, h1⟩⟩
      rw [UInt8.lt_iff_toNat_lt, UInt8.toNat_ofNat_of_lt' (by show x < 256; omega)]
      exact h1
    · rw [if_neg h1]
      have hx' : x / 128 < 128 ^ (m + 1) := by
        rw [Nat.div_lt_iff_lt_mul (by decide), ← Nat.pow_succ]; exact h
      obtain ⟨L, b, r, e, hl, hb, hc⟩ := encF_bits m (x / 128) hx'
      refine ⟨L + 1, b, UInt8.ofNat (x % 128 + 128) :: r, by rw [e]; rfl, by simp [hl], hb, .inr ?_⟩
      rcases hc with ⟨rfl, h2⟩ | ⟨h2, h3⟩
      · simp only [Nat.zero_add, Nat.pow_one]
        refine ⟨by omega, ?_⟩
        rw [Nat.div_lt_iff_lt_mul (by decide)] at h2
        have : 128 ^ (1 + 1) = 128 * 128 := rfl
        omega
      · rw [Nat.le_div_iff_mul_le (by decide), ← Nat.pow_succ] at h2
        rw [Nat.div_lt_iff_lt_mul (by decide), ← Nat.pow_succ] at h3
        exact ⟨h2, h3⟩

theorem long_plain {x m L : Nat} (hb : Bits x m) (hc : (L = 0 ∧ x < 128) ∨ (128 ^ L ≤ x ∧ x < 128 ^ (L + 1))) : L + 1 = max 1 ((m + 6) / 7) := by
  have p7 : ∀ n, (128 : Nat) ^ n = 2 ^ (7 * n) := fun n => by rw [Nat.pow_mul]
  rcases hc with ⟨rfl, h⟩ | ⟨h1, h2⟩
  · rcases hb with ⟨_, rfl⟩ | ⟨_, h3, h4⟩
    · rfl
    · have : m - 1 < 7 := (Nat.pow_lt_pow_iff_right (a := 2) (by decide)).1 (Nat.lt_of_le_of_lt h3 h)
      omega
  · rw [p7] at h1 h2
    rcases hb with ⟨rfl, _⟩ | ⟨h5, h3, h4⟩
    · have := Nat.pow_pos (n := 7 * L) (show 0 < 2 by decide); omega
    · have a1 : 7 * L < m := (Nat.pow_lt_pow_iff_right (a := 2) (by decide)).1 (Nat.lt_of_le_of_lt h1 h4)
      have a2 : m - 1 < 7 * (L + 1) := (Nat.pow_lt_pow_iff_right (a := 2) (by decide)).1 (Nat.lt_of_le_of_lt h3 h2)
      omega

theorem cf30 (a : List AVal) (st : ASt) : callFuncA E.P 30 a st = some (.enter 30 a st) := rfl

theorem long_run {s0 : ASt} (hA : AwakeIs s0) {a : Nat} (ha : a < 2 ^ 64) :
    ∃ n st', run E n 9 [.lit (.int .u64 a)] st0 = some (.returned (.lit (.bool true)), st') := by
  obtain ⟨d0, hA⟩ := hA
  obtain ⟨s1, k1, n1, w1⟩ := num_run (wat_init s0) ha (by simp)
  obtain ⟨v1, s2, n2, b1, g1⟩ := bytes_run w1.at' (by have := enc_len a; simp; omega)
  obtain ⟨m, n3, hbits, hm⟩ := len64_run ha s2
  obtain ⟨L, b, r, e, hL, hb, hc⟩ := encF_bits 9 a (lt_enc ha)
  have hmax := long_plain hbits hc
  change enc a = r ++ [b] at e
  rw [List.nil_append, e] at b1
  have hlen : (r ++ [b]).length = L + 1 := by simp [hL]
  have hL10 : L ≤ 10 := by have := enc_len a; rw [e] at this; simp at this; omega
  refine ⟨max d0 100 + 1, s2, ?_⟩
  have hN : d0 ≤ max d0 100 := Nat.le_max_left _ _
  have hN2 : 100 ≤ max d0 100 := Nat.le_max_right _ _
  generalize max d0 100 = N at hN hN2
  have c0 := hA N hN
  have c1 := n1 N (by omega)
  have c2 := n2 N (by omega)
  have c3 := n3 N (by omega)
  rw [run_code (fn := Try.f9) rfl rfl]
  have hh : ∀ t, E.hint 9 t = false := fun _ => rfl
  obtain ⟨ts, et, h0, hl⟩ : ∃ ts : List AVal, ([AVal.lit (.int .u64 a)] ++ List.replicate (Try.f9.ntmps - [AVal.lit (.int .u64 a)].length) .undef) = ts ∧ ts[0]? = some (.lit (.int .u64 a)) ∧ ts.length = 32 := ⟨_, rfl, rfl, rfl⟩
  rw [et]
  have hnot : ∀ b, pureV E.P (Op.unary .not (.bool b)) = some (.lit (.bool (!b))) := fun _ => rfl
  have q1 : IntKind.i64.wrap ((m : Int) + 6) = ((m + 6 : Nat) : Int) := by simp [IntKind.wrap, IntKind.bits, IntKind.signed]; omega
  have q2 : IntKind.i64.wrap (((m + 6 : Nat) : Int).tdiv 7) = (((m + 6) / 7 : Nat) : Int) := by
    have : ((m + 6 : Nat) : Int).tdiv 7 = (((m + 6) / 7 : Nat) : Int) := by
      rw [Int.tdiv_eq_ediv_of_nonneg (by omega)]; rfl
    rw [this]
    simp [IntKind.wrap, IntKind.bits, IntKind.signed]; omega
  have q3 : ∀ (mt : Bool) ty cs st, builtinA E.P mt .max #[3, 3] ty cs [.lit (.int .i64 1), .lit (.int .i64 (((m + 6) / 7 : Nat) : Int))] st = some (.val (.lit (.int .i64 ((L + 1 : Nat) : Int))) st) := by
    intro mt ty cs st
    have e3 : builtinA E.P mt .max #[3, 3] ty cs [.lit (.int .i64 1), .lit (.int .i64 (((m + 6) / 7 : Nat) : Int))] st = some (.val (.lit (.int .i64 (if (((m + 6) / 7 : Nat) : Int) > 1 then (((m + 6) / 7 : Nat) : Int) else 1))) st) := rfl
    rw [e3, hmax]
    congr 5
    split <;> omega
  have q4 : IntKind.i64.wrap (((L + 1 : Nat) : Int) - 1) = ((L : Nat) : Int) := by simp [IntKind.wrap, IntKind.bits, IntKind.signed]; omega
  have q5 := idx_b b1 (i := L) (by omega)
  have q6 : (r ++ [b])[L]'(by omega) = b := by simp [← hL]
  rw [q6] at q5
  unfold byteA at q5
  have q7 : decide (((b.toNat : Nat) : Int) < 128) = true := by
    rw [decide_eq_true_eq]; rw [UInt8.lt_iff_toNat_lt] at hb; exact_mod_cast hb
  have q8 : decide (((L + 1 : Nat) : Int) > 0) = true := by rw [decide_eq_true_eq]; omega
  simp only [code, Try.f9, Option.getD_some, Code.fst, Code.snd, Code.inn, aexec, aops, aop, Region.wanted, ayielded, aexecOp, aeval, aput, aseq, ablock, ahint, absOf, flat, nilCheckA, ANext.ofP, evals, evalPs, evalO, aresults, aresults1, aresult, aend, List.getElem?_set, List.length_set, Option.map_some, Option.bind_some, if_true, if_false, ↓reduceIte, Nat.reduceLT, Nat.reduceEqDiff, reduceCtorEq, Bool.false_eq_true, false_and, and_false, and_true, true_and, Nat.reduceAdd, Nat.reduceLeDiff, callA, List.getElem?_toArray, List.getElem?_cons_succ, List.getElem?_cons_zero, sb1, sb2, sb3, sb4, hh, cf15, cf16, cf18, cf30, h0, hl, c0, YtjpehemkgikkdaaA.valOf, hnot, Bool.not_true, alloc_w, c1, c2, c3, len_b b1, hlen, b_add, q1, b_quo _ _ _ _ _ _ _ (show (7 : Int) ≠ 0 by decide), q2, q3, b_eql, beq_self_eq_true, b_gtr, q8, b_sub, q4, q5, load_u8, b_lss, q7]

theorem long_calls {a : Nat} (ha : a < 2 ^ 64) (W : World) :
    Calls Try.prog 9 #[.int .u64 a] W (fun e w' => e = .returned (.bool true) ∧ Below W.heap.size W w') := by
  obtain ⟨s0, hA⟩ := awake
  obtain ⟨n, st', h⟩ := long_run hA ha
  refine law_of_run mixed (fun _ => rfl) h (W := W) ⟨rfl, fun j x u hj hu => ?_⟩
  match j with
  | 0 => cases hj; cases hu; exact Rep.lit rfl
  | j + 1 => simp at hj

end Go.Proofs.YtjpehemkgikkdaaV
