/- The plain law: the sum by a table is the sum bit by bit; with a byte turned it is another one. No condition. -/
import Derived.Test.YtnndngoanknemaaVB
namespace Go.Proofs.YtnndngoanknemaaV
open Go Go.RowKit Go.Proofs.YtnndngoanknemaaA
set_option linter.unusedVariables false
set_option linter.unusedSimpArgs false
set_option maxRecDepth 100000

theorem xor_two_mod (y z : Nat) : (y ^^^ 2 * z) % 2 = y % 2 := by
  have h := Nat.testBit_xor y (2 * z) 0
  simp only [Nat.testBit_zero] at h
  have e : decide (2 * z % 2 = 1) = false := by rw [decide_eq_false_iff_not]; omega
  rw [e, Bool.xor_false, decide_eq_decide] at h
  omega

theorem xor_two_div (y z : Nat) : (y ^^^ 2 * z) / 2 = y / 2 ^^^ z := by
  rw [Nat.xor_div_two]
  congr 1
  omega

theorem tb2 (x i : Nat) : (2 * x).testBit (i + 1) = x.testBit i := by rw [Nat.testBit_succ, Nat.mul_div_cancel_left _ (by decide)]

theorem xor_mod (a b : Nat) : (a ^^^ b) % 2 = if a % 2 = b % 2 then 0 else 1 := by
  have h := Nat.testBit_xor a b 0
  simp only [Nat.testBit_zero] at h
  have hp := Nat.mod_two_eq_zero_or_one a
  generalize a ^^^ b = X at h ⊢
  generalize a % 2 = p at h hp ⊢
  have ha : p = 0 ∨ p = 1 := hp
  rcases ha with rfl | rfl <;> rcases Nat.mod_two_eq_zero_or_one b with hb | hb <;> rw [hb] at h ⊢ <;> simp at h ⊢ <;> omega

theorem crcStep_xor (y z : Nat) : crcStep (y ^^^ 2 * z) = crcStep y ^^^ z := by
  unfold crcStep
  rw [Nat.and_one_is_mod, Nat.and_one_is_mod, xor_two_mod, xor_two_div]
  split
  · rw [Nat.xor_assoc, Nat.xor_comm z, ← Nat.xor_assoc]
  · rfl

theorem crcIt_step : ∀ (n c : Nat), crcIt n (crcStep c) = crcStep (crcIt n c)
  | 0, c => rfl
  | n + 1, c => by rw [crcIt, crcIt, crcIt_step n]

theorem crcIt_xor : ∀ (n y z : Nat), crcIt n (y ^^^ 2 ^ n * z) = crcIt n y ^^^ z
  | 0, y, z => by simp [crcIt]
  | n + 1, y, z => by
    rw [crcIt, Nat.pow_succ, Nat.mul_comm (2 ^ n) 2, Nat.mul_assoc, crcStep_xor, crcIt_xor n, crcIt]

theorem sumStep_it (c : Nat) (b : UInt8) : sumStep c b = crcIt 8 (c ^^^ b.toNat) := by
  unfold sumStep tabN
  rw [← crcIt_xor 8]
  congr 1
  have e : c = c % 256 ^^^ 2 ^ 8 * (c / 256) := by
    apply Nat.eq_of_testBit_eq
    intro i
    rw [Nat.testBit_xor, show (256 : Nat) = 2 ^ 8 by decide, Nat.testBit_mod_two_pow, Nat.testBit_two_pow_mul, Nat.testBit_div_two_pow]
    by_cases h : i < 8
    · simp [h, show ¬ 8 ≤ i by omega]
    · simp [h, show 8 ≤ i by omega]
  conv => rhs; rw [e]
  rw [Nat.xor_assoc, Nat.xor_assoc, Nat.xor_comm (2 ^ 8 * (c / 256))]

/-! ### one byte turned -/
theorem crcStep_inj {a b : Nat} (ha : a < 2 ^ 32) (hb : b < 2 ^ 32) (h : crcStep a = crcStep b) : a = b := by
  have key : ∀ x, x < 2 ^ 32 → (crcStep x).testBit 31 = decide (x % 2 = 1) := fun x hx => by
    have h0 : (x / 2).testBit 31 = false := Nat.testBit_lt_two_pow (by omega)
    unfold crcStep
    rw [Nat.and_one_is_mod]
    split
    · rename_i h1
      rw [Nat.testBit_xor, h0, h1]
      decide
    · rename_i h1
      rw [h0]
      simp [h1]
  have k1 := key a ha
  rw [h, key b hb, decide_eq_decide] at k1
  have hd : a / 2 = b / 2 := by
    unfold crcStep at h
    rw [Nat.and_one_is_mod, Nat.and_one_is_mod] at h
    by_cases h1 : a % 2 = 1
    · rw [if_pos h1, if_pos (k1.2 h1)] at h
      have := congrArg (· ^^^ 3988292384) h
      simpa [Nat.xor_assoc] using this
    · rw [if_neg h1, if_neg (fun e => h1 (k1.1 e))] at h
      exact h
  omega

theorem crcIt_inj : ∀ (n : Nat) {a b : Nat}, a < 2 ^ 32 → b < 2 ^ 32 → crcIt n a = crcIt n b → a = b
  | 0, a, b, _, _, h => h
  | n + 1, a, b, ha, hb, h => crcStep_inj ha hb (crcIt_inj n (crcStep_lt ha) (crcStep_lt hb) h)

theorem xor_u8_lt {c : Nat} (h : c < 2 ^ 32) (b : UInt8) : c ^^^ b.toNat < 2 ^ 32 := Nat.xor_lt_two_pow h (Nat.lt_of_lt_of_le (UInt8.toNat_lt b) (by decide))

theorem xor_cancel {a b c : Nat} (h : a ^^^ c = b ^^^ c) : a = b := by
  have := congrArg (· ^^^ c) h
  simpa [Nat.xor_assoc] using this

theorem sumStep_inj {a b : Nat} (ha : a < 2 ^ 32) (hb : b < 2 ^ 32) (x : UInt8) (h : sumStep a x = sumStep b x) : a = b := by
  rw [sumStep_it, sumStep_it] at h
  exact xor_cancel (crcIt_inj 8 (xor_u8_lt ha x) (xor_u8_lt hb x) h)

theorem sumStep_byte {a : Nat} (ha : a < 2 ^ 32) {x y : UInt8} (h : sumStep a x = sumStep a y) : x = y := by
  rw [sumStep_it, sumStep_it] at h
  have := crcIt_inj 8 (xor_u8_lt ha x) (xor_u8_lt ha y) h
  rw [Nat.xor_comm a, Nat.xor_comm a] at this
  exact UInt8.toNat_inj.1 (xor_cancel this)

theorem sumFold_inj : ∀ (l : List UInt8) {a b : Nat}, a < 2 ^ 32 → b < 2 ^ 32 → l.foldl sumStep a = l.foldl sumStep b → a = b
  | [], a, b, _, _, h => h
  | x :: l, a, b, ha, hb, h => sumStep_inj ha hb x (sumFold_inj l (sumStep_lt ha x) (sumStep_lt hb x) h)

/-- with one byte another the sum is another -/
theorem sumN_turned {l : List UInt8} {k : Nat} {b : UInt8} (hk : k < l.length) (hb : b ≠ l[k]) : sumN (l.set k b) ≠ sumN l := by
  intro h
  unfold sumN at h
  rw [Nat.xor_comm, Nat.xor_comm 4294967295] at h
  have h1 := xor_cancel h
  have e1 : l = l.take k ++ l[k] :: l.drop (k + 1) := by rw [← List.drop_eq_getElem_cons hk, List.take_append_drop]
  have e2 : l.set k b = l.take k ++ b :: l.drop (k + 1) := by rw [List.set_eq_take_append_cons_drop, if_pos hk]
  rw [e2] at h1
  conv at h1 => rhs; rw [e1]
  rw [List.foldl_append, List.foldl_append, List.foldl_cons, List.foldl_cons] at h1
  have hlt := sumFold_lt (l.take k) 4294967295 (by decide)
  exact hb (sumStep_byte hlt (sumFold_inj _ (sumStep_lt hlt _) (sumStep_lt hlt _) h1))

/-! ### bit by bit -/
/-- one bit, from above -/
def refStep (c bit : Nat) : Nat := if c / 2 ^ 31 = bit then c * 2 % 2 ^ 32 else (c * 2 % 2 ^ 32) ^^^ 79764919
/-- one bit, from below -/
def bitStep (r bit : Nat) : Nat := crcStep (r ^^^ bit)

theorem refStep_lt {c : Nat} (bit : Nat) : refStep c bit < 2 ^ 32 := by
  unfold refStep
  split
  · exact Nat.mod_lt _ (by decide)
  · exact Nat.xor_lt_two_pow (Nat.mod_lt _ (by decide)) (by decide)

/-- the one is the other, read from the other end -/
def Rev (c r : Nat) : Prop := ∀ j, j < 32 → r.testBit j = c.testBit (31 - j)

theorem poly_rev : Rev 79764919 3988292384 := by unfold Rev; decide

theorem rev_step {c r bit : Nat} (hc : c < 2 ^ 32) (hr : r < 2 ^ 32) (hb : bit < 2) (h : Rev c r) : Rev (refStep c bit) (bitStep r bit) := by
  have htop : c / 2 ^ 31 = r % 2 := by
    have h0 := h 0 (by decide)
    rw [Nat.testBit_zero] at h0
    have : c.testBit 31 = decide (c / 2 ^ 31 % 2 = 1) := by rw [Nat.testBit_eq_decide_div_mod_eq]
    rw [Nat.sub_zero, this, decide_eq_decide] at h0
    omega
  have hsh : ∀ j, j < 32 → (r / 2).testBit j = (c * 2 % 2 ^ 32).testBit (31 - j) := fun j hj => by
    rw [Nat.testBit_mod_two_pow, Nat.testBit_div_two]
    by_cases h31 : j = 31
    · subst h31
      have : r.testBit 32 = false := Nat.testBit_lt_two_pow hr
      simp [this]
    · rw [h (j + 1) (by omega), Nat.mul_comm, show 31 - j = (31 - (j + 1)) + 1 by omega, tb2]
      simp; omega
  have hlow : (r ^^^ bit) % 2 = (if r % 2 = bit then 0 else 1) := by
    rw [xor_mod, Nat.mod_eq_of_lt hb]
  have hdiv : (r ^^^ bit) / 2 = r / 2 := by rw [Nat.xor_div_two, show bit / 2 = 0 by omega, Nat.xor_zero]
  intro j hj
  unfold refStep bitStep crcStep
  rw [Nat.and_one_is_mod, hlow, hdiv, htop]
  by_cases he : r % 2 = bit
  · rw [if_pos he, if_pos he, if_neg (by decide)]
    exact hsh j hj
  · rw [if_neg he, if_neg he, if_pos rfl, Nat.testBit_xor, Nat.testBit_xor, hsh j hj, poly_rev j hj]

def bitOf (b : UInt8) (j : Nat) : Nat := b.toNat / 2 ^ j % 2
def bitsB (b : UInt8) : List Nat := (List.range 8).map (bitOf b)
def bitsL (l : List UInt8) : List Nat := l.flatMap bitsB

theorem byte_bits (r : Nat) (b : UInt8) : (bitsB b).foldl bitStep r = sumStep r b := by
  have key : ∀ n, ((List.range n).map (bitOf b)).foldl bitStep r = crcIt n (r ^^^ b.toNat) ^^^ b.toNat / 2 ^ n := by
    intro n
    induction n with
    | zero => simp [crcIt, Nat.xor_assoc]
    | succ n ih =>
      rw [List.range_succ, List.map_append, List.foldl_append, ih]
      simp only [List.map_cons, List.map_nil, List.foldl_cons, List.foldl_nil, bitStep]
      have e : crcIt n (r ^^^ b.toNat) ^^^ b.toNat / 2 ^ n ^^^ bitOf b n = crcIt n (r ^^^ b.toNat) ^^^ 2 * (b.toNat / 2 ^ (n + 1)) := by
        rw [Nat.xor_assoc]
        congr 1
        unfold bitOf
        have h2 : b.toNat / 2 ^ (n + 1) = b.toNat / 2 ^ n / 2 := by rw [Nat.div_div_eq_div_mul, Nat.pow_succ]
        rw [h2]
        generalize b.toNat / 2 ^ n = x
        apply Nat.eq_of_testBit_eq
        intro i
        cases i with
        | zero =>
          rw [Nat.testBit_xor, Nat.testBit_zero, Nat.testBit_zero, Nat.testBit_zero]
          have e1 : decide (2 * (x / 2) % 2 = 1) = false := by rw [decide_eq_false_iff_not]; omega
          rw [e1, Nat.mod_mod, Bool.xor_self]
        | succ i =>
          rw [Nat.testBit_xor, tb2, Nat.testBit_div_two]
          have : (x % 2).testBit (i + 1) = false := Nat.testBit_lt_two_pow (Nat.lt_of_lt_of_le (Nat.mod_lt _ (by decide)) (by rw [Nat.pow_succ]; have := Nat.two_pow_pos i; omega))
          rw [this, Bool.xor_false]
      rw [e, crcStep_xor, crcIt, crcIt_step]
  have := key 8
  rw [sumStep_it]
  unfold bitsB
  rw [this, show b.toNat / 2 ^ 8 = 0 by have := UInt8.toNat_lt b; omega, Nat.xor_zero]

theorem bits_fold : ∀ (l : List UInt8) (r : Nat), (bitsL l).foldl bitStep r = l.foldl sumStep r
  | [], r => rfl
  | b :: l, r => by
    unfold bitsL
    rw [List.flatMap_cons, List.foldl_append, byte_bits, List.foldl_cons]
    exact bits_fold l _

theorem bitStep_lt {r bit : Nat} (hr : r < 2 ^ 32) (hb : bit < 2) : bitStep r bit < 2 ^ 32 := crcStep_lt (Nat.xor_lt_two_pow hr (by omega))

theorem rev_fold : ∀ (l : List Nat) (c r : Nat), (∀ b ∈ l, b < 2) → c < 2 ^ 32 → r < 2 ^ 32 → Rev c r → Rev (l.foldl refStep c) (l.foldl bitStep r) ∧ l.foldl refStep c < 2 ^ 32
  | [], c, r, _, hc, _, h => ⟨h, hc⟩
  | b :: l, c, r, hl, hc, hr, h => by
    have hb := hl b (List.mem_cons_self ..)
    exact rev_fold l _ _ (fun x hx => hl x (List.mem_cons_of_mem _ hx)) (refStep_lt b) (bitStep_lt hr hb) (rev_step hc hr hb h)

/-- turned about, bit by bit -/
def revIt (c : Nat) : Nat → Nat
  | 0 => 0
  | i + 1 => revIt c i * 2 + c / 2 ^ i % 2

theorem revIt_lt (c : Nat) : ∀ i, revIt c i < 2 ^ i
  | 0 => by simp [revIt]
  | i + 1 => by
    have := revIt_lt c i
    rw [revIt, Nat.pow_succ]; omega

theorem revIt_bit (c : Nat) : ∀ i j, j < i → (revIt c i).testBit j = c.testBit (i - 1 - j)
  | 0, j, h => by omega
  | i + 1, 0, h => by
    rw [revIt, Nat.testBit_zero, Nat.testBit_eq_decide_div_mod_eq, decide_eq_decide]
    simp only [Nat.add_sub_cancel, Nat.sub_zero]
    omega
  | i + 1, j + 1, h => by
    have e : (revIt c i * 2 + c / 2 ^ i % 2) / 2 = revIt c i := by omega
    rw [revIt, ← Nat.testBit_div_two, e, revIt_bit c i j (by omega)]
    congr 1
    omega

theorem revIt_all {c r : Nat} (hr : r < 2 ^ 32) (h : Rev c r) : revIt c 32 = r := by
  apply Nat.eq_of_testBit_eq
  intro j
  by_cases hj : j < 32
  · rw [revIt_bit c 32 j hj, h j hj]
  · have hp : 2 ^ 32 ≤ 2 ^ j := Nat.pow_le_pow_right (by decide) (by omega)
    rw [Nat.testBit_lt_two_pow (Nat.lt_of_lt_of_le (revIt_lt c 32) hp), Nat.testBit_lt_two_pow (Nat.lt_of_lt_of_le hr hp)]

theorem bits_lt (l : List UInt8) : ∀ b ∈ bitsL l, b < 2 := by
  intro b hb
  unfold bitsL bitsB bitOf at hb
  simp only [List.mem_flatMap, List.mem_map, List.mem_range] at hb
  obtain ⟨x, _, j, _, rfl⟩ := hb
  omega

/-- the sum bit by bit is the sum by a table -/
theorem ref_sum (l : List UInt8) : revIt ((bitsL l).foldl refStep 4294967295) 32 ^^^ 4294967295 = sumN l := by
  have hM : Rev 4294967295 4294967295 := by unfold Rev; decide
  obtain ⟨h1, h2⟩ := rev_fold (bitsL l) 4294967295 4294967295 (bits_lt l) (by decide) (by decide) hM
  rw [bits_fold] at h1
  rw [revIt_all (sumFold_lt l _ (by decide)) h1, Nat.xor_comm]
  rfl

theorem bits_length : ∀ l : List UInt8, (bitsL l).length = 8 * l.length
  | [] => rfl
  | b :: l => by
    unfold bitsL
    rw [List.flatMap_cons, List.length_append]
    have := bits_length l
    unfold bitsL at this
    rw [this]
    simp [bitsB]; omega

theorem bits_get : ∀ (l : List UInt8) (i : Nat) (h : i / 8 < l.length), (bitsL l)[i]? = some (bitOf l[i / 8] (i % 8))
  | [], i, h => by simp at h
  | b :: l, i, h => by
    have hlen : (bitsB b).length = 8 := by simp [bitsB]
    unfold bitsL
    rw [List.flatMap_cons]
    by_cases h8 : i < 8
    · rw [List.getElem?_append_left (by omega)]
      have h0 : i / 8 = 0 := by omega
      simp only [h0, List.getElem_cons_zero, Nat.mod_eq_of_lt h8]
      simp [bitsB, h8]
    · rw [List.getElem?_append_right (by omega), hlen]
      have := bits_get l (i - 8) (by simp at h; omega)
      unfold bitsL at this
      rw [this]
      have e1 : i / 8 = (i - 8) / 8 + 1 := by omega
      have e2 : (i - 8) % 8 = i % 8 := by omega
      simp only [e1, List.getElem_cons_succ, e2]

end Go.Proofs.YtnndngoanknemaaV
