/- Numerals: what digits come to, which are as they are printed. No condition. -/
import Derived.Test.YtlpdplchcpkajaaDoorEA
namespace Go.Proofs.YtlpdplchcpkajaaDoorV
open Go Go.RowKit Go.Proofs.YtlpdplchcpkajaaDoorA
set_option linter.unusedVariables false
set_option linter.unusedSimpArgs false

def IsDig (b : UInt8) : Prop := 48 ≤ b.toNat ∧ b.toNat ≤ 57
/-- what digits come to -/
def digv (acc : Nat) (l : List UInt8) : Nat := l.foldl (fun a b => 10 * a + (b.toNat - 48)) acc
theorem digv_nil (acc : Nat) : digv acc [] = acc := by unfold digv; exact List.foldl_nil
theorem digv_cons (acc : Nat) (b : UInt8) (l : List UInt8) : digv acc (b :: l) = digv (10 * acc + (b.toNat - 48)) l := by unfold digv; rw [List.foldl_cons]
theorem digv_ge : ∀ (l : List UInt8) (acc : Nat), acc ≤ digv acc l
  | [], _ => Nat.le_refl _
  | b :: l, acc => by
    rw [digv_cons]
    exact Nat.le_trans (by omega) (digv_ge l _)
theorem digv_snoc (l : List UInt8) (acc : Nat) (b : UInt8) : digv acc (l ++ [b]) = 10 * digv acc l + (b.toNat - 48) := by
  unfold digv
  rw [List.foldl_append, List.foldl_cons, List.foldl_nil]
theorem pm_dig {M K : Nat} (hK : K = 1844674407370955162) (hM : M < K) : ∀ (l : List UInt8) (acc : Nat), (∀ b ∈ l, IsDig b) → acc ≤ M →
    Lib.parseUintM M acc l = if digv acc l ≤ M then .ok (digv acc l) else .range := by
  intro l
  induction l with
  | nil =>
    intro acc _ h
    rw [digv_nil, if_pos h]
    rfl
  | cons b l ih =>
    intro acc hd h
    have hb := hd b List.mem_cons_self
    have hb1 : 48 ≤ b.toNat ∧ b.toNat ≤ 57 := hb
    have e : 10 * acc + (b.toNat - 48) = acc * 10 + (b.toNat - 48) := by omega
    rw [Lib.parseUintM, if_pos hb1, ← hK, if_neg (by omega)]
    by_cases h2 : M < acc * 10 + (b.toNat - 48)
    · rw [if_pos h2, if_neg]
      have := digv_ge l (10 * acc + (b.toNat - 48))
      rw [digv_cons]
      omega
    · rw [if_neg h2, ← e, ih _ (fun c hc => hd c (List.mem_cons_of_mem _ hc)) (by omega), digv_cons]
theorem pi_dig {l : List UInt8} (h0 : l ≠ []) (hd : ∀ b ∈ l, IsDig b) : Lib.parseIntB 32 l = if digv 0 l < 2147483648 then .ok (digv 0 l : Int) else .range := by
  match l, h0 with
  | c :: r, _ =>
    have hb : 48 ≤ c.toNat ∧ c.toNat ≤ 57 := hd c List.mem_cons_self
    have h1 : ¬ (c.toNat = 43 ∨ c.toNat = 45) := by omega
    have h2 : ¬ c.toNat = 45 := by omega
    unfold Lib.parseIntB Lib.parseUintB
    simp only [if_neg h1, if_neg h2]
    rw [if_neg (by simp), pm_dig rfl (by decide) _ _ hd (by omega)]
    by_cases h3 : digv 0 (c :: r) ≤ 2 ^ 32 - 1
    · rw [if_pos h3]
      simp only
      by_cases h4 : digv 0 (c :: r) < 2147483648
      · rw [if_neg (by omega), if_neg (by omega), if_pos h4]
      · rw [if_pos ⟨h2, by omega⟩, if_neg h4]
    · rw [if_neg h3, if_neg (by omega)]
theorem sat_dig {l : List UInt8} (h0 : l ≠ []) (hd : ∀ b ∈ l, IsDig b) : Lib.intSat 32 l = 2147483647 := by
  match l, h0 with
  | c :: r, _ =>
    have hb : 48 ≤ c.toNat ∧ c.toNat ≤ 57 := hd c List.mem_cons_self
    unfold Lib.intSat
    rw [if_neg]
    · rfl
    · intro h
      have : c.toNat = 45 := by simpa using h
      omega
/-- no nought ahead -/
def Canon (l : List UInt8) : Prop := l.length = 1 ∨ l.head? ≠ some 48
instance (l : List UInt8) : Decidable (Canon l) := by unfold Canon; exact inferInstance
theorem of_dig {b : UInt8} (h : IsDig b) : UInt8.ofNat (48 + (b.toNat - 48)) = b := by
  have h' : 48 ≤ b.toNat := h.1
  rw [show 48 + (b.toNat - 48) = b.toNat by omega]
  exact UInt8.ofNat_toNat
theorem digv_head {b : UInt8} {l : List UInt8} (h : IsDig b) (hb : b ≠ 48) : 10 ^ l.length ≤ digv 0 (b :: l) := by
  have h0 : 1 ≤ b.toNat - 48 := by
    have h1 : 48 ≤ b.toNat := h.1
    have : b.toNat ≠ 48 := fun e => hb (UInt8.toNat_inj.1 (e.trans rfl))
    omega
  have g : ∀ (l : List UInt8) (acc : Nat), acc * 10 ^ l.length ≤ digv acc l := by
    intro l
    induction l with
    | nil => intro acc; rw [digv_nil]; simp
    | cons c l ih =>
      intro acc
      rw [digv_cons]
      refine Nat.le_trans ?_ (ih (10 * acc + (c.toNat - 48)))
      rw [List.length_cons, Nat.pow_succ]
      calc acc * (10 ^ l.length * 10) = (10 * acc) * 10 ^ l.length := by rw [Nat.mul_comm (10 ^ l.length), ← Nat.mul_assoc, Nat.mul_comm acc 10]
        _ ≤ _ := Nat.mul_le_mul_right _ (by omega)
  have h1 : digv 0 (b :: l) = digv (b.toNat - 48) l := by rw [digv_cons, Nat.mul_zero, Nat.zero_add]
  rw [h1]
  have h2 := g l (b.toNat - 48)
  have h3 := Nat.mul_le_mul_right (10 ^ l.length) h0
  rw [Nat.one_mul] at h3
  exact Nat.le_trans h3 h2
theorem dd_canon (l : List UInt8) : ∀ b, (∀ c ∈ l ++ [b], IsDig c) → Canon (l ++ [b]) → Lib.decDigits (digv 0 (l ++ [b])) = l ++ [b] := by
  induction hn : l.length generalizing l with
  | zero =>
    intro b hd hc
    obtain rfl := List.length_eq_zero_iff.1 hn
    have hb : IsDig b := hd b (by simp)
    have hb' : 48 ≤ b.toNat ∧ b.toNat ≤ 57 := hb
    rw [List.nil_append, digv_cons, digv_nil]
    rw [Lib.decDigits_one (by omega), show 10 * 0 + (b.toNat - 48) = b.toNat - 48 by omega, of_dig hb]
  | succ n ih =>
    intro b hd hc
    have hb : IsDig b := hd b (by simp)
    have hb' : 48 ≤ b.toNat ∧ b.toNat ≤ 57 := hb
    obtain ⟨l', c, rfl⟩ : ∃ l' c, l = l' ++ [c] := by
      have hne : l ≠ [] := fun e => by rw [e] at hn; cases hn
      exact ⟨l.dropLast, l.getLast hne, (List.dropLast_concat_getLast hne).symm⟩
    have hl' : l'.length = n := by simpa using hn
    have hcan : (l' ++ [c]).head? ≠ some 48 := by
      rcases hc with hc | hc
      · simp at hc
      · intro e
        apply hc
        rw [List.head?_append, e]; rfl
    have hd' : ∀ x ∈ l' ++ [c], IsDig x := fun x hx => hd x (List.mem_append_left _ hx)
    have hpos : 1 ≤ digv 0 (l' ++ [c]) := by
      match l', hcan, hd' with
      | [], hcan, hd' =>
        exact Nat.le_trans (Nat.one_le_pow _ _ (by decide)) (digv_head (b := c) (l := []) (hd' c (by simp)) (fun e => hcan (by simp [e])))
      | x :: l', hcan, hd' =>
        exact Nat.le_trans (Nat.one_le_pow _ _ (by decide)) (digv_head (b := x) (l := l' ++ [c]) (hd' x (by simp)) (fun e => hcan (by simp [e])))
    have ih' := ih l' hl' c hd' (.inr hcan)
    rw [digv_snoc, Lib.decDigits, dif_neg (by omega), show (10 * digv 0 (l' ++ [c]) + (b.toNat - 48)) / 10 = digv 0 (l' ++ [c]) by omega,
      show (10 * digv 0 (l' ++ [c]) + (b.toNat - 48)) % 10 = b.toNat - 48 by omega, ih', of_dig hb]
theorem dd_head {u : Nat} (h : 1 ≤ u) : (Lib.decDigits u).head? ≠ some 48 := by
  induction u using Nat.strongRecOn with
  | _ u ih =>
    by_cases h10 : u < 10
    · rw [Lib.decDigits_one h10]
      intro e
      have e1 : UInt8.ofNat (48 + u) = 48 := by simpa using e
      have e2 := congrArg UInt8.toNat e1
      rw [UInt8.toNat_ofNat_of_lt' (by simp [UInt8.size]; omega)] at e2
      have : (48 : UInt8).toNat = 48 := rfl
      omega
    · rw [Lib.decDigits, dif_neg h10]
      have := ih (u / 10) (by omega) (by omega)
      intro e
      apply this
      cases hq : Lib.decDigits (u / 10) with
      | nil =>
        have h1 := Lib.decDigits_length (u / 10)
        have h2 := Lib.nDigits_pos (u / 10)
        rw [hq] at h1
        simp at h1
        omega
      | cons x r =>
        rw [hq] at e
        simpa using e
theorem dd_iff {l : List UInt8} (h0 : l ≠ []) (hd : ∀ b ∈ l, IsDig b) : Lib.itoa (digv 0 l : Int) = l ↔ Canon l := by
  have e : Lib.itoa (digv 0 l : Int) = Lib.decDigits (digv 0 l) := by unfold Lib.itoa; rw [if_neg (by omega)]; simp
  rw [e]
  constructor
  · intro h
    by_cases hv : digv 0 l = 0
    · rw [hv, Lib.decDigits_one (by omega)] at h
      exact .inl (by rw [← h]; rfl)
    · exact .inr (by rw [← h]; exact dd_head (by omega))
  · intro h
    have e2 : l = l.dropLast ++ [l.getLast h0] := (List.dropLast_concat_getLast h0).symm
    rw [e2] at hd h ⊢
    exact dd_canon _ _ hd h
/-- as the law tells it: at most seven digits, none ahead nought, not more than may be -/
theorem canon_law {l : List UInt8} (h0 : l ≠ []) (hd : ∀ b ∈ l, IsDig b) : (Canon l ∧ digv 0 l ≤ 1048576) ↔ (l.length ≤ 7 ∧ (l.length = 1 ∨ l.head? ≠ some 48) ∧ digv 0 l ≤ 1048576) := by
  constructor
  · rintro ⟨h1, h2⟩
    refine ⟨?_, h1, h2⟩
    rcases h1 with h1 | h1
    · omega
    · match l, h0 with
      | b :: r, _ =>
        have hb : b ≠ 48 := fun e => h1 (by rw [e]; rfl)
        have h3 := digv_head (l := r) (hd b List.mem_cons_self) hb
        apply Nat.le_of_not_lt
        intro h4
        have h5 : 7 ≤ r.length := by rw [List.length_cons] at h4; omega
        have : 10 ^ 7 ≤ 10 ^ r.length := Nat.pow_le_pow_right (by decide) h5
        omega
  · rintro ⟨_, h1, h2⟩
    exact ⟨h1, h2⟩
theorem lastIx_none {l : List UInt8} {c : Int} (h : ∀ b ∈ l, (b.toNat : Int) ≠ c) : Lib.lastIndexByte ⟨l.toArray⟩ c = -1 := by
  rcases Lib.lastIndexByte_spec ⟨l.toArray⟩ c with ⟨h1, _⟩ | ⟨i, hi, _, h2, _⟩
  · exact h1
  · have hi' : i < l.length := hi
    exfalso
    refine h l[i] (List.getElem_mem _) ?_
    rw [← h2]
    simp [hi']
theorem hasSuf_i {l : List UInt8} : Lib.hasSuffix (l ++ [105]) [105] = true := by
  unfold Lib.hasSuffix
  exact List.isSuffixOf_iff_suffix.2 ⟨l, rfl⟩
theorem trimSuf_i {l : List UInt8} : Lib.trimSuffix (l ++ [105]) [105] = l := by
  unfold Lib.trimSuffix
  rw [hasSuf_i]
  simp
theorem hasSuf_dig {l : List UInt8} (hd : ∀ b ∈ l, IsDig b) : Lib.hasSuffix l [105] = false := by
  unfold Lib.hasSuffix
  apply Bool.eq_false_iff.2
  intro h
  obtain ⟨r, hr⟩ := List.isSuffixOf_iff_suffix.1 h
  have h1 := hd 105 (by rw [← hr]; simp)
  have h2 : (105 : UInt8).toNat ≤ 57 := h1.2
  exact absurd h2 (by decide)
end Go.Proofs.YtlpdplchcpkajaaDoorV
