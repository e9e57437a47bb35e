/- What happens ahead of what: plain laws of clocks. No condition. -/
import Derived.Test.YtcaokdlmolnbaaaJ20
namespace Go.Proofs.YtcaokdlmolnbaaaV
open Go Go.RowKit Go.Proofs.YtcaokdlmolnbaaaA
set_option linter.unusedVariables false
set_option linter.unusedSimpArgs false
open Classical

/-- what happens ahead of what, of places in a row of events, by what depends on what -/
inductive Ah (d : Nat → Nat → Bool) : Nat → Nat → Prop
  | one {i j : Nat} (h : i < j) (hd : d i j = true) : Ah d i j
  | more {i k j : Nat} (h : Ah d i k) (hk : k < j) (hd : d k j = true) : Ah d i j
theorem Ah.lt {d : Nat → Nat → Bool} {i j : Nat} (h : Ah d i j) : i < j := by
  induction h with
  | one h => exact h
  | more _ hk _ ih => omega
theorem Ah.trans {d : Nat → Nat → Bool} {i j k : Nat} (h : Ah d i j) (h2 : Ah d j k) : Ah d i k := by
  induction h2 with
  | one h3 hd => exact .more h h3 hd
  | more _ hk hd ih => exact .more ih hk hd
theorem ah_iff {d : Nat → Nat → Bool} {i j : Nat} : Ah d i j ↔ i < j ∧ (d i j = true ∨ ∃ k, i < k ∧ k < j ∧ d k j = true ∧ Ah d i k) := by
  constructor
  · intro h
    refine ⟨h.lt, ?_⟩
    cases h with
    | one h hd => exact .inl hd
    | more h hk hd => exact .inr ⟨_, h.lt, hk, hd, h⟩
  · rintro ⟨h, hd | ⟨k, _, hk, hd, ha⟩⟩
    · exact .one h hd
    · exact .more ha hk hd
theorem ah_via {d : Nat → Nat → Bool} {i j : Nat} : Ah d i j ↔ ∃ k, k < j ∧ d k j = true ∧ (i = k ∨ Ah d i k) := by
  constructor
  · intro h
    cases h with
    | one h hd => exact ⟨i, h, hd, .inl rfl⟩
    | more h hk hd => exact ⟨_, hk, hd, .inr h⟩
  · rintro ⟨k, hk, hd, rfl | h⟩
    · exact .one hk hd
    · exact .more h hk hd

/-- how many below n -/
noncomputable def cn (n : Nat) (P : Nat → Prop) : Nat := ((List.range n).filter (fun i => decide (P i))).length
theorem cn_zero (P : Nat → Prop) : cn 0 P = 0 := rfl
theorem cn_succ (n : Nat) (P : Nat → Prop) : cn (n + 1) P = cn n P + if P n then 1 else 0 := by
  unfold cn
  rw [List.range_succ, List.filter_append, List.length_append]
  by_cases h : P n
  · rw [if_pos h, List.filter_cons_of_pos (by simpa using h)]; rfl
  · rw [if_neg h, List.filter_cons_of_neg (by simpa using h)]; rfl
theorem cn_mono {n : Nat} {P Q : Nat → Prop} (h : ∀ i, i < n → P i → Q i) : cn n P ≤ cn n Q := by
  induction n with
  | zero => exact Nat.le_refl _
  | succ n ih =>
    have := ih fun i hi => h i (by omega)
    rw [cn_succ, cn_succ]
    by_cases hp : P n
    · rw [if_pos hp, if_pos (h n (by omega) hp)]; omega
    · rw [if_neg hp]; split <;> omega
theorem cn_congr {n : Nat} {P Q : Nat → Prop} (h : ∀ i, i < n → (P i ↔ Q i)) : cn n P = cn n Q :=
  Nat.le_antisymm (cn_mono fun i hi => (h i hi).1) (cn_mono fun i hi => (h i hi).2)
theorem cn_add {n : Nat} {P Q R : Nat → Prop} (h : ∀ i, i < n → (R i ↔ P i ∨ Q i)) (hd : ∀ i, i < n → P i → Q i → False) : cn n R = cn n P + cn n Q := by
  induction n with
  | zero => rfl
  | succ n ih =>
    have := ih (fun i hi => h i (by omega)) (fun i hi => hd i (by omega))
    rw [cn_succ, cn_succ, cn_succ, this]
    have h1 := h n (by omega)
    have h2 := hd n (by omega)
    by_cases hp : P n
    · have hq : ¬ Q n := fun hq => h2 hp hq
      rw [if_pos hp, if_neg hq, if_pos (h1.2 (.inl hp))]; omega
    · by_cases hq : Q n
      · rw [if_neg hp, if_pos hq, if_pos (h1.2 (.inr hq))]; omega
      · rw [if_neg hp, if_neg hq, if_neg (fun hr => (h1.1 hr).elim hp hq)]; rfl
theorem cn_none {n : Nat} {P : Nat → Prop} (h : ∀ i, i < n → ¬ P i) : cn n P = 0 := by
  induction n with
  | zero => rfl
  | succ n ih => rw [cn_succ, ih fun i hi => h i (by omega), if_neg (h n (by omega))]
theorem cn_one {n j : Nat} (hj : j < n) (p : Prop) [inst : Decidable p] : cn n (fun i => i = j ∧ p) = if p then 1 else 0 := by
  induction n with
  | zero => omega
  | succ n ih =>
    rw [cn_succ]
    by_cases e : j = n
    · subst e
      rw [cn_none (fun i hi (h : i = j ∧ p) => by have := h.1; omega)]
      by_cases hp : p
      · rw [if_pos ⟨rfl, hp⟩, if_pos hp]
      · rw [if_neg (fun h => hp h.2), if_neg hp]
    · rw [ih (by omega), if_neg (fun h : n = j ∧ p => e h.1.symm)]; rfl

section
variable {n : Nat} {th : Nat → Nat} {d : Nat → Nat → Bool}
/-- of a thread's events, with one all ahead of it -/
def Dc (th : Nat → Nat) (t : Nat) (P : Nat → Prop) : Prop := (∀ x, P x → th x = t) ∧ ∀ x y, P x → y < x → th y = t → P y
theorem cn_max {t : Nat} {P Q : Nat → Prop} (hp : Dc th t P) (hq : Dc th t Q) : cn n (fun x => P x ∨ Q x) = max (cn n P) (cn n Q) := by
  by_cases h : ∀ x, P x → Q x
  · have h1 : cn n (fun x => P x ∨ Q x) = cn n Q := cn_congr fun i _ => ⟨fun k => k.elim (h i) id, .inr⟩
    have h2 := cn_mono (n := n) fun i _ => h i
    rw [h1, Nat.max_eq_right h2]
  · have ⟨x, hx⟩ := Classical.not_forall.1 h
    have hxp : P x := Classical.byContradiction fun hc => hx fun h => absurd h hc
    have hxq : ¬ Q x := fun hc => hx fun _ => hc
    have h3 : ∀ y, Q y → P y := fun y hy => by
      by_cases e : y < x
      · exact hp.2 x y hxp e (hq.1 y hy)
      · by_cases e2 : y = x
        · rw [e2]; exact hxp
        · exact absurd (hq.2 y x hy (by omega) (hp.1 x hxp)) hxq
    have h1 : cn n (fun x => P x ∨ Q x) = cn n P := cn_congr fun i _ => ⟨fun k => k.elim id (h3 i), .inl⟩
    have h2 := cn_mono (n := n) fun i _ => h3 i
    rw [h1, Nat.max_eq_left h2]

/-- of an event, of a thread: how many happen ahead of it (it, too) -/
def CkP (th : Nat → Nat) (d : Nat → Nat → Bool) (j t : Nat) : Nat → Prop := fun x => th x = t ∧ (x = j ∨ Ah d x j)
noncomputable def ck (n : Nat) (th : Nat → Nat) (d : Nat → Nat → Bool) (j t : Nat) : Nat := cn n (CkP th d j t)
def UpP (th : Nat → Nat) (d : Nat → Nat → Bool) (i j t : Nat) : Nat → Prop := fun x => th x = t ∧ ∃ k, k < i ∧ d k j = true ∧ (x = k ∨ Ah d x k)
/-- the most of those that it depends on -/
noncomputable def mx (n : Nat) (th : Nat → Nat) (d : Nat → Nat → Bool) (j t : Nat) : Nat → Nat
  | 0 => 0
  | i + 1 => if d i j = true then max (mx n th d j t i) (ck n th d i t) else mx n th d j t i
theorem ck_dc (hd : ∀ x y, th x = th y → d x y = true) (j t : Nat) : Dc th t (CkP th d j t) := by
  refine ⟨fun x h => h.1, fun x y ⟨h1, h2⟩ hy ht => ⟨ht, .inr ?_⟩⟩
  have h3 : Ah d y x := .one hy (hd _ _ (by rw [ht, h1]))
  rcases h2 with rfl | h2
  · exact h3
  · exact h3.trans h2
theorem up_dc (hd : ∀ x y, th x = th y → d x y = true) (i j t : Nat) : Dc th t (UpP th d i j t) := by
  refine ⟨fun x h => h.1, fun x y ⟨h1, k, hk, hkd, h2⟩ hy ht => ⟨ht, k, hk, hkd, .inr ?_⟩⟩
  have h3 : Ah d y x := .one hy (hd _ _ (by rw [ht, h1]))
  rcases h2 with rfl | h2
  · exact h3
  · exact h3.trans h2
theorem mx_up (hd : ∀ x y, th x = th y → d x y = true) (j t : Nat) : ∀ i, mx n th d j t i = cn n (UpP th d i j t)
  | 0 => by rw [mx, cn_none]; rintro x _ ⟨_, k, hk, _⟩; omega
  | i + 1 => by
    rw [mx]
    by_cases h : d i j = true
    · rw [if_pos h, mx_up hd j t i]
      show max _ (cn n (CkP th d i t)) = _
      rw [← cn_max (up_dc hd i j t) (ck_dc hd i t)]
      refine cn_congr fun x _ => ?_
      constructor
      · rintro (⟨h1, k, hk, hk2, h3⟩ | ⟨h1, h3⟩)
        · exact ⟨h1, k, by omega, hk2, h3⟩
        · exact ⟨h1, i, by omega, h, h3⟩
      · rintro ⟨h1, k, hk, hk2, h3⟩
        by_cases e : k = i
        · subst e; exact .inr ⟨h1, h3⟩
        · exact .inl ⟨h1, k, by omega, hk2, h3⟩
    · rw [if_neg h, mx_up hd j t i]
      refine cn_congr fun x _ => ?_
      constructor
      · rintro ⟨h1, k, hk, hk2, h3⟩
        exact ⟨h1, k, by omega, hk2, h3⟩
      · rintro ⟨h1, k, hk, hk2, h3⟩
        by_cases e : k = i
        · subst e; exact absurd hk2 h
        · exact ⟨h1, k, by omega, hk2, h3⟩
theorem ck_mx (hd : ∀ x y, th x = th y → d x y = true) {j : Nat} (hj : j < n) (t : Nat) : ck n th d j t = mx n th d j t j + if th j = t then 1 else 0 := by
  rw [mx_up hd, ← cn_one hj (th j = t), ck]
  refine cn_add (fun x _ => ?_) fun x _ h1 h2 => ?_
  · constructor
    · rintro ⟨h1, rfl | h2⟩
      · exact .inr ⟨rfl, h1⟩
      · exact .inl ⟨h1, ah_via.1 h2⟩
    · rintro (⟨h1, h2⟩ | ⟨rfl, h2⟩)
      · exact ⟨h1, .inr (ah_via.2 h2)⟩
      · exact ⟨h2, .inl rfl⟩
  · obtain ⟨_, k, hk, _, h3⟩ := h1
    rw [h2.1] at h3
    rcases h3 with h3 | h3
    · omega
    · have := h3.lt; omega
/-- the how-many-th of its thread -/
noncomputable def nt (n : Nat) (th : Nat → Nat) (i : Nat) : Nat := cn n (fun k => th k = th i ∧ k ≤ i)
theorem before_iff (hd : ∀ x y, th x = th y → d x y = true) {i j : Nat} (hij : i < j) (hj : j < n) : nt n th i ≤ ck n th d j (th i) ↔ Ah d i j := by
  constructor
  · intro h
    apply Classical.byContradiction
    intro hn
    have h1 : ck n th d j (th i) ≤ cn n (fun k => th k = th i ∧ k < i) := by
      refine cn_mono fun x _ ⟨h1, h2⟩ => ⟨h1, ?_⟩
      apply Classical.byContradiction
      intro hx
      by_cases e : x = i
      · subst e
        rcases h2 with h2 | h2
        · omega
        · exact hn h2
      · exact hn (((ck_dc hd j (th i)).2 x i ⟨h1, h2⟩ (by omega) rfl).2.resolve_left (by omega))
    have h2 : nt n th i = cn n (fun k => th k = th i ∧ k < i) + cn n (fun k => k = i ∧ True) := by
      refine cn_add (fun x _ => ?_) fun x _ k1 k2 => by have := k1.2; have := k2.1; omega
      constructor
      · rintro ⟨k1, k2⟩
        by_cases e : x = i
        · exact .inr ⟨e, trivial⟩
        · exact .inl ⟨k1, by omega⟩
      · rintro (⟨k1, k2⟩ | ⟨rfl, _⟩)
        · exact ⟨k1, by omega⟩
        · exact ⟨rfl, Nat.le_refl _⟩
    rw [cn_one (by omega), if_pos trivial] at h2
    omega
  · intro h
    refine cn_mono fun x _ ⟨h1, h2⟩ => ⟨h1, .inr ?_⟩
    by_cases e : x = i
    · rw [e]; exact h
    · exact (Ah.one (by omega) (hd _ _ h1)).trans h
/-- what happens ahead of an event, in order -/
noncomputable def ahR (d : Nat → Nat → Bool) (j : Nat) : List Nat := (List.range j).filter (fun i => decide (Ah d i j))
theorem mem_ahR {i j : Nat} : i ∈ ahR d j ↔ Ah d i j := by
  unfold ahR
  rw [List.mem_filter, List.mem_range, decide_eq_true_iff]
  exact ⟨fun h => h.2, fun h => ⟨h.lt, h⟩⟩
theorem cn_far {m n : Nat} {P : Nat → Prop} (hmn : m ≤ n) (h : ∀ i, m ≤ i → i < n → ¬ P i) : cn n P = cn m P := by
  induction n with
  | zero => obtain rfl : m = 0 := by omega
            rfl
  | succ n ih =>
    by_cases e : m = n + 1
    · rw [e]
    · rw [cn_succ, if_neg (h n (by omega) (by omega)), ih (by omega) fun i h1 h2 => h i h1 (by omega)]; rfl
theorem ck_row {j : Nat} (hj : j < n) (t : Nat) : ck n th d j t = (if th j = t then 1 else 0) + ((ahR d j).filter (fun i => decide (th i = t))).length := by
  have h1 : ((ahR d j).filter (fun i => decide (th i = t))).length = cn n (fun x => th x = t ∧ Ah d x j) := by
    unfold ahR
    rw [List.filter_filter]
    have e : cn j (fun x => th x = t ∧ Ah d x j) = ((List.range j).filter (fun i => decide (th i = t) && decide (Ah d i j))).length := by
      unfold cn
      congr 1
      refine List.filter_congr fun x _ => ?_
      by_cases k1 : th x = t <;> by_cases k2 : Ah d x j <;> simp [k1, k2]
    rw [← e]
    exact (cn_far (m := j) (by omega) fun i h1 _ h3 => by have := h3.2.lt; omega).symm
  rw [h1, ← cn_one hj (th j = t), ck]
  refine cn_add (fun x _ => ?_) fun x _ k1 k2 => by have := k2.2.lt; have := k1.1; omega
  constructor
  · rintro ⟨k1, rfl | k2⟩
    · exact .inl ⟨rfl, k1⟩
    · exact .inr ⟨k1, k2⟩
  · rintro (⟨rfl, k2⟩ | ⟨k1, k2⟩)
    · exact ⟨k2, .inl rfl⟩
    · exact ⟨k1, .inr k2⟩
end

/-! ### two neighbours exchanged -/
def sw (k i : Nat) : Nat := if i = k then k + 1 else if i = k + 1 then k else i
theorem sw_sw (k i : Nat) : sw k (sw k i) = i := by
  unfold sw
  by_cases h1 : i = k
  · rw [if_pos h1, if_neg (by omega), if_pos rfl, h1]
  · by_cases h2 : i = k + 1
    · rw [if_neg h1, if_pos h2, if_pos rfl, h2]
    · rw [if_neg h1, if_neg h2, if_neg h1, if_neg h2]
theorem sw_lt {k i j : Nat} (h : i < j) (hn : ¬ (i = k ∧ j = k + 1)) : sw k i < sw k j := by
  unfold sw
  split <;> split <;> (try split) <;> (try split) <;> omega
theorem ah_sw {d d' : Nat → Nat → Bool} {k : Nat} (hd : ∀ i j, d' (sw k i) (sw k j) = d i j) (hk : d k (k + 1) = false) {i j : Nat} (h : Ah d i j) : Ah d' (sw k i) (sw k j) := by
  induction h with
  | one h hdd => exact .one (sw_lt h fun ⟨e1, e2⟩ => by rw [e1, e2, hk] at hdd; cases hdd) (by rw [hd]; exact hdd)
  | more _ h hdd ih => exact .more ih (sw_lt h fun ⟨e1, e2⟩ => by rw [e1, e2, hk] at hdd; cases hdd) (by rw [hd]; exact hdd)
theorem ah_sw_iff {d d' : Nat → Nat → Bool} {k : Nat} (hd : ∀ i j, d' (sw k i) (sw k j) = d i j) (hs : ∀ i j, d i j = d j i) (hk : d k (k + 1) = false) (i j : Nat) : Ah d i j ↔ Ah d' (sw k i) (sw k j) := by
  refine ⟨ah_sw hd hk, fun h => ?_⟩
  have hd2 : ∀ i j, d (sw k i) (sw k j) = d' i j := fun i j => by rw [← hd, sw_sw, sw_sw]
  have hk2 : d' k (k + 1) = false := by
    have e1 : sw k (k + 1) = k := by unfold sw; rw [if_neg (by omega), if_pos rfl]
    have e2 : sw k k = k + 1 := if_pos rfl
    have := hd (k + 1) k
    rw [e1, e2] at this
    rw [this, hs, hk]
  have := ah_sw hd2 hk2 h
  rwa [sw_sw, sw_sw] at this
end Go.Proofs.YtcaokdlmolnbaaaV
