/- The plain law: what is cut, longer or turned isn't decoded; CertTurned walked. No condition. -/
import Derived.Test.YtnndngoanknemaaC16
namespace Go.Proofs.YtnndngoanknemaaV
open Go Go.RowKit Go.Proofs.YtnndngoanknemaaA
set_option linter.unusedVariables false
set_option linter.unusedSimpArgs false
set_option maxRecDepth 100000

theorem rd_mono : ∀ (l r : List UInt8) (sh n k x j : Nat), rd l sh n k = .inr (x, j) → rd (l ++ r) sh n k = .inr (x, j)
  | [], r, sh, n, k, x, j, h => by simp only [rd] at h; cases h
  | c :: l, r, sh, n, k, x, j, h => by
    rw [List.cons_append]
    rw [rd] at h ⊢
    split at h
    · cases h
    · rename_i hb
      rw [if_neg hb]
      split at h
      · rename_i hc
        rw [if_pos hc]
        exact rd_mono l r _ _ _ x j h
      · rename_i hc
        rw [if_neg hc]
        exact h
theorem tk_mono {l r : List UInt8} {p most x q : Nat} (h : tk l p most = .inr (x, q)) : tk (l ++ r) p most = .inr (x, q) ∧ p ≤ l.length ∧ q ≤ l.length := by
  unfold tk at h ⊢
  cases hr : rd (l.drop p) 0 0 0 with
  | inl e => rw [hr] at h; cases h
  | inr y =>
    obtain ⟨y, k⟩ := y
    rw [hr] at h
    have hp : p ≤ l.length := by
      by_cases hp : p ≤ l.length
      · exact hp
      · rw [List.drop_eq_nil_of_le (by omega)] at hr
        simp only [rd] at hr
        cases hr
    have h2 := (rd_le (l.drop p) 0 0 0).1 y k hr
    rw [List.length_drop] at h2
    rw [List.drop_append_of_le_length hp, rd_mono _ _ _ _ _ _ _ hr]
    simp only at h ⊢
    split at h
    · cases h
    · rename_i hm
      rw [if_neg hm]
      cases h
      exact ⟨rfl, hp, by omega⟩
theorem nd_mono {l r : List UInt8} {p q : Nat} {n : Nd} (h : ndP l p = .inr (n, q)) : ndP (l ++ r) p = .inr (n, q) ∧ q ≤ l.length := by
  unfold ndP at h ⊢
  cases h1 : tk l p 5 with
  | inl e => rw [h1] at h; cases h
  | inr y1 =>
    obtain ⟨a, p1⟩ := y1
    rw [h1] at h
    simp only at h
    cases h2 : tk l p1 63 with
    | inl e => rw [h2] at h; cases h
    | inr y2 =>
      obtain ⟨b, p2⟩ := y2
      rw [h2] at h
      simp only at h
      cases h3 : tk l p2 63 with
      | inl e => rw [h3] at h; cases h
      | inr y3 =>
        obtain ⟨c, p3⟩ := y3
        rw [h3] at h
        simp only at h
        cases h4 : tk l p3 6 with
        | inl e => rw [h4] at h; cases h
        | inr y4 =>
          obtain ⟨d, p4⟩ := y4
          rw [h4] at h
          cases h
          simp only [(tk_mono (r := r) h1).1, (tk_mono (r := r) h2).1, (tk_mono (r := r) h3).1, (tk_mono (r := r) h4).1]
          exact ⟨trivial, (tk_mono (r := r) h4).2.2⟩
theorem nds_mono {l r : List UInt8} : ∀ (k p : Nat) (acc ns : List Nd) (q : Nat), p ≤ l.length → ndsF l k p acc = .inr (ns, q) → ndsF (l ++ r) k p acc = .inr (ns, q) ∧ q ≤ l.length
  | 0, p, acc, ns, q, hp, h => by simp only [ndsF] at h ⊢; cases h; exact ⟨rfl, hp⟩
  | k + 1, p, acc, ns, q, hp, h => by
    simp only [ndsF] at h ⊢
    cases h1 : ndP l p with
    | inl e => rw [h1] at h; cases h
    | inr y =>
      obtain ⟨n, p1⟩ := y
      rw [h1] at h
      obtain ⟨h2, h3⟩ := nd_mono (r := r) h1
      rw [h2]
      exact nds_mono k p1 _ ns q h3 h
/-- a part of a body is no body -/
theorem body_pre {l r : List UInt8} {x y : Nat × List Nd} (h : bodyP l = .inr x) (h2 : bodyP (l ++ r) = .inr y) : r = [] := by
  unfold bodyP at h h2
  cases h3 : tk l 4 4294967295 with
  | inl e => rw [h3] at h; cases h
  | inr a =>
    obtain ⟨s, p1⟩ := a
    rw [h3] at h
    rw [(tk_mono (r := r) h3).1] at h2
    simp only at h h2
    cases h4 : tk l p1 20000 with
    | inl e => rw [h4] at h; cases h
    | inr a =>
      obtain ⟨m, p2⟩ := a
      have h4' := tk_mono (r := r) h4
      rw [h4] at h
      rw [h4'.1] at h2
      simp only at h h2
      split at h
      · cases h
      split at h2
      · cases h2
      cases h5 : ndsF l m p2 [] with
      | inl e => rw [h5] at h; cases h
      | inr a =>
        obtain ⟨ns, q⟩ := a
        have h5' := nds_mono (r := r) m p2 [] ns q h4'.2.2 h5
        rw [h5] at h
        rw [h5'.1] at h2
        simp only at h h2
        split at h
        · cases h
        split at h2
        · cases h2
        · rename_i hq1 hq2
          rw [List.length_append] at hq2
          exact List.length_eq_zero_iff.1 (by omega)

theorem le4_inj {a b : Nat} (ha : a < 2 ^ 32) (hb : b < 2 ^ 32) (h : le4 a = le4 b) : a = b := by
  simp only [le4, List.cons.injEq, and_true] at h
  obtain ⟨h1, h2, h3, h4⟩ := h
  have k1 := congrArg UInt8.toNat h1
  have k2 := congrArg UInt8.toNat h2
  have k3 := congrArg UInt8.toNat h3
  have k4 := congrArg UInt8.toNat h4
  simp only [UInt8.toNat_ofNat'] at k1 k2 k3 k4
  omega

/-- what may be decoded at all -/
theorem dec_inv {b : List UInt8} {x : Nat × List Nd} (h : decP b = .inr x) : 8 ≤ b.length ∧ bodyP (b.take (b.length - 4)) = .inr x ∧ b.drop (b.length - 4) = le4 (sumN (b.take (b.length - 4))) := by
  unfold decP at h
  cases hf : frP b with
  | inl e => rw [hf] at h; cases h
  | inr l =>
    rw [hf] at h
    have hl := frP_len hf
    refine ⟨hl.2, by rw [← hl.1]; exact h, ?_⟩
    unfold frP at hf
    split at hf
    · cases hf
    · split at hf
      · cases hf
      · split at hf
        · cases hf
        · rename_i hs
          exact Classical.not_not.1 hs
theorem certB_len (sum : Nat) (l : List Nd) : (certB sum l).length = (bodyB sum l).length + 4 := by simp [certB, le4]
theorem body_ok {l : List Nd} {sum : Nat} (h : ∀ n ∈ l, NdS n) (hs : sum < 2 ^ 32) (hl : l.length ≤ 20000) : bodyP (bodyB sum l) = .inr (sum, l) := by
  have := body_put h hs hl []
  rwa [List.append_nil, if_pos rfl] at this

theorem dec_cut {l : List Nd} {sum k : Nat} (h : ∀ n ∈ l, NdS n) (hs : sum < 2 ^ 32) (hl : l.length ≤ 20000) (hk : k < (certB sum l).length) {x : Nat × List Nd} : decP ((certB sum l).take k) ≠ .inr x := by
  intro hd
  obtain ⟨h8, hb, _⟩ := dec_inv hd
  have hc := certB_len sum l
  have hlen : ((certB sum l).take k).length = k := by rw [List.length_take]; omega
  rw [hlen] at h8 hb
  have e : ((certB sum l).take k).take (k - 4) = (bodyB sum l).take (k - 4) := by
    rw [List.take_take, Nat.min_eq_left (by omega)]
    unfold certB
    rw [List.take_append_of_le_length (by omega)]
  rw [e] at hb
  have e2 : bodyB sum l = (bodyB sum l).take (k - 4) ++ (bodyB sum l).drop (k - 4) := (List.take_append_drop _ _).symm
  have hok := body_ok h hs hl
  rw [e2] at hok
  have := body_pre hb hok
  have h3 := congrArg List.length this
  rw [List.length_drop, List.length_nil] at h3
  omega
theorem dec_more {l : List Nd} {sum : Nat} {m : List UInt8} (h : ∀ n ∈ l, NdS n) (hs : sum < 2 ^ 32) (hl : l.length ≤ 20000) (hm : m ≠ []) {x : Nat × List Nd} : decP (certB sum l ++ m) ≠ .inr x := by
  intro hd
  obtain ⟨h8, hb, _⟩ := dec_inv hd
  have hc := certB_len sum l
  have hml : 0 < m.length := List.length_pos_iff.2 hm
  have e : (certB sum l ++ m).take ((certB sum l ++ m).length - 4) = bodyB sum l ++ (le4 (sumN (bodyB sum l)) ++ m).take m.length := by
    rw [List.length_append, hc]
    unfold certB
    rw [List.append_assoc, List.take_append]
    rw [List.take_of_length_le (by omega), show (bodyB sum l).length + 4 + m.length - 4 - (bodyB sum l).length = m.length by omega]
  rw [e, body_put h hs hl, if_neg (fun h0 => by
    have := congrArg List.length h0
    rw [List.length_take, List.length_append, List.length_nil] at this
    omega)] at hb
  cases hb
theorem dec_turned {l : List Nd} {sum k : Nat} {b : UInt8} (h : ∀ n ∈ l, NdS n) (hs : sum < 2 ^ 32) (hl : l.length ≤ 20000) (hk : k < (certB sum l).length) (hb : b ≠ (certB sum l)[k]) {x : Nat × List Nd} : decP ((certB sum l).set k b) ≠ .inr x := by
  intro hd
  obtain ⟨h8, hb2, hs2⟩ := dec_inv hd
  have hc := certB_len sum l
  rw [List.length_set, hc, Nat.add_sub_cancel] at hs2
  by_cases hkb : k < (bodyB sum l).length
  · have e : (certB sum l).set k b = (bodyB sum l).set k b ++ le4 (sumN (bodyB sum l)) := by
      unfold certB; rw [List.set_append_left _ _ hkb]
    have e2 : (certB sum l)[k] = (bodyB sum l)[k] := by
      simp only [certB, List.getElem_append_left hkb]
    rw [e, List.take_left' (by simp), List.drop_left' (by simp)] at hs2
    have h1 := le4_inj (sumN_lt _) (sumN_lt _) hs2
    rw [e2] at hb
    exact sumN_turned hkb hb h1.symm
  · have e : (certB sum l).set k b = bodyB sum l ++ (le4 (sumN (bodyB sum l))).set (k - (bodyB sum l).length) b := by
      unfold certB; rw [List.set_append_right _ _ (by omega)]
    have e2 : (certB sum l)[k] = (le4 (sumN (bodyB sum l)))[k - (bodyB sum l).length]'(by simp [le4]; omega) := by
      simp only [certB, List.getElem_append_right (by omega : (bodyB sum l).length ≤ k)]
    rw [e, List.take_left, List.drop_left] at hs2
    have h3 : ((le4 (sumN (bodyB sum l))).set (k - (bodyB sum l).length) b)[k - (bodyB sum l).length]? = (le4 (sumN (bodyB sum l)))[k - (bodyB sum l).length]? := by rw [hs2]
    rw [List.getElem?_set_self (by simp [le4]; omega), List.getElem?_eq_getElem (by simp [le4]; omega)] at h3
    rw [e2] at hb
    exact hb (Option.some.inj h3)
end Go.Proofs.YtnndngoanknemaaV
