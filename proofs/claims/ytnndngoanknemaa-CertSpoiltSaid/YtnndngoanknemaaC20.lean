/- The plain law: what is decoded is the certificate of what came of it. No condition. -/
import Derived.Test.YtnndngoanknemaaC19
namespace Go.Proofs.YtnndngoanknemaaV
open Go Go.RowKit Go.Proofs.YtnndngoanknemaaA
set_option linter.unusedVariables false
set_option linter.unusedSimpArgs false
set_option maxRecDepth 100000

theorem tk_out {l : List UInt8} {p most x q : Nat} (h : tk l p most = .inr (x, q)) : x ≤ most ∧ p ≤ l.length ∧ q ≤ l.length ∧ l.drop p = enc x ++ l.drop q := by
  have hm := tk_le h
  obtain ⟨_, hp, hq⟩ := tk_mono (r := []) h
  unfold tk at h
  cases hr : rd (l.drop p) 0 0 0 with
  | inl e => rw [hr] at h; cases h
  | inr y =>
    obtain ⟨y, k⟩ := y
    rw [hr] at h
    simp only at h
    split at h
    · cases h
    · cases h
      obtain ⟨_, _, h3, h4⟩ := rd_out hr
      refine ⟨hm, hp, hq, ?_⟩
      rw [List.drop_drop] at h4
      exact h4
theorem nd_out {l : List UInt8} {p q : Nat} {n : Nd} (h : ndP l p = .inr (n, q)) : NdS n ∧ q ≤ l.length ∧ l.drop p = ndB n ++ l.drop q := by
  unfold ndP at h
  cases h1 : tk l p 5 with
  | inl e => rw [h1] at h; cases h
  | inr y1 =>
    obtain ⟨a, p1⟩ := y1
    rw [h1] at h
    simp only at h
    cases h2 : tk l p1 63 with
    | inl e => rw [h2] at h; cases h
    | inr y2 =>
      obtain ⟨b, p2⟩ := y2
      rw [h2] at h
      simp only at h
      cases h3 : tk l p2 63 with
      | inl e => rw [h3] at h; cases h
      | inr y3 =>
        obtain ⟨c, p3⟩ := y3
        rw [h3] at h
        simp only at h
        cases h4 : tk l p3 6 with
        | inl e => rw [h4] at h; cases h
        | inr y4 =>
          obtain ⟨d, p4⟩ := y4
          rw [h4] at h
          simp only at h
          cases h
          obtain ⟨a1, a2, a3, a4⟩ := tk_out h1
          obtain ⟨b1, b2, b3, b4⟩ := tk_out h2
          obtain ⟨c1, c2, c3, c4⟩ := tk_out h3
          obtain ⟨d1, d2, d3, d4⟩ := tk_out h4
          refine ⟨⟨⟨?_, ?_⟩, b1, c1, ?_, ?_⟩, d3, ?_⟩
          · show (0 : Int) ≤ (a : Int); omega
          · show (a : Int) < 6; omega
          · show (0 : Int) ≤ (d : Int); omega
          · show (d : Int) ≤ 6; omega
          · rw [a4, b4, c4, d4]
            simp [ndB, List.append_assoc]
theorem nds_out {l : List UInt8} : ∀ (k p : Nat) (acc ns : List Nd) (q : Nat), p ≤ l.length → ndsF l k p acc = .inr (ns, q) → ∃ ms, ns = acc ++ ms ∧ ms.length = k ∧ (∀ n ∈ ms, NdS n) ∧ q ≤ l.length ∧ l.drop p = ms.flatMap ndB ++ l.drop q
  | 0, p, acc, ns, q, hp, h => by
    rw [ndsF] at h
    cases h
    exact ⟨[], by simp, rfl, by simp, hp, by simp⟩
  | k + 1, p, acc, ns, q, hp, h => by
    rw [ndsF] at h
    cases h1 : ndP l p with
    | inl e => rw [h1] at h; cases h
    | inr y =>
      obtain ⟨n, p1⟩ := y
      rw [h1] at h
      simp only at h
      obtain ⟨n1, n2, n3⟩ := nd_out h1
      obtain ⟨ms, e1, e2, e3, e4, e5⟩ := nds_out k p1 _ ns q n2 h
      refine ⟨n :: ms, by rw [e1, List.append_assoc]; rfl, by rw [List.length_cons, e2], ?_, e4, ?_⟩
      · intro m hm
        rcases List.mem_cons.1 hm with rfl | hm
        · exact n1
        · exact e3 m hm
      · rw [n3, e5, List.flatMap_cons, List.append_assoc]
theorem body_out {l : List UInt8} {sum : Nat} {ns : List Nd} (h : bodyP l = .inr (sum, ns)) (hm : l.take 4 = markB) : l = bodyB sum ns ∧ sum < 2 ^ 32 ∧ ∀ n ∈ ns, NdS n := by
  unfold bodyP at h
  cases h1 : tk l 4 4294967295 with
  | inl e => rw [h1] at h; cases h
  | inr y1 =>
    obtain ⟨a, p1⟩ := y1
    rw [h1] at h
    simp only at h
    cases h2 : tk l p1 20000 with
    | inl e => rw [h2] at h; cases h
    | inr y2 =>
      obtain ⟨b, p2⟩ := y2
      rw [h2] at h
      simp only at h
      split at h
      · cases h
      · cases h3 : ndsF l b p2 [] with
        | inl e => rw [h3] at h; cases h
        | inr y3 =>
          obtain ⟨c, q⟩ := y3
          rw [h3] at h
          simp only at h
          split at h
          · cases h
          · cases h
            obtain ⟨a1, a2, a3, a4⟩ := tk_out h1
            obtain ⟨b1, b2, b3, b4⟩ := tk_out h2
            obtain ⟨ms, e1, e2, e3, e4, e5⟩ := nds_out b p2 [] ns q b3 h3
            rw [List.nil_append] at e1
            subst e1
            refine ⟨?_, by omega, e3⟩
            have e6 : l.drop q = [] := List.drop_eq_nil_of_le (by omega)
            have := List.take_append_drop 4 l
            rw [← this, hm, a4, b4, e5, e6, e2.symm]
            simp [bodyB, List.append_assoc]
theorem dec_out {b : List UInt8} {sum : Nat} {ns : List Nd} (h : decP b = .inr (sum, ns)) : b = certB sum ns ∧ sum < 2 ^ 32 ∧ (∀ n ∈ ns, NdS n) ∧ ns.length ≤ b.length := by
  obtain ⟨h8, h1, h2⟩ := dec_inv h
  have hm : b.take 4 = markB := by
    unfold decP at h
    cases hf : frP b with
    | inl e => rw [hf] at h; cases h
    | inr l =>
      unfold frP at hf
      split at hf
      · cases hf
      · split at hf
        · cases hf
        · rename_i hk; exact Classical.not_not.1 hk
  obtain ⟨e1, e2, e3⟩ := body_out h1 (by rw [List.take_take, Nat.min_eq_left (by omega)]; exact hm)
  have e4 : b = certB sum ns := by
    have := List.take_append_drop (b.length - 4) b
    unfold certB
    rw [← e1, ← h2]
    exact this.symm
  refine ⟨e4, e2, e3, ?_⟩
  have e5 := congrArg List.length e4
  have e6 := ndsB_small ns e3
  simp only [certB, bodyB, List.length_append] at e5
  omega
end Go.Proofs.YtnndngoanknemaaV
