/- Marks in a row of their own; what a sort may do to a row. No condition. -/
import Derived.Test.YtcaokdlmolnbaaaGB
namespace Go.Proofs.YtcaokdlmolnbaaaV
open Go Go.RowKit Go.Proofs.YtcaokdlmolnbaaaA
set_option linter.unusedVariables false
set_option linter.unusedSimpArgs false
set_option maxRecDepth 100000

/-- a mark -/
structure Mk where
  ob : Int
  wr : Bool
  deriving DecidableEq
instance : Inhabited Mk := ⟨⟨0, false⟩⟩
def Mk.cs (m : Mk) : List AVal := [.lit (.int .i64 m.ob), .lit (.bool m.wr)]
def Mk.a (m : Mk) : AVal := .agg m.cs
def flatM (l : List Mk) : List AVal := l.flatMap Mk.cs
theorem flatM_len : ∀ l : List Mk, (flatM l).length = 2 * l.length
  | [] => rfl
  | n :: l => by
    have := flatM_len l
    unfold flatM at this ⊢
    rw [List.flatMap_cons, List.length_append, this]
    simp [Mk.cs]; omega
theorem flatM_get : ∀ (l : List Mk) (i : Nat) (h : i < l.length), ((flatM l).drop (i * 2)).take 2 = l[i].cs
  | [], i, h => by simp at h
  | n :: l, 0, h => by
    unfold flatM
    rw [List.flatMap_cons]
    simp [Mk.cs]
  | n :: l, i + 1, h => by
    have := flatM_get l i (by simpa using h)
    unfold flatM at this ⊢
    rw [List.flatMap_cons, show (i + 1) * 2 = n.cs.length + i * 2 by simp [Mk.cs]; omega, List.drop_append, List.drop_of_length_le (by omega), List.nil_append, Nat.add_sub_cancel_left, this]
    rfl
theorem flatM_put : ∀ (l : List Mk) (i : Nat) (h : i < l.length) (m : Mk), putL (flatM l) (i * 2) m.cs = flatM (l.set i m)
  | [], i, h, m => by simp at h
  | n :: l, 0, h, m => rfl
  | n :: l, i + 1, h, m => by
    have := flatM_put l i (by simpa using h) m
    have e : flatM (n :: l) = n.cs ++ flatM l := by unfold flatM; rw [List.flatMap_cons]
    have e2 : flatM ((n :: l).set (i + 1) m) = n.cs ++ flatM (l.set i m) := by unfold flatM; rw [List.set_cons_succ, List.flatMap_cons]
    rw [e, e2, ← this]
    rw [show (i + 1) * 2 = i * 2 + 1 + 1 by omega]
    rfl

/-- the row's value -/
def rowM (s n : Nat) : AVal := .slice s 0 n 2 none
theorem idxM {s n : Nat} {i : Nat} (h : i < n) : indexA E.P 29 (rowM s n) (.lit (.int .i64 i)) = some (.ptr s (i * 2)) := by
  have e : indexA E.P 29 (rowM s n) (.lit (.int .i64 i)) = if 0 ≤ (i : Int) ∧ (i : Int) < (n : Nat) then some (.ptr s (0 + (i : Int).toNat * 2)) else none := rfl
  rw [e, if_pos ⟨by omega, by omega⟩]
  simp
theorem ldM {st : ASt} {s : Nat} {ms : List Mk} (h : st.heap s = some (.cells (flatM ms))) {i : Nat} (hi : i < ms.length) : loadA E.P 40 st (.ptr s (i * 2)) = some ms[i].a := by
  have a0 : loadA E.P 40 st (.ptr s (i * 2)) = (match st.heap s with | some (.cells cs) => if i * 2 + 2 ≤ cs.length then some (.agg ((cs.drop (i * 2)).take 2)) else none | _ => none) := rfl
  rw [a0, h]
  simp only
  rw [if_pos (by rw [flatM_len]; omega), flatM_get _ _ hi]; rfl
/-- the row laid anew -/
def putM (st : ASt) (s : Nat) (ms : List Mk) : ASt := st.set s (some (.cells (flatM ms)))
theorem putM_at (st : ASt) (s : Nat) (ms : List Mk) : (putM st s ms).heap s = some (.cells (flatM ms)) := ASt.set_same _ _ _
theorem putM_ne (st : ASt) (s : Nat) (ms : List Mk) (k : Nat) (h : k ≠ s) : (putM st s ms).heap k = st.heap k := ASt.set_ne _ _ _ _ h
theorem putM_ctr (st : ASt) (s : Nat) (ms : List Mk) : (putM st s ms).ctr = st.ctr := rfl
theorem stM {st : ASt} {s : Nat} {ms : List Mk} (h : st.heap s = some (.cells (flatM ms))) {i : Nat} (hi : i < ms.length) (m : Mk) : storeA E.P 40 st (.ptr s (i * 2)) m.a = some (putM st s (ms.set i m)) := by
  have a0 : storeA E.P 40 st (.ptr s (i * 2)) m.a = (match st.heap s with
      | some (.cells cs) => if szOf E.P 40 = some 2 ∧ i * 2 + 2 ≤ cs.length ∧ true = true then some (st.set s (some (.cells (putL cs (i * 2) m.cs)))) else none
      | _ => none) := rfl
  rw [a0, h]
  simp only
  rw [if_pos ⟨rfl, by rw [flatM_len]; omega, trivial⟩, flatM_put _ _ hi]; rfl

/-! ### what may come of a row between two places -/
/-- one is the other, moved about between a and b -/
def Mv (a b : Nat) (l l' : List Mk) : Prop := l'.length = l.length ∧ ∃ p q : Nat → Nat, (∀ k, p (q k) = k) ∧ (∀ k, q (p k) = k) ∧ (∀ k, k < a ∨ b ≤ k → p k = k) ∧ ∀ k, l'[k]? = l[p k]?
theorem Mv.refl (a b : Nat) (l : List Mk) : Mv a b l l := ⟨rfl, id, id, fun _ => rfl, fun _ => rfl, fun _ _ => rfl, fun _ => rfl⟩
theorem Mv.trans {a b : Nat} {l l' l'' : List Mk} (h : Mv a b l l') (h' : Mv a b l' l'') : Mv a b l l'' := by
  obtain ⟨e, p, q, h1, h2, h3, h4⟩ := h
  obtain ⟨e', p', q', h1', h2', h3', h4'⟩ := h'
  exact ⟨by rw [e', e], fun k => p (p' k), fun k => q' (q k), fun k => by show p (p' (q' (q k))) = k; rw [h1', h1], fun k => by show q' (q (p (p' k))) = k; rw [h2, h2'], fun k hk => by show p (p' k) = k; rw [h3' k hk, h3 k hk], fun k => by show l''[k]? = l[p (p' k)]?; rw [h4', h4]⟩
theorem Mv.wide {a b c d : Nat} {l l' : List Mk} (h : Mv c d l l') (h1 : a ≤ c) (h2 : d ≤ b) : Mv a b l l' := by
  obtain ⟨e, p, q, k1, k2, k3, k4⟩ := h
  exact ⟨e, p, q, k1, k2, fun k hk => k3 k (by omega), k4⟩
theorem Mv.swap {a b : Nat} {l : List Mk} {i j : Nat} (hi : a ≤ i ∧ i < b) (hj : a ≤ j ∧ j < b) (hil : i < l.length) (hjl : j < l.length) : Mv a b l ((l.set i l[j]).set j l[i]) := by
  refine ⟨by simp, fun k => if k = i then j else if k = j then i else k, fun k => if k = i then j else if k = j then i else k, ?_, ?_, ?_, ?_⟩
  · intro k; by_cases h1 : k = i <;> by_cases h2 : k = j <;> by_cases h3 : i = j <;> simp_all
  · intro k; by_cases h1 : k = i <;> by_cases h2 : k = j <;> by_cases h3 : i = j <;> simp_all
  · intro k hk
    simp only
    rw [if_neg (by omega), if_neg (by omega)]
  · intro k
    simp only
    rw [List.getElem?_set, List.getElem?_set]
    by_cases h2 : j = k
    · subst h2
      rw [if_pos rfl, if_pos (by simpa using hjl)]
      by_cases h1 : j = i
      · subst h1; simp
      · rw [if_neg h1, if_pos rfl, List.getElem?_eq_getElem hil]
    · rw [if_neg h2]
      by_cases h1 : i = k
      · subst h1; rw [if_pos rfl, if_pos rfl, if_pos hil, List.getElem?_eq_getElem hjl]
      · rw [if_neg h1, if_neg (fun h => h1 h.symm), if_neg (fun h => h2 h.symm)]
/-- what lies between, lay between -/
theorem Mv.mem {a b : Nat} {l l' : List Mk} (h : Mv a b l l') {k : Nat} (hk : a ≤ k ∧ k < b) : ∃ k', a ≤ k' ∧ k' < b ∧ l'[k]? = l[k']? := by
  obtain ⟨e, p, q, k1, k2, k3, k4⟩ := h
  refine ⟨p k, ?_, ?_, k4 k⟩
  · apply Classical.byContradiction
    intro hn
    have h1 := k3 (p k) (.inl (by omega))
    have h2 := k2 (p k)
    rw [h1, k2] at h2
    omega
  · apply Classical.byContradiction
    intro hn
    have h1 := k3 (p k) (.inr (by omega))
    have h2 := k2 (p k)
    rw [h1, k2] at h2
    omega
theorem Mv.same {a b : Nat} {l l' : List Mk} (h : Mv a b l l') {k : Nat} (hk : k < a ∨ b ≤ k) : l'[k]? = l[k]? := by
  obtain ⟨e, p, q, k1, k2, k3, k4⟩ := h
  rw [k4, k3 k hk]
theorem Mv.len {a b : Nat} {l l' : List Mk} (h : Mv a b l l') : l'.length = l.length := h.1
theorem Mv.all {a b : Nat} {l l' : List Mk} (h : Mv a b l l') (m : Mk) : m ∈ l' ↔ m ∈ l := by
  obtain ⟨e, p, q, k1, k2, k3, k4⟩ := h
  rw [List.mem_iff_getElem?, List.mem_iff_getElem?]
  constructor
  · rintro ⟨k, hk⟩; exact ⟨p k, by rw [← k4]; exact hk⟩
  · rintro ⟨k, hk⟩; exact ⟨q k, by rw [k4, k1]; exact hk⟩
/-- the key at a place -/
def ky (l : List Mk) (k : Nat) : Int := (l[k]?.getD default).ob
theorem ky_at {l : List Mk} {k : Nat} (h : k < l.length) : ky l k = l[k].ob := by unfold ky; rw [List.getElem?_eq_getElem h]; rfl
theorem Mv.ky {a b : Nat} {l l' : List Mk} (h : Mv a b l l') {k : Nat} (hk : a ≤ k ∧ k < b) : ∃ k', a ≤ k' ∧ k' < b ∧ ky l' k = ky l k' := by
  obtain ⟨k', h1, h2, h3⟩ := h.mem hk
  exact ⟨k', h1, h2, by unfold Go.Proofs.YtcaokdlmolnbaaaV.ky; rw [h3]⟩
theorem Mv.kys {a b : Nat} {l l' : List Mk} (h : Mv a b l l') {k : Nat} (hk : k < a ∨ b ≤ k) : Go.Proofs.YtcaokdlmolnbaaaV.ky l' k = Go.Proofs.YtcaokdlmolnbaaaV.ky l k := by unfold Go.Proofs.YtcaokdlmolnbaaaV.ky; rw [h.same hk]
/-- in order between a and b -/
def So (a b : Nat) (l : List Mk) : Prop := ∀ i j, a ≤ i → i < j → j < b → ky l i ≤ ky l j
end Go.Proofs.YtcaokdlmolnbaaaV
