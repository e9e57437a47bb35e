/- What an event's marks are, as plain lists: plain laws. No condition. -/
import Derived.Test.YtcaokdlmolnbaaaJ18
namespace Go.Proofs.YtcaokdlmolnbaaaV
open Go Go.RowKit Go.Proofs.YtcaokdlmolnbaaaA
set_option linter.unusedVariables false
set_option linter.unusedSimpArgs false

/-- is an object among the marks; is it written? -/
def tou (l : List Mk) (o : Int) : Bool := l.any fun m => m.ob == o
def wri (l : List Mk) (o : Int) : Bool := l.any fun m => m.ob == o && m.wr
theorem tou_app (a b : List Mk) (o : Int) : tou (a ++ b) o = (tou a o || tou b o) := by unfold tou; rw [List.any_append]
theorem wri_app (a b : List Mk) (o : Int) : wri (a ++ b) o = (wri a o || wri b o) := by unfold wri; rw [List.any_append]
theorem tou_of {l : List Mk} {m : Mk} (h : m ∈ l) : tou l m.ob = true := by
  unfold tou; rw [List.any_eq_true]; exact ⟨m, h, by simp⟩
theorem wri_tou {l : List Mk} {o : Int} (h : wri l o = true) : tou l o = true := by
  unfold wri at h; unfold tou
  rw [List.any_eq_true] at h ⊢
  obtain ⟨m, h1, h2⟩ := h
  exact ⟨m, h1, by simp at h2 ⊢; exact h2.1⟩
/-- keys all unlike; a mark is in r just if its object is in l, and it is written just if l writes it -/
def Nn (l r : List Mk) : Prop := Un 0 r.length r ∧ ∀ x : Mk, x ∈ r ↔ (tou l x.ob = true ∧ x.wr = wri l x.ob)
theorem mem_ky {r : List Mk} {x : Mk} (h : x ∈ r) : ∃ k, k < r.length ∧ ky r k = x.ob ∧ r[k]? = some x := by
  obtain ⟨k, hk, rfl⟩ := List.mem_iff_getElem.1 h
  exact ⟨k, hk, ky_at hk, List.getElem?_eq_getElem hk⟩
theorem nn_nil : Nn [] [] := ⟨fun p q h1 h2 => absurd h2 (Nat.not_lt_zero _), fun x => ⟨fun h => (by cases h), fun h => by cases h.1⟩⟩
theorem un_eq {r : List Mk} (h : Un 0 r.length r) {x y : Mk} (hx : x ∈ r) (hy : y ∈ r) (he : x.ob = y.ob) : x = y := by
  obtain ⟨i, hi, k1, e1⟩ := mem_ky hx
  obtain ⟨j, hj, k2, e2⟩ := mem_ky hy
  by_cases e : i = j
  · subst e; rw [e1] at e2; exact Option.some.inj e2
  · exact absurd (by rw [k1, k2, he]) (h i j (Nat.zero_le _) hi (Nat.zero_le _) hj e)
theorem ky_app_l {r : List Mk} {m : Mk} {k : Nat} (h : k < r.length) : ky (r ++ [m]) k = ky r k := by unfold ky; rw [List.getElem?_append_left h]
theorem ky_app_r {r : List Mk} {m : Mk} : ky (r ++ [m]) r.length = m.ob := by unfold ky; rw [List.getElem?_append_right (Nat.le_refl _), Nat.sub_self]; rfl
theorem nn_add {l r : List Mk} {m : Mk} (h : Nn l r) (hn : ∀ k, k < r.length → ky r k ≠ m.ob) : Nn (l ++ [m]) (r ++ [m]) := by
  have hno : ∀ x ∈ r, x.ob ≠ m.ob := fun x hx e => by
    obtain ⟨k, hk, k1, _⟩ := mem_ky hx
    exact hn k hk (by rw [k1, e])
  have h0 : tou l m.ob = false := by
    cases ht : tou l m.ob with
    | false => rfl
    | true => exact absurd rfl (hno ⟨m.ob, wri l m.ob⟩ ((h.2 ⟨m.ob, wri l m.ob⟩).2 ⟨ht, rfl⟩))
  have h1 : wri l m.ob = false := by
    cases ht : wri l m.ob with
    | false => rfl
    | true => rw [wri_tou ht] at h0; cases h0
  refine ⟨fun p q _ hp _ hq hne => ?_, fun x => ?_⟩
  · rw [List.length_append, List.length_singleton] at hp hq
    by_cases ep : p = r.length
    · subst ep
      rw [ky_app_r, ky_app_l (by omega)]
      exact fun e => hn q (by omega) e.symm
    · by_cases eq : q = r.length
      · subst eq
        rw [ky_app_r, ky_app_l (by omega)]
        exact hn p (by omega)
      · rw [ky_app_l (by omega), ky_app_l (by omega)]
        exact h.1 p q (Nat.zero_le _) (by omega) (Nat.zero_le _) (by omega) hne
  · rw [List.mem_append, List.mem_singleton, h.2 x, tou_app, wri_app]
    have t1 : tou [m] x.ob = (m.ob == x.ob) := by simp [tou]
    have w1 : wri [m] x.ob = (m.ob == x.ob && m.wr) := by simp [wri]
    rw [t1, w1]
    by_cases e : m.ob = x.ob
    · rw [← e, h0, h1]
      simp only [Bool.false_eq_true, false_and, false_or, beq_self_eq_true, Bool.or_true, Bool.true_and, Bool.false_or, true_and]
      refine ⟨fun h => by rw [h], fun h => ?_⟩
      cases x; cases m; simp only at e h; rw [e, h]
    · have e' : (m.ob == x.ob) = false := beq_eq_false_iff_ne.2 e
      rw [e', Bool.or_false, Bool.false_and, Bool.or_false]
      refine ⟨fun h => h.resolve_right (fun h => e (by rw [h])), .inl⟩
theorem ky_set {r : List Mk} {i : Nat} {y : Mk} (hi : i < r.length) (hy : y.ob = ky r i) (k : Nat) : ky (r.set i y) k = ky r k := by
  unfold ky
  rw [List.getElem?_set]
  by_cases e : i = k
  · rw [if_pos e, if_pos hi, ← e]; exact hy
  · rw [if_neg e]
theorem nn_or {l r : List Mk} {m : Mk} {i : Nat} (h : Nn l r) (hi : i < r.length) (hk : ky r i = m.ob) : Nn (l ++ [m]) (r.set i ⟨r[i].ob, r[i].wr || m.wr⟩) := by
  have hio : r[i].ob = m.ob := by rw [← ky_at hi]; exact hk
  have hri := (h.2 r[i]).1 (List.getElem_mem hi)
  refine ⟨fun p q _ hp _ hq hne => ?_, fun x => ?_⟩
  · rw [List.length_set] at hp hq
    rw [ky_set hi (by rw [ky_at hi]), ky_set hi (by rw [ky_at hi])]
    exact h.1 p q (Nat.zero_le _) hp (Nat.zero_le _) hq hne
  · have hm : x ∈ r.set i ⟨r[i].ob, r[i].wr || m.wr⟩ ↔ (x = ⟨m.ob, r[i].wr || m.wr⟩ ∨ (x ∈ r ∧ x.ob ≠ m.ob)) := by
      rw [List.mem_iff_getElem?]
      constructor
      · rintro ⟨k, hk2⟩
        rw [List.getElem?_set] at hk2
        by_cases e : i = k
        · rw [if_pos e, if_pos hi] at hk2
          left; rw [← hio]; exact (Option.some.inj hk2).symm
        · rw [if_neg e] at hk2
          obtain ⟨hkl, e3⟩ := List.getElem?_eq_some_iff.1 hk2
          right
          refine ⟨by rw [← e3]; exact List.getElem_mem hkl, fun e2 => ?_⟩
          refine h.1 i k (Nat.zero_le _) hi (Nat.zero_le _) hkl e ?_
          rw [hk, ky_at hkl, e3, e2]
      · rintro (rfl | ⟨hx, hne⟩)
        · exact ⟨i, by rw [List.getElem?_set, if_pos rfl, if_pos hi, hio]⟩
        · obtain ⟨k, hkl, k1, e1⟩ := mem_ky hx
          refine ⟨k, ?_⟩
          rw [List.getElem?_set, if_neg (fun e => hne ?_), e1]
          rw [← k1, ← e, hk]
    rw [hm, tou_app, wri_app, h.2 x]
    have t1 : tou [m] x.ob = (m.ob == x.ob) := by simp [tou]
    have w1 : wri [m] x.ob = (m.ob == x.ob && m.wr) := by simp [wri]
    rw [t1, w1]
    by_cases e : m.ob = x.ob
    · rw [hio, e] at hri
      rw [e, beq_self_eq_true, Bool.or_true, Bool.true_and, hri.2]
      refine ⟨fun h => ⟨rfl, ?_⟩, fun h => .inl ?_⟩
      · rcases h with h | ⟨_, h⟩
        · rw [h]
        · exact absurd rfl h
      · cases x; simp only at h ⊢; rw [h.2]
    · have e' : (m.ob == x.ob) = false := beq_eq_false_iff_ne.2 e
      rw [e', Bool.or_false, Bool.false_and, Bool.or_false]
      refine ⟨fun h => ?_, fun h => .inr ⟨h, fun e2 => e e2.symm⟩⟩
      rcases h with h | ⟨h, _⟩
      · exact absurd (by rw [h]) e
      · exact h
theorem mv_mem {a b : Nat} {r r' : List Mk} (h : Mv a b r r') (x : Mk) : x ∈ r' ↔ x ∈ r := h.all x
theorem Nn.mv {l r r' : List Mk} (h : Nn l r) (hM : Mv 0 r.length r r') : Nn l r' :=
  ⟨by rw [hM.len]; exact h.1.mv hM, fun x => by rw [hM.all]; exact h.2 x⟩
/-- an event's marks: each object once, in order -/
def Nm (l r : List Mk) : Prop := Nn l r ∧ So 0 r.length r
theorem Nm.lt {l r : List Mk} (h : Nm l r) {i j : Nat} (hij : i < j) (hj : j < r.length) : ky r i < ky r j := by
  have h1 := h.2 i j (Nat.zero_le _) hij hj
  have h2 := h.1.1 i j (Nat.zero_le _) (by omega) (Nat.zero_le _) hj (by omega)
  omega
/-- rows in order by their keys, with the same marks, are the same -/
theorem inc_eq : ∀ {r r' : List Mk}, (∀ i j, i < j → j < r.length → ky r i < ky r j) → (∀ i j, i < j → j < r'.length → ky r' i < ky r' j) → (∀ x, x ∈ r ↔ x ∈ r') → r = r'
  | [], [], _, _, _ => rfl
  | [], y :: s, _, _, h => absurd ((h y).2 (List.mem_cons_self ..)) (by simp)
  | x :: t, [], _, _, h => absurd ((h x).1 (List.mem_cons_self ..)) (by simp)
  | x :: t, y :: s, h1, h2, h => by
    have ks : ∀ (z : Mk) (u : List Mk) (k : Nat), ky (z :: u) (k + 1) = ky u k := fun z u k => rfl
    have lo : ∀ (z : Mk) (u : List Mk), (∀ i j, i < j → j < (z :: u).length → ky (z :: u) i < ky (z :: u) j) → ∀ w ∈ u, z.ob < w.ob := fun z u hh w hw => by
      obtain ⟨k, hk, k1, _⟩ := mem_ky hw
      have := hh 0 (k + 1) (by omega) (by simp; omega)
      rw [ks, k1] at this
      exact this
    have hxy : x = y := by
      rcases List.mem_cons.1 ((h x).1 (List.mem_cons_self ..)) with e | hx
      · exact e
      · rcases List.mem_cons.1 ((h y).2 (List.mem_cons_self ..)) with e | hy
        · exact e.symm
        · have a1 := lo y s h2 x hx
          have a2 := lo x t h1 y hy
          omega
    subst hxy
    have ht : t = s := inc_eq (fun i j hij hj => by have := h1 (i + 1) (j + 1) (by omega) (by simp; omega); rwa [ks, ks] at this)
      (fun i j hij hj => by have := h2 (i + 1) (j + 1) (by omega) (by simp; omega); rwa [ks, ks] at this)
      (fun w => by
        constructor
        · intro hw
          rcases List.mem_cons.1 ((h w).1 (List.mem_cons_of_mem _ hw)) with e | h3
          · exact absurd (lo x t h1 w hw) (by rw [e]; omega)
          · exact h3
        · intro hw
          rcases List.mem_cons.1 ((h w).2 (List.mem_cons_of_mem _ hw)) with e | h3
          · exact absurd (lo x s h2 w hw) (by rw [e]; omega)
          · exact h3)
    rw [ht]
theorem nm_eq {l l' r r' : List Mk} (h : Nm l r) (h' : Nm l' r') (ht : ∀ o, tou l o = tou l' o) (hw : ∀ o, wri l o = wri l' o) : r = r' :=
  inc_eq (fun i j a b => h.lt a b) (fun i j a b => h'.lt a b) fun x => by rw [h.1.2, h'.1.2, ht, hw]
theorem nm_tou {l r : List Mk} (h : Nm l r) (o : Int) : tou r o = tou l o := by
  rw [Bool.eq_iff_iff]
  constructor
  · intro ht
    unfold tou at ht
    rw [List.any_eq_true] at ht
    obtain ⟨m, h1, h2⟩ := ht
    rw [← eq_of_beq h2]
    exact ((h.1.2 m).1 h1).1
  · intro ht
    exact tou_of ((h.1.2 ⟨o, wri l o⟩).2 ⟨ht, rfl⟩)
theorem nm_wri {l r : List Mk} (h : Nm l r) (o : Int) : wri r o = wri l o := by
  rw [Bool.eq_iff_iff]
  constructor
  · intro ht
    unfold wri at ht
    rw [List.any_eq_true] at ht
    obtain ⟨m, h1, h2⟩ := ht
    rw [Bool.and_eq_true] at h2
    rw [← eq_of_beq h2.1, ← ((h.1.2 m).1 h1).2]
    exact h2.2
  · intro ht
    have hm := (h.1.2 ⟨o, wri l o⟩).2 ⟨wri_tou ht, rfl⟩
    unfold wri
    rw [List.any_eq_true]
    refine ⟨_, hm, ?_⟩
    simp [ht]
/-- the same events: their rows are the same just if objects and writes are -/
theorem nm_iff {l l' r r' : List Mk} (h : Nm l r) (h' : Nm l' r') : r = r' ↔ ∀ o, tou l o = tou l' o ∧ wri l o = wri l' o :=
  ⟨fun e o => ⟨by rw [← nm_tou h, ← nm_tou h', e], by rw [← nm_wri h, ← nm_wri h', e]⟩, fun e => nm_eq h h' (fun o => (e o).1) fun o => (e o).2⟩

/-- is there an object in both that one of them writes? -/
def cla (a b : List Mk) : Bool := a.any fun x => b.any fun y => x.ob == y.ob && (x.wr || y.wr)
theorem cla_iff (a b : List Mk) : cla a b = true ↔ ∃ o, tou a o = true ∧ tou b o = true ∧ (wri a o = true ∨ wri b o = true) := by
  unfold cla
  rw [List.any_eq_true]
  constructor
  · rintro ⟨x, hx, h⟩
    rw [List.any_eq_true] at h
    obtain ⟨y, hy, h⟩ := h
    rw [Bool.and_eq_true, Bool.or_eq_true] at h
    obtain ⟨h1, h2⟩ := h
    have e := eq_of_beq h1
    refine ⟨x.ob, tou_of hx, by rw [e]; exact tou_of hy, ?_⟩
    rcases h2 with h2 | h2
    · left; unfold wri; rw [List.any_eq_true]; exact ⟨x, hx, by simp [h2]⟩
    · right; unfold wri; rw [List.any_eq_true]; exact ⟨y, hy, by simp [h2, e]⟩
  · rintro ⟨o, h1, h2, h3⟩
    rcases h3 with h3 | h3
    · unfold wri at h3
      rw [List.any_eq_true] at h3
      obtain ⟨x, hx, h4⟩ := h3
      rw [Bool.and_eq_true] at h4
      unfold tou at h2
      rw [List.any_eq_true] at h2
      obtain ⟨y, hy, h5⟩ := h2
      refine ⟨x, hx, ?_⟩
      rw [List.any_eq_true]
      exact ⟨y, hy, by rw [eq_of_beq h4.1, eq_of_beq h5, h4.2]; simp⟩
    · unfold wri at h3
      rw [List.any_eq_true] at h3
      obtain ⟨y, hy, h4⟩ := h3
      rw [Bool.and_eq_true] at h4
      unfold tou at h1
      rw [List.any_eq_true] at h1
      obtain ⟨x, hx, h5⟩ := h1
      refine ⟨x, hx, ?_⟩
      rw [List.any_eq_true]
      exact ⟨y, hy, by rw [eq_of_beq h4.1, eq_of_beq h5, h4.2]; simp⟩
theorem cla_congr {a a' b b' : List Mk} (h1 : ∀ o, tou a o = tou a' o) (h2 : ∀ o, wri a o = wri a' o) (h3 : ∀ o, tou b o = tou b' o) (h4 : ∀ o, wri b o = wri b' o) : cla a b = cla a' b' := by
  rw [Bool.eq_iff_iff, cla_iff, cla_iff]
  simp only [h1, h2, h3, h4]
theorem cla_comm (a b : List Mk) : cla a b = cla b a := by
  rw [Bool.eq_iff_iff, cla_iff, cla_iff]
  constructor
  · rintro ⟨o, h1, h2, h3⟩; exact ⟨o, h2, h1, h3.symm⟩
  · rintro ⟨o, h1, h2, h3⟩; exact ⟨o, h2, h1, h3.symm⟩
end Go.Proofs.YtcaokdlmolnbaaaV
