/- Event's laws: arguments, Awake, plain laws. No condition. -/
import Derived.Test.YtcaokdlmolnbaaaQ23
import Derived.Test.YtcaokdlmolnbaaaDV
namespace Go.Proofs.YtcaokdlmolnbaaaV
open Go Go.RowKit Go.Proofs.YtcaokdlmolnbaaaA
set_option linter.unusedVariables false
set_option linter.unusedSimpArgs false
set_option maxRecDepth 100000

/-! ### arguments -/
theorem touch_one {n : Nat} {r : List AVal} (h : Dat E.P (n + 2) 26 r) : ∃ m : Mk, r = m.ts ∧ -128 ≤ m.ob ∧ m.ob ≤ 127 := by
  obtain ⟨x, y, rfl, h1, h2⟩ := dv_two (n := n + 1) (t0 := 24) (t1 := 4) ⟨_, _, rfl, rfl, rfl, rfl, rfl⟩ (by kernel_rfl) (by kernel_rfl) (by kernel_rfl) h
  obtain ⟨i, e1, h3, h4⟩ := dv_int0 (k := .i8) rfl h1
  obtain ⟨b, e2⟩ := dv_bool0 rfl h2
  cases e1; cases e2
  exact ⟨⟨i, b⟩, rfl, h3, h4⟩
theorem touch_rows {n : Nat} : ∀ rows : List (List AVal), (∀ r ∈ rows, Dat E.P (n + 2) 26 r) → ∃ l : List Mk, rows.map (ofRow E.P 26) = l.map Mk.t ∧ Sb l
  | [], _ => ⟨[], rfl, fun m h => by cases h⟩
  | r :: rows, h => by
    obtain ⟨m, rfl, h1, h2⟩ := touch_one (h r (List.mem_cons_self ..))
    obtain ⟨l, e, hb⟩ := touch_rows rows fun r hr => h r (List.mem_cons_of_mem _ hr)
    refine ⟨m :: l, ?_, fun x hx => ?_⟩
    · rw [List.map_cons, List.map_cons, e]; rfl
    · rcases List.mem_cons.1 hx with rfl | hx
      · exact ⟨h1, h2⟩
      · exact hb x hx
theorem touch_dat {n : Nat} {cells : List AVal} (h : Dat E.P (n + 3) 22 cells) : ∃ v l, cells = [v] ∧ TS v l ∧ Sb l ∧ v.isCell = true := by
  have hu : E.P.underlying 22 = some (.slice 26) := rfl
  unfold Dat at h
  rw [hu] at h
  rcases h with ⟨a, rfl⟩ | ⟨rows, rfl, _, hr⟩
  · exact ⟨_, [], rfl, .inl ⟨a, rfl, rfl⟩, (fun m h => by cases h), rfl⟩
  · obtain ⟨l, e, hb⟩ := touch_rows rows fun r hr' => (hr r hr').2.2
    refine ⟨_, l, rfl, .inr ⟨.unk, ?_⟩, hb, rfl⟩
    rw [e]
    have : E.P.cellsOf 26 = 2 := by kernel_rfl
    rw [this]
theorem touch_of {n : Nat} {v : AVal} (h : DatV E.P (n + 3) 22 v) : ∃ l, TS v l ∧ Sb l := by
  obtain ⟨cells, h1, _, rfl⟩ := h
  obtain ⟨v, l, rfl, h2, h3, _⟩ := touch_dat h1
  exact ⟨l, by rw [dv_one (by unfold rowB; rfl)]; exact h2, h3⟩

/-! ### Awake -/
theorem awake_k0 : (run E 20 12 [] st0).map Prod.fst = some (.returned (.lit (.bool true))) := by kernel_rfl
theorem awake0 : ∃ st1, rw E 12 [] st0 = some (.returned (.lit (.bool true)), st1) := by
  have h := awake_k0
  cases hr : run E 20 12 [] st0 with
  | none => rw [hr] at h; cases h
  | some r =>
    rw [hr] at h
    obtain ⟨r1, r2⟩ := r
    obtain rfl : r1 = _ := Option.some.inj h
    exact ⟨r2, rw_of hr⟩

/-! ### what Clone made, and more -/
theorem tapp {st : ASt} {v x : AVal} {l n : List Mk} {base : ASt} (hv : (l = [] ∧ (v = .nilSlice ∨ v = .islice 2 [] .exact)) ∨ (l ≠ [] ∧ AI 2 base st v (l.map Mk.t))) (hb : Gr base st) (hx : TS x n) (hl : l.length + n.length ≤ 1000) :
    ∃ v' st', appendA E.P false 22 22 v x st = some (v', st') ∧ TS v' (l ++ n) ∧ Gr base st' := by
  by_cases hn : n = []
  · subst hn
    rw [List.append_nil]
    rcases hv with ⟨rfl, rfl | rfl⟩ | ⟨hne, ⟨_, h⟩ | ⟨k, rfl, _⟩⟩
    · exact ⟨_, _, app_none touchT (src_ts hx st) (.inl rfl), .inl ⟨none, rfl, rfl⟩, hb⟩
    · exact ⟨_, _, app_none touchT (src_ts hx st) (.inr ⟨[], .exact, rfl⟩), .inr ⟨.exact, rfl⟩, hb⟩
    · exact absurd (List.map_eq_nil_iff.1 h) hne
    · exact ⟨_, _, app_none touchT (src_ts hx st) (.inr ⟨_, _, rfl⟩), .inr ⟨_, rfl⟩, hb⟩
  · rcases hv with ⟨rfl, rfl | rfl⟩ | ⟨hne, hA⟩
    · exact ⟨_, _, app_nil touchT (src_ts hx st) (by simpa using hn) (by simp; simp at hl; omega), .inr ⟨_, rfl⟩, hb.trans (Gr.new _ _)⟩
    · exact ⟨_, _, app_exact touchT (es := []) rfl (src_ts hx st) (by simpa using hn) (by simp; simp at hl; omega), .inr ⟨_, rfl⟩, hb.trans (Gr.new _ _)⟩
    · obtain ⟨v', st', c, hA', hg⟩ := ai_app touchT hA hb (touches_ok l) (src_ts hx st) (by simpa using hn) (by simp; omega)
      refine ⟨v', st', c, ?_, hg⟩
      rw [← List.map_append] at hA'
      rcases hA' with ⟨_, h⟩ | ⟨k, rfl, _⟩
      · exact absurd (List.map_eq_nil_iff.1 h) (by simp [hn])
      · exact .inr ⟨_, rfl⟩

/-! ### plain laws -/
theorem hit_eq (x : Mk) (b : List Mk) : hit x b = (tou b x.ob && (x.wr || wri b x.ob)) := by
  induction b with
  | nil => simp [hit, tou]
  | cons y b ih =>
    have e1 : hit x (y :: b) = ((x.ob == y.ob && (x.wr || y.wr)) || hit x b) := by simp [hit]
    have e2 : tou (y :: b) x.ob = ((y.ob == x.ob) || tou b x.ob) := by simp [tou]
    have e3 : wri (y :: b) x.ob = ((y.ob == x.ob && y.wr) || wri b x.ob) := by simp [wri]
    rw [e1, e2, e3, ih]
    have e4 : (x.ob == y.ob) = (y.ob == x.ob) := Bool.beq_comm
    rw [e4]
    have hw : wri b x.ob = true → tou b x.ob = true := wri_tou
    cases hy : (y.ob == x.ob) <;> cases ht : tou b x.ob <;> cases hx : x.wr <;> cases hq : y.wr <;> cases hb : wri b x.ob <;> simp_all
theorem sb_tou {l : List Mk} (h : Sb l) {o : Int} (ht : tou l o = true) : -128 ≤ o ∧ o ≤ 127 := by
  unfold tou at ht
  rw [List.any_eq_true] at ht
  obtain ⟨m, h1, h2⟩ := ht
  have := h m h1
  rw [eq_of_beq h2] at this
  exact this
/-- the law's own list of what is wanted, up to an object -/
def wantF (l : List Mk) : Nat → List Mk
  | 0 => []
  | t + 1 => wantF l t ++ if tou l ((t : Int) - 128) = true then [⟨(t : Int) - 128, wri l ((t : Int) - 128)⟩] else []
theorem want_mem (l : List Mk) (x : Mk) : ∀ t, x ∈ wantF l t ↔ (-128 ≤ x.ob ∧ x.ob < (t : Int) - 128 ∧ tou l x.ob = true ∧ x.wr = wri l x.ob)
  | 0 => by simp only [wantF, List.not_mem_nil, false_iff]; omega
  | t + 1 => by
    rw [wantF, List.mem_append, want_mem l x t]
    constructor
    · rintro (⟨h1, h2, h3⟩ | h)
      · exact ⟨h1, by omega, h3⟩
      · split at h
        · rename_i ht
          rw [List.mem_singleton] at h
          subst h
          exact ⟨by show -128 ≤ (t : Int) - 128; omega, by show (t : Int) - 128 < ((t + 1 : Nat) : Int) - 128; omega, ht, rfl⟩
        · cases h
    · rintro ⟨h1, h2, h3, h4⟩
      by_cases e : x.ob = (t : Int) - 128
      · right
        rw [← e, if_pos h3, List.mem_singleton]
        cases x; simp only at h4 ⊢; rw [h4]
      · left
        exact ⟨h1, by omega, h3, h4⟩
theorem want_inc (l : List Mk) : ∀ t i j, i < j → j < (wantF l t).length → ky (wantF l t) i < ky (wantF l t) j
  | 0, i, j, h1, h2 => absurd h2 (Nat.not_lt_zero _)
  | t + 1, i, j, h1, h2 => by
    have ih := want_inc l t
    rw [wantF] at h2 ⊢
    split at h2
    · rename_i ht
      rw [if_pos ht]
      rw [List.length_append, List.length_singleton] at h2
      by_cases e : j = (wantF l t).length
      · subst e
        rw [ky_app_r, ky_app_l (by omega), ky_at (by omega)]
        exact ((want_mem l _ t).1 (List.getElem_mem (by omega))).2.1
      · rw [ky_app_l (by omega), ky_app_l (by omega)]
        exact ih i j h1 (by omega)
    · rename_i ht
      rw [if_neg ht, List.append_nil]
      rw [List.append_nil] at h2
      exact ih i j h1 h2
theorem want_nm {l r : List Mk} (h : Nm l r) (hb : Sb l) : r = wantF l 256 :=
  inc_eq (fun i j a b => h.lt a b) (want_inc l 256) fun x => by
    rw [h.1.2, want_mem]
    constructor
    · rintro ⟨h1, h2⟩
      have := sb_tou hb h1
      exact ⟨by omega, by omega, h1, h2⟩
    · rintro ⟨_, _, h1, h2⟩
      exact ⟨h1, h2⟩
/-- are they alike, up to an object? -/
def sameF (w : Bool) (a b : List Mk) : Nat → Bool
  | 0 => w
  | t + 1 => sameF w a b t && (tou a ((t : Int) - 128) == tou b ((t : Int) - 128)) && (wri b ((t : Int) - 128) == wri a ((t : Int) - 128))
theorem sameF_iff (w : Bool) (a b : List Mk) : ∀ t, sameF w a b t = true ↔ (w = true ∧ ∀ o : Int, -128 ≤ o → o < (t : Int) - 128 → tou a o = tou b o ∧ wri a o = wri b o)
  | 0 => by
    rw [sameF]
    exact ⟨fun h => ⟨h, fun o h1 h2 => by omega⟩, fun h => h.1⟩
  | t + 1 => by
    rw [sameF, Bool.and_eq_true, Bool.and_eq_true, sameF_iff w a b t, beq_iff_eq, beq_iff_eq]
    constructor
    · rintro ⟨⟨⟨h1, h2⟩, h3⟩, h4⟩
      refine ⟨h1, fun o k1 k2 => ?_⟩
      by_cases e : o = (t : Int) - 128
      · rw [e]; exact ⟨h3, h4.symm⟩
      · exact h2 o k1 (by omega)
    · rintro ⟨h1, h2⟩
      have := h2 ((t : Int) - 128) (by omega) (by omega)
      exact ⟨⟨⟨h1, fun o k1 k2 => h2 o k1 (by omega)⟩, this.1⟩, this.2.symm⟩
theorem same_nm {a b r s : List Mk} (ha : Nm a r) (hb : Nm b s) (sa : Sb a) (sb : Sb b) (t u : Int) : decide (t = u ∧ r = s) = sameF (decide (t = u)) a b 256 := by
  rw [Bool.eq_iff_iff, decide_eq_true_iff, sameF_iff, decide_eq_true_iff, nm_iff ha hb]
  constructor
  · rintro ⟨h1, h2⟩
    exact ⟨h1, fun o _ _ => h2 o⟩
  · rintro ⟨h1, h2⟩
    refine ⟨h1, fun o => ?_⟩
    by_cases ho : -128 ≤ o ∧ o < 128
    · exact h2 o ho.1 (by omega)
    · have f : ∀ {l : List Mk}, Sb l → tou l o = false ∧ wri l o = false := fun {l} hl => by
        have h1 : tou l o = false := by
          cases e : tou l o with
          | false => rfl
          | true => have := sb_tou hl e; omega
        refine ⟨h1, ?_⟩
        cases e : wri l o with
        | false => rfl
        | true => rw [wri_tou e] at h1; cases h1
      rw [(f sa).1, (f sb).1, (f sa).2, (f sb).2]
      exact ⟨rfl, rfl⟩
theorem heap_new_at {st : ASt} {b : Blk} {k : Nat} (h : k = st.ctr) : (st.new b).heap k = some b := by rw [h]; exact ASt.new_same _ _
end Go.Proofs.YtcaokdlmolnbaaaV
