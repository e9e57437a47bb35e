/- Where tokens stand; what is told of them, to a caller. No condition. -/
import Derived.Test.YtlpdplchcpkajaaDoorX15
namespace Go.Proofs.YtlpdplchcpkajaaDoorV
open Go Go.RowKit Go.Proofs.YtlpdplchcpkajaaDoorA
set_option linter.unusedVariables false
set_option linter.unusedSimpArgs false
set_option maxRecDepth 100000

def endK (n : Nat) : Tk := ⟨0, [], 0, 0, n⟩
/-- a token where it may stand -/
def Good (l : List UInt8) (t : Tk) (nx : Nat) (last : Bool) : Prop := nx ≤ t.pos ∧ t.pos ≤ l.length ∧ t.text <+: l.drop t.pos ∧ (t.kind = 0 ↔ last = true) ∧ (t.text = [] ↔ t.kind = 0)
def Plc (l : List UInt8) : Nat → List Tk → Prop
  | _, [] => True
  | nx, t :: r => Good l t nx r.isEmpty ∧ Plc l (t.pos + t.text.length) r
theorem Good.mono {l : List UInt8} {t : Tk} {nx nx' : Nat} {b : Bool} (h : Good l t nx b) (hn : nx' ≤ nx) : Good l t nx' b := ⟨Nat.le_trans hn h.1, h.2⟩
theorem Plc.mono {l : List UInt8} {nx nx' : Nat} {ts : List Tk} (h : Plc l nx ts) (hn : nx' ≤ nx) : Plc l nx' ts := by
  cases ts with
  | nil => trivial
  | cons t r => exact ⟨h.1.mono hn, h.2⟩
theorem tokL_kind {b : UInt8} {r : List UInt8} {k n x y : Nat} (h : tokL b r = .ok (k, n, x, y)) : k ≠ 0 := by
  unfold tokL at h
  repeat' split at h
  all_goals first | (cases h; done) | (cases h; decide)
theorem tokL_code {b : UInt8} {r : List UInt8} {e : Nat} (h : tokL b r = .error e) : e = 1 ∨ e = 6 := by
  unfold tokL at h
  repeat' split at h
  all_goals first | (cases h; done) | (cases h; simp)
/-- a text's tokens, by how it begins -/
theorem lexL_ind {P : Nat → List UInt8 → Except (Nat × Nat) (List Tk) → Prop} (h0 : ∀ pos, P pos [] (.ok []))
    (hb : ∀ pos c r, blankc c = true → P (pos + 1) r (lexL (pos + 1) r) → P pos (c :: r) (lexL (pos + 1) r))
    (hn : ∀ pos r, r.head? = some 47 → P (pos + 1 + (r.takeWhile (· ≠ 10)).length) (r.dropWhile (· ≠ 10)) (lexL (pos + 1 + (r.takeWhile (· ≠ 10)).length) (r.dropWhile (· ≠ 10))) → P pos (47 :: r) (lexL (pos + 1 + (r.takeWhile (· ≠ 10)).length) (r.dropWhile (· ≠ 10))))
    (he : ∀ pos c r e, blankc c = false → ¬ (c = 47 ∧ r.head? = some 47) → tokL c r = .error e → P pos (c :: r) (.error (pos, e)))
    (ht : ∀ pos c r k n x y, blankc c = false → ¬ (c = 47 ∧ r.head? = some 47) → tokL c r = .ok (k, n, x, y) → P (pos + 1 + n) (r.drop n) (lexL (pos + 1 + n) (r.drop n)) → P pos (c :: r) (putR [⟨k, c :: r.take n, x, y, pos⟩] (lexL (pos + 1 + n) (r.drop n)))) :
    ∀ (m : Nat) (l : List UInt8) (pos : Nat), l.length ≤ m → P pos l (lexL pos l) := by
  intro m
  induction m with
  | zero =>
    intro l pos hl
    obtain rfl := List.length_eq_zero_iff.1 (Nat.le_zero.1 hl)
    rw [lexL_nil]
    exact h0 pos
  | succ m ih =>
    intro l pos hl
    match l, hl with
    | [], _ => rw [lexL_nil]; exact h0 pos
    | c :: r, hl =>
      rw [List.length_cons] at hl
      cases hc : blankc c with
      | true => rw [lexL_blank hc]; exact hb pos c r hc (ih r _ (by omega))
      | false =>
        by_cases hnn : c = 47 ∧ r.head? = some 47
        · obtain ⟨rfl, hh⟩ := hnn
          rw [lexL_note hh]
          have h1 := (List.dropWhile_suffix (l := r) (fun b => decide (b ≠ (10 : UInt8)))).length_le
          exact hn pos r hh (ih _ _ (Nat.le_trans h1 (by omega)))
        · cases ht' : tokL c r with
          | error e => rw [lexL_tok hc hnn, ht']; exact he pos c r e hc hnn ht'
          | ok q =>
            obtain ⟨k, n, x, y⟩ := q
            have e : lexL pos (c :: r) = putR [⟨k, c :: r.take n, x, y, pos⟩] (lexL (pos + 1 + n) (r.drop n)) := by
              rw [lexL_tok hc hnn, ht']
              simp only
              cases lexL (pos + 1 + n) (r.drop n) <;> rfl
            rw [e]
            exact ht pos c r k n x y hc hnn ht' (ih _ _ (by rw [List.length_drop]; omega))
theorem lexL_all {P : Nat → List UInt8 → Except (Nat × Nat) (List Tk) → Prop} (h0 : ∀ pos, P pos [] (.ok []))
    (hb : ∀ pos c r, blankc c = true → P (pos + 1) r (lexL (pos + 1) r) → P pos (c :: r) (lexL (pos + 1) r))
    (hn : ∀ pos r, r.head? = some 47 → P (pos + 1 + (r.takeWhile (· ≠ 10)).length) (r.dropWhile (· ≠ 10)) (lexL (pos + 1 + (r.takeWhile (· ≠ 10)).length) (r.dropWhile (· ≠ 10))) → P pos (47 :: r) (lexL (pos + 1 + (r.takeWhile (· ≠ 10)).length) (r.dropWhile (· ≠ 10))))
    (he : ∀ pos c r e, blankc c = false → ¬ (c = 47 ∧ r.head? = some 47) → tokL c r = .error e → P pos (c :: r) (.error (pos, e)))
    (ht : ∀ pos c r k n x y, blankc c = false → ¬ (c = 47 ∧ r.head? = some 47) → tokL c r = .ok (k, n, x, y) → P (pos + 1 + n) (r.drop n) (lexL (pos + 1 + n) (r.drop n)) → P pos (c :: r) (putR [⟨k, c :: r.take n, x, y, pos⟩] (lexL (pos + 1 + n) (r.drop n)))) (pos : Nat) (l : List UInt8) :
    P pos l (lexL pos l) := lexL_ind h0 hb hn he ht l.length l pos (Nat.le_refl _)
theorem lexL_err {pos : Nat} {l : List UInt8} {p e : Nat} (h : lexL pos l = .error (p, e)) : pos ≤ p ∧ p < pos + l.length ∧ (e = 1 ∨ e = 6) := by
  have key := lexL_all (P := fun pos l res => ∀ p e, res = .error (p, e) → pos ≤ p ∧ p < pos + l.length ∧ (e = 1 ∨ e = 6)) (fun pos p e h => by cases h)
    (fun pos c r _ ih p e h => by have := ih p e h; rw [List.length_cons]; omega)
    (fun pos r _ ih p e h => by
      have h1 := ih p e h
      have h2 : (r.takeWhile (fun b => decide (b ≠ (10 : UInt8)))).length + (r.dropWhile (fun b => decide (b ≠ (10 : UInt8)))).length = r.length := by rw [← List.length_append, List.takeWhile_append_dropWhile]
      rw [List.length_cons]
      omega)
    (fun pos c r e' _ _ ht p e h => by cases h; exact ⟨Nat.le_refl _, by simp, tokL_code ht⟩)
    (fun pos c r k n x y _ _ ht ih p e h => by
      cases hq : lexL (pos + 1 + n) (r.drop n) with
      | ok ts => rw [hq] at h; cases h
      | error q =>
        rw [hq] at h
        have h1 := ih p e (by rw [hq]; exact h)
        have h2 := tokL_len ht
        rw [List.length_drop] at h1
        rw [List.length_cons]
        omega) pos l
  exact key p e h
theorem lexL_plc {l : List UInt8} {ts : List Tk} (h : lexL 0 l = .ok ts) : Plc l 0 (ts ++ [endK l.length]) := by
  have key := lexL_all (P := fun pos r res => pos ≤ l.length → l.drop pos = r → ∀ ts, res = .ok ts → Plc l pos (ts ++ [endK l.length])) (fun pos hp hr ts h => by
      cases h
      exact ⟨⟨hp, Nat.le_refl _, List.nil_prefix, ⟨fun _ => rfl, fun _ => rfl⟩, ⟨fun _ => rfl, fun _ => rfl⟩⟩, trivial⟩)
    (fun pos c r _ ih hp hr ts h => (ih (drop_at hr).2.1 (drop_at hr).2.2 ts h).mono (by omega))
    (fun pos r _ ih hp hr ts h => by
      have h1 := (drop_at hr).2.2
      have h2 := tw_drop (p := fun b => decide (b ≠ (10 : UInt8))) (l := l) (j := pos + 1)
      have h3 := tw_le (p := fun b => decide (b ≠ (10 : UInt8))) (l := l) (j := pos + 1) (drop_at hr).2.1
      rw [h1] at h2 h3
      exact (ih h3 h2 ts h).mono (by omega))
    (fun pos c r e' _ _ ht hp hr ts h => by cases h)
    (fun pos c r k n x y _ _ ht ih hp hr ts h => by
      have h1 := (drop_at hr).2.2
      have h4 : (l.drop pos).length = (c :: r).length := by rw [hr]
      rw [List.length_drop, List.length_cons] at h4
      have h2 := tokL_len ht
      have h3 := ih (by omega) (by rw [← List.drop_drop, h1])
      cases hq : lexL (pos + 1 + n) (r.drop n) with
      | error q => rw [hq] at h; cases h
      | ok ts' =>
        rw [hq] at h
        cases h
        have h5 := h3 ts' hq
        have hlen : (c :: r.take n).length = 1 + n := by simp; omega
        refine ⟨⟨Nat.le_refl _, hp, ?_, ⟨fun h => absurd h (tokL_kind ht), fun h => by simp at h⟩, ⟨fun h => (by cases h), fun h => absurd h (tokL_kind ht)⟩⟩, ?_⟩
        · rw [hr]
          exact List.prefix_cons_inj c |>.2 (List.take_prefix n r)
        · show Plc l (pos + (c :: r.take n).length) _
          rw [hlen, ← Nat.add_assoc]
          exact h5) 0 l
  exact key (Nat.zero_le _) rfl ts h
theorem lexL_len {pos : Nat} {l : List UInt8} {ts : List Tk} (h : lexL pos l = .ok ts) : ts.length ≤ l.length := by
  have key := lexL_all (P := fun pos l res => ∀ ts, res = .ok ts → ts.length ≤ l.length) (fun pos ts h => by cases h; exact Nat.le_refl _)
    (fun pos c r _ ih ts h => by have := ih ts h; rw [List.length_cons]; omega)
    (fun pos r _ ih ts h => by
      have h1 := ih ts h
      have h2 := (List.dropWhile_suffix (l := r) (fun b => decide (b ≠ (10 : UInt8)))).length_le
      rw [List.length_cons]
      omega)
    (fun pos c r e' _ _ ht ts h => by cases h)
    (fun pos c r k n x y _ _ ht ih ts h => by
      cases hq : lexL (pos + 1 + n) (r.drop n) with
      | ok ts' =>
        rw [hq] at h
        cases h
        have h1 := ih ts' hq
        rw [List.length_drop] at h1
        simp
        omega
      | error q => rw [hq] at h; cases h) pos l
  exact key ts h
/-- what is told of a text's tokens, the end among them -/
theorem split_told {l : List UInt8} {st : ASt} (hl : l.length ≤ 16384) : (∃ ts v st', lexL 0 l = .ok ts ∧ rw E 25 [str l] st = some (.returned (.tuple [v, .lit (.int .i64 0), .lit (.int .i64 0)]), st') ∧ Gr st st' ∧ AI 4 st st' v ((ts ++ [endK l.length]).map Tk.a)) ∨
    ∃ p e st', lexL 0 l = .error (p, e) ∧ rw E 25 [str l] st = some (.returned (.tuple [.lit (.slice none 0 0), .lit (.int .i64 (p : Int)), .lit (.int .i64 (e : Int))]), st') ∧ Gr st st' := by
  obtain ⟨r, st', h1, hg, h2⟩ := split_rw (st := st) hl
  cases hq : lexL 0 l with
  | ok ts =>
    rw [hq] at h2
    obtain ⟨v, rfl, hA⟩ := h2
    exact .inl ⟨ts, v, st', rfl, h1, hg, by rw [List.map_append]; exact hA⟩
  | error q =>
    obtain ⟨p, e⟩ := q
    rw [hq] at h2
    have h3 : r = _ := h2
    rw [h3] at h1
    exact .inr ⟨p, e, st', rfl, h1, hg⟩
end Go.Proofs.YtlpdplchcpkajaaDoorV
