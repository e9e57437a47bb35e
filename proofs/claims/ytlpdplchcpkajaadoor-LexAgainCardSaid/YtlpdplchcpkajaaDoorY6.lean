/- Texts put together, and their tokens: plain laws. No condition. -/
import Derived.Test.YtlpdplchcpkajaaDoorY5
namespace Go.Proofs.YtlpdplchcpkajaaDoorV
open Go Go.RowKit Go.Proofs.YtlpdplchcpkajaaDoorA
set_option linter.unusedVariables false
set_option linter.unusedSimpArgs false
set_option maxRecDepth 100000

/-- what stands between -/
structure Sep (s : UInt8) : Prop where
  w : wordc s = false
  d : digc s = false
  i : s ≠ 105
  e : s ≠ 61
  n : s ≠ 47
  b : blankc s = true
theorem sep10 : Sep 10 := ⟨by decide, by decide, by decide, by decide, by decide, by decide⟩
theorem sep32 : Sep 32 := ⟨by decide, by decide, by decide, by decide, by decide, by decide⟩
theorem tw_app {p : UInt8 → Bool} {s : UInt8} (hs : p s = false) (b : List UInt8) : ∀ r : List UInt8, (r ++ s :: b).takeWhile p = r.takeWhile p
  | [] => by rw [List.nil_append, List.takeWhile_cons, hs]; rfl
  | c :: r => by
    rw [List.cons_append, List.takeWhile_cons, List.takeWhile_cons, tw_app hs b r]
theorem dw_app {p : UInt8 → Bool} {s : UInt8} (hs : p s = false) (b : List UInt8) : ∀ r : List UInt8, (r ++ s :: b).dropWhile p = r.dropWhile p ++ s :: b
  | [] => by rw [List.nil_append, List.dropWhile_cons, hs]; rfl
  | c :: r => by
    rw [List.cons_append, List.dropWhile_cons, List.dropWhile_cons, dw_app hs b r]
    split <;> rfl
theorem hd_app {s t : UInt8} (h : s ≠ t) (b r : List UInt8) : ((r ++ s :: b).head? = some t) ↔ r.head? = some t := by
  cases r with
  | nil => simp [h]
  | cons c r => simp
theorem any_app {p : UInt8 → Bool} {s : UInt8} (h : p s = false) (b r : List UInt8) : (r ++ s :: b).head?.any p = r.head?.any p := by
  cases r with
  | nil => simp [h]
  | cons c r => simp
theorem tokL_ext {s : UInt8} (hs : Sep s) (c : UInt8) (r b : List UInt8) : tokL c (r ++ s :: b) = tokL c r := by
  unfold tokL
  rw [tw_app hs.w, tw_app hs.d, dw_app hs.d]
  have h1 : ((r.dropWhile digc ++ s :: b).head? = some 105) ↔ (r.dropWhile digc).head? = some 105 := hd_app hs.i b _
  have h2 : ((r ++ s :: b).head? = some 61) ↔ r.head? = some 61 := hd_app hs.e b _
  simp only [h1, h2, any_app hs.w]
  split
  · rfl
  split
  · split
    · rename_i h105
      have h3 : ((r.dropWhile digc ++ s :: b).tail).head?.any wordc = (r.dropWhile digc).tail.head?.any wordc := by
        cases hq : r.dropWhile digc with
        | nil => rw [hq] at h105; cases h105
        | cons x y => rw [List.cons_append, List.tail_cons, List.tail_cons, any_app hs.w]
      simp only [h3]
    · rfl
  · rfl
theorem tw_self {p : UInt8 → Bool} : ∀ r : List UInt8, (r.takeWhile p).takeWhile p = r.takeWhile p
  | [] => rfl
  | c :: r => by
    rw [List.takeWhile_cons]
    by_cases h : p c = true
    · rw [if_pos h, List.takeWhile_cons, if_pos h, tw_self r]
    · rw [if_neg h]; rfl
theorem take_tw {p : UInt8 → Bool} : ∀ r : List UInt8, r.take (r.takeWhile p).length = r.takeWhile p
  | [] => rfl
  | c :: r => by
    rw [List.takeWhile_cons]
    by_cases h : p c = true
    · rw [if_pos h, List.length_cons, List.take_succ_cons, take_tw r]
    · rw [if_neg h]; rfl
theorem dw_tw {p : UInt8 → Bool} : ∀ r : List UInt8, (r.takeWhile p).dropWhile p = []
  | [] => rfl
  | c :: r => by
    rw [List.takeWhile_cons]
    by_cases h : p c = true
    · rw [if_pos h, List.dropWhile_cons, if_pos h, dw_tw r]
    · rw [if_neg h]; rfl
theorem tw_app2 {p : UInt8 → Bool} (q : List UInt8) (hq : q.takeWhile p = []) : ∀ r : List UInt8, (r.takeWhile p ++ q).takeWhile p = r.takeWhile p
  | [] => hq
  | c :: r => by
    rw [List.takeWhile_cons]
    by_cases h : p c = true
    · rw [if_pos h, List.cons_append, List.takeWhile_cons, if_pos h, tw_app2 q hq r]
    · rw [if_neg h, List.nil_append, hq]
theorem dw_app2 {p : UInt8 → Bool} (q : List UInt8) (hq : q.dropWhile p = q) : ∀ r : List UInt8, (r.takeWhile p ++ q).dropWhile p = q
  | [] => hq
  | c :: r => by
    rw [List.takeWhile_cons]
    by_cases h : p c = true
    · rw [if_pos h, List.cons_append, List.dropWhile_cons, if_pos h, dw_app2 q hq r]
    · rw [if_neg h, List.nil_append, hq]
/-- a token's own bytes are that token -/
theorem tokL_take {c : UInt8} {r : List UInt8} {k n x y : Nat} (h : tokL c r = .ok (k, n, x, y)) : tokL c (r.take n) = .ok (k, n, x, y) := by
  unfold tokL at h ⊢
  split at h
  · rename_i h1
    cases h
    rw [if_pos h1, take_tw, tw_self]
  rename_i h1
  rw [if_neg h1]
  split at h
  · rename_i h2
    rw [if_pos h2]
    split at h
    · rename_i h3
      split at h
      · cases h
      split at h
      · rename_i h5 h4
        cases h
        obtain ⟨w, hw⟩ : ∃ w, r.dropWhile digc = 105 :: w := by
          cases hq : r.dropWhile digc with
          | nil => rw [hq] at h3; cases h3
          | cons a w => rw [hq] at h3; obtain rfl : a = 105 := by simpa using h3
                        exact ⟨w, rfl⟩
        have e : r.take ((r.takeWhile digc).length + 1) = r.takeWhile digc ++ [105] := by
          have hsp : r = r.takeWhile digc ++ (105 :: w) := by rw [← hw, List.takeWhile_append_dropWhile]
          have key : ∀ d : List UInt8, r = d ++ 105 :: w → r.take (d.length + 1) = d ++ [105] := by
            rintro d rfl
            rw [List.take_append, List.take_of_length_le (by omega), Nat.add_sub_cancel_left]
            rfl
          exact key _ hsp
        rw [e, tw_app2 [105] (by decide), dw_app2 [105] (by decide)]
        simp only [List.head?_cons, if_true, List.tail_cons, List.head?_nil, Option.any_none, Bool.false_eq_true, if_false]
        rw [if_pos h4]
      · cases h
    · split at h
      · cases h
      split at h
      · rename_i h4
        cases h
        rw [take_tw, tw_self, dw_tw]
        simp only [List.head?_nil, reduceCtorEq, if_false, Option.any_none, Bool.false_eq_true]
        rw [if_pos h4]
      · cases h
  rename_i h2
  rw [if_neg h2]
  split at h
  · rename_i h3
    rw [if_pos h3]
    split at h
    · rename_i h4
      cases h
      have e : (r.take 1).head? = some 61 := by
        cases r with
        | nil => cases h4.1
        | cons a r => exact h4.1
      rw [if_pos ⟨e, h4.2⟩]
    · cases h
      rw [List.take_zero, if_neg (fun h => by cases h.1)]
  · cases h
theorem tokL_47 {r : List UInt8} {k n x y : Nat} (h : tokL 47 r = .ok (k, n, x, y)) : False := by
  unfold tokL at h
  rw [if_neg (by decide), if_neg (by decide), if_neg (by decide)] at h
  cases h
/-- a token by itself -/
def Tk.own (t : Tk) : Prop := ∃ c w, t.text = c :: w ∧ blankc c = false ∧ c ≠ 47 ∧ tokL c w = .ok (t.kind, w.length, t.re, t.im)
theorem lexL_own {pos : Nat} {l : List UInt8} {ts : List Tk} (h : lexL pos l = .ok ts) : ∀ t ∈ ts, t.own := by
  have key := lexL_all (P := fun pos l res => ∀ ts, res = .ok ts → ∀ t ∈ ts, t.own) (fun pos ts h => by cases h; intro t ht; cases ht)
    (fun pos c r _ ih => ih) (fun pos r _ ih => ih) (fun pos c r e' _ _ ht ts h => by cases h)
    (fun pos c r k n x y hb _ ht ih ts h => by
      cases hq : lexL (pos + 1 + n) (r.drop n) with
      | ok ts' =>
        rw [hq] at h
        cases h
        intro t hm
        rcases List.mem_cons.1 hm with rfl | hm
        · refine ⟨c, r.take n, rfl, hb, fun h47 => by subst h47; exact tokL_47 ht, ?_⟩
          have hn := tokL_len ht
          rw [tokL_take ht, List.length_take, Nat.min_eq_left hn]
        · exact ih ts' hq t hm
      | error q => rw [hq] at h; cases h) pos l
  exact key ts h
/-- there is no note in it -/
def NN (l : List UInt8) : Prop := ∀ i : Nat, l[i]? = some 47 → l[i + 1]? ≠ some 47
theorem NN.tail {c : UInt8} {l : List UInt8} (h : NN (c :: l)) : NN l := fun i hi => h (i + 1) hi
theorem NN.drop {l : List UInt8} (h : NN l) (n : Nat) : NN (l.drop n) := fun i hi => by
  rw [List.getElem?_drop] at hi ⊢
  exact h (n + i) hi
theorem putR_nil (x : Except (Nat × Nat) (List Tk)) : putR [] x = x := by cases x <;> rfl
theorem putR_putR (a b : List Tk) (x : Except (Nat × Nat) (List Tk)) : putR a (putR b x) = putR (a ++ b) x := by cases x <;> simp [putR]
/-- what comes behind -/
def andR (r s : Except (Nat × Nat) (List Tk)) : Except (Nat × Nat) (List Tk) := match r with
  | .ok ts => putR ts s
  | .error e => .error e
theorem andR_putR (a : List Tk) (r s : Except (Nat × Nat) (List Tk)) : andR (putR a r) s = putR a (andR r s) := by
  cases r with
  | ok ts => exact (putR_putR a ts s).symm
  | error e => rfl
theorem lexL_app {s : UInt8} (hs : Sep s) (b : List UInt8) (pos : Nat) (l : List UInt8) (hn : s = 10 ∨ NN l) : lexL pos (l ++ s :: b) = andR (lexL pos l) (lexL (pos + l.length + 1) b) := by
  have key := lexL_all (P := fun pos l res => (s = 10 ∨ NN l) → lexL pos (l ++ s :: b) = andR res (lexL (pos + l.length + 1) b))
    (fun pos _ => by rw [List.nil_append, lexL_blank hs.b]; exact (putR_nil _).symm)
    (fun pos c r hc ih hn => by
      rw [List.cons_append, lexL_blank hc, ih (hn.imp id NN.tail), List.length_cons]
      rw [show pos + 1 + r.length + 1 = pos + (r.length + 1) + 1 by omega])
    (fun pos r hh ih hn => by
      rcases hn with rfl | hn
      · have hh' : (r ++ 10 :: b).head? = some 47 := (hd_app (by decide) b r).2 hh
        rw [List.cons_append, lexL_note hh']
        have e1 : (r ++ 10 :: b).takeWhile (fun b => decide (b ≠ (10 : UInt8))) = r.takeWhile (fun b => decide (b ≠ (10 : UInt8))) := tw_app (by decide) b r
        have e2 : (r ++ 10 :: b).dropWhile (fun b => decide (b ≠ (10 : UInt8))) = r.dropWhile (fun b => decide (b ≠ (10 : UInt8))) ++ 10 :: b := dw_app (by decide) b r
        rw [e1, e2, ih (.inl rfl)]
        have h2 : (r.takeWhile (fun b => decide (b ≠ (10 : UInt8)))).length + (r.dropWhile (fun b => decide (b ≠ (10 : UInt8)))).length = r.length := by rw [← List.length_append, List.takeWhile_append_dropWhile]
        rw [List.length_cons]
        congr 2
        omega
      · exfalso
        cases r with
        | nil => cases hh
        | cons c r => exact hn 0 rfl (by simpa using hh))
    (fun pos c r e hc hnn ht hn => by
      have hnn' : ¬ (c = 47 ∧ (r ++ s :: b).head? = some 47) := by rw [hd_app hs.n]; exact hnn
      rw [List.cons_append, lexL_tok hc hnn', tokL_ext hs, ht]
      rfl)
    (fun pos c r k n x y hc hnn ht ih hn => by
      have hnn' : ¬ (c = 47 ∧ (r ++ s :: b).head? = some 47) := by rw [hd_app hs.n]; exact hnn
      have hle := tokL_len ht
      rw [List.cons_append, lexL_tok hc hnn', tokL_ext hs, ht, andR_putR]
      have e1 : (r ++ s :: b).drop n = r.drop n ++ s :: b := List.drop_append_of_le_length hle
      have e2 : (r ++ s :: b).take n = r.take n := List.take_append_of_le_length hle
      simp only [e1, e2]
      rw [ih (hn.imp id (fun h => (h.tail).drop n)), List.length_drop, List.length_cons, show pos + 1 + n + (r.length - n) + 1 = pos + (r.length + 1) + 1 by omega]
      cases andR (lexL (pos + 1 + n) (r.drop n)) (lexL (pos + (r.length + 1) + 1) b) <;> rfl) pos l
  exact key hn
def Tk.sh (d : Nat) (t : Tk) : Tk := { t with pos := t.pos + d }
def shR (d : Nat) : Except (Nat × Nat) (List Tk) → Except (Nat × Nat) (List Tk)
  | .ok ts => .ok (ts.map (Tk.sh d))
  | .error (p, e) => .error (p + d, e)
theorem lexL_sh (d : Nat) (pos : Nat) (l : List UInt8) : lexL (pos + d) l = shR d (lexL pos l) := by
  have key := lexL_all (P := fun pos l res => lexL (pos + d) l = shR d res)
    (fun pos => by rw [lexL_nil]; rfl)
    (fun pos c r hc ih => by rw [lexL_blank hc, ← ih, show pos + d + 1 = pos + 1 + d by omega])
    (fun pos r hh ih => by rw [lexL_note hh, ← ih]; congr 1; omega)
    (fun pos c r e hc hnn ht => by rw [lexL_tok hc hnn, ht]; rfl)
    (fun pos c r k n x y hc hnn ht ih => by
      rw [lexL_tok hc hnn, ht]
      simp only
      rw [show pos + d + 1 + n = pos + 1 + n + d by omega, ih]
      cases lexL (pos + 1 + n) (r.drop n) <;> rfl) pos l
  exact key
/-- tokens' texts, a blank behind each -/
def texts : List Tk → List UInt8
  | [] => []
  | t :: ts => t.text ++ 32 :: texts ts
def Tk.like (t u : Tk) : Prop := t.kind = u.kind ∧ t.text = u.text ∧ t.re = u.re ∧ t.im = u.im
theorem lexL_texts : ∀ (ts : List Tk) (pos : Nat), (∀ t ∈ ts, t.own) → ∃ us, lexL pos (texts ts ++ [32]) = .ok us ∧ us.length = ts.length ∧ ∀ (i : Nat) (t u : Tk), ts[i]? = some t → us[i]? = some u → t.like u
  | [], pos, _ => ⟨[], by rw [texts, List.nil_append, lexL_blank (by decide), lexL_nil], rfl, fun i t u h => by cases h⟩
  | t :: ts, pos, h => by
    obtain ⟨c, w, e1, hb, h47, hk⟩ := h t (List.mem_cons_self ..)
    obtain ⟨us, h1, h2, h3⟩ := lexL_texts ts (pos + 1 + w.length + 1) (fun x hx => h x (List.mem_cons_of_mem _ hx))
    refine ⟨⟨t.kind, c :: w, t.re, t.im, pos⟩ :: us, ?_, by rw [List.length_cons, List.length_cons, h2], ?_⟩
    · rw [texts, e1, List.append_assoc, List.cons_append, List.cons_append, lexL_tok hb (fun h => h47 h.1), tokL_ext sep32, hk]
      simp only
      rw [List.drop_left, List.take_left, lexL_blank sep32.b, h1]
    · intro i t' u' ht hu
      cases i with
      | zero =>
        obtain rfl : t = t' := by simpa using ht
        obtain rfl : (⟨t.kind, c :: w, t.re, t.im, pos⟩ : Tk) = u' := by simpa using hu
        exact ⟨rfl, e1, rfl, rfl⟩
      | succ i => exact h3 i t' u' ht hu
theorem texts_app : ∀ a b : List Tk, texts (a ++ b) = texts a ++ texts b
  | [], b => rfl
  | t :: a, b => by rw [List.cons_append, texts, texts, texts_app a b, List.append_assoc, List.cons_append]
theorem texts_end (ts : List Tk) (n : Nat) : texts (ts ++ [endK n]) = texts ts ++ [32] := by rw [texts_app]; rfl
theorem texts_len {pos : Nat} {l : List UInt8} {ts : List Tk} (h : lexL pos l = .ok ts) : (texts ts).length ≤ 2 * l.length := by
  have key := lexL_all (P := fun pos l res => ∀ ts, res = .ok ts → (texts ts).length ≤ 2 * l.length) (fun pos ts h => by cases h; exact Nat.le_refl _)
    (fun pos c r _ ih ts h => by have := ih ts h; rw [List.length_cons]; omega)
    (fun pos r _ ih ts h => by
      have h1 := ih ts h
      have h2 := (List.dropWhile_suffix (l := r) (fun b => decide (b ≠ (10 : UInt8)))).length_le
      rw [List.length_cons]
      omega)
    (fun pos c r e' _ _ ht ts h => by cases h)
    (fun pos c r k n x y _ _ ht ih ts h => by
      cases hq : lexL (pos + 1 + n) (r.drop n) with
      | ok ts' =>
        rw [hq] at h
        cases h
        have h1 := ih ts' hq
        have h2 := tokL_len ht
        rw [List.length_drop] at h1
        simp only [List.singleton_append, texts, List.length_append, List.length_cons, List.length_take]
        omega
      | error q => rw [hq] at h; cases h) pos l
  exact key ts h
end Go.Proofs.YtlpdplchcpkajaaDoorV
