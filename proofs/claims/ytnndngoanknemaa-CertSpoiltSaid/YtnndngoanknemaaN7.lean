/- Rows of whole numbers that may be written. No condition. -/
import Derived.Test.YtnndngoanknemaaN6
namespace Go.Proofs.YtnndngoanknemaaV
open Go Go.RowKit Go.Proofs.YtnndngoanknemaaA
set_option linter.unusedVariables false
set_option linter.unusedSimpArgs false
set_option maxRecDepth 100000

def intN (i : Int) : AVal := .lit (.int .i64 i)
theorem u59' : E.P.underlying 74 = some (.slice 3) := rfl
theorem intT : SlT E.P 74 3 false 1 := ⟨rfl, rfl, ⟨_, _, rfl, rfl, by decide, rfl, rfl⟩, by decide⟩
theorem ints_ok (l : List Int) : (l.map intN).all (elemOk false 1) = true := by
  rw [List.all_eq_true]
  intro x hx
  obtain ⟨n, _, rfl⟩ := List.mem_map.1 hx
  rfl
theorem flatE_ints : ∀ l : List Int, flatE (l.map intN) = l.map intN
  | [] => rfl
  | n :: l => by
    have := flatE_ints l
    unfold flatE at *
    rw [List.map_cons, List.flatMap_cons, this]
    rfl
theorem chunk_ints (cs : List AVal) : ∀ (n off : Nat), off + n ≤ cs.length → chunkA E.P 3 1 cs off n = some ((cs.drop off).take n)
  | 0, off, h => by simp [chunkA]
  | n + 1, off, h => by
    have e : partA E.P 3 cs off = cs[off]? := rfl
    rw [chunkA, e, List.getElem?_eq_getElem (by omega), chunk_ints cs n (off + 1) (by omega), List.drop_eq_getElem_cons (by omega : off < cs.length)]
    rfl

/-- these whole numbers, in a row of its own: `s` its stamp, if there is one -/
def IRow (st : ASt) (v : AVal) (l : List Int) (s : Option Nat) : Prop := match s with
  | none => v = .nilSlice ∧ l = []
  | some s => v = .slice s 0 l.length 1 none ∧ s < st.ctr ∧ ∃ cs, st.heap s = some (.cells (l.map intN ++ cs))

theorem IRow.gr {st st' : ASt} {v : AVal} {l : List Int} {s : Option Nat} (h : IRow st v l s) (hc : st.ctr ≤ st'.ctr) (hf : ∀ k, s = some k → st'.heap k = st.heap k) : IRow st' v l s := by
  cases s with
  | none => exact h
  | some s =>
    obtain ⟨h1, h2, cs, h3⟩ := h
    exact ⟨h1, Nat.lt_of_lt_of_le h2 hc, cs, by rw [hf s rfl]; exact h3⟩

theorem irow_len {st : ASt} {v : AVal} {l : List Int} {s : Option Nat} (h : IRow st v l s) (mt : Bool) (ty : TypeId) (cs : Array Bool) (st2 : ASt) :
    builtinA E.P mt .len #[74] ty cs [v] st2 = some (.val (.lit (.int .i64 l.length)) st2) := by
  cases s with
  | none => obtain ⟨rfl, rfl⟩ := h; rfl
  | some s => obtain ⟨rfl, _⟩ := h; rfl

theorem irow_idx {st : ASt} {v : AVal} {l : List Int} {s : Option Nat} (h : IRow st v l s) {i : Nat} (hi : i < l.length) :
    ∃ s', s = some s' ∧ indexA E.P 74 v (.lit (.int .i64 i)) = some (.ptr s' i) ∧ loadA E.P 3 st (.ptr s' i) = some (.lit (.int .i64 l[i])) := by
  cases s with
  | none => obtain ⟨_, rfl⟩ := h; simp at hi
  | some s =>
    obtain ⟨rfl, h2, cs, h3⟩ := h
    have e : indexA E.P 74 (.slice s 0 l.length 1 none) (.lit (.int .i64 i)) = if 0 ≤ (i : Int) ∧ (i : Int) < (l.length : Nat) then some (.ptr s (0 + (i : Int).toNat * 1)) else none := rfl
    have e2 : loadA E.P 3 st (.ptr s i) = (match st.heap s with
      | some (.cells cs) => cs[i]?
      | _ => none) := rfl
    refine ⟨s, rfl, by rw [e, if_pos ⟨by omega, by omega⟩]; simp, ?_⟩
    rw [e2, h3]
    simp only
    rw [List.getElem?_append_left (by simpa using hi)]
    simp [hi, intN]

theorem irow_store {st : ASt} {v : AVal} {l : List Int} {s : Nat} (h : IRow st v l (some s)) {i : Nat} (hi : i < l.length) (x : Int) :
    ∃ st', storeA E.P 3 st (.ptr s i) (.lit (.int .i64 x)) = some st' ∧ IRow st' v (l.set i x) (some s) ∧ st'.ctr = st.ctr ∧ ∀ k, k ≠ s → st'.heap k = st.heap k := by
  obtain ⟨rfl, h2, cs, h3⟩ := h
  have e : storeA E.P 3 st (.ptr s i) (.lit (.int .i64 x)) = (match st.heap s with
    | some (.cells cs) => if some 1 = some 1 ∧ i + 1 ≤ cs.length ∧ true = true then some (st.set s (some (.cells (cs.set i (.lit (.int .i64 x)))))) else none
    | _ => none) := rfl
  refine ⟨st.set s (some (.cells ((l.map intN ++ cs).set i (.lit (.int .i64 x))))), ?_, ⟨by rw [List.length_set], h2, cs, ?_⟩, rfl, fun k hk => ASt.set_ne _ _ _ _ hk⟩
  · rw [e, h3]
    simp only
    rw [if_pos ⟨trivial, by simp; omega, trivial⟩]
  · rw [List.set_append_left i _ (by simpa using hi), List.map_set]
    simp [ASt.set, intN]

/-- one more at the end -/
theorem irow_app {st : ASt} {v : AVal} {l : List Int} {s : Option Nat} (h : IRow st v l s) (hl : l.length ≤ 100000) (x : Int) (c : Cap) :
    ∃ v' st', appendA E.P true 74 74 v (.islice 1 [.lit (.int .i64 x)] c) st = some (v', st') ∧ IRow st' v' (l ++ [x]) (some st.ctr) ∧ st'.ctr = st.ctr + 1 ∧ ∀ k, k < st.ctr → s ≠ some k → st'.heap k = st.heap k := by
  have hx : srcA E.P 3 74 false 1 st (.islice 1 ([x].map intN) c) = some ([x].map intN) := src_islice intT (ints_ok [x])
  cases s with
  | none =>
    obtain ⟨rfl, rfl⟩ := h
    refine ⟨_, _, app_nil_mut intT hx (by simp) (by simp), ⟨by simp, by simp [ASt.new], [], ?_⟩, by simp [ASt.new], fun k hk _ => ASt.new_ne _ _ _ (by omega)⟩
    rw [flatE_ints]; simp [ASt.new]
  | some s =>
    obtain ⟨rfl, h2, cs, h3⟩ := h
    have hc := chunk_ints (l.map intN ++ cs) l.length 0 (by simp)
    rw [List.drop_zero, List.take_left' (by simp)] at hc
    have ha := app_slice (mt := true) intT (es := l.map intN) h3 (by rw [List.length_map]; exact hc) (ints_ok l) hx (by simp) (by simp; omega)
    rw [List.length_map] at ha
    refine ⟨_, _, ha, ⟨by simp [ASt.set], by simp [ASt.new, ASt.set], [], ?_⟩, by simp [ASt.new, ASt.set], fun k hk hne => ?_⟩
    · rw [← List.map_append, flatE_ints]; simp [ASt.new, ASt.set]
    · rw [ASt.new_ne _ _ _ (by simp [ASt.set]; omega), ASt.set_ne _ _ _ _ (fun e => hne (by rw [e]))]

/-- the last one away -/
theorem irow_pop {st : ASt} {v : AVal} {l : List Int} {x : Int} {s : Option Nat} (h : IRow st v (l ++ [x]) s) :
    ∃ v', sliceA E.P 74 v none (some (.lit (.int .i64 l.length))) none = some v' ∧ IRow st v' l s := by
  cases s with
  | none => obtain ⟨_, h⟩ := h; simp at h
  | some s =>
    obtain ⟨rfl, h2, cs, h3⟩ := h
    rw [List.length_append, List.length_singleton]
    have e : sliceA E.P 74 (.slice s 0 (l.length + 1) 1 none) none (some (.lit (.int .i64 l.length))) none = (match boundsA (l.length + 1) (l.length + 1) none (some (.lit (.int .i64 l.length))) none with
        | some (a, h, m) => match m, (none : Option Nat) with
          | some m, _ => some (.slice s (if m = a then 0 else 0 + a * 1) (h - a) 1 (some (m - a)))
          | none, some c => some (.slice s (if c = a then 0 else 0 + a * 1) (h - a) 1 (some (c - a)))
          | none, none => if a < l.length + 1 then some (.slice s (0 + a * 1) (h - a) 1 none) else some (.islice 1 [] .unk)
        | none => none) := rfl
    have e2 : boundsA (l.length + 1) (l.length + 1) none (some (.lit (.int .i64 l.length))) none = some (0, l.length, none) := by
      have b1 : boundA (some (.lit (.int .i64 l.length))) (l.length + 1) (l.length + 1) = some l.length := by
        have : boundA (some (.lit (.int .i64 l.length))) (l.length + 1) (l.length + 1) = if 0 ≤ (l.length : Int) ∧ (l.length : Int) ≤ ((l.length + 1 : Nat) : Int) then some (l.length : Int).toNat else none := rfl
        rw [this, if_pos ⟨by omega, by omega⟩, Int.toNat_natCast]
      have b2 : boundA none 0 l.length = some 0 := rfl
      unfold boundsA
      simp only [b1, b2]
    refine ⟨.slice s 0 l.length 1 none, ?_, rfl, h2, intN x :: cs, by rw [h3]; simp⟩
    rw [e, e2]
    simp

end Go.Proofs.YtnndngoanknemaaV
