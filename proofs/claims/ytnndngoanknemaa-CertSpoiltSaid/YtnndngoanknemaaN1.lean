/- Plans: nodes as values of the second reading. No condition. -/
import Derived.Test.YtnndngoanknemaaRA
namespace Go.Proofs.YtnndngoanknemaaV
open Go Go.RowKit Go.Proofs.YtnndngoanknemaaA
set_option linter.unusedVariables false
set_option linter.unusedSimpArgs false
set_option maxRecDepth 100000

/-- a node -/
structure Nd where
  th : Int
  sl : Nat
  so : Nat
  kd : Int
instance : Inhabited Nd := ⟨⟨0, 0, 0, 0⟩⟩
def Nd.cs (n : Nd) : List AVal := [.lit (.int .i64 n.th), .lit (.int .u64 n.sl), .lit (.int .u64 n.so), .lit (.int .i64 n.kd)]
def Nd.a (n : Nd) : AVal := .agg n.cs
def flatN (l : List Nd) : List AVal := l.flatMap Nd.cs

theorem flatN_len : ∀ l : List Nd, (flatN l).length = 4 * l.length
  | [] => rfl
  | n :: l => by
    have := flatN_len l
    unfold flatN at this ⊢
    rw [List.flatMap_cons, List.length_append, this]
    simp [Nd.cs]; omega

theorem flatN_get : ∀ (l : List Nd) (i : Nat) (h : i < l.length) (r : List AVal), ((flatN l ++ r).drop (i * 4)).take 4 = l[i].cs
  | [], i, h, r => by simp at h
  | n :: l, 0, h, r => by
    unfold flatN
    rw [List.flatMap_cons]
    simp [Nd.cs]
  | n :: l, i + 1, h, r => by
    have := flatN_get l i (by simpa using h) r
    unfold flatN at this ⊢
    rw [List.flatMap_cons, List.append_assoc, show (i + 1) * 4 = n.cs.length + i * 4 by simp [Nd.cs]; omega, List.drop_append, List.drop_of_length_le (by omega), List.nil_append, Nat.add_sub_cancel_left, this]
    rfl

/-- these nodes, in this state -/
def PS (st : ASt) (v : AVal) (l : List Nd) : Prop := (∃ c, v = .islice 4 (l.map Nd.a) c) ∨ (∃ a, v = .lit (.slice a 0 0) ∧ l = []) ∨
  ∃ s cs, v = .slice s 0 l.length 4 none ∧ s < st.ctr ∧ st.heap s = some (.cells (flatN l ++ cs))

theorem PS.gr {st st' : ASt} {v : AVal} {l : List Nd} (h : PS st v l) (hg : Gr st st') : PS st' v l := by
  rcases h with h | h | ⟨s, cs, e, h1, h2⟩
  · exact .inl h
  · exact .inr (.inl h)
  · exact .inr (.inr ⟨s, cs, e, Nat.lt_of_lt_of_le h1 hg.1, by rw [hg.2 s h1]; exact h2⟩)

theorem u44 : E.P.underlying 26 = some (.slice 53) := rfl

theorem ps_len {st : ASt} {v : AVal} {l : List Nd} (h : PS st v l) (mt : Bool) (ty : TypeId) (cs : Array Bool) (st2 : ASt) :
    builtinA E.P mt .len #[26] ty cs [v] st2 = some (.val (.lit (.int .i64 l.length)) st2) := by
  rcases h with ⟨c, rfl⟩ | ⟨a, rfl, rfl⟩ | ⟨s, cs', rfl, h1, h2⟩
  · rw [len_islice (e := 53) u44]; simp
  · rfl
  · rfl

theorem fldN (s o : Nat) : fieldA E.P 53 (.ptr s o) 0 = some (.ptr s o) ∧ fieldA E.P 53 (.ptr s o) 1 = some (.ptr s (o + 1)) ∧ fieldA E.P 53 (.ptr s o) 2 = some (.ptr s (o + 2)) ∧ fieldA E.P 53 (.ptr s o) 3 = some (.ptr s (o + 3)) := ⟨rfl, rfl, rfl, rfl⟩

theorem ldN {st : ASt} {s o : Nat} {cs : List AVal} {n : Nd} (h : st.heap s = some (.cells cs)) (hc : (cs.drop o).take 4 = n.cs) :
    loadA E.P 53 st (.ptr s o) = some n.a ∧ loadA E.P 3 st (.ptr s o) = some (.lit (.int .i64 n.th)) ∧ loadA E.P 32 st (.ptr s (o + 1)) = some (.lit (.int .u64 n.sl)) ∧ loadA E.P 32 st (.ptr s (o + 2)) = some (.lit (.int .u64 n.so)) ∧ loadA E.P 3 st (.ptr s (o + 3)) = some (.lit (.int .i64 n.kd)) := by
  have a0 : loadA E.P 53 st (.ptr s o) = (match st.heap s with | some (.cells cs) => if o + 4 ≤ cs.length then some (.agg ((cs.drop o).take 4)) else none | _ => none) := rfl
  have a1 : ∀ o, loadA E.P 3 st (.ptr s o) = (match st.heap s with | some (.cells cs) => cs[o]? | _ => none) := fun _ => rfl
  have a2 : ∀ o, loadA E.P 32 st (.ptr s o) = (match st.heap s with | some (.cells cs) => cs[o]? | _ => none) := fun _ => rfl
  have hl : o + 4 ≤ cs.length := by
    have := congrArg List.length hc
    simp only [List.length_take, List.length_drop] at this
    have e4 : n.cs.length = 4 := rfl
    omega
  have g : ∀ j, j < 4 → cs[o + j]? = n.cs[j]? := fun j hj => by
    rw [← hc, List.getElem?_take, if_pos hj, List.getElem?_drop]
  rw [a0, a1, a1, a2, a2, h]
  simp only [if_pos hl, hc]
  exact ⟨rfl, g 0 (by decide), g 1 (by decide), g 2 (by decide), g 3 (by decide)⟩

theorem ps_idx {st : ASt} {v : AVal} {l : List Nd} (h : PS st v l) {i : Nat} (hi : i < l.length) :
    ∃ p q, indexA E.P 26 v (.lit (.int .i64 i)) = some p ∧ loadA E.P 53 st p = some l[i].a ∧ fieldA E.P 53 p 3 = some q ∧ loadA E.P 3 st q = some (.lit (.int .i64 l[i].kd)) ∧ ∃ q0, fieldA E.P 53 p 0 = some q0 ∧ loadA E.P 3 st q0 = some (.lit (.int .i64 l[i].th)) := by
  rcases h with ⟨c, rfl⟩ | ⟨a, rfl, rfl⟩ | ⟨s, cs', rfl, h1, h2⟩
  · have : indexA E.P 26 (.islice 4 (l.map Nd.a) c) (.lit (.int .i64 i)) = if 0 ≤ (i : Int) ∧ (i : Int) < (l.map Nd.a).length ∧ (some 4 : Option Nat) = some 4 then ((l.map Nd.a)[(i : Int).toNat]?).map .iptr else none := rfl
    refine ⟨.iptr l[i].a, .iptr (.lit (.int .i64 l[i].kd)), ?_, rfl, rfl, rfl, .iptr (.lit (.int .i64 l[i].th)), rfl, rfl⟩
    rw [this, if_pos ⟨by omega, by simp; omega, rfl⟩]
    simp [hi]
  · simp at hi
  · have e : indexA E.P 26 (.slice s 0 l.length 4 none) (.lit (.int .i64 i)) = if 0 ≤ (i : Int) ∧ (i : Int) < (l.length : Nat) then some (.ptr s (0 + (i : Int).toNat * 4)) else none := rfl
    have hc := flatN_get l i hi cs'
    obtain ⟨e0, e1, e2, e3, e4⟩ := ldN h2 hc
    refine ⟨.ptr s (i * 4), .ptr s (i * 4 + 3), ?_, e0, rfl, e4, .ptr s (i * 4), rfl, e1⟩
    rw [e, if_pos ⟨by omega, by omega⟩]
    simp

/-! ### a node of its own -/
def zeroN : List AVal := [.lit (.int .i64 0), .lit (.int .u64 0), .lit (.int .u64 0), .lit (.int .i64 0)]
theorem alloc_n (st : ASt) : allocA E.P 53 st = some (.ptr st.ctr 0, st.new (.cells zeroN)) := rfl
/-- the state behind a node laid down -/
def laidN (st : ASt) (n : Nd) : ASt := (st.new (.cells zeroN)).set st.ctr (some (.cells n.cs))
theorem laidN_gr (st : ASt) (n : Nd) : Gr st (laidN st n) :=
  ⟨by simp [laidN, ASt.set, ASt.new], fun j hj => by unfold laidN; rw [ASt.set_ne _ _ _ _ (by omega), ASt.new_ne _ _ _ (by omega)]⟩
theorem laidN_at (st : ASt) (n : Nd) : (laidN st n).heap st.ctr = some (.cells n.cs) := by simp [laidN, ASt.set]
theorem laidN_ctr (st : ASt) (n : Nd) : (laidN st n).ctr = st.ctr + 1 := rfl

theorem store_n (st : ASt) (n : Nd) : storeA E.P 53 (st.new (.cells zeroN)) (.ptr st.ctr 0) n.a = some (laidN st n) := by
  have hs : (st.new (.cells zeroN)).heap st.ctr = some (.cells zeroN) := by simp [ASt.new]
  have : storeA E.P 53 (st.new (.cells zeroN)) (.ptr st.ctr 0) n.a = (match (st.new (.cells zeroN)).heap st.ctr with
      | some (.cells cs) => if szOf E.P 53 = some 4 ∧ 0 + 4 ≤ cs.length ∧ true = true then some ((st.new (.cells zeroN)).set st.ctr (some (.cells (putL cs 0 n.cs)))) else none
      | _ => none) := rfl
  rw [this, hs]
  rfl

/-- a node that lies alone -/
theorem ldN1 {st : ASt} {s : Nat} {n : Nd} (h : st.heap s = some (.cells n.cs)) :
    loadA E.P 53 st (.ptr s 0) = some n.a ∧ loadA E.P 3 st (.ptr s 0) = some (.lit (.int .i64 n.th)) ∧ loadA E.P 32 st (.ptr s 1) = some (.lit (.int .u64 n.sl)) ∧ loadA E.P 32 st (.ptr s 2) = some (.lit (.int .u64 n.so)) ∧ loadA E.P 3 st (.ptr s 3) = some (.lit (.int .i64 n.kd)) := by
  have := ldN (o := 0) (n := n) h rfl
  simpa using this
theorem fldN1 (s : Nat) : fieldA E.P 53 (.ptr s 0) 0 = some (.ptr s 0) ∧ fieldA E.P 53 (.ptr s 0) 1 = some (.ptr s 1) ∧ fieldA E.P 53 (.ptr s 0) 2 = some (.ptr s 2) ∧ fieldA E.P 53 (.ptr s 0) 3 = some (.ptr s 3) := ⟨rfl, rfl, rfl, rfl⟩

/-! ### may a plan be? -/
def badN (n : Nd) (i : Nat) : Prop := n.th < 0 ∨ 6 ≤ n.th ∨ (i = 0 ∧ n.th ≠ 0) ∨ 63 < n.sl ∨ 63 < n.so ∨ n.kd < 0 ∨ 6 < n.kd
instance (n : Nd) (i : Nat) : Decidable (badN n i) := by unfold badN; infer_instance

/-- from a node on: where it goes wrong, and why -/
def ck : List Nd → Nat → Int → Nat × Nat
  | [], i, left => if left > 0 then (i, 3) else (0, 0)
  | n :: r, i, left => if left = 0 then (i, 11) else if badN n i then (i, 6) else ck r (i + 1) (left + (n.kd - 1))

end Go.Proofs.YtnndngoanknemaaV
