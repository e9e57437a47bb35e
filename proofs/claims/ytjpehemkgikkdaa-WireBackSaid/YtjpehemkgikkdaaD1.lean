/- The laws' arguments: bytes, items. No condition. -/
import Derived.Test.YtjpehemkgikkdaaW3
namespace Go.Proofs.YtjpehemkgikkdaaV
open Go Go.RowKit Go.Proofs.YtjpehemkgikkdaaA
set_option linter.unusedVariables false
set_option linter.unusedSimpArgs false
set_option maxRecDepth 100000

theorem u31 : E.P.underlying 31 = some (.slice 33) := rfl
theorem c5 : E.P.cellsOf 5 = 1 := rfl
theorem c33 : E.P.cellsOf 33 = 3 := rfl
theorem row5 (c : AVal) : ofRow E.P 5 [c] = c := rfl

theorem dat_int {n : Nat} {t : TypeId} {k : IntKind} {cells : List AVal} (hu : E.P.underlying t = some (.int k)) (h : Dat E.P n t cells) : ∃ i, cells = [.lit (.int k i)] ∧ k.min ≤ i ∧ i ≤ k.max := by
  cases n with
  | zero => cases h
  | succ n => unfold Dat at h; rw [hu] at h; exact h

theorem dat_bool {n : Nat} {t : TypeId} {cells : List AVal} (hu : E.P.underlying t = some .bool) (h : Dat E.P n t cells) : ∃ b, cells = [.lit (.bool b)] := by
  cases n with
  | zero => cases h
  | succ n => unfold Dat at h; rw [hu] at h; exact h

theorem byte_rows {n : Nat} : ∀ rows : List (List AVal), (∀ r ∈ rows, Dat E.P n 5 r) → ∃ l : List UInt8, rows.map (ofRow E.P 5) = l.map byteA
  | [], h => ⟨[], rfl⟩
  | r :: rows, h => by
    obtain ⟨l, hl⟩ := byte_rows rows fun x hx => h x (List.mem_cons_of_mem _ hx)
    obtain ⟨i, rfl, h1, h2⟩ := dat_int u5 (h r (List.mem_cons_self ..))
    have h1' : (0 : Int) ≤ i := h1
    have h2' : i ≤ 255 := h2
    refine ⟨UInt8.ofNat i.toNat :: l, ?_⟩
    rw [List.map_cons, List.map_cons, hl, row5, ← byteA_lit i.toNat (by omega), Int.toNat_of_nonneg h1']

theorem dat_bytes {n : Nat} {cells : List AVal} (h : Dat E.P n 24 cells) : ∃ v l, cells = [v] ∧ IsB v l := by
  cases n with
  | zero => cases h
  | succ n =>
    unfold Dat at h
    rw [u24] at h
    rcases h with ⟨a, rfl⟩ | ⟨rows, rfl, _, hr⟩
    · exact ⟨_, [], rfl, .inr ⟨a, rfl, rfl⟩⟩
    · obtain ⟨l, hl⟩ := byte_rows rows fun r hr' => (hr r hr').2.2
      exact ⟨_, l, rfl, .inl ⟨.unk, by rw [hl, c5]⟩⟩

theorem datv_bytes {n : Nat} {v : AVal} (h : DatV E.P n 24 v) : ∃ l, IsB v l := by
  obtain ⟨cells, h1, _, rfl⟩ := h
  obtain ⟨v, l, rfl, hb⟩ := dat_bytes h1
  exact ⟨l, hb⟩

theorem datv_int {n : Nat} {t : TypeId} {k : IntKind} {v : AVal} (hu : E.P.underlying t = some (.int k)) (hr : rowB E.P t = false) (h : DatV E.P n t v) : ∃ i, v = .lit (.int k i) ∧ k.min ≤ i ∧ i ≤ k.max := by
  obtain ⟨cells, h1, _, rfl⟩ := h
  obtain ⟨i, rfl, h2⟩ := dat_int hu h1
  exact ⟨i, by unfold ofRow; rw [hr]; rfl, h2⟩

/-- an item -/
structure Item where
  n : Nat
  v : AVal
  raw : List UInt8
  is : Bool
instance : Inhabited Item := ⟨⟨0, .undef, [], false⟩⟩
def Item.a (it : Item) : AVal := .agg [.lit (.int .u64 it.n), it.v, .lit (.bool it.is)]
def Item.ok (it : Item) : Prop := it.n < 2 ^ 64 ∧ IsB it.v it.raw

def Items (v : AVal) (its : List Item) : Prop := (∃ a, v = .lit (.slice a 0 0) ∧ its = []) ∨ v = .islice 3 (its.map Item.a) .unk

theorem u33 : ∃ f0 f1 f2, E.P.underlying 33 = some (.struct #[f0, f1, f2]) ∧ f0.type = 22 ∧ f0.offset = 0 ∧ f1.type = 24 ∧ f1.offset = 1 ∧ f2.type = 4 ∧ f2.offset = 2 := ⟨_, _, _, rfl, rfl, rfl, rfl, rfl, rfl, rfl⟩
theorem c22 : E.P.cellsOf 22 = 1 := rfl
theorem c24 : E.P.cellsOf 24 = 1 := rfl
theorem c4 : E.P.cellsOf 4 = 1 := rfl

theorem dat_item {n : Nat} {r : List AVal} (h : Dat E.P n 33 r) : ∃ it : Item, ofRow E.P 33 r = it.a ∧ it.ok := by
  cases n with
  | zero => cases h
  | succ n =>
    obtain ⟨f0, f1, f2, hu, t0, o0, t1, o1, t2, o2⟩ := u33
    unfold Dat at h
    rw [hu] at h
    obtain ⟨hl, hf⟩ := h
    rw [c33] at hl
    match r, hl with
    | [a, b, c], _ =>
      have h0 := hf f0 (by simp)
      have h1 := hf f1 (by simp)
      have h2 := hf f2 (by simp)
      rw [t0, o0, c22] at h0
      rw [t1, o1, c24] at h1
      rw [t2, o2, c4] at h2
      obtain ⟨i, e0, i1, i2⟩ := dat_int u22 h0
      obtain ⟨v, l, e1, hb⟩ := dat_bytes h1
      obtain ⟨q, e2⟩ := dat_bool u4 h2
      simp only [List.drop_zero, List.take_succ_cons, List.take_zero, List.cons.injEq, and_true] at e0
      simp only [List.drop_succ_cons, List.drop_zero, List.take_succ_cons, List.take_zero, List.cons.injEq, and_true] at e1 e2
      subst e0 e1 e2
      have i1' : (0 : Int) ≤ i := i1
      have i2' : i ≤ 18446744073709551615 := i2
      refine ⟨⟨i.toNat, b, l, q⟩, ?_, by show i.toNat < 2 ^ 64; omega, hb⟩
      have : ofRow E.P 33 [.lit (.int .u64 i), b, .lit (.bool q)] = .agg [.lit (.int .u64 i), b, .lit (.bool q)] := rfl
      rw [this]
      simp only [Item.a, Int.toNat_of_nonneg i1']

theorem item_rows {n : Nat} : ∀ rows : List (List AVal), (∀ r ∈ rows, Dat E.P n 33 r) → ∃ its : List Item, rows.map (ofRow E.P 33) = its.map Item.a ∧ ∀ it ∈ its, it.ok
  | [], h => ⟨[], rfl, fun it hi => by cases hi⟩
  | r :: rows, h => by
    obtain ⟨its, hl, hk⟩ := item_rows rows fun x hx => h x (List.mem_cons_of_mem _ hx)
    obtain ⟨it, e, ok⟩ := dat_item (h r (List.mem_cons_self ..))
    refine ⟨it :: its, by rw [List.map_cons, List.map_cons, hl, e], fun x hx => ?_⟩
    rcases List.mem_cons.1 hx with rfl | hx
    · exact ok
    · exact hk x hx

theorem datv_items {n : Nat} {v : AVal} (h : DatV E.P n 31 v) : ∃ its : List Item, Items v its ∧ its.length ≤ maxLen ∧ ∀ it ∈ its, it.ok := by
  obtain ⟨cells, h1, _, rfl⟩ := h
  cases n with
  | zero => cases h1
  | succ n =>
    unfold Dat at h1
    rw [u31] at h1
    rcases h1 with ⟨a, rfl⟩ | ⟨rows, rfl, hl, hr⟩
    · exact ⟨[], .inl ⟨a, rfl, rfl⟩, by simp, fun it hi => by cases hi⟩
    · obtain ⟨its, e, hk⟩ := item_rows rows fun r hr' => (hr r hr').2.2
      refine ⟨its, .inr ?_, ?_, hk⟩
      · show AVal.islice (E.P.cellsOf 33) (rows.map (ofRow E.P 33)) .unk = _
        rw [e, c33]
      · have := congrArg List.length e
        simp at this
        omega

theorem len_items {v : AVal} {its : List Item} (h : Items v its) (mt : Bool) (ty : TypeId) (cs : Array Bool) (st : ASt) :
    builtinA E.P mt .len #[31] ty cs [v] st = some (.val (.lit (.int .i64 its.length)) st) := by
  rcases h with ⟨a, rfl, rfl⟩ | rfl
  · rfl
  · rw [len_islice (e := 33) u31]; simp

theorem idx_items {v : AVal} {its : List Item} (h : Items v its) {i : Nat} (hi : i < its.length) : indexA E.P 31 v (.lit (.int .i64 i)) = some (.iptr its[i].a) := by
  rcases h with ⟨a, rfl, rfl⟩ | rfl
  · simp at hi
  · have : indexA E.P 31 (.islice 3 (its.map Item.a) .unk) (.lit (.int .i64 i)) = if 0 ≤ (i : Int) ∧ (i : Int) < (its.map Item.a).length ∧ (some 3 : Option Nat) = some 3 then ((its.map Item.a)[(i : Int).toNat]?).map .iptr else none := rfl
    rw [this, if_pos ⟨by omega, by simp; omega, rfl⟩]
    simp [hi]

theorem load_item (it : Item) (st : ASt) : loadA E.P 33 st (.iptr it.a) = some it.a := rfl

end Go.Proofs.YtjpehemkgikkdaaV
