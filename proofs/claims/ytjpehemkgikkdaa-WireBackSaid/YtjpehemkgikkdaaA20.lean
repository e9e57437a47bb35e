/- A law's arguments, as the second reading sees them. No condition. -/
import Derived.Test.YtjpehemkgikkdaaA19
import Derived.ChangeOld
import Derived.Deep.Slices
namespace Go.Proofs.YtjpehemkgikkdaaA
open Go Go.RowKit
set_option linter.unusedVariables false
set_option linter.unusedSimpArgs false

/-- fields lie one behind the other -/
def tiles (P : Program) : Nat → List Field → Nat → Bool
  | o, [], tot => o == tot
  | o, f :: r, tot => f.offset == o && tiles P (o + P.cellsOf f.type) r tot

theorem tiles_le {P : Program} : ∀ (fs : List Field) (o tot : Nat), tiles P o fs tot = true → o ≤ tot
  | [], o, tot, h => by simp [tiles] at h; omega
  | f :: r, o, tot, h => by
    simp only [tiles, Bool.and_eq_true, beq_iff_eq] at h
    have := tiles_le r _ _ h.2
    omega

/-- kinds of data that are read by value -/
def plainT (P : Program) : Nat → TypeId → Bool
  | 0, _ => false
  | n + 1, t => match P.underlying t with
    | some .bool | some (.int _) | some (.float _) | some .string => true
    | some (.slice e) => decide (0 < P.cellsOf e) && plainT P n e
    | some (.struct fs) => tiles P 0 fs.toList (P.cellsOf t) && fs.toList.all fun f => plainT P n f.type
    | _ => false

def rowB (P : Program) (t : TypeId) : Bool := match P.underlying t with
  | some d => rowT d
  | none => false

/-- a value of a type, out of its cells -/
def ofRow (P : Program) (t : TypeId) (cells : List AVal) : AVal := if rowB P t then .agg cells else match cells with
  | [c] => c
  | _ => .undef

/-- what a type's cells may be -/
def Dat (P : Program) : Nat → TypeId → List AVal → Prop
  | 0, _, _ => False
  | n + 1, t, cells => match P.underlying t with
    | some .bool => ∃ b, cells = [.lit (.bool b)]
    | some (.int k) => ∃ i, cells = [.lit (.int k i)] ∧ k.min ≤ i ∧ i ≤ k.max
    | some (.float k) => ∃ b, cells = [.lit (.float k b)] ∧ (Lit.float k b).wf = true
    | some .string => ∃ s, cells = [.lit (.string s)] ∧ s.size ≤ maxLen
    | some (.slice e) => (∃ a, cells = [.lit (.slice a 0 0)]) ∨ ∃ rows : List (List AVal), cells = [.islice (P.cellsOf e) (rows.map (ofRow P e)) .unk] ∧ rows.length ≤ maxLen ∧ ∀ r ∈ rows, r.length = P.cellsOf e ∧ (∀ c ∈ r, c.isCell = true) ∧ Dat P n e r
    | some (.struct fs) => cells.length = P.cellsOf t ∧ ∀ f ∈ fs.toList, Dat P n f.type ((cells.drop f.offset).take (P.cellsOf f.type))
    | _ => False

theorem ofRow_cells {P : Program} {t : TypeId} {cells : List AVal} (h : rowB P t = true ∨ ∃ c, cells = [c] ∧ c.isCell = true) : (ofRow P t cells).cells = cells := by
  unfold ofRow
  by_cases hr : rowB P t = true
  · rw [if_pos hr]; rfl
  · rw [if_neg hr]
    rcases h with h | ⟨c, rfl, hc⟩
    · exact absurd h hr
    · cases c <;> first | rfl | cases hc

theorem dat_one {P : Program} {n : Nat} {t : TypeId} {cells : List AVal} (h : Dat P n t cells) : rowB P t = true ∨ ∃ c, cells = [c] ∧ c.isCell = true := by
  cases n with
  | zero => cases h
  | succ n =>
    unfold Dat at h
    unfold rowB
    split at h
    · obtain ⟨b, rfl⟩ := h; exact .inr ⟨_, rfl, rfl⟩
    · obtain ⟨b, rfl, _⟩ := h; exact .inr ⟨_, rfl, rfl⟩
    · obtain ⟨b, rfl, _⟩ := h; exact .inr ⟨_, rfl, rfl⟩
    · obtain ⟨b, rfl, _⟩ := h; exact .inr ⟨_, rfl, rfl⟩
    · rcases h with ⟨a, rfl⟩ | ⟨rows, rfl, _⟩
      · exact .inr ⟨_, rfl, rfl⟩
      · exact .inr ⟨_, rfl, rfl⟩
    · rename_i fs hu; rw [hu]; exact .inl rfl
    · cases h

theorem exists_list {α : Type} [Inhabited α] (Q : Nat → α → Prop) : ∀ n, (∀ i, i < n → ∃ x, Q i x) → ∃ l : List α, l.length = n ∧ ∀ i x, l[i]? = some x → Q i x
  | 0, _ => ⟨[], rfl, fun i x h => by simp at h⟩
  | n + 1, h => by
    obtain ⟨l, hl, hq⟩ := exists_list Q n fun i hi => h i (by omega)
    obtain ⟨x, hx⟩ := h n (by omega)
    refine ⟨l ++ [x], by simp [hl], fun i y hy => ?_⟩
    by_cases hi : i < n
    · rw [List.getElem?_append_left (by omega)] at hy
      exact hq i y hy
    · have : i < n + 1 := by
        have := (List.getElem?_eq_some_iff.1 hy).1
        simp [hl] at this; exact this
      obtain rfl : i = n := by omega
      rw [List.getElem?_append_right (by omega)] at hy
      simp [hl] at hy
      rw [← hy]; exact hx

section
variable {H : Type} {enc : TypeId × Value → H} {P : Program} {W : World} {held : Bool}

/-- cells and their sight -/
structure Sees (W : World) (cells : List AVal) (cs : List Value) : Prop where
  len : cells.length = cs.length
  rep : ∀ (j : Nat) (c : AVal) (u : Value), cells[j]? = some c → cs[j]? = some u → Rep (g0 W) c u
  cell : ∀ c ∈ cells, c.isCell = true

theorem Sees.one {v : Value} (h : flat v = true) : Sees W [.lit v] [v] :=
  ⟨rfl, fun j c u a b => by
    cases j with
    | zero => simp at a b; subst a b; exact Rep.lit h
    | succ j => simp at a, fun c hc => by simp at hc; subst hc; rfl⟩

theorem Sees.append {a b : List AVal} {x y : List Value} (h : Sees W a x) (h' : Sees W b y) : Sees W (a ++ b) (x ++ y) := by
  refine ⟨by simp [h.len, h'.len], fun j c u p q => ?_, fun c hc => ?_⟩
  · by_cases hj : j < a.length
    · rw [List.getElem?_append_left hj] at p
      rw [List.getElem?_append_left (by rw [← h.len]; exact hj)] at q
      exact h.rep j c u p q
    · rw [List.getElem?_append_right (by omega)] at p
      rw [List.getElem?_append_right (by rw [← h.len]; omega), ← h.len] at q
      exact h'.rep _ c u p q
  · rcases List.mem_append.1 hc with h1 | h1
    · exact h.cell c h1
    · exact h'.cell c h1

theorem sees_tiles {n : Nat} {cs : List Value} {tot : Nat} (hl : cs.length = tot) : ∀ (fs : List Field) (o : Nat), tiles P o fs tot = true →
    (∀ f ∈ fs, ∃ cells, Dat P n f.type cells ∧ Sees W cells ((cs.drop f.offset).take (P.cellsOf f.type))) →
    ∃ cells, Sees W cells (cs.drop o) ∧ ∀ f ∈ fs, o ≤ f.offset ∧ Dat P n f.type ((cells.drop (f.offset - o)).take (P.cellsOf f.type))
  | [], o, ht, h => by
    simp [tiles] at ht
    refine ⟨[], ?_, fun f hf => by cases hf⟩
    rw [List.drop_of_length_le (by omega)]
    exact ⟨rfl, fun j c u a b => by simp at a, fun c hc => by cases hc⟩
  | f :: r, o, ht, h => by
    simp only [tiles, Bool.and_eq_true, beq_iff_eq] at ht
    obtain ⟨ho, ht⟩ := ht
    have hle := tiles_le r _ _ ht
    obtain ⟨cr, hr1, hr2⟩ := sees_tiles hl r _ ht fun g hg => h g (List.mem_cons_of_mem _ hg)
    obtain ⟨cf, hf1, hf2⟩ := h f (List.mem_cons_self ..)
    rw [ho] at hf2
    have hlen : cf.length = P.cellsOf f.type := by rw [hf2.len]; simp; omega
    refine ⟨cf ++ cr, ?_, fun g hg => ?_⟩
    · have e : cs.drop o = (cs.drop o).take (P.cellsOf f.type) ++ cs.drop (o + P.cellsOf f.type) := by
        rw [← List.drop_drop, List.take_append_drop]
      rw [e]
      exact hf2.append hr1
    · rcases List.mem_cons.1 hg with rfl | hg
      · refine ⟨by omega, ?_⟩
        rw [ho, Nat.sub_self, List.drop_zero, List.take_append_of_le_length (by omega), List.take_of_length_le (by omega)]
        exact hf1
      · obtain ⟨h1, h2⟩ := hr2 g hg
        refine ⟨by omega, ?_⟩
        rw [List.drop_append, List.drop_of_length_le (by omega), List.nil_append, hlen]
        have e : g.offset - o - P.cellsOf f.type = g.offset - (o + P.cellsOf f.type) := by omega
        rw [e]
        exact h2

theorem row_rep {e : TypeId} {a : Addr} {len cap : Nat} {n : Nat} (hsp : a.spot = none) (hlc : len ≤ cap) {rows : List (List AVal)} (hl : rows.length = len)
    (hq : ∀ i r, rows[i]? = some r → ∃ cs', W.cells? 0 (a.add (i * P.cellsOf e)) (P.cellsOf e) = some cs' ∧ Dat P n e r ∧ Sees W r cs') :
    Rep (g0 W) (.islice (P.cellsOf e) (rows.map (ofRow P e)) .unk) (.slice (some a) len cap) := by
  obtain ⟨B, o, sp⟩ := a
  simp only at hsp
  subst hsp
  have hrow : ∀ (i : Nat) (x : AVal), (rows.map (ofRow P e))[i]? = some x → ∃ r, rows[i]? = some r ∧ x.cells = r := by
    intro i x hx
    rw [List.getElem?_map] at hx
    cases hr : rows[i]? with
    | none => rw [hr] at hx; cases hx
    | some r =>
      rw [hr] at hx
      cases hx
      obtain ⟨cs', _, hd, _⟩ := hq i r hr
      exact ⟨r, rfl, ofRow_cells (dat_one hd)⟩
  have hcell : ∀ (i : Nat) (x : AVal) (j : Nat) (c : AVal), (rows.map (ofRow P e))[i]? = some x → x.cells[j]? = some c → ∃ u, W.cell? ⟨B, o + (i * P.cellsOf e + j), none⟩ = some u ∧ Rep (g0 W) c u := by
    intro i x j c hx hc
    obtain ⟨r, hr, hxr⟩ := hrow i x hx
    rw [hxr] at hc
    obtain ⟨cs', h1, h2, h3⟩ := hq i r hr
    obtain ⟨_, hcl, hat⟩ := World.cells?_some h1
    have hj : j < P.cellsOf e := by
      have := (List.getElem?_eq_some_iff.1 hc).1
      rw [h3.len, hcl] at this
      exact this
    have h4 := hat j hj
    rw [addr_add, addr_add] at h4
    have hu : cs'[j]? = some (cs'[j]'(by omega)) := List.getElem?_eq_getElem (by omega)
    refine ⟨_, ?_, h3.rep j c _ hc hu⟩
    rw [← hu, ← h4, Nat.add_assoc]
  rw [show len = (rows.map (ofRow P e)).length by simp [hl]]
  refine Rep.islice (f := fun i j => (W.cell? ⟨B, o + (i * P.cellsOf e + j), none⟩).getD .nilFunc) (by simp [hl]; exact hlc) (fun i x hx => ?_) (fun i x j c hx hc => ?_) (fun i x j c hx hc => ?_) (fun i x hx c hc => ?_) trivial
  · obtain ⟨r, hr, hxr⟩ := hrow i x hx
    obtain ⟨cs', h1, h2, h3⟩ := hq i r hr
    rw [hxr, h3.len, (World.cells?_some h1).2.1]
  · obtain ⟨u, h1, h2⟩ := hcell i x j c hx hc
    simp only [g0, h1, Option.getD_some]
  · obtain ⟨u, h1, h2⟩ := hcell i x j c hx hc
    simp only [h1, Option.getD_some]
    exact h2
  · obtain ⟨r, hr, hxr⟩ := hrow i x hx
    rw [hxr] at hc
    obtain ⟨cs', h1, h2, h3⟩ := hq i r hr
    exact h3.cell c hc

theorem dat_of_trod : ∀ (n : Nat) (t : TypeId) (fuel : Nat) (cs : List Value) (x : DataW H × List MemPlace), plainT P n t = true → DataW.trod enc P W 0 (fun _ => true) held fuel t cs = some x →
    ∃ cells, Dat P n t cells ∧ Sees W cells cs
  | 0, t, fuel, cs, x, hp, h => by cases hp
  | n + 1, t, fuel, cs, x, hp, h => by
    unfold plainT at hp
    unfold Dat
    split at hp
    · rename_i hu
      obtain ⟨b, rfl, _⟩ := DataW.trod_bool hu h
      exact ⟨_, ⟨b, rfl⟩, Sees.one rfl⟩
    · rename_i k hu
      obtain ⟨i, rfl, _, hw⟩ := DataW.trod_int hu h
      simp only [Lit.wf, Bool.and_eq_true, decide_eq_true_eq] at hw
      exact ⟨_, ⟨i, rfl, hw.1, hw.2⟩, Sees.one rfl⟩
    · rename_i k hu
      cases fuel with
      | zero => cases h
      | succ fuel =>
        unfold DataW.trod at h
        rw [hu] at h
        split at h <;> simp_all
        rename_i e1
        obtain ⟨⟨rfl, hw⟩, _⟩ := h
        exact ⟨[.lit (.float _ _)], ⟨_, rfl, hw⟩, Sees.one rfl⟩
    · rename_i hu
      obtain ⟨s, rfl, _, hs⟩ := DataW.trod_string hu h
      exact ⟨_, ⟨s, rfl, hs⟩, Sees.one rfl⟩
    · rename_i e hu
      simp only [Bool.and_eq_true, decide_eq_true_eq] at hp
      rcases Go.Deep.open_slice hu h with ⟨rfl, _⟩ | ⟨a, len, cap, m, n', D, Pl, rfl, _, hlc, hcm, hm, _, hrows⟩
      · exact ⟨[.lit (.slice none 0 0)], .inl ⟨none, rfl⟩, Sees.one rfl⟩
      · simp only [if_true] at hm
        subst hm
        by_cases hc0 : m = 0
        · subst hc0
          obtain rfl : len = 0 := by omega
          exact ⟨[.lit (.slice (some a) 0 0)], .inl ⟨some a, rfl⟩, Sees.one rfl⟩
        · have hsp : a.spot = none := by
            obtain ⟨cs', h1, _⟩ := hrows 0 (by omega)
            rw [Nat.zero_mul] at h1
            have h2 := (World.cells?_some h1).2.2 0 hp.1
            have h3 : cs'[0]? = some (cs'[0]'(by rw [(World.cells?_some h1).2.1]; exact hp.1)) := List.getElem?_eq_getElem _
            rw [h3] at h2
            unfold World.cell? at h2
            have ea : (a.add 0).add 0 = a := by simp [Addr.add]
            rw [ea] at h2
            cases hs : a.spot with
            | none => rfl
            | some q =>
              rw [hs] at h2
              split at h2
              · simp at h2
              · cases h2
          obtain ⟨rows, hl, hq⟩ := exists_list (fun i (r : List AVal) => ∃ cs', W.cells? 0 (a.add (i * P.cellsOf e)) (P.cellsOf e) = some cs' ∧ Dat P n e r ∧ Sees W r cs') len (fun i hi => by
            obtain ⟨cs', h1, h2⟩ := hrows i (by omega)
            obtain ⟨cells, h3, h4⟩ := dat_of_trod n e n' cs' _ hp.2 h2
            exact ⟨cells, cs', h1, h3, h4⟩)
          refine ⟨[.islice (P.cellsOf e) (rows.map (ofRow P e)) .unk], .inr ⟨rows, rfl, by omega, fun r hr => ?_⟩, rfl, fun j c u p q => ?_, fun c hc => by simp at hc; subst hc; rfl⟩
          · obtain ⟨i, hi⟩ := List.mem_iff_getElem?.1 hr
            obtain ⟨cs', h1, h2, h3⟩ := hq i r hi
            exact ⟨by rw [h3.len, (World.cells?_some h1).2.1], h3.cell, h2⟩
          · cases j with
            | zero =>
              simp at p q
              subst p q
              exact row_rep hsp hlc hl hq
            | succ j => simp at p
    · rename_i fs hu
      simp only [Bool.and_eq_true] at hp
      obtain ⟨xs, n', _, _, hcl, hxl, hf⟩ := DataW.trod_struct hu h
      obtain ⟨cells, h1, h2⟩ := sees_tiles (P := P) (W := W) (n := n) hcl fs.toList 0 hp.1 (fun f hf' => by
        obtain ⟨i, hi⟩ := List.mem_iff_getElem?.1 hf'
        have hi' : fs[i]? = some f := by simpa using hi
        have hlt : i < fs.size := (Array.getElem?_eq_some_iff.1 hi').1
        have h3 := hf i f hi'
        rw [List.getElem?_eq_getElem (by omega)] at h3
        exact dat_of_trod n f.type n' _ _ (List.all_eq_true.1 hp.2 f hf') h3)
      rw [List.drop_zero] at h1
      refine ⟨cells, ?_, h1⟩
      exact ⟨by rw [h1.len, hcl], fun f hf' => by simpa using (h2 f hf').2⟩
    · cases hp
end

/-- a value of a type, as the second reading sees it -/
def DatV (P : Program) (n : Nat) (t : TypeId) (v : AVal) : Prop := ∃ cells, Dat P n t cells ∧ (∀ c ∈ cells, c.isCell = true) ∧ v = ofRow P t cells

theorem arg_of {H : Type} {enc : TypeId × Value → H} {P : Program} {W : World} {n : Nat} {t : TypeId} {v : Value} {base : Nat} {d : DataW H} {ps : List MemPlace} (hp : plainT P n t = true) (hv : Value.okWide P W .any base t v)
    (h : DataW.Trod enc P W 0 (fun _ => true) true t v d ps) : ∃ av, DatV P n t av ∧ Rep (g0 W) av v := by
  obtain ⟨fuel, hf⟩ := h
  obtain ⟨cells, h1, h2⟩ := dat_of_trod n t fuel _ _ hp hf
  refine ⟨ofRow P t cells, ⟨cells, h1, h2.cell, rfl⟩, ?_⟩
  unfold Value.okWide at hv
  unfold ofRow rowB
  cases hu : P.underlying t with
  | none =>
    cases n with
    | zero => cases h1
    | succ n => unfold plainT at hp; rw [hu] at hp; cases hp
  | some td =>
    rw [hu] at hv
    by_cases hr : rowT td = true
    · have : ∃ cs, v = .agg cs := by
        cases td <;> first | (simp [rowT] at hr; done) | (obtain ⟨cs, e, _⟩ := hv; exact ⟨cs, e⟩)
      obtain ⟨cs, rfl⟩ := this
      simp only [hr, if_true]
      have hl := h2.len
      have hrep := h2.rep
      simp only [Value.cells] at hl hrep
      exact Rep.agg (by rw [hl]; simp) (fun j c u a b => hrep j c u a (by simpa using b)) h2.cell
    · have hr' : rowT td = false := by simpa using hr
      have hna : ∀ us, v ≠ .agg us := by
        rintro us rfl
        cases td <;> first | (simp [rowT] at hr'; done) | (simp [Cell.okWide, Cell.ok, hu] at hv; done)
      have hc : v.cells = #[v] := by
        cases v <;> first | rfl | exact absurd rfl (hna _)
      have hl := h2.len
      have hrep := h2.rep
      rw [hc] at hl hrep
      simp only [hr', Bool.false_eq_true, if_false]
      match cells, hl, hrep with
      | [c], _, hrep => exact hrep 0 c v rfl rfl
end Go.Proofs.YtjpehemkgikkdaaA
