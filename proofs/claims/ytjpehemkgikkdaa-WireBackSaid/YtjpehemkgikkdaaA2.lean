/- What ties the worlds of the two readings, and how each step of memory keeps it. No condition. -/
import Derived.Test.YtjpehemkgikkdaaA1
import Derived.Laws.IdiomCopy
import Derived.Laws.Tables
import Derived.Laws.IdiomStrings
namespace Go.Proofs.YtjpehemkgikkdaaA
open Go Go.RowKit
set_option linter.unusedVariables false

/-- a block of the second reading, and the model's row that it tells of -/
structure BlkOK (base : Nat) (g : G) (s : Nat) (cs : List AVal) (w : World) : Prop where
  lo : base ≤ (g.loc s).1
  fits : (g.loc s).2.1 + cs.length ≤ (g.loc s).2.2
  own : ∀ j, (g.loc s).2.1 ≤ j → j < (g.loc s).2.2 → g.own (g.loc s).1 j = .blk s
  there : ∀ j, (g.loc s).2.1 ≤ j → j < (g.loc s).2.2 → (w.cell? ⟨(g.loc s).1, j, none⟩).isSome = true
  open_ : ∀ j, (g.loc s).2.1 ≤ j → j < (g.loc s).2.2 → w.frozen? ⟨(g.loc s).1, j, none⟩ = false
  rep : ∀ (j : Nat) (c : AVal), cs[j]? = some c → c.isCell = true ∧ ∃ u, w.cell? ⟨(g.loc s).1, (g.loc s).2.1 + j, none⟩ = some u ∧ Rep g c u

/-- of the rows that were made no cell is marked as a string's -/
def Marked (base : Nat) (w : World) : Prop := ∀ B, base ≤ B → ∀ c t lo hi, w.heap[B]? = some (.cells c t (lo, hi)) → lo = hi ∨ c.size ≤ lo

theorem Marked.drew {base : Nat} {w : World} (h : Marked base w) : Marked base w.drew := h

theorem Marked.alloc {base : Nat} {w : World} (h : Marked base w) (us : Array Value) (t : TypeId) (lo hi : Nat) (hm : lo = hi ∨ us.size ≤ lo) : Marked base (w.alloc (.cells us t (lo, hi))) := by
  intro B hB c t' lo' hi' hc
  have hc' : (w.heap.push (.cells us t (lo, hi)))[B]? = some (.cells c t' (lo', hi')) := hc
  rw [Array.getElem?_push] at hc'
  split at hc'
  · cases hc'; exact hm
  · exact h B hB c t' lo' hi' hc'

theorem Marked.setCell {base : Nat} {w : World} (h : Marked base w) (a : Addr) (v : Value) : Marked base (w.setCell a v) := by
  intro B hB c t lo hi hc
  simp only [World.setCell, Array.getElem?_modify] at hc
  split at hc
  · rename_i he
    cases hb : w.heap[B]? with
    | none => rw [hb] at hc; cases hc
    | some o =>
      rw [hb] at hc
      cases o with
      | cells c0 t0 f =>
        obtain ⟨lo0, hi0⟩ := f
        simp only [Option.map_some, Option.some.injEq, Obj.cells.injEq, Prod.mk.injEq] at hc
        obtain ⟨h1, h2, h3, h4⟩ := hc
        subst h3
        subst h4
        have := h B hB c0 t0 _ _ hb
        rw [← h1]
        split
        · exact this
        · simpa using this
      | _ => simp at hc
  · exact h B hB c t lo hi hc

theorem Marked.setCells {base : Nat} {b : Nat} : ∀ (vs : List Value) (o : Nat) (w : World), Marked base w → Marked base (w.setCells b o vs)
  | [], _, _, h => h
  | v :: r, o, w, h => by rw [World.setCells]; exact Marked.setCells r _ _ (h.setCell _ _)

structure SInv (b0 : Nat) (w0 : World) (g : G) (st : ASt) (w : World) : Prop where
  n : g.n = st.ctr
  fr : ∀ B o v, g.own B o = .frozen v → w.cell? ⟨B, o, none⟩ = some v
  fresh : ∀ B o, w.heap.size ≤ B → g.own B o = .free
  live : ∀ s b, st.heap s = some b → s < st.ctr
  cells : ∀ s cs, st.heap s = some (.cells cs) → BlkOK b0 g s cs w
  map : ∀ s es, st.heap s ≠ some (.map es)
  below : Below b0 w0 w
  base : b0 ≤ w.heap.size
  marks : Marked b0 w

theorem BlkOK.mono {base : Nat} {g g' : G} {s : Nat} {cs : List AVal} {w w' : World} (h : BlkOK base g s cs w) (hg : g.le g') (hs : s < g.n)
    (hown : ∀ j, (g.loc s).2.1 ≤ j → j < (g.loc s).2.2 → g'.own (g.loc s).1 j = .blk s)
    (hc : ∀ j, (g.loc s).2.1 ≤ j → j < (g.loc s).2.2 → w'.cell? ⟨(g.loc s).1, j, none⟩ = w.cell? ⟨(g.loc s).1, j, none⟩)
    (hf : ∀ j, (g.loc s).2.1 ≤ j → j < (g.loc s).2.2 → w'.frozen? ⟨(g.loc s).1, j, none⟩ = w.frozen? ⟨(g.loc s).1, j, none⟩) : BlkOK base g' s cs w' := by
  have e := hg.loc s hs
  refine ⟨by rw [e]; exact h.lo, by rw [e]; exact h.fits, by rw [e]; exact hown, ?_, ?_, ?_⟩
  · rw [e]; intro j a b; rw [hc j a b]; exact h.there j a b
  · rw [e]; intro j a b; rw [hf j a b]; exact h.open_ j a b
  · rw [e]; intro j c hj
    obtain ⟨h1, u, h2, h3⟩ := h.rep j c hj
    have hl := (List.getElem?_eq_some_iff.1 hj).1
    have hfit := h.fits
    exact ⟨h1, u, by rw [hc _ (by omega) (by omega)]; exact h2, h3.mono hg⟩

/-- a draw -/
theorem SInv.drew {base : Nat} {w0 : World} {g : G} {st : ASt} {w : World} (h : SInv base w0 g st w) : SInv base w0 g st w.drew :=
  ⟨h.n, h.fr, h.fresh, h.live, fun s cs hs => ⟨(h.cells s cs hs).lo, (h.cells s cs hs).fits, (h.cells s cs hs).own, (h.cells s cs hs).there, (h.cells s cs hs).open_, (h.cells s cs hs).rep⟩, h.map, h.below.drew, h.base, h.marks.drew⟩

theorem alloc_size (w : World) (o : Obj) : (w.alloc o).heap.size = w.heap.size + 1 := by
  show (w.heap.push o).size = _
  exact Array.size_push ..

/-- A row is made: its first `m` cells are never written again, the others belong to a new stamp, which tells the first of them. -/
def G.row (g : G) (B m : Nat) (us : Array Value) : G where
  own := fun b o => if b = B then (if o < m then (match us[o]? with | some u => .frozen u | none => .free) else if o < us.size then .blk g.n else .free) else g.own b o
  loc := fun s => if s = g.n then (B, m, us.size) else g.loc s
  n := g.n + 1

theorem G.row_le {g : G} {B m : Nat} {us : Array Value} (hB : ∀ o, g.own B o = .free) : g.le (g.row B m us) := by
  refine ⟨by simp [G.row], fun s hs => by simp [G.row]; omega, fun b o v hv => ?_⟩
  have : b ≠ B := by rintro rfl; rw [hB] at hv; cases hv
  simpa [G.row, this] using hv

theorem SInv.rowM {base : Nat} {w0 : World} {g : G} {st : ASt} {w : World} (h : SInv base w0 g st w) (us : Array Value) (t : TypeId) (lo hi : Nat) (hmk : lo = hi ∨ us.size ≤ lo) (m : Nat) (hm : m ≤ us.size) (cs : List AVal)
    (hcs : ∀ (j : Nat) (c : AVal), cs[j]? = some c → c.isCell = true ∧ ∃ u, us[m + j]? = some u ∧ Rep g c u) :
    g.le (g.row w.heap.size m us) ∧ SInv base w0 (g.row w.heap.size m us) (st.new (.cells cs)) (w.alloc (.cells us t (lo, hi))) := by
  have hle : g.le (g.row w.heap.size m us) := G.row_le (fun o => h.fresh _ o (Nat.le_refl _))
  refine ⟨hle, ?_⟩
  have hlen : m + cs.length ≤ us.size := by
    rcases Nat.eq_zero_or_pos cs.length with h0 | h0
    · omega
    · obtain ⟨_, u, hu, _⟩ := hcs (cs.length - 1) _ (List.getElem?_eq_getElem (by omega))
      have := (Array.getElem?_eq_some_iff.1 hu).1
      omega
  constructor
  · simp [G.row, h.n]
  · intro B o v hv
    simp only [G.row] at hv
    by_cases hB : B = w.heap.size
    · subst hB
      simp only [if_true] at hv
      by_cases ho : o < m
      · rw [if_pos ho] at hv
        have hu : us[o]? = some us[o] := Array.getElem?_eq_getElem (by omega)
        rw [hu] at hv
        cases hv
        rw [World.cell?_alloc_mark, hu]
      · rw [if_neg ho] at hv
        split at hv <;> cases hv
    · rw [if_neg hB] at hv
      rw [World.cell?_alloc_old _ _ _ hB]
      exact h.fr B o v hv
  · intro B o hB
    rw [alloc_size] at hB
    simp only [G.row]
    rw [if_neg (by omega)]
    exact h.fresh B o (by omega)
  · intro s b hs
    simp only [ASt.new] at hs ⊢
    by_cases e : s = st.ctr
    · omega
    · rw [if_neg e] at hs
      have := h.live s b hs
      omega
  · intro s cs' hs
    by_cases e : s = st.ctr
    · subst e
      rw [ASt.new_same] at hs
      cases hs
      have hl : (g.row w.heap.size m us).loc st.ctr = (w.heap.size, m, us.size) := by simp [G.row, h.n]
      refine ⟨by rw [hl]; exact h.base, by rw [hl]; exact hlen, ?_, ?_, ?_, ?_⟩
      · rw [hl]; intro j h1 h2
        simp only at h1 h2 ⊢
        simp only [G.row, if_true]
        rw [if_neg (by omega), if_pos h2, h.n]
      · rw [hl]; intro j h1 h2
        simp only at h1 h2 ⊢
        rw [World.cell?_alloc_mark, Array.getElem?_eq_getElem h2]; rfl
      · rw [hl]; intro j h1 h2
        simp only at h1 h2 ⊢
        rw [World.frozen?_alloc_mark]
        rcases hmk with rfl | hmk
        · simp
        · rw [decide_eq_false (by omega)]; rfl
      · rw [hl]; intro j c hj
        obtain ⟨h1, u, h2, h3⟩ := hcs j c hj
        exact ⟨h1, u, by simp only; rw [World.cell?_alloc_mark]; exact h2, h3.mono hle⟩
    · rw [ASt.new_ne _ _ _ e] at hs
      have hb := h.cells s cs' hs
      have hlt : s < g.n := by rw [h.n]; exact h.live s _ hs
      have hz : (g.loc s).2.1 < (g.loc s).2.2 → (g.loc s).1 < w.heap.size := fun hlt2 => by
        have := hb.there (g.loc s).2.1 (Nat.le_refl _) hlt2
        obtain ⟨u, hu⟩ := Option.isSome_iff_exists.1 this
        exact World.block_lt_of_cell? w _ hu
      refine hb.mono hle hlt (fun j h1 h2 => ?_) (fun j h1 h2 => ?_) (fun j h1 h2 => ?_)
      · have := hz (by omega)
        simp only [G.row]
        rw [if_neg (by omega)]
        exact hb.own j h1 h2
      · exact World.cell?_alloc_lt _ _ _ (hz (by omega))
      · exact World.frozen?_alloc_old _ _ _ (Nat.ne_of_lt (hz (by omega)))
  · intro s es hs
    by_cases e : s = st.ctr
    · subst e; rw [ASt.new_same] at hs; cases hs
    · rw [ASt.new_ne _ _ _ e] at hs; exact h.map s es hs
  · exact h.below.alloc h.base _
  · rw [alloc_size]; have := h.base; omega
  · exact h.marks.alloc us t lo hi hmk

theorem SInv.row {base : Nat} {w0 : World} {g : G} {st : ASt} {w : World} (h : SInv base w0 g st w) (us : Array Value) (t : TypeId) (m : Nat) (hm : m ≤ us.size) (cs : List AVal)
    (hcs : ∀ (j : Nat) (c : AVal), cs[j]? = some c → c.isCell = true ∧ ∃ u, us[m + j]? = some u ∧ Rep g c u) :
    g.le (g.row w.heap.size m us) ∧ SInv base w0 (g.row w.heap.size m us) (st.new (.cells cs)) (w.alloc (.cells us t)) :=
  h.rowM us t 0 0 (.inl rfl) m hm cs hcs

/-- A block that is told ends: nothing is told of it any more. -/
theorem SInv.kill {base : Nat} {w0 : World} {g : G} {st : ASt} {w : World} (h : SInv base w0 g st w) (s : Nat) : SInv base w0 g (st.set s none) w := by
  refine ⟨h.n, h.fr, h.fresh, fun k b hk => ?_, fun k cs hk => ?_, fun k es hk => ?_, h.below, h.base, h.marks⟩
  · by_cases e : k = s
    · subst e; rw [ASt.set_same] at hk; cases hk
    · rw [ASt.set_ne _ _ _ _ e] at hk; exact h.live k b hk
  · by_cases e : k = s
    · subst e; rw [ASt.set_same] at hk; cases hk
    · rw [ASt.set_ne _ _ _ _ e] at hk; exact h.cells k cs hk
  · by_cases e : k = s
    · subst e; rw [ASt.set_same] at hk; cases hk
    · rw [ASt.set_ne _ _ _ _ e] at hk; exact h.map k es hk

theorem isSome_setCell {w : World} {a b : Addr} {v : Value} (h : (w.cell? b).isSome = true) : ((w.setCell a v).cell? b).isSome = true := by
  by_cases e : a = b
  · subst e
    obtain ⟨u, hu⟩ := Option.isSome_iff_exists.1 h
    rw [World.cell?_setCell_same _ _ _ hu]; rfl
  · rw [World.cell?_setCell_other _ _ _ _ e]; exact h

/-- A cell of a block is written. -/
theorem SInv.store {base : Nat} {w0 : World} {g : G} {st : ASt} {w : World} (h : SInv base w0 g st w) {s j : Nat} {cs : List AVal} (hs : st.heap s = some (.cells cs)) (hj : j < cs.length)
    {c : AVal} {u : Value} (hc : c.isCell = true) (hu : Rep g c u) :
    SInv base w0 g (st.set s (some (.cells (cs.set j c)))) (w.setCell ⟨(g.loc s).1, (g.loc s).2.1 + j, none⟩ u) := by
  have hb := h.cells s cs hs
  have hfit := hb.fits
  have hown := hb.own ((g.loc s).2.1 + j) (by omega) (by omega)
  have other : ∀ B o, g.own B o ≠ .blk s → (w.setCell ⟨(g.loc s).1, (g.loc s).2.1 + j, none⟩ u).cell? ⟨B, o, none⟩ = w.cell? ⟨B, o, none⟩ := fun B o hne =>
    World.cell?_setCell_other _ _ _ _ (fun e => by
      injection e with e1 e2 e3
      rw [e1, e2] at hown
      exact hne hown)
  refine ⟨h.n, fun B o v hv => ?_, fun B o hB => ?_, fun k b hk => ?_, fun k cs' hk => ?_, fun k es hk => ?_, h.below.setCell hb.lo _, by simpa [World.setCell] using h.base, h.marks.setCell _ _⟩
  · rw [other B o (by rw [hv]; simp)]; exact h.fr B o v hv
  · exact h.fresh B o (by simpa [World.setCell] using hB)
  · by_cases e : k = s
    · subst e; exact h.live k _ hs
    · rw [ASt.set_ne _ _ _ _ e] at hk; exact h.live k b hk
  · by_cases e : k = s
    · subst e
      rw [ASt.set_same] at hk
      cases hk
      refine ⟨hb.lo, by simpa using hfit, hb.own, fun i h1 h2 => isSome_setCell (hb.there i h1 h2), fun i h1 h2 => by rw [World.frozen?_setCell]; exact hb.open_ i h1 h2, fun i c' hi => ?_⟩
      by_cases hij : i = j
      · subst hij
        rw [List.getElem?_set_self hj] at hi
        cases hi
        obtain ⟨u0, hu0⟩ := Option.isSome_iff_exists.1 (hb.there ((g.loc k).2.1 + i) (by omega) (by omega))
        exact ⟨hc, u, World.cell?_setCell_same _ _ _ hu0, hu⟩
      · rw [List.getElem?_set_ne (fun e => hij e.symm)] at hi
        obtain ⟨h1, u', h2, h3⟩ := hb.rep i c' hi
        exact ⟨h1, u', by rw [World.cell?_setCell_other _ _ _ _ (fun e => by injection e; omega)]; exact h2, h3⟩
    · rw [ASt.set_ne _ _ _ _ e] at hk
      have hb' := h.cells k cs' hk
      refine hb'.mono (G.le.refl g) (by rw [h.n]; exact h.live k _ hk) hb'.own (fun i h1 h2 => ?_) (fun i h1 h2 => World.frozen?_setCell _ _ _ _)
      exact other _ _ (by rw [hb'.own i h1 h2]; simpa using e)
  · by_cases e : k = s
    · subst e; rw [ASt.set_same] at hk; cases hk
    · rw [ASt.set_ne _ _ _ _ e] at hk; exact h.map k es hk

end Go.Proofs.YtjpehemkgikkdaaA
namespace Go.Proofs.YtjpehemkgikkdaaA
open Go Go.RowKit
set_option linter.unusedVariables false

/-- A row is made that is never written again. -/
def G.rowF (g : G) (B : Nat) (us : Array Value) : G where
  own := fun b o => if b = B then (match us[o]? with | some u => .frozen u | none => .free) else g.own b o
  loc := g.loc
  n := g.n

theorem SInv.rowF {base : Nat} {w0 : World} {g : G} {st : ASt} {w : World} (h : SInv base w0 g st w) (us : Array Value) (t : TypeId) :
    g.le (g.rowF w.heap.size us) ∧ SInv base w0 (g.rowF w.heap.size us) st (w.alloc (.cells us t)) := by
  have hle : g.le (g.rowF w.heap.size us) := by
    refine ⟨Nat.le_refl _, fun _ _ => rfl, fun b o v hv => ?_⟩
    have : b ≠ w.heap.size := by rintro rfl; rw [h.fresh _ _ (Nat.le_refl _)] at hv; cases hv
    simpa [G.rowF, this] using hv
  refine ⟨hle, h.n, fun B o v hv => ?_, fun B o hB => ?_, h.live, fun s cs hs => ?_, h.map, h.below.alloc h.base _, by rw [alloc_size]; have := h.base; omega, h.marks.alloc us t 0 0 (.inl rfl)⟩
  · simp only [G.rowF] at hv
    by_cases hB : B = w.heap.size
    · subst hB
      rw [if_pos rfl] at hv
      rw [World.cell?_alloc_new]
      cases hu : us[o]? with
      | none => rw [hu] at hv; cases hv
      | some u => rw [hu] at hv; cases hv; rfl
    · rw [if_neg hB] at hv
      rw [World.cell?_alloc_old _ _ _ hB]
      exact h.fr B o v hv
  · rw [alloc_size] at hB
    simp only [G.rowF]
    rw [if_neg (by omega)]
    exact h.fresh B o (by omega)
  · have hb := h.cells s cs hs
    have hz : (g.loc s).2.1 < (g.loc s).2.2 → (g.loc s).1 < w.heap.size := fun hlt2 => by
      obtain ⟨u, hu⟩ := Option.isSome_iff_exists.1 (hb.there (g.loc s).2.1 (Nat.le_refl _) hlt2)
      exact World.block_lt_of_cell? w _ hu
    refine hb.mono hle (by rw [h.n]; exact h.live s _ hs) (fun j h1 h2 => ?_) (fun j h1 h2 => ?_) (fun j h1 h2 => ?_)
    · have := hz (by omega)
      simp only [G.rowF]
      rw [if_neg (by omega)]
      exact hb.own j h1 h2
    · exact World.cell?_alloc_lt _ _ _ (hz (by omega))
    · exact World.frozen?_alloc_old _ _ _ (Nat.ne_of_lt (hz (by omega)))

/-- A block ends; what lies below `q` is never written again (where `fv` tells it), what lies from there on belongs to a new stamp. -/
def G.re (g : G) (s q : Nat) (fv : Nat → Option Value) : G where
  own := fun b j => if b = (g.loc s).1 ∧ (g.loc s).2.1 ≤ j ∧ j < (g.loc s).2.2 then (if j < q then (match fv j with | some v => .frozen v | none => .free) else .blk g.n) else g.own b j
  loc := fun k => if k = g.n then ((g.loc s).1, q, (g.loc s).2.2) else g.loc k
  n := g.n + 1

theorem isSome_setCells {b : Nat} : ∀ (vs : List Value) (o : Nat) (w : World) (x : Addr), (w.cell? x).isSome = true → ((w.setCells b o vs).cell? x).isSome = true
  | [], _, _, _, h => h
  | v :: r, o, w, x, h => by rw [World.setCells]; exact isSome_setCells r _ _ _ (isSome_setCell h)

theorem size_setCells {b : Nat} : ∀ (vs : List Value) (o : Nat) (w : World), (w.setCells b o vs).heap.size = w.heap.size
  | [], _, _ => rfl
  | v :: r, o, w => by rw [World.setCells, size_setCells r]; simp [World.setCell]

theorem below_setCells {B b : Nat} {w0 : World} (hB : B ≤ b) : ∀ (vs : List Value) (o : Nat) (w : World), Below B w0 w → Below B w0 (w.setCells b o vs)
  | [], _, _, h => h
  | v :: r, o, w, h => by rw [World.setCells]; exact below_setCells hB r _ _ (h.setCell hB _)

theorem SInv.re {base : Nat} {w0 : World} {g : G} {st : ASt} {w : World} (h : SInv base w0 g st w) {s : Nat} {cs : List AVal} (hs : st.heap s = some (.cells cs)) (us : List Value) (p q : Nat)
    (hp1 : (g.loc s).2.1 ≤ p) (hp2 : p + us.length ≤ (g.loc s).2.2) (hq1 : (g.loc s).2.1 ≤ q) (hq2 : q ≤ (g.loc s).2.2) (fv : Nat → Option Value)
    (hfv : ∀ j v, (g.loc s).2.1 ≤ j → j < q → fv j = some v → (w.setCells (g.loc s).1 p us).cell? ⟨(g.loc s).1, j, none⟩ = some v)
    (cs' : List AVal) (hl : q + cs'.length ≤ (g.loc s).2.2)
    (hcs : ∀ (j : Nat) (c : AVal), cs'[j]? = some c → c.isCell = true ∧ ∃ u, (w.setCells (g.loc s).1 p us).cell? ⟨(g.loc s).1, q + j, none⟩ = some u ∧ Rep g c u) :
    g.le (g.re s q fv) ∧ SInv base w0 (g.re s q fv) ((st.set s none).new (.cells cs')) (w.setCells (g.loc s).1 p us) := by
  have hb := h.cells s cs hs
  have hsn : s < g.n := by rw [h.n]; exact h.live s _ hs
  have hle : g.le (g.re s q fv) := by
    refine ⟨by simp [G.re], fun k hk => by simp [G.re]; omega, fun b j v hv => ?_⟩
    simp only [G.re]
    rw [if_neg (fun ⟨e1, e2, e3⟩ => by subst e1; rw [hb.own j e2 e3] at hv; cases hv)]
    exact hv
  have other : ∀ B o, g.own B o ≠ .blk s → (w.setCells (g.loc s).1 p us).cell? ⟨B, o, none⟩ = w.cell? ⟨B, o, none⟩ := fun B o hne => by
    refine World.cell?_setCells_out _ _ _ _ _ (fun e _ => ?_)
    simp only at e ⊢
    subst e
    rcases Nat.lt_or_ge o p with h1 | h1
    · exact .inl h1
    · rcases Nat.lt_or_ge o (p + us.length) with h2 | h2
      · exact absurd (hb.own o (by omega) (by omega)) hne
      · exact .inr h2
  have hloc : (g.re s q fv).loc st.ctr = ((g.loc s).1, q, (g.loc s).2.2) := by simp [G.re, h.n]
  refine ⟨hle, by simp [G.re, h.n], fun B o v hv => ?_, fun B o hB => ?_, fun k b hk => ?_, fun k cs'' hk => ?_, fun k es hk => ?_, below_setCells hb.lo _ _ _ h.below, by rw [size_setCells]; exact h.base, Marked.setCells _ _ _ h.marks⟩
  · simp only [G.re] at hv
    split at hv
    · rename_i hc
      obtain ⟨rfl, h2, h3⟩ := hc
      split at hv
      · rename_i hq
        cases hf : fv o with
        | none => rw [hf] at hv; cases hv
        | some u => rw [hf] at hv; cases hv; exact hfv o v h2 hq hf
      · cases hv
    · rw [other B o (by rw [hv]; simp)]
      exact h.fr B o v hv
  · rw [size_setCells] at hB
    simp only [G.re]
    rw [if_neg (fun ⟨e1, e2, e3⟩ => by
      obtain ⟨u, hu⟩ := Option.isSome_iff_exists.1 (hb.there o e2 e3)
      have := World.block_lt_of_cell? w _ hu
      simp only at this
      omega)]
    exact h.fresh B o hB
  · by_cases e : k = st.ctr
    · subst e; simp
    · have hk' : (st.set s none).heap k = some b := by
        have := ASt.new_ne (st.set s none) k (.cells cs') (by simpa using e)
        rw [this] at hk; exact hk
      by_cases e2 : k = s
      · subst e2; rw [ASt.set_same] at hk'; cases hk'
      · rw [ASt.set_ne _ _ _ _ e2] at hk'
        have := h.live k b hk'
        simp; omega
  · by_cases e : k = st.ctr
    · subst e
      have : ((st.set s none).new (.cells cs')).heap (st.set s none).ctr = _ := ASt.new_same _ _
      rw [ASt.set_ctr] at this
      rw [this] at hk
      cases hk
      refine ⟨by rw [hloc]; exact hb.lo, by rw [hloc]; exact hl, ?_, ?_, ?_, ?_⟩
      · rw [hloc]; intro j h1 h2
        simp only at h1 h2 ⊢
        simp only [G.re]
        rw [if_pos ⟨trivial, by omega, h2⟩, if_neg (by omega), h.n]
      · rw [hloc]; intro j h1 h2
        exact isSome_setCells _ _ _ _ (hb.there j (Nat.le_trans hq1 h1) h2)
      · rw [hloc]; intro j h1 h2
        rw [World.frozen?_setCells]
        exact hb.open_ j (Nat.le_trans hq1 h1) h2
      · rw [hloc]; intro j c hj
        obtain ⟨h1, u, h2, h3⟩ := hcs j c hj
        exact ⟨h1, u, h2, h3.mono hle⟩
    · have hk' : (st.set s none).heap k = some (.cells cs'') := by
        have := ASt.new_ne (st.set s none) k (.cells cs') (by simpa using e)
        rw [this] at hk; exact hk
      by_cases e2 : k = s
      · subst e2; rw [ASt.set_same] at hk'; cases hk'
      · rw [ASt.set_ne _ _ _ _ e2] at hk'
        have hb' := h.cells k cs'' hk'
        refine hb'.mono hle (by rw [h.n]; exact h.live k _ hk') (fun i h1 h2 => ?_) (fun i h1 h2 => ?_) (fun i h1 h2 => World.frozen?_setCells _ _ _ _ _)
        · simp only [G.re]
          rw [if_neg (fun ⟨e3, e4, e5⟩ => by
            have h6 := hb'.own i h1 h2
            rw [e3, hb.own i e4 e5] at h6
            injection h6 with h6
            exact e2 h6.symm)]
          exact hb'.own i h1 h2
        · exact other _ _ (by rw [hb'.own i h1 h2]; simpa using e2)
  · by_cases e : k = st.ctr
    · subst e
      have : ((st.set s none).new (.cells cs')).heap (st.set s none).ctr = _ := ASt.new_same _ _
      rw [ASt.set_ctr] at this
      rw [this] at hk
      cases hk
    · have hk' : (st.set s none).heap k = some (.map es) := by
        have := ASt.new_ne (st.set s none) k (.cells cs') (by simpa using e)
        rw [this] at hk; exact hk
      by_cases e2 : k = s
      · subst e2; rw [ASt.set_same] at hk'; cases hk'
      · rw [ASt.set_ne _ _ _ _ e2] at hk'; exact h.map k es hk'

/-- A row is marked as a string's, behind its last cell. -/
theorem SInv.freeze {base : Nat} {w0 : World} {g : G} {st : ASt} {w : World} (h : SInv base w0 g st w) {B : Nat} (hB : base ≤ B) {c : Array Value} {t : TypeId} {lo hi : Nat} (hc : w.heap[B]? = some (.cells c t (lo, hi))) :
    SInv base w0 g st (w.freeze ⟨B, c.size, none⟩ 1) := by
  have hm := h.marks B hB c t lo hi hc
  obtain ⟨lo', hi', hw', hm'⟩ : ∃ lo' hi', (w.freeze ⟨B, c.size, none⟩ 1) = { w with heap := w.heap.setIfInBounds B (.cells c t (lo', hi')) } ∧ c.size ≤ lo' := by
    refine ⟨if lo == hi then c.size else min lo c.size, if lo == hi then c.size + 1 else max hi (c.size + 1), ?_, ?_⟩
    · unfold World.freeze
      rw [if_neg (by decide)]
      congr 1
      apply Array.ext_getElem?
      intro i
      simp only [Array.getElem?_modify, Array.getElem?_setIfInBounds]
      by_cases hi' : B = i
      · subst hi'
        have hlt := (Array.getElem?_eq_some_iff.1 hc).1
        rw [if_pos rfl, if_pos rfl, if_pos hlt, hc]
        simp only [Option.map_some]
        split <;> rfl
      · rw [if_neg hi', if_neg hi']
    · split
      · exact Nat.le_refl _
      · rename_i hne
        rcases hm with h1 | h1
        · exact absurd (by simpa using h1) hne
        · omega
  rw [hw']
  have hlt := (Array.getElem?_eq_some_iff.1 hc).1
  have hget : ∀ i, ({ w with heap := w.heap.setIfInBounds B (.cells c t (lo', hi')) } : World).heap[i]? = if B = i then some (.cells c t (lo', hi')) else w.heap[i]? := fun i => by
    show (w.heap.setIfInBounds B (.cells c t (lo', hi')))[i]? = _
    rw [Array.getElem?_setIfInBounds]
    by_cases e : B = i
    · subst e; rw [if_pos rfl, if_pos rfl, if_pos hlt]
    · rw [if_neg e, if_neg e]
  have hcell : ∀ a, ({ w with heap := w.heap.setIfInBounds B (.cells c t (lo', hi')) } : World).cell? a = w.cell? a := fun a => by
    unfold World.cell?
    rw [hget]
    by_cases e : B = a.block
    · rw [if_pos e, ← e, hc]
    · rw [if_neg e]
  have hfro : ∀ b j, w.frozen? ⟨b, j, none⟩ = false → (w.cell? ⟨b, j, none⟩).isSome = true → ({ w with heap := w.heap.setIfInBounds B (.cells c t (lo', hi')) } : World).frozen? ⟨b, j, none⟩ = false := fun b j hf hs => by
    unfold World.frozen?
    rw [hget]
    by_cases e : B = b
    · subst e
      rw [if_pos rfl]
      simp only
      have hj : j < c.size := by
        obtain ⟨u, hu⟩ := Option.isSome_iff_exists.1 hs
        unfold World.cell? at hu
        rw [hc] at hu
        exact (Array.getElem?_eq_some_iff.1 (by simpa using hu)).1
      rw [decide_eq_false (by omega)]
      rfl
    · rw [if_neg e]
      exact hf
  refine ⟨h.n, fun B' o v hv => by rw [hcell]; exact h.fr B' o v hv, fun B' o hB' => h.fresh B' o (by simpa using hB'), h.live, fun s cs hs => ?_, h.map, ?_, by simpa using h.base, ?_⟩
  · have hb := h.cells s cs hs
    refine ⟨hb.lo, hb.fits, hb.own, fun j h1 h2 => by rw [hcell]; exact hb.there j h1 h2, fun j h1 h2 => hfro _ _ (hb.open_ j h1 h2) (hb.there j h1 h2), fun j x hj => ?_⟩
    obtain ⟨h1, u, h2, h3⟩ := hb.rep j x hj
    exact ⟨h1, u, by rw [hcell]; exact h2, h3⟩
  · refine ⟨h.below.os, h.below.tape, h.below.output, by simpa using h.below.size, fun k hk => ?_⟩
    rw [hget, if_neg (by omega)]
    exact h.below.block k hk
  · intro B' hB' c' t' lo2 hi2 hc'
    rw [hget] at hc'
    by_cases e : B = B'
    · rw [if_pos e] at hc'
      cases hc'
      exact .inr hm'
    · rw [if_neg e] at hc'
      exact h.marks B' hB' c' t' lo2 hi2 hc'

end Go.Proofs.YtjpehemkgikkdaaA
