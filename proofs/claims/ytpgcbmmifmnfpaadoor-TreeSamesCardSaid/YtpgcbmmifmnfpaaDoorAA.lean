/- A second, deterministic reading of the model's programs: values without addresses where memory is never written again, and what it means that a value of the model is told by such a value. No condition. -/
import Derived.Below
import Derived.Scope
import Derived.WalkKit
import Derived.Still
import Derived.Laws.IdiomCopy
import Derived.Laws.Tables
import Derived.Laws.IdiomStrings
import Derived.Deep.AppendSrc
import Derived.Deep.Upon
import Derived.Laws.Slices
import Derived.Laws.MakeOwn
namespace Go.Proofs.YtpgcbmmifmnfpaaDoorA
open Go Go.RowKit
set_option linter.unusedVariables false

/-! ### values -/
/-- what is known of a slice's capacity: it is its length; nothing; what lies behind it is owned by a stamp -/
inductive Cap where
  | exact
  | unk
  | tok (t : Nat)
  deriving DecidableEq, Inhabited

inductive AVal where
  | lit (v : Value)
  | agg (cs : List AVal)
  | tuple (vs : List AVal)
  | ptr (s off : Nat)
  | iptr (v : AVal)
  | slice (s off len sz : Nat) (cap : Option Nat)
  | islice (sz : Nat) (es : List AVal) (cap : Cap)
  | map (s : Nat)
  | func (fn : Fn) (first captured : List AVal)
  | iface (t : TypeId) (v : AVal)
  deriving Inhabited

/-- a value that is no address, and holds none -/
def flat : Value → Bool
  | .bool _ | .int .. | .float .. | .complex .. | .string _ | .pointer none | .slice _ 0 0 | .map none | .nilFunc | .nilIface => true
  | .func (.func _) f c => f.isEmpty && c.isEmpty
  | .iface _ (.int ..) => true
  | _ => false

def AVal.cells : AVal → List AVal
  | .agg cs => cs
  | v => [v]

def AVal.isCell : AVal → Bool
  | .agg _ | .tuple _ => false
  | _ => true

def AVal.int (k : IntKind) (n : Int) : AVal := .lit (.int k n)
def AVal.bool (b : Bool) : AVal := .lit (.bool b)
def AVal.str (s : ByteArray) : AVal := .lit (.string s)
def AVal.nilSlice : AVal := .lit (.slice none 0 0)
def AVal.nilPtr : AVal := .lit (.pointer none)
def AVal.undef : AVal := .tuple []

inductive Blk where
  | cells (cs : List AVal)
  | map (es : List (AVal × AVal))
  deriving Inhabited

structure ASt where
  heap : Nat → Option Blk
  ctr : Nat

def ASt.set (st : ASt) (s : Nat) (b : Option Blk) : ASt := { st with heap := fun k => if k = s then b else st.heap k }
def ASt.new (st : ASt) (b : Blk) : ASt := { heap := fun k => if k = st.ctr then some b else st.heap k, ctr := st.ctr + 1 }

@[simp] theorem ASt.set_ctr (st : ASt) (s : Nat) (b : Option Blk) : (st.set s b).ctr = st.ctr := rfl
@[simp] theorem ASt.new_ctr (st : ASt) (b : Blk) : (st.new b).ctr = st.ctr + 1 := rfl
theorem ASt.set_same (st : ASt) (s : Nat) (b : Option Blk) : (st.set s b).heap s = b := by simp [ASt.set]
theorem ASt.set_ne (st : ASt) (s k : Nat) (b : Option Blk) (h : k ≠ s) : (st.set s b).heap k = st.heap k := by simp [ASt.set, h]
theorem ASt.new_same (st : ASt) (b : Blk) : (st.new b).heap st.ctr = some b := by simp [ASt.new]
theorem ASt.new_ne (st : ASt) (k : Nat) (b : Blk) (h : k ≠ st.ctr) : (st.new b).heap k = st.heap k := by simp [ASt.new, h]

/-! ### what ties the two -/
inductive Own where
  | free
  | frozen (v : Value)
  | blk (s : Nat)

structure G where
  own : Nat → Nat → Own
  loc : Nat → Nat × Nat × Nat
  n : Nat
  dead : Nat → Prop

/-- a stamp that may be named -/
def G.ok (g : G) (s : Nat) : Prop := s < g.n ∧ ¬ g.dead s

structure G.le (g g' : G) : Prop where
  n : g.n ≤ g'.n
  ok : ∀ s, g.ok s → g'.ok s
  loc : ∀ s, g.ok s → g'.loc s = g.loc s
  frozen : ∀ B o v, g.own B o = .frozen v → g'.own B o = .frozen v
  dead : ∀ s, s < g.n → g.dead s → g'.dead s

theorem G.le.refl (g : G) : g.le g := ⟨Nat.le_refl _, fun _ h => h, fun _ _ => rfl, fun _ _ _ h => h, fun _ _ h => h⟩
theorem G.le.trans {a b c : G} (h : a.le b) (k : b.le c) : a.le c :=
  ⟨Nat.le_trans h.n k.n, fun s hs => k.ok s (h.ok s hs), fun s hs => (k.loc s (h.ok s hs)).trans (h.loc s hs), fun B o v hv => k.frozen B o v (h.frozen B o v hv), fun s hs hd => k.dead s (Nat.lt_of_lt_of_le hs h.n) (h.dead s hs hd)⟩

/-- what a slice's capacity is: `e` the cell behind its last element -/
def CapOK (g : G) (sz : Nat) (B o len cap : Nat) : Cap → Prop
  | .exact => cap = len
  | .unk => True
  | .tok t => g.ok t ∧ (g.loc t).1 = B ∧ (g.loc t).2.1 = o + len * sz ∧ (g.loc t).2.2 = o + cap * sz

inductive Rep (g : G) : AVal → Value → Prop
  | lit {v : Value} (h : flat v = true) : Rep g (.lit v) v
  | agg {cs : List AVal} {us : Array Value} (hl : us.size = cs.length) (h : ∀ (j : Nat) (c : AVal) (u : Value), cs[j]? = some c → us[j]? = some u → Rep g c u) (hc : ∀ c ∈ cs, c.isCell = true) : Rep g (.agg cs) (.agg us)
  | tuple {cs : List AVal} {us : Array Value} (hl : us.size = cs.length) (h : ∀ (j : Nat) (c : AVal) (u : Value), cs[j]? = some c → us[j]? = some u → Rep g c u) : Rep g (.tuple cs) (.tuple us)
  | ptr {s off : Nat} (h : g.ok s) : Rep g (.ptr s off) (.pointer (some ⟨(g.loc s).1, (g.loc s).2.1 + off, none⟩))
  | iptr {v : AVal} {B o : Nat} {f : Nat → Value} (h : ∀ (j : Nat) (c : AVal), v.cells[j]? = some c → g.own B (o + j) = .frozen (f j)) (h2 : ∀ (j : Nat) (c : AVal), v.cells[j]? = some c → Rep g c (f j))
      (hc : ∀ c ∈ v.cells, c.isCell = true) : Rep g (.iptr v) (.pointer (some ⟨B, o, none⟩))
  | slice {s off len sz cap : Nat} {kc : Option Nat} (h : g.ok s) (hk : ∀ k, kc = some k → cap = k) (hl : len ≤ cap) (hz : 0 < sz) (hx : kc = none → (g.loc s).2.1 + off + cap * sz = (g.loc s).2.2) :
      Rep g (.slice s off len sz kc) (.slice (some ⟨(g.loc s).1, (g.loc s).2.1 + off, none⟩) len cap)
  | islice {sz : Nat} {es : List AVal} {cap : Nat} {k : Cap} {B o : Nat} {f : Nat → Nat → Value} (hl : es.length ≤ cap)
      (hs : ∀ (i : Nat) (e : AVal), es[i]? = some e → e.cells.length = sz)
      (h : ∀ (i : Nat) (e : AVal) (j : Nat) (c : AVal), es[i]? = some e → e.cells[j]? = some c → g.own B (o + (i * sz + j)) = .frozen (f i j))
      (h2 : ∀ (i : Nat) (e : AVal) (j : Nat) (c : AVal), es[i]? = some e → e.cells[j]? = some c → Rep g c (f i j))
      (hc : ∀ (i : Nat) (e : AVal), es[i]? = some e → ∀ c ∈ e.cells, c.isCell = true)
      (hk : CapOK g sz B o es.length cap k) : Rep g (.islice sz es k) (.slice (some ⟨B, o, none⟩) es.length cap)
  | map {s : Nat} (h : g.ok s) : Rep g (.map s) (.map (some (g.loc s).1))
  | func {fn : Fn} {a b : List AVal} {us vs : Array Value} (hl : us.size = a.length) (h : ∀ (j : Nat) (c : AVal) (u : Value), a[j]? = some c → us[j]? = some u → Rep g c u)
      (hl2 : vs.size = b.length) (h2 : ∀ (j : Nat) (c : AVal) (u : Value), b[j]? = some c → vs[j]? = some u → Rep g c u) : Rep g (.func fn a b) (.func fn us vs)
  | iface {t : TypeId} {v : AVal} {u : Value} (h : Rep g v u) : Rep g (.iface t v) (.iface t u)

theorem Rep.mono {g g' : G} (hg : g.le g') {a : AVal} {v : Value} (h : Rep g a v) : Rep g' a v := by
  induction h with
  | lit h => exact .lit h
  | agg hl h hc ih => exact .agg hl (fun j c u a b => ih j c u a b) hc
  | tuple hl h ih => exact .tuple hl (fun j c u a b => ih j c u a b)
  | ptr h => rw [← hg.loc _ h]; exact .ptr (hg.ok _ h)
  | iptr h h2 hc ih => exact .iptr (fun j c hj => hg.frozen _ _ _ (h j c hj)) (fun j c hj => ih j c hj) hc
  | slice h hk hl hz hx => rw [← hg.loc _ h] at hx ⊢; exact .slice (hg.ok _ h) hk hl hz hx
  | islice hl hs h h2 hc hk ih =>
    refine .islice hl hs (fun i e j c he hj => hg.frozen _ _ _ (h i e j c he hj)) (fun i e j c he hj => ih i e j c he hj) hc ?_
    revert hk
    unfold CapOK
    split
    · exact id
    · exact id
    · rintro ⟨a, b⟩; rw [hg.loc _ a]; exact ⟨hg.ok _ a, b⟩
  | map h => rw [← hg.loc _ h]; exact .map (hg.ok _ h)
  | func hl h hl2 h2 ih ih2 => exact .func hl (fun j c u a b => ih j c u a b) hl2 (fun j c u a b => ih2 j c u a b)
  | iface h ih => exact .iface ih

/-- a list of values, each told -/
def Reps (g : G) (cs : List AVal) (us : List Value) : Prop := us.length = cs.length ∧ ∀ (j : Nat) (c : AVal) (u : Value), cs[j]? = some c → us[j]? = some u → Rep g c u

theorem Reps.mono {g g' : G} (hg : g.le g') {a : List AVal} {v : List Value} (h : Reps g a v) : Reps g' a v := ⟨h.1, fun j c u a b => (h.2 j c u a b).mono hg⟩

theorem Rep.flat {g : G} {v u : Value} (h : Rep g (.lit v) u) : u = v := by cases h; rfl

def cellv : Value → Bool
  | .agg _ | .tuple _ => false
  | _ => true

theorem flat_cellv {v : Value} (h : flat v = true) : cellv v = true := by
  cases v <;> first | rfl | exact absurd (show false = true from h) (by decide)

theorem cellv_cells {v : Value} (h : cellv v = true) : v.cells = #[v] := by
  cases v <;> first | rfl | exact absurd (show false = true from h) (by decide)

/-- a cell's value has one cell -/
theorem Rep.oneCell {g : G} {c : AVal} {u : Value} (h : Rep g c u) (hc : c.isCell = true) : cellv u = true := by
  cases h with
  | lit h => exact flat_cellv h
  | agg => simp [AVal.isCell] at hc
  | tuple => simp [AVal.isCell] at hc
  | _ => rfl

theorem Rep.cells {g : G} {c : AVal} {u : Value} (h : Rep g c u) (ht : ∀ vs, c ≠ .tuple vs) : Reps g c.cells u.cells.toList := by
  cases h with
  | agg hl h hc => exact ⟨by simpa [Value.cells, AVal.cells] using hl, fun j c u a b => h j c u a (by simpa [Value.cells] using b)⟩
  | tuple => exact absurd rfl (ht _)
  | lit h =>
    have : u.cells = #[u] := cellv_cells (flat_cellv h)
    refine ⟨by simp [AVal.cells, this], fun j c u' a b => ?_⟩
    cases j with
    | zero => simp [AVal.cells, this] at a b; subst a; subst b; exact .lit h
    | succ j => simp [AVal.cells] at a
  | _ =>
    refine ⟨rfl, fun j c u' a b => ?_⟩
    cases j with
    | zero => cases a; cases b; constructor <;> assumption
    | succ j => cases a

end Go.Proofs.YtpgcbmmifmnfpaaDoorA

/- What ties the worlds of the two readings, and how each step of memory keeps it. No condition. -/
namespace Go.Proofs.YtpgcbmmifmnfpaaDoorA
open Go Go.RowKit
set_option linter.unusedVariables false

/-- a block of the second reading, and the model's row that it tells of -/
structure BlkOK (base : Nat) (g : G) (s : Nat) (cs : List AVal) (w : World) : Prop where
  lo : base ≤ (g.loc s).1
  fits : (g.loc s).2.1 + cs.length ≤ (g.loc s).2.2
  own : ∀ j, (g.loc s).2.1 ≤ j → j < (g.loc s).2.2 → g.own (g.loc s).1 j = .blk s
  there : ∀ j, (g.loc s).2.1 ≤ j → j < (g.loc s).2.2 → (w.cell? ⟨(g.loc s).1, j, none⟩).isSome = true
  open_ : ∀ j, (g.loc s).2.1 ≤ j → j < (g.loc s).2.2 → w.frozen? ⟨(g.loc s).1, j, none⟩ = false
  rep : ∀ (j : Nat) (c : AVal), cs[j]? = some c → c.isCell = true ∧ ∃ u, w.cell? ⟨(g.loc s).1, (g.loc s).2.1 + j, none⟩ = some u ∧ Rep g c u

/-- of the rows that were made no cell is marked as a string's -/
def Marked (base : Nat) (g : G) (w : World) : Prop := ∀ B, base ≤ B → (∃ o, g.own B o ≠ .free) → ∀ c t lo hi, w.heap[B]? = some (.cells c t (lo, hi)) → lo = hi ∨ c.size ≤ lo

theorem Marked.drew {base : Nat} {g : G} {w : World} (h : Marked base g w) : Marked base g w.drew := h
theorem Marked.own {base : Nat} {g g' : G} {w : World} (h : Marked base g w) (ho : ∀ B o, g'.own B o ≠ .free → ∃ o', g.own B o' ≠ .free) : Marked base g' w :=
  fun B hB ⟨o, hn⟩ => h B hB (ho B o hn)

theorem Marked.alloc {base : Nat} {g g' : G} {w : World} (h : Marked base g w) (us : Array Value) (t : TypeId) (lo hi : Nat) (hm : lo = hi ∨ us.size ≤ lo) (ho : ∀ B o, B ≠ w.heap.size → g'.own B o ≠ .free → ∃ o', g.own B o' ≠ .free) : Marked base g' (w.alloc (.cells us t (lo, hi))) := by
  intro B hB ⟨o, hn⟩ c t' lo' hi' hc
  have hc' : (w.heap.push (.cells us t (lo, hi)))[B]? = some (.cells c t' (lo', hi')) := hc
  rw [Array.getElem?_push] at hc'
  split at hc'
  · cases hc'; exact hm
  · rename_i hne
    exact h B hB (ho B o hne hn) c t' lo' hi' hc'

theorem Marked.setCell {base : Nat} {g : G} {w : World} (h : Marked base g w) (a : Addr) (v : Value) : Marked base g (w.setCell a v) := by
  intro B hB hn c t lo hi hc
  simp only [World.setCell, Array.getElem?_modify] at hc
  split at hc
  · rename_i he
    cases hb : w.heap[B]? with
    | none => rw [hb] at hc; cases hc
    | some o =>
      rw [hb] at hc
      cases o with
      | cells c0 t0 f =>
        obtain ⟨lo0, hi0⟩ := f
        simp only [Option.map_some, Option.some.injEq, Obj.cells.injEq, Prod.mk.injEq] at hc
        obtain ⟨h1, h2, h3, h4⟩ := hc
        subst h3
        subst h4
        have := h B hB hn c0 t0 _ _ hb
        rw [← h1]
        split
        · exact this
        · simpa using this
      | _ => simp at hc
  · exact h B hB hn c t lo hi hc

theorem Marked.setCells {base : Nat} {g : G} {b : Nat} : ∀ (vs : List Value) (o : Nat) (w : World), Marked base g w → Marked base g (w.setCells b o vs)
  | [], _, _, h => h
  | v :: r, o, w, h => by rw [World.setCells]; exact Marked.setCells r _ _ (h.setCell _ _)

structure SInv (b0 : Nat) (w0 : World) (g : G) (st : ASt) (w : World) : Prop where
  n : g.n = st.ctr
  fr : ∀ B o v, g.own B o = .frozen v → w.cell? ⟨B, o, none⟩ = some v
  fresh : ∀ B o, w.heap.size ≤ B → g.own B o = .free
  live : ∀ s b, st.heap s = some b → g.ok s
  cells : ∀ s cs, st.heap s = some (.cells cs) → BlkOK b0 g s cs w
  map : ∀ s es, st.heap s ≠ some (.map es)
  below : Below b0 w0 w
  base : b0 ≤ w.heap.size
  marks : Marked b0 g w

theorem SInv.grow {b0 : Nat} {w0 : World} {g : G} {st : ASt} {w w' : World} (h : SInv b0 w0 g st w) (hb : Below w.heap.size w w')
    (hbm : ∀ {g g' : G} {s : Nat} {cs : List AVal} {w w' : World}, BlkOK b0 g s cs w → g.le g' → g.ok s → (∀ j, (g.loc s).2.1 ≤ j → j < (g.loc s).2.2 → g'.own (g.loc s).1 j = .blk s) →
      (∀ j, (g.loc s).2.1 ≤ j → j < (g.loc s).2.2 → w'.cell? ⟨(g.loc s).1, j, none⟩ = w.cell? ⟨(g.loc s).1, j, none⟩) → (∀ j, (g.loc s).2.1 ≤ j → j < (g.loc s).2.2 → w'.frozen? ⟨(g.loc s).1, j, none⟩ = w.frozen? ⟨(g.loc s).1, j, none⟩) → BlkOK b0 g' s cs w') : SInv b0 w0 g st w' := by
  have hlt : ∀ B o, g.own B o ≠ .free → B < w.heap.size := fun B o ho => Nat.lt_of_not_le fun hle => ho (h.fresh B o hle)
  have hc : ∀ B o, B < w.heap.size → w'.cell? ⟨B, o, none⟩ = w.cell? ⟨B, o, none⟩ := fun B o hB => by unfold World.cell?; rw [hb.block B hB]
  have hf : ∀ B o, B < w.heap.size → w'.frozen? ⟨B, o, none⟩ = w.frozen? ⟨B, o, none⟩ := fun B o hB => by unfold World.frozen?; rw [hb.block B hB]
  refine ⟨h.n, fun B o v hv => ?_, fun B o hB => h.fresh B o (Nat.le_trans hb.size hB), h.live, fun s cs hs => ?_, h.map, h.below.trans (hb.mono h.base), Nat.le_trans h.base hb.size, fun B hB ⟨o, ho⟩ c t lo hi hcc => ?_⟩
  · rw [hc B o (hlt B o (by rw [hv]; exact fun e => by cases e))]; exact h.fr B o v hv
  · have hk := h.cells s cs hs
    have hl : ∀ j, (g.loc s).2.1 ≤ j → j < (g.loc s).2.2 → (g.loc s).1 < w.heap.size := fun j h1 h2 => hlt _ j (by rw [hk.own j h1 h2]; exact fun e => by cases e)
    exact hbm hk (G.le.refl g) (h.live s _ hs) hk.own (fun j h1 h2 => hc _ _ (hl j h1 h2)) (fun j h1 h2 => hf _ _ (hl j h1 h2))
  · rw [hb.block B (hlt B o ho)] at hcc
    exact h.marks B hB ⟨o, ho⟩ c t lo hi hcc
theorem BlkOK.mono {base : Nat} {g g' : G} {s : Nat} {cs : List AVal} {w w' : World} (h : BlkOK base g s cs w) (hg : g.le g') (hs : g.ok s)
    (hown : ∀ j, (g.loc s).2.1 ≤ j → j < (g.loc s).2.2 → g'.own (g.loc s).1 j = .blk s)
    (hc : ∀ j, (g.loc s).2.1 ≤ j → j < (g.loc s).2.2 → w'.cell? ⟨(g.loc s).1, j, none⟩ = w.cell? ⟨(g.loc s).1, j, none⟩)
    (hf : ∀ j, (g.loc s).2.1 ≤ j → j < (g.loc s).2.2 → w'.frozen? ⟨(g.loc s).1, j, none⟩ = w.frozen? ⟨(g.loc s).1, j, none⟩) : BlkOK base g' s cs w' := by
  have e := hg.loc s hs
  refine ⟨by rw [e]; exact h.lo, by rw [e]; exact h.fits, by rw [e]; exact hown, ?_, ?_, ?_⟩
  · rw [e]; intro j a b; rw [hc j a b]; exact h.there j a b
  · rw [e]; intro j a b; rw [hf j a b]; exact h.open_ j a b
  · rw [e]; intro j c hj
    obtain ⟨h1, u, h2, h3⟩ := h.rep j c hj
    have hl := (List.getElem?_eq_some_iff.1 hj).1
    have hfit := h.fits
    exact ⟨h1, u, by rw [hc _ (by omega) (by omega)]; exact h2, h3.mono hg⟩

/-- a draw -/
theorem SInv.drew {base : Nat} {w0 : World} {g : G} {st : ASt} {w : World} (h : SInv base w0 g st w) : SInv base w0 g st w.drew :=
  ⟨h.n, h.fr, h.fresh, h.live, fun s cs hs => ⟨(h.cells s cs hs).lo, (h.cells s cs hs).fits, (h.cells s cs hs).own, (h.cells s cs hs).there, (h.cells s cs hs).open_, (h.cells s cs hs).rep⟩, h.map, h.below.drew, h.base, h.marks.drew⟩

theorem alloc_size (w : World) (o : Obj) : (w.alloc o).heap.size = w.heap.size + 1 := by
  show (w.heap.push o).size = _
  exact Array.size_push ..

/-- A row is made: its first `m` cells are never written again, the others belong to a new stamp, which tells the first of them. -/
def G.row (g : G) (B m : Nat) (us : Array Value) : G where
  own := fun b o => if b = B then (if o < m then (match us[o]? with | some u => .frozen u | none => .free) else if o < us.size then .blk g.n else .free) else g.own b o
  loc := fun s => if s = g.n then (B, m, us.size) else g.loc s
  n := g.n + 1
  dead := fun s => g.dead s ∧ s < g.n

theorem G.row_le {g : G} {B m : Nat} {us : Array Value} (hB : ∀ o, g.own B o = .free) : g.le (g.row B m us) := by
  refine ⟨by simp [G.row], fun s hs => ⟨Nat.lt_succ_of_lt hs.1, fun hd => hs.2 hd.1⟩, fun s hs => by have := hs.1; simp [G.row]; omega, fun b o v hv => ?_, fun s hs hd => ⟨hd, hs⟩⟩
  have : b ≠ B := by rintro rfl; rw [hB] at hv; cases hv
  simpa [G.row, this] using hv

theorem SInv.row_ok {base : Nat} {w0 : World} {g : G} {st : ASt} {w : World} (h : SInv base w0 g st w) (B m : Nat) (us : Array Value) : (g.row B m us).ok st.ctr := by
  rw [← h.n]
  exact ⟨Nat.lt_succ_self _, fun hd => Nat.lt_irrefl _ hd.2⟩

theorem SInv.rowM {base : Nat} {w0 : World} {g : G} {st : ASt} {w : World} (h : SInv base w0 g st w) (us : Array Value) (t : TypeId) (lo hi : Nat) (hmk : lo = hi ∨ us.size ≤ lo) (m : Nat) (hm : m ≤ us.size) (cs : List AVal)
    (hcs : ∀ (j : Nat) (c : AVal), cs[j]? = some c → c.isCell = true ∧ ∃ u, us[m + j]? = some u ∧ Rep g c u) :
    g.le (g.row w.heap.size m us) ∧ SInv base w0 (g.row w.heap.size m us) (st.new (.cells cs)) (w.alloc (.cells us t (lo, hi))) := by
  have hle : g.le (g.row w.heap.size m us) := G.row_le (fun o => h.fresh _ o (Nat.le_refl _))
  refine ⟨hle, ?_⟩
  have hlen : m + cs.length ≤ us.size := by
    rcases Nat.eq_zero_or_pos cs.length with h0 | h0
    · omega
    · obtain ⟨_, u, hu, _⟩ := hcs (cs.length - 1) _ (List.getElem?_eq_getElem (by omega))
      have := (Array.getElem?_eq_some_iff.1 hu).1
      omega
  constructor
  · simp [G.row, h.n]
  · intro B o v hv
    simp only [G.row] at hv
    by_cases hB : B = w.heap.size
    · subst hB
      simp only [if_true] at hv
      by_cases ho : o < m
      · rw [if_pos ho] at hv
        have hu : us[o]? = some us[o] := Array.getElem?_eq_getElem (by omega)
        rw [hu] at hv
        cases hv
        rw [World.cell?_alloc_mark, hu]
      · rw [if_neg ho] at hv
        split at hv <;> cases hv
    · rw [if_neg hB] at hv
      rw [World.cell?_alloc_old _ _ _ hB]
      exact h.fr B o v hv
  · intro B o hB
    rw [alloc_size] at hB
    simp only [G.row]
    rw [if_neg (by omega)]
    exact h.fresh B o (by omega)
  · intro s b hs
    simp only [ASt.new] at hs
    by_cases e : s = st.ctr
    · exact ⟨by simp [G.row, h.n]; omega, fun hd => by have := hd.2; rw [h.n] at this; omega⟩
    · rw [if_neg e] at hs
      exact hle.ok s (h.live s b hs)
  · intro s cs' hs
    by_cases e : s = st.ctr
    · subst e
      rw [ASt.new_same] at hs
      cases hs
      have hl : (g.row w.heap.size m us).loc st.ctr = (w.heap.size, m, us.size) := by simp [G.row, h.n]
      refine ⟨by rw [hl]; exact h.base, by rw [hl]; exact hlen, ?_, ?_, ?_, ?_⟩
      · rw [hl]; intro j h1 h2
        simp only at h1 h2 ⊢
        simp only [G.row, if_true]
        rw [if_neg (by omega), if_pos h2, h.n]
      · rw [hl]; intro j h1 h2
        simp only at h1 h2 ⊢
        rw [World.cell?_alloc_mark, Array.getElem?_eq_getElem h2]; rfl
      · rw [hl]; intro j h1 h2
        simp only at h1 h2 ⊢
        rw [World.frozen?_alloc_mark]
        rcases hmk with rfl | hmk
        · simp
        · rw [decide_eq_false (by omega)]; rfl
      · rw [hl]; intro j c hj
        obtain ⟨h1, u, h2, h3⟩ := hcs j c hj
        exact ⟨h1, u, by simp only; rw [World.cell?_alloc_mark]; exact h2, h3.mono hle⟩
    · rw [ASt.new_ne _ _ _ e] at hs
      have hb := h.cells s cs' hs
      have hlt : g.ok s := h.live s _ hs
      have hz : (g.loc s).2.1 < (g.loc s).2.2 → (g.loc s).1 < w.heap.size := fun hlt2 => by
        have := hb.there (g.loc s).2.1 (Nat.le_refl _) hlt2
        obtain ⟨u, hu⟩ := Option.isSome_iff_exists.1 this
        exact World.block_lt_of_cell? w _ hu
      refine hb.mono hle hlt (fun j h1 h2 => ?_) (fun j h1 h2 => ?_) (fun j h1 h2 => ?_)
      · have := hz (by omega)
        simp only [G.row]
        rw [if_neg (by omega)]
        exact hb.own j h1 h2
      · exact World.cell?_alloc_lt _ _ _ (hz (by omega))
      · exact World.frozen?_alloc_old _ _ _ (Nat.ne_of_lt (hz (by omega)))
  · intro s es hs
    by_cases e : s = st.ctr
    · subst e; rw [ASt.new_same] at hs; cases hs
    · rw [ASt.new_ne _ _ _ e] at hs; exact h.map s es hs
  · exact h.below.alloc h.base _
  · rw [alloc_size]; have := h.base; omega
  · exact h.marks.alloc us t lo hi hmk fun B o hne hf => ⟨o, by simpa [G.row, hne] using hf⟩

theorem SInv.row {base : Nat} {w0 : World} {g : G} {st : ASt} {w : World} (h : SInv base w0 g st w) (us : Array Value) (t : TypeId) (m : Nat) (hm : m ≤ us.size) (cs : List AVal)
    (hcs : ∀ (j : Nat) (c : AVal), cs[j]? = some c → c.isCell = true ∧ ∃ u, us[m + j]? = some u ∧ Rep g c u) :
    g.le (g.row w.heap.size m us) ∧ SInv base w0 (g.row w.heap.size m us) (st.new (.cells cs)) (w.alloc (.cells us t)) :=
  h.rowM us t 0 0 (.inl rfl) m hm cs hcs

/-- A block that is told ends: nothing is told of it any more. -/
theorem SInv.kill {base : Nat} {w0 : World} {g : G} {st : ASt} {w : World} (h : SInv base w0 g st w) (s : Nat) : SInv base w0 g (st.set s none) w := by
  refine ⟨h.n, h.fr, h.fresh, fun k b hk => ?_, fun k cs hk => ?_, fun k es hk => ?_, h.below, h.base, h.marks⟩
  · by_cases e : k = s
    · subst e; rw [ASt.set_same] at hk; cases hk
    · rw [ASt.set_ne _ _ _ _ e] at hk; exact h.live k b hk
  · by_cases e : k = s
    · subst e; rw [ASt.set_same] at hk; cases hk
    · rw [ASt.set_ne _ _ _ _ e] at hk; exact h.cells k cs hk
  · by_cases e : k = s
    · subst e; rw [ASt.set_same] at hk; cases hk
    · rw [ASt.set_ne _ _ _ _ e] at hk; exact h.map k es hk

theorem isSome_setCell {w : World} {a b : Addr} {v : Value} (h : (w.cell? b).isSome = true) : ((w.setCell a v).cell? b).isSome = true := by
  by_cases e : a = b
  · subst e
    obtain ⟨u, hu⟩ := Option.isSome_iff_exists.1 h
    rw [World.cell?_setCell_same _ _ _ hu]; rfl
  · rw [World.cell?_setCell_other _ _ _ _ e]; exact h

/-- A cell of a block is written. -/
theorem SInv.store {base : Nat} {w0 : World} {g : G} {st : ASt} {w : World} (h : SInv base w0 g st w) {s j : Nat} {cs : List AVal} (hs : st.heap s = some (.cells cs)) (hj : j < cs.length)
    {c : AVal} {u : Value} (hc : c.isCell = true) (hu : Rep g c u) :
    SInv base w0 g (st.set s (some (.cells (cs.set j c)))) (w.setCell ⟨(g.loc s).1, (g.loc s).2.1 + j, none⟩ u) := by
  have hb := h.cells s cs hs
  have hfit := hb.fits
  have hown := hb.own ((g.loc s).2.1 + j) (by omega) (by omega)
  have other : ∀ B o, g.own B o ≠ .blk s → (w.setCell ⟨(g.loc s).1, (g.loc s).2.1 + j, none⟩ u).cell? ⟨B, o, none⟩ = w.cell? ⟨B, o, none⟩ := fun B o hne =>
    World.cell?_setCell_other _ _ _ _ (fun e => by
      injection e with e1 e2 e3
      rw [e1, e2] at hown
      exact hne hown)
  refine ⟨h.n, fun B o v hv => ?_, fun B o hB => ?_, fun k b hk => ?_, fun k cs' hk => ?_, fun k es hk => ?_, h.below.setCell hb.lo _, by simpa [World.setCell] using h.base, h.marks.setCell _ _⟩
  · rw [other B o (by rw [hv]; simp)]; exact h.fr B o v hv
  · exact h.fresh B o (by simpa [World.setCell] using hB)
  · by_cases e : k = s
    · subst e; exact h.live k _ hs
    · rw [ASt.set_ne _ _ _ _ e] at hk; exact h.live k b hk
  · by_cases e : k = s
    · subst e
      rw [ASt.set_same] at hk
      cases hk
      refine ⟨hb.lo, by simpa using hfit, hb.own, fun i h1 h2 => isSome_setCell (hb.there i h1 h2), fun i h1 h2 => by rw [World.frozen?_setCell]; exact hb.open_ i h1 h2, fun i c' hi => ?_⟩
      by_cases hij : i = j
      · subst hij
        rw [List.getElem?_set_self hj] at hi
        cases hi
        obtain ⟨u0, hu0⟩ := Option.isSome_iff_exists.1 (hb.there ((g.loc k).2.1 + i) (by omega) (by omega))
        exact ⟨hc, u, World.cell?_setCell_same _ _ _ hu0, hu⟩
      · rw [List.getElem?_set_ne (fun e => hij e.symm)] at hi
        obtain ⟨h1, u', h2, h3⟩ := hb.rep i c' hi
        exact ⟨h1, u', by rw [World.cell?_setCell_other _ _ _ _ (fun e => by injection e; omega)]; exact h2, h3⟩
    · rw [ASt.set_ne _ _ _ _ e] at hk
      have hb' := h.cells k cs' hk
      refine hb'.mono (G.le.refl g) (h.live k _ hk) hb'.own (fun i h1 h2 => ?_) (fun i h1 h2 => World.frozen?_setCell _ _ _ _)
      exact other _ _ (by rw [hb'.own i h1 h2]; simpa using e)
  · by_cases e : k = s
    · subst e; rw [ASt.set_same] at hk; cases hk
    · rw [ASt.set_ne _ _ _ _ e] at hk; exact h.map k es hk

end Go.Proofs.YtpgcbmmifmnfpaaDoorA
namespace Go.Proofs.YtpgcbmmifmnfpaaDoorA
open Go Go.RowKit
set_option linter.unusedVariables false

/-- A row is made that is never written again. -/
def G.rowF (g : G) (B : Nat) (us : Array Value) : G where
  own := fun b o => if b = B then (match us[o]? with | some u => .frozen u | none => .free) else g.own b o
  loc := g.loc
  n := g.n
  dead := g.dead

theorem SInv.rowF {base : Nat} {w0 : World} {g : G} {st : ASt} {w : World} (h : SInv base w0 g st w) (us : Array Value) (t : TypeId) :
    g.le (g.rowF w.heap.size us) ∧ SInv base w0 (g.rowF w.heap.size us) st (w.alloc (.cells us t)) := by
  have hle : g.le (g.rowF w.heap.size us) := by
    refine ⟨Nat.le_refl _, fun _ h => h, fun _ _ => rfl, fun b o v hv => ?_, fun _ _ h => h⟩
    have : b ≠ w.heap.size := by rintro rfl; rw [h.fresh _ _ (Nat.le_refl _)] at hv; cases hv
    simpa [G.rowF, this] using hv
  refine ⟨hle, h.n, fun B o v hv => ?_, fun B o hB => ?_, h.live, fun s cs hs => ?_, h.map, h.below.alloc h.base _, by rw [alloc_size]; have := h.base; omega, h.marks.alloc us t 0 0 (.inl rfl) fun B o hne hf => ⟨o, by simpa [G.rowF, hne] using hf⟩⟩
  · simp only [G.rowF] at hv
    by_cases hB : B = w.heap.size
    · subst hB
      rw [if_pos rfl] at hv
      rw [World.cell?_alloc_new]
      cases hu : us[o]? with
      | none => rw [hu] at hv; cases hv
      | some u => rw [hu] at hv; cases hv; rfl
    · rw [if_neg hB] at hv
      rw [World.cell?_alloc_old _ _ _ hB]
      exact h.fr B o v hv
  · rw [alloc_size] at hB
    simp only [G.rowF]
    rw [if_neg (by omega)]
    exact h.fresh B o (by omega)
  · have hb := h.cells s cs hs
    have hz : (g.loc s).2.1 < (g.loc s).2.2 → (g.loc s).1 < w.heap.size := fun hlt2 => by
      obtain ⟨u, hu⟩ := Option.isSome_iff_exists.1 (hb.there (g.loc s).2.1 (Nat.le_refl _) hlt2)
      exact World.block_lt_of_cell? w _ hu
    refine hb.mono hle (h.live s _ hs) (fun j h1 h2 => ?_) (fun j h1 h2 => ?_) (fun j h1 h2 => ?_)
    · have := hz (by omega)
      simp only [G.rowF]
      rw [if_neg (by omega)]
      exact hb.own j h1 h2
    · exact World.cell?_alloc_lt _ _ _ (hz (by omega))
    · exact World.frozen?_alloc_old _ _ _ (Nat.ne_of_lt (hz (by omega)))

/-- A block ends; what lies below `q` is never written again (where `fv` tells it), what lies from there on belongs to a new stamp. -/
def G.re (g : G) (s q : Nat) (fv : Nat → Option Value) : G where
  own := fun b j => if b = (g.loc s).1 ∧ (g.loc s).2.1 ≤ j ∧ j < (g.loc s).2.2 then (if j < q then (match fv j with | some v => .frozen v | none => .free) else .blk g.n) else g.own b j
  loc := fun k => if k = g.n then ((g.loc s).1, q, (g.loc s).2.2) else g.loc k
  n := g.n + 1
  dead := fun k => g.dead k ∧ k < g.n

theorem isSome_setCells {b : Nat} : ∀ (vs : List Value) (o : Nat) (w : World) (x : Addr), (w.cell? x).isSome = true → ((w.setCells b o vs).cell? x).isSome = true
  | [], _, _, _, h => h
  | v :: r, o, w, x, h => by rw [World.setCells]; exact isSome_setCells r _ _ _ (isSome_setCell h)

theorem size_setCells {b : Nat} : ∀ (vs : List Value) (o : Nat) (w : World), (w.setCells b o vs).heap.size = w.heap.size
  | [], _, _ => rfl
  | v :: r, o, w => by rw [World.setCells, size_setCells r]; simp [World.setCell]

theorem below_setCells {B b : Nat} {w0 : World} (hB : B ≤ b) : ∀ (vs : List Value) (o : Nat) (w : World), Below B w0 w → Below B w0 (w.setCells b o vs)
  | [], _, _, h => h
  | v :: r, o, w, h => by rw [World.setCells]; exact below_setCells hB r _ _ (h.setCell hB _)

theorem SInv.re_ok {base : Nat} {w0 : World} {g : G} {st : ASt} {w : World} (h : SInv base w0 g st w) (s q : Nat) (fv : Nat → Option Value) : (g.re s q fv).ok st.ctr := by
  rw [← h.n]
  exact ⟨Nat.lt_succ_self _, fun hd => Nat.lt_irrefl _ hd.2⟩

theorem SInv.re {base : Nat} {w0 : World} {g : G} {st : ASt} {w : World} (h : SInv base w0 g st w) {s : Nat} {cs : List AVal} (hs : st.heap s = some (.cells cs)) (us : List Value) (p q : Nat)
    (hp1 : (g.loc s).2.1 ≤ p) (hp2 : p + us.length ≤ (g.loc s).2.2) (hq1 : (g.loc s).2.1 ≤ q) (hq2 : q ≤ (g.loc s).2.2) (fv : Nat → Option Value)
    (hfv : ∀ j v, (g.loc s).2.1 ≤ j → j < q → fv j = some v → (w.setCells (g.loc s).1 p us).cell? ⟨(g.loc s).1, j, none⟩ = some v)
    (cs' : List AVal) (hl : q + cs'.length ≤ (g.loc s).2.2)
    (hcs : ∀ (j : Nat) (c : AVal), cs'[j]? = some c → c.isCell = true ∧ ∃ u, (w.setCells (g.loc s).1 p us).cell? ⟨(g.loc s).1, q + j, none⟩ = some u ∧ Rep g c u) :
    g.le (g.re s q fv) ∧ SInv base w0 (g.re s q fv) ((st.set s none).new (.cells cs')) (w.setCells (g.loc s).1 p us) := by
  have hb := h.cells s cs hs
  have hsn : g.ok s := h.live s _ hs
  have hle : g.le (g.re s q fv) := by
    refine ⟨by simp [G.re], fun k hk => ⟨Nat.lt_succ_of_lt hk.1, fun hd => hk.2 hd.1⟩, fun k hk => by have := hk.1; simp [G.re]; omega, fun b j v hv => ?_, fun k hk hd => ⟨hd, hk⟩⟩
    simp only [G.re]
    rw [if_neg (fun ⟨e1, e2, e3⟩ => by subst e1; rw [hb.own j e2 e3] at hv; cases hv)]
    exact hv
  have other : ∀ B o, g.own B o ≠ .blk s → (w.setCells (g.loc s).1 p us).cell? ⟨B, o, none⟩ = w.cell? ⟨B, o, none⟩ := fun B o hne => by
    refine World.cell?_setCells_out _ _ _ _ _ (fun e _ => ?_)
    simp only at e ⊢
    subst e
    rcases Nat.lt_or_ge o p with h1 | h1
    · exact .inl h1
    · rcases Nat.lt_or_ge o (p + us.length) with h2 | h2
      · exact absurd (hb.own o (by omega) (by omega)) hne
      · exact .inr h2
  have hloc : (g.re s q fv).loc st.ctr = ((g.loc s).1, q, (g.loc s).2.2) := by simp [G.re, h.n]
  refine ⟨hle, by simp [G.re, h.n], fun B o v hv => ?_, fun B o hB => ?_, fun k b hk => ?_, fun k cs'' hk => ?_, fun k es hk => ?_, below_setCells hb.lo _ _ _ h.below, by rw [size_setCells]; exact h.base, Marked.setCells _ _ _ (h.marks.own fun B o hf => by
    by_cases hc : B = (g.loc s).1 ∧ (g.loc s).2.1 ≤ o ∧ o < (g.loc s).2.2
    · exact ⟨o, by rw [hc.1, hb.own o hc.2.1 hc.2.2]; exact fun e => by cases e⟩
    · exact ⟨o, by simpa [G.re, hc] using hf⟩)⟩
  · simp only [G.re] at hv
    split at hv
    · rename_i hc
      obtain ⟨rfl, h2, h3⟩ := hc
      split at hv
      · rename_i hq
        cases hf : fv o with
        | none => rw [hf] at hv; cases hv
        | some u => rw [hf] at hv; cases hv; exact hfv o v h2 hq hf
      · cases hv
    · rw [other B o (by rw [hv]; simp)]
      exact h.fr B o v hv
  · rw [size_setCells] at hB
    simp only [G.re]
    rw [if_neg (fun ⟨e1, e2, e3⟩ => by
      obtain ⟨u, hu⟩ := Option.isSome_iff_exists.1 (hb.there o e2 e3)
      have := World.block_lt_of_cell? w _ hu
      simp only at this
      omega)]
    exact h.fresh B o hB
  · by_cases e : k = st.ctr
    · subst e; exact ⟨by simp [G.re, h.n], fun hd => by have := hd.2; rw [h.n] at this; omega⟩
    · have hk' : (st.set s none).heap k = some b := by
        have := ASt.new_ne (st.set s none) k (.cells cs') (by simpa using e)
        rw [this] at hk; exact hk
      by_cases e2 : k = s
      · subst e2; rw [ASt.set_same] at hk'; cases hk'
      · rw [ASt.set_ne _ _ _ _ e2] at hk'
        exact hle.ok k (h.live k b hk')
  · by_cases e : k = st.ctr
    · subst e
      have : ((st.set s none).new (.cells cs')).heap (st.set s none).ctr = _ := ASt.new_same _ _
      rw [ASt.set_ctr] at this
      rw [this] at hk
      cases hk
      refine ⟨by rw [hloc]; exact hb.lo, by rw [hloc]; exact hl, ?_, ?_, ?_, ?_⟩
      · rw [hloc]; intro j h1 h2
        simp only at h1 h2 ⊢
        simp only [G.re]
        rw [if_pos ⟨trivial, by omega, h2⟩, if_neg (by omega), h.n]
      · rw [hloc]; intro j h1 h2
        exact isSome_setCells _ _ _ _ (hb.there j (Nat.le_trans hq1 h1) h2)
      · rw [hloc]; intro j h1 h2
        rw [World.frozen?_setCells]
        exact hb.open_ j (Nat.le_trans hq1 h1) h2
      · rw [hloc]; intro j c hj
        obtain ⟨h1, u, h2, h3⟩ := hcs j c hj
        exact ⟨h1, u, h2, h3.mono hle⟩
    · have hk' : (st.set s none).heap k = some (.cells cs'') := by
        have := ASt.new_ne (st.set s none) k (.cells cs') (by simpa using e)
        rw [this] at hk; exact hk
      by_cases e2 : k = s
      · subst e2; rw [ASt.set_same] at hk'; cases hk'
      · rw [ASt.set_ne _ _ _ _ e2] at hk'
        have hb' := h.cells k cs'' hk'
        refine hb'.mono hle (h.live k _ hk') (fun i h1 h2 => ?_) (fun i h1 h2 => ?_) (fun i h1 h2 => World.frozen?_setCells _ _ _ _ _)
        · simp only [G.re]
          rw [if_neg (fun ⟨e3, e4, e5⟩ => by
            have h6 := hb'.own i h1 h2
            rw [e3, hb.own i e4 e5] at h6
            injection h6 with h6
            exact e2 h6.symm)]
          exact hb'.own i h1 h2
        · exact other _ _ (by rw [hb'.own i h1 h2]; simpa using e2)
  · by_cases e : k = st.ctr
    · subst e
      have : ((st.set s none).new (.cells cs')).heap (st.set s none).ctr = _ := ASt.new_same _ _
      rw [ASt.set_ctr] at this
      rw [this] at hk
      cases hk
    · have hk' : (st.set s none).heap k = some (.map es) := by
        have := ASt.new_ne (st.set s none) k (.cells cs') (by simpa using e)
        rw [this] at hk; exact hk
      by_cases e2 : k = s
      · subst e2; rw [ASt.set_same] at hk'; cases hk'
      · rw [ASt.set_ne _ _ _ _ e2] at hk'; exact h.map k es hk'

/-- A row is marked as a string's, behind its last cell. -/
theorem SInv.freeze {base : Nat} {w0 : World} {g : G} {st : ASt} {w : World} (h : SInv base w0 g st w) {B : Nat} (hB : base ≤ B) {c : Array Value} {t : TypeId} {lo hi : Nat} (hc : w.heap[B]? = some (.cells c t (lo, hi))) :
    SInv base w0 g st (w.freeze ⟨B, c.size, none⟩ 1) := by
  have hm := fun ho => h.marks B hB ho c t lo hi hc
  obtain ⟨lo', hi', hw', hm'⟩ : ∃ lo' hi', (w.freeze ⟨B, c.size, none⟩ 1) = { w with heap := w.heap.setIfInBounds B (.cells c t (lo', hi')) } ∧ ((∃ o, g.own B o ≠ .free) → c.size ≤ lo') := by
    refine ⟨if lo == hi then c.size else min lo c.size, if lo == hi then c.size + 1 else max hi (c.size + 1), ?_, ?_⟩
    · unfold World.freeze
      rw [if_neg (by decide)]
      congr 1
      apply Array.ext_getElem?
      intro i
      simp only [Array.getElem?_modify, Array.getElem?_setIfInBounds]
      by_cases hi' : B = i
      · subst hi'
        have hlt := (Array.getElem?_eq_some_iff.1 hc).1
        rw [if_pos rfl, if_pos rfl, if_pos hlt, hc]
        simp only [Option.map_some]
        split <;> rfl
      · rw [if_neg hi', if_neg hi']
    · intro ho
      split
      · exact Nat.le_refl _
      · rename_i hne
        rcases hm ho with h1 | h1
        · exact absurd (by simpa using h1) hne
        · omega
  rw [hw']
  have hlt := (Array.getElem?_eq_some_iff.1 hc).1
  have hget : ∀ i, ({ w with heap := w.heap.setIfInBounds B (.cells c t (lo', hi')) } : World).heap[i]? = if B = i then some (.cells c t (lo', hi')) else w.heap[i]? := fun i => by
    show (w.heap.setIfInBounds B (.cells c t (lo', hi')))[i]? = _
    rw [Array.getElem?_setIfInBounds]
    by_cases e : B = i
    · subst e; rw [if_pos rfl, if_pos rfl, if_pos hlt]
    · rw [if_neg e, if_neg e]
  have hcell : ∀ a, ({ w with heap := w.heap.setIfInBounds B (.cells c t (lo', hi')) } : World).cell? a = w.cell? a := fun a => by
    unfold World.cell?
    rw [hget]
    by_cases e : B = a.block
    · rw [if_pos e, ← e, hc]
    · rw [if_neg e]
  have hfro : ∀ b j, w.frozen? ⟨b, j, none⟩ = false → (w.cell? ⟨b, j, none⟩).isSome = true → g.own b j ≠ .free → ({ w with heap := w.heap.setIfInBounds B (.cells c t (lo', hi')) } : World).frozen? ⟨b, j, none⟩ = false := fun b j hf hs ho => by
    unfold World.frozen?
    rw [hget]
    by_cases e : B = b
    · subst e
      rw [if_pos rfl]
      simp only
      have hj : j < c.size := by
        obtain ⟨u, hu⟩ := Option.isSome_iff_exists.1 hs
        unfold World.cell? at hu
        rw [hc] at hu
        exact (Array.getElem?_eq_some_iff.1 (by simpa using hu)).1
      have hm2 := hm' ⟨j, ho⟩
      rw [decide_eq_false (by omega)]
      rfl
    · rw [if_neg e]
      exact hf
  refine ⟨h.n, fun B' o v hv => by rw [hcell]; exact h.fr B' o v hv, fun B' o hB' => h.fresh B' o (by simpa using hB'), h.live, fun s cs hs => ?_, h.map, ?_, by simpa using h.base, ?_⟩
  · have hb := h.cells s cs hs
    refine ⟨hb.lo, hb.fits, hb.own, fun j h1 h2 => by rw [hcell]; exact hb.there j h1 h2, fun j h1 h2 => hfro _ _ (hb.open_ j h1 h2) (hb.there j h1 h2) (by rw [hb.own j h1 h2]; exact fun e => by cases e), fun j x hj => ?_⟩
    obtain ⟨h1, u, h2, h3⟩ := hb.rep j x hj
    exact ⟨h1, u, by rw [hcell]; exact h2, h3⟩
  · refine ⟨h.below.os, h.below.tape, h.below.output, by simpa using h.below.size, fun k hk => ?_⟩
    rw [hget, if_neg (by omega)]
    exact h.below.block k hk
  · intro B' hB' hn' c' t' lo2 hi2 hc'
    rw [hget] at hc'
    by_cases e : B = B'
    · rw [if_pos e] at hc'
      cases hc'
      exact .inr (hm' (by rw [e]; exact hn'))
    · rw [if_neg e] at hc'
      exact h.marks B' hB' hn' c' t' lo2 hi2 hc'

end Go.Proofs.YtpgcbmmifmnfpaaDoorA

/- The operations of the second reading that look at memory, make it or write it, and that the model's do the same. No condition. -/
namespace Go.Proofs.YtpgcbmmifmnfpaaDoorA
open Go Go.RowKit
set_option linter.unusedVariables false
set_option linter.unusedSimpArgs false

def szOf (P : Program) (t : TypeId) : Option Nat := (P.info? t).map (·.size)
def rowT : TypeDesc → Bool
  | .struct _ | .array _ _ => true
  | _ => false
def aggT (P : Program) (t : TypeId) : Option Bool := (P.underlying t).map rowT

/-- the zero value of a type, where no cell of it is an address -/
def absVal : Value → Option AVal
  | .agg cs => if cs.toList.all flat then some (.agg (cs.toList.map .lit)) else none
  | v => if flat v then some (.lit v) else none
def zeroA (P : Program) (t : TypeId) : Option AVal := ((P.info? t).bind (·.zero)).bind absVal

/-- `n` cells from `off` on as a value of the type -/
def partA (P : Program) (t : TypeId) (cs : List AVal) (off : Nat) : Option AVal :=
  match aggT P t, szOf P t with
  | some true, some sz => if off + sz ≤ cs.length then some (.agg ((cs.drop off).take sz)) else none
  | some false, some _ => cs[off]?
  | _, _ => none

def loadA (P : Program) (t : TypeId) (st : ASt) : AVal → Option AVal
  | .ptr s off => match st.heap s with
    | some (.cells cs) => partA P t cs off
    | _ => none
  | .iptr v => match aggT P t, szOf P t, v with
    | some true, some sz, .agg cs => if cs.length = sz then some (.agg cs) else none
    | some false, some _, v => if v.isCell then some v else none
    | _, _, _ => none
  | _ => none

theorem addr_add (B o i : Nat) : (⟨B, o, none⟩ : Addr).add i = ⟨B, o + i, none⟩ := by
  unfold Addr.add
  split
  · subst_vars; rfl
  · rfl

section
variable {P : Program} {w : World}

theorem run_typeInfo_of {t : TypeId} {i : TypeInfo} (h : P.info? t = some i) : (typeInfo t).run P w = .ok i w := by
  simp [typeInfo, h]
theorem run_underlying_of {t : TypeId} {d : TypeDesc} (h : P.underlying t = some d) : (underlying t).run P w = .ok d w := run_underlying h w
theorem run_sizeOf_of {t : TypeId} {n : Nat} (h : szOf P t = some n) : (sizeOf t).run P w = .ok n w := by
  unfold szOf at h
  cases hi : P.info? t with
  | none => rw [hi] at h; cases h
  | some i => rw [hi] at h; cases h; simp [sizeOf, run_typeInfo_of hi]
theorem run_isAgg_of {t : TypeId} {b : Bool} (h : aggT P t = some b) : (isAgg t).run P w = .ok b w := by
  unfold aggT at h
  cases hd : P.underlying t with
  | none => rw [hd] at h; cases h
  | some d => rw [hd] at h; cases h; cases d <;> simp [isAgg, run_underlying_of hd, rowT]
theorem run_zeroValue_of {t : TypeId} {i : TypeInfo} {z : Value} (h : P.info? t = some i) (hz : i.zero = some z) : (zeroValue t).run P w = .ok z w := by
  simp [zeroValue, run_typeInfo_of h, hz]

theorem run_load_of {a : Addr} {v : Value} (h : w.cell? a = some v) : (load a).run P w = .ok v w := by
  simp [load, Sem.run, h]

/-- a part of an aggregate -/
theorem part_sound {g : G} {t : TypeId} {cs : List AVal} {us : Array Value} {off : Nat} {v : AVal} (hr : Reps g cs us.toList) (hc : ∀ c ∈ cs, c.isCell = true) (h : partA P t cs off = some v) :
    ∃ u, (part t us off).run P w = .ok u w ∧ Rep g v u := by
  unfold partA at h
  split at h
  · rename_i sz ha hs
    split at h
    · rename_i hle
      cases h
      have hlen := hr.1
      refine ⟨_, by simp [part, run_isAgg_of ha, run_sizeOf_of hs]; rfl, .agg ?_ (fun j c u hj hu => ?_) (fun c hcm => hc c (List.mem_of_mem_drop (List.mem_of_mem_take hcm)))⟩
      · simp at hlen ⊢
        omega
      · have h1 : cs[off + j]? = some c := by
          rw [List.getElem?_take] at hj
          split at hj
          · rw [List.getElem?_drop] at hj; exact hj
          · cases hj
        refine hr.2 (off + j) c u h1 ?_
        simp only [Array.getElem?_extract] at hu
        split at hu
        · simpa using hu
        · cases hu
    · cases h
  · rename_i sz ha hs
    have hlt := (List.getElem?_eq_some_iff.1 h).1
    have hlen := hr.1
    have hu : us[off]? = some (us[off]'(by simp at hlen; omega)) := Array.getElem?_eq_getElem _
    exact ⟨us[off]'(by simp at hlen; omega), by simp [part, run_isAgg_of ha, hu], hr.2 off v _ h (by simp)⟩
  · cases h

/-- the cells of a block, told from a place on, are read -/
theorem load_cells {g : G} {t : TypeId} {B o : Nat} {cs : List AVal} {off : Nat} {v : AVal} (hc : ∀ (j : Nat) (c : AVal), cs[j]? = some c → c.isCell = true ∧ ∃ u, w.cell? ⟨B, o + j, none⟩ = some u ∧ Rep g c u)
    (h : partA P t cs off = some v) : ∃ u, (loadVar t ⟨B, o + off, none⟩).run P w = .ok u w ∧ Rep g v u := by
  unfold partA at h
  split at h
  · rename_i sz ha hs
    split at h
    · rename_i hle
      cases h
      let f : Nat → Value := fun j => (w.cell? ⟨B, o + j, none⟩).getD undef
      have hf : ∀ (j : Nat) (c : AVal), cs[j]? = some c → w.cell? ⟨B, o + j, none⟩ = some (f j) ∧ Rep g c (f j) := fun j c hj => by
        obtain ⟨_, u, hu, hr⟩ := hc j c hj
        have : f j = u := by simp [f, hu]
        rw [this]; exact ⟨hu, hr⟩
      have hrun := run_loadCells_list (P := P) (w := w) ⟨B, o + off, none⟩ ((List.range sz).map fun j => f (off + j)) (fun j u hj => by
        rw [addr_add]
        have hlt : j < sz := by have := (List.getElem?_eq_some_iff.1 hj).1; simp at this; exact this
        simp [hlt] at hj
        subst hj
        have h1 : cs[off + j]? = some (cs[off + j]'(by omega)) := List.getElem?_eq_getElem _
        have := (hf _ _ h1).1
        rwa [← Nat.add_assoc] at this)
      have e : ((List.range sz).map fun j => f (off + j)).length = sz := by simp
      rw [e] at hrun
      refine ⟨_, by simp [loadVar, run_isAgg_of ha, run_sizeOf_of hs, hrun]; rfl, .agg ?_ (fun j c u hj hu => ?_) (fun c hcm => ?_)⟩
      · simp; omega
      · have hlt : j < sz := by
          have := (List.getElem?_eq_some_iff.1 hj).1
          simp at this; omega
        have h1 : cs[off + j]? = some c := by
          rw [List.getElem?_take, if_pos hlt, List.getElem?_drop] at hj; exact hj
        have h2 := (hf _ _ h1).2
        simp [hlt] at hu
        subst hu
        exact h2
      · have := List.mem_of_mem_drop (List.mem_of_mem_take hcm)
        obtain ⟨j, hj⟩ := List.getElem?_of_mem this
        exact (hc j c hj).1
    · cases h
  · rename_i sz ha hs
    obtain ⟨_, u, hu, hr⟩ := hc off v h
    exact ⟨u, by simp [loadVar, run_isAgg_of ha, hu], hr⟩
  · cases h

theorem load_sound {base : Nat} {w0 : World} {g : G} {st : ASt} (h : SInv base w0 g st w) {t : TypeId} {a v : AVal} {u : Value} (hr : Rep g a u) (ha : loadA P t st a = some v) :
    ∃ u', (Instr.loadAt t u).run P w = .ok u' w ∧ Rep g v u' := by
  unfold loadA at ha
  split at ha
  · rename_i s off
    split at ha
    · rename_i cs hs
      cases hr
      obtain ⟨u', h1, h2⟩ := load_cells (P := P) (h.cells s cs hs).rep ha
      exact ⟨u', by simp [Instr.loadAt, Instr.sureAddr, h1], h2⟩
    · cases ha
  · rename_i v0
    cases hr
    rename_i B o f hf hf2 hcl
    have hc : ∀ (j : Nat) (c : AVal), v0.cells[j]? = some c → c.isCell = true ∧ ∃ u, w.cell? ⟨B, o + j, none⟩ = some u ∧ Rep g c u :=
      fun j c hj => ⟨hcl c (List.mem_of_getElem? hj), f j, h.fr _ _ _ (hf j c hj), hf2 j c hj⟩
    have key : partA P t v0.cells 0 = some v := by
      split at ha
      · rename_i sz cs e1 e2
        split at ha
        · rename_i e3
          cases ha
          simp [partA, e1, e2, AVal.cells, e3]
          rw [← e3]; simp
        · cases ha
      · rename_i e1 e2
        split at ha
        · rename_i hcell
          cases ha
          have : v.cells = [v] := by cases v <;> simp_all [AVal.cells, AVal.isCell]
          simp [partA, e1, e2, this]
        · cases ha
      · cases ha
    obtain ⟨u', h1, h2⟩ := load_cells (P := P) (o := o) (off := 0) hc key
    exact ⟨u', by simpa [Instr.loadAt, Instr.sureAddr] using h1, h2⟩
  · cases ha

end
end Go.Proofs.YtpgcbmmifmnfpaaDoorA

/- More operations of the second reading: a store, addresses of parts, what is made. No condition. -/
namespace Go.Proofs.YtpgcbmmifmnfpaaDoorA
open Go Go.RowKit
set_option linter.unusedVariables false
set_option linter.unusedSimpArgs false

/-! ### a store -/
def putL : List AVal → Nat → List AVal → List AVal
  | cs, _, [] => cs
  | cs, off, v :: r => putL (cs.set off v) (off + 1) r

def storeA (P : Program) (t : TypeId) (st : ASt) (a v : AVal) : Option ASt :=
  match a with
  | .ptr s off => match st.heap s with
    | some (.cells cs) =>
      if szOf P t = some v.cells.length ∧ off + v.cells.length ≤ cs.length ∧ v.cells.all AVal.isCell = true then some (st.set s (some (.cells (putL cs off v.cells)))) else none
    | _ => none
  | _ => none

theorem ASt.set_set (st : ASt) (s : Nat) (a b : Option Blk) : (st.set s a).set s b = st.set s b := by
  unfold ASt.set
  congr 1
  funext k
  by_cases h : k = s <;> simp [h]

theorem ASt.set_get (st : ASt) (s : Nat) (b : Option Blk) (h : st.heap s = b) : st.set s b = st := by
  unfold ASt.set
  cases st
  congr 1
  funext k
  by_cases e : k = s
  · subst e; simp at h; simp [h]
  · simp [e]

theorem store_many {base : Nat} {w0 : World} {g : G} {s : Nat} : ∀ (vs : List AVal) (us : List Value) (cs : List AVal) (off : Nat) (st : ASt) (w : World), SInv base w0 g st w →
    st.heap s = some (.cells cs) → off + vs.length ≤ cs.length → (∀ c ∈ vs, c.isCell = true) → Reps g vs us →
    SInv base w0 g (st.set s (some (.cells (putL cs off vs)))) (w.setCells (g.loc s).1 ((g.loc s).2.1 + off) us)
  | [], us, cs, off, st, w, h, hs, _, _, hr => by
    have : us = [] := by have := hr.1; simpa using this
    subst this
    rw [putL, ASt.set_get _ _ _ hs]
    exact h
  | v :: r, us, cs, off, st, w, h, hs, hl, hc, hr => by
    obtain ⟨hlen, hat⟩ := hr
    match us, hlen with
    | u :: us, hlen =>
      have h1 := h.store hs (j := off) (by simp at hl; omega) (hc v (by simp)) (hat 0 v u rfl rfl)
      have h2 := store_many r us (cs.set off v) (off + 1) _ _ h1 (ASt.set_same _ _ _) (by simp at hl ⊢; omega) (fun c hm => hc c (by simp [hm])) ⟨by simpa using hlen, fun j c u' a b => hat (j + 1) c u' (by simpa using a) (by simpa using b)⟩
      rw [ASt.set_set] at h2
      rw [putL, World.setCells, Nat.add_assoc]
      exact h2

section
variable {P : Program} {w : World}

theorem Rep.cell' {g : G} {c : AVal} {u : Value} (h : Rep g c u) (hc : c.isCell = true) : u.oneCell' = true := by
  have := h.oneCell hc
  cases u <;> first | rfl | exact this

theorem Reps.cells' {g : G} {cs : List AVal} {us : List Value} (h : Reps g cs us) (hc : ∀ c ∈ cs, c.isCell = true) : ∀ u ∈ us, u.oneCell' = true := by
  intro u hu
  obtain ⟨j, hj⟩ := List.getElem?_of_mem hu
  have hl := (List.getElem?_eq_some_iff.1 hj).1
  have h1 : cs[j]? = some (cs[j]'(by have := h.1; omega)) := List.getElem?_eq_getElem _
  exact (h.2 j _ u h1 hj).cell' (hc _ (List.mem_of_getElem? h1))

theorem store_sound {base : Nat} {w0 : World} {g : G} {st st' : ASt} (h : SInv base w0 g st w) {t : TypeId} {a v : AVal} {p u : Value} (hp : Rep g a p) (hu : Rep g v u) (ha : storeA P t st a v = some st') :
    ∃ w', (Instr.storeAt t p u).run P w = .ok () w' ∧ SInv base w0 g st' w' := by
  unfold storeA at ha
  split at ha
  · rename_i s off
    split at ha
    · rename_i cs hs
      split at ha
      · rename_i hc
        obtain ⟨h1, h2, h3⟩ := hc
        cases ha
        cases hp
        have hv : ∀ vs, v ≠ .tuple vs := by
          rintro vs rfl
          simp [AVal.cells, AVal.isCell] at h3
        have hcells := hu.cells hv
        have hcl : ∀ c ∈ v.cells, c.isCell = true := fun c hm => by
          have := List.all_eq_true.1 h3 c hm
          exact this
        have hb := h.cells s cs hs
        have hfit := hb.fits
        have hlen := hcells.1
        have hrun := run_storeCells_cells (P := P) (g.loc s).1 ((g.loc s).2.1 + off) u.cells.toList 0 w
          (fun j hj => hb.there _ (by omega) (by omega)) (fun j hj => hb.open_ _ (by omega) (by omega)) (hcells.cells' hcl)
        refine ⟨_, ?_, store_many v.cells u.cells.toList cs off st w h hs h2 hcl hcells⟩
        have e : u.cells.size = v.cells.length := by simpa using hlen
        simp only [Instr.storeAt, Instr.sureAddr, storeVar]
        simp [run_sizeOf_of h1, e]
        simpa using hrun
      · cases ha
    · cases ha
  · cases ha

/-! ### the address of a part -/
def partPtr (P : Program) (t : TypeId) (off : Nat) : AVal → Option AVal
  | .ptr s o => some (.ptr s (o + off))
  | .iptr (.agg cs) => (partA P t cs off).map .iptr
  | _ => none

def fieldA (P : Program) (s : TypeId) (a : AVal) (f : Nat) : Option AVal :=
  match P.underlying s with
  | some (.struct fs) => match fs[f]? with
    | some fd => match szOf P fd.type with
      | some (_ + 1) => partPtr P fd.type fd.offset a
      | _ => none
    | none => none
  | _ => none

theorem partPtr_sound {g : G} {t : TypeId} {off : Nat} {a v : AVal} {p : Value} (hp : Rep g a p) (h : partPtr P t off a = some v) :
    ∃ B o, p = .pointer (some ⟨B, o, none⟩) ∧ Rep g v (.pointer (some ⟨B, o + off, none⟩)) := by
  unfold partPtr at h
  split at h
  · rename_i s o
    cases h
    cases hp
    rename_i hs
    refine ⟨_, _, rfl, ?_⟩
    rw [Nat.add_assoc]
    exact .ptr hs
  · rename_i cs
    cases hp
    rename_i B o f hf hf2 hc
    refine ⟨B, o, rfl, ?_⟩
    cases hpa : partA P t cs off with
    | none => rw [hpa] at h; cases h
    | some v' =>
      rw [hpa] at h
      cases h
      have hcs : (AVal.agg cs).cells = cs := rfl
      rw [hcs] at hf hf2 hc
      unfold partA at hpa
      split at hpa
      · rename_i sz _ _
        split at hpa
        · cases hpa
          refine .iptr (f := fun j => f (off + j)) (fun j c hj => ?_) (fun j c hj => ?_) (fun c hm => hc c (List.mem_of_mem_drop (List.mem_of_mem_take hm)))
          · have hj' : ((cs.drop off).take sz)[j]? = some c := hj
            rw [List.getElem?_take] at hj'
            split at hj'
            · rw [List.getElem?_drop] at hj'
              rw [Nat.add_assoc]
              exact hf _ c hj'
            · cases hj'
          · have hj' : ((cs.drop off).take sz)[j]? = some c := hj
            rw [List.getElem?_take] at hj'
            split at hj'
            · rw [List.getElem?_drop] at hj'
              exact hf2 _ c hj'
            · cases hj'
        · cases hpa
      · have hcell := hc v' (List.mem_of_getElem? hpa)
        have e : v'.cells = [v'] := by cases v' <;> simp_all [AVal.cells, AVal.isCell]
        refine .iptr (f := fun _ => f off) (fun j c hj => ?_) (fun j c hj => ?_) (fun c hm => by rw [e] at hm; simp at hm; rw [hm]; exact hcell)
        · rw [e] at hj
          cases j with
          | zero => cases hj; exact hf off _ hpa
          | succ j => cases hj
        · rw [e] at hj
          cases j with
          | zero => cases hj; exact hf2 off _ hpa
          | succ j => cases hj
      · cases hpa
  · cases h

theorem field_sound {g : G} {s : TypeId} {f : Nat} {a v : AVal} {p : Value} (hp : Rep g a p) (h : fieldA P s a f = some v) :
    ∃ u, (Instr.fieldAt s p f).run P w = .ok u w ∧ Rep g v u := by
  unfold fieldA at h
  split at h
  · rename_i fs hu
    split at h
    · rename_i fd hf
      split at h
      · rename_i n hz
        obtain ⟨B, o, rfl, hr⟩ := partPtr_sound hp h
        refine ⟨_, ?_, hr⟩
        simp [Instr.fieldAt, run_underlying_of hu, hf, Instr.sureAddr, fieldPlace, run_sizeOf_of hz, addr_add]
      · cases h
    · cases h
  · cases h

/-! ### what a value tells of its kind -/
theorem Rep.slice_inv {g : G} {s off len sz : Nat} {kc : Option Nat} {u : Value} (h : Rep g (.slice s off len sz kc) u) :
    ∃ cap, u = .slice (some ⟨(g.loc s).1, (g.loc s).2.1 + off, none⟩) len cap ∧ g.ok s ∧ (∀ k, kc = some k → cap = k) ∧ len ≤ cap ∧ 0 < sz ∧ (kc = none → (g.loc s).2.1 + off + cap * sz = (g.loc s).2.2) := by
  cases h
  exact ⟨_, rfl, by assumption, by assumption, by assumption, by assumption, by assumption⟩

theorem Rep.islice_inv {g : G} {sz : Nat} {es : List AVal} {k : Cap} {u : Value} (h : Rep g (.islice sz es k) u) :
    ∃ (cap B o : Nat) (f : Nat → Nat → Value), u = .slice (some ⟨B, o, none⟩) es.length cap ∧ es.length ≤ cap ∧ (∀ (i : Nat) (e : AVal), es[i]? = some e → e.cells.length = sz) ∧
      (∀ (i : Nat) (e : AVal) (j : Nat) (c : AVal), es[i]? = some e → e.cells[j]? = some c → g.own B (o + (i * sz + j)) = .frozen (f i j)) ∧
      (∀ (i : Nat) (e : AVal) (j : Nat) (c : AVal), es[i]? = some e → e.cells[j]? = some c → Rep g c (f i j)) ∧
      (∀ (i : Nat) (e : AVal), es[i]? = some e → ∀ c ∈ e.cells, c.isCell = true) ∧ CapOK g sz B o es.length cap k := by
  cases h
  exact ⟨_, _, _, _, rfl, by assumption, by assumption, by assumption, by assumption, by assumption, by assumption⟩

theorem Rep.agg_inv {g : G} {cs : List AVal} {u : Value} (h : Rep g (.agg cs) u) : ∃ us : Array Value, u = .agg us ∧ Reps g cs us.toList ∧ ∀ c ∈ cs, c.isCell = true := by
  cases h
  rename_i us hl hr hc
  exact ⟨us, rfl, ⟨by simpa using hl, fun j c u a b => hr j c u a (by simpa using b)⟩, hc⟩

/-! ### an index -/
def intOfA : AVal → Option Int
  | .lit (.int _ i) => some i
  | _ => none

def elemA (P : Program) (e : TypeId) (len : Nat) (a : AVal) (i : Int) : Option AVal :=
  if 0 ≤ i ∧ i < len then match szOf P e with
    | some sz => partPtr P e (i.toNat * sz) a
    | none => none
  else none

def indexA (P : Program) (t : TypeId) (a ix : AVal) : Option AVal :=
  match P.underlying t, intOfA ix with
  | some (.array len e), some i => elemA P e len a i
  | some (.slice e), some i => match a with
    | .slice s off len _ _ => elemA P e len (.ptr s off) i
    | .islice sz es _ => if 0 ≤ i ∧ i < es.length ∧ szOf P e = some sz then (es[i.toNat]?).map .iptr else none
    | _ => none
  | _, _ => none

theorem Rep.int_inv {g : G} {a : AVal} {u : Value} {i : Int} (h : Rep g a u) (hi : intOfA a = some i) : ∃ k, u = .int k i := by
  unfold intOfA at hi
  split at hi
  · cases hi; exact ⟨_, h.flat⟩
  · cases hi

theorem index_sound {g : G} {t : TypeId} {a ix v : AVal} {p q : Value} (hp : Rep g a p) (hq : Rep g ix q) (h : indexA P t a ix = some v) :
    ∃ u, (Instr.indexAt t p q).run P w = .ok u w ∧ Rep g v u := by
  unfold indexA at h
  split at h
  · rename_i len e i hu hi
    obtain ⟨k, rfl⟩ := hq.int_inv hi
    unfold elemA at h
    split at h
    · rename_i hb
      split at h
      · rename_i sz hz
        obtain ⟨B, o, rfl, hr⟩ := partPtr_sound hp h
        refine ⟨_, ?_, hr⟩
        simp [Instr.indexAt, asIntOf, run_underlying_of hu, Instr.sureAddr, hb, run_sizeOf_of hz, addr_add]
      · cases h
    · cases h
  · rename_i e i hu hi
    obtain ⟨k, rfl⟩ := hq.int_inv hi
    split at h
    · rename_i s off len sz' cap
      obtain ⟨cap', rfl, hs, _⟩ := hp.slice_inv
      unfold elemA at h
      split at h
      · rename_i hb
        split at h
        · rename_i sz hz
          cases h
          refine ⟨_, ?_, .ptr hs⟩
          simp [Instr.indexAt, asIntOf, run_underlying_of hu, Instr.sureAddr, hb, run_sizeOf_of hz, addr_add, Nat.add_assoc]
        · cases h
      · cases h
    · rename_i sz es c
      obtain ⟨cap', B, o, f, rfl, hl, hs, hf, hf2, hc, hk⟩ := hp.islice_inv
      split at h
      · rename_i hb
        obtain ⟨b0, b1, hz⟩ := hb
        cases he : es[i.toNat]? with
        | none => rw [he] at h; cases h
        | some e' =>
          rw [he] at h
          cases h
          refine ⟨_, ?_, .iptr (B := B) (o := o + i.toNat * sz) (f := f i.toNat) (fun j c hj => ?_) (fun j c hj => hf2 _ _ j c he hj) (hc _ _ he)⟩
          · simp [Instr.indexAt, asIntOf, run_underlying_of hu, Instr.sureAddr, b0, b1, run_sizeOf_of hz, addr_add]
          · rw [Nat.add_assoc]
            exact hf _ _ j c he hj
      · cases h
    · cases h
  · cases h

/-! ### parts of values -/
def fieldV (P : Program) (s : TypeId) (a : AVal) (f : Nat) : Option AVal :=
  match P.underlying s, a with
  | some (.struct fs), .agg cs => match fs[f]? with
    | some fd => partA P fd.type cs fd.offset
    | none => none
  | _, _ => none

def indexV (P : Program) (t : TypeId) (a ix : AVal) : Option AVal :=
  match P.underlying t, a, intOfA ix with
  | some (.array len e), .agg cs, some i => if 0 ≤ i ∧ i < len then match szOf P e with
      | some sz => partA P e cs (i.toNat * sz)
      | none => none
    else none
  | _, _, _ => none

theorem fieldV_sound {g : G} {s : TypeId} {f : Nat} {a v : AVal} {p : Value} (hp : Rep g a p) (h : fieldV P s a f = some v) :
    ∃ u, (Instr.field s p f).run P w = .ok u w ∧ Rep g v u := by
  unfold fieldV at h
  split at h
  · rename_i fs cs hu
    split at h
    · rename_i fd hf
      obtain ⟨us, rfl, hr, hc⟩ := hp.agg_inv
      obtain ⟨u, h1, h2⟩ := part_sound (P := P) (w := w) hr hc h
      refine ⟨u, ?_, h2⟩
      simp [Instr.field, run_underlying_of hu, hf, asAgg, h1]
    · cases h
  · cases h

theorem indexV_sound {g : G} {t : TypeId} {a ix v : AVal} {p q : Value} (hp : Rep g a p) (hq : Rep g ix q) (h : indexV P t a ix = some v) :
    ∃ u, (Instr.index t p q).run P w = .ok u w ∧ Rep g v u := by
  unfold indexV at h
  split at h
  · rename_i len e cs i hu hi
    obtain ⟨k, rfl⟩ := hq.int_inv hi
    split at h
    · rename_i hb
      split at h
      · rename_i sz hz
        obtain ⟨us, rfl, hr, hc⟩ := hp.agg_inv
        obtain ⟨u, h1, h2⟩ := part_sound (P := P) (w := w) hr hc h
        refine ⟨u, ?_, h2⟩
        simp [Instr.index, asIntOf, run_underlying_of hu, hb, run_sizeOf_of hz, h1]
      · cases h
    · cases h
  · cases h

def extractA (a : AVal) (i : Nat) : Option AVal :=
  match a with
  | .tuple vs => vs[i]?
  | _ => none

theorem extract_sound {g : G} {a v : AVal} {i : Nat} {p : Value} (hp : Rep g a p) (h : extractA a i = some v) : ∃ u, (Instr.extract p i).run P w = .ok u w ∧ Rep g v u := by
  unfold extractA at h
  split at h
  · cases hp
    rename_i us hl hr
    have hlt := (List.getElem?_eq_some_iff.1 h).1
    have hu : us[i]? = some (us[i]'(by omega)) := Array.getElem?_eq_getElem _
    exact ⟨_, by simp [Instr.extract, hu], hr i v _ h hu⟩
  · cases h

end
end Go.Proofs.YtpgcbmmifmnfpaaDoorA

/- More operations of the second reading: what is made. No condition. -/
namespace Go.Proofs.YtpgcbmmifmnfpaaDoorA
open Go Go.RowKit
set_option linter.unusedVariables false
set_option linter.unusedSimpArgs false

theorem reps_lits {g : G} {us : List Value} (h : us.all flat = true) : Reps g (us.map .lit) us := by
  refine ⟨by simp, fun j c u a b => ?_⟩
  simp [b] at a
  subst a
  exact .lit (List.all_eq_true.1 h u (List.mem_of_getElem? b))

theorem absVal_rep {g : G} {z : Value} {v : AVal} (h : absVal z = some v) : Rep g v z ∧ (∀ c ∈ v.cells, c.isCell = true) ∧ Reps g v.cells z.cells.toList := by
  unfold absVal at h
  split at h
  · rename_i cs
    split at h
    · rename_i hf
      cases h
      have hr := reps_lits (g := g) hf
      have hc : ∀ c ∈ (cs.toList.map AVal.lit), c.isCell = true := by
        intro c hc
        obtain ⟨u, _, rfl⟩ := List.mem_map.1 hc
        rfl
      exact ⟨.agg (by simp) (fun j c u a b => hr.2 j c u a (by simpa using b)) hc, hc, hr⟩
    · cases h
  · split at h
    · rename_i hf
      cases h
      have hr : Rep g (.lit z) z := .lit hf
      refine ⟨hr, fun c hc => ?_, hr.cells (by intro vs e; cases e)⟩
      simp [AVal.cells] at hc
      subst hc; rfl
    · cases h

def newA (st : ASt) (cs : List AVal) : Option (AVal × ASt) := if cs.all AVal.isCell = true then some (.ptr st.ctr 0, st.new (.cells cs)) else none

def allocA (P : Program) (e : TypeId) (st : ASt) : Option (AVal × ASt) := (zeroA P e).bind fun v => newA st v.cells
def boxA (v : AVal) (st : ASt) : Option (AVal × ASt) := newA st v.cells

section
variable {P : Program} {w : World}

theorem run_newRow_of (e : TypeId) (us : Array Value) : (newRow e us).run P w = .ok ⟨w.heap.size, 0, none⟩ (w.alloc (.cells us e)) := by
  rfl

theorem new_sound {base : Nat} {w0 : World} {g : G} {st st' : ASt} (h : SInv base w0 g st w) {cs : List AVal} {us : Array Value} {v : AVal} (e : TypeId) (hr : Reps g cs us.toList) (hn : newA st cs = some (v, st')) :
    ∃ g', g.le g' ∧ SInv base w0 g' st' (w.alloc (.cells us e)) ∧ Rep g' v (.pointer (some ⟨w.heap.size, 0, none⟩)) := by
  unfold newA at hn
  split at hn
  · rename_i hc
    cases hn
    obtain ⟨hle, hi⟩ := h.row us e 0 (Nat.zero_le _) cs (fun j c hj => by
      have hlen := hr.1
      have hlt := (List.getElem?_eq_some_iff.1 hj).1
      have hu : us[0 + j]? = some (us[0 + j]'(by simp at hlen; omega)) := Array.getElem?_eq_getElem _
      exact ⟨List.all_eq_true.1 hc c (List.mem_of_getElem? hj), _, hu, hr.2 j c _ hj (by simp)⟩)
    refine ⟨_, hle, hi, ?_⟩
    have : Rep (g.row w.heap.size 0 us) (.ptr st.ctr 0) (.pointer (some ⟨((g.row w.heap.size 0 us).loc st.ctr).1, ((g.row w.heap.size 0 us).loc st.ctr).2.1 + 0, none⟩)) := .ptr (h.row_ok _ _ _)
    simpa [G.row, h.n] using this
  · cases hn

theorem alloc_sound {base : Nat} {w0 : World} {g : G} {st st' : ASt} (h : SInv base w0 g st w) {e : TypeId} {v : AVal} (ha : allocA P e st = some (v, st')) :
    ∃ g' u w', (Instr.alloc e true (.tuple #[])).run P w = .ok u w' ∧ g.le g' ∧ SInv base w0 g' st' w' ∧ Rep g' v u := by
  unfold allocA zeroA at ha
  cases hi : P.info? e with
  | none => simp [hi] at ha
  | some i =>
    cases hz : i.zero with
    | none => simp [hi, hz] at ha
    | some z =>
      simp only [hi, hz, Option.bind_some] at ha
      cases hv : absVal z with
      | none => simp [hv] at ha
      | some v0 =>
        simp only [hv, Option.bind_some] at ha
        obtain ⟨_, _, hr⟩ := absVal_rep (g := g) hv
        obtain ⟨g', h1, h2, h3⟩ := new_sound h e hr ha
        exact ⟨g', _, _, by simp [Instr.alloc, run_zeroValue_of hi hz, newVar, run_newRow_of], h1, h2, h3⟩

theorem box_sound {base : Nat} {w0 : World} {g : G} {st st' : ASt} (h : SInv base w0 g st w) {e : TypeId} {x v : AVal} {u : Value} (hx : Rep g x u) (ha : boxA x st = some (v, st')) :
    ∃ g' u' w', (Instr.box e u).run P w = .ok u' w' ∧ g.le g' ∧ SInv base w0 g' st' w' ∧ Rep g' v u' := by
  have ht : ∀ vs, x ≠ .tuple vs := by
    rintro vs rfl
    simp [boxA, newA, AVal.cells, AVal.isCell] at ha
  obtain ⟨g', h1, h2, h3⟩ := new_sound h e (hx.cells ht) ha
  exact ⟨g', _, _, by simp [Instr.box, newVar, run_newRow_of], h1, h2, h3⟩

/-! ### aggregates -/
theorem putL_length : ∀ (vs cs : List AVal) (off : Nat), (putL cs off vs).length = cs.length
  | [], _, _ => rfl
  | v :: r, cs, off => by rw [putL, putL_length r]; simp

theorem putL_cell : ∀ (vs cs : List AVal) (off : Nat), (∀ c ∈ vs, c.isCell = true) → (∀ c ∈ cs, c.isCell = true) → ∀ c ∈ putL cs off vs, c.isCell = true
  | [], _, _, _, h => h
  | v :: r, cs, off, hv, h => by
    rw [putL]
    refine putL_cell r _ _ (fun c hc => hv c (by simp [hc])) (fun c hc => ?_)
    rcases List.mem_or_eq_of_mem_set hc with h1 | h1
    · exact h c h1
    · rw [h1]; exact hv v (by simp)

theorem Reps.set {g : G} {cs : List AVal} {us : List Value} (h : Reps g cs us) {c : AVal} {u : Value} (hr : Rep g c u) (i : Nat) : Reps g (cs.set i c) (us.set i u) := by
  refine ⟨by simpa using h.1, fun j c' u' a b => ?_⟩
  by_cases e : i = j
  · subst e
    have h1 : i < cs.length := by have := (List.getElem?_eq_some_iff.1 a).1; simpa using this
    have h2 : i < us.length := by have := (List.getElem?_eq_some_iff.1 b).1; simpa using this
    rw [List.getElem?_set_self h1] at a
    rw [List.getElem?_set_self h2] at b
    cases a; cases b; exact hr
  · rw [List.getElem?_set_ne e] at a
    rw [List.getElem?_set_ne e] at b
    exact h.2 j c' u' a b

theorem fold_put {g : G} : ∀ (vs : List AVal) (us : List Value) (k : Nat) (cs : List AVal) (ws : Array Value) (off : Nat), Reps g vs us → Reps g cs ws.toList →
    Reps g (putL cs (off + k) vs) ((us.zipIdx k).foldl (fun cs (p : Value × Nat) => cs.setIfInBounds (off + p.2) p.1) ws).toList
  | [], us, k, cs, ws, off, h, hc => by
    have : us = [] := by have := h.1; simpa using this
    subst this
    exact hc
  | v :: r, us, k, cs, ws, off, h, hc => by
    obtain ⟨hl, hat⟩ := h
    match us, hl with
    | u :: us, hl =>
      rw [putL, List.zipIdx_cons, List.foldl_cons]
      have := fold_put r us (k + 1) (cs.set (off + k) v) (ws.setIfInBounds (off + k) u) off ⟨by simpa using hl, fun j c u' a b => hat (j + 1) c u' (by simpa using a) (by simpa using b)⟩
        (by simpa using hc.set (hat 0 v u rfl rfl) (off + k))
      rwa [← Nat.add_assoc] at this

def fillA (place : Nat → Option (Nat × Nat)) (cells : List AVal) : List (Nat × AVal) → Option (List AVal)
  | [] => some cells
  | (i, v) :: rest => match place i with
    | none => none
    | some (off, size) => if v.cells.length = size ∧ off + size ≤ cells.length ∧ v.cells.all AVal.isCell = true then fillA place (putL cells off v.cells) rest else none

/-- parts, each told -/
def PReps (g : G) (ps : List (Nat × AVal)) (qs : List (Nat × Value)) : Prop := qs.map (·.1) = ps.map (·.1) ∧ ∀ (j : Nat) (p : Nat × AVal) (q : Nat × Value), ps[j]? = some p → qs[j]? = some q → Rep g p.2 q.2

theorem fill_sound {g : G} {place : Nat → Option (Nat × Nat)} : ∀ (ps : List (Nat × AVal)) (qs : List (Nat × Value)) (cs : List AVal) (ws : Array Value) (cs' : List AVal), PReps g ps qs → Reps g cs ws.toList → (∀ c ∈ cs, c.isCell = true) →
    fillA place cs ps = some cs' → ∃ ws', Instr.fill place ws qs = some ws' ∧ Reps g cs' ws'.toList ∧ ∀ c ∈ cs', c.isCell = true
  | [], qs, cs, ws, cs', hp, hc, hcell, h => by
    have : qs = [] := by have := hp.1; simpa using this
    subst this
    cases h
    exact ⟨ws, rfl, hc, hcell⟩
  | (i, v) :: ps, qs, cs, ws, cs', hp, hc, hcell, h => by
    obtain ⟨hm, hat⟩ := hp
    match qs, hm, hat with
    | (i', u) :: qs, hm, hat =>
      simp only [List.map_cons, List.cons.injEq] at hm
      obtain ⟨hi, hm2⟩ := hm
      subst hi
      unfold fillA at h
      cases hpl : place i' with
      | none => rw [hpl] at h; cases h
      | some os =>
        obtain ⟨off, size⟩ := os
        rw [hpl] at h
        simp only at h
        split at h
        · rename_i hcond
          obtain ⟨h1, h2, h3⟩ := hcond
          have hv : ∀ vs, v ≠ .tuple vs := by rintro vs rfl; simp [AVal.cells, AVal.isCell] at h3
          have hr : Rep g v u := hat 0 _ _ rfl rfl
          have hcells := hr.cells hv
          have e : u.cells.size = size := by have := hcells.1; simp at this; omega
          have hl : ws.size = cs.length := by have := hc.1; simpa using this
          have hf := fold_put v.cells u.cells.toList 0 cs ws off hcells hc
          have hcl : ∀ c ∈ v.cells, c.isCell = true := fun c hm => by have := List.all_eq_true.1 h3 c hm; exact this
          obtain ⟨ws', e1, e2, e3⟩ := fill_sound ps qs _ _ cs' ⟨hm2, fun j p q a b => hat (j + 1) p q (by simpa using a) (by simpa using b)⟩ hf (by
            simpa using putL_cell v.cells cs off hcl hcell) (by simpa using h)
          refine ⟨ws', ?_, e2, e3⟩
          unfold Instr.fill
          rw [hpl]
          simp only
          have hneg : ¬ (u.cells.size ≠ size ∨ off + u.cells.size > ws.size) := by omega
          rw [if_neg (by simpa using hneg), ← Array.foldl_toList, Array.toList_zipIdx]
          exact e1
        · cases h

def placesA (P : Program) (fs : Array Field) : Option (List (Nat × Nat)) := fs.toList.mapM fun f => (szOf P f.type).map fun n => (f.offset, n)

def buildA (P : Program) (t : TypeId) (parts : List (Nat × AVal)) : Option AVal :=
  match zeroA P t, P.underlying t with
  | some z, some (.struct fs) => match placesA P fs with
    | some ps => (fillA (ps[·]?) z.cells parts).map .agg
    | none => none
  | some z, some (.array _ e) => match szOf P e with
    | some sz => (fillA (fun i => some (i * sz, sz)) z.cells parts).map .agg
    | none => none
  | _, _ => none

theorem zeroA_inv {t : TypeId} {v : AVal} (h : zeroA P t = some v) : ∃ i z, P.info? t = some i ∧ i.zero = some z ∧ absVal z = some v := by
  unfold zeroA at h
  cases hi : P.info? t with
  | none => simp [hi] at h
  | some i =>
    cases hz : i.zero with
    | none => simp [hi, hz] at h
    | some z => simp only [hi, hz, Option.bind_some] at h; exact ⟨i, z, rfl, hz, h⟩

theorem build_sound {g : G} {t : TypeId} {ps : List (Nat × AVal)} {qs : List (Nat × Value)} {v : AVal} (hp : PReps g ps qs) (h : buildA P t ps = some v) :
    ∃ u, (Instr.build t qs.toArray).run P w = .ok u w ∧ Rep g v u := by
  unfold buildA at h
  split at h
  · rename_i z fs hz hu
    obtain ⟨i, z0, hi, hz0, habs⟩ := zeroA_inv hz
    obtain ⟨_, hcell, hr⟩ := absVal_rep (g := g) habs
    split at h
    · rename_i pl hpl
      cases hf : fillA (pl[·]?) z.cells ps with
      | none => rw [hf] at h; cases h
      | some cs =>
        rw [hf] at h
        cases h
        obtain ⟨ws, e1, e2, e3⟩ := fill_sound ps qs z.cells z0.cells cs hp hr hcell hf
        have hb : P.built t qs = some ws := by
          unfold Program.built
          rw [hi, hu]
          simp only [hz0]
          have : fs.toList.mapM (fun f => (P.info? f.type).map fun i => (f.offset, i.size)) = some pl := by
            rw [← hpl]
            unfold placesA szOf
            congr 1
            funext f
            cases P.info? f.type <;> rfl
          rw [this]
          simpa using e1
        exact ⟨_, run_build w t qs.toArray ws hb, .agg (by have := e2.1; simpa using this) (fun j c u a b => e2.2 j c u a (by simpa using b)) e3⟩
    · cases h
  · rename_i z n e hz hu
    obtain ⟨i, z0, hi, hz0, habs⟩ := zeroA_inv hz
    obtain ⟨_, hcell, hr⟩ := absVal_rep (g := g) habs
    split at h
    · rename_i sz hsz
      cases hf : fillA (fun i => some (i * sz, sz)) z.cells ps with
      | none => rw [hf] at h; cases h
      | some cs =>
        rw [hf] at h
        cases h
        obtain ⟨ws, e1, e2, e3⟩ := fill_sound ps qs z.cells z0.cells cs hp hr hcell hf
        have hb : P.built t qs = some ws := by
          unfold Program.built
          rw [hi, hu]
          unfold szOf at hsz
          cases hie : P.info? e with
          | none => rw [hie] at hsz; cases hsz
          | some ie =>
            rw [hie] at hsz
            cases hsz
            simp only [hz0, hie]
            exact e1
        exact ⟨_, run_build w t qs.toArray ws hb, .agg (by have := e2.1; simpa using this) (fun j c u a b => e2.2 j c u a (by simpa using b)) e3⟩
    · cases h
  · cases h

end
end Go.Proofs.YtpgcbmmifmnfpaaDoorA

/- More operations of the second reading: slices: made, cut, appended to. No condition. -/
namespace Go.Proofs.YtpgcbmmifmnfpaaDoorA
open Go Go.RowKit
set_option linter.unusedVariables false
set_option linter.unusedSimpArgs false

/-- may a value be an element of the type: its cells, and whether it is an aggregate -/
def elemOk (agg : Bool) (sz : Nat) (v : AVal) : Bool := v.cells.length == sz && v.cells.all AVal.isCell && (match v with | .agg _ => agg | _ => !agg)

theorem elemOk_len {agg : Bool} {sz : Nat} {v : AVal} (h : elemOk agg sz v = true) : v.cells.length = sz := by
  simp [elemOk] at h; exact h.1.1
theorem elemOk_cell {agg : Bool} {sz : Nat} {v : AVal} (h : elemOk agg sz v = true) : ∀ c ∈ v.cells, c.isCell = true := by
  simp [elemOk] at h; exact h.1.2

def flatE (es : List AVal) : List AVal := es.flatMap AVal.cells

theorem flatE_len {sz : Nat} : ∀ (es : List AVal), (∀ e ∈ es, e.cells.length = sz) → (flatE es).length = es.length * sz
  | [], _ => by simp [flatE]
  | e :: es, h => by
    have := flatE_len es (fun x hx => h x (by simp [hx]))
    simp only [flatE, List.flatMap_cons, List.length_append, List.length_cons] at this ⊢
    rw [this, h e (by simp), Nat.add_mul]
    omega

theorem flatE_get {sz : Nat} : ∀ (es : List AVal) (i j : Nat) (e c : AVal), (∀ e ∈ es, e.cells.length = sz) → es[i]? = some e → e.cells[j]? = some c → (flatE es)[i * sz + j]? = some c
  | x :: es, 0, j, e, c, h, hi, hj => by
    cases hi
    simp only [flatE, List.flatMap_cons, Nat.zero_mul, Nat.zero_add]
    rw [List.getElem?_append_left (List.getElem?_eq_some_iff.1 hj).1]
    exact hj
  | x :: es, i + 1, j, e, c, h, hi, hj => by
    have := flatE_get es i j e c (fun y hy => h y (by simp [hy])) (by simpa using hi) hj
    have hx := h x (by simp)
    simp only [flatE, List.flatMap_cons] at this ⊢
    rw [List.getElem?_append_right (by rw [hx, Nat.add_mul]; omega), hx, Nat.add_mul]
    rw [show i * sz + 1 * sz + j - sz = i * sz + j by omega]
    exact this

theorem putL_append_left : ∀ (vs a b : List AVal) (off : Nat), off + vs.length ≤ a.length → putL (a ++ b) off vs = putL a off vs ++ b
  | [], a, b, off, _ => rfl
  | v :: r, a, b, off, h => by
    simp only [List.length_cons] at h
    rw [putL, putL, List.set_append_left _ _ (by omega)]
    exact putL_append_left r _ _ _ (by simp; omega)

theorem putL_append_right : ∀ (vs a b : List AVal) (off : Nat), putL (a ++ b) (a.length + off) vs = a ++ putL b off vs
  | [], a, b, off => rfl
  | v :: r, a, b, off => by
    rw [putL, putL, List.set_append_right _ _ (by omega), show a.length + off - a.length = off by omega, Nat.add_assoc]
    exact putL_append_right r _ _ _

theorem putL_whole : ∀ (vs a : List AVal), a.length = vs.length → putL a 0 vs = vs := by
  have key : ∀ (vs a pre : List AVal), a.length = vs.length → putL (pre ++ a) pre.length vs = pre ++ vs := by
    intro vs
    induction vs with
    | nil => intro a pre h; have : a = [] := by simpa using h
             subst this; rfl
    | cons v r ih =>
      intro a pre h
      match a, h with
      | x :: a, h =>
        rw [putL, List.set_append_right _ _ (Nat.le_refl _), Nat.sub_self, List.set_cons_zero]
        have := ih a (pre ++ [v]) (by simpa using h)
        simpa using this
  intro vs a h
  simpa using key vs a [] h

theorem putL_flatE {sz : Nat} : ∀ (es : List AVal) (i : Nat) (v : AVal), (∀ e ∈ es, e.cells.length = sz) → i < es.length → v.cells.length = sz → putL (flatE es) (i * sz) v.cells = flatE (es.set i v)
  | e :: es, 0, v, h, _, hv => by
    simp only [flatE, List.flatMap_cons, List.set_cons_zero, Nat.zero_mul]
    have he := h e (by simp)
    rw [putL_append_left _ _ _ _ (by omega), putL_whole _ _ (by omega)]
  | e :: es, i + 1, v, h, hi, hv => by
    have he := h e (by simp)
    have ih := putL_flatE es i v (fun y hy => h y (by simp [hy])) (by simpa using hi) hv
    simp only [flatE, List.flatMap_cons, List.set_cons_succ] at ih ⊢
    rw [show (i + 1) * sz = e.cells.length + i * sz by rw [he, Nat.add_mul]; omega, putL_append_right, ih]

/-- elements with parts laid in -/
def setsE (agg : Bool) (sz : Nat) : List AVal → List (Nat × AVal) → Option (List AVal)
  | es, [] => some es
  | es, (i, v) :: r => if i < es.length ∧ elemOk agg sz v = true then setsE agg sz (es.set i v) r else none

theorem setsE_fill {agg : Bool} {sz : Nat} : ∀ (ps : List (Nat × AVal)) (es es' : List AVal), (∀ e ∈ es, elemOk agg sz e = true) → setsE agg sz es ps = some es' →
    fillA (fun i => some (i * sz, sz)) (flatE es) ps = some (flatE es') ∧ (∀ e ∈ es', elemOk agg sz e = true) ∧ es'.length = es.length
  | [], es, es', h, hs => by cases hs; exact ⟨rfl, h, rfl⟩
  | (i, v) :: r, es, es', h, hs => by
    unfold setsE at hs
    split at hs
    · rename_i hc
      obtain ⟨h1, h2⟩ := hc
      have hes : ∀ e ∈ es, e.cells.length = sz := fun e he => elemOk_len (h e he)
      obtain ⟨e1, e2, e3⟩ := setsE_fill r (es.set i v) es' (fun e he => by
        rcases List.mem_or_eq_of_mem_set he with h3 | h3
        · exact h e h3
        · rw [h3]; exact h2) hs
      refine ⟨?_, e2, by simpa using e3⟩
      unfold fillA
      simp only
      rw [if_pos ⟨elemOk_len h2, by rw [flatE_len es hes, ← Nat.succ_mul]; exact Nat.mul_le_mul_right _ h1, List.all_eq_true.2 (elemOk_cell h2)⟩, putL_flatE es i v hes h1 (elemOk_len h2)]
      exact e1
    · cases hs

def sliceElem (P : Program) (t : TypeId) : Option TypeId :=
  match P.underlying t with
  | some (.slice e) => some e
  | _ => none

/-- a slice written out: `mt`: as a block that may be written again -/
def buildSliceA (P : Program) (mt : Bool) (t : TypeId) (len : Nat) (parts : List (Nat × AVal)) (st : ASt) : Option (AVal × ASt) :=
  match sliceElem P t with
  | some e => match szOf P e, aggT P e, zeroA P e with
    | some sz, some agg, some z => if 0 < sz ∧ len * sz ≤ 16777216 ∧ elemOk agg sz z = true then
        match setsE agg sz (List.replicate len z) parts with
        | some es => if mt then some (.slice st.ctr 0 len sz (some len), st.new (.cells (flatE es))) else some (.islice sz es .exact, st)
        | none => none
      else none
    | _, _, _ => none
  | none => none

theorem getElem_bang_eq {l : Array Value} {i : Nat} (h : i < l.size) : l[i]! = l[i] := by
  simp [h]

theorem reps_zero_rep {g : G} {z : AVal} {z0 : Value} {sz : Nat} (hr : Reps g z.cells z0.cells.toList) (hz : z.cells.length = sz) (h0 : 0 < sz) (n : Nat) :
    Reps g (flatE (List.replicate n z)) (madeCells z0.cells (n * sz)).toList := by
  have hl : z0.cells.size = sz := by have := hr.1; simp at this; omega
  subst hl
  have hall : ∀ e ∈ List.replicate n z, e.cells.length = z0.cells.size := fun e he => by rw [List.eq_of_mem_replicate he]; exact hz
  have hlen := flatE_len (List.replicate n z) hall
  refine ⟨by rw [hlen]; simp [madeCells], fun j c u a b => ?_⟩
  have hj : j < n * z0.cells.size := by
    have := (List.getElem?_eq_some_iff.1 a).1
    rw [hlen] at this
    simpa using this
  have hm : j % z0.cells.size < z0.cells.size := Nat.mod_lt _ h0
  have hd : j / z0.cells.size < n := Nat.div_lt_of_lt_mul (by rw [Nat.mul_comm]; exact hj)
  have h1 : (List.replicate n z)[j / z0.cells.size]? = some z := by simp [hd]
  have h2 : z.cells[j % z0.cells.size]? = some (z.cells[j % z0.cells.size]'(by omega)) := List.getElem?_eq_getElem _
  have h3 := flatE_get (List.replicate n z) (j / z0.cells.size) (j % z0.cells.size) z _ hall h1 h2
  rw [Nat.div_add_mod' j z0.cells.size] at h3
  rw [h3] at a
  cases a
  have hu : u = z0.cells[j % z0.cells.size]'(by omega) := by
    simp [madeCells, hj] at b
    rw [← b]
    exact getElem_bang_eq (by omega)
  rw [hu]
  refine hr.2 _ _ _ h2 ?_
  simp

section
variable {P : Program} {w : World}

theorem sliceElem_inv {t e : TypeId} (h : sliceElem P t = some e) : P.underlying t = some (.slice e) := by
  unfold sliceElem at h
  split at h
  · cases h; assumption
  · cases h

theorem szOf_inv {t : TypeId} {n : Nat} (h : szOf P t = some n) : ∃ i, P.info? t = some i ∧ i.size = n := by
  unfold szOf at h
  cases hi : P.info? t with
  | none => rw [hi] at h; cases h
  | some i => rw [hi] at h; cases h; exact ⟨i, rfl, rfl⟩

/-- a frozen row, told by elements -/
theorem rep_islice_row {g : G} {agg : Bool} {sz : Nat} {es : List AVal} {us : Array Value} {B : Nat} (he : ∀ e ∈ es, elemOk agg sz e = true) (hr : Reps g (flatE es) us.toList)
    {g' : G} (hle : g.le g') {o : Nat} (hown : ∀ j u, us[j]? = some u → g'.own B (o + j) = .frozen u) {cap : Nat} (hc : es.length ≤ cap) {k : Cap} (hk : CapOK g' sz B o es.length cap k) :
    Rep g' (.islice sz es k) (.slice (some ⟨B, o, none⟩) es.length cap) := by
  have hl : ∀ e ∈ es, e.cells.length = sz := fun e h => elemOk_len (he e h)
  have key : ∀ (i : Nat) (e : AVal) (j : Nat) (c : AVal), es[i]? = some e → e.cells[j]? = some c → ∃ u, us[i * sz + j]? = some u ∧ Rep g c u := by
    intro i e j c hi hj
    have h1 := flatE_get es i j e c hl hi hj
    have hlt := (List.getElem?_eq_some_iff.1 h1).1
    have h2 : us.toList[i * sz + j]? = some (us.toList[i * sz + j]'(by rw [hr.1]; exact hlt)) := List.getElem?_eq_getElem _
    exact ⟨us.toList[i * sz + j]'(by rw [hr.1]; exact hlt), by simp, hr.2 _ _ _ h1 h2⟩
  refine .islice (f := fun i j => (us[i * sz + j]?).getD undef) hc (fun i e hi => hl e (List.mem_of_getElem? hi)) (fun i e j c hi hj => ?_) (fun i e j c hi hj => ?_) (fun i e hi => elemOk_cell (he e (List.mem_of_getElem? hi))) hk
  · obtain ⟨u, hu, _⟩ := key i e j c hi hj
    rw [hu]
    exact hown _ _ hu
  · obtain ⟨u, hu, hrep⟩ := key i e j c hi hj
    rw [hu]
    exact hrep.mono hle

theorem buildSlice_sound {base : Nat} {w0 : World} {g : G} {st st' : ASt} (h : SInv base w0 g st w) {mt : Bool} {t : TypeId} {len : Nat} {ps : List (Nat × AVal)} {qs : List (Nat × Value)} {v : AVal} (hp : PReps g ps qs)
    (hb : buildSliceA P mt t len ps st = some (v, st')) :
    ∃ g' u w', (Instr.buildSlice t len qs.toArray).run P w = .ok u w' ∧ g.le g' ∧ SInv base w0 g' st' w' ∧ Rep g' v u := by
  unfold buildSliceA at hb
  split at hb
  · rename_i e he
    have hu := sliceElem_inv he
    split at hb
    · rename_i sz agg z hsz hagg hz
      split at hb
      · rename_i hcond
        obtain ⟨h0, hmax, hzok⟩ := hcond
        split at hb
        · rename_i es hes
          obtain ⟨i, z0, hi, hz0, habs⟩ := zeroA_inv hz
          obtain ⟨_, hcell, hr⟩ := absVal_rep (g := g) habs
          obtain ⟨hf, hok, hlen⟩ := setsE_fill ps (List.replicate len z) es (fun e he => by rw [List.eq_of_mem_replicate he]; exact hzok) hes
          have hzl := elemOk_len hzok
          have hr0 := reps_zero_rep hr hzl h0 len
          have hc0 : ∀ c ∈ flatE (List.replicate len z), c.isCell = true := by
            intro c hc
            obtain ⟨e', h1, h2⟩ := List.mem_flatMap.1 hc
            rw [List.eq_of_mem_replicate h1] at h2
            exact hcell c h2
          obtain ⟨ws, e1, e2, e3⟩ := fill_sound ps qs _ (madeCells z0.cells (len * sz)) _ hp hr0 hc0 hf
          have hzs : z0.cells.size = sz := by have := hr.1; simp at this; omega
          have hrun : (Instr.buildSlice t len qs.toArray).run P w = .ok (.slice (some ⟨w.heap.size, 0, none⟩) len len) (w.alloc (.cells ws e)) := by
            have hmax' : ¬ (len * sz > 2 ^ 24) := by simpa using hmax
            by_cases hl0 : len * sz = 0
            · have hlen0 : len = 0 := by
                rcases Nat.mul_eq_zero.1 hl0 with h1 | h1
                · exact h1
                · omega
              subst hlen0
              have e1' : Instr.fill (fun i => some (i * sz, sz)) #[] qs = some ws := by
                rw [Nat.zero_mul, show madeCells z0.cells 0 = #[] by simp [madeCells]] at e1
                exact e1
              simp only [Instr.buildSlice, Sem.run_bind, run_underlying_of hu, run_sizeOf_of hsz, Result.andThen_ok, Nat.zero_mul]
              simp [e1', run_newRow_of, show Array.range 0 = #[] from rfl]
            · have e1' : Instr.fill (fun i => some (i * sz, sz)) (Array.map (fun x => z0.cells[x % z0.cells.size]!) (Array.range (len * sz))) qs = some ws := e1
              simp only [Instr.buildSlice, Sem.run_bind, run_underlying_of hu, run_sizeOf_of hsz, Result.andThen_ok]
              rw [if_neg hmax']
              simp [hl0, run_zeroValue_of hi hz0, e1', run_newRow_of]
          have hes_len : es.length = len := by simpa using hlen
          cases mt with
          | true =>
            simp only [if_true, Option.some.injEq, Prod.mk.injEq] at hb
            obtain ⟨rfl, rfl⟩ := hb
            obtain ⟨hle, hinv⟩ := h.row ws e 0 (Nat.zero_le _) (flatE es) (fun j c hj => by
              have hlt := (List.getElem?_eq_some_iff.1 hj).1
              have hl2 := e2.1
              have hw : ws.toList[j]? = some (ws.toList[j]'(by rw [hl2]; exact hlt)) := List.getElem?_eq_getElem _
              exact ⟨e3 c (List.mem_of_getElem? hj), _, by simp, e2.2 j c _ hj hw⟩)
            refine ⟨_, _, _, hrun, hle, hinv, ?_⟩
            have hloc : (g.row w.heap.size 0 ws).loc st.ctr = (w.heap.size, 0, ws.size) := by simp [G.row, h.n]
            have := Rep.slice (g := g.row w.heap.size 0 ws) (s := st.ctr) (off := 0) (len := len) (sz := sz) (cap := len) (kc := some len) (h.row_ok _ _ _) (fun k hk => by cases hk; rfl) (Nat.le_refl _) h0 (fun hk => by cases hk)
            rw [hloc] at this
            exact this
          | false =>
            simp only [Bool.false_eq_true, if_false, Option.some.injEq, Prod.mk.injEq] at hb
            obtain ⟨rfl, rfl⟩ := hb
            obtain ⟨hle, hinv⟩ := h.rowF ws e
            refine ⟨_, _, _, hrun, hle, hinv, ?_⟩
            have := rep_islice_row (agg := agg) (sz := sz) (B := w.heap.size) (o := 0) (cap := len) (k := .exact) hok e2 hle (fun j u hj => by simp [G.rowF, hj]) (by omega) hes_len.symm
            rw [hes_len] at this
            exact this
        · cases hb
      · cases hb
    · cases hb
  · cases hb

end
end Go.Proofs.YtpgcbmmifmnfpaaDoorA
