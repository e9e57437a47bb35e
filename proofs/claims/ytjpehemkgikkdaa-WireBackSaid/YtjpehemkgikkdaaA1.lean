/- A second, deterministic reading of the model's programs: values without addresses where memory is never written again, and what it means that a value of the model is told by such a value. No condition. -/
import Derived.Below
import Derived.Scope
import Derived.WalkKit
import Derived.Still
namespace Go.Proofs.YtjpehemkgikkdaaA
open Go Go.RowKit
set_option linter.unusedVariables false

/-! ### values -/
/-- what is known of a slice's capacity: it is its length; nothing; what lies behind it is owned by a stamp -/
inductive Cap where
  | exact
  | unk
  | tok (t : Nat)
  deriving DecidableEq, Inhabited

inductive AVal where
  | lit (v : Value)
  | agg (cs : List AVal)
  | tuple (vs : List AVal)
  | ptr (s off : Nat)
  | iptr (v : AVal)
  | slice (s off len sz : Nat) (cap : Option Nat)
  | islice (sz : Nat) (es : List AVal) (cap : Cap)
  | map (s : Nat)
  | func (fn : Fn) (first captured : List AVal)
  | iface (t : TypeId) (v : AVal)
  deriving Inhabited

/-- a value that is no address, and holds none -/
def flat : Value → Bool
  | .bool _ | .int .. | .float .. | .complex .. | .string _ | .pointer none | .slice _ 0 0 | .map none | .nilFunc | .nilIface => true
  | .func (.func _) f c => f.isEmpty && c.isEmpty
  | _ => false

def AVal.cells : AVal → List AVal
  | .agg cs => cs
  | v => [v]

def AVal.isCell : AVal → Bool
  | .agg _ | .tuple _ => false
  | _ => true

def AVal.int (k : IntKind) (n : Int) : AVal := .lit (.int k n)
def AVal.bool (b : Bool) : AVal := .lit (.bool b)
def AVal.str (s : ByteArray) : AVal := .lit (.string s)
def AVal.nilSlice : AVal := .lit (.slice none 0 0)
def AVal.nilPtr : AVal := .lit (.pointer none)
def AVal.undef : AVal := .tuple []

inductive Blk where
  | cells (cs : List AVal)
  | map (es : List (AVal × AVal))
  deriving Inhabited

structure ASt where
  heap : Nat → Option Blk
  ctr : Nat

def ASt.set (st : ASt) (s : Nat) (b : Option Blk) : ASt := { st with heap := fun k => if k = s then b else st.heap k }
def ASt.new (st : ASt) (b : Blk) : ASt := { heap := fun k => if k = st.ctr then some b else st.heap k, ctr := st.ctr + 1 }

@[simp] theorem ASt.set_ctr (st : ASt) (s : Nat) (b : Option Blk) : (st.set s b).ctr = st.ctr := rfl
@[simp] theorem ASt.new_ctr (st : ASt) (b : Blk) : (st.new b).ctr = st.ctr + 1 := rfl
theorem ASt.set_same (st : ASt) (s : Nat) (b : Option Blk) : (st.set s b).heap s = b := by simp [ASt.set]
theorem ASt.set_ne (st : ASt) (s k : Nat) (b : Option Blk) (h : k ≠ s) : (st.set s b).heap k = st.heap k := by simp [ASt.set, h]
theorem ASt.new_same (st : ASt) (b : Blk) : (st.new b).heap st.ctr = some b := by simp [ASt.new]
theorem ASt.new_ne (st : ASt) (k : Nat) (b : Blk) (h : k ≠ st.ctr) : (st.new b).heap k = st.heap k := by simp [ASt.new, h]

/-! ### what ties the two -/
inductive Own where
  | free
  | frozen (v : Value)
  | blk (s : Nat)

structure G where
  own : Nat → Nat → Own
  loc : Nat → Nat × Nat × Nat
  n : Nat

structure G.le (g g' : G) : Prop where
  n : g.n ≤ g'.n
  loc : ∀ s, s < g.n → g'.loc s = g.loc s
  frozen : ∀ B o v, g.own B o = .frozen v → g'.own B o = .frozen v

theorem G.le.refl (g : G) : g.le g := ⟨Nat.le_refl _, fun _ _ => rfl, fun _ _ _ h => h⟩
theorem G.le.trans {a b c : G} (h : a.le b) (k : b.le c) : a.le c :=
  ⟨Nat.le_trans h.n k.n, fun s hs => (k.loc s (Nat.lt_of_lt_of_le hs h.n)).trans (h.loc s hs), fun B o v hv => k.frozen B o v (h.frozen B o v hv)⟩

/-- what a slice's capacity is: `e` the cell behind its last element -/
def CapOK (g : G) (sz : Nat) (B o len cap : Nat) : Cap → Prop
  | .exact => cap = len
  | .unk => True
  | .tok t => t < g.n ∧ (g.loc t).1 = B ∧ (g.loc t).2.1 = o + len * sz ∧ (g.loc t).2.2 = o + cap * sz

inductive Rep (g : G) : AVal → Value → Prop
  | lit {v : Value} (h : flat v = true) : Rep g (.lit v) v
  | agg {cs : List AVal} {us : Array Value} (hl : us.size = cs.length) (h : ∀ (j : Nat) (c : AVal) (u : Value), cs[j]? = some c → us[j]? = some u → Rep g c u) (hc : ∀ c ∈ cs, c.isCell = true) : Rep g (.agg cs) (.agg us)
  | tuple {cs : List AVal} {us : Array Value} (hl : us.size = cs.length) (h : ∀ (j : Nat) (c : AVal) (u : Value), cs[j]? = some c → us[j]? = some u → Rep g c u) : Rep g (.tuple cs) (.tuple us)
  | ptr {s off : Nat} (h : s < g.n) : Rep g (.ptr s off) (.pointer (some ⟨(g.loc s).1, (g.loc s).2.1 + off, none⟩))
  | iptr {v : AVal} {B o : Nat} {f : Nat → Value} (h : ∀ (j : Nat) (c : AVal), v.cells[j]? = some c → g.own B (o + j) = .frozen (f j)) (h2 : ∀ (j : Nat) (c : AVal), v.cells[j]? = some c → Rep g c (f j))
      (hc : ∀ c ∈ v.cells, c.isCell = true) : Rep g (.iptr v) (.pointer (some ⟨B, o, none⟩))
  | slice {s off len sz cap : Nat} {kc : Option Nat} (h : s < g.n) (hk : ∀ k, kc = some k → cap = k) (hl : len ≤ cap) (hz : 0 < sz) (hx : kc = none → (g.loc s).2.1 + off + cap * sz = (g.loc s).2.2) :
      Rep g (.slice s off len sz kc) (.slice (some ⟨(g.loc s).1, (g.loc s).2.1 + off, none⟩) len cap)
  | islice {sz : Nat} {es : List AVal} {cap : Nat} {k : Cap} {B o : Nat} {f : Nat → Nat → Value} (hl : es.length ≤ cap)
      (hs : ∀ (i : Nat) (e : AVal), es[i]? = some e → e.cells.length = sz)
      (h : ∀ (i : Nat) (e : AVal) (j : Nat) (c : AVal), es[i]? = some e → e.cells[j]? = some c → g.own B (o + (i * sz + j)) = .frozen (f i j))
      (h2 : ∀ (i : Nat) (e : AVal) (j : Nat) (c : AVal), es[i]? = some e → e.cells[j]? = some c → Rep g c (f i j))
      (hc : ∀ (i : Nat) (e : AVal), es[i]? = some e → ∀ c ∈ e.cells, c.isCell = true)
      (hk : CapOK g sz B o es.length cap k) : Rep g (.islice sz es k) (.slice (some ⟨B, o, none⟩) es.length cap)
  | map {s : Nat} (h : s < g.n) : Rep g (.map s) (.map (some (g.loc s).1))
  | func {fn : Fn} {a b : List AVal} {us vs : Array Value} (hl : us.size = a.length) (h : ∀ (j : Nat) (c : AVal) (u : Value), a[j]? = some c → us[j]? = some u → Rep g c u)
      (hl2 : vs.size = b.length) (h2 : ∀ (j : Nat) (c : AVal) (u : Value), b[j]? = some c → vs[j]? = some u → Rep g c u) : Rep g (.func fn a b) (.func fn us vs)
  | iface {t : TypeId} {v : AVal} {u : Value} (h : Rep g v u) : Rep g (.iface t v) (.iface t u)

theorem Rep.mono {g g' : G} (hg : g.le g') {a : AVal} {v : Value} (h : Rep g a v) : Rep g' a v := by
  induction h with
  | lit h => exact .lit h
  | agg hl h hc ih => exact .agg hl (fun j c u a b => ih j c u a b) hc
  | tuple hl h ih => exact .tuple hl (fun j c u a b => ih j c u a b)
  | ptr h => rw [← hg.loc _ h]; exact .ptr (Nat.lt_of_lt_of_le h hg.n)
  | iptr h h2 hc ih => exact .iptr (fun j c hj => hg.frozen _ _ _ (h j c hj)) (fun j c hj => ih j c hj) hc
  | slice h hk hl hz hx => rw [← hg.loc _ h] at hx ⊢; exact .slice (Nat.lt_of_lt_of_le h hg.n) hk hl hz hx
  | islice hl hs h h2 hc hk ih =>
    refine .islice hl hs (fun i e j c he hj => hg.frozen _ _ _ (h i e j c he hj)) (fun i e j c he hj => ih i e j c he hj) hc ?_
    revert hk
    unfold CapOK
    split
    · exact id
    · exact id
    · rintro ⟨a, b⟩; rw [hg.loc _ a]; exact ⟨Nat.lt_of_lt_of_le a hg.n, b⟩
  | map h => rw [← hg.loc _ h]; exact .map (Nat.lt_of_lt_of_le h hg.n)
  | func hl h hl2 h2 ih ih2 => exact .func hl (fun j c u a b => ih j c u a b) hl2 (fun j c u a b => ih2 j c u a b)
  | iface h ih => exact .iface ih

/-- a list of values, each told -/
def Reps (g : G) (cs : List AVal) (us : List Value) : Prop := us.length = cs.length ∧ ∀ (j : Nat) (c : AVal) (u : Value), cs[j]? = some c → us[j]? = some u → Rep g c u

theorem Reps.mono {g g' : G} (hg : g.le g') {a : List AVal} {v : List Value} (h : Reps g a v) : Reps g' a v := ⟨h.1, fun j c u a b => (h.2 j c u a b).mono hg⟩

theorem Rep.flat {g : G} {v u : Value} (h : Rep g (.lit v) u) : u = v := by cases h; rfl

def cellv : Value → Bool
  | .agg _ | .tuple _ => false
  | _ => true

theorem flat_cellv {v : Value} (h : flat v = true) : cellv v = true := by
  cases v <;> first | rfl | exact absurd (show false = true from h) (by decide)

theorem cellv_cells {v : Value} (h : cellv v = true) : v.cells = #[v] := by
  cases v <;> first | rfl | exact absurd (show false = true from h) (by decide)

/-- a cell's value has one cell -/
theorem Rep.oneCell {g : G} {c : AVal} {u : Value} (h : Rep g c u) (hc : c.isCell = true) : cellv u = true := by
  cases h with
  | lit h => exact flat_cellv h
  | agg => simp [AVal.isCell] at hc
  | tuple => simp [AVal.isCell] at hc
  | _ => rfl

theorem Rep.cells {g : G} {c : AVal} {u : Value} (h : Rep g c u) (ht : ∀ vs, c ≠ .tuple vs) : Reps g c.cells u.cells.toList := by
  cases h with
  | agg hl h hc => exact ⟨by simpa [Value.cells, AVal.cells] using hl, fun j c u a b => h j c u a (by simpa [Value.cells] using b)⟩
  | tuple => exact absurd rfl (ht _)
  | lit h =>
    have : u.cells = #[u] := cellv_cells (flat_cellv h)
    refine ⟨by simp [AVal.cells, this], fun j c u' a b => ?_⟩
    cases j with
    | zero => simp [AVal.cells, this] at a b; subst a; subst b; exact .lit h
    | succ j => simp [AVal.cells] at a
  | _ =>
    refine ⟨rfl, fun j c u' a b => ?_⟩
    cases j with
    | zero => cases a; cases b; constructor <;> assumption
    | succ j => cases a

end Go.Proofs.YtjpehemkgikkdaaA
