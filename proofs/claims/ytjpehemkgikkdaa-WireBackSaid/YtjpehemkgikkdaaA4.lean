/- More operations of the second reading: a store, addresses of parts, what is made. No condition. -/
import Derived.Test.YtjpehemkgikkdaaA3
namespace Go.Proofs.YtjpehemkgikkdaaA
open Go Go.RowKit
set_option linter.unusedVariables false
set_option linter.unusedSimpArgs false

/-! ### a store -/
def putL : List AVal → Nat → List AVal → List AVal
  | cs, _, [] => cs
  | cs, off, v :: r => putL (cs.set off v) (off + 1) r

def storeA (P : Program) (t : TypeId) (st : ASt) (a v : AVal) : Option ASt :=
  match a with
  | .ptr s off => match st.heap s with
    | some (.cells cs) =>
      if szOf P t = some v.cells.length ∧ off + v.cells.length ≤ cs.length ∧ v.cells.all AVal.isCell = true then some (st.set s (some (.cells (putL cs off v.cells)))) else none
    | _ => none
  | _ => none

theorem ASt.set_set (st : ASt) (s : Nat) (a b : Option Blk) : (st.set s a).set s b = st.set s b := by
  unfold ASt.set
  congr 1
  funext k
  by_cases h : k = s <;> simp [h]

theorem ASt.set_get (st : ASt) (s : Nat) (b : Option Blk) (h : st.heap s = b) : st.set s b = st := by
  unfold ASt.set
  cases st
  congr 1
  funext k
  by_cases e : k = s
  · subst e; simp at h; simp [h]
  · simp [e]

theorem store_many {base : Nat} {w0 : World} {g : G} {s : Nat} : ∀ (vs : List AVal) (us : List Value) (cs : List AVal) (off : Nat) (st : ASt) (w : World), SInv base w0 g st w →
    st.heap s = some (.cells cs) → off + vs.length ≤ cs.length → (∀ c ∈ vs, c.isCell = true) → Reps g vs us →
    SInv base w0 g (st.set s (some (.cells (putL cs off vs)))) (w.setCells (g.loc s).1 ((g.loc s).2.1 + off) us)
  | [], us, cs, off, st, w, h, hs, _, _, hr => by
    have : us = [] := by have := hr.1; simpa using this
    subst this
    rw [putL, ASt.set_get _ _ _ hs]
    exact h
  | v :: r, us, cs, off, st, w, h, hs, hl, hc, hr => by
    obtain ⟨hlen, hat⟩ := hr
    match us, hlen with
    | u :: us, hlen =>
      have h1 := h.store hs (j := off) (by simp at hl; omega) (hc v (by simp)) (hat 0 v u rfl rfl)
      have h2 := store_many r us (cs.set off v) (off + 1) _ _ h1 (ASt.set_same _ _ _) (by simp at hl ⊢; omega) (fun c hm => hc c (by simp [hm])) ⟨by simpa using hlen, fun j c u' a b => hat (j + 1) c u' (by simpa using a) (by simpa using b)⟩
      rw [ASt.set_set] at h2
      rw [putL, World.setCells, Nat.add_assoc]
      exact h2

section
variable {P : Program} {w : World}

theorem Rep.cell' {g : G} {c : AVal} {u : Value} (h : Rep g c u) (hc : c.isCell = true) : u.oneCell' = true := by
  have := h.oneCell hc
  cases u <;> first | rfl | exact this

theorem Reps.cells' {g : G} {cs : List AVal} {us : List Value} (h : Reps g cs us) (hc : ∀ c ∈ cs, c.isCell = true) : ∀ u ∈ us, u.oneCell' = true := by
  intro u hu
  obtain ⟨j, hj⟩ := List.getElem?_of_mem hu
  have hl := (List.getElem?_eq_some_iff.1 hj).1
  have h1 : cs[j]? = some (cs[j]'(by have := h.1; omega)) := List.getElem?_eq_getElem _
  exact (h.2 j _ u h1 hj).cell' (hc _ (List.mem_of_getElem? h1))

theorem store_sound {base : Nat} {w0 : World} {g : G} {st st' : ASt} (h : SInv base w0 g st w) {t : TypeId} {a v : AVal} {p u : Value} (hp : Rep g a p) (hu : Rep g v u) (ha : storeA P t st a v = some st') :
    ∃ w', (Instr.storeAt t p u).run P w = .ok () w' ∧ SInv base w0 g st' w' := by
  unfold storeA at ha
  split at ha
  · rename_i s off
    split at ha
    · rename_i cs hs
      split at ha
      · rename_i hc
        obtain ⟨h1, h2, h3⟩ := hc
        cases ha
        cases hp
        have hv : ∀ vs, v ≠ .tuple vs := by
          rintro vs rfl
          simp [AVal.cells, AVal.isCell] at h3
        have hcells := hu.cells hv
        have hcl : ∀ c ∈ v.cells, c.isCell = true := fun c hm => by
          have := List.all_eq_true.1 h3 c hm
          exact this
        have hb := h.cells s cs hs
        have hfit := hb.fits
        have hlen := hcells.1
        have hrun := run_storeCells_cells (P := P) (g.loc s).1 ((g.loc s).2.1 + off) u.cells.toList 0 w
          (fun j hj => hb.there _ (by omega) (by omega)) (fun j hj => hb.open_ _ (by omega) (by omega)) (hcells.cells' hcl)
        refine ⟨_, ?_, store_many v.cells u.cells.toList cs off st w h hs h2 hcl hcells⟩
        have e : u.cells.size = v.cells.length := by simpa using hlen
        simp only [Instr.storeAt, Instr.sureAddr, storeVar]
        simp [run_sizeOf_of h1, e]
        simpa using hrun
      · cases ha
    · cases ha
  · cases ha

/-! ### the address of a part -/
def partPtr (P : Program) (t : TypeId) (off : Nat) : AVal → Option AVal
  | .ptr s o => some (.ptr s (o + off))
  | .iptr (.agg cs) => (partA P t cs off).map .iptr
  | _ => none

def fieldA (P : Program) (s : TypeId) (a : AVal) (f : Nat) : Option AVal :=
  match P.underlying s with
  | some (.struct fs) => match fs[f]? with
    | some fd => match szOf P fd.type with
      | some (_ + 1) => partPtr P fd.type fd.offset a
      | _ => none
    | none => none
  | _ => none

theorem partPtr_sound {g : G} {t : TypeId} {off : Nat} {a v : AVal} {p : Value} (hp : Rep g a p) (h : partPtr P t off a = some v) :
    ∃ B o, p = .pointer (some ⟨B, o, none⟩) ∧ Rep g v (.pointer (some ⟨B, o + off, none⟩)) := by
  unfold partPtr at h
  split at h
  · rename_i s o
    cases h
    cases hp
    rename_i hs
    refine ⟨_, _, rfl, ?_⟩
    rw [Nat.add_assoc]
    exact .ptr hs
  · rename_i cs
    cases hp
    rename_i B o f hf hf2 hc
    refine ⟨B, o, rfl, ?_⟩
    cases hpa : partA P t cs off with
    | none => rw [hpa] at h; cases h
    | some v' =>
      rw [hpa] at h
      cases h
      have hcs : (AVal.agg cs).cells = cs := rfl
      rw [hcs] at hf hf2 hc
      unfold partA at hpa
      split at hpa
      · rename_i sz _ _
        split at hpa
        · cases hpa
          refine .iptr (f := fun j => f (off + j)) (fun j c hj => ?_) (fun j c hj => ?_) (fun c hm => hc c (List.mem_of_mem_drop (List.mem_of_mem_take hm)))
          · have hj' : ((cs.drop off).take sz)[j]? = some c := hj
            rw [List.getElem?_take] at hj'
            split at hj'
            · rw [List.getElem?_drop] at hj'
              rw [Nat.add_assoc]
              exact hf _ c hj'
            · cases hj'
          · have hj' : ((cs.drop off).take sz)[j]? = some c := hj
            rw [List.getElem?_take] at hj'
            split at hj'
            · rw [List.getElem?_drop] at hj'
              exact hf2 _ c hj'
            · cases hj'
        · cases hpa
      · have hcell := hc v' (List.mem_of_getElem? hpa)
        have e : v'.cells = [v'] := by cases v' <;> simp_all [AVal.cells, AVal.isCell]
        refine .iptr (f := fun _ => f off) (fun j c hj => ?_) (fun j c hj => ?_) (fun c hm => by rw [e] at hm; simp at hm; rw [hm]; exact hcell)
        · rw [e] at hj
          cases j with
          | zero => cases hj; exact hf off _ hpa
          | succ j => cases hj
        · rw [e] at hj
          cases j with
          | zero => cases hj; exact hf2 off _ hpa
          | succ j => cases hj
      · cases hpa
  · cases h

theorem field_sound {g : G} {s : TypeId} {f : Nat} {a v : AVal} {p : Value} (hp : Rep g a p) (h : fieldA P s a f = some v) :
    ∃ u, (Instr.fieldAt s p f).run P w = .ok u w ∧ Rep g v u := by
  unfold fieldA at h
  split at h
  · rename_i fs hu
    split at h
    · rename_i fd hf
      split at h
      · rename_i n hz
        obtain ⟨B, o, rfl, hr⟩ := partPtr_sound hp h
        refine ⟨_, ?_, hr⟩
        simp [Instr.fieldAt, run_underlying_of hu, hf, Instr.sureAddr, fieldPlace, run_sizeOf_of hz, addr_add]
      · cases h
    · cases h
  · cases h

/-! ### what a value tells of its kind -/
theorem Rep.slice_inv {g : G} {s off len sz : Nat} {kc : Option Nat} {u : Value} (h : Rep g (.slice s off len sz kc) u) :
    ∃ cap, u = .slice (some ⟨(g.loc s).1, (g.loc s).2.1 + off, none⟩) len cap ∧ s < g.n ∧ (∀ k, kc = some k → cap = k) ∧ len ≤ cap ∧ 0 < sz ∧ (kc = none → (g.loc s).2.1 + off + cap * sz = (g.loc s).2.2) := by
  cases h
  exact ⟨_, rfl, by assumption, by assumption, by assumption, by assumption, by assumption⟩

theorem Rep.islice_inv {g : G} {sz : Nat} {es : List AVal} {k : Cap} {u : Value} (h : Rep g (.islice sz es k) u) :
    ∃ (cap B o : Nat) (f : Nat → Nat → Value), u = .slice (some ⟨B, o, none⟩) es.length cap ∧ es.length ≤ cap ∧ (∀ (i : Nat) (e : AVal), es[i]? = some e → e.cells.length = sz) ∧
      (∀ (i : Nat) (e : AVal) (j : Nat) (c : AVal), es[i]? = some e → e.cells[j]? = some c → g.own B (o + (i * sz + j)) = .frozen (f i j)) ∧
      (∀ (i : Nat) (e : AVal) (j : Nat) (c : AVal), es[i]? = some e → e.cells[j]? = some c → Rep g c (f i j)) ∧
      (∀ (i : Nat) (e : AVal), es[i]? = some e → ∀ c ∈ e.cells, c.isCell = true) ∧ CapOK g sz B o es.length cap k := by
  cases h
  exact ⟨_, _, _, _, rfl, by assumption, by assumption, by assumption, by assumption, by assumption, by assumption⟩

theorem Rep.agg_inv {g : G} {cs : List AVal} {u : Value} (h : Rep g (.agg cs) u) : ∃ us : Array Value, u = .agg us ∧ Reps g cs us.toList ∧ ∀ c ∈ cs, c.isCell = true := by
  cases h
  rename_i us hl hr hc
  exact ⟨us, rfl, ⟨by simpa using hl, fun j c u a b => hr j c u a (by simpa using b)⟩, hc⟩

/-! ### an index -/
def intOfA : AVal → Option Int
  | .lit (.int _ i) => some i
  | _ => none

def elemA (P : Program) (e : TypeId) (len : Nat) (a : AVal) (i : Int) : Option AVal :=
  if 0 ≤ i ∧ i < len then match szOf P e with
    | some sz => partPtr P e (i.toNat * sz) a
    | none => none
  else none

def indexA (P : Program) (t : TypeId) (a ix : AVal) : Option AVal :=
  match P.underlying t, intOfA ix with
  | some (.array len e), some i => elemA P e len a i
  | some (.slice e), some i => match a with
    | .slice s off len _ _ => elemA P e len (.ptr s off) i
    | .islice sz es _ => if 0 ≤ i ∧ i < es.length ∧ szOf P e = some sz then (es[i.toNat]?).map .iptr else none
    | _ => none
  | _, _ => none

theorem Rep.int_inv {g : G} {a : AVal} {u : Value} {i : Int} (h : Rep g a u) (hi : intOfA a = some i) : ∃ k, u = .int k i := by
  unfold intOfA at hi
  split at hi
  · cases hi; exact ⟨_, h.flat⟩
  · cases hi

theorem index_sound {g : G} {t : TypeId} {a ix v : AVal} {p q : Value} (hp : Rep g a p) (hq : Rep g ix q) (h : indexA P t a ix = some v) :
    ∃ u, (Instr.indexAt t p q).run P w = .ok u w ∧ Rep g v u := by
  unfold indexA at h
  split at h
  · rename_i len e i hu hi
    obtain ⟨k, rfl⟩ := hq.int_inv hi
    unfold elemA at h
    split at h
    · rename_i hb
      split at h
      · rename_i sz hz
        obtain ⟨B, o, rfl, hr⟩ := partPtr_sound hp h
        refine ⟨_, ?_, hr⟩
        simp [Instr.indexAt, asIntOf, run_underlying_of hu, Instr.sureAddr, hb, run_sizeOf_of hz, addr_add]
      · cases h
    · cases h
  · rename_i e i hu hi
    obtain ⟨k, rfl⟩ := hq.int_inv hi
    split at h
    · rename_i s off len sz' cap
      obtain ⟨cap', rfl, hs, _⟩ := hp.slice_inv
      unfold elemA at h
      split at h
      · rename_i hb
        split at h
        · rename_i sz hz
          cases h
          refine ⟨_, ?_, .ptr hs⟩
          simp [Instr.indexAt, asIntOf, run_underlying_of hu, Instr.sureAddr, hb, run_sizeOf_of hz, addr_add, Nat.add_assoc]
        · cases h
      · cases h
    · rename_i sz es c
      obtain ⟨cap', B, o, f, rfl, hl, hs, hf, hf2, hc, hk⟩ := hp.islice_inv
      split at h
      · rename_i hb
        obtain ⟨b0, b1, hz⟩ := hb
        cases he : es[i.toNat]? with
        | none => rw [he] at h; cases h
        | some e' =>
          rw [he] at h
          cases h
          refine ⟨_, ?_, .iptr (B := B) (o := o + i.toNat * sz) (f := f i.toNat) (fun j c hj => ?_) (fun j c hj => hf2 _ _ j c he hj) (hc _ _ he)⟩
          · simp [Instr.indexAt, asIntOf, run_underlying_of hu, Instr.sureAddr, b0, b1, run_sizeOf_of hz, addr_add]
          · rw [Nat.add_assoc]
            exact hf _ _ j c he hj
      · cases h
    · cases h
  · cases h

/-! ### parts of values -/
def fieldV (P : Program) (s : TypeId) (a : AVal) (f : Nat) : Option AVal :=
  match P.underlying s, a with
  | some (.struct fs), .agg cs => match fs[f]? with
    | some fd => partA P fd.type cs fd.offset
    | none => none
  | _, _ => none

def indexV (P : Program) (t : TypeId) (a ix : AVal) : Option AVal :=
  match P.underlying t, a, intOfA ix with
  | some (.array len e), .agg cs, some i => if 0 ≤ i ∧ i < len then match szOf P e with
      | some sz => partA P e cs (i.toNat * sz)
      | none => none
    else none
  | _, _, _ => none

theorem fieldV_sound {g : G} {s : TypeId} {f : Nat} {a v : AVal} {p : Value} (hp : Rep g a p) (h : fieldV P s a f = some v) :
    ∃ u, (Instr.field s p f).run P w = .ok u w ∧ Rep g v u := by
  unfold fieldV at h
  split at h
  · rename_i fs cs hu
    split at h
    · rename_i fd hf
      obtain ⟨us, rfl, hr, hc⟩ := hp.agg_inv
      obtain ⟨u, h1, h2⟩ := part_sound (P := P) (w := w) hr hc h
      refine ⟨u, ?_, h2⟩
      simp [Instr.field, run_underlying_of hu, hf, asAgg, h1]
    · cases h
  · cases h

theorem indexV_sound {g : G} {t : TypeId} {a ix v : AVal} {p q : Value} (hp : Rep g a p) (hq : Rep g ix q) (h : indexV P t a ix = some v) :
    ∃ u, (Instr.index t p q).run P w = .ok u w ∧ Rep g v u := by
  unfold indexV at h
  split at h
  · rename_i len e cs i hu hi
    obtain ⟨k, rfl⟩ := hq.int_inv hi
    split at h
    · rename_i hb
      split at h
      · rename_i sz hz
        obtain ⟨us, rfl, hr, hc⟩ := hp.agg_inv
        obtain ⟨u, h1, h2⟩ := part_sound (P := P) (w := w) hr hc h
        refine ⟨u, ?_, h2⟩
        simp [Instr.index, asIntOf, run_underlying_of hu, hb, run_sizeOf_of hz, h1]
      · cases h
    · cases h
  · cases h

def extractA (a : AVal) (i : Nat) : Option AVal :=
  match a with
  | .tuple vs => vs[i]?
  | _ => none

theorem extract_sound {g : G} {a v : AVal} {i : Nat} {p : Value} (hp : Rep g a p) (h : extractA a i = some v) : ∃ u, (Instr.extract p i).run P w = .ok u w ∧ Rep g v u := by
  unfold extractA at h
  split at h
  · cases hp
    rename_i us hl hr
    have hlt := (List.getElem?_eq_some_iff.1 h).1
    have hu : us[i]? = some (us[i]'(by omega)) := Array.getElem?_eq_getElem _
    exact ⟨_, by simp [Instr.extract, hu], hr i v _ h hu⟩
  · cases h

end
end Go.Proofs.YtjpehemkgikkdaaA
