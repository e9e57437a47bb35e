/- Appending: that the model does the same. No condition. -/
import Derived.Test.YtjpehemkgikkdaaA8
import Derived.Laws.AppendOwn
namespace Go.Proofs.YtjpehemkgikkdaaA
open Go Go.RowKit
set_option linter.unusedVariables false
set_option linter.unusedSimpArgs false

def byteA (b : UInt8) : AVal := .lit (.int .u8 b.toNat)

/-- elements cut out of cells -/
def chunkA (P : Program) (e : TypeId) (sz : Nat) (cs : List AVal) (off : Nat) : Nat → Option (List AVal)
  | 0 => some []
  | n + 1 => match partA P e cs off, chunkA P e sz cs (off + sz) n with
    | some v, some r => some (v :: r)
    | _, _ => none

/-- what is appended, by elements -/
def srcA (P : Program) (e tx : TypeId) (agg : Bool) (sz : Nat) (st : ASt) (x : AVal) : Option (List AVal) :=
  match P.underlying tx with
  | some (.slice _) => match x with
    | .lit (.slice _ 0 0) => some []
    | .islice sz' es _ => if sz' = sz ∧ es.all (elemOk agg sz) = true then some es else none
    | .slice s off len sz' _ => if sz' = sz then match st.heap s with
        | some (.cells cs) => match chunkA P e sz cs off len with
          | some es => if es.all (elemOk agg sz) = true then some es else none
          | none => none
        | _ => none
      else none
    | _ => none
  | some .string => match x with
    | .lit (.string s) => if sz = 1 ∧ agg = false then some (s.data.toList.map byteA) else none
    | _ => none
  | _ => none

/-- a slice that grew: all its elements, in a new row -/
def grownA (mt : Bool) (sz : Nat) (all : List AVal) (st : ASt) : AVal × ASt :=
  if mt then (.slice st.ctr 0 all.length sz none, st.new (.cells (flatE all))) else (.islice sz all (.tok st.ctr), st.new (.cells []))

def appendA (P : Program) (mt : Bool) (t tx : TypeId) (s x : AVal) (st : ASt) : Option (AVal × ASt) :=
  match sliceElem P t with
  | some e => match P.info? e, aggT P e, zeroA P e with
    | some i, some agg, some z => if 0 < i.size ∧ i.bytes ≤ 4096 ∧ elemOk agg i.size z = true then
        match srcA P e tx agg i.size st x with
        | some news => if news = [] then (match s with
              | .lit (.slice none 0 0) | .islice .. | .slice .. => some (s, st)
              | _ => none) else
            match s with
            | .lit (.slice none 0 0) => if news.length ≤ 1073741824 then some (grownA mt i.size news st) else none
            | .islice sz es k => if sz = i.size ∧ es.all (elemOk agg i.size) = true ∧ es.length + news.length ≤ 1073741824 then (match k with
                | .exact => some (grownA mt i.size (es ++ news) st)
                | .tok t => if mt then none else (match st.heap t with
                  | some (.cells _) => some (grownA false i.size (es ++ news) (st.set t none))
                  | _ => none)
                | .unk => none) else none
            | .slice s off len sz cap => if sz = i.size ∧ len + news.length ≤ 1073741824 then (match st.heap s with
                | some (.cells cs) => match chunkA P e i.size cs off len with
                  | some es => if es.all (elemOk agg i.size) = true then (match cap with
                      | none => some (grownA true i.size (es ++ news) (st.set s none))
                      | some c => if len + news.length ≤ c then
                            (if off + (len + news.length) * i.size ≤ cs.length then some (.slice s off (len + news.length) sz (some c), st.set s (some (.cells (putL cs (off + len * i.size) (flatE news))))) else none)
                          else some (grownA mt i.size (es ++ news) st)) else none
                  | none => none
                | _ => none) else none
            | _ => none
        | none => none
      else none
    | _, _, _ => none
  | none => none

theorem flatE_append (a b : List AVal) : flatE (a ++ b) = flatE a ++ flatE b := by simp [flatE]

theorem Reps.append {g : G} {a b : List AVal} {us vs : List Value} (h : Reps g a us) (k : Reps g b vs) : Reps g (a ++ b) (us ++ vs) := by
  refine ⟨by simp [h.1, k.1], fun j c u hj hu => ?_⟩
  rw [List.getElem?_append] at hj hu
  rw [h.1] at hu
  split at hj
  · rename_i hlt; rw [if_pos hlt] at hu; exact h.2 j c u hj hu
  · rename_i hlt; rw [if_neg hlt] at hu; exact k.2 _ c u hj hu

theorem flatE_bytes : ∀ (l : List UInt8), flatE (l.map byteA) = (l.map fun b => Value.int .u8 b.toNat).map .lit
  | [] => rfl
  | b :: l => by
    have := flatE_bytes l
    simp only [flatE, List.map_cons, List.flatMap_cons] at this ⊢
    rw [this]
    rfl

section
variable {P : Program} {w : World}

/-- the elements of a row, and the cells that they are: as flat lists -/
theorem islice_flat {g : G} {sz B o : Nat} {f : Nat → Nat → Value} : ∀ (es : List AVal) (k : Nat),
    (∀ (i : Nat) (e : AVal), es[i]? = some e → e.cells.length = sz) →
    (∀ (i : Nat) (e : AVal) (j : Nat) (c : AVal), es[i]? = some e → e.cells[j]? = some c → g.own B (o + ((k + i) * sz + j)) = .frozen (f (k + i) j)) →
    (∀ (i : Nat) (e : AVal) (j : Nat) (c : AVal), es[i]? = some e → e.cells[j]? = some c → Rep g c (f (k + i) j)) →
    ∃ us, Reps g (flatE es) us ∧ ∀ (j : Nat) (u : Value), us[j]? = some u → g.own B (o + (k * sz + j)) = .frozen u
  | [], k, _, _, _ => ⟨[], ⟨rfl, fun j c u a b => by simp at b⟩, fun j u h => by simp at h⟩
  | e :: es, k, h1, h2, h3 => by
    obtain ⟨us, r1, r2⟩ := islice_flat es (k + 1) (fun i e' hi => h1 (i + 1) e' (by simpa using hi))
      (fun i e' j c hi hj => by have := h2 (i + 1) e' j c (by simpa using hi) hj; rwa [show k + (i + 1) = k + 1 + i by omega] at this)
      (fun i e' j c hi hj => by have := h3 (i + 1) e' j c (by simpa using hi) hj; rwa [show k + (i + 1) = k + 1 + i by omega] at this)
    have hl := h1 0 e rfl
    refine ⟨(List.range sz).map (f k) ++ us, ?_, fun j u hj => ?_⟩
    · rw [show flatE (e :: es) = e.cells ++ flatE es by simp [flatE]]
      refine Reps.append ⟨by simp [hl], fun j c u a b => ?_⟩ r1
      have := h3 0 e j c rfl a
      have hlt := (List.getElem?_eq_some_iff.1 a).1
      simp [show j < sz by omega] at b
      subst b
      simpa using this
    · rw [List.getElem?_append] at hj
      split at hj
      · rename_i hlt
        simp at hlt
        simp [hlt] at hj
        subst hj
        have h4 : e.cells[j]? = some (e.cells[j]'(by omega)) := List.getElem?_eq_getElem _
        have := h2 0 e j _ rfl h4
        simpa using this
      · rename_i hlt
        simp at hlt hj
        have := r2 _ u hj
        rw [← this]
        congr 1
        rw [Nat.add_mul]
        omega

theorem part_cells {e : TypeId} {sz : Nat} {cs : List AVal} {off : Nat} {v : AVal} (hz : szOf P e = some sz) (h : partA P e cs off = some v) (hv : v.cells.length = sz) (hc : ∀ c ∈ cs, c.isCell = true) (hag : aggT P e = some false → sz = 1) :
    ∀ (j : Nat) (c : AVal), v.cells[j]? = some c → cs[off + j]? = some c := by
  intro j c hj
  unfold partA at h
  rw [hz] at h
  split at h
  · rename_i sz' ha hs
    cases hs
    split at h
    · cases h
      have hj' : ((cs.drop off).take sz)[j]? = some c := hj
      rw [List.getElem?_take] at hj'
      split at hj'
      · rw [List.getElem?_drop] at hj'; exact hj'
      · cases hj'
    · cases h
  · have hcell := hc v (List.mem_of_getElem? h)
    have e : v.cells = [v] := by cases v <;> simp_all [AVal.cells, AVal.isCell]
    rw [e] at hj
    cases j with
    | zero => cases hj; exact h
    | succ j => cases hj
  · cases h

/-- elements cut out of cells are these cells -/
theorem chunk_cells {e : TypeId} {agg : Bool} {sz : Nat} (hz : szOf P e = some sz) (ha : aggT P e = some agg) {cs : List AVal} (hc : ∀ c ∈ cs, c.isCell = true) : ∀ (n off : Nat) (es : List AVal),
    chunkA P e sz cs off n = some es → (∀ x ∈ es, elemOk agg sz x = true) → es.length = n ∧ (flatE es).length = n * sz ∧ ∀ (j : Nat) (c : AVal), (flatE es)[j]? = some c → cs[off + j]? = some c
  | 0, off, es, h, _ => by cases h; exact ⟨rfl, by simp [flatE], fun j c hj => by simp [flatE] at hj⟩
  | n + 1, off, es, h, hok => by
    unfold chunkA at h
    split at h
    · rename_i v r hv hr
      cases h
      have hvl := elemOk_len (hok v (by simp))
      obtain ⟨i1, i2, i3⟩ := chunk_cells hz ha hc n (off + sz) r hr (fun x hx => hok x (by simp [hx]))
      have hp := part_cells hz hv hvl hc (fun hag => by
        have hv2 := hok v (by simp)
        rw [ha] at hag
        cases hag
        have hcell : v.cells = [v] := by
          cases v <;> simp_all [elemOk, AVal.cells]
        rw [hcell] at hvl
        simpa using hvl.symm)
      have hfl : flatE (v :: r) = v.cells ++ flatE r := by simp [flatE]
      refine ⟨by simp [i1], by rw [hfl, List.length_append, hvl, i2, Nat.add_mul]; omega, fun j c hj => ?_⟩
      rw [hfl, List.getElem?_append] at hj
      split at hj
      · exact hp j c hj
      · rename_i hlt
        have := i3 _ c hj
        rw [← this]
        congr 1
        omega
    · cases h

theorem elems_cell {agg : Bool} {sz : Nat} {es : List AVal} (h : ∀ x ∈ es, elemOk agg sz x = true) : ∀ c ∈ flatE es, c.isCell = true := by
  intro c hc
  obtain ⟨e, h1, h2⟩ := List.mem_flatMap.1 hc
  exact elemOk_cell (h e h1) c h2

theorem elems_len {agg : Bool} {sz : Nat} {es : List AVal} (h : ∀ x ∈ es, elemOk agg sz x = true) : (flatE es).length = es.length * sz := flatE_len es (fun e he => elemOk_len (h e he))

/-- what is read of a slice: the cells of its elements -/
theorem slice_cells {base : Nat} {w0 : World} {g : G} {st : ASt} (h : SInv base w0 g st w) {e : TypeId} {agg : Bool} {sz s off len : Nat} {cap : Option Nat} {u : Value} {cs es : List AVal} (hr : Rep g (.slice s off len sz cap) u)
    (hs : st.heap s = some (.cells cs)) (hz : szOf P e = some sz) (ha : aggT P e = some agg) (hch : chunkA P e sz cs off len = some es) (hok : ∀ x ∈ es, elemOk agg sz x = true) :
    es.length = len ∧ ∃ us, Reps g (flatE es) us ∧ us.length = len * sz ∧ ∀ (j : Nat) (v : Value), us[j]? = some v → w.cell? ⟨(g.loc s).1, (g.loc s).2.1 + off + j, none⟩ = some v := by
  have hb := h.cells s cs hs
  obtain ⟨i1, i2, i3⟩ := chunk_cells hz ha (fun c hc => by obtain ⟨j, hj⟩ := List.getElem?_of_mem hc; exact (hb.rep j c hj).1) len off es hch hok
  refine ⟨i1, (List.range (len * sz)).map (fun j => (w.cell? ⟨(g.loc s).1, (g.loc s).2.1 + off + j, none⟩).getD undef), ⟨by simp [i2], fun j c v a b => ?_⟩, by simp, fun j v hj => ?_⟩
  · obtain ⟨_, v', hv', hr'⟩ := hb.rep _ c (i3 j c a)
    have hlt : j < len * sz := by have := (List.getElem?_eq_some_iff.1 a).1; omega
    simp [hlt] at b
    rw [Nat.add_assoc, hv'] at b
    simp at b
    subst b
    exact hr'
  · have hlt : j < len * sz := by have := (List.getElem?_eq_some_iff.1 hj).1; simpa using this
    have h1 : (flatE es)[j]? = some ((flatE es)[j]'(by omega)) := List.getElem?_eq_getElem _
    obtain ⟨_, v', hv', _⟩ := hb.rep _ _ (i3 j _ h1)
    simp [hlt] at hj
    rw [Nat.add_assoc, hv'] at hj
    simp at hj
    subst hj
    rw [Nat.add_assoc]
    exact hv'

theorem src_sound {base : Nat} {w0 : World} {g : G} {st : ASt} (h : SInv base w0 g st w) {e tx : TypeId} {agg : Bool} {sz : Nat} {x : AVal} {q : Value} {news : List AVal} (hz : szOf P e = some sz) (ha : aggT P e = some agg)
    (hx : Rep g x q) (hs : srcA P e tx agg sz st x = some news) : ∃ us, Src P sz tx q news.length us w ∧ Reps g (flatE news) us ∧ ∀ x ∈ news, elemOk agg sz x = true := by
  unfold srcA at hs
  split at hs
  · rename_i e' htx
    split at hs
    · cases hs
      have := hx.flat
      subst this
      rename_i a0
      cases a0 with
      | none => exact ⟨[], Src.ofNil w htx 0, ⟨rfl, fun j c u a b => by simp at b⟩, fun x hx => by simp at hx⟩
      | some a0 => exact ⟨[], Src.ofSlice w htx a0 0 0 [] (by simp) (fun j u hj => by simp at hj) (fun u hu => by cases hu), ⟨rfl, fun j c u a b => by simp at b⟩, fun x hx => by simp at hx⟩
    · rename_i sz' es k
      split at hs
      · rename_i hc
        obtain ⟨rfl, hok⟩ := hc
        cases hs
        have hok' : ∀ x ∈ news, elemOk agg sz' x = true := fun x hm => List.all_eq_true.1 hok x hm
        obtain ⟨cap, B, o, f, rfl, hl, hs1, hf, hf2, hc, hk⟩ := hx.islice_inv
        obtain ⟨us, r1, r2⟩ := islice_flat (g := g) (B := B) (o := o) (f := f) news 0 hs1 (fun i e j c hi hj => by simpa using hf i e j c hi hj) (fun i e j c hi hj => by simpa using hf2 i e j c hi hj)
        refine ⟨us, Src.ofSlice w htx ⟨B, o, none⟩ news.length cap us (by rw [r1.1, elems_len hok']) (fun j u hj => ?_) (r1.cells' (elems_cell hok')), r1, hok'⟩
        rw [addr_add]
        have := r2 j u hj
        rw [Nat.zero_mul, Nat.zero_add] at this
        exact h.fr _ _ _ this
      · cases hs
    · rename_i s off len sz' cap
      split at hs
      · rename_i hsz
        subst hsz
        split at hs
        · rename_i cs hcs
          split at hs
          · rename_i es hch
            split at hs
            · rename_i hok
              cases hs
              have hok' : ∀ x ∈ news, elemOk agg sz' x = true := fun x hm => List.all_eq_true.1 hok x hm
              obtain ⟨i1, us, r1, r2, r3⟩ := slice_cells h hx hcs hz ha hch hok'
              obtain ⟨cap', rfl, _⟩ := hx.slice_inv
              refine ⟨us, ?_, r1, hok'⟩
              rw [i1]
              exact Src.ofSlice w htx _ len cap' us r2 (fun j u hj => by rw [addr_add]; exact r3 j u hj) (r1.cells' (elems_cell hok'))
            · cases hs
          · cases hs
        · cases hs
      · cases hs
    · cases hs
  · rename_i htx
    split at hs
    · rename_i s
      split at hs
      · rename_i hc
        obtain ⟨rfl, rfl⟩ := hc
        cases hs
        have := hx.flat
        subst this
        refine ⟨byteCells s, ?_, ?_, fun x hx => ?_⟩
        · have := Src.ofString (P := P) w htx s
          rwa [show (List.map byteA s.data.toList).length = s.size by simp]
        · have : flatE (List.map byteA s.data.toList) = (byteCells s).map .lit := flatE_bytes _
          rw [this]
          exact reps_lits (List.all_eq_true.2 fun u hu => by
            obtain ⟨b, _, rfl⟩ := List.mem_map.1 hu
            rfl)
        · obtain ⟨b, _, rfl⟩ := List.mem_map.1 hx
          rfl
      · cases hs
    · cases hs
  · cases hs

end
end Go.Proofs.YtjpehemkgikkdaaA
