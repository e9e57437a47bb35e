/- More operations of the second reading: slices: made, cut, appended to. No condition. -/
import Derived.Test.YtjpehemkgikkdaaA5
namespace Go.Proofs.YtjpehemkgikkdaaA
open Go Go.RowKit
set_option linter.unusedVariables false
set_option linter.unusedSimpArgs false

/-- may a value be an element of the type: its cells, and whether it is an aggregate -/
def elemOk (agg : Bool) (sz : Nat) (v : AVal) : Bool := v.cells.length == sz && v.cells.all AVal.isCell && (match v with | .agg _ => agg | _ => !agg)

theorem elemOk_len {agg : Bool} {sz : Nat} {v : AVal} (h : elemOk agg sz v = true) : v.cells.length = sz := by
  simp [elemOk] at h; exact h.1.1
theorem elemOk_cell {agg : Bool} {sz : Nat} {v : AVal} (h : elemOk agg sz v = true) : ∀ c ∈ v.cells, c.isCell = true := by
  simp [elemOk] at h; exact h.1.2

def flatE (es : List AVal) : List AVal := es.flatMap AVal.cells

theorem flatE_len {sz : Nat} : ∀ (es : List AVal), (∀ e ∈ es, e.cells.length = sz) → (flatE es).length = es.length * sz
  | [], _ => by simp [flatE]
  | e :: es, h => by
    have := flatE_len es (fun x hx => h x (by simp [hx]))
    simp only [flatE, List.flatMap_cons, List.length_append, List.length_cons] at this ⊢
    rw [this, h e (by simp), Nat.add_mul]
    omega

theorem flatE_get {sz : Nat} : ∀ (es : List AVal) (i j : Nat) (e c : AVal), (∀ e ∈ es, e.cells.length = sz) → es[i]? = some e → e.cells[j]? = some c → (flatE es)[i * sz + j]? = some c
  | x :: es, 0, j, e, c, h, hi, hj => by
    cases hi
    simp only [flatE, List.flatMap_cons, Nat.zero_mul, Nat.zero_add]
    rw [List.getElem?_append_left (List.getElem?_eq_some_iff.1 hj).1]
    exact hj
  | x :: es, i + 1, j, e, c, h, hi, hj => by
    have := flatE_get es i j e c (fun y hy => h y (by simp [hy])) (by simpa using hi) hj
    have hx := h x (by simp)
    simp only [flatE, List.flatMap_cons] at this ⊢
    rw [List.getElem?_append_right (by rw [hx, Nat.add_mul]; omega), hx, Nat.add_mul]
    rw [show i * sz + 1 * sz + j - sz = i * sz + j by omega]
    exact this

theorem putL_append_left : ∀ (vs a b : List AVal) (off : Nat), off + vs.length ≤ a.length → putL (a ++ b) off vs = putL a off vs ++ b
  | [], a, b, off, _ => rfl
  | v :: r, a, b, off, h => by
    simp only [List.length_cons] at h
    rw [putL, putL, List.set_append_left _ _ (by omega)]
    exact putL_append_left r _ _ _ (by simp; omega)

theorem putL_append_right : ∀ (vs a b : List AVal) (off : Nat), putL (a ++ b) (a.length + off) vs = a ++ putL b off vs
  | [], a, b, off => rfl
  | v :: r, a, b, off => by
    rw [putL, putL, List.set_append_right _ _ (by omega), show a.length + off - a.length = off by omega, Nat.add_assoc]
    exact putL_append_right r _ _ _

theorem putL_whole : ∀ (vs a : List AVal), a.length = vs.length → putL a 0 vs = vs := by
  have key : ∀ (vs a pre : List AVal), a.length = vs.length → putL (pre ++ a) pre.length vs = pre ++ vs := by
    intro vs
    induction vs with
    | nil => intro a pre h; have : a = [] := by simpa using h
             subst this; rfl
    | cons v r ih =>
      intro a pre h
      match a, h with
      | x :: a, h =>
        rw [putL, List.set_append_right _ _ (Nat.le_refl _), Nat.sub_self, List.set_cons_zero]
        have := ih a (pre ++ [v]) (by simpa using h)
        simpa using this
  intro vs a h
  simpa using key vs a [] h

theorem putL_flatE {sz : Nat} : ∀ (es : List AVal) (i : Nat) (v : AVal), (∀ e ∈ es, e.cells.length = sz) → i < es.length → v.cells.length = sz → putL (flatE es) (i * sz) v.cells = flatE (es.set i v)
  | e :: es, 0, v, h, _, hv => by
    simp only [flatE, List.flatMap_cons, List.set_cons_zero, Nat.zero_mul]
    have he := h e (by simp)
    rw [putL_append_left _ _ _ _ (by omega), putL_whole _ _ (by omega)]
  | e :: es, i + 1, v, h, hi, hv => by
    have he := h e (by simp)
    have ih := putL_flatE es i v (fun y hy => h y (by simp [hy])) (by simpa using hi) hv
    simp only [flatE, List.flatMap_cons, List.set_cons_succ] at ih ⊢
    rw [show (i + 1) * sz = e.cells.length + i * sz by rw [he, Nat.add_mul]; omega, putL_append_right, ih]

/-- elements with parts laid in -/
def setsE (agg : Bool) (sz : Nat) : List AVal → List (Nat × AVal) → Option (List AVal)
  | es, [] => some es
  | es, (i, v) :: r => if i < es.length ∧ elemOk agg sz v = true then setsE agg sz (es.set i v) r else none

theorem setsE_fill {agg : Bool} {sz : Nat} : ∀ (ps : List (Nat × AVal)) (es es' : List AVal), (∀ e ∈ es, elemOk agg sz e = true) → setsE agg sz es ps = some es' →
    fillA (fun i => some (i * sz, sz)) (flatE es) ps = some (flatE es') ∧ (∀ e ∈ es', elemOk agg sz e = true) ∧ es'.length = es.length
  | [], es, es', h, hs => by cases hs; exact ⟨rfl, h, rfl⟩
  | (i, v) :: r, es, es', h, hs => by
    unfold setsE at hs
    split at hs
    · rename_i hc
      obtain ⟨h1, h2⟩ := hc
      have hes : ∀ e ∈ es, e.cells.length = sz := fun e he => elemOk_len (h e he)
      obtain ⟨e1, e2, e3⟩ := setsE_fill r (es.set i v) es' (fun e he => by
        rcases List.mem_or_eq_of_mem_set he with h3 | h3
        · exact h e h3
        · rw [h3]; exact h2) hs
      refine ⟨?_, e2, by simpa using e3⟩
      unfold fillA
      simp only
      rw [if_pos ⟨elemOk_len h2, by rw [flatE_len es hes, ← Nat.succ_mul]; exact Nat.mul_le_mul_right _ h1, List.all_eq_true.2 (elemOk_cell h2)⟩, putL_flatE es i v hes h1 (elemOk_len h2)]
      exact e1
    · cases hs

def sliceElem (P : Program) (t : TypeId) : Option TypeId :=
  match P.underlying t with
  | some (.slice e) => some e
  | _ => none

/-- a slice written out: `mt`: as a block that may be written again -/
def buildSliceA (P : Program) (mt : Bool) (t : TypeId) (len : Nat) (parts : List (Nat × AVal)) (st : ASt) : Option (AVal × ASt) :=
  match sliceElem P t with
  | some e => match szOf P e, aggT P e, zeroA P e with
    | some sz, some agg, some z => if 0 < sz ∧ len * sz ≤ 16777216 ∧ elemOk agg sz z = true then
        match setsE agg sz (List.replicate len z) parts with
        | some es => if mt then some (.slice st.ctr 0 len sz (some len), st.new (.cells (flatE es))) else some (.islice sz es .exact, st)
        | none => none
      else none
    | _, _, _ => none
  | none => none

theorem getElem_bang_eq {l : Array Value} {i : Nat} (h : i < l.size) : l[i]! = l[i] := by
  simp [h]

theorem reps_zero_rep {g : G} {z : AVal} {z0 : Value} {sz : Nat} (hr : Reps g z.cells z0.cells.toList) (hz : z.cells.length = sz) (h0 : 0 < sz) (n : Nat) :
    Reps g (flatE (List.replicate n z)) (madeCells z0.cells (n * sz)).toList := by
  have hl : z0.cells.size = sz := by have := hr.1; simp at this; omega
  subst hl
  have hall : ∀ e ∈ List.replicate n z, e.cells.length = z0.cells.size := fun e he => by rw [List.eq_of_mem_replicate he]; exact hz
  have hlen := flatE_len (List.replicate n z) hall
  refine ⟨by rw [hlen]; simp [madeCells], fun j c u a b => ?_⟩
  have hj : j < n * z0.cells.size := by
    have := (List.getElem?_eq_some_iff.1 a).1
    rw [hlen] at this
    simpa using this
  have hm : j % z0.cells.size < z0.cells.size := Nat.mod_lt _ h0
  have hd : j / z0.cells.size < n := Nat.div_lt_of_lt_mul (by rw [Nat.mul_comm]; exact hj)
  have h1 : (List.replicate n z)[j / z0.cells.size]? = some z := by simp [hd]
  have h2 : z.cells[j % z0.cells.size]? = some (z.cells[j % z0.cells.size]'(by omega)) := List.getElem?_eq_getElem _
  have h3 := flatE_get (List.replicate n z) (j / z0.cells.size) (j % z0.cells.size) z _ hall h1 h2
  rw [Nat.div_add_mod' j z0.cells.size] at h3
  rw [h3] at a
  cases a
  have hu : u = z0.cells[j % z0.cells.size]'(by omega) := by
    simp [madeCells, hj] at b
    rw [← b]
    exact getElem_bang_eq (by omega)
  rw [hu]
  refine hr.2 _ _ _ h2 ?_
  simp

section
variable {P : Program} {w : World}

theorem sliceElem_inv {t e : TypeId} (h : sliceElem P t = some e) : P.underlying t = some (.slice e) := by
  unfold sliceElem at h
  split at h
  · cases h; assumption
  · cases h

theorem szOf_inv {t : TypeId} {n : Nat} (h : szOf P t = some n) : ∃ i, P.info? t = some i ∧ i.size = n := by
  unfold szOf at h
  cases hi : P.info? t with
  | none => rw [hi] at h; cases h
  | some i => rw [hi] at h; cases h; exact ⟨i, rfl, rfl⟩

/-- a frozen row, told by elements -/
theorem rep_islice_row {g : G} {agg : Bool} {sz : Nat} {es : List AVal} {us : Array Value} {B : Nat} (he : ∀ e ∈ es, elemOk agg sz e = true) (hr : Reps g (flatE es) us.toList)
    {g' : G} (hle : g.le g') {o : Nat} (hown : ∀ j u, us[j]? = some u → g'.own B (o + j) = .frozen u) {cap : Nat} (hc : es.length ≤ cap) {k : Cap} (hk : CapOK g' sz B o es.length cap k) :
    Rep g' (.islice sz es k) (.slice (some ⟨B, o, none⟩) es.length cap) := by
  have hl : ∀ e ∈ es, e.cells.length = sz := fun e h => elemOk_len (he e h)
  have key : ∀ (i : Nat) (e : AVal) (j : Nat) (c : AVal), es[i]? = some e → e.cells[j]? = some c → ∃ u, us[i * sz + j]? = some u ∧ Rep g c u := by
    intro i e j c hi hj
    have h1 := flatE_get es i j e c hl hi hj
    have hlt := (List.getElem?_eq_some_iff.1 h1).1
    have h2 : us.toList[i * sz + j]? = some (us.toList[i * sz + j]'(by rw [hr.1]; exact hlt)) := List.getElem?_eq_getElem _
    exact ⟨us.toList[i * sz + j]'(by rw [hr.1]; exact hlt), by simp, hr.2 _ _ _ h1 h2⟩
  refine .islice (f := fun i j => (us[i * sz + j]?).getD undef) hc (fun i e hi => hl e (List.mem_of_getElem? hi)) (fun i e j c hi hj => ?_) (fun i e j c hi hj => ?_) (fun i e hi => elemOk_cell (he e (List.mem_of_getElem? hi))) hk
  · obtain ⟨u, hu, _⟩ := key i e j c hi hj
    rw [hu]
    exact hown _ _ hu
  · obtain ⟨u, hu, hrep⟩ := key i e j c hi hj
    rw [hu]
    exact hrep.mono hle

theorem buildSlice_sound {base : Nat} {w0 : World} {g : G} {st st' : ASt} (h : SInv base w0 g st w) {mt : Bool} {t : TypeId} {len : Nat} {ps : List (Nat × AVal)} {qs : List (Nat × Value)} {v : AVal} (hp : PReps g ps qs)
    (hb : buildSliceA P mt t len ps st = some (v, st')) :
    ∃ g' u w', (Instr.buildSlice t len qs.toArray).run P w = .ok u w' ∧ g.le g' ∧ SInv base w0 g' st' w' ∧ Rep g' v u := by
  unfold buildSliceA at hb
  split at hb
  · rename_i e he
    have hu := sliceElem_inv he
    split at hb
    · rename_i sz agg z hsz hagg hz
      split at hb
      · rename_i hcond
        obtain ⟨h0, hmax, hzok⟩ := hcond
        split at hb
        · rename_i es hes
          obtain ⟨i, z0, hi, hz0, habs⟩ := zeroA_inv hz
          obtain ⟨_, hcell, hr⟩ := absVal_rep (g := g) habs
          obtain ⟨hf, hok, hlen⟩ := setsE_fill ps (List.replicate len z) es (fun e he => by rw [List.eq_of_mem_replicate he]; exact hzok) hes
          have hzl := elemOk_len hzok
          have hr0 := reps_zero_rep hr hzl h0 len
          have hc0 : ∀ c ∈ flatE (List.replicate len z), c.isCell = true := by
            intro c hc
            obtain ⟨e', h1, h2⟩ := List.mem_flatMap.1 hc
            rw [List.eq_of_mem_replicate h1] at h2
            exact hcell c h2
          obtain ⟨ws, e1, e2, e3⟩ := fill_sound ps qs _ (madeCells z0.cells (len * sz)) _ hp hr0 hc0 hf
          have hzs : z0.cells.size = sz := by have := hr.1; simp at this; omega
          have hrun : (Instr.buildSlice t len qs.toArray).run P w = .ok (.slice (some ⟨w.heap.size, 0, none⟩) len len) (w.alloc (.cells ws e)) := by
            have hmax' : ¬ (len * sz > 2 ^ 24) := by simpa using hmax
            by_cases hl0 : len * sz = 0
            · have hlen0 : len = 0 := by
                rcases Nat.mul_eq_zero.1 hl0 with h1 | h1
                · exact h1
                · omega
              subst hlen0
              have e1' : Instr.fill (fun i => some (i * sz, sz)) #[] qs = some ws := by
                rw [Nat.zero_mul, show madeCells z0.cells 0 = #[] by simp [madeCells]] at e1
                exact e1
              simp only [Instr.buildSlice, Sem.run_bind, run_underlying_of hu, run_sizeOf_of hsz, Result.andThen_ok, Nat.zero_mul]
              simp [e1', run_newRow_of, show Array.range 0 = #[] from rfl]
            · have e1' : Instr.fill (fun i => some (i * sz, sz)) (Array.map (fun x => z0.cells[x % z0.cells.size]!) (Array.range (len * sz))) qs = some ws := e1
              simp only [Instr.buildSlice, Sem.run_bind, run_underlying_of hu, run_sizeOf_of hsz, Result.andThen_ok]
              rw [if_neg hmax']
              simp [hl0, run_zeroValue_of hi hz0, e1', run_newRow_of]
          have hes_len : es.length = len := by simpa using hlen
          cases mt with
          | true =>
            simp only [if_true, Option.some.injEq, Prod.mk.injEq] at hb
            obtain ⟨rfl, rfl⟩ := hb
            obtain ⟨hle, hinv⟩ := h.row ws e 0 (Nat.zero_le _) (flatE es) (fun j c hj => by
              have hlt := (List.getElem?_eq_some_iff.1 hj).1
              have hl2 := e2.1
              have hw : ws.toList[j]? = some (ws.toList[j]'(by rw [hl2]; exact hlt)) := List.getElem?_eq_getElem _
              exact ⟨e3 c (List.mem_of_getElem? hj), _, by simp, e2.2 j c _ hj hw⟩)
            refine ⟨_, _, _, hrun, hle, hinv, ?_⟩
            have hloc : (g.row w.heap.size 0 ws).loc st.ctr = (w.heap.size, 0, ws.size) := by simp [G.row, h.n]
            have := Rep.slice (g := g.row w.heap.size 0 ws) (s := st.ctr) (off := 0) (len := len) (sz := sz) (cap := len) (kc := some len) (by simp [G.row, h.n]) (fun k hk => by cases hk; rfl) (Nat.le_refl _) h0 (fun hk => by cases hk)
            rw [hloc] at this
            exact this
          | false =>
            simp only [Bool.false_eq_true, if_false, Option.some.injEq, Prod.mk.injEq] at hb
            obtain ⟨rfl, rfl⟩ := hb
            obtain ⟨hle, hinv⟩ := h.rowF ws e
            refine ⟨_, _, _, hrun, hle, hinv, ?_⟩
            have := rep_islice_row (agg := agg) (sz := sz) (B := w.heap.size) (o := 0) (cap := len) (k := .exact) hok e2 hle (fun j u hj => by simp [G.rowF, hj]) (by omega) hes_len.symm
            rw [hes_len] at this
            exact this
        · cases hb
      · cases hb
    · cases hb
  · cases hb

end
end Go.Proofs.YtjpehemkgikkdaaA
