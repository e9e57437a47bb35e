/- More operations of the second reading: what is made. No condition. -/
import Derived.Test.YtjpehemkgikkdaaA4
import Derived.Laws.MakeOwn
namespace Go.Proofs.YtjpehemkgikkdaaA
open Go Go.RowKit
set_option linter.unusedVariables false
set_option linter.unusedSimpArgs false

theorem reps_lits {g : G} {us : List Value} (h : us.all flat = true) : Reps g (us.map .lit) us := by
  refine ⟨by simp, fun j c u a b => ?_⟩
  simp [b] at a
  subst a
  exact .lit (List.all_eq_true.1 h u (List.mem_of_getElem? b))

theorem absVal_rep {g : G} {z : Value} {v : AVal} (h : absVal z = some v) : Rep g v z ∧ (∀ c ∈ v.cells, c.isCell = true) ∧ Reps g v.cells z.cells.toList := by
  unfold absVal at h
  split at h
  · rename_i cs
    split at h
    · rename_i hf
      cases h
      have hr := reps_lits (g := g) hf
      have hc : ∀ c ∈ (cs.toList.map AVal.lit), c.isCell = true := by
        intro c hc
        obtain ⟨u, _, rfl⟩ := List.mem_map.1 hc
        rfl
      exact ⟨.agg (by simp) (fun j c u a b => hr.2 j c u a (by simpa using b)) hc, hc, hr⟩
    · cases h
  · split at h
    · rename_i hf
      cases h
      have hr : Rep g (.lit z) z := .lit hf
      refine ⟨hr, fun c hc => ?_, hr.cells (by intro vs e; cases e)⟩
      simp [AVal.cells] at hc
      subst hc; rfl
    · cases h

def newA (st : ASt) (cs : List AVal) : Option (AVal × ASt) := if cs.all AVal.isCell = true then some (.ptr st.ctr 0, st.new (.cells cs)) else none

def allocA (P : Program) (e : TypeId) (st : ASt) : Option (AVal × ASt) := (zeroA P e).bind fun v => newA st v.cells
def boxA (v : AVal) (st : ASt) : Option (AVal × ASt) := newA st v.cells

section
variable {P : Program} {w : World}

theorem run_newRow_of (e : TypeId) (us : Array Value) : (newRow e us).run P w = .ok ⟨w.heap.size, 0, none⟩ (w.alloc (.cells us e)) := by
  rfl

theorem new_sound {base : Nat} {w0 : World} {g : G} {st st' : ASt} (h : SInv base w0 g st w) {cs : List AVal} {us : Array Value} {v : AVal} (e : TypeId) (hr : Reps g cs us.toList) (hn : newA st cs = some (v, st')) :
    ∃ g', g.le g' ∧ SInv base w0 g' st' (w.alloc (.cells us e)) ∧ Rep g' v (.pointer (some ⟨w.heap.size, 0, none⟩)) := by
  unfold newA at hn
  split at hn
  · rename_i hc
    cases hn
    obtain ⟨hle, hi⟩ := h.row us e 0 (Nat.zero_le _) cs (fun j c hj => by
      have hlen := hr.1
      have hlt := (List.getElem?_eq_some_iff.1 hj).1
      have hu : us[0 + j]? = some (us[0 + j]'(by simp at hlen; omega)) := Array.getElem?_eq_getElem _
      exact ⟨List.all_eq_true.1 hc c (List.mem_of_getElem? hj), _, hu, hr.2 j c _ hj (by simp)⟩)
    refine ⟨_, hle, hi, ?_⟩
    have : Rep (g.row w.heap.size 0 us) (.ptr st.ctr 0) (.pointer (some ⟨((g.row w.heap.size 0 us).loc st.ctr).1, ((g.row w.heap.size 0 us).loc st.ctr).2.1 + 0, none⟩)) := .ptr (by simp [G.row, h.n])
    simpa [G.row, h.n] using this
  · cases hn

theorem alloc_sound {base : Nat} {w0 : World} {g : G} {st st' : ASt} (h : SInv base w0 g st w) {e : TypeId} {v : AVal} (ha : allocA P e st = some (v, st')) :
    ∃ g' u w', (Instr.alloc e true (.tuple #[])).run P w = .ok u w' ∧ g.le g' ∧ SInv base w0 g' st' w' ∧ Rep g' v u := by
  unfold allocA zeroA at ha
  cases hi : P.info? e with
  | none => simp [hi] at ha
  | some i =>
    cases hz : i.zero with
    | none => simp [hi, hz] at ha
    | some z =>
      simp only [hi, hz, Option.bind_some] at ha
      cases hv : absVal z with
      | none => simp [hv] at ha
      | some v0 =>
        simp only [hv, Option.bind_some] at ha
        obtain ⟨_, _, hr⟩ := absVal_rep (g := g) hv
        obtain ⟨g', h1, h2, h3⟩ := new_sound h e hr ha
        exact ⟨g', _, _, by simp [Instr.alloc, run_zeroValue_of hi hz, newVar, run_newRow_of], h1, h2, h3⟩

theorem box_sound {base : Nat} {w0 : World} {g : G} {st st' : ASt} (h : SInv base w0 g st w) {e : TypeId} {x v : AVal} {u : Value} (hx : Rep g x u) (ha : boxA x st = some (v, st')) :
    ∃ g' u' w', (Instr.box e u).run P w = .ok u' w' ∧ g.le g' ∧ SInv base w0 g' st' w' ∧ Rep g' v u' := by
  have ht : ∀ vs, x ≠ .tuple vs := by
    rintro vs rfl
    simp [boxA, newA, AVal.cells, AVal.isCell] at ha
  obtain ⟨g', h1, h2, h3⟩ := new_sound h e (hx.cells ht) ha
  exact ⟨g', _, _, by simp [Instr.box, newVar, run_newRow_of], h1, h2, h3⟩

/-! ### aggregates -/
theorem putL_length : ∀ (vs cs : List AVal) (off : Nat), (putL cs off vs).length = cs.length
  | [], _, _ => rfl
  | v :: r, cs, off => by rw [putL, putL_length r]; simp

theorem putL_cell : ∀ (vs cs : List AVal) (off : Nat), (∀ c ∈ vs, c.isCell = true) → (∀ c ∈ cs, c.isCell = true) → ∀ c ∈ putL cs off vs, c.isCell = true
  | [], _, _, _, h => h
  | v :: r, cs, off, hv, h => by
    rw [putL]
    refine putL_cell r _ _ (fun c hc => hv c (by simp [hc])) (fun c hc => ?_)
    rcases List.mem_or_eq_of_mem_set hc with h1 | h1
    · exact h c h1
    · rw [h1]; exact hv v (by simp)

theorem Reps.set {g : G} {cs : List AVal} {us : List Value} (h : Reps g cs us) {c : AVal} {u : Value} (hr : Rep g c u) (i : Nat) : Reps g (cs.set i c) (us.set i u) := by
  refine ⟨by simpa using h.1, fun j c' u' a b => ?_⟩
  by_cases e : i = j
  · subst e
    have h1 : i < cs.length := by have := (List.getElem?_eq_some_iff.1 a).1; simpa using this
    have h2 : i < us.length := by have := (List.getElem?_eq_some_iff.1 b).1; simpa using this
    rw [List.getElem?_set_self h1] at a
    rw [List.getElem?_set_self h2] at b
    cases a; cases b; exact hr
  · rw [List.getElem?_set_ne e] at a
    rw [List.getElem?_set_ne e] at b
    exact h.2 j c' u' a b

theorem fold_put {g : G} : ∀ (vs : List AVal) (us : List Value) (k : Nat) (cs : List AVal) (ws : Array Value) (off : Nat), Reps g vs us → Reps g cs ws.toList →
    Reps g (putL cs (off + k) vs) ((us.zipIdx k).foldl (fun cs (p : Value × Nat) => cs.setIfInBounds (off + p.2) p.1) ws).toList
  | [], us, k, cs, ws, off, h, hc => by
    have : us = [] := by have := h.1; simpa using this
    subst this
    exact hc
  | v :: r, us, k, cs, ws, off, h, hc => by
    obtain ⟨hl, hat⟩ := h
    match us, hl with
    | u :: us, hl =>
      rw [putL, List.zipIdx_cons, List.foldl_cons]
      have := fold_put r us (k + 1) (cs.set (off + k) v) (ws.setIfInBounds (off + k) u) off ⟨by simpa using hl, fun j c u' a b => hat (j + 1) c u' (by simpa using a) (by simpa using b)⟩
        (by simpa using hc.set (hat 0 v u rfl rfl) (off + k))
      rwa [← Nat.add_assoc] at this

def fillA (place : Nat → Option (Nat × Nat)) (cells : List AVal) : List (Nat × AVal) → Option (List AVal)
  | [] => some cells
  | (i, v) :: rest => match place i with
    | none => none
    | some (off, size) => if v.cells.length = size ∧ off + size ≤ cells.length ∧ v.cells.all AVal.isCell = true then fillA place (putL cells off v.cells) rest else none

/-- parts, each told -/
def PReps (g : G) (ps : List (Nat × AVal)) (qs : List (Nat × Value)) : Prop := qs.map (·.1) = ps.map (·.1) ∧ ∀ (j : Nat) (p : Nat × AVal) (q : Nat × Value), ps[j]? = some p → qs[j]? = some q → Rep g p.2 q.2

theorem fill_sound {g : G} {place : Nat → Option (Nat × Nat)} : ∀ (ps : List (Nat × AVal)) (qs : List (Nat × Value)) (cs : List AVal) (ws : Array Value) (cs' : List AVal), PReps g ps qs → Reps g cs ws.toList → (∀ c ∈ cs, c.isCell = true) →
    fillA place cs ps = some cs' → ∃ ws', Instr.fill place ws qs = some ws' ∧ Reps g cs' ws'.toList ∧ ∀ c ∈ cs', c.isCell = true
  | [], qs, cs, ws, cs', hp, hc, hcell, h => by
    have : qs = [] := by have := hp.1; simpa using this
    subst this
    cases h
    exact ⟨ws, rfl, hc, hcell⟩
  | (i, v) :: ps, qs, cs, ws, cs', hp, hc, hcell, h => by
    obtain ⟨hm, hat⟩ := hp
    match qs, hm, hat with
    | (i', u) :: qs, hm, hat =>
      simp only [List.map_cons, List.cons.injEq] at hm
      obtain ⟨hi, hm2⟩ := hm
      subst hi
      unfold fillA at h
      cases hpl : place i' with
      | none => rw [hpl] at h; cases h
      | some os =>
        obtain ⟨off, size⟩ := os
        rw [hpl] at h
        simp only at h
        split at h
        · rename_i hcond
          obtain ⟨h1, h2, h3⟩ := hcond
          have hv : ∀ vs, v ≠ .tuple vs := by rintro vs rfl; simp [AVal.cells, AVal.isCell] at h3
          have hr : Rep g v u := hat 0 _ _ rfl rfl
          have hcells := hr.cells hv
          have e : u.cells.size = size := by have := hcells.1; simp at this; omega
          have hl : ws.size = cs.length := by have := hc.1; simpa using this
          have hf := fold_put v.cells u.cells.toList 0 cs ws off hcells hc
          have hcl : ∀ c ∈ v.cells, c.isCell = true := fun c hm => by have := List.all_eq_true.1 h3 c hm; exact this
          obtain ⟨ws', e1, e2, e3⟩ := fill_sound ps qs _ _ cs' ⟨hm2, fun j p q a b => hat (j + 1) p q (by simpa using a) (by simpa using b)⟩ hf (by
            simpa using putL_cell v.cells cs off hcl hcell) (by simpa using h)
          refine ⟨ws', ?_, e2, e3⟩
          unfold Instr.fill
          rw [hpl]
          simp only
          have hneg : ¬ (u.cells.size ≠ size ∨ off + u.cells.size > ws.size) := by omega
          rw [if_neg (by simpa using hneg), ← Array.foldl_toList, Array.toList_zipIdx]
          exact e1
        · cases h

def placesA (P : Program) (fs : Array Field) : Option (List (Nat × Nat)) := fs.toList.mapM fun f => (szOf P f.type).map fun n => (f.offset, n)

def buildA (P : Program) (t : TypeId) (parts : List (Nat × AVal)) : Option AVal :=
  match zeroA P t, P.underlying t with
  | some z, some (.struct fs) => match placesA P fs with
    | some ps => (fillA (ps[·]?) z.cells parts).map .agg
    | none => none
  | some z, some (.array _ e) => match szOf P e with
    | some sz => (fillA (fun i => some (i * sz, sz)) z.cells parts).map .agg
    | none => none
  | _, _ => none

theorem zeroA_inv {t : TypeId} {v : AVal} (h : zeroA P t = some v) : ∃ i z, P.info? t = some i ∧ i.zero = some z ∧ absVal z = some v := by
  unfold zeroA at h
  cases hi : P.info? t with
  | none => simp [hi] at h
  | some i =>
    cases hz : i.zero with
    | none => simp [hi, hz] at h
    | some z => simp only [hi, hz, Option.bind_some] at h; exact ⟨i, z, rfl, hz, h⟩

theorem build_sound {g : G} {t : TypeId} {ps : List (Nat × AVal)} {qs : List (Nat × Value)} {v : AVal} (hp : PReps g ps qs) (h : buildA P t ps = some v) :
    ∃ u, (Instr.build t qs.toArray).run P w = .ok u w ∧ Rep g v u := by
  unfold buildA at h
  split at h
  · rename_i z fs hz hu
    obtain ⟨i, z0, hi, hz0, habs⟩ := zeroA_inv hz
    obtain ⟨_, hcell, hr⟩ := absVal_rep (g := g) habs
    split at h
    · rename_i pl hpl
      cases hf : fillA (pl[·]?) z.cells ps with
      | none => rw [hf] at h; cases h
      | some cs =>
        rw [hf] at h
        cases h
        obtain ⟨ws, e1, e2, e3⟩ := fill_sound ps qs z.cells z0.cells cs hp hr hcell hf
        have hb : P.built t qs = some ws := by
          unfold Program.built
          rw [hi, hu]
          simp only [hz0]
          have : fs.toList.mapM (fun f => (P.info? f.type).map fun i => (f.offset, i.size)) = some pl := by
            rw [← hpl]
            unfold placesA szOf
            congr 1
            funext f
            cases P.info? f.type <;> rfl
          rw [this]
          simpa using e1
        exact ⟨_, run_build w t qs.toArray ws hb, .agg (by have := e2.1; simpa using this) (fun j c u a b => e2.2 j c u a (by simpa using b)) e3⟩
    · cases h
  · rename_i z n e hz hu
    obtain ⟨i, z0, hi, hz0, habs⟩ := zeroA_inv hz
    obtain ⟨_, hcell, hr⟩ := absVal_rep (g := g) habs
    split at h
    · rename_i sz hsz
      cases hf : fillA (fun i => some (i * sz, sz)) z.cells ps with
      | none => rw [hf] at h; cases h
      | some cs =>
        rw [hf] at h
        cases h
        obtain ⟨ws, e1, e2, e3⟩ := fill_sound ps qs z.cells z0.cells cs hp hr hcell hf
        have hb : P.built t qs = some ws := by
          unfold Program.built
          rw [hi, hu]
          unfold szOf at hsz
          cases hie : P.info? e with
          | none => rw [hie] at hsz; cases hsz
          | some ie =>
            rw [hie] at hsz
            cases hsz
            simp only [hz0, hie]
            exact e1
        exact ⟨_, run_build w t qs.toArray ws hb, .agg (by have := e2.1; simpa using this) (fun j c u a b => e2.2 j c u a (by simpa using b)) e3⟩
    · cases h
  · cases h

end
end Go.Proofs.YtjpehemkgikkdaaA
