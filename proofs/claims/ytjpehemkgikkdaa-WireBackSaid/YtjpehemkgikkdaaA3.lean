/- The operations of the second reading that look at memory, make it or write it, and that the model's do the same. No condition. -/
import Derived.Test.YtjpehemkgikkdaaA2
import Derived.Deep.AppendSrc
import Derived.Deep.Upon
import Derived.Laws.Slices
namespace Go.Proofs.YtjpehemkgikkdaaA
open Go Go.RowKit
set_option linter.unusedVariables false
set_option linter.unusedSimpArgs false

def szOf (P : Program) (t : TypeId) : Option Nat := (P.info? t).map (·.size)
def rowT : TypeDesc → Bool
  | .struct _ | .array _ _ => true
  | _ => false
def aggT (P : Program) (t : TypeId) : Option Bool := (P.underlying t).map rowT

/-- the zero value of a type, where no cell of it is an address -/
def absVal : Value → Option AVal
  | .agg cs => if cs.toList.all flat then some (.agg (cs.toList.map .lit)) else none
  | v => if flat v then some (.lit v) else none
def zeroA (P : Program) (t : TypeId) : Option AVal := ((P.info? t).bind (·.zero)).bind absVal

/-- `n` cells from `off` on as a value of the type -/
def partA (P : Program) (t : TypeId) (cs : List AVal) (off : Nat) : Option AVal :=
  match aggT P t, szOf P t with
  | some true, some sz => if off + sz ≤ cs.length then some (.agg ((cs.drop off).take sz)) else none
  | some false, some _ => cs[off]?
  | _, _ => none

def loadA (P : Program) (t : TypeId) (st : ASt) : AVal → Option AVal
  | .ptr s off => match st.heap s with
    | some (.cells cs) => partA P t cs off
    | _ => none
  | .iptr v => match aggT P t, szOf P t, v with
    | some true, some sz, .agg cs => if cs.length = sz then some (.agg cs) else none
    | some false, some _, v => if v.isCell then some v else none
    | _, _, _ => none
  | _ => none

theorem addr_add (B o i : Nat) : (⟨B, o, none⟩ : Addr).add i = ⟨B, o + i, none⟩ := by
  unfold Addr.add
  split
  · subst_vars; rfl
  · rfl

section
variable {P : Program} {w : World}

theorem run_typeInfo_of {t : TypeId} {i : TypeInfo} (h : P.info? t = some i) : (typeInfo t).run P w = .ok i w := by
  simp [typeInfo, h]
theorem run_underlying_of {t : TypeId} {d : TypeDesc} (h : P.underlying t = some d) : (underlying t).run P w = .ok d w := run_underlying h w
theorem run_sizeOf_of {t : TypeId} {n : Nat} (h : szOf P t = some n) : (sizeOf t).run P w = .ok n w := by
  unfold szOf at h
  cases hi : P.info? t with
  | none => rw [hi] at h; cases h
  | some i => rw [hi] at h; cases h; simp [sizeOf, run_typeInfo_of hi]
theorem run_isAgg_of {t : TypeId} {b : Bool} (h : aggT P t = some b) : (isAgg t).run P w = .ok b w := by
  unfold aggT at h
  cases hd : P.underlying t with
  | none => rw [hd] at h; cases h
  | some d => rw [hd] at h; cases h; cases d <;> simp [isAgg, run_underlying_of hd, rowT]
theorem run_zeroValue_of {t : TypeId} {i : TypeInfo} {z : Value} (h : P.info? t = some i) (hz : i.zero = some z) : (zeroValue t).run P w = .ok z w := by
  simp [zeroValue, run_typeInfo_of h, hz]

theorem run_load_of {a : Addr} {v : Value} (h : w.cell? a = some v) : (load a).run P w = .ok v w := by
  simp [load, Sem.run, h]

/-- a part of an aggregate -/
theorem part_sound {g : G} {t : TypeId} {cs : List AVal} {us : Array Value} {off : Nat} {v : AVal} (hr : Reps g cs us.toList) (hc : ∀ c ∈ cs, c.isCell = true) (h : partA P t cs off = some v) :
    ∃ u, (part t us off).run P w = .ok u w ∧ Rep g v u := by
  unfold partA at h
  split at h
  · rename_i sz ha hs
    split at h
    · rename_i hle
      cases h
      have hlen := hr.1
      refine ⟨_, by simp [part, run_isAgg_of ha, run_sizeOf_of hs]; rfl, .agg ?_ (fun j c u hj hu => ?_) (fun c hcm => hc c (List.mem_of_mem_drop (List.mem_of_mem_take hcm)))⟩
      · simp at hlen ⊢
        omega
      · have h1 : cs[off + j]? = some c := by
          rw [List.getElem?_take] at hj
          split at hj
          · rw [List.getElem?_drop] at hj; exact hj
          · cases hj
        refine hr.2 (off + j) c u h1 ?_
        simp only [Array.getElem?_extract] at hu
        split at hu
        · simpa using hu
        · cases hu
    · cases h
  · rename_i sz ha hs
    have hlt := (List.getElem?_eq_some_iff.1 h).1
    have hlen := hr.1
    have hu : us[off]? = some (us[off]'(by simp at hlen; omega)) := Array.getElem?_eq_getElem _
    exact ⟨us[off]'(by simp at hlen; omega), by simp [part, run_isAgg_of ha, hu], hr.2 off v _ h (by simp)⟩
  · cases h

/-- the cells of a block, told from a place on, are read -/
theorem load_cells {g : G} {t : TypeId} {B o : Nat} {cs : List AVal} {off : Nat} {v : AVal} (hc : ∀ (j : Nat) (c : AVal), cs[j]? = some c → c.isCell = true ∧ ∃ u, w.cell? ⟨B, o + j, none⟩ = some u ∧ Rep g c u)
    (h : partA P t cs off = some v) : ∃ u, (loadVar t ⟨B, o + off, none⟩).run P w = .ok u w ∧ Rep g v u := by
  unfold partA at h
  split at h
  · rename_i sz ha hs
    split at h
    · rename_i hle
      cases h
      let f : Nat → Value := fun j => (w.cell? ⟨B, o + j, none⟩).getD undef
      have hf : ∀ (j : Nat) (c : AVal), cs[j]? = some c → w.cell? ⟨B, o + j, none⟩ = some (f j) ∧ Rep g c (f j) := fun j c hj => by
        obtain ⟨_, u, hu, hr⟩ := hc j c hj
        have : f j = u := by simp [f, hu]
        rw [this]; exact ⟨hu, hr⟩
      have hrun := run_loadCells_list (P := P) (w := w) ⟨B, o + off, none⟩ ((List.range sz).map fun j => f (off + j)) (fun j u hj => by
        rw [addr_add]
        have hlt : j < sz := by have := (List.getElem?_eq_some_iff.1 hj).1; simp at this; exact this
        simp [hlt] at hj
        subst hj
        have h1 : cs[off + j]? = some (cs[off + j]'(by omega)) := List.getElem?_eq_getElem _
        have := (hf _ _ h1).1
        rwa [← Nat.add_assoc] at this)
      have e : ((List.range sz).map fun j => f (off + j)).length = sz := by simp
      rw [e] at hrun
      refine ⟨_, by simp [loadVar, run_isAgg_of ha, run_sizeOf_of hs, hrun]; rfl, .agg ?_ (fun j c u hj hu => ?_) (fun c hcm => ?_)⟩
      · simp; omega
      · have hlt : j < sz := by
          have := (List.getElem?_eq_some_iff.1 hj).1
          simp at this; omega
        have h1 : cs[off + j]? = some c := by
          rw [List.getElem?_take, if_pos hlt, List.getElem?_drop] at hj; exact hj
        have h2 := (hf _ _ h1).2
        simp [hlt] at hu
        subst hu
        exact h2
      · have := List.mem_of_mem_drop (List.mem_of_mem_take hcm)
        obtain ⟨j, hj⟩ := List.getElem?_of_mem this
        exact (hc j c hj).1
    · cases h
  · rename_i sz ha hs
    obtain ⟨_, u, hu, hr⟩ := hc off v h
    exact ⟨u, by simp [loadVar, run_isAgg_of ha, hu], hr⟩
  · cases h

theorem load_sound {base : Nat} {w0 : World} {g : G} {st : ASt} (h : SInv base w0 g st w) {t : TypeId} {a v : AVal} {u : Value} (hr : Rep g a u) (ha : loadA P t st a = some v) :
    ∃ u', (Instr.loadAt t u).run P w = .ok u' w ∧ Rep g v u' := by
  unfold loadA at ha
  split at ha
  · rename_i s off
    split at ha
    · rename_i cs hs
      cases hr
      obtain ⟨u', h1, h2⟩ := load_cells (P := P) (h.cells s cs hs).rep ha
      exact ⟨u', by simp [Instr.loadAt, Instr.sureAddr, h1], h2⟩
    · cases ha
  · rename_i v0
    cases hr
    rename_i B o f hf hf2 hcl
    have hc : ∀ (j : Nat) (c : AVal), v0.cells[j]? = some c → c.isCell = true ∧ ∃ u, w.cell? ⟨B, o + j, none⟩ = some u ∧ Rep g c u :=
      fun j c hj => ⟨hcl c (List.mem_of_getElem? hj), f j, h.fr _ _ _ (hf j c hj), hf2 j c hj⟩
    have key : partA P t v0.cells 0 = some v := by
      split at ha
      · rename_i sz cs e1 e2
        split at ha
        · rename_i e3
          cases ha
          simp [partA, e1, e2, AVal.cells, e3]
          rw [← e3]; simp
        · cases ha
      · rename_i e1 e2
        split at ha
        · rename_i hcell
          cases ha
          have : v.cells = [v] := by cases v <;> simp_all [AVal.cells, AVal.isCell]
          simp [partA, e1, e2, this]
        · cases ha
      · cases ha
    obtain ⟨u', h1, h2⟩ := load_cells (P := P) (o := o) (off := 0) hc key
    exact ⟨u', by simpa [Instr.loadAt, Instr.sureAddr] using h1, h2⟩
  · cases ha

end
end Go.Proofs.YtjpehemkgikkdaaA
