/- Slices cut and appended to: that the model does the same. No condition. -/
import Derived.Test.YtjpehemkgikkdaaA7
namespace Go.Proofs.YtjpehemkgikkdaaA
open Go Go.RowKit
set_option linter.unusedVariables false
set_option linter.unusedSimpArgs false

section
variable {P : Program} {w : World}

theorem rep_islice_nil {g : G} {sz B o cap : Nat} : Rep g (.islice sz [] .unk) (.slice (some ⟨B, o, none⟩) 0 cap) :=
  .islice (es := []) (k := .unk) (f := fun _ _ => undef) (Nat.zero_le _) (fun i e hi => by simp at hi) (fun i e j c hi => by simp at hi) (fun i e j c hi => by simp at hi) (fun i e hi => by simp at hi) trivial

/-- a part of a slice that is never written again -/
theorem rep_islice_cut {g : G} {sz : Nat} {es : List AVal} {B o : Nat} {f : Nat → Nat → Value}
    (hs : ∀ (i : Nat) (e : AVal), es[i]? = some e → e.cells.length = sz)
    (hf : ∀ (i : Nat) (e : AVal) (j : Nat) (c : AVal), es[i]? = some e → e.cells[j]? = some c → g.own B (o + (i * sz + j)) = .frozen (f i j))
    (hf2 : ∀ (i : Nat) (e : AVal) (j : Nat) (c : AVal), es[i]? = some e → e.cells[j]? = some c → Rep g c (f i j))
    (hc : ∀ (i : Nat) (e : AVal), es[i]? = some e → ∀ c ∈ e.cells, c.isCell = true) {l h : Nat} (hlh : l ≤ h) (hh : h ≤ es.length) {o' : Nat} (ho : l < h → o' = o + l * sz) {cap' : Nat} (hcap : h - l ≤ cap') {k : Cap} (hk : CapOK g sz B o' (h - l) cap' k) :
    Rep g (.islice sz ((es.drop l).take (h - l)) k) (.slice (some ⟨B, o', none⟩) (h - l) cap') := by
  have hlen : ((es.drop l).take (h - l)).length = h - l := by simp; omega
  have get : ∀ (i : Nat) (e : AVal), ((es.drop l).take (h - l))[i]? = some e → es[l + i]? = some e ∧ l < h := by
    intro i e hi
    rw [List.getElem?_take] at hi
    split at hi
    · rw [List.getElem?_drop] at hi; exact ⟨hi, by omega⟩
    · cases hi
  have := Rep.islice (g := g) (sz := sz) (es := (es.drop l).take (h - l)) (cap := cap') (k := k) (B := B) (o := o') (f := fun i j => f (l + i) j) (by omega)
    (fun i e hi => hs _ e (get i e hi).1)
    (fun i e j c hi hj => by
      obtain ⟨h1, h2⟩ := get i e hi
      rw [ho h2, show o + l * sz + (i * sz + j) = o + ((l + i) * sz + j) by rw [Nat.add_mul]; omega]
      exact hf _ e j c h1 hj)
    (fun i e j c hi hj => hf2 _ e j c (get i e hi).1 hj) (fun i e hi => hc _ e (get i e hi).1) (by rw [hlen]; exact hk)
  rw [hlen] at this
  exact this

theorem run_sliceAt_of {t e : TypeId} {a : Addr} {len cap sz l h m : Nat} {lo hi mx : Option Value} (hu : P.underlying t = some (.slice e)) (hz : szOf P e = some sz)
    (hb : (Instr.sliceBounds true len cap lo hi mx).run P w = .ok (l, h, m) w) :
    (Instr.sliceAt t (.slice (some a) len cap) lo hi mx).run P w = .ok (.slice (some (if m = l then a else a.add (l * sz))) (h - l) (m - l)) w := by
  simp only [Instr.sliceAt, Instr.slice, Sem.run_bind, run_underlying_of hu, Result.andThen_ok, hb, run_sizeOf_of hz]
  split <;> simp [Sem.run]

theorem slice_sound {g : G} {t : TypeId} {x v : AVal} {p : Value} {lo hi mx : Option AVal} {lo' hi' mx' : Option Value} (hx : Rep g x p) (hlo : OReps g lo lo') (hhi : OReps g hi hi') (hmx : OReps g mx mx')
    (hs : sliceA P t x lo hi mx = some v) : ∃ u, (Instr.sliceAt t p lo' hi' mx').run P w = .ok u w ∧ Rep g v u := by
  unfold sliceA at hs
  split at hs
  · rename_i e hu
    split at hs
    · rename_i sz es k sz' hz
      split at hs
      · rename_i hsz
        subst hsz
        obtain ⟨cap, B, o, f, rfl, hl, hs1, hf, hf2, hc, hk⟩ := hx.islice_inv
        split at hs
        · rename_i l h m hb
          cases hs
          obtain ⟨hr, h1, h2, h3⟩ := bounds_sound (P := P) (w := w) (isS := true) (cap := cap) hlo hhi hmx (Nat.le_refl _) hl hb
          refine ⟨_, run_sliceAt_of hu hz hr, ?_⟩
          cases m with
          | some m =>
            obtain ⟨h4, h5⟩ := h3 m rfl
            simp only [Option.getD_some]
            by_cases e1 : m = l
            · rw [if_pos e1]
              refine rep_islice_cut hs1 hf hf2 hc h1 h2 (fun hlt => by omega) (by omega) ?_
              unfold cutCap
              simp only
              rw [if_pos (by omega)]
              show m - l = h - l
              omega
            · rw [if_neg e1, addr_add]
              refine rep_islice_cut hs1 hf hf2 hc h1 h2 (fun _ => rfl) (by omega) ?_
              unfold cutCap
              simp only
              by_cases e2 : m = h
              · rw [if_pos e2]
                show m - l = h - l
                omega
              · rw [if_neg e2]; trivial
          | none =>
            simp only [Option.getD_none]
            by_cases e1 : cap = l
            · rw [if_pos e1]
              refine rep_islice_cut hs1 hf hf2 hc h1 h2 (fun hlt => by omega) (by omega) ?_
              unfold cutCap
              simp only
              rw [if_pos (by omega)]
              cases k with
              | exact => show cap - l = h - l; omega
              | unk => trivial
              | tok t => simp only; rw [if_neg (by omega)]; trivial
            · rw [if_neg e1, addr_add]
              refine rep_islice_cut hs1 hf hf2 hc h1 h2 (fun _ => rfl) (by omega) ?_
              unfold cutCap
              simp only
              by_cases e2 : h = es.length
              · rw [if_pos e2]
                cases k with
                | exact =>
                  have hk' : cap = es.length := hk
                  show cap - l = h - l
                  omega
                | unk => trivial
                | tok t =>
                  simp only
                  by_cases e3 : l < es.length
                  · rw [if_pos e3]
                    obtain ⟨k1, k2, k3, k4⟩ := hk
                    refine ⟨k1, k2, ?_, ?_⟩
                    · rw [k3, e2, Nat.add_assoc, ← Nat.add_mul]; congr 2; omega
                    · rw [k4, Nat.add_assoc, ← Nat.add_mul]; congr 2; omega
                  · rw [if_neg e3]; trivial
              · rw [if_neg e2]; trivial
        · cases hs
      · cases hs
    · rename_i s off len sz cap sz' hz
      split at hs
      · rename_i hsz
        subst hsz
        obtain ⟨cap', rfl, hsn, hk, hl, hz0, hx0⟩ := hx.slice_inv
        split at hs
        · rename_i l h m hb
          have hlim : len ≤ cap.getD len ∧ cap.getD len ≤ cap' := by
            cases cap with
            | none => exact ⟨Nat.le_refl _, hl⟩
            | some c => have := hk c rfl; simp only [Option.getD_some]; omega
          obtain ⟨hr, h1, h2, h3⟩ := bounds_sound (P := P) (w := w) (isS := true) (cap := cap') hlo hhi hmx hlim.1 hlim.2 hb
          refine ⟨_, run_sliceAt_of hu hz hr, ?_⟩
          split at hs
          · rename_i m'
            cases hs
            obtain ⟨h4, h5⟩ := h3 m' rfl
            simp only [Option.getD_some]
            have key : ∀ o', Rep g (.slice s o' (h - l) sz (some (m' - l))) (.slice (some ⟨(g.loc s).1, (g.loc s).2.1 + o', none⟩) (h - l) (m' - l)) := fun o' =>
              .slice hsn (fun k hk => by cases hk; rfl) (by omega) hz0 (fun hk => by cases hk)
            by_cases e1 : m' = l
            · rw [if_pos e1, if_pos e1]; exact key off
            · rw [if_neg e1, if_neg e1, addr_add, Nat.add_assoc]; exact key _
          · rename_i c
            cases hs
            have hcc := hk c rfl
            subst hcc
            simp only [Option.getD_none]
            simp only [Option.getD_some] at h2
            have key : ∀ o', Rep g (.slice s o' (h - l) sz (some (cap' - l))) (.slice (some ⟨(g.loc s).1, (g.loc s).2.1 + o', none⟩) (h - l) (cap' - l)) := fun o' =>
              .slice hsn (fun k hk => by cases hk; rfl) (by omega) hz0 (fun hk => by cases hk)
            by_cases e1 : cap' = l
            · rw [if_pos e1, if_pos e1]; exact key off
            · rw [if_neg e1, if_neg e1, addr_add, Nat.add_assoc]; exact key _
          · simp only [Option.getD_none] at h2 ⊢
            split at hs
            · rename_i e1
              cases hs
              rw [if_neg (by omega), addr_add, Nat.add_assoc]
              refine .slice hsn (fun k hk => by cases hk) (by omega) hz0 (fun _ => ?_)
              rw [← hx0 rfl]
              have : l * sz + (cap' - l) * sz = cap' * sz := by rw [← Nat.add_mul]; congr 1; omega
              omega
            · rename_i e1
              cases hs
              have e2 : h - l = 0 := by omega
              rw [e2]
              by_cases e3 : cap' = l
              · rw [if_pos e3]; exact rep_islice_nil
              · rw [if_neg e3, addr_add]; exact rep_islice_nil
        · cases hs
      · cases hs
    · cases hs
  · rename_i n e hu
    split at hs
    · rename_i s off sz hz
      split at hs
      · rename_i hz0
        cases hx
        rename_i hsn
        split at hs
        · rename_i l h m hb
          cases hs
          obtain ⟨hr, h1, h2, h3⟩ := bounds_sound (P := P) (w := w) (isS := false) (cap := n) hlo hhi hmx (Nat.le_refl _) (Nat.le_refl _) hb
          have hmn : h ≤ m.getD n := by
            cases m with
            | none => exact h2
            | some m => exact (h3 m rfl).1
          refine ⟨.slice (some (if m.getD n = l then ⟨(g.loc s).1, (g.loc s).2.1 + off, none⟩ else (⟨(g.loc s).1, (g.loc s).2.1 + off, none⟩ : Addr).add (l * sz))) (h - l) (m.getD n - l), ?_, ?_⟩
          · simp only [Instr.sliceAt, Sem.run_bind, run_underlying_of hu, Result.andThen_ok, Instr.sureAddr, hr, run_sizeOf_of hz, pure_bind]
            simp [Sem.run]
          · have key : ∀ o', Rep g (.slice s o' (h - l) sz (some (m.getD n - l))) (.slice (some ⟨(g.loc s).1, (g.loc s).2.1 + o', none⟩) (h - l) (m.getD n - l)) := fun o' =>
              .slice hsn (fun k hk => by cases hk; rfl) (by omega) hz0 (fun hk => by cases hk)
            by_cases e1 : m.getD n = l
            · rw [if_pos e1, if_pos e1]; exact key off
            · rw [if_neg e1, if_neg e1, addr_add, Nat.add_assoc]; exact key _
        · cases hs
      · cases hs
    · cases hs
  · cases hs

end
end Go.Proofs.YtjpehemkgikkdaaA
