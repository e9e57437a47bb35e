/- More operations of the second reading: slices cut, and appended to. No condition. -/
import Derived.Test.YtjpehemkgikkdaaA6
import Derived.Laws.AppendOwn
namespace Go.Proofs.YtjpehemkgikkdaaA
open Go Go.RowKit
set_option linter.unusedVariables false
set_option linter.unusedSimpArgs false

/-! ### make -/
def makeSliceA (P : Program) (t : TypeId) (l c : AVal) (st : ASt) : Option (AVal × ASt) :=
  match sliceElem P t, intOfA l, intOfA c with
  | some e, some l, some c => match P.info? e, aggT P e, zeroA P e with
    | some i, some agg, some z => if 0 ≤ l ∧ l ≤ c ∧ 0 < i.size ∧ c.toNat * i.size ≤ 16777216 ∧ i.bytes ≤ 4096 ∧ elemOk agg i.size z = true then
        some (.slice st.ctr 0 l.toNat i.size (some c.toNat), st.new (.cells (flatE (List.replicate c.toNat z)))) else none
    | _, _, _ => none
  | _, _, _ => none

section
variable {P : Program} {w : World}

theorem makeSlice_sound {base : Nat} {w0 : World} {g : G} {st st' : ASt} (h : SInv base w0 g st w) {t : TypeId} {l c v : AVal} {p q : Value} (hl : Rep g l p) (hc : Rep g c q) (hm : makeSliceA P t l c st = some (v, st')) :
    ∃ g' u w', (Instr.makeSlice t p q).run P w = .ok u w' ∧ g.le g' ∧ SInv base w0 g' st' w' ∧ Rep g' v u := by
  unfold makeSliceA at hm
  split at hm
  · rename_i e l' c' he hl' hc'
    have hu := sliceElem_inv he
    obtain ⟨kl, rfl⟩ := hl.int_inv hl'
    obtain ⟨kc, rfl⟩ := hc.int_inv hc'
    split at hm
    · rename_i i agg z hi hagg hz
      split at hm
      · rename_i hcond
        obtain ⟨h0, h1, h2, h3, h4, h5⟩ := hcond
        cases hm
        obtain ⟨i', z0, hi', hz0, habs⟩ := zeroA_inv hz
        rw [hi] at hi'
        cases hi'
        obtain ⟨_, hcell, hr⟩ := absVal_rep (g := g) habs
        have hr0 := reps_zero_rep hr (elemOk_len h5) h2 c'.toNat
        have hcn : c'.toNat ≤ 16777216 := Nat.le_trans (Nat.le_mul_of_pos_right _ h2) h3
        have hrun := run_makeSlice (P := P) (w := w) t e i z0 hu hi hz0 kl kc l' c' h0 h1 h3 (by
          have : (i.bytes : Int) * c' ≤ 4096 * 16777216 := Int.mul_le_mul (by omega) (by omega) (by omega) (by omega)
          omega) (by omega)
        obtain ⟨hle, hinv⟩ := h.row (madeCells z0.cells (c'.toNat * i.size)) e 0 (Nat.zero_le _) (flatE (List.replicate c'.toNat z)) (fun j x hj => by
          have hlt := (List.getElem?_eq_some_iff.1 hj).1
          have hl2 := hr0.1
          have hw : (madeCells z0.cells (c'.toNat * i.size)).toList[j]? = some ((madeCells z0.cells (c'.toNat * i.size)).toList[j]'(by rw [hl2]; exact hlt)) := List.getElem?_eq_getElem _
          refine ⟨?_, _, by rw [Nat.zero_add, ← Array.getElem?_toList]; exact hw, hr0.2 j x _ hj hw⟩
          obtain ⟨e', g1, g2⟩ := List.mem_flatMap.1 (List.mem_of_getElem? hj)
          rw [List.eq_of_mem_replicate g1] at g2
          exact hcell x g2)
        refine ⟨_, _, _, hrun, hle, hinv, ?_⟩
        have hloc : (g.row w.heap.size 0 (madeCells z0.cells (c'.toNat * i.size))).loc st.ctr = (w.heap.size, 0, (madeCells z0.cells (c'.toNat * i.size)).size) := by simp [G.row, h.n]
        have := Rep.slice (g := g.row w.heap.size 0 (madeCells z0.cells (c'.toNat * i.size))) (s := st.ctr) (off := 0) (len := l'.toNat) (sz := i.size) (cap := c'.toNat) (kc := some c'.toNat) (by simp [G.row, h.n]) (fun k hk => by cases hk; rfl) (by omega) h2 (fun hk => by cases hk)
        rw [hloc] at this
        exact this
      · cases hm
    · cases hm
  · cases hm

/-! ### a slice cut -/
def boundA (x : Option AVal) (dflt y : Nat) : Option Nat :=
  match x with
  | none => some dflt
  | some v => match intOfA v with
    | some i => if 0 ≤ i ∧ i ≤ y then some i.toNat else none
    | none => none

/-- the bounds of a cut of what has this length, and at least this capacity: from, to, and the third one, if it is told -/
def boundsA (len lim : Nat) (lo hi mx : Option AVal) : Option (Nat × Nat × Option Nat) :=
  match mx with
  | none => match boundA hi len lim with
    | some h => match boundA lo 0 h with
      | some l => some (l, h, none)
      | none => none
    | none => none
  | some _ => match hi with
    | none => none
    | some _ => match boundA mx 0 lim with
      | some m => match boundA hi 0 m with
        | some h => match boundA lo 0 h with
          | some l => some (l, h, some m)
          | none => none
        | none => none
      | none => none

def cutCap (n h l : Nat) (k : Cap) (m : Option Nat) : Cap :=
  match m with
  | some m => if m = h then .exact else .unk
  | none => if h = n then (match k with
      | .tok t => if l < n then .tok t else .unk
      | k => k) else .unk

def sliceA (P : Program) (t : TypeId) (x : AVal) (lo hi mx : Option AVal) : Option AVal :=
  match P.underlying t with
  | some (.slice e) => match x, szOf P e with
    | .islice sz es k, some sz' => if sz = sz' then match boundsA es.length es.length lo hi mx with
        | some (l, h, m) => some (.islice sz ((es.drop l).take (h - l)) (cutCap es.length h l k m))
        | none => none
      else none
    | .slice s off len sz cap, some sz' => if sz = sz' then match boundsA len (cap.getD len) lo hi mx with
        | some (l, h, m) => match m, cap with
          | some m, _ => some (.slice s (if m = l then off else off + l * sz) (h - l) sz (some (m - l)))
          | none, some c => some (.slice s (if c = l then off else off + l * sz) (h - l) sz (some (c - l)))
          | none, none => if l < len then some (.slice s (off + l * sz) (h - l) sz none) else some (.islice sz [] .unk)
        | none => none
      else none
    | _, _ => none
  | some (.array n e) => match x, szOf P e with
    | .ptr s off, some sz => if 0 < sz then match boundsA n n lo hi mx with
        | some (l, h, m) => some (.slice s (if m.getD n = l then off else off + l * sz) (h - l) sz (some (m.getD n - l)))
        | none => none
      else none
    | _, _ => none
  | _ => none

def OReps (g : G) : Option AVal → Option Value → Prop
  | none, none => True
  | some a, some v => Rep g a v
  | _, _ => False

theorem bound_sound {g : G} {x : AVal} {q : Value} {dflt lim y n : Nat} {code : BoundsCode} (hq : Rep g x q) (hl : lim ≤ y) (h : boundA (some x) dflt lim = some n) : (Instr.sliceBound q y code).run P w = .ok n w ∧ n ≤ lim := by
  unfold boundA at h
  simp only at h
  cases hi : intOfA x with
  | none => rw [hi] at h; cases h
  | some i =>
    rw [hi] at h
    simp only at h
    split at h
    · rename_i hb
      cases h
      obtain ⟨k, rfl⟩ := hq.int_inv hi
      refine ⟨?_, by omega⟩
      have : (0 : Int) ≤ i ∧ i ≤ (y : Int) := ⟨hb.1, by omega⟩
      simp [Instr.sliceBound, asIntOf, this]
    · cases h

theorem bounds_sound {g : G} {lo hi mx : Option AVal} {lo' hi' mx' : Option Value} {isS : Bool} {len lim cap l h : Nat} {m : Option Nat} (hlo : OReps g lo lo') (hhi : OReps g hi hi') (hmx : OReps g mx mx')
    (hl : len ≤ lim) (hc : lim ≤ cap) (hb : boundsA len lim lo hi mx = some (l, h, m)) :
    (Instr.sliceBounds isS len cap lo' hi' mx').run P w = .ok (l, h, m.getD cap) w ∧ l ≤ h ∧ h ≤ lim ∧ (∀ k, m = some k → h ≤ k ∧ k ≤ lim) := by
  unfold boundsA at hb
  cases mx with
  | none =>
    cases mx' with
    | some _ => exact hmx.elim
    | none =>
      simp only at hb
      cases hh : boundA hi len lim with
      | none => rw [hh] at hb; cases hb
      | some h0 =>
        rw [hh] at hb
        simp only at hb
        cases hll : boundA lo 0 h0 with
        | none => rw [hll] at hb; cases hb
        | some l0 =>
          rw [hll] at hb
          simp only [Option.some.injEq, Prod.mk.injEq] at hb
          obtain ⟨rfl, rfl, rfl⟩ := hb
          have hlow : ∀ (lq : Option Value), OReps g lo lq → (lq = none ∧ l0 = 0) ∨ (∃ q, lq = some q ∧ ∀ code, (Instr.sliceBound q h0 code).run P w = .ok l0 w ∧ l0 ≤ h0) := by
            intro lq hq
            cases lo with
            | none =>
              cases lq with
              | some _ => exact hq.elim
              | none => simp [boundA] at hll; exact .inl ⟨rfl, hll.symm⟩
            | some x =>
              cases lq with
              | none => exact hq.elim
              | some q => exact .inr ⟨q, rfl, fun code => bound_sound (P := P) (w := w) hq (Nat.le_refl _) hll⟩
          have hhigh : (hi' = none ∧ h0 = len) ∨ (∃ q, hi' = some q ∧ ∀ code, (Instr.sliceBound q cap code).run P w = .ok h0 w ∧ h0 ≤ lim) := by
            cases hi with
            | none =>
              cases hi' with
              | some _ => exact hhi.elim
              | none => simp [boundA] at hh; exact .inl ⟨rfl, hh.symm⟩
            | some x =>
              cases hi' with
              | none => exact hhi.elim
              | some q => exact .inr ⟨q, rfl, fun code => bound_sound (P := P) (w := w) hhi hc hh⟩
          rcases hhigh with ⟨rfl, rfl⟩ | ⟨q, rfl, hq⟩ <;> rcases hlow lo' hlo with ⟨rfl, rfl⟩ | ⟨r, rfl, hr⟩
          · exact ⟨by simp [Instr.sliceBounds], by omega, by omega, fun k hk => by cases hk⟩
          · exact ⟨by simp [Instr.sliceBounds, (hr _).1], (hr .sliceB).2, by omega, fun k hk => by cases hk⟩
          · exact ⟨by simp [Instr.sliceBounds, (hq _).1], by omega, (hq .sliceB).2, fun k hk => by cases hk⟩
          · exact ⟨by simp [Instr.sliceBounds, (hq _).1, (hr _).1], (hr .sliceB).2, (hq .sliceB).2, fun k hk => by cases hk⟩
  | some mv =>
    cases mx' with
    | none => exact hmx.elim
    | some mq =>
      cases hi with
      | none => simp at hb
      | some hv =>
        cases hi' with
        | none => exact hhi.elim
        | some hq =>
          simp only at hb
          cases hm : boundA (some mv) 0 lim with
          | none => rw [hm] at hb; cases hb
          | some m0 =>
            rw [hm] at hb
            simp only at hb
            cases hh : boundA (some hv) 0 m0 with
            | none => rw [hh] at hb; cases hb
            | some h0 =>
              rw [hh] at hb
              simp only at hb
              cases hll : boundA lo 0 h0 with
              | none => rw [hll] at hb; cases hb
              | some l0 =>
                rw [hll] at hb
                simp only [Option.some.injEq, Prod.mk.injEq] at hb
                obtain ⟨rfl, rfl, rfl⟩ := hb
                have d := fun code => bound_sound (P := P) (w := w) (code := code) hmx hc hm
                have e := fun code => bound_sound (P := P) (w := w) (code := code) hhi (Nat.le_refl _) hh
                have h1 := (d .slice3B).2
                have h2 := (e .slice3B).2
                have hlow : (lo' = none ∧ l0 = 0) ∨ (∃ q, lo' = some q ∧ ∀ code, (Instr.sliceBound q h0 code).run P w = .ok l0 w ∧ l0 ≤ h0) := by
                  cases lo with
                  | none =>
                    cases lo' with
                    | some _ => exact hlo.elim
                    | none => simp [boundA] at hll; exact .inl ⟨rfl, hll.symm⟩
                  | some x =>
                    cases lo' with
                    | none => exact hlo.elim
                    | some q => exact .inr ⟨q, rfl, fun code => bound_sound (P := P) (w := w) hlo (Nat.le_refl _) hll⟩
                rcases hlow with ⟨rfl, rfl⟩ | ⟨r, rfl, hr⟩
                · exact ⟨by simp [Instr.sliceBounds, (d _).1, (e _).1], by omega, by omega, fun k hk => by cases hk; exact ⟨h2, h1⟩⟩
                · exact ⟨by simp [Instr.sliceBounds, (d _).1, (e _).1, (hr _).1], (hr .sliceB).2, by omega, fun k hk => by cases hk; exact ⟨h2, h1⟩⟩

end
end Go.Proofs.YtjpehemkgikkdaaA
