/- More operations of the second reading: slices cut, and appended to. No condition. -/
import Derived.Test.YtpgcbmmifmnfpaaDoorAA
import Derived.Lib.AppendZerosOnto
import Derived.Laws.AppendOwn
import Derived.Laws.StructEq
namespace Go.Proofs.YtpgcbmmifmnfpaaDoorA
open Go Go.RowKit
set_option linter.unusedVariables false
set_option linter.unusedSimpArgs false

/-! ### make -/
def makeSliceA (P : Program) (t : TypeId) (l c : AVal) (st : ASt) : Option (AVal × ASt) :=
  match sliceElem P t, intOfA l, intOfA c with
  | some e, some l, some c => match P.info? e, aggT P e, zeroA P e with
    | some i, some agg, some z => if 0 ≤ l ∧ l ≤ c ∧ 0 < i.size ∧ c.toNat * i.size ≤ 16777216 ∧ i.bytes ≤ 4096 ∧ elemOk agg i.size z = true then
        some (.slice st.ctr 0 l.toNat i.size (some c.toNat), st.new (.cells (flatE (List.replicate c.toNat z)))) else none
    | _, _, _ => none
  | _, _, _ => none

section
variable {P : Program} {w : World}

theorem makeSlice_sound {base : Nat} {w0 : World} {g : G} {st st' : ASt} (h : SInv base w0 g st w) {t : TypeId} {l c v : AVal} {p q : Value} (hl : Rep g l p) (hc : Rep g c q) (hm : makeSliceA P t l c st = some (v, st')) :
    ∃ g' u w', (Instr.makeSlice t p q).run P w = .ok u w' ∧ g.le g' ∧ SInv base w0 g' st' w' ∧ Rep g' v u := by
  unfold makeSliceA at hm
  split at hm
  · rename_i e l' c' he hl' hc'
    have hu := sliceElem_inv he
    obtain ⟨kl, rfl⟩ := hl.int_inv hl'
    obtain ⟨kc, rfl⟩ := hc.int_inv hc'
    split at hm
    · rename_i i agg z hi hagg hz
      split at hm
      · rename_i hcond
        obtain ⟨h0, h1, h2, h3, h4, h5⟩ := hcond
        cases hm
        obtain ⟨i', z0, hi', hz0, habs⟩ := zeroA_inv hz
        rw [hi] at hi'
        cases hi'
        obtain ⟨_, hcell, hr⟩ := absVal_rep (g := g) habs
        have hr0 := reps_zero_rep hr (elemOk_len h5) h2 c'.toNat
        have hcn : c'.toNat ≤ 16777216 := Nat.le_trans (Nat.le_mul_of_pos_right _ h2) h3
        have hrun := run_makeSlice (P := P) (w := w) t e i z0 hu hi hz0 kl kc l' c' h0 h1 h3 (by
          have : (i.bytes : Int) * c' ≤ 4096 * 16777216 := Int.mul_le_mul (by omega) (by omega) (by omega) (by omega)
          omega) (by omega)
        obtain ⟨hle, hinv⟩ := h.row (madeCells z0.cells (c'.toNat * i.size)) e 0 (Nat.zero_le _) (flatE (List.replicate c'.toNat z)) (fun j x hj => by
          have hlt := (List.getElem?_eq_some_iff.1 hj).1
          have hl2 := hr0.1
          have hw : (madeCells z0.cells (c'.toNat * i.size)).toList[j]? = some ((madeCells z0.cells (c'.toNat * i.size)).toList[j]'(by rw [hl2]; exact hlt)) := List.getElem?_eq_getElem _
          refine ⟨?_, _, by rw [Nat.zero_add, ← Array.getElem?_toList]; exact hw, hr0.2 j x _ hj hw⟩
          obtain ⟨e', g1, g2⟩ := List.mem_flatMap.1 (List.mem_of_getElem? hj)
          rw [List.eq_of_mem_replicate g1] at g2
          exact hcell x g2)
        refine ⟨_, _, _, hrun, hle, hinv, ?_⟩
        have hloc : (g.row w.heap.size 0 (madeCells z0.cells (c'.toNat * i.size))).loc st.ctr = (w.heap.size, 0, (madeCells z0.cells (c'.toNat * i.size)).size) := by simp [G.row, h.n]
        have := Rep.slice (g := g.row w.heap.size 0 (madeCells z0.cells (c'.toNat * i.size))) (s := st.ctr) (off := 0) (len := l'.toNat) (sz := i.size) (cap := c'.toNat) (kc := some c'.toNat) (h.row_ok _ _ _) (fun k hk => by cases hk; rfl) (by omega) h2 (fun hk => by cases hk)
        rw [hloc] at this
        exact this
      · cases hm
    · cases hm
  · cases hm

/-! ### a slice cut -/
def boundA (x : Option AVal) (dflt y : Nat) : Option Nat :=
  match x with
  | none => some dflt
  | some v => match intOfA v with
    | some i => if 0 ≤ i ∧ i ≤ y then some i.toNat else none
    | none => none

/-- the bounds of a cut of what has this length, and at least this capacity: from, to, and the third one, if it is told -/
def boundsA (len lim : Nat) (lo hi mx : Option AVal) : Option (Nat × Nat × Option Nat) :=
  match mx with
  | none => match boundA hi len lim with
    | some h => match boundA lo 0 h with
      | some l => some (l, h, none)
      | none => none
    | none => none
  | some _ => match hi with
    | none => none
    | some _ => match boundA mx 0 lim with
      | some m => match boundA hi 0 m with
        | some h => match boundA lo 0 h with
          | some l => some (l, h, some m)
          | none => none
        | none => none
      | none => none

def cutCap (n h l : Nat) (k : Cap) (m : Option Nat) : Cap :=
  match m with
  | some m => if m = h then .exact else .unk
  | none => if h = n then (match k with
      | .tok t => if l < n then .tok t else .unk
      | k => k) else .unk

def sliceA (P : Program) (t : TypeId) (x : AVal) (lo hi mx : Option AVal) : Option AVal :=
  match P.underlying t with
  | some (.slice e) => match x, szOf P e with
    | .islice sz es k, some sz' => if sz = sz' then match boundsA es.length es.length lo hi mx with
        | some (l, h, m) => some (.islice sz ((es.drop l).take (h - l)) (cutCap es.length h l k m))
        | none => none
      else none
    | .slice s off len sz cap, some sz' => if sz = sz' then match boundsA len (cap.getD len) lo hi mx with
        | some (l, h, m) => match m, cap with
          | some m, _ => some (.slice s (if m = l then off else off + l * sz) (h - l) sz (some (m - l)))
          | none, some c => some (.slice s (if c = l then off else off + l * sz) (h - l) sz (some (c - l)))
          | none, none => if l < len then some (.slice s (off + l * sz) (h - l) sz none) else some (.islice sz [] .unk)
        | none => none
      else none
    | _, _ => none
  | some (.array n e) => match x, szOf P e with
    | .ptr s off, some sz => if 0 < sz then match boundsA n n lo hi mx with
        | some (l, h, m) => some (.slice s (if m.getD n = l then off else off + l * sz) (h - l) sz (some (m.getD n - l)))
        | none => none
      else none
    | _, _ => none
  | _ => none

def OReps (g : G) : Option AVal → Option Value → Prop
  | none, none => True
  | some a, some v => Rep g a v
  | _, _ => False

theorem bound_sound {g : G} {x : AVal} {q : Value} {dflt lim y n : Nat} {code : BoundsCode} (hq : Rep g x q) (hl : lim ≤ y) (h : boundA (some x) dflt lim = some n) : (Instr.sliceBound q y code).run P w = .ok n w ∧ n ≤ lim := by
  unfold boundA at h
  simp only at h
  cases hi : intOfA x with
  | none => rw [hi] at h; cases h
  | some i =>
    rw [hi] at h
    simp only at h
    split at h
    · rename_i hb
      cases h
      obtain ⟨k, rfl⟩ := hq.int_inv hi
      refine ⟨?_, by omega⟩
      have : (0 : Int) ≤ i ∧ i ≤ (y : Int) := ⟨hb.1, by omega⟩
      simp [Instr.sliceBound, asIntOf, this]
    · cases h

theorem bounds_sound {g : G} {lo hi mx : Option AVal} {lo' hi' mx' : Option Value} {isS : Bool} {len lim cap l h : Nat} {m : Option Nat} (hlo : OReps g lo lo') (hhi : OReps g hi hi') (hmx : OReps g mx mx')
    (hl : len ≤ lim) (hc : lim ≤ cap) (hb : boundsA len lim lo hi mx = some (l, h, m)) :
    (Instr.sliceBounds isS len cap lo' hi' mx').run P w = .ok (l, h, m.getD cap) w ∧ l ≤ h ∧ h ≤ lim ∧ (∀ k, m = some k → h ≤ k ∧ k ≤ lim) := by
  unfold boundsA at hb
  cases mx with
  | none =>
    cases mx' with
    | some _ => exact hmx.elim
    | none =>
      simp only at hb
      cases hh : boundA hi len lim with
      | none => rw [hh] at hb; cases hb
      | some h0 =>
        rw [hh] at hb
        simp only at hb
        cases hll : boundA lo 0 h0 with
        | none => rw [hll] at hb; cases hb
        | some l0 =>
          rw [hll] at hb
          simp only [Option.some.injEq, Prod.mk.injEq] at hb
          obtain ⟨rfl, rfl, rfl⟩ := hb
          have hlow : ∀ (lq : Option Value), OReps g lo lq → (lq = none ∧ l0 = 0) ∨ (∃ q, lq = some q ∧ ∀ code, (Instr.sliceBound q h0 code).run P w = .ok l0 w ∧ l0 ≤ h0) := by
            intro lq hq
            cases lo with
            | none =>
              cases lq with
              | some _ => exact hq.elim
              | none => simp [boundA] at hll; exact .inl ⟨rfl, hll.symm⟩
            | some x =>
              cases lq with
              | none => exact hq.elim
              | some q => exact .inr ⟨q, rfl, fun code => bound_sound (P := P) (w := w) hq (Nat.le_refl _) hll⟩
          have hhigh : (hi' = none ∧ h0 = len) ∨ (∃ q, hi' = some q ∧ ∀ code, (Instr.sliceBound q cap code).run P w = .ok h0 w ∧ h0 ≤ lim) := by
            cases hi with
            | none =>
              cases hi' with
              | some _ => exact hhi.elim
              | none => simp [boundA] at hh; exact .inl ⟨rfl, hh.symm⟩
            | some x =>
              cases hi' with
              | none => exact hhi.elim
              | some q => exact .inr ⟨q, rfl, fun code => bound_sound (P := P) (w := w) hhi hc hh⟩
          rcases hhigh with ⟨rfl, rfl⟩ | ⟨q, rfl, hq⟩ <;> rcases hlow lo' hlo with ⟨rfl, rfl⟩ | ⟨r, rfl, hr⟩
          · exact ⟨by simp [Instr.sliceBounds], by omega, by omega, fun k hk => by cases hk⟩
          · exact ⟨by simp [Instr.sliceBounds, (hr _).1], (hr .sliceB).2, by omega, fun k hk => by cases hk⟩
          · exact ⟨by simp [Instr.sliceBounds, (hq _).1], by omega, (hq .sliceB).2, fun k hk => by cases hk⟩
          · exact ⟨by simp [Instr.sliceBounds, (hq _).1, (hr _).1], (hr .sliceB).2, (hq .sliceB).2, fun k hk => by cases hk⟩
  | some mv =>
    cases mx' with
    | none => exact hmx.elim
    | some mq =>
      cases hi with
      | none => simp at hb
      | some hv =>
        cases hi' with
        | none => exact hhi.elim
        | some hq =>
          simp only at hb
          cases hm : boundA (some mv) 0 lim with
          | none => rw [hm] at hb; cases hb
          | some m0 =>
            rw [hm] at hb
            simp only at hb
            cases hh : boundA (some hv) 0 m0 with
            | none => rw [hh] at hb; cases hb
            | some h0 =>
              rw [hh] at hb
              simp only at hb
              cases hll : boundA lo 0 h0 with
              | none => rw [hll] at hb; cases hb
              | some l0 =>
                rw [hll] at hb
                simp only [Option.some.injEq, Prod.mk.injEq] at hb
                obtain ⟨rfl, rfl, rfl⟩ := hb
                have d := fun code => bound_sound (P := P) (w := w) (code := code) hmx hc hm
                have e := fun code => bound_sound (P := P) (w := w) (code := code) hhi (Nat.le_refl _) hh
                have h1 := (d .slice3B).2
                have h2 := (e .slice3B).2
                have hlow : (lo' = none ∧ l0 = 0) ∨ (∃ q, lo' = some q ∧ ∀ code, (Instr.sliceBound q h0 code).run P w = .ok l0 w ∧ l0 ≤ h0) := by
                  cases lo with
                  | none =>
                    cases lo' with
                    | some _ => exact hlo.elim
                    | none => simp [boundA] at hll; exact .inl ⟨rfl, hll.symm⟩
                  | some x =>
                    cases lo' with
                    | none => exact hlo.elim
                    | some q => exact .inr ⟨q, rfl, fun code => bound_sound (P := P) (w := w) hlo (Nat.le_refl _) hll⟩
                rcases hlow with ⟨rfl, rfl⟩ | ⟨r, rfl, hr⟩
                · exact ⟨by simp [Instr.sliceBounds, (d _).1, (e _).1], by omega, by omega, fun k hk => by cases hk; exact ⟨h2, h1⟩⟩
                · exact ⟨by simp [Instr.sliceBounds, (d _).1, (e _).1, (hr _).1], (hr .sliceB).2, by omega, fun k hk => by cases hk; exact ⟨h2, h1⟩⟩

end
end Go.Proofs.YtpgcbmmifmnfpaaDoorA

/- Slices cut and appended to: that the model does the same. No condition. -/
namespace Go.Proofs.YtpgcbmmifmnfpaaDoorA
open Go Go.RowKit
set_option linter.unusedVariables false
set_option linter.unusedSimpArgs false

section
variable {P : Program} {w : World}

theorem rep_islice_nil {g : G} {sz B o cap : Nat} : Rep g (.islice sz [] .unk) (.slice (some ⟨B, o, none⟩) 0 cap) :=
  .islice (es := []) (k := .unk) (f := fun _ _ => undef) (Nat.zero_le _) (fun i e hi => by simp at hi) (fun i e j c hi => by simp at hi) (fun i e j c hi => by simp at hi) (fun i e hi => by simp at hi) trivial

/-- a part of a slice that is never written again -/
theorem rep_islice_cut {g : G} {sz : Nat} {es : List AVal} {B o : Nat} {f : Nat → Nat → Value}
    (hs : ∀ (i : Nat) (e : AVal), es[i]? = some e → e.cells.length = sz)
    (hf : ∀ (i : Nat) (e : AVal) (j : Nat) (c : AVal), es[i]? = some e → e.cells[j]? = some c → g.own B (o + (i * sz + j)) = .frozen (f i j))
    (hf2 : ∀ (i : Nat) (e : AVal) (j : Nat) (c : AVal), es[i]? = some e → e.cells[j]? = some c → Rep g c (f i j))
    (hc : ∀ (i : Nat) (e : AVal), es[i]? = some e → ∀ c ∈ e.cells, c.isCell = true) {l h : Nat} (hlh : l ≤ h) (hh : h ≤ es.length) {o' : Nat} (ho : l < h → o' = o + l * sz) {cap' : Nat} (hcap : h - l ≤ cap') {k : Cap} (hk : CapOK g sz B o' (h - l) cap' k) :
    Rep g (.islice sz ((es.drop l).take (h - l)) k) (.slice (some ⟨B, o', none⟩) (h - l) cap') := by
  have hlen : ((es.drop l).take (h - l)).length = h - l := by simp; omega
  have get : ∀ (i : Nat) (e : AVal), ((es.drop l).take (h - l))[i]? = some e → es[l + i]? = some e ∧ l < h := by
    intro i e hi
    rw [List.getElem?_take] at hi
    split at hi
    · rw [List.getElem?_drop] at hi; exact ⟨hi, by omega⟩
    · cases hi
  have := Rep.islice (g := g) (sz := sz) (es := (es.drop l).take (h - l)) (cap := cap') (k := k) (B := B) (o := o') (f := fun i j => f (l + i) j) (by omega)
    (fun i e hi => hs _ e (get i e hi).1)
    (fun i e j c hi hj => by
      obtain ⟨h1, h2⟩ := get i e hi
      rw [ho h2, show o + l * sz + (i * sz + j) = o + ((l + i) * sz + j) by rw [Nat.add_mul]; omega]
      exact hf _ e j c h1 hj)
    (fun i e j c hi hj => hf2 _ e j c (get i e hi).1 hj) (fun i e hi => hc _ e (get i e hi).1) (by rw [hlen]; exact hk)
  rw [hlen] at this
  exact this

theorem run_sliceAt_of {t e : TypeId} {a : Addr} {len cap sz l h m : Nat} {lo hi mx : Option Value} (hu : P.underlying t = some (.slice e)) (hz : szOf P e = some sz)
    (hb : (Instr.sliceBounds true len cap lo hi mx).run P w = .ok (l, h, m) w) :
    (Instr.sliceAt t (.slice (some a) len cap) lo hi mx).run P w = .ok (.slice (some (if m = l then a else a.add (l * sz))) (h - l) (m - l)) w := by
  simp only [Instr.sliceAt, Instr.slice, Sem.run_bind, run_underlying_of hu, Result.andThen_ok, hb, run_sizeOf_of hz]
  split <;> simp [Sem.run]

theorem slice_sound {g : G} {t : TypeId} {x v : AVal} {p : Value} {lo hi mx : Option AVal} {lo' hi' mx' : Option Value} (hx : Rep g x p) (hlo : OReps g lo lo') (hhi : OReps g hi hi') (hmx : OReps g mx mx')
    (hs : sliceA P t x lo hi mx = some v) : ∃ u, (Instr.sliceAt t p lo' hi' mx').run P w = .ok u w ∧ Rep g v u := by
  unfold sliceA at hs
  split at hs
  · rename_i e hu
    split at hs
    · rename_i sz es k sz' hz
      split at hs
      · rename_i hsz
        subst hsz
        obtain ⟨cap, B, o, f, rfl, hl, hs1, hf, hf2, hc, hk⟩ := hx.islice_inv
        split at hs
        · rename_i l h m hb
          cases hs
          obtain ⟨hr, h1, h2, h3⟩ := bounds_sound (P := P) (w := w) (isS := true) (cap := cap) hlo hhi hmx (Nat.le_refl _) hl hb
          refine ⟨_, run_sliceAt_of hu hz hr, ?_⟩
          cases m with
          | some m =>
            obtain ⟨h4, h5⟩ := h3 m rfl
            simp only [Option.getD_some]
            by_cases e1 : m = l
            · rw [if_pos e1]
              refine rep_islice_cut hs1 hf hf2 hc h1 h2 (fun hlt => by omega) (by omega) ?_
              unfold cutCap
              simp only
              rw [if_pos (by omega)]
              show m - l = h - l
              omega
            · rw [if_neg e1, addr_add]
              refine rep_islice_cut hs1 hf hf2 hc h1 h2 (fun _ => rfl) (by omega) ?_
              unfold cutCap
              simp only
              by_cases e2 : m = h
              · rw [if_pos e2]
                show m - l = h - l
                omega
              · rw [if_neg e2]; trivial
          | none =>
            simp only [Option.getD_none]
            by_cases e1 : cap = l
            · rw [if_pos e1]
              refine rep_islice_cut hs1 hf hf2 hc h1 h2 (fun hlt => by omega) (by omega) ?_
              unfold cutCap
              simp only
              rw [if_pos (by omega)]
              cases k with
              | exact => show cap - l = h - l; omega
              | unk => trivial
              | tok t => simp only; rw [if_neg (by omega)]; trivial
            · rw [if_neg e1, addr_add]
              refine rep_islice_cut hs1 hf hf2 hc h1 h2 (fun _ => rfl) (by omega) ?_
              unfold cutCap
              simp only
              by_cases e2 : h = es.length
              · rw [if_pos e2]
                cases k with
                | exact =>
                  have hk' : cap = es.length := hk
                  show cap - l = h - l
                  omega
                | unk => trivial
                | tok t =>
                  simp only
                  by_cases e3 : l < es.length
                  · rw [if_pos e3]
                    obtain ⟨k1, k2, k3, k4⟩ := hk
                    refine ⟨k1, k2, ?_, ?_⟩
                    · rw [k3, e2, Nat.add_assoc, ← Nat.add_mul]; congr 2; omega
                    · rw [k4, Nat.add_assoc, ← Nat.add_mul]; congr 2; omega
                  · rw [if_neg e3]; trivial
              · rw [if_neg e2]; trivial
        · cases hs
      · cases hs
    · rename_i s off len sz cap sz' hz
      split at hs
      · rename_i hsz
        subst hsz
        obtain ⟨cap', rfl, hsn, hk, hl, hz0, hx0⟩ := hx.slice_inv
        split at hs
        · rename_i l h m hb
          have hlim : len ≤ cap.getD len ∧ cap.getD len ≤ cap' := by
            cases cap with
            | none => exact ⟨Nat.le_refl _, hl⟩
            | some c => have := hk c rfl; simp only [Option.getD_some]; omega
          obtain ⟨hr, h1, h2, h3⟩ := bounds_sound (P := P) (w := w) (isS := true) (cap := cap') hlo hhi hmx hlim.1 hlim.2 hb
          refine ⟨_, run_sliceAt_of hu hz hr, ?_⟩
          split at hs
          · rename_i m'
            cases hs
            obtain ⟨h4, h5⟩ := h3 m' rfl
            simp only [Option.getD_some]
            have key : ∀ o', Rep g (.slice s o' (h - l) sz (some (m' - l))) (.slice (some ⟨(g.loc s).1, (g.loc s).2.1 + o', none⟩) (h - l) (m' - l)) := fun o' =>
              .slice hsn (fun k hk => by cases hk; rfl) (by omega) hz0 (fun hk => by cases hk)
            by_cases e1 : m' = l
            · rw [if_pos e1, if_pos e1]; exact key off
            · rw [if_neg e1, if_neg e1, addr_add, Nat.add_assoc]; exact key _
          · rename_i c
            cases hs
            have hcc := hk c rfl
            subst hcc
            simp only [Option.getD_none]
            simp only [Option.getD_some] at h2
            have key : ∀ o', Rep g (.slice s o' (h - l) sz (some (cap' - l))) (.slice (some ⟨(g.loc s).1, (g.loc s).2.1 + o', none⟩) (h - l) (cap' - l)) := fun o' =>
              .slice hsn (fun k hk => by cases hk; rfl) (by omega) hz0 (fun hk => by cases hk)
            by_cases e1 : cap' = l
            · rw [if_pos e1, if_pos e1]; exact key off
            · rw [if_neg e1, if_neg e1, addr_add, Nat.add_assoc]; exact key _
          · simp only [Option.getD_none] at h2 ⊢
            split at hs
            · rename_i e1
              cases hs
              rw [if_neg (by omega), addr_add, Nat.add_assoc]
              refine .slice hsn (fun k hk => by cases hk) (by omega) hz0 (fun _ => ?_)
              rw [← hx0 rfl]
              have : l * sz + (cap' - l) * sz = cap' * sz := by rw [← Nat.add_mul]; congr 1; omega
              omega
            · rename_i e1
              cases hs
              have e2 : h - l = 0 := by omega
              rw [e2]
              by_cases e3 : cap' = l
              · rw [if_pos e3]; exact rep_islice_nil
              · rw [if_neg e3, addr_add]; exact rep_islice_nil
        · cases hs
      · cases hs
    · cases hs
  · rename_i n e hu
    split at hs
    · rename_i s off sz hz
      split at hs
      · rename_i hz0
        cases hx
        rename_i hsn
        split at hs
        · rename_i l h m hb
          cases hs
          obtain ⟨hr, h1, h2, h3⟩ := bounds_sound (P := P) (w := w) (isS := false) (cap := n) hlo hhi hmx (Nat.le_refl _) (Nat.le_refl _) hb
          have hmn : h ≤ m.getD n := by
            cases m with
            | none => exact h2
            | some m => exact (h3 m rfl).1
          refine ⟨.slice (some (if m.getD n = l then ⟨(g.loc s).1, (g.loc s).2.1 + off, none⟩ else (⟨(g.loc s).1, (g.loc s).2.1 + off, none⟩ : Addr).add (l * sz))) (h - l) (m.getD n - l), ?_, ?_⟩
          · simp only [Instr.sliceAt, Sem.run_bind, run_underlying_of hu, Result.andThen_ok, Instr.sureAddr, hr, run_sizeOf_of hz, pure_bind]
            simp [Sem.run]
          · have key : ∀ o', Rep g (.slice s o' (h - l) sz (some (m.getD n - l))) (.slice (some ⟨(g.loc s).1, (g.loc s).2.1 + o', none⟩) (h - l) (m.getD n - l)) := fun o' =>
              .slice hsn (fun k hk => by cases hk; rfl) (by omega) hz0 (fun hk => by cases hk)
            by_cases e1 : m.getD n = l
            · rw [if_pos e1, if_pos e1]; exact key off
            · rw [if_neg e1, if_neg e1, addr_add, Nat.add_assoc]; exact key _
        · cases hs
      · cases hs
    · cases hs
  · cases hs

end
end Go.Proofs.YtpgcbmmifmnfpaaDoorA

/- Appending: that the model does the same. No condition. -/
namespace Go.Proofs.YtpgcbmmifmnfpaaDoorA
open Go Go.RowKit
set_option linter.unusedVariables false
set_option linter.unusedSimpArgs false

def byteA (b : UInt8) : AVal := .lit (.int .u8 b.toNat)

/-- elements cut out of cells -/
def chunkA (P : Program) (e : TypeId) (sz : Nat) (cs : List AVal) (off : Nat) : Nat → Option (List AVal)
  | 0 => some []
  | n + 1 => match partA P e cs off, chunkA P e sz cs (off + sz) n with
    | some v, some r => some (v :: r)
    | _, _ => none

/-- what is appended, by elements -/
def srcA (P : Program) (e tx : TypeId) (agg : Bool) (sz : Nat) (st : ASt) (x : AVal) : Option (List AVal) :=
  match P.underlying tx with
  | some (.slice _) => match x with
    | .lit (.slice _ 0 0) => some []
    | .islice sz' es _ => if sz' = sz ∧ es.all (elemOk agg sz) = true then some es else none
    | .slice s off len sz' _ => if sz' = sz then match st.heap s with
        | some (.cells cs) => match chunkA P e sz cs off len with
          | some es => if es.all (elemOk agg sz) = true then some es else none
          | none => none
        | _ => none
      else none
    | _ => none
  | some .string => match x with
    | .lit (.string s) => if sz = 1 ∧ agg = false then some (s.data.toList.map byteA) else none
    | _ => none
  | _ => none

/-- a slice that grew: all its elements, in a new row -/
def grownA (mt : Bool) (sz : Nat) (all : List AVal) (st : ASt) : AVal × ASt :=
  if mt then (.slice st.ctr 0 all.length sz none, st.new (.cells (flatE all))) else (.islice sz all (.tok st.ctr), st.new (.cells []))

def appendA0 (P : Program) (mt : Bool) (t tx : TypeId) (s x : AVal) (st : ASt) : Option (AVal × ASt) :=
  match sliceElem P t with
  | some e => match P.info? e, aggT P e, zeroA P e with
    | some i, some agg, some z => if 0 < i.size ∧ i.bytes ≤ 4096 ∧ elemOk agg i.size z = true then
        match srcA P e tx agg i.size st x with
        | some news => if news = [] then (match s with
              | .lit (.slice none 0 0) | .islice .. | .slice .. => some (s, st)
              | _ => none) else
            match s with
            | .lit (.slice none 0 0) => if news.length ≤ 1073741824 then some (grownA mt i.size news st) else none
            | .islice sz es k => if sz = i.size ∧ es.all (elemOk agg i.size) = true ∧ es.length + news.length ≤ 1073741824 then (match k with
                | .exact => some (grownA mt i.size (es ++ news) st)
                | .tok t => if mt then none else (match st.heap t with
                  | some (.cells _) => some (grownA false i.size (es ++ news) (st.set t none))
                  | _ => none)
                | .unk => none) else none
            | .slice s off len sz cap => if sz = i.size ∧ len + news.length ≤ 1073741824 then (match st.heap s with
                | some (.cells cs) => match chunkA P e i.size cs off len with
                  | some es => if es.all (elemOk agg i.size) = true then (match cap with
                      | none => some (grownA true i.size (es ++ news) (st.set s none))
                      | some c => if len + news.length ≤ c then
                            (if off + (len + news.length) * i.size ≤ cs.length then some (.slice s off (len + news.length) sz (some c), st.set s (some (.cells (putL cs (off + len * i.size) (flatE news))))) else none)
                          else some (grownA mt i.size (es ++ news) st)) else none
                  | none => none
                | _ => none) else none
            | _ => none
        | none => none
      else none
    | _, _, _ => none
  | none => none

/-- so many zero values, appended onto nothing -/
def appendZ (P : Program) (mt : Bool) (t tx : TypeId) (s x : AVal) (st : ASt) : Option (AVal × ASt) :=
  match sliceElem P t, P.underlying tx with
  | some e, some (.int .i64) => match P.info? e, aggT P e, zeroA P e with
    | some i, some agg, some z => if 0 < i.size ∧ i.bytes ≤ 4096 ∧ elemOk agg i.size z = true then
        (match s, x with
        | .lit (.slice none 0 0), .lit (.int .i64 n) => if 0 < n ∧ n ≤ 1073741824 then some (grownA mt i.size (List.replicate n.toNat z) st) else none
        | _, _ => none) else none
    | _, _, _ => none
  | _, _ => none

def appendA (P : Program) (mt : Bool) (t tx : TypeId) (s x : AVal) (st : ASt) : Option (AVal × ASt) :=
  match appendA0 P mt t tx s x st with
  | some r => some r
  | none => appendZ P mt t tx s x st
theorem app_of {P : Program} {mt : Bool} {t tx : TypeId} {s x : AVal} {st : ASt} {r : AVal × ASt} (h : appendA0 P mt t tx s x st = some r) : appendA P mt t tx s x st = some r := by
  unfold appendA; rw [h]

theorem flatE_append (a b : List AVal) : flatE (a ++ b) = flatE a ++ flatE b := by simp [flatE]

theorem Reps.append {g : G} {a b : List AVal} {us vs : List Value} (h : Reps g a us) (k : Reps g b vs) : Reps g (a ++ b) (us ++ vs) := by
  refine ⟨by simp [h.1, k.1], fun j c u hj hu => ?_⟩
  rw [List.getElem?_append] at hj hu
  rw [h.1] at hu
  split at hj
  · rename_i hlt; rw [if_pos hlt] at hu; exact h.2 j c u hj hu
  · rename_i hlt; rw [if_neg hlt] at hu; exact k.2 _ c u hj hu

theorem flatE_bytes : ∀ (l : List UInt8), flatE (l.map byteA) = (l.map fun b => Value.int .u8 b.toNat).map .lit
  | [] => rfl
  | b :: l => by
    have := flatE_bytes l
    simp only [flatE, List.map_cons, List.flatMap_cons] at this ⊢
    rw [this]
    rfl

section
variable {P : Program} {w : World}

/-- the elements of a row, and the cells that they are: as flat lists -/
theorem islice_flat {g : G} {sz B o : Nat} {f : Nat → Nat → Value} : ∀ (es : List AVal) (k : Nat),
    (∀ (i : Nat) (e : AVal), es[i]? = some e → e.cells.length = sz) →
    (∀ (i : Nat) (e : AVal) (j : Nat) (c : AVal), es[i]? = some e → e.cells[j]? = some c → g.own B (o + ((k + i) * sz + j)) = .frozen (f (k + i) j)) →
    (∀ (i : Nat) (e : AVal) (j : Nat) (c : AVal), es[i]? = some e → e.cells[j]? = some c → Rep g c (f (k + i) j)) →
    ∃ us, Reps g (flatE es) us ∧ ∀ (j : Nat) (u : Value), us[j]? = some u → g.own B (o + (k * sz + j)) = .frozen u
  | [], k, _, _, _ => ⟨[], ⟨rfl, fun j c u a b => by simp at b⟩, fun j u h => by simp at h⟩
  | e :: es, k, h1, h2, h3 => by
    obtain ⟨us, r1, r2⟩ := islice_flat es (k + 1) (fun i e' hi => h1 (i + 1) e' (by simpa using hi))
      (fun i e' j c hi hj => by have := h2 (i + 1) e' j c (by simpa using hi) hj; rwa [show k + (i + 1) = k + 1 + i by omega] at this)
      (fun i e' j c hi hj => by have := h3 (i + 1) e' j c (by simpa using hi) hj; rwa [show k + (i + 1) = k + 1 + i by omega] at this)
    have hl := h1 0 e rfl
    refine ⟨(List.range sz).map (f k) ++ us, ?_, fun j u hj => ?_⟩
    · rw [show flatE (e :: es) = e.cells ++ flatE es by simp [flatE]]
      refine Reps.append ⟨by simp [hl], fun j c u a b => ?_⟩ r1
      have := h3 0 e j c rfl a
      have hlt := (List.getElem?_eq_some_iff.1 a).1
      simp [show j < sz by omega] at b
      subst b
      simpa using this
    · rw [List.getElem?_append] at hj
      split at hj
      · rename_i hlt
        simp at hlt
        simp [hlt] at hj
        subst hj
        have h4 : e.cells[j]? = some (e.cells[j]'(by omega)) := List.getElem?_eq_getElem _
        have := h2 0 e j _ rfl h4
        simpa using this
      · rename_i hlt
        simp at hlt hj
        have := r2 _ u hj
        rw [← this]
        congr 1
        rw [Nat.add_mul]
        omega

theorem part_cells {e : TypeId} {sz : Nat} {cs : List AVal} {off : Nat} {v : AVal} (hz : szOf P e = some sz) (h : partA P e cs off = some v) (hv : v.cells.length = sz) (hc : ∀ c ∈ cs, c.isCell = true) (hag : aggT P e = some false → sz = 1) :
    ∀ (j : Nat) (c : AVal), v.cells[j]? = some c → cs[off + j]? = some c := by
  intro j c hj
  unfold partA at h
  rw [hz] at h
  split at h
  · rename_i sz' ha hs
    cases hs
    split at h
    · cases h
      have hj' : ((cs.drop off).take sz)[j]? = some c := hj
      rw [List.getElem?_take] at hj'
      split at hj'
      · rw [List.getElem?_drop] at hj'; exact hj'
      · cases hj'
    · cases h
  · have hcell := hc v (List.mem_of_getElem? h)
    have e : v.cells = [v] := by cases v <;> simp_all [AVal.cells, AVal.isCell]
    rw [e] at hj
    cases j with
    | zero => cases hj; exact h
    | succ j => cases hj
  · cases h

/-- elements cut out of cells are these cells -/
theorem chunk_cells {e : TypeId} {agg : Bool} {sz : Nat} (hz : szOf P e = some sz) (ha : aggT P e = some agg) {cs : List AVal} (hc : ∀ c ∈ cs, c.isCell = true) : ∀ (n off : Nat) (es : List AVal),
    chunkA P e sz cs off n = some es → (∀ x ∈ es, elemOk agg sz x = true) → es.length = n ∧ (flatE es).length = n * sz ∧ ∀ (j : Nat) (c : AVal), (flatE es)[j]? = some c → cs[off + j]? = some c
  | 0, off, es, h, _ => by cases h; exact ⟨rfl, by simp [flatE], fun j c hj => by simp [flatE] at hj⟩
  | n + 1, off, es, h, hok => by
    unfold chunkA at h
    split at h
    · rename_i v r hv hr
      cases h
      have hvl := elemOk_len (hok v (by simp))
      obtain ⟨i1, i2, i3⟩ := chunk_cells hz ha hc n (off + sz) r hr (fun x hx => hok x (by simp [hx]))
      have hp := part_cells hz hv hvl hc (fun hag => by
        have hv2 := hok v (by simp)
        rw [ha] at hag
        cases hag
        have hcell : v.cells = [v] := by
          cases v <;> simp_all [elemOk, AVal.cells]
        rw [hcell] at hvl
        simpa using hvl.symm)
      have hfl : flatE (v :: r) = v.cells ++ flatE r := by simp [flatE]
      refine ⟨by simp [i1], by rw [hfl, List.length_append, hvl, i2, Nat.add_mul]; omega, fun j c hj => ?_⟩
      rw [hfl, List.getElem?_append] at hj
      split at hj
      · exact hp j c hj
      · rename_i hlt
        have := i3 _ c hj
        rw [← this]
        congr 1
        omega
    · cases h

theorem elems_cell {agg : Bool} {sz : Nat} {es : List AVal} (h : ∀ x ∈ es, elemOk agg sz x = true) : ∀ c ∈ flatE es, c.isCell = true := by
  intro c hc
  obtain ⟨e, h1, h2⟩ := List.mem_flatMap.1 hc
  exact elemOk_cell (h e h1) c h2

theorem elems_len {agg : Bool} {sz : Nat} {es : List AVal} (h : ∀ x ∈ es, elemOk agg sz x = true) : (flatE es).length = es.length * sz := flatE_len es (fun e he => elemOk_len (h e he))

/-- what is read of a slice: the cells of its elements -/
theorem slice_cells {base : Nat} {w0 : World} {g : G} {st : ASt} (h : SInv base w0 g st w) {e : TypeId} {agg : Bool} {sz s off len : Nat} {cap : Option Nat} {u : Value} {cs es : List AVal} (hr : Rep g (.slice s off len sz cap) u)
    (hs : st.heap s = some (.cells cs)) (hz : szOf P e = some sz) (ha : aggT P e = some agg) (hch : chunkA P e sz cs off len = some es) (hok : ∀ x ∈ es, elemOk agg sz x = true) :
    es.length = len ∧ ∃ us, Reps g (flatE es) us ∧ us.length = len * sz ∧ ∀ (j : Nat) (v : Value), us[j]? = some v → w.cell? ⟨(g.loc s).1, (g.loc s).2.1 + off + j, none⟩ = some v := by
  have hb := h.cells s cs hs
  obtain ⟨i1, i2, i3⟩ := chunk_cells hz ha (fun c hc => by obtain ⟨j, hj⟩ := List.getElem?_of_mem hc; exact (hb.rep j c hj).1) len off es hch hok
  refine ⟨i1, (List.range (len * sz)).map (fun j => (w.cell? ⟨(g.loc s).1, (g.loc s).2.1 + off + j, none⟩).getD undef), ⟨by simp [i2], fun j c v a b => ?_⟩, by simp, fun j v hj => ?_⟩
  · obtain ⟨_, v', hv', hr'⟩ := hb.rep _ c (i3 j c a)
    have hlt : j < len * sz := by have := (List.getElem?_eq_some_iff.1 a).1; omega
    simp [hlt] at b
    rw [Nat.add_assoc, hv'] at b
    simp at b
    subst b
    exact hr'
  · have hlt : j < len * sz := by have := (List.getElem?_eq_some_iff.1 hj).1; simpa using this
    have h1 : (flatE es)[j]? = some ((flatE es)[j]'(by omega)) := List.getElem?_eq_getElem _
    obtain ⟨_, v', hv', _⟩ := hb.rep _ _ (i3 j _ h1)
    simp [hlt] at hj
    rw [Nat.add_assoc, hv'] at hj
    simp at hj
    subst hj
    rw [Nat.add_assoc]
    exact hv'

theorem src_sound {base : Nat} {w0 : World} {g : G} {st : ASt} (h : SInv base w0 g st w) {e tx : TypeId} {agg : Bool} {sz : Nat} {x : AVal} {q : Value} {news : List AVal} (hz : szOf P e = some sz) (ha : aggT P e = some agg)
    (hx : Rep g x q) (hs : srcA P e tx agg sz st x = some news) : ∃ us, Src P sz tx q news.length us w ∧ Reps g (flatE news) us ∧ ∀ x ∈ news, elemOk agg sz x = true := by
  unfold srcA at hs
  split at hs
  · rename_i e' htx
    split at hs
    · cases hs
      have := hx.flat
      subst this
      rename_i a0
      cases a0 with
      | none => exact ⟨[], Src.ofNil w htx 0, ⟨rfl, fun j c u a b => by simp at b⟩, fun x hx => by simp at hx⟩
      | some a0 => exact ⟨[], Src.ofSlice w htx a0 0 0 [] (by simp) (fun j u hj => by simp at hj) (fun u hu => by cases hu), ⟨rfl, fun j c u a b => by simp at b⟩, fun x hx => by simp at hx⟩
    · rename_i sz' es k
      split at hs
      · rename_i hc
        obtain ⟨rfl, hok⟩ := hc
        cases hs
        have hok' : ∀ x ∈ news, elemOk agg sz' x = true := fun x hm => List.all_eq_true.1 hok x hm
        obtain ⟨cap, B, o, f, rfl, hl, hs1, hf, hf2, hc, hk⟩ := hx.islice_inv
        obtain ⟨us, r1, r2⟩ := islice_flat (g := g) (B := B) (o := o) (f := f) news 0 hs1 (fun i e j c hi hj => by simpa using hf i e j c hi hj) (fun i e j c hi hj => by simpa using hf2 i e j c hi hj)
        refine ⟨us, Src.ofSlice w htx ⟨B, o, none⟩ news.length cap us (by rw [r1.1, elems_len hok']) (fun j u hj => ?_) (r1.cells' (elems_cell hok')), r1, hok'⟩
        rw [addr_add]
        have := r2 j u hj
        rw [Nat.zero_mul, Nat.zero_add] at this
        exact h.fr _ _ _ this
      · cases hs
    · rename_i s off len sz' cap
      split at hs
      · rename_i hsz
        subst hsz
        split at hs
        · rename_i cs hcs
          split at hs
          · rename_i es hch
            split at hs
            · rename_i hok
              cases hs
              have hok' : ∀ x ∈ news, elemOk agg sz' x = true := fun x hm => List.all_eq_true.1 hok x hm
              obtain ⟨i1, us, r1, r2, r3⟩ := slice_cells h hx hcs hz ha hch hok'
              obtain ⟨cap', rfl, _⟩ := hx.slice_inv
              refine ⟨us, ?_, r1, hok'⟩
              rw [i1]
              exact Src.ofSlice w htx _ len cap' us r2 (fun j u hj => by rw [addr_add]; exact r3 j u hj) (r1.cells' (elems_cell hok'))
            · cases hs
          · cases hs
        · cases hs
      · cases hs
    · cases hs
  · rename_i htx
    split at hs
    · rename_i s
      split at hs
      · rename_i hc
        obtain ⟨rfl, rfl⟩ := hc
        cases hs
        have := hx.flat
        subst this
        refine ⟨byteCells s, ?_, ?_, fun x hx => ?_⟩
        · have := Src.ofString (P := P) w htx s
          rwa [show (List.map byteA s.data.toList).length = s.size by simp]
        · have : flatE (List.map byteA s.data.toList) = (byteCells s).map .lit := flatE_bytes _
          rw [this]
          exact reps_lits (List.all_eq_true.2 fun u hu => by
            obtain ⟨b, _, rfl⟩ := List.mem_map.1 hu
            rfl)
        · obtain ⟨b, _, rfl⟩ := List.mem_map.1 hx
          rfl
      · cases hs
    · cases hs
  · cases hs

end
end Go.Proofs.YtpgcbmmifmnfpaaDoorA

/- Appending, the second part. No condition. -/
namespace Go.Proofs.YtpgcbmmifmnfpaaDoorA
open Go Go.RowKit
set_option linter.unusedVariables false
set_option linter.unusedSimpArgs false

section
variable {P : Program} {w : World}

theorem zeroCells_size (z : Array Value) (n : Nat) : (Builtin.zeroCells z n).size = n * z.size := by simp [Builtin.zeroCells]

/-- a slice that grows -/
theorem grow_core {base : Nat} {w0 : World} {g : G} {st : ASt} (h : SInv base w0 g st w) {t tx ty e : TypeId} {i : TypeInfo} {z : AVal} {agg mt : Bool} (hu : P.underlying t = some (.slice e)) (hi : P.info? e = some i) (hz : zeroA P e = some z)
    (h0 : 0 < i.size) (hb : i.bytes ≤ 4096) (hzok : elemOk agg i.size z = true) {bs : Option Addr} {sCap : Nat} {es news : List AVal} {olds vs : List Value} {q : Value}
    (hes : ∀ x ∈ es, elemOk agg i.size x = true) (hnews : ∀ x ∈ news, elemOk agg i.size x = true) (ho : Reps g (flatE es) olds) (hn : Reps g (flatE news) vs)
    (hvl : vs.length = news.length * i.size) {C : Nat} {z0 : Value} (hz0 : i.zero = some z0) (hge : es.length + news.length ≤ C)
    (hrun : (Builtin.append_ #[t, tx] ty #[.slice bs es.length sCap, q]).run P w = .ok (.slice (some ⟨w.heap.size, 0, none⟩) (es.length + news.length) C) (w.drew.alloc (.cells ((olds ++ vs).toArray ++ Builtin.zeroCells z0.cells (C - (es.length + news.length))) e))) :
    ∃ g' u w', (Builtin.append_ #[t, tx] ty #[.slice bs es.length sCap, q]).run P w = .ok u w' ∧ g.le g' ∧ SInv base w0 g' (grownA mt i.size (es ++ news) st).2 w' ∧ Rep g' (grownA mt i.size (es ++ news) st).1 u := by
  obtain ⟨i', z1, hi', hz1, habs⟩ := zeroA_inv hz
  rw [hi] at hi'
  cases hi'
  rw [hz0] at hz1
  cases hz1
  obtain ⟨_, hcell, hr⟩ := absVal_rep (g := g) habs
  have hzs : z0.cells.size = i.size := by have := hr.1; have := elemOk_len hzok; simp at *; omega
  have hall : Reps g (flatE (es ++ news)) (olds ++ vs) := by rw [flatE_append]; exact ho.append hn
  have hok : ∀ x ∈ es ++ news, elemOk agg i.size x = true := fun x hx => (List.mem_append.1 hx).elim (hes x) (hnews x)
  have hlen : (flatE (es ++ news)).length = (es.length + news.length) * i.size := by rw [elems_len hok, List.length_append]
  have hpre : ((olds ++ vs).toArray).size = (es.length + news.length) * i.size := by rw [← hlen, ← hall.1]; simp
  let us := (olds ++ vs).toArray ++ Builtin.zeroCells z0.cells (C - (es.length + news.length))
  have hsize : us.size = C * i.size := by
    show ((olds ++ vs).toArray ++ Builtin.zeroCells z0.cells (C - (es.length + news.length))).size = _
    rw [Array.size_append, hpre, zeroCells_size, hzs, ← Nat.add_mul]
    congr 1
    omega
  have hpget : ∀ (j : Nat) (u : Value), (olds ++ vs)[j]? = some u → us[j]? = some u := by
    intro j u hj
    have hlt := (List.getElem?_eq_some_iff.1 hj).1
    show ((olds ++ vs).toArray ++ Builtin.zeroCells z0.cells (C - (es.length + news.length)))[j]? = some u
    rw [Array.getElem?_append_left (by simpa using hlt)]
    simpa using hj
  have hd := h.drew
  have hlen2 : (es ++ news).length = es.length + news.length := by simp
  cases mt with
  | false =>
    obtain ⟨hle, hinv⟩ := hd.row us e ((es.length + news.length) * i.size) (by rw [hsize]; exact Nat.mul_le_mul_right _ hge) [] (fun j c hj => by simp at hj)
    refine ⟨_, _, _, hrun, hle, hinv, ?_⟩
    show Rep _ (.islice i.size (es ++ news) (.tok st.ctr)) _
    have key := rep_islice_row (agg := agg) (us := (olds ++ vs).toArray) (B := w.heap.size) (o := 0) (cap := C) (k := .tok st.ctr) hok hall hle (fun j u hj => ?_) (by rw [hlen2]; exact hge) ?_
    · rw [hlen2] at key; exact key
    · have hj' : (olds ++ vs)[j]? = some u := by simpa using hj
      have hlt := (List.getElem?_eq_some_iff.1 hj').1
      have : (olds ++ vs).length = (es.length + news.length) * i.size := by rw [← hpre]; simp
      simp only [G.row, Nat.zero_add]
      rw [if_pos (show w.heap.size = w.drew.heap.size from rfl), if_pos (by omega), hpget j u hj']
    · refine ⟨hd.row_ok _ _ _, by simp [G.row, h.n], by simp [G.row, h.n, hlen2], ?_⟩
      simp [G.row, h.n, hsize]
  | true =>
    obtain ⟨hle, hinv⟩ := hd.row us e 0 (Nat.zero_le _) (flatE (es ++ news)) (fun j c hj => by
      have hlt := (List.getElem?_eq_some_iff.1 hj).1
      have h1 : (olds ++ vs)[j]? = some ((olds ++ vs)[j]'(by rw [hall.1]; exact hlt)) := List.getElem?_eq_getElem _
      exact ⟨elems_cell hok c (List.mem_of_getElem? hj), _, by rw [Nat.zero_add]; exact hpget j _ h1, hall.2 j c _ hj h1⟩)
    refine ⟨_, _, _, hrun, hle, hinv, ?_⟩
    show Rep _ (.slice st.ctr 0 (es ++ news).length i.size none) _
    rw [hlen2]
    have hloc : (g.row w.drew.heap.size 0 us).loc st.ctr = (w.drew.heap.size, 0, us.size) := by simp [G.row, h.n]
    have := Rep.slice (g := g.row w.drew.heap.size 0 us) (s := st.ctr) (off := 0) (len := es.length + news.length) (sz := i.size) (cap := C) (kc := none) (hd.row_ok _ _ _) (fun k hk => by cases hk) hge h0
      (fun _ => by rw [hloc, hsize]; simp)
    rw [hloc] at this
    exact this

/-- a slice that grows -/
theorem grow_sound {base : Nat} {w0 : World} {g : G} {st : ASt} (h : SInv base w0 g st w) {t tx ty e : TypeId} {i : TypeInfo} {z : AVal} {agg mt : Bool} (hu : P.underlying t = some (.slice e)) (hi : P.info? e = some i) (hz : zeroA P e = some z)
    (h0 : 0 < i.size) (hb : i.bytes ≤ 4096) (hzok : elemOk agg i.size z = true) {bs : Option Addr} {sCap : Nat} {es news : List AVal} {olds vs : List Value} {q : Value}
    (hes : ∀ x ∈ es, elemOk agg i.size x = true) (hnews : ∀ x ∈ news, elemOk agg i.size x = true) (ho : Reps g (flatE es) olds) (hn : Reps g (flatE news) vs)
    (hold : (Builtin.firstCells i.size es.length (.slice bs es.length sCap)).run P w.drew = .ok olds.toArray w.drew) (hsrc : Src P i.size tx q news.length vs w) (hcap : sCap < es.length + news.length) (hmax : es.length + news.length ≤ 1073741824) :
    ∃ g' u w', (Builtin.append_ #[t, tx] ty #[.slice bs es.length sCap, q]).run P w = .ok u w' ∧ g.le g' ∧ SInv base w0 g' (grownA mt i.size (es ++ news) st).2 w' ∧ Rep g' (grownA mt i.size (es ++ news) st).1 u := by
  obtain ⟨i', z0, hi', hz0, habs⟩ := zeroA_inv hz
  rw [hi] at hi'
  cases hi'
  have hnext := nextslicecap_le hcap
  have hrun := run_append_grow_src (P := P) w t tx ty e i z0 hu hi hz0 bs es.length sCap olds hold q news.length vs hsrc hcap (by omega) (by
    calc Builtin.nextslicecap (es.length + news.length) sCap * i.bytes ≤ (2 * 1073741824) * 4096 := Nat.mul_le_mul (by omega) hb
      _ ≤ 281474976710656 := by omega)
  exact grow_core (tx := tx) h hu hi hz h0 hb hzok hes hnews ho hn hsrc.newsLen hz0 (grownCap_ge w _ _ _) hrun

/-- zero values, onto nothing -/
theorem appendZ_sound {base : Nat} {w0 : World} {g : G} {st st' : ASt} (h : SInv base w0 g st w) {mt : Bool} {t tx ty : TypeId} {s x v : AVal} {p q : Value} (hp : Rep g s p) (hq : Rep g x q) (ha : appendZ P mt t tx s x st = some (v, st')) :
    ∃ g' u w', (Builtin.append_ #[t, tx] ty #[p, q]).run P w = .ok u w' ∧ g.le g' ∧ SInv base w0 g' st' w' ∧ Rep g' v u := by
  unfold appendZ at ha
  split at ha
  · rename_i e he htx
    have hu := sliceElem_inv he
    split at ha
    · rename_i i agg z hi hagg hz
      split at ha
      · rename_i hcond
        obtain ⟨h0, hb, hzok⟩ := hcond
        split at ha
        · rename_i n
          split at ha
          · rename_i hn
            obtain ⟨hn0, hn1⟩ := hn
            have ha := Option.some.inj ha
            have a1 := congrArg Prod.fst ha
            have a2 := congrArg Prod.snd ha
            simp only at a1 a2
            subst a1
            subst a2
            have e1 := hp.flat
            have e2 := hq.flat
            subst e1
            subst e2
            obtain ⟨k, rfl⟩ := Int.eq_ofNat_of_zero_le (Int.le_of_lt hn0)
            obtain ⟨i', z0, hi', hz0, habs⟩ := zeroA_inv hz
            rw [hi] at hi'
            cases hi'
            obtain ⟨_, hcell, hr⟩ := absVal_rep (g := g) habs
            have hzs : z0.cells.size = i.size := by have := hr.1; have := elemOk_len hzok; simp at *; omega
            have hk0 : 0 < k := by omega
            have hcap : 0 < 0 + k := by omega
            have hnext := nextslicecap_le (need := 0 + k) (old := 0) hcap
            have hrun := Lib.run_append_grow_zeros (P := P) w t tx ty e i z0 .i64 .i64 hu htx hi hz0 none 0 0 [] (run_firstCells_none w.drew i.size 0 0 0) k hk0 h0 hcap (by omega)
              (by calc k * i.bytes ≤ 1073741824 * 4096 := Nat.mul_le_mul (by omega) hb
                _ ≤ 281474976710656 := by omega)
              (by calc Builtin.nextslicecap (0 + k) 0 * i.bytes ≤ (2 * 1073741824) * 4096 := Nat.mul_le_mul (by omega) hb
                _ ≤ 281474976710656 := by omega)
            have hreps : ∀ n : Nat, Reps g (flatE (List.replicate n z)) (Builtin.zeroCells z0.cells n).toList := by
              intro n
              have hzl : z.cells.length = i.size := elemOk_len hzok
              refine ⟨?_, fun j c u a b => ?_⟩
              · rw [Array.length_toList, zeroCells_size, hzs, elems_len (agg := agg) (sz := i.size) (fun x hx => by rw [(List.mem_replicate.1 hx).2]; exact hzok), List.length_replicate]
              · have hlt : j < n * i.size := by
                  have := (List.getElem?_eq_some_iff.1 a).1
                  rwa [elems_len (agg := agg) (sz := i.size) (fun x hx => by rw [(List.mem_replicate.1 hx).2]; exact hzok), List.length_replicate] at this
                have hm : j % i.size < i.size := Nat.mod_lt _ h0
                have hd : j / i.size < n := (Nat.div_lt_iff_lt_mul h0).2 hlt
                have hj : j / i.size * i.size + j % i.size = j := by rw [Nat.mul_comm]; exact Nat.div_add_mod j i.size
                have e3 := flatE_get (sz := i.size) (List.replicate n z) (j / i.size) (j % i.size) z (z.cells[j % i.size]'(by omega)) (fun y hy => by rw [(List.mem_replicate.1 hy).2]; exact hzl)
                  (by rw [List.getElem?_replicate, if_pos hd]) (List.getElem?_eq_getElem _)
                rw [hj, a] at e3
                have e3 := Option.some.inj e3
                have e4 : (Builtin.zeroCells z0.cells n).toList[j]? = some (z0.cells[j % z0.cells.size]!) := by
                  simp only [Builtin.zeroCells, Array.toList_map, Array.toList_range, List.getElem?_map]
                  rw [List.getElem?_range (by rw [hzs]; exact hlt)]; rfl
                rw [b] at e4
                have e4 := Option.some.inj e4
                subst e3
                rw [e4]
                have hmz : j % z0.cells.size < z0.cells.size := by rw [hzs]; exact hm
                refine hr.2 (j % i.size) _ _ (List.getElem?_eq_getElem _) ?_
                rw [getElem_bang_eq hmz, ← hzs, Array.getElem?_toList, Array.getElem?_eq_getElem hmz]
            have hcore := grow_core (P := P) (t := t) (tx := tx) (ty := ty) (mt := mt) h hu hi hz h0 hb hzok (bs := none) (sCap := 0) (es := []) (news := List.replicate k z) (olds := []) (vs := (Builtin.zeroCells z0.cells k).toList) (q := .int .i64 k) (fun x hx => by simp at hx)
              (fun x hx => by rw [(List.mem_replicate.1 hx).2]; exact hzok) ⟨rfl, fun j c u a b => by simp [flatE] at a⟩ (hreps k) (by rw [Array.length_toList, zeroCells_size, hzs, List.length_replicate]) hz0 (C := grownCap w (0 + k) 0 e) (by simpa using grownCap_ge w (0 + k) 0 e) (by simpa using hrun)
            simpa using hcore
          · cases ha
        · cases ha
      · cases ha
    · cases ha
  · cases ha

/-- what was read before is read still behind a draw -/
theorem firstCells_of {a : Addr} {sz n c : Nat} {us : List Value} (hl : us.length = n * sz) (h : ∀ (j : Nat) (v : Value), us[j]? = some v → w.cell? (a.add j) = some v) :
    (Builtin.firstCells sz n (.slice (some a) n c)).run P w.drew = .ok us.toArray w.drew :=
  run_firstCells_some w.drew sz n a n c us hl (by simpa using h)

theorem append0_sound {base : Nat} {w0 : World} {g : G} {st st' : ASt} (h : SInv base w0 g st w) {mt : Bool} {t tx ty : TypeId} {s x v : AVal} {p q : Value} (hp : Rep g s p) (hq : Rep g x q) (ha : appendA0 P mt t tx s x st = some (v, st')) :
    ∃ g' u w', (Builtin.append_ #[t, tx] ty #[p, q]).run P w = .ok u w' ∧ g.le g' ∧ SInv base w0 g' st' w' ∧ Rep g' v u := by
  unfold appendA0 at ha
  split at ha
  · rename_i e he
    have hu := sliceElem_inv he
    split at ha
    · rename_i i agg z hi hagg hz
      split at ha
      · rename_i hcond
        obtain ⟨h0, hbytes, hzok⟩ := hcond
        have hsz : szOf P e = some i.size := by simp [szOf, hi]
        split at ha
        · rename_i news hnews
          obtain ⟨vs, hsrc, hnr, hnok⟩ := src_sound (P := P) h hsz hagg hq hnews
          split at ha
          · -- nothing is appended
            rename_i hnil
            subst hnil
            have hvs : vs = [] := by have := hnr.1; simpa [flatE] using this
            subst hvs
            split at ha
            · cases ha
              have := hp.flat
              subst this
              exact ⟨g, _, w, run_append_nothing w t tx ty e i hu hi none 0 0 (Nat.le_refl _) q hsrc, G.le.refl g, h, hp⟩
            · cases ha
              obtain ⟨cap, B, o, f, rfl, hl, _⟩ := hp.islice_inv
              exact ⟨g, _, w, run_append_nothing w t tx ty e i hu hi _ _ _ hl q hsrc, G.le.refl g, h, hp⟩
            · cases ha
              obtain ⟨cap, rfl, _, _, hl, _⟩ := hp.slice_inv
              exact ⟨g, _, w, run_append_nothing w t tx ty e i hu hi _ _ _ hl q hsrc, G.le.refl g, h, hp⟩
            · cases ha
          · rename_i hnil
            have hpos : 0 < news.length := List.length_pos_iff.2 hnil
            split at ha
            · -- onto nothing
              split at ha
              · rename_i hmax
                have ha := Option.some.inj ha
                have a1 := congrArg Prod.fst ha
                have a2 := congrArg Prod.snd ha
                simp only at a1 a2
                subst a1
                subst a2
                have := hp.flat
                subst this
                have := grow_sound (P := P) (t := t) (tx := tx) (ty := ty) (mt := mt) h hu hi hz h0 hbytes hzok (bs := none) (sCap := 0) (es := []) (olds := []) (fun x hx => by simp at hx) hnok ⟨rfl, fun j c u a b => by simp at b⟩ hnr
                  (run_firstCells_none w.drew i.size 0 0 0) hsrc (by simpa using hpos) (by simpa using hmax)
                simpa using this
              · cases ha
            · -- onto what is never written again
              rename_i sz es k
              split at ha
              · rename_i hc
                obtain ⟨rfl, hok, hmax⟩ := hc
                have hok' : ∀ x ∈ es, elemOk agg i.size x = true := fun x hm => List.all_eq_true.1 hok x hm
                obtain ⟨cap, B, o, f, rfl, hl, hs1, hf, hf2, hcc, hk⟩ := hp.islice_inv
                obtain ⟨us, r1, r2⟩ := islice_flat (g := g) (B := B) (o := o) (f := f) es 0 hs1 (fun i e j c hi hj => by simpa using hf i e j c hi hj) (fun i e j c hi hj => by simpa using hf2 i e j c hi hj)
                have hread : ∀ (j : Nat) (v : Value), us[j]? = some v → w.cell? ((⟨B, o, none⟩ : Addr).add j) = some v := fun j v hj => by
                  rw [addr_add]
                  have := r2 j v hj
                  rw [Nat.zero_mul, Nat.zero_add] at this
                  exact h.fr _ _ _ this
                have hul : us.length = es.length * i.size := by rw [r1.1, elems_len hok']
                split at ha
                · -- no room
                  have ha := Option.some.inj ha
                  have a1 := congrArg Prod.fst ha
                  have a2 := congrArg Prod.snd ha
                  simp only at a1 a2
                  subst a1
                  subst a2
                  have hk' : cap = es.length := hk
                  subst hk'
                  exact grow_sound (P := P) (mt := mt) h hu hi hz h0 hbytes hzok hok' hnok r1 hnr (firstCells_of hul hread) hsrc (by omega) hmax
                · rename_i tk
                  split at ha
                  · cases ha
                  · split at ha
                    · rename_i cs0 htk
                      cases ha
                      obtain ⟨k1, k2, k3, k4⟩ := hk
                      rcases Nat.lt_or_ge cap (es.length + news.length) with hlt | hge
                      · have := grow_sound (P := P) (t := t) (tx := tx) (ty := ty) (mt := false) (h.kill tk) hu hi hz h0 hbytes hzok hok' hnok r1 hnr (firstCells_of hul hread) hsrc hlt hmax
                        exact this
                      · -- there is room
                        have hb := h.cells tk cs0 htk
                        have hvl : vs.length = news.length * i.size := hsrc.newsLen
                        have hfits : o + es.length * i.size + vs.length ≤ o + cap * i.size := by
                          rw [hvl, Nat.add_assoc, ← Nat.add_mul]
                          exact Nat.add_le_add_left (Nat.mul_le_mul_right _ hge) _
                        have hrun := run_append_room_src (P := P) w t tx ty e i hu hi B o es.length cap q news.length vs hsrc hge
                          (fun j hj => by have := hb.there (o + es.length * i.size + j) (by rw [k3]; omega) (by rw [k4]; omega); rwa [k2] at this)
                          (fun j hj => by have := hb.open_ (o + es.length * i.size + j) (by rw [k3]; omega) (by rw [k4]; omega); rwa [k2] at this)
                        have hthere : ∀ j, j < vs.length → (w.cell? ⟨B, o + es.length * i.size + j, none⟩).isSome = true := fun j hj => by
                          have := hb.there (o + es.length * i.size + j) (by rw [k3]; omega) (by rw [k4]; omega); rwa [k2] at this
                        have hin := World.cell?_setCells_in B vs (o + es.length * i.size) w hthere
                        obtain ⟨hle, hinv⟩ := h.re htk vs (o + es.length * i.size) (o + es.length * i.size + vs.length) (by rw [k3]; exact Nat.le_refl _) (by rw [k4]; exact hfits) (by rw [k3]; exact Nat.le_add_right _ _) (by rw [k4]; exact hfits)
                          (fun j => vs[j - (o + es.length * i.size)]?)
                          (fun j v h1 h2 hv => by
                            rw [k3] at h1
                            have hlt := (List.getElem?_eq_some_iff.1 hv).1
                            have := hin (j - (o + es.length * i.size)) hlt
                            rw [show o + es.length * i.size + (j - (o + es.length * i.size)) = j by omega] at this
                            rw [k2, this]
                            rw [List.getElem?_eq_getElem hlt] at hv
                            exact hv) [] (by rw [k4]; simpa using hfits) (fun j c hj => by simp at hj)
                        refine ⟨_, _, _, by rw [k2] at *; exact hrun, hle, by rw [k2] at hinv; simpa [k2] using hinv, ?_⟩
                        have hall : Reps g (flatE (es ++ news)) (us ++ vs) := by rw [flatE_append]; exact r1.append hnr
                        have hokall : ∀ x ∈ es ++ news, elemOk agg i.size x = true := fun x hx => (List.mem_append.1 hx).elim (hok' x) (hnok x)
                        show Rep _ (.islice i.size (es ++ news) (.tok st.ctr)) _
                        rw [← List.length_append]
                        refine rep_islice_row (agg := agg) (us := (us ++ vs).toArray) hokall hall hle (fun j u hj => ?_) (by rw [List.length_append]; exact hge) ?_
                        · have hj' : (us ++ vs)[j]? = some u := by simpa using hj
                          rw [List.getElem?_append] at hj'
                          split at hj'
                          · have := r2 j u hj'
                            rw [Nat.zero_mul, Nat.zero_add] at this
                            exact hle.frozen _ _ _ this
                          · rename_i hjn
                            have hlt := (List.getElem?_eq_some_iff.1 hj').1
                            simp only [G.re]
                            rw [if_pos ⟨k2.symm, by rw [k3]; omega, by rw [k4]; omega⟩, if_pos (by omega)]
                            rw [show o + j - (o + es.length * i.size) = j - us.length by omega, hj']
                        · refine ⟨h.re_ok _ _ _, by simp [G.re, h.n, k2], ?_, by simp [G.re, h.n, k4]⟩
                          simp only [G.re, h.n, if_true, List.length_append]
                          rw [hvl, Nat.add_mul]
                          omega
                    · cases ha
                · cases ha
              · cases ha
            · -- onto a block
              rename_i s0 off len sz cap
              split at ha
              · rename_i hc
                obtain ⟨rfl, hmax⟩ := hc
                split at ha
                · rename_i cs hcs
                  split at ha
                  · rename_i es hch
                    split at ha
                    · rename_i hok
                      have hok' : ∀ x ∈ es, elemOk agg i.size x = true := fun x hm => List.all_eq_true.1 hok x hm
                      obtain ⟨i1, us, r1, r2, r3⟩ := slice_cells h hp hcs hsz hagg hch hok'
                      obtain ⟨cap', rfl, hsn, hkc, hl, hz0, hx0⟩ := hp.slice_inv
                      have hb := h.cells s0 cs hcs
                      subst i1
                      have hread : ∀ (j : Nat) (v : Value), us[j]? = some v → w.cell? ((⟨(g.loc s0).1, (g.loc s0).2.1 + off, none⟩ : Addr).add j) = some v := fun j v hj => by rw [addr_add]; exact r3 j v hj
                      split at ha
                      · -- nothing is known of the capacity
                        cases ha
                        rcases Nat.lt_or_ge cap' (es.length + news.length) with hlt | hge
                        · exact grow_sound (P := P) (t := t) (tx := tx) (ty := ty) (mt := true) (h.kill s0) hu hi hz h0 hbytes hzok hok' hnok r1 hnr (firstCells_of r2 hread) hsrc hlt hmax
                        · have hvl : vs.length = news.length * i.size := hsrc.newsLen
                          have hend := hx0 rfl
                          have hfits : (g.loc s0).2.1 + off + es.length * i.size + vs.length ≤ (g.loc s0).2.2 := by
                            rw [← hend, hvl, Nat.add_assoc _ (es.length * i.size), ← Nat.add_mul]
                            exact Nat.add_le_add_left (Nat.mul_le_mul_right _ hge) _
                          have hrun := run_append_room_src (P := P) w t tx ty e i hu hi (g.loc s0).1 ((g.loc s0).2.1 + off) es.length cap' q news.length vs hsrc hge
                            (fun j hj => hb.there _ (by omega) (by omega)) (fun j hj => hb.open_ _ (by omega) (by omega))
                          have hin := World.cell?_setCells_in (g.loc s0).1 vs ((g.loc s0).2.1 + off + es.length * i.size) w (fun j hj => hb.there _ (by omega) (by omega))
                          have hokall : ∀ x ∈ es ++ news, elemOk agg i.size x = true := fun x hx => (List.mem_append.1 hx).elim (hok' x) (hnok x)
                          have hlen : (flatE (es ++ news)).length = (es.length + news.length) * i.size := by rw [elems_len hokall, List.length_append]
                          have hall : Reps g (flatE (es ++ news)) (us ++ vs) := by rw [flatE_append]; exact r1.append hnr
                          obtain ⟨hle, hinv⟩ := h.re hcs vs ((g.loc s0).2.1 + off + es.length * i.size) ((g.loc s0).2.1 + off) (by omega) hfits (by omega) (by omega) (fun _ => none) (fun j v _ _ hv => by cases hv) (flatE (es ++ news))
                            (by rw [hlen, Nat.add_mul]; omega) (fun j c hj => by
                              refine ⟨elems_cell hokall c (List.mem_of_getElem? hj), ?_⟩
                              have hlt := (List.getElem?_eq_some_iff.1 hj).1
                              have h1 : (us ++ vs)[j]? = some ((us ++ vs)[j]'(by rw [hall.1]; exact hlt)) := List.getElem?_eq_getElem _
                              refine ⟨_, ?_, hall.2 j c _ hj h1⟩
                              generalize (us ++ vs)[j]'(by rw [hall.1]; exact hlt) = u at h1
                              rw [List.getElem?_append] at h1
                              split at h1
                              · rename_i hjl
                                rw [World.cell?_setCells_out _ _ _ _ _ (fun _ _ => .inl (by simp only; omega))]
                                exact r3 j u h1
                              · rename_i hjl
                                have hlt2 := (List.getElem?_eq_some_iff.1 h1).1
                                have := hin (j - us.length) hlt2
                                rw [show (g.loc s0).2.1 + off + es.length * i.size + (j - us.length) = (g.loc s0).2.1 + off + j by omega] at this
                                rw [this, ← List.getElem?_eq_getElem hlt2]
                                exact h1)
                          refine ⟨_, _, _, hrun, hle, hinv, ?_⟩
                          show Rep _ (.slice st.ctr 0 (es ++ news).length i.size none) _
                          rw [List.length_append]
                          have hloc : (g.re s0 ((g.loc s0).2.1 + off) (fun _ => none)).loc st.ctr = ((g.loc s0).1, (g.loc s0).2.1 + off, (g.loc s0).2.2) := by simp [G.re, h.n]
                          have := Rep.slice (g := g.re s0 ((g.loc s0).2.1 + off) (fun _ => none)) (s := st.ctr) (off := 0) (len := es.length + news.length) (sz := i.size) (cap := cap') (kc := none) (h.re_ok _ _ _) (fun k hk => by cases hk) hge h0
                            (fun _ => by rw [hloc]; simpa using hend)
                          rw [hloc] at this
                          exact this
                      · rename_i c
                        have hcc := hkc c rfl
                        subst hcc
                        split at ha
                        · rename_i hroom
                          split at ha
                          · rename_i hin
                            cases ha
                            have hvl : vs.length = news.length * i.size := hsrc.newsLen
                            have hfit := hb.fits
                            have hle2 : off + es.length * i.size + vs.length ≤ cs.length := by rw [hvl, Nat.add_assoc, ← Nat.add_mul]; exact hin
                            have hrun := run_append_room_src (P := P) w t tx ty e i hu hi (g.loc s0).1 ((g.loc s0).2.1 + off) es.length cap' q news.length vs hsrc hroom
                              (fun j hj => hb.there _ (by omega) (by omega)) (fun j hj => hb.open_ _ (by omega) (by omega))
                            have hst := store_many (g := g) (flatE news) vs cs (off + es.length * i.size) st w h hcs (by rw [← hnr.1]; omega) (elems_cell hnok) hnr
                            refine ⟨g, _, _, hrun, G.le.refl g, by rw [Nat.add_assoc (g.loc s0).2.1]; exact hst, ?_⟩
                            exact .slice hsn (fun k hk => by cases hk; rfl) hroom hz0 (fun hk => by cases hk)
                          · cases ha
                        · rename_i hroom
                          have ha := Option.some.inj ha
                          have a1 := congrArg Prod.fst ha
                          have a2 := congrArg Prod.snd ha
                          simp only at a1 a2
                          subst a1
                          subst a2
                          exact grow_sound (P := P) (mt := mt) h hu hi hz h0 hbytes hzok hok' hnok r1 hnr (firstCells_of r2 hread) hsrc (by omega) hmax
                    · cases ha
                  · cases ha
                · cases ha
              · cases ha
            · cases ha
        · cases ha
      · cases ha
    · cases ha
  · cases ha


theorem append_sound {base : Nat} {w0 : World} {g : G} {st st' : ASt} (h : SInv base w0 g st w) {mt : Bool} {t tx ty : TypeId} {s x v : AVal} {p q : Value} (hp : Rep g s p) (hq : Rep g x q) (ha : appendA P mt t tx s x st = some (v, st')) :
    ∃ g' u w', (Builtin.append_ #[t, tx] ty #[p, q]).run P w = .ok u w' ∧ g.le g' ∧ SInv base w0 g' st' w' ∧ Rep g' v u := by
  unfold appendA at ha
  split at ha
  · rename_i r hr
    cases ha
    exact append0_sound h hp hq hr
  · exact appendZ_sound h hp hq ha

end
end Go.Proofs.YtpgcbmmifmnfpaaDoorA

/- Operations on values without addresses, conversions, lengths. No condition. -/
namespace Go.Proofs.YtpgcbmmifmnfpaaDoorA
open Go Go.RowKit
set_option linter.unusedVariables false
set_option linter.unusedSimpArgs false

/-! ### values without addresses -/
def valL : List AVal → Option (List Value)
  | [] => some []
  | .lit v :: r => (valL r).map (v :: ·)
  | _ :: _ => none

def valOf : AVal → Option Value
  | .lit v => some v
  | .agg cs => (valL cs).map fun l => .agg l.toArray
  | .tuple [] => some (.tuple #[])
  | .iface t v => (valOf v).map (.iface t)
  | _ => none

def absOf : Value → Option AVal
  | .agg cs => if cs.toList.all flat then some (.agg (cs.toList.map .lit)) else none
  | .tuple ⟨[]⟩ => some (.tuple [])
  | v => if flat v then some (.lit v) else none

theorem valL_rep {g : G} : ∀ (cs : List AVal) (us l : List Value), Reps g cs us → valL cs = some l → us = l
  | [], us, l, h, hv => by
    cases hv
    have := h.1
    simpa using this
  | .lit v :: r, us, l, h, hv => by
    obtain ⟨hl, hat⟩ := h
    match us, hl, hat with
    | u :: us, hl, hat =>
      simp only [valL] at hv
      cases hr : valL r with
      | none => rw [hr] at hv; cases hv
      | some l' =>
        rw [hr] at hv
        cases hv
        have h1 := (hat 0 _ u rfl rfl).flat
        have h2 := valL_rep r us l' ⟨by simpa using hl, fun j c u a b => hat (j + 1) c u (by simpa using a) (by simpa using b)⟩ hr
        rw [h1, h2]
  | .agg _ :: _, _, _, _, hv | .tuple _ :: _, _, _, _, hv | .ptr .. :: _, _, _, _, hv | .iptr _ :: _, _, _, _, hv | .slice .. :: _, _, _, _, hv | .islice .. :: _, _, _, _, hv | .map _ :: _, _, _, _, hv | .func .. :: _, _, _, _, hv
  | .iface .. :: _, _, _, _, hv => by cases hv

theorem valOf_rep {g : G} : ∀ {a : AVal} {u v : Value}, Rep g a u → valOf a = some v → u = v
  | .lit _, _, _, h, hv => by cases hv; exact h.flat
  | .agg cs, _, _, h, hv => by
    obtain ⟨us, rfl, hr, _⟩ := h.agg_inv
    simp only [valOf] at hv
    cases hl : valL cs with
    | none => rw [hl] at hv; cases hv
    | some l =>
      rw [hl] at hv
      cases hv
      rw [← valL_rep cs us.toList l hr hl]
  | .tuple [], _, _, h, hv => by
    cases hv
    cases h
    rename_i us hl _
    have : us = #[] := by simpa using hl
    rw [this]
  | .tuple (_ :: _), _, _, h, hv => by cases hv
  | .iface t a, _, _, h, hv => by
    simp only [valOf] at hv
    cases hl : valOf a with
    | none => rw [hl] at hv; cases hv
    | some l =>
      rw [hl] at hv
      cases hv
      cases h
      rename_i hr
      rw [valOf_rep hr hl]
  | .ptr .., _, _, h, hv | .iptr _, _, _, h, hv | .slice .., _, _, h, hv | .islice .., _, _, h, hv | .map _, _, _, h, hv | .func .., _, _, h, hv => by cases hv

theorem absOf_rep {g : G} {v : Value} {a : AVal} (h : absOf v = some a) : Rep g a v := by
  unfold absOf at h
  split at h
  · rename_i cs
    split at h
    · rename_i hf
      cases h
      have hr := reps_lits (g := g) hf
      exact .agg (by simp) (fun j c u a b => hr.2 j c u a (by simpa using b)) (fun c hc => by obtain ⟨u, _, rfl⟩ := List.mem_map.1 hc; rfl)
    · cases h
  · cases h; exact .tuple (by simp) (fun j c u a b => by simp at a)
  · split at h
    · rename_i hf
      cases h
      exact .lit hf
    · cases h

/-- what a computation answers that asks nothing but the program -/
def pureRun {α : Type} (P : Program) : Sem α → Option α
  | .pure a => some a
  | .program k => pureRun P (k P)
  | .mark _ k => pureRun P k
  | _ => none

theorem pureRun_run {α : Type} {P : Program} : ∀ (s : Sem α) (a : α), pureRun P s = some a → ∀ w, s.run P w = .ok a w
  | .pure b, a, h, w => by cases h; rfl
  | .program k, a, h, w => by
    have := pureRun_run (k P) a h w
    simpa [Sem.run] using this
  | .mark m k, a, h, w => by
    have := pureRun_run k a h w
    simpa [Sem.run] using this
  | .load .., a, h, w | .store .., a, h, w | .new .., a, h, w | .shape .., a, h, w | .freeze .., a, h, w | .frozen .., a, h, w | .getObj .., a, h, w | .setObj .., a, h, w | .choose .., a, h, w | .sys .., a, h, w | .halt _, a, h, w => by cases h

def pureV (P : Program) (s : Sem Value) : Option AVal := (pureRun P s).bind absOf

theorem pureV_sound {P : Program} {g : G} {w : World} {s : Sem Value} {a : AVal} (h : pureV P s = some a) : ∃ u, s.run P w = .ok u w ∧ Rep g a u := by
  unfold pureV at h
  cases hr : pureRun P s with
  | none => rw [hr] at h; cases h
  | some u =>
    rw [hr] at h
    exact ⟨u, pureRun_run s u hr w, absOf_rep h⟩

/-! ### the binary ones -/
/-- one side is nil, the other isn't -/
def nilEq (d : TypeDesc) (x y : AVal) : Bool :=
  match d, x, y with
  | .slice _, .lit (.slice none 0 0), .islice .. | .slice _, .islice .., .lit (.slice none 0 0) | .slice _, .lit (.slice none 0 0), .slice .. | .slice _, .slice .., .lit (.slice none 0 0) => true
  | .pointer _, .lit (.pointer none), .ptr .. | .pointer _, .ptr .., .lit (.pointer none) | .pointer _, .lit (.pointer none), .iptr .. | .pointer _, .iptr .., .lit (.pointer none) => true
  | .map _ _, .lit (.map none), .map _ | .map _ _, .map _, .lit (.map none) => true
  | .func _ _ _, .lit .nilFunc, .func .. | .func _ _ _, .func .., .lit .nilFunc => true
  | .interface _, .lit .nilIface, .iface .. | .interface _, .iface .., .lit .nilIface => true
  | _, _, _ => false

/-- two fields, two structs: are they the same? -/
def eqCell (P : Program) (t : TypeId) (x y : AVal) : Option Bool :=
  match P.underlying t, x, y with
  | some (.int _), .lit (.int k a), .lit (.int k' b) => if k = k' then some (a == b) else none
  | some .bool, .lit (.bool a), .lit (.bool b) => some (a == b)
  | some .string, .lit (.string a), .lit (.string b) => some (a.toList == b.toList)
  | some (.complex _), .lit (.complex k a b), .lit (.complex k' c d) => if k = k' then some (Op.floatEq k a c && Op.floatEq k b d) else none
  | _, _, _ => none
/-- types of one cell that are compared here -/
def plainCell (P : Program) (t : TypeId) : Bool :=
  match P.underlying t with
  | some .bool | some (.int _) | some .string | some (.complex _) => true
  | _ => false
theorem run_part_cell {P : Program} (w : World) {e : TypeId} (he : plainCell P e = true) {xs : Array Value} {off : Nat} {v : Value} (hx : xs[off]? = some v) : (part e xs off).run P w = .ok v w := by
  unfold plainCell at he
  cases hu : P.underlying e with
  | none => simp [hu] at he
  | some d => cases d <;> simp [hu] at he <;> simp [part, isAgg, run_underlying hu, hx]
def eqFldA (P : Program) : List Field → List AVal → List AVal → Option Bool
  | [], _, _ => some true
  | f :: fs, xs, ys => if f.name = "_" ∨ plainCell P f.type = false then none else
    match xs[f.offset]?, ys[f.offset]? with
    | some a, some b => match eqCell P f.type a b, eqFldA P fs xs ys with
      | some r, some q => some (r && q)
      | _, _ => none
    | _, _ => none
def eqAggA (P : Program) (t : TypeId) (x y : AVal) : Option Bool :=
  match x, y with
  | .agg xs, .agg ys => match P.underlying t with
    | some (.struct _) => if P.stoodInHeld t = false ∧ P.eqGuardType P.depth t = false then eqFldA P (P.fieldsOf t).toList xs ys else none
    | _ => none
  | _, _ => none

theorem eqCell_sound {P : Program} {g : G} {t : TypeId} {x y : AVal} {a b : Value} {r : Bool} (w : World) (d : Nat) (hx : Rep g x a) (hy : Rep g y b) (h : eqCell P t x y = some r) : (Op.equalIn (d + 1) t a b).run P w = .ok r w := by
  unfold eqCell at h
  split at h
  · rename_i k' k n k2 m hu
    split at h
    · rename_i hk
      subst hk
      cases h
      cases hx
      cases hy
      exact run_equalIn_int w d t _ _ _ _ hu
    · cases h
  · rename_i hu
    cases h
    cases hx
    cases hy
    exact run_equalIn_bool' w d t _ _ hu
  · rename_i hu
    cases h
    cases hx
    cases hy
    exact run_equalIn_string w d t _ _ hu
  · rename_i k' k a b k2 c e hu
    split at h
    · rename_i hk
      subst hk
      cases h
      cases hx
      cases hy
      simp [Op.equalIn, run_underlying hu]
    · cases h
  · cases h

theorem eqFldA_sound {P : Program} {g : G} {w : World} (d : Nat) {xs ys : List AVal} {us vs : Array Value} (hx : Reps g xs us.toList) (hy : Reps g ys vs.toList) : ∀ (fs : List Field) (r : Bool), eqFldA P fs xs ys = some r →
    (Op.eqFields (d + 1) us vs fs).run P w = .ok r w
  | [], r, h => by
    cases h
    rfl
  | f :: fs, r, h => by
    unfold eqFldA at h
    split at h
    · cases h
    · rename_i hn
      have hn1 : f.name ≠ "_" := fun e => hn (.inl e)
      have hn2 : plainCell P f.type = true := by
        cases e : plainCell P f.type with
        | true => rfl
        | false => exact absurd (.inr e) hn
      split at h
      · rename_i a b ha hb
        split at h
        · rename_i r1 q1 hr hq
          cases h
          have la : f.offset < us.toList.length := by rw [hx.1]; exact (List.getElem?_eq_some_iff.1 ha).1
          have lb : f.offset < vs.toList.length := by rw [hy.1]; exact (List.getElem?_eq_some_iff.1 hb).1
          have ga : us.toList[f.offset]? = some us.toList[f.offset] := List.getElem?_eq_getElem la
          have gb : vs.toList[f.offset]? = some vs.toList[f.offset] := List.getElem?_eq_getElem lb
          have p1 := run_part_cell (P := P) w hn2 (xs := us) (off := f.offset) (v := us.toList[f.offset]) (by rw [← Array.getElem?_toList]; exact ga)
          have p2 := run_part_cell (P := P) w hn2 (xs := vs) (off := f.offset) (v := vs.toList[f.offset]) (by rw [← Array.getElem?_toList]; exact gb)
          have p3 := eqCell_sound (P := P) w d (hx.2 _ _ _ ha ga) (hy.2 _ _ _ hb gb) hr
          have ih := eqFldA_sound (w := w) d hx hy fs q1 hq
          simp only [Op.eqFields, hn1, ne_eq, not_false_eq_true, if_true, Sem.run_bind, p1, p2, p3, Result.andThen_ok]
          cases r1
          · simp
          · simpa using ih
        · cases h
      · cases h

theorem eqAggA_sound {P : Program} {g : G} {w : World} {t : TypeId} {x y : AVal} {a b : Value} {r : Bool} (hx : Rep g x a) (hy : Rep g y b) (h : eqAggA P t x y = some r) :
    (∀ xo yo op, (eqGuard op t xo yo a b).run P w = .ok () w) ∧ (binOp .eql t a b).run P w = .ok (.bool r) w ∧ (binOp .neq t a b).run P w = .ok (.bool (!r)) w := by
  unfold eqAggA at h
  split at h
  · rename_i xs ys
    split at h
    · rename_i fs hu
      split at h
      · rename_i hg
        obtain ⟨us, rfl, hr, _⟩ := hx.agg_inv
        obtain ⟨vs, rfl, hs, _⟩ := hy.agg_inv
        have hu' : P.underlying t = some (.struct (P.fieldsOf t)) := by simp [Program.fieldsOf, hu]
        have key := eqFldA_sound (P := P) (w := w) 9998 hr hs _ r h
        have e : (Op.equalIn 10000 t (.agg us) (.agg vs)).run P w = .ok r w := by
          rw [show 10000 = 9999 + 1 from rfl, run_equalIn_struct w 9999 t us vs hu' hg.1]
          exact key
        refine ⟨fun xo yo op => run_eqGuard_agg w op t xo yo us vs hg.2, ?_, ?_⟩
        · rw [run_eql_struct, e]; rfl
        · rw [run_neq_struct, e]; rfl
      · cases h
    · cases h
  · cases h

def binA (P : Program) (op : BinOp) (t : TypeId) (xo yo : Operand) (x y : AVal) : Option AVal :=
  match eqAggA P t x y with
  | some r => (match op with
    | .eql => some (.bool r)
    | .neq => some (.bool (!r))
    | _ => none)
  | none => match valOf x, valOf y with
  | some a, some b => pureV P (do eqGuard op t xo yo a b; binOp op t a b)
  | _, _ => match P.underlying t with
    | some d => if nilEq d x y = true then (match op with
        | .eql => some (.bool false)
        | .neq => some (.bool true)
        | _ => none) else none
    | none => none

theorem equal_deep {P : Program} {w : World} {t : TypeId} {a b : Value} {r : Bool} (h : ∀ d, (Op.equalIn (d + 1) t a b).run P w = .ok r w) : (Op.equal t a b).run P w = .ok r w := by
  unfold Op.equal
  exact h 9999

theorem nilEq_sound {P : Program} {g : G} {w : World} {d : TypeDesc} {t : TypeId} {x y : AVal} {a b : Value} (hd : P.underlying t = some d) (hx : Rep g x a) (hy : Rep g y b) (h : nilEq d x y = true) :
    (∀ xo yo op, (eqGuard op t xo yo a b).run P w = .ok () w) ∧ (binOp .eql t a b).run P w = .ok (.bool false) w ∧ (binOp .neq t a b).run P w = .ok (.bool true) w := by
  have key : ∀ {a b : Value}, (∀ xo yo op, eqGuard op t xo yo a b = (if !(op matches .eql | .neq) then pure () else pure ())) → (binOp .eql t a b = do pure (.bool (← Op.equal t a b))) → (binOp .neq t a b = do pure (.bool (!(← Op.equal t a b)))) →
      (Op.equal t a b).run P w = .ok false w → (∀ xo yo op, (eqGuard op t xo yo a b).run P w = .ok () w) ∧ (binOp .eql t a b).run P w = .ok (.bool false) w ∧ (binOp .neq t a b).run P w = .ok (.bool true) w := by
    intro a b h1 h2 h3 h4
    refine ⟨fun xo yo op => by rw [h1]; split <;> rfl, by rw [h2]; simp [h4], by rw [h3]; simp [h4]⟩
  unfold nilEq at h
  split at h <;> first
    | cases h; done
    | skip
  all_goals
    cases hx
    cases hy
    first
      | (refine key (fun xo yo op => ?_) rfl rfl ?_
         · unfold eqGuard; cases op <;> rfl
         · exact equal_deep (fun d => by simp [Op.equalIn, run_underlying_of hd]))
      | skip

end Go.Proofs.YtpgcbmmifmnfpaaDoorA

/- Strings and bytes, lengths; every operation by its name. No condition. -/
namespace Go.Proofs.YtpgcbmmifmnfpaaDoorA
open Go Go.RowKit
set_option linter.unusedVariables false
set_option linter.unusedSimpArgs false

/-! ### strings and bytes -/
def byteT (P : Program) (e : TypeId) : Bool :=
  match P.underlying e with
  | some (.int .u8) => true
  | _ => false

def bytesA (mt : Bool) (s : ByteArray) (st : ASt) : AVal × ASt := grownA mt 1 (s.data.toList.map byteA) st

def byteOfA : AVal → Option UInt8
  | .lit (.int .u8 n) => if n = (UInt8.ofNat n.toNat).toNat then some (UInt8.ofNat n.toNat) else none
  | _ => none
def bytesOf : List AVal → Option (List UInt8)
  | [] => some []
  | v :: r => match byteOfA v, bytesOf r with
    | some b, some l => some (b :: l)
    | _, _ => none

def convA (P : Program) (mt : Bool) (src dst : TypeId) (x : AVal) (st : ASt) : Option (AVal × ASt) :=
  match valOf x with
  | some v => match pureV P (convert src dst v) with
    | some a => some (a, st)
    | none => match v, P.underlying src, P.underlying dst with
      | .string s, some .string, some (.slice e) => if byteT P e = true then some (bytesA mt s st) else none
      | _, _, _ => none
  | none => match P.underlying src, P.underlying dst, x with
    | some (.slice e), some .string, .islice 1 es _ => if byteT P e = true then (bytesOf es).map fun l => (.lit (.string ⟨l.toArray⟩), st) else none
    | some (.slice e), some .string, .slice s off len 1 _ => if byteT P e = true then (match st.heap s with
        | some (.cells cs) => if off + len ≤ cs.length then (bytesOf ((cs.drop off).take len)).map fun l => (.lit (.string ⟨l.toArray⟩), st) else none
        | _ => none) else none
    | some (.slice e), some (.slice e'), .slice s off len sz k => if src == dst && byteT P e' then (match st.heap s with
        | some (.cells _) => some (.slice s off len sz k, st)
        | _ => none) else none
    | _, _, _ => none

section
variable {P : Program} {w : World}

theorem byteT_inv {e : TypeId} (h : byteT P e = true) : P.underlying e = some (.int .u8) := by
  unfold byteT at h
  split at h
  · assumption
  · cases h

theorem bytesOf_reps {g : G} : ∀ (es : List AVal) (us : List Value) (l : List UInt8), Reps g es us → bytesOf es = some l → l.length = us.length ∧ ∀ j (hj : j < l.length), us[j]? = some (.int .u8 (l[j].toNat : Int))
  | [], us, l, h, hl => by
    have : us = [] := by have := h.1; simpa using this
    subst this
    cases hl
    exact ⟨rfl, fun j hj => by simp at hj⟩
  | v :: r, us, l, h, hl => by
    obtain ⟨hlen, hat⟩ := h
    match us, hlen, hat with
    | u :: us, hlen, hat =>
      unfold bytesOf at hl
      split at hl
      · rename_i b l' hb hr
        cases hl
        obtain ⟨i1, i2⟩ := bytesOf_reps r us l' ⟨by simpa using hlen, fun j c u a b => hat (j + 1) c u (by simpa using a) (by simpa using b)⟩ hr
        refine ⟨by simp [i1], fun j hj => ?_⟩
        cases j with
        | zero =>
          unfold byteOfA at hb
          split at hb
          · split at hb
            · rename_i hn
              cases hb
              have hu := (hat 0 _ u rfl rfl).flat
              rw [hu]
              simp only [List.getElem?_cons_zero, List.getElem_cons_zero]
              rw [← hn]
            · cases hb
          · cases hb
        | succ j => simpa using i2 j (by simpa using hj)
      · cases hl

theorem cells1 {v : AVal} (h : v.cells.length = 1) (hc : ∀ c ∈ v.cells, c.isCell = true) {b : UInt8} (hb : byteOfA v = some b) : v.cells = [v] := by
  cases v <;> first | rfl | (simp [byteOfA] at hb)

theorem bytesOf_flat : ∀ (es : List AVal) (l : List UInt8), bytesOf es = some l → flatE es = es
  | [], l, h => rfl
  | v :: r, l, h => by
    unfold bytesOf at h
    split at h
    · rename_i b l' hb hr
      have h1 : v.cells = [v] := by cases v <;> first | rfl | (simp [byteOfA] at hb)
      have h2 := bytesOf_flat r l' hr
      simp only [flatE, List.flatMap_cons] at h2 ⊢
      rw [h1, h2]
      rfl
    · cases h

theorem bytesRow_get (s : ByteArray) (n : Nat) (j : Nat) (h : j < s.size) : (bytesRow s n)[j]? = (byteCells s)[j]? := by
  unfold bytesRow byteCells
  rw [Array.getElem?_append_left (by simpa using h)]
  simp

theorem bytesRow_size (s : ByteArray) (n : Nat) : (bytesRow s n).size = s.size + (n - s.size) := by
  unfold bytesRow
  simp

theorem conv_sound {base : Nat} {w0 : World} {g : G} {st st' : ASt} (h : SInv base w0 g st w) {mt : Bool} {src dst : TypeId} {x v : AVal} {q : Value} (hq : Rep g x q) (hc : convA P mt src dst x st = some (v, st')) :
    ∃ g' u w', (convert src dst q).run P w = .ok u w' ∧ g.le g' ∧ SInv base w0 g' st' w' ∧ Rep g' v u := by
  unfold convA at hc
  split at hc
  · rename_i v0 hv0
    have := valOf_rep hq hv0
    subst this
    split at hc
    · rename_i a ha
      cases hc
      obtain ⟨u, h1, h2⟩ := pureV_sound (w := w) ha
      exact ⟨g, u, w, h1, G.le.refl g, h, h2⟩
    · split at hc
      · rename_i s e hs hd hno
        split at hc
        · rename_i he
          have he' := byteT_inv he
          have hc := Option.some.inj hc
          have a1 := congrArg Prod.fst hc
          have a2 := congrArg Prod.snd hc
          simp only at a1 a2
          subst a1
          subst a2
          have hrun := run_bytes_of_string (P := P) w src dst e s hs hd he'
          generalize hC : grownCap w s.size 0 e = C at *
          have hge : s.size ≤ C := by rw [← hC]; exact grownCap_ge w _ _ _
          have hsize : (bytesRow s C).size = C := by rw [bytesRow_size]; omega
          have hlen : (s.data.toList.map byteA).length = s.size := by simp
          have hall : Reps g (flatE (s.data.toList.map byteA)) (byteCells s) := by
            rw [flatE_bytes]
            exact reps_lits (List.all_eq_true.2 fun u hu => by obtain ⟨b, _, rfl⟩ := List.mem_map.1 hu; rfl)
          have hok : ∀ x ∈ s.data.toList.map byteA, elemOk false 1 x = true := fun x hx => by obtain ⟨b, _, rfl⟩ := List.mem_map.1 hx; rfl
          have hd := h.drew
          unfold bytesA grownA
          cases mt with
          | false =>
            obtain ⟨hle, hinv⟩ := hd.rowM (bytesRow s C) e (bytesRow s C).size ((bytesRow s C).size + 1) (.inr (Nat.le_refl _)) s.size (by rw [hsize]; exact hge) [] (fun j c hj => by simp at hj)
            refine ⟨_, _, _, hrun, hle, hinv, ?_⟩
            have key := rep_islice_row (agg := false) (us := (byteCells s).toArray) (B := w.heap.size) (o := 0) (cap := C) (k := .tok st.ctr) hok (by simpa using hall) hle (fun j u hj => ?_) (by rw [hlen]; exact hge) ?_
            · rw [hlen] at key; exact key
            · have hj' : (byteCells s)[j]? = some u := by simpa using hj
              have hlt : j < s.size := by have := (List.getElem?_eq_some_iff.1 hj').1; rwa [byteCells_length] at this
              simp only [G.row, Nat.zero_add]
              rw [if_pos (show w.heap.size = w.drew.heap.size from rfl), if_pos hlt, bytesRow_get s C j hlt, hj']
            · refine ⟨hd.row_ok _ _ _, by simp [G.row, h.n], ?_, ?_⟩
              · rw [hlen]; simp [G.row, h.n]
              · simp [G.row, h.n, hsize]
          | true =>
            obtain ⟨hle, hinv⟩ := hd.rowM (bytesRow s C) e (bytesRow s C).size ((bytesRow s C).size + 1) (.inr (Nat.le_refl _)) 0 (Nat.zero_le _) (flatE (s.data.toList.map byteA)) (fun j c hj => by
              have hlt := (List.getElem?_eq_some_iff.1 hj).1
              have hl2 := hall.1
              have h1 : (byteCells s)[j]? = some ((byteCells s)[j]'(by rw [hl2]; exact hlt)) := List.getElem?_eq_getElem _
              exact ⟨elems_cell hok c (List.mem_of_getElem? hj), _, by rw [Nat.zero_add, bytesRow_get s C j (by rw [byteCells_length] at hl2; omega)]; exact h1, hall.2 j c _ hj h1⟩)
            refine ⟨_, _, _, hrun, hle, hinv, ?_⟩
            show Rep _ (.slice st.ctr 0 (s.data.toList.map byteA).length 1 none) _
            rw [hlen]
            have hloc : (g.row w.drew.heap.size 0 (bytesRow s C)).loc st.ctr = (w.drew.heap.size, 0, (bytesRow s C).size) := by simp [G.row, h.n]
            have := Rep.slice (g := g.row w.drew.heap.size 0 (bytesRow s C)) (s := st.ctr) (off := 0) (len := s.size) (sz := 1) (cap := C) (kc := none) (hd.row_ok _ _ _) (fun k hk => by cases hk) hge (by omega)
              (fun _ => by rw [hloc, hsize]; simp)
            rw [hloc] at this
            exact this
        · cases hc
      · cases hc
  · split at hc
    · rename_i e es k hs hd hno
      split at hc
      · rename_i he
        have he' := byteT_inv he
        cases hl : bytesOf es with
        | none => rw [hl] at hc; cases hc
        | some l =>
          rw [hl] at hc
          cases hc
          obtain ⟨cap, B, o, f, rfl, hl0, hs1, hf, hf2, hcc, hk⟩ := hq.islice_inv
          obtain ⟨us, r1, r2⟩ := islice_flat (g := g) (B := B) (o := o) (f := f) es 0 hs1 (fun i e j c hi hj => by simpa using hf i e j c hi hj) (fun i e j c hi hj => by simpa using hf2 i e j c hi hj)
          rw [bytesOf_flat es l hl] at r1
          obtain ⟨b1, b2⟩ := bytesOf_reps es us l r1 hl
          have hel : es.length = l.length := by rw [b1, r1.1]
          refine ⟨g, _, w, ?_, G.le.refl g, h, .lit rfl⟩
          rw [hel]
          refine run_convert_bytes_back w src dst e ⟨B, o, none⟩ cap l hs he' hd (fun j hj => ?_)
          rw [addr_add]
          have := r2 j _ (b2 j hj)
          rw [Nat.zero_mul, Nat.zero_add] at this
          exact h.fr _ _ _ this
      · cases hc
    · rename_i e s off len k hs hd hno
      split at hc
      · rename_i he
        have he' := byteT_inv he
        split at hc
        · rename_i cs hcs
          split at hc
          · rename_i hfit
            cases hl : bytesOf ((cs.drop off).take len) with
            | none => rw [hl] at hc; cases hc
            | some l =>
              rw [hl] at hc
              cases hc
              obtain ⟨cap, rfl, _⟩ := hq.slice_inv
              have hb := h.cells s cs hcs
              have hlen : ((cs.drop off).take len).length = len := by simp; omega
              have hr : Reps g ((cs.drop off).take len) ((List.range len).map fun j => (w.cell? ⟨(g.loc s).1, (g.loc s).2.1 + off + j, none⟩).getD undef) := by
                refine ⟨by simp; omega, fun j c u a b => ?_⟩
                have hlt : j < len := by have := (List.getElem?_eq_some_iff.1 a).1; omega
                rw [List.getElem?_take, if_pos hlt, List.getElem?_drop] at a
                obtain ⟨_, v', hv', hr'⟩ := hb.rep _ c a
                simp [hlt] at b
                rw [Nat.add_assoc, hv'] at b
                simp at b
                subst b
                exact hr'
              obtain ⟨b1, b2⟩ := bytesOf_reps _ _ l hr hl
              have hll : len = l.length := by simpa using b1.symm
              refine ⟨g, _, w, ?_, G.le.refl g, h, .lit rfl⟩
              rw [hll]
              refine run_convert_bytes_back w src dst e _ cap l hs he' hd (fun j hj => ?_)
              rw [addr_add]
              have h1 := b2 j hj
              have hlt : j < len := by omega
              have hget : cs[off + j]? = some (cs[off + j]'(by omega)) := List.getElem?_eq_getElem _
              obtain ⟨_, v', hv', _⟩ := hb.rep _ _ hget
              simp [hlt] at h1
              rw [Nat.add_assoc, hv'] at h1
              simp at h1
              rw [Nat.add_assoc, hv', h1]
          · cases hc
        · cases hc
      · cases hc
    · rename_i e e' s off len sz k hs hd hno
      split at hc
      · rename_i he
        simp only [Bool.and_eq_true, beq_iff_eq] at he
        obtain ⟨rfl, he2⟩ := he
        have hee := hs.symm.trans hd
        cases hee
        have he' := byteT_inv he2
        split at hc
        · rename_i cs hcs
          cases hc
          obtain ⟨cap, rfl, hsn, hk, hl, hz0, hx0⟩ := hq.slice_inv
          have hb := h.cells s cs hcs
          have hrun : ∃ w', (convert src src (.slice (some ⟨(g.loc s).1, (g.loc s).2.1 + off, none⟩) len cap)).run P w = .ok (.slice (some ⟨(g.loc s).1, (g.loc s).2.1 + off, none⟩) len cap) w' ∧ SInv base w0 g st w' := by
            cases hh : w.heap[(g.loc s).1]? with
            | none =>
              refine ⟨w, ?_, h⟩
              simp [convert, run_underlying_of hs, run_underlying_of hd, run_underlying_of he', markStringish, shape, Sem.run, World.shape?, hh]
            | some o =>
              cases o with
              | cells c t f =>
                obtain ⟨lo, hi⟩ := f
                refine ⟨_, ?_, h.freeze hb.lo hh⟩
                simp [convert, run_underlying_of hs, run_underlying_of hd, run_underlying_of he', markStringish, shape, freeze, Sem.run, World.shape?, hh]
              | _ =>
                refine ⟨w, ?_, h⟩
                simp [convert, run_underlying_of hs, run_underlying_of hd, run_underlying_of he', markStringish, shape, Sem.run, World.shape?, hh]
          obtain ⟨w', h1, h2⟩ := hrun
          exact ⟨g, _, w', h1, G.le.refl g, h2, .slice hsn hk hl hz0 hx0⟩
        · cases hc
      · cases hc
    · cases hc

end
end Go.Proofs.YtpgcbmmifmnfpaaDoorA

/- Every operation by its name, and that the model does the same. No condition. -/
namespace Go.Proofs.YtpgcbmmifmnfpaaDoorA
open Go Go.RowKit
set_option linter.unusedVariables false
set_option linter.unusedSimpArgs false

inductive ANext where
  | val (v : AVal) (st : ASt)
  | enter (f : FuncId) (args : List AVal) (st : ASt)
  | panic (v : AVal) (st : ASt)

def ANext.ofP (p : AVal × ASt) : ANext := .val p.1 p.2

def evals (ρ : Operand → Option AVal) : List Operand → Option (List AVal)
  | [] => some []
  | x :: r => match ρ x, evals ρ r with
    | some v, some l => some (v :: l)
    | _, _ => none

def evalPs (ρ : Operand → Option AVal) : List (Nat × Operand) → Option (List (Nat × AVal))
  | [] => some []
  | (i, x) :: r => match ρ x, evalPs ρ r with
    | some v, some l => some ((i, v) :: l)
    | _, _ => none

def evalO (ρ : Operand → Option AVal) : Option Operand → Option (Option AVal)
  | none => some none
  | some x => (ρ x).map some

def vals : List AVal → Option (List Value)
  | [] => some []
  | v :: r => match valOf v, vals r with
    | some u, some l => some (u :: l)
    | _, _ => none

def nextV : Option Next → Option AVal
  | some (.value v) => absOf v
  | _ => none

def lenA (P : Program) (t : TypeId) (x : AVal) : Option AVal :=
  match P.underlying t with
  | some (.slice _) => match x with
    | .islice _ es _ => some (.lit (.int .i64 es.length))
    | .slice _ _ len _ _ => some (.lit (.int .i64 len))
    | _ => none
  | some (.array n _) => some (.lit (.int .i64 n))
  | some (.pointer arr) => match P.underlying arr with
    | some (.array n _) => some (.lit (.int .i64 n))
    | _ => none
  | _ => none

def callFuncA (P : Program) (f : FuncId) (args : List AVal) (st : ASt) : Option ANext :=
  match P.funcs[f]? with
  | none => none
  | some fn => if fn.name == "runtime.NumGoroutine" then none
    else if fn.body.isNone then (match vals args with
      | some us => (nextV (pureRun P (callFunc f us.toArray))).map (.val · st)
      | none => none)
    else some (.enter f args st)

def builtinA (P : Program) (mt : Bool) (b : Builtin) (argTypes : Array TypeId) (type : TypeId) (consts : Array Bool) (args : List AVal) (st : ASt) : Option ANext :=
  match b, argTypes, args with
  | .append, ⟨[t, tx]⟩, [s, x] => (appendA P mt t tx s x st).map .ofP
  | .append, _, _ => none
  | b, ts, args => match vals args with
    | some us => (nextV (pureRun P (builtin b ts type consts us.toArray))).map (.val · st)
    | none => match b, ts, args with
      | .len, ⟨[t]⟩, [x] => (lenA P t x).map (.val · st)
      | _, _, _ => none

def callA (P : Program) (mt : Bool) (ρ : Operand → Option AVal) (c : Call) (type : TypeId) (st : ASt) : Option ANext :=
  match evals ρ c.args.toList with
  | none => none
  | some args => match c.callee with
    | .builtin b => builtinA P mt b c.argTypes type (c.args.map fun | .const _ => true | _ => false) args st
    | .value f => match ρ f with
      | some (.lit (.func (.func id) ⟨[]⟩ ⟨[]⟩)) => callFuncA P id args st
      | some (.func (.func id) first captured) => callFuncA P id (first ++ args ++ captured) st
      | _ => none
    | _ => none

def nilCheckA : AVal → Bool
  | .lit (.pointer none) | .lit .nilIface | .lit .nilFunc | .tuple _ => false
  | .func (.func _) _ _ => true
  | .func .. => false
  | _ => true

def evalV : Option AVal → Option (Option Value)
  | none => some none
  | some (.lit v) => some (some v)
  | some _ => none

/-- a part of a slice, an array -/
def sliceU (P : Program) (t : TypeId) (v : AVal) (l h m : Option AVal) : Option AVal :=
  match v with
  | .lit u => (match evalV l, evalV h, evalV m with
    | some l, some h, some m => pureV P (Instr.sliceAt t u l h m)
    | _, _, _ => none)
  | v => sliceA P t v l h m
theorem sliceU_i {P : Program} {t : TypeId} {sz : Nat} {es : List AVal} {k : Cap} {l h m : Option AVal} : sliceU P t (.islice sz es k) l h m = sliceA P t (.islice sz es k) l h m := rfl
theorem sliceU_s {P : Program} {t : TypeId} {s off len sz : Nat} {k : Option Nat} {l h m : Option AVal} : sliceU P t (.slice s off len sz k) l h m = sliceA P t (.slice s off len sz k) l h m := rfl
theorem sliceU_p {P : Program} {t : TypeId} {s off : Nat} {l h m : Option AVal} : sliceU P t (.ptr s off) l h m = sliceA P t (.ptr s off) l h m := rfl
theorem sliceU_l {P : Program} {t : TypeId} {u : Value} {l h m : Option AVal} : sliceU P t (.lit u) l h m = (match evalV l, evalV h, evalV m with
    | some l, some h, some m => pureV P (Instr.sliceAt t u l h m)
    | _, _, _ => none) := rfl

/-- a value in an interface -/
def boxI (t : TypeId) : AVal → AVal
  | .lit (.int k i) => .lit (.iface t (.int k i))
  | v => .iface t v
theorem boxI_rep {g : G} {t : TypeId} {v : AVal} {u : Value} (h : Rep g v u) : Rep g (boxI t v) (.iface t u) := by
  unfold boxI
  split
  · rw [h.flat]; exact .lit rfl
  · exact .iface h

def aexecOp (P : Program) (mt : Bool) (ρ : Operand → Option AVal) (o : Oper) (st : ASt) : Option ANext :=
  match o.op with
  | .move x | .assign x => (ρ x).map (.val · st)
  | .pick c a b => match ρ c with
    | some (.lit (.bool true)) => (ρ a).map (.val · st)
    | some (.lit (.bool false)) => (ρ b).map (.val · st)
    | _ => none
  | .alloc e => (allocA P e st).map .ofP
  | .box e x => match ρ x with
    | some v => (boxA v st).map .ofP
    | none => none
  | .build t parts => match evalPs ρ parts.toList with
    | some ps => (buildA P t ps).map (.val · st)
    | none => none
  | .buildSlice t len parts => match evalPs ρ parts.toList with
    | some ps => (buildSliceA P mt t len ps st).map .ofP
    | none => none
  | .load t a => match ρ a with
    | some p => (loadA P t st p).map (.val · st)
    | none => none
  | .store t a x => match ρ a, ρ x with
    | some p, some v => (storeA P t st p v).map (.val .undef ·)
    | _, _ => none
  | .nilCheck x => match ρ x with
    | some v => if nilCheckA v = true then some (.val v st) else none
    | none => none
  | .binOp op t x y _ => match ρ x, ρ y with
    | some a, some b => (binA P op t x y a b).map (.val · st)
    | _, _ => none
  | .unOp op _ x => match (ρ x).bind valOf with
    | some v => (pureV P (Op.unary op v)).map (.val · st)
    | none => none
  | .convert src dst x => match ρ x with
    | some v => (convA P mt src dst v st).map .ofP
    | none => none
  | .makeInterface t x => match ρ x, P.underlying t with
    | some v, some (.interface _) => none
    | some v, some _ => some (.val (boxI t v) st)
    | _, _ => none
  | .makeFunc fn first captured => match evals ρ first.toList, evals ρ captured.toList with
    | some a, some b => some (.val (.func fn a b) st)
    | _, _ => none
  | .makeSlice t l c => match ρ l, ρ c with
    | some a, some b => (makeSliceA P t a b st).map .ofP
    | _, _ => none
  | .slice t x lo hi mx => match ρ x, evalO ρ lo, evalO ρ hi, evalO ρ mx with
    | some v, some l, some h, some m => (sliceU P t v l h m).map (.val · st)
    | _, _, _, _ => none
  | .fieldAddr s x f => match ρ x with
    | some a => (fieldA P s a f).map (.val · st)
    | none => none
  | .field t x f => match ρ x with
    | some a => (fieldV P t a f).map (.val · st)
    | none => none
  | .indexAddr t x ix => match ρ x, ρ ix with
    | some a, some i => (indexA P t a i).map (.val · st)
    | _, _ => none
  | .index t x ix => match ρ x, ρ ix with
    | some (.lit u), some (.lit i) => (pureV P (Instr.index t u i)).map (.val · st)
    | some a, some i => (indexV P t a i).map (.val · st)
    | _, _ => none
  | .extract t ix => match ρ t with
    | some a => (extractA a ix).map (.val · st)
    | none => none
  | .call c => callA P mt ρ c o.type st
  | .panic x => match ρ x with
    | some (.iface t v) => some (.panic (.iface t v) st)
    | _ => none
  | _ => none

section
variable {P : Program} {w : World}

/-- an operand's two values -/
def OpOK (g : G) (ρ : Operand → Option AVal) (ρ' : Operand → Value) : Prop := ∀ x v, ρ x = some v → Rep g v (ρ' x)

theorem evals_sound {g : G} {ρ : Operand → Option AVal} {ρ' : Operand → Value} (h : OpOK g ρ ρ') : ∀ (l : List Operand) (vs : List AVal), evals ρ l = some vs → Reps g vs (l.map ρ')
  | [], vs, hv => by cases hv; exact ⟨rfl, fun j c u a b => by simp at a⟩
  | x :: r, vs, hv => by
    unfold evals at hv
    split at hv
    · rename_i v l hx hr
      cases hv
      have ih := evals_sound h r l hr
      refine ⟨by simp [ih.1], fun j c u a b => ?_⟩
      cases j with
      | zero => cases a; cases b; exact h x _ hx
      | succ j => exact ih.2 j c u (by simpa using a) (by simpa using b)
    · cases hv

theorem evalPs_sound {g : G} {ρ : Operand → Option AVal} {ρ' : Operand → Value} (h : OpOK g ρ ρ') : ∀ (l : List (Nat × Operand)) (vs : List (Nat × AVal)), evalPs ρ l = some vs → PReps g vs (l.map fun (p : Nat × Operand) => (p.1, ρ' p.2))
  | [], vs, hv => by cases hv; exact ⟨rfl, fun j c u a b => by simp at a⟩
  | (i, x) :: r, vs, hv => by
    unfold evalPs at hv
    split at hv
    · rename_i v l hx hr
      cases hv
      have ih := evalPs_sound h r l hr
      refine ⟨by simp only [List.map_cons, List.cons.injEq, true_and]; exact ih.1, fun j c u a b => ?_⟩
      cases j with
      | zero => cases a; cases b; exact h x _ hx
      | succ j => exact ih.2 j c u (by simpa using a) (by simpa using b)
    · cases hv

theorem evalO_sound {g : G} {ρ : Operand → Option AVal} {ρ' : Operand → Value} (h : OpOK g ρ ρ') {x : Option Operand} {v : Option AVal} (hv : evalO ρ x = some v) : OReps g v (x.map ρ') := by
  cases x with
  | none => cases hv; trivial
  | some x =>
    simp only [evalO] at hv
    cases hx : ρ x with
    | none => rw [hx] at hv; cases hv
    | some a => rw [hx] at hv; cases hv; exact h x a hx

theorem vals_sound {g : G} : ∀ (vs : List AVal) (us l : List Value), Reps g vs us → vals vs = some l → us = l
  | [], us, l, h, hv => by
    cases hv
    have := h.1
    simpa using this
  | v :: r, us, l, h, hv => by
    obtain ⟨hl, hat⟩ := h
    match us, hl, hat with
    | u :: us, hl, hat =>
      unfold vals at hv
      split at hv
      · rename_i u' l' h1 h2
        cases hv
        rw [valOf_rep (hat 0 _ u rfl rfl) h1, vals_sound r us l' ⟨by simpa using hl, fun j c u a b => hat (j + 1) c u (by simpa using a) (by simpa using b)⟩ h2]
      · cases hv

/-- what an operation's two outcomes have to do with one another -/
def NextOK (base : Nat) (w0 : World) (g : G) : ANext → Result Next → Prop
  | .val v st, .ok (.value u) w' => ∃ g', g.le g' ∧ SInv base w0 g' st w' ∧ Rep g' v u
  | .val v st, .ok .skip w' => v = .undef ∧ ∃ g', g.le g' ∧ SInv base w0 g' st w'
  | .enter f args st, .ok (.enter f' us) w' => f' = f ∧ SInv base w0 g st w' ∧ Reps g args us.toList
  | .panic v st, .halt (.panic u) w' => SInv base w0 g st w' ∧ Rep g v u
  | _, _ => False

theorem nextV_sound {g : G} {s : Sem Next} {a : AVal} (h : nextV (pureRun P s) = some a) : ∃ u, s.run P w = .ok (.value u) w ∧ Rep g a u := by
  cases hr : pureRun P s with
  | none => rw [hr] at h; cases h
  | some n =>
    rw [hr] at h
    cases n <;> first
      | exact ⟨_, pureRun_run s _ hr w, absOf_rep h⟩
      | cases h

variable {base : Nat} {w0 : World} {g : G} {st : ASt}

/-- one value, the world as it was -/
theorem nextOK_val (h : SInv base w0 g st w) {v : AVal} {s : Sem Value} (hs : ∃ u, s.run P w = .ok u w ∧ Rep g v u) :
    NextOK base w0 g (.val v st) ((do pure (Next.value (← s)) : Sem Next).run P w) := by
  obtain ⟨u, h1, h2⟩ := hs
  simp only [Sem.run_bind, h1, Result.andThen_ok]
  exact ⟨g, G.le.refl g, h, h2⟩

/-- one value, another world -/
theorem nextOK_mem {v : AVal} {st' : ASt} {s : Sem Value} (hs : ∃ g' u w', s.run P w = .ok u w' ∧ g.le g' ∧ SInv base w0 g' st' w' ∧ Rep g' v u) :
    NextOK base w0 g (.val v st') ((do pure (Next.value (← s)) : Sem Next).run P w) := by
  obtain ⟨g', u, w', h1, h2, h3, h4⟩ := hs
  simp only [Sem.run_bind, h1, Result.andThen_ok]
  exact ⟨g', h2, h3, h4⟩

theorem ofP_inv {x : Option (AVal × ASt)} {r : ANext} (h : x.map ANext.ofP = some r) : ∃ v st', x = some (v, st') ∧ r = .val v st' := by
  cases x with
  | none => cases h
  | some p => cases h; exact ⟨p.1, p.2, rfl, rfl⟩

theorem val_inv {x : Option AVal} {r : ANext} (h : x.map (ANext.val · st) = some r) : ∃ v, x = some v ∧ r = .val v st := by
  cases x with
  | none => cases h
  | some v => cases h; exact ⟨v, rfl, rfl⟩

theorem callFunc_sound (h : SInv base w0 g st w) {f : FuncId} {args : List AVal} {us : Array Value} {r : ANext} (ha : Reps g args us.toList) (hr : callFuncA P f args st = some r) : NextOK base w0 g r ((callFunc f us).run P w) := by
  unfold callFuncA at hr
  split at hr
  · cases hr
  · rename_i fn hfn
    split at hr
    · cases hr
    · rename_i hname
      split at hr
      · split at hr
        · rename_i l hl
          obtain ⟨v, hv, rfl⟩ := val_inv hr
          have := vals_sound args us.toList l ha hl
          have hus : us = l.toArray := by rw [← this]
          subst hus
          obtain ⟨u, h1, h2⟩ := nextV_sound (w := w) (g := g) hv
          rw [h1]
          exact ⟨g, G.le.refl g, h, h2⟩
        · cases hr
      · rename_i hbody
        cases hr
        have : (callFunc f us).run P w = .ok (.enter f us) w := by
          simp only [callFunc, Sem.run_bind, run_program, Result.andThen_ok, hfn]
          rw [if_neg hname, if_neg hbody]
          rfl
        rw [this]
        exact ⟨rfl, h, ha⟩

theorem len_sound {t ty : TypeId} {x v : AVal} {q : Value} (hq : Rep g x q) (hl : lenA P t x = some v) : ∃ u, (Builtin.len_ #[t] ty #[q]).run P w = .ok u w ∧ Rep g v u := by
  unfold lenA at hl
  split at hl
  · rename_i e hu
    split at hl
    · cases hl
      obtain ⟨cap, B, o, f, rfl, _⟩ := hq.islice_inv
      exact ⟨_, by simp [Builtin.len_, run_underlying_of hu, goInt], .lit rfl⟩
    · cases hl
      obtain ⟨cap, rfl, _⟩ := hq.slice_inv
      exact ⟨_, by simp [Builtin.len_, run_underlying_of hu, goInt], .lit rfl⟩
    · cases hl
  · rename_i n e hu
    cases hl
    exact ⟨_, by simp [Builtin.len_, run_underlying_of hu, goInt], .lit rfl⟩
  · rename_i arr hu
    split at hl
    · rename_i n e hu2
      cases hl
      exact ⟨_, by simp [Builtin.len_, run_underlying_of hu, run_underlying_of hu2, goInt], .lit rfl⟩
    · cases hl
  · cases hl

theorem builtin_sound (h : SInv base w0 g st w) {mt : Bool} {b : Builtin} {ts : Array TypeId} {ty : TypeId} {cs : Array Bool} {args : List AVal} {us : Array Value} {r : ANext} (ha : Reps g args us.toList)
    (hr : builtinA P mt b ts ty cs args st = some r) : NextOK base w0 g r ((builtin b ts ty cs us).run P w) := by
  have pureCase : ∀ l, vals args = some l → (nextV (pureRun P (builtin b ts ty cs l.toArray))).map (ANext.val · st) = some r → NextOK base w0 g r ((builtin b ts ty cs us).run P w) := by
    intro l hl hr
    obtain ⟨v, hv, rfl⟩ := val_inv hr
    have := vals_sound args us.toList l ha hl
    have hus : us = l.toArray := by rw [← this]
    subst hus
    obtain ⟨u, h1, h2⟩ := nextV_sound (w := w) (g := g) hv
    rw [h1]
    exact ⟨g, G.le.refl g, h, h2⟩
  unfold builtinA at hr
  split at hr
  · rename_i t tx s x
    obtain ⟨v, st', hv, rfl⟩ := ofP_inv hr
    obtain ⟨hl, hat⟩ := ha
    obtain ⟨us⟩ := us
    match us, hl, hat with
    | [p, q], hl, hat => exact nextOK_mem (append_sound h (hat 0 _ _ rfl rfl) (hat 1 _ _ rfl rfl) hv)
  · cases hr
  · split at hr
    · rename_i l hl
      exact pureCase l hl hr
    · split at hr
      · rename_i t x _ _ _
        obtain ⟨v, hv, rfl⟩ := val_inv hr
        obtain ⟨hl, hat⟩ := ha
        obtain ⟨us⟩ := us
        match us, hl, hat with
        | [q], hl, hat => exact nextOK_val h (len_sound (hat 0 _ _ rfl rfl) hv)
      · cases hr

theorem call_sound (h : SInv base w0 g st w) {mt : Bool} {ρ : Operand → Option AVal} {ρ' : Operand → Value} (hρ : OpOK g ρ ρ') {c : Call} {ty : TypeId} {r : ANext} (hr : callA P mt ρ c ty st = some r) :
    NextOK base w0 g r ((do let d ← resolve ρ' c ty; invoke d.target d.args : Sem Next).run P w) := by
  unfold callA at hr
  split at hr
  · cases hr
  · rename_i args hargs
    have ha := evals_sound hρ _ _ hargs
    obtain ⟨callee, cargs, cts⟩ := c
    split at hr
    · rename_i b hb
      simp only at hb
      subst hb
      have ha' : Reps g args (cargs.map ρ').toList := by simpa using ha
      exact builtin_sound h ha' hr
    · rename_i f hf
      simp only at hf
      subst hf
      split at hr
      · rename_i id hid
        have hfv := (hρ f _ hid).flat
        have ha' : Reps g args (cargs.map ρ').toList := by simpa using ha
        have := callFunc_sound h ha' hr
        simpa [resolve, hfv, Deferred.ofValue, invoke] using this
      · rename_i id first captured hid
        have hfv := hρ f _ hid
        generalize hval : ρ' f = fv at hfv
        cases hfv
        rename_i us vs hl1 hr1 hl2 hr2
        have ha' : Reps g (first ++ args ++ captured) ((us ++ cargs.map ρ') ++ vs).toList := by
          simp only [Array.toList_append]
          refine Reps.append (Reps.append ⟨by simpa using hl1, fun j c u a b => hr1 j c u a (by simpa using b)⟩ (by simpa using ha)) ⟨by simpa using hl2, fun j c u a b => hr2 j c u a (by simpa using b)⟩
        have := callFunc_sound h ha' hr
        simpa [resolve, hval, Deferred.ofValue, invoke] using this
      · cases hr
    · cases hr

theorem map_toArray (f : Operand → Value) (ps : Array (Nat × Operand)) : (ps.toList.map fun (p : Nat × Operand) => (p.1, f p.2)).toArray = ps.map fun (i, x) => (i, f x) := by
  apply Array.ext'
  simp

theorem nilCheck_sound {v : AVal} {u : Value} (hr : Rep g v u) (h : nilCheckA v = true) (o : Oper) (x : Operand) (ρ' : Operand → Value) (ho : o.op = .nilCheck x) (hx : ρ' x = u) : (execOp ρ' o).run P w = .ok (.value u) w := by
  unfold execOp
  rw [ho]
  simp only [hx]
  cases hr <;> first
    | (cases h; done)
    | skip
  case lit hf => cases u <;> first | (cases hf; done) | rfl | skip
                 case pointer a => cases a <;> first | (cases h; done) | (cases hf; done)
                 case nilFunc => cases h
                 case nilIface => cases h
                 case func fn a b => cases fn <;> first | rfl | (cases hf; done)
  case func fn _ _ _ _ _ _ _ _ => cases fn <;> first | rfl | (cases h; done)
  all_goals rfl

theorem evalV_sound {x : Option AVal} {y : Option Value} {z : Option Value} (h : OReps g x y) (he : evalV x = some z) : y = z := by
  cases x with
  | none => cases he; cases y with
    | none => rfl
    | some _ => exact h.elim
  | some v =>
    cases y with
    | none => exact h.elim
    | some u =>
      cases v <;> first
        | (cases he; have := Rep.flat h; rw [this]; done)
        | (cases he; done)

theorem execOp_sound (h : SInv base w0 g st w) {mt : Bool} {ρ : Operand → Option AVal} {ρ' : Operand → Value} (hρ : OpOK g ρ ρ') {o : Oper} {r : ANext} (hr : aexecOp P mt ρ o st = some r) :
    NextOK base w0 g r ((execOp ρ' o).run P w) := by
  obtain ⟨dst, op, ty, pos, after, guard⟩ := o
  cases op with
  | move x =>
    obtain ⟨v, hv, rfl⟩ := val_inv hr
    exact ⟨g, G.le.refl g, h, hρ x v hv⟩
  | assign x =>
    obtain ⟨v, hv, rfl⟩ := val_inv hr
    exact ⟨g, G.le.refl g, h, hρ x v hv⟩
  | pick c a b =>
    simp only [aexecOp] at hr
    split at hr
    · rename_i hc
      obtain ⟨v, hv, rfl⟩ := val_inv hr
      have := (hρ c _ hc).flat
      have e : (execOp ρ' { dst, op := .pick c a b, type := ty, pos, after, guard }).run P w = .ok (.value (ρ' a)) w := by simp [execOp, this, asBool]
      rw [e]
      exact ⟨g, G.le.refl g, h, hρ a v hv⟩
    · rename_i hc
      obtain ⟨v, hv, rfl⟩ := val_inv hr
      have := (hρ c _ hc).flat
      have e : (execOp ρ' { dst, op := .pick c a b, type := ty, pos, after, guard }).run P w = .ok (.value (ρ' b)) w := by simp [execOp, this, asBool]
      rw [e]
      exact ⟨g, G.le.refl g, h, hρ b v hv⟩
    · cases hr
  | alloc e =>
    obtain ⟨v, st', hv, rfl⟩ := ofP_inv hr
    exact nextOK_mem (alloc_sound h hv)
  | box e x =>
    simp only [aexecOp] at hr
    split at hr
    · rename_i a ha
      obtain ⟨v, st', hv, rfl⟩ := ofP_inv hr
      exact nextOK_mem (box_sound h (hρ x a ha) hv)
    · cases hr
  | build t parts =>
    simp only [aexecOp] at hr
    split at hr
    · rename_i ps hps
      obtain ⟨v, hv, rfl⟩ := val_inv hr
      have := build_sound (P := P) (w := w) (evalPs_sound hρ _ _ hps) hv
      rw [map_toArray] at this
      exact nextOK_val h this
    · cases hr
  | buildSlice t len parts =>
    simp only [aexecOp] at hr
    split at hr
    · rename_i ps hps
      obtain ⟨v, st', hv, rfl⟩ := ofP_inv hr
      have := buildSlice_sound (P := P) h (evalPs_sound hρ _ _ hps) hv
      rw [map_toArray] at this
      exact nextOK_mem this
    · cases hr
  | load t a =>
    simp only [aexecOp] at hr
    split at hr
    · rename_i p hp
      obtain ⟨v, hv, rfl⟩ := val_inv hr
      exact nextOK_val h (load_sound h (hρ a p hp) hv)
    · cases hr
  | store t a x =>
    simp only [aexecOp] at hr
    split at hr
    · rename_i p v hp hv
      cases hs : storeA P t st p v with
      | none => rw [hs] at hr; cases hr
      | some st' =>
        rw [hs] at hr
        cases hr
        obtain ⟨w', h1, h2⟩ := store_sound h (hρ a p hp) (hρ x v hv) hs
        have e : (execOp ρ' { dst, op := .store t a x, type := ty, pos, after, guard }).run P w = .ok .skip w' := by simp [execOp, h1]
        rw [e]
        exact ⟨rfl, g, G.le.refl g, h2⟩
    · cases hr
  | nilCheck x =>
    simp only [aexecOp] at hr
    split at hr
    · rename_i v hv
      split at hr
      · rename_i hn
        cases hr
        rw [nilCheck_sound (P := P) (w := w) (hρ x v hv) hn _ x ρ' rfl rfl]
        exact ⟨g, G.le.refl g, h, hρ x v hv⟩
      · cases hr
    · cases hr
  | binOp op t x y yt =>
    simp only [aexecOp] at hr
    split at hr
    · rename_i a b ha hb
      obtain ⟨v, hv, rfl⟩ := val_inv hr
      have ra := hρ x a ha
      have rb := hρ y b hb
      have key : ∃ u, ((do eqGuard op t x y (ρ' x) (ρ' y); binOp op t (ρ' x) (ρ' y) : Sem Value)).run P w = .ok u w ∧ Rep g v u := by
        unfold binA at hv
        split at hv
        · rename_i r hre
          obtain ⟨h1, h2, h3⟩ := eqAggA_sound (w := w) ra rb hre
          split at hv
          · cases hv
            exact ⟨_, by simp only [Sem.run_bind, h1, Result.andThen_ok]; exact h2, .lit rfl⟩
          · cases hv
            exact ⟨_, by simp only [Sem.run_bind, h1, Result.andThen_ok]; exact h3, .lit rfl⟩
          · cases hv
        · split at hv
          · rename_i u1 u2 e1 e2
            rw [valOf_rep ra e1, valOf_rep rb e2]
            exact pureV_sound hv
          · split at hv
            · rename_i d hd
              split at hv
              · rename_i hn
                obtain ⟨h1, h2, h3⟩ := nilEq_sound (w := w) hd ra rb hn
                split at hv
                · cases hv
                  exact ⟨_, by simp only [Sem.run_bind, h1, Result.andThen_ok]; exact h2, .lit rfl⟩
                · cases hv
                  exact ⟨_, by simp only [Sem.run_bind, h1, Result.andThen_ok]; exact h3, .lit rfl⟩
                · cases hv
              · cases hv
            · cases hv
      exact nextOK_val h key
    · cases hr
  | unOp op t x =>
    simp only [aexecOp] at hr
    split at hr
    · rename_i v0 hv0
      obtain ⟨v, hv, rfl⟩ := val_inv hr
      cases hx : ρ x with
      | none => rw [hx] at hv0; cases hv0
      | some a =>
        rw [hx] at hv0
        have := valOf_rep (hρ x a hx) hv0
        refine nextOK_val h ?_
        rw [this]
        exact pureV_sound hv
    · cases hr
  | convert src dst' x =>
    simp only [aexecOp] at hr
    split at hr
    · rename_i a ha
      obtain ⟨v, st', hv, rfl⟩ := ofP_inv hr
      exact nextOK_mem (conv_sound h (hρ x a ha) hv)
    · cases hr
  | makeInterface t x =>
    simp only [aexecOp] at hr
    split at hr
    · cases hr
    · rename_i v d hni hv hd
      cases hr
      refine nextOK_val h ⟨.iface t (ρ' x), ?_, boxI_rep (hρ x v hv)⟩
      have hd' : P.underlying t = some d := hd
      cases d <;> first
        | (simp [Instr.makeInterface, run_underlying_of hd']; done)
        | exact (hni _ rfl).elim
    · cases hr
  | makeFunc fn first captured =>
    simp only [aexecOp] at hr
    split at hr
    · rename_i a b ha hb
      cases hr
      have ra := evals_sound hρ _ _ ha
      have rb := evals_sound hρ _ _ hb
      refine nextOK_val h ⟨_, rfl, .func (by have := ra.1; simpa using this) (fun j c u x y => ra.2 j c u x (by simpa using y)) (by have := rb.1; simpa using this) (fun j c u x y => rb.2 j c u x (by simpa using y))⟩
    · cases hr
  | makeSlice t l c =>
    simp only [aexecOp] at hr
    split at hr
    · rename_i a b ha hb
      obtain ⟨v, st', hv, rfl⟩ := ofP_inv hr
      exact nextOK_mem (makeSlice_sound h (hρ l a ha) (hρ c b hb) hv)
    · cases hr
  | slice t x lo hi mx =>
    simp only [aexecOp] at hr
    split at hr
    · rename_i v l hh m hv hl hhh hm
      have rl := evalO_sound hρ hl
      have rh := evalO_sound hρ hhh
      have rm := evalO_sound hρ hm
      obtain ⟨v', hu, rfl⟩ := val_inv hr
      unfold sliceU at hu
      split at hu
      · rename_i u
        split at hu
        · rename_i l' h' m' el eh em
          have e1 := evalV_sound rl el
          have e2 := evalV_sound rh eh
          have e3 := evalV_sound rm em
          have e0 := (hρ x _ hv).flat
          refine nextOK_val h ?_
          rw [e0, e1, e2, e3]
          exact pureV_sound hu
        · cases hu
      · exact nextOK_val h (slice_sound (hρ x _ hv) rl rh rm hu)
    · cases hr
  | fieldAddr s x f =>
    simp only [aexecOp] at hr
    split at hr
    · rename_i a ha
      obtain ⟨v, hv, rfl⟩ := val_inv hr
      exact nextOK_val h (field_sound (hρ x a ha) hv)
    · cases hr
  | field t x f =>
    simp only [aexecOp] at hr
    split at hr
    · rename_i a ha
      obtain ⟨v, hv, rfl⟩ := val_inv hr
      exact nextOK_val h (fieldV_sound (hρ x a ha) hv)
    · cases hr
  | indexAddr t x ix =>
    simp only [aexecOp] at hr
    split at hr
    · rename_i a i ha hi
      obtain ⟨v, hv, rfl⟩ := val_inv hr
      exact nextOK_val h (index_sound (hρ x a ha) (hρ ix i hi) hv)
    · cases hr
  | index t x ix =>
    simp only [aexecOp] at hr
    split at hr
    · rename_i u i hu hi
      obtain ⟨v, hv, rfl⟩ := val_inv hr
      refine nextOK_val h ?_
      rw [(hρ x _ hu).flat, (hρ ix _ hi).flat]
      exact pureV_sound hv
    · rename_i a i _ ha hi
      obtain ⟨v, hv, rfl⟩ := val_inv hr
      exact nextOK_val h (indexV_sound (hρ x a ha) (hρ ix i hi) hv)
    · cases hr
  | extract t ix =>
    simp only [aexecOp] at hr
    split at hr
    · rename_i a ha
      obtain ⟨v, hv, rfl⟩ := val_inv hr
      exact nextOK_val h (extract_sound (hρ t a ha) hv)
    · cases hr
  | call c => exact call_sound h hρ hr
  | panic x =>
    simp only [aexecOp] at hr
    split at hr
    · rename_i t v hv
      cases hr
      have hval := hρ x _ hv
      generalize hu : ρ' x = u at hval
      cases hval
      rename_i u hru
      have e : (execOp ρ' { dst, op := .panic x, type := ty, pos, after, guard }).run P w = .halt (.panic (.iface t u)) w := by simp [execOp, hu, Instr.panic, goPanic, Sem.run]
      rw [e]
      exact ⟨h, .iface hru⟩
    · cases hr
  | _ => cases hr

end
end Go.Proofs.YtpgcbmmifmnfpaaDoorA
