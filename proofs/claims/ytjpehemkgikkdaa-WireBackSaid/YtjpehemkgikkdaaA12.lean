/- Strings and bytes, lengths; every operation by its name. No condition. -/
import Derived.Test.YtjpehemkgikkdaaA11
namespace Go.Proofs.YtjpehemkgikkdaaA
open Go Go.RowKit
set_option linter.unusedVariables false
set_option linter.unusedSimpArgs false

/-! ### strings and bytes -/
def byteT (P : Program) (e : TypeId) : Bool :=
  match P.underlying e with
  | some (.int .u8) => true
  | _ => false

def bytesA (mt : Bool) (s : ByteArray) (st : ASt) : AVal × ASt := grownA mt 1 (s.data.toList.map byteA) st

def byteOfA : AVal → Option UInt8
  | .lit (.int .u8 n) => if n = (UInt8.ofNat n.toNat).toNat then some (UInt8.ofNat n.toNat) else none
  | _ => none
def bytesOf : List AVal → Option (List UInt8)
  | [] => some []
  | v :: r => match byteOfA v, bytesOf r with
    | some b, some l => some (b :: l)
    | _, _ => none

def convA (P : Program) (mt : Bool) (src dst : TypeId) (x : AVal) (st : ASt) : Option (AVal × ASt) :=
  match valOf x with
  | some v => match pureV P (convert src dst v) with
    | some a => some (a, st)
    | none => match v, P.underlying src, P.underlying dst with
      | .string s, some .string, some (.slice e) => if byteT P e = true then some (bytesA mt s st) else none
      | _, _, _ => none
  | none => match P.underlying src, P.underlying dst, x with
    | some (.slice e), some .string, .islice 1 es _ => if byteT P e = true then (bytesOf es).map fun l => (.lit (.string ⟨l.toArray⟩), st) else none
    | some (.slice e), some .string, .slice s off len 1 _ => if byteT P e = true then (match st.heap s with
        | some (.cells cs) => if off + len ≤ cs.length then (bytesOf ((cs.drop off).take len)).map fun l => (.lit (.string ⟨l.toArray⟩), st) else none
        | _ => none) else none
    | some (.slice e), some (.slice e'), .slice s off len sz k => if src == dst && byteT P e' then (match st.heap s with
        | some (.cells _) => some (.slice s off len sz k, st)
        | _ => none) else none
    | _, _, _ => none

section
variable {P : Program} {w : World}

theorem byteT_inv {e : TypeId} (h : byteT P e = true) : P.underlying e = some (.int .u8) := by
  unfold byteT at h
  split at h
  · assumption
  · cases h

theorem bytesOf_reps {g : G} : ∀ (es : List AVal) (us : List Value) (l : List UInt8), Reps g es us → bytesOf es = some l → l.length = us.length ∧ ∀ j (hj : j < l.length), us[j]? = some (.int .u8 (l[j].toNat : Int))
  | [], us, l, h, hl => by
    have : us = [] := by have := h.1; simpa using this
    subst this
    cases hl
    exact ⟨rfl, fun j hj => by simp at hj⟩
  | v :: r, us, l, h, hl => by
    obtain ⟨hlen, hat⟩ := h
    match us, hlen, hat with
    | u :: us, hlen, hat =>
      unfold bytesOf at hl
      split at hl
      · rename_i b l' hb hr
        cases hl
        obtain ⟨i1, i2⟩ := bytesOf_reps r us l' ⟨by simpa using hlen, fun j c u a b => hat (j + 1) c u (by simpa using a) (by simpa using b)⟩ hr
        refine ⟨by simp [i1], fun j hj => ?_⟩
        cases j with
        | zero =>
          unfold byteOfA at hb
          split at hb
          · split at hb
            · rename_i hn
              cases hb
              have hu := (hat 0 _ u rfl rfl).flat
              rw [hu]
              simp only [List.getElem?_cons_zero, List.getElem_cons_zero]
              rw [← hn]
            · cases hb
          · cases hb
        | succ j => simpa using i2 j (by simpa using hj)
      · cases hl

theorem cells1 {v : AVal} (h : v.cells.length = 1) (hc : ∀ c ∈ v.cells, c.isCell = true) {b : UInt8} (hb : byteOfA v = some b) : v.cells = [v] := by
  cases v <;> first | rfl | (simp [byteOfA] at hb)

theorem bytesOf_flat : ∀ (es : List AVal) (l : List UInt8), bytesOf es = some l → flatE es = es
  | [], l, h => rfl
  | v :: r, l, h => by
    unfold bytesOf at h
    split at h
    · rename_i b l' hb hr
      have h1 : v.cells = [v] := by cases v <;> first | rfl | (simp [byteOfA] at hb)
      have h2 := bytesOf_flat r l' hr
      simp only [flatE, List.flatMap_cons] at h2 ⊢
      rw [h1, h2]
      rfl
    · cases h

theorem bytesRow_get (s : ByteArray) (n : Nat) (j : Nat) (h : j < s.size) : (bytesRow s n)[j]? = (byteCells s)[j]? := by
  unfold bytesRow byteCells
  rw [Array.getElem?_append_left (by simpa using h)]
  simp

theorem bytesRow_size (s : ByteArray) (n : Nat) : (bytesRow s n).size = s.size + (n - s.size) := by
  unfold bytesRow
  simp

theorem conv_sound {base : Nat} {w0 : World} {g : G} {st st' : ASt} (h : SInv base w0 g st w) {mt : Bool} {src dst : TypeId} {x v : AVal} {q : Value} (hq : Rep g x q) (hc : convA P mt src dst x st = some (v, st')) :
    ∃ g' u w', (convert src dst q).run P w = .ok u w' ∧ g.le g' ∧ SInv base w0 g' st' w' ∧ Rep g' v u := by
  unfold convA at hc
  split at hc
  · rename_i v0 hv0
    have := valOf_rep hq hv0
    subst this
    split at hc
    · rename_i a ha
      cases hc
      obtain ⟨u, h1, h2⟩ := pureV_sound (w := w) ha
      exact ⟨g, u, w, h1, G.le.refl g, h, h2⟩
    · split at hc
      · rename_i s e hs hd hno
        split at hc
        · rename_i he
          have he' := byteT_inv he
          have hc := Option.some.inj hc
          have a1 := congrArg Prod.fst hc
          have a2 := congrArg Prod.snd hc
          simp only at a1 a2
          subst a1
          subst a2
          have hrun := run_bytes_of_string (P := P) w src dst e s hs hd he'
          generalize hC : grownCap w s.size 0 e = C at *
          have hge : s.size ≤ C := by rw [← hC]; exact grownCap_ge w _ _ _
          have hsize : (bytesRow s C).size = C := by rw [bytesRow_size]; omega
          have hlen : (s.data.toList.map byteA).length = s.size := by simp
          have hall : Reps g (flatE (s.data.toList.map byteA)) (byteCells s) := by
            rw [flatE_bytes]
            exact reps_lits (List.all_eq_true.2 fun u hu => by obtain ⟨b, _, rfl⟩ := List.mem_map.1 hu; rfl)
          have hok : ∀ x ∈ s.data.toList.map byteA, elemOk false 1 x = true := fun x hx => by obtain ⟨b, _, rfl⟩ := List.mem_map.1 hx; rfl
          have hd := h.drew
          unfold bytesA grownA
          cases mt with
          | false =>
            obtain ⟨hle, hinv⟩ := hd.rowM (bytesRow s C) e (bytesRow s C).size ((bytesRow s C).size + 1) (.inr (Nat.le_refl _)) s.size (by rw [hsize]; exact hge) [] (fun j c hj => by simp at hj)
            refine ⟨_, _, _, hrun, hle, hinv, ?_⟩
            have key := rep_islice_row (agg := false) (us := (byteCells s).toArray) (B := w.heap.size) (o := 0) (cap := C) (k := .tok st.ctr) hok (by simpa using hall) hle (fun j u hj => ?_) (by rw [hlen]; exact hge) ?_
            · rw [hlen] at key; exact key
            · have hj' : (byteCells s)[j]? = some u := by simpa using hj
              have hlt : j < s.size := by have := (List.getElem?_eq_some_iff.1 hj').1; rwa [byteCells_length] at this
              simp only [G.row, Nat.zero_add]
              rw [if_pos (show w.heap.size = w.drew.heap.size from rfl), if_pos hlt, bytesRow_get s C j hlt, hj']
            · refine ⟨by simp [G.row, h.n], by simp [G.row, h.n], ?_, ?_⟩
              · rw [hlen]; simp [G.row, h.n]
              · simp [G.row, h.n, hsize]
          | true =>
            obtain ⟨hle, hinv⟩ := hd.rowM (bytesRow s C) e (bytesRow s C).size ((bytesRow s C).size + 1) (.inr (Nat.le_refl _)) 0 (Nat.zero_le _) (flatE (s.data.toList.map byteA)) (fun j c hj => by
              have hlt := (List.getElem?_eq_some_iff.1 hj).1
              have hl2 := hall.1
              have h1 : (byteCells s)[j]? = some ((byteCells s)[j]'(by rw [hl2]; exact hlt)) := List.getElem?_eq_getElem _
              exact ⟨elems_cell hok c (List.mem_of_getElem? hj), _, by rw [Nat.zero_add, bytesRow_get s C j (by rw [byteCells_length] at hl2; omega)]; exact h1, hall.2 j c _ hj h1⟩)
            refine ⟨_, _, _, hrun, hle, hinv, ?_⟩
            show Rep _ (.slice st.ctr 0 (s.data.toList.map byteA).length 1 none) _
            rw [hlen]
            have hloc : (g.row w.drew.heap.size 0 (bytesRow s C)).loc st.ctr = (w.drew.heap.size, 0, (bytesRow s C).size) := by simp [G.row, h.n]
            have := Rep.slice (g := g.row w.drew.heap.size 0 (bytesRow s C)) (s := st.ctr) (off := 0) (len := s.size) (sz := 1) (cap := C) (kc := none) (by simp [G.row, h.n]) (fun k hk => by cases hk) hge (by omega)
              (fun _ => by rw [hloc, hsize]; simp)
            rw [hloc] at this
            exact this
        · cases hc
      · cases hc
  · split at hc
    · rename_i e es k hs hd hno
      split at hc
      · rename_i he
        have he' := byteT_inv he
        cases hl : bytesOf es with
        | none => rw [hl] at hc; cases hc
        | some l =>
          rw [hl] at hc
          cases hc
          obtain ⟨cap, B, o, f, rfl, hl0, hs1, hf, hf2, hcc, hk⟩ := hq.islice_inv
          obtain ⟨us, r1, r2⟩ := islice_flat (g := g) (B := B) (o := o) (f := f) es 0 hs1 (fun i e j c hi hj => by simpa using hf i e j c hi hj) (fun i e j c hi hj => by simpa using hf2 i e j c hi hj)
          rw [bytesOf_flat es l hl] at r1
          obtain ⟨b1, b2⟩ := bytesOf_reps es us l r1 hl
          have hel : es.length = l.length := by rw [b1, r1.1]
          refine ⟨g, _, w, ?_, G.le.refl g, h, .lit rfl⟩
          rw [hel]
          refine run_convert_bytes_back w src dst e ⟨B, o, none⟩ cap l hs he' hd (fun j hj => ?_)
          rw [addr_add]
          have := r2 j _ (b2 j hj)
          rw [Nat.zero_mul, Nat.zero_add] at this
          exact h.fr _ _ _ this
      · cases hc
    · rename_i e s off len k hs hd hno
      split at hc
      · rename_i he
        have he' := byteT_inv he
        split at hc
        · rename_i cs hcs
          split at hc
          · rename_i hfit
            cases hl : bytesOf ((cs.drop off).take len) with
            | none => rw [hl] at hc; cases hc
            | some l =>
              rw [hl] at hc
              cases hc
              obtain ⟨cap, rfl, _⟩ := hq.slice_inv
              have hb := h.cells s cs hcs
              have hlen : ((cs.drop off).take len).length = len := by simp; omega
              have hr : Reps g ((cs.drop off).take len) ((List.range len).map fun j => (w.cell? ⟨(g.loc s).1, (g.loc s).2.1 + off + j, none⟩).getD undef) := by
                refine ⟨by simp; omega, fun j c u a b => ?_⟩
                have hlt : j < len := by have := (List.getElem?_eq_some_iff.1 a).1; omega
                rw [List.getElem?_take, if_pos hlt, List.getElem?_drop] at a
                obtain ⟨_, v', hv', hr'⟩ := hb.rep _ c a
                simp [hlt] at b
                rw [Nat.add_assoc, hv'] at b
                simp at b
                subst b
                exact hr'
              obtain ⟨b1, b2⟩ := bytesOf_reps _ _ l hr hl
              have hll : len = l.length := by simpa using b1.symm
              refine ⟨g, _, w, ?_, G.le.refl g, h, .lit rfl⟩
              rw [hll]
              refine run_convert_bytes_back w src dst e _ cap l hs he' hd (fun j hj => ?_)
              rw [addr_add]
              have h1 := b2 j hj
              have hlt : j < len := by omega
              have hget : cs[off + j]? = some (cs[off + j]'(by omega)) := List.getElem?_eq_getElem _
              obtain ⟨_, v', hv', _⟩ := hb.rep _ _ hget
              simp [hlt] at h1
              rw [Nat.add_assoc, hv'] at h1
              simp at h1
              rw [Nat.add_assoc, hv', h1]
          · cases hc
        · cases hc
      · cases hc
    · rename_i e e' s off len sz k hs hd hno
      split at hc
      · rename_i he
        simp only [Bool.and_eq_true, beq_iff_eq] at he
        obtain ⟨rfl, he2⟩ := he
        have hee := hs.symm.trans hd
        cases hee
        have he' := byteT_inv he2
        split at hc
        · rename_i cs hcs
          cases hc
          obtain ⟨cap, rfl, hsn, hk, hl, hz0, hx0⟩ := hq.slice_inv
          have hb := h.cells s cs hcs
          have hrun : ∃ w', (convert src src (.slice (some ⟨(g.loc s).1, (g.loc s).2.1 + off, none⟩) len cap)).run P w = .ok (.slice (some ⟨(g.loc s).1, (g.loc s).2.1 + off, none⟩) len cap) w' ∧ SInv base w0 g st w' := by
            cases hh : w.heap[(g.loc s).1]? with
            | none =>
              refine ⟨w, ?_, h⟩
              simp [convert, run_underlying_of hs, run_underlying_of hd, run_underlying_of he', markStringish, shape, Sem.run, World.shape?, hh]
            | some o =>
              cases o with
              | cells c t f =>
                obtain ⟨lo, hi⟩ := f
                refine ⟨_, ?_, h.freeze hb.lo hh⟩
                simp [convert, run_underlying_of hs, run_underlying_of hd, run_underlying_of he', markStringish, shape, freeze, Sem.run, World.shape?, hh]
              | _ =>
                refine ⟨w, ?_, h⟩
                simp [convert, run_underlying_of hs, run_underlying_of hd, run_underlying_of he', markStringish, shape, Sem.run, World.shape?, hh]
          obtain ⟨w', h1, h2⟩ := hrun
          exact ⟨g, _, w', h1, G.le.refl g, h2, .slice hsn hk hl hz0 hx0⟩
        · cases hc
      · cases hc
    · cases hc

end
end Go.Proofs.YtjpehemkgikkdaaA
