/- Appending, the second part. No condition. -/
import Derived.Test.YtjpehemkgikkdaaA9
namespace Go.Proofs.YtjpehemkgikkdaaA
open Go Go.RowKit
set_option linter.unusedVariables false
set_option linter.unusedSimpArgs false

section
variable {P : Program} {w : World}

theorem zeroCells_size (z : Array Value) (n : Nat) : (Builtin.zeroCells z n).size = n * z.size := by simp [Builtin.zeroCells]

/-- a slice that grows -/
theorem grow_sound {base : Nat} {w0 : World} {g : G} {st : ASt} (h : SInv base w0 g st w) {t tx ty e : TypeId} {i : TypeInfo} {z : AVal} {agg mt : Bool} (hu : P.underlying t = some (.slice e)) (hi : P.info? e = some i) (hz : zeroA P e = some z)
    (h0 : 0 < i.size) (hb : i.bytes ≤ 4096) (hzok : elemOk agg i.size z = true) {bs : Option Addr} {sCap : Nat} {es news : List AVal} {olds vs : List Value} {q : Value}
    (hes : ∀ x ∈ es, elemOk agg i.size x = true) (hnews : ∀ x ∈ news, elemOk agg i.size x = true) (ho : Reps g (flatE es) olds) (hn : Reps g (flatE news) vs)
    (hold : (Builtin.firstCells i.size es.length (.slice bs es.length sCap)).run P w.drew = .ok olds.toArray w.drew) (hsrc : Src P i.size tx q news.length vs w) (hcap : sCap < es.length + news.length) (hmax : es.length + news.length ≤ 1073741824) :
    ∃ g' u w', (Builtin.append_ #[t, tx] ty #[.slice bs es.length sCap, q]).run P w = .ok u w' ∧ g.le g' ∧ SInv base w0 g' (grownA mt i.size (es ++ news) st).2 w' ∧ Rep g' (grownA mt i.size (es ++ news) st).1 u := by
  obtain ⟨i', z0, hi', hz0, habs⟩ := zeroA_inv hz
  rw [hi] at hi'
  cases hi'
  obtain ⟨_, hcell, hr⟩ := absVal_rep (g := g) habs
  have hzs : z0.cells.size = i.size := by have := hr.1; have := elemOk_len hzok; simp at *; omega
  have hnext := nextslicecap_le hcap
  have hrun := run_append_grow_src (P := P) w t tx ty e i z0 hu hi hz0 bs es.length sCap olds hold q news.length vs hsrc hcap (by omega) (by
    calc Builtin.nextslicecap (es.length + news.length) sCap * i.bytes ≤ (2 * 1073741824) * 4096 := Nat.mul_le_mul (by omega) hb
      _ ≤ 281474976710656 := by omega)
  have hge : es.length + news.length ≤ grownCap w (es.length + news.length) sCap e := grownCap_ge w _ _ _
  generalize hC : grownCap w (es.length + news.length) sCap e = C at *
  have hall : Reps g (flatE (es ++ news)) (olds ++ vs) := by rw [flatE_append]; exact ho.append hn
  have hok : ∀ x ∈ es ++ news, elemOk agg i.size x = true := fun x hx => (List.mem_append.1 hx).elim (hes x) (hnews x)
  have hlen : (flatE (es ++ news)).length = (es.length + news.length) * i.size := by rw [elems_len hok, List.length_append]
  have hpre : ((olds ++ vs).toArray).size = (es.length + news.length) * i.size := by rw [← hlen, ← hall.1]; simp
  let us := (olds ++ vs).toArray ++ Builtin.zeroCells z0.cells (C - (es.length + news.length))
  have hsize : us.size = C * i.size := by
    show ((olds ++ vs).toArray ++ Builtin.zeroCells z0.cells (C - (es.length + news.length))).size = _
    rw [Array.size_append, hpre, zeroCells_size, hzs, ← Nat.add_mul]
    congr 1
    omega
  have hpget : ∀ (j : Nat) (u : Value), (olds ++ vs)[j]? = some u → us[j]? = some u := by
    intro j u hj
    have hlt := (List.getElem?_eq_some_iff.1 hj).1
    show ((olds ++ vs).toArray ++ Builtin.zeroCells z0.cells (C - (es.length + news.length)))[j]? = some u
    rw [Array.getElem?_append_left (by simpa using hlt)]
    simpa using hj
  have hd := h.drew
  have hlen2 : (es ++ news).length = es.length + news.length := by simp
  cases mt with
  | false =>
    obtain ⟨hle, hinv⟩ := hd.row us e ((es.length + news.length) * i.size) (by rw [hsize]; exact Nat.mul_le_mul_right _ hge) [] (fun j c hj => by simp at hj)
    refine ⟨_, _, _, hrun, hle, hinv, ?_⟩
    show Rep _ (.islice i.size (es ++ news) (.tok st.ctr)) _
    have key := rep_islice_row (agg := agg) (us := (olds ++ vs).toArray) (B := w.heap.size) (o := 0) (cap := C) (k := .tok st.ctr) hok hall hle (fun j u hj => ?_) (by rw [hlen2]; exact hge) ?_
    · rw [hlen2] at key; exact key
    · have hj' : (olds ++ vs)[j]? = some u := by simpa using hj
      have hlt := (List.getElem?_eq_some_iff.1 hj').1
      have : (olds ++ vs).length = (es.length + news.length) * i.size := by rw [← hpre]; simp
      simp only [G.row, Nat.zero_add]
      rw [if_pos (show w.heap.size = w.drew.heap.size from rfl), if_pos (by omega), hpget j u hj']
    · refine ⟨by simp [G.row, h.n], by simp [G.row, h.n], by simp [G.row, h.n, hlen2], ?_⟩
      simp [G.row, h.n, hsize]
  | true =>
    obtain ⟨hle, hinv⟩ := hd.row us e 0 (Nat.zero_le _) (flatE (es ++ news)) (fun j c hj => by
      have hlt := (List.getElem?_eq_some_iff.1 hj).1
      have h1 : (olds ++ vs)[j]? = some ((olds ++ vs)[j]'(by rw [hall.1]; exact hlt)) := List.getElem?_eq_getElem _
      exact ⟨elems_cell hok c (List.mem_of_getElem? hj), _, by rw [Nat.zero_add]; exact hpget j _ h1, hall.2 j c _ hj h1⟩)
    refine ⟨_, _, _, hrun, hle, hinv, ?_⟩
    show Rep _ (.slice st.ctr 0 (es ++ news).length i.size none) _
    rw [hlen2]
    have hloc : (g.row w.drew.heap.size 0 us).loc st.ctr = (w.drew.heap.size, 0, us.size) := by simp [G.row, h.n]
    have := Rep.slice (g := g.row w.drew.heap.size 0 us) (s := st.ctr) (off := 0) (len := es.length + news.length) (sz := i.size) (cap := C) (kc := none) (by simp [G.row, h.n]) (fun k hk => by cases hk) hge h0
      (fun _ => by rw [hloc, hsize]; simp)
    rw [hloc] at this
    exact this

/-- what was read before is read still behind a draw -/
theorem firstCells_of {a : Addr} {sz n c : Nat} {us : List Value} (hl : us.length = n * sz) (h : ∀ (j : Nat) (v : Value), us[j]? = some v → w.cell? (a.add j) = some v) :
    (Builtin.firstCells sz n (.slice (some a) n c)).run P w.drew = .ok us.toArray w.drew :=
  run_firstCells_some w.drew sz n a n c us hl (by simpa using h)

theorem append_sound {base : Nat} {w0 : World} {g : G} {st st' : ASt} (h : SInv base w0 g st w) {mt : Bool} {t tx ty : TypeId} {s x v : AVal} {p q : Value} (hp : Rep g s p) (hq : Rep g x q) (ha : appendA P mt t tx s x st = some (v, st')) :
    ∃ g' u w', (Builtin.append_ #[t, tx] ty #[p, q]).run P w = .ok u w' ∧ g.le g' ∧ SInv base w0 g' st' w' ∧ Rep g' v u := by
  unfold appendA at ha
  split at ha
  · rename_i e he
    have hu := sliceElem_inv he
    split at ha
    · rename_i i agg z hi hagg hz
      split at ha
      · rename_i hcond
        obtain ⟨h0, hbytes, hzok⟩ := hcond
        have hsz : szOf P e = some i.size := by simp [szOf, hi]
        split at ha
        · rename_i news hnews
          obtain ⟨vs, hsrc, hnr, hnok⟩ := src_sound (P := P) h hsz hagg hq hnews
          split at ha
          · -- nothing is appended
            rename_i hnil
            subst hnil
            have hvs : vs = [] := by have := hnr.1; simpa [flatE] using this
            subst hvs
            split at ha
            · cases ha
              have := hp.flat
              subst this
              exact ⟨g, _, w, run_append_nothing w t tx ty e i hu hi none 0 0 (Nat.le_refl _) q hsrc, G.le.refl g, h, hp⟩
            · cases ha
              obtain ⟨cap, B, o, f, rfl, hl, _⟩ := hp.islice_inv
              exact ⟨g, _, w, run_append_nothing w t tx ty e i hu hi _ _ _ hl q hsrc, G.le.refl g, h, hp⟩
            · cases ha
              obtain ⟨cap, rfl, _, _, hl, _⟩ := hp.slice_inv
              exact ⟨g, _, w, run_append_nothing w t tx ty e i hu hi _ _ _ hl q hsrc, G.le.refl g, h, hp⟩
            · cases ha
          · rename_i hnil
            have hpos : 0 < news.length := List.length_pos_iff.2 hnil
            split at ha
            · -- onto nothing
              split at ha
              · rename_i hmax
                have ha := Option.some.inj ha
                have a1 := congrArg Prod.fst ha
                have a2 := congrArg Prod.snd ha
                simp only at a1 a2
                subst a1
                subst a2
                have := hp.flat
                subst this
                have := grow_sound (P := P) (t := t) (tx := tx) (ty := ty) (mt := mt) h hu hi hz h0 hbytes hzok (bs := none) (sCap := 0) (es := []) (olds := []) (fun x hx => by simp at hx) hnok ⟨rfl, fun j c u a b => by simp at b⟩ hnr
                  (run_firstCells_none w.drew i.size 0 0 0) hsrc (by simpa using hpos) (by simpa using hmax)
                simpa using this
              · cases ha
            · -- onto what is never written again
              rename_i sz es k
              split at ha
              · rename_i hc
                obtain ⟨rfl, hok, hmax⟩ := hc
                have hok' : ∀ x ∈ es, elemOk agg i.size x = true := fun x hm => List.all_eq_true.1 hok x hm
                obtain ⟨cap, B, o, f, rfl, hl, hs1, hf, hf2, hcc, hk⟩ := hp.islice_inv
                obtain ⟨us, r1, r2⟩ := islice_flat (g := g) (B := B) (o := o) (f := f) es 0 hs1 (fun i e j c hi hj => by simpa using hf i e j c hi hj) (fun i e j c hi hj => by simpa using hf2 i e j c hi hj)
                have hread : ∀ (j : Nat) (v : Value), us[j]? = some v → w.cell? ((⟨B, o, none⟩ : Addr).add j) = some v := fun j v hj => by
                  rw [addr_add]
                  have := r2 j v hj
                  rw [Nat.zero_mul, Nat.zero_add] at this
                  exact h.fr _ _ _ this
                have hul : us.length = es.length * i.size := by rw [r1.1, elems_len hok']
                split at ha
                · -- no room
                  have ha := Option.some.inj ha
                  have a1 := congrArg Prod.fst ha
                  have a2 := congrArg Prod.snd ha
                  simp only at a1 a2
                  subst a1
                  subst a2
                  have hk' : cap = es.length := hk
                  subst hk'
                  exact grow_sound (P := P) (mt := mt) h hu hi hz h0 hbytes hzok hok' hnok r1 hnr (firstCells_of hul hread) hsrc (by omega) hmax
                · rename_i tk
                  split at ha
                  · cases ha
                  · split at ha
                    · rename_i cs0 htk
                      cases ha
                      obtain ⟨k1, k2, k3, k4⟩ := hk
                      rcases Nat.lt_or_ge cap (es.length + news.length) with hlt | hge
                      · have := grow_sound (P := P) (t := t) (tx := tx) (ty := ty) (mt := false) (h.kill tk) hu hi hz h0 hbytes hzok hok' hnok r1 hnr (firstCells_of hul hread) hsrc hlt hmax
                        exact this
                      · -- there is room
                        have hb := h.cells tk cs0 htk
                        have hvl : vs.length = news.length * i.size := hsrc.newsLen
                        have hfits : o + es.length * i.size + vs.length ≤ o + cap * i.size := by
                          rw [hvl, Nat.add_assoc, ← Nat.add_mul]
                          exact Nat.add_le_add_left (Nat.mul_le_mul_right _ hge) _
                        have hrun := run_append_room_src (P := P) w t tx ty e i hu hi B o es.length cap q news.length vs hsrc hge
                          (fun j hj => by have := hb.there (o + es.length * i.size + j) (by rw [k3]; omega) (by rw [k4]; omega); rwa [k2] at this)
                          (fun j hj => by have := hb.open_ (o + es.length * i.size + j) (by rw [k3]; omega) (by rw [k4]; omega); rwa [k2] at this)
                        have hthere : ∀ j, j < vs.length → (w.cell? ⟨B, o + es.length * i.size + j, none⟩).isSome = true := fun j hj => by
                          have := hb.there (o + es.length * i.size + j) (by rw [k3]; omega) (by rw [k4]; omega); rwa [k2] at this
                        have hin := World.cell?_setCells_in B vs (o + es.length * i.size) w hthere
                        obtain ⟨hle, hinv⟩ := h.re htk vs (o + es.length * i.size) (o + es.length * i.size + vs.length) (by rw [k3]; exact Nat.le_refl _) (by rw [k4]; exact hfits) (by rw [k3]; exact Nat.le_add_right _ _) (by rw [k4]; exact hfits)
                          (fun j => vs[j - (o + es.length * i.size)]?)
                          (fun j v h1 h2 hv => by
                            rw [k3] at h1
                            have hlt := (List.getElem?_eq_some_iff.1 hv).1
                            have := hin (j - (o + es.length * i.size)) hlt
                            rw [show o + es.length * i.size + (j - (o + es.length * i.size)) = j by omega] at this
                            rw [k2, this]
                            rw [List.getElem?_eq_getElem hlt] at hv
                            exact hv) [] (by rw [k4]; simpa using hfits) (fun j c hj => by simp at hj)
                        refine ⟨_, _, _, by rw [k2] at *; exact hrun, hle, by rw [k2] at hinv; simpa [k2] using hinv, ?_⟩
                        have hall : Reps g (flatE (es ++ news)) (us ++ vs) := by rw [flatE_append]; exact r1.append hnr
                        have hokall : ∀ x ∈ es ++ news, elemOk agg i.size x = true := fun x hx => (List.mem_append.1 hx).elim (hok' x) (hnok x)
                        show Rep _ (.islice i.size (es ++ news) (.tok st.ctr)) _
                        rw [← List.length_append]
                        refine rep_islice_row (agg := agg) (us := (us ++ vs).toArray) hokall hall hle (fun j u hj => ?_) (by rw [List.length_append]; exact hge) ?_
                        · have hj' : (us ++ vs)[j]? = some u := by simpa using hj
                          rw [List.getElem?_append] at hj'
                          split at hj'
                          · have := r2 j u hj'
                            rw [Nat.zero_mul, Nat.zero_add] at this
                            exact hle.frozen _ _ _ this
                          · rename_i hjn
                            have hlt := (List.getElem?_eq_some_iff.1 hj').1
                            simp only [G.re]
                            rw [if_pos ⟨k2.symm, by rw [k3]; omega, by rw [k4]; omega⟩, if_pos (by omega)]
                            rw [show o + j - (o + es.length * i.size) = j - us.length by omega, hj']
                        · refine ⟨by simp [G.re, h.n], by simp [G.re, h.n, k2], ?_, by simp [G.re, h.n, k4]⟩
                          simp only [G.re, h.n, if_true, List.length_append]
                          rw [hvl, Nat.add_mul]
                          omega
                    · cases ha
                · cases ha
              · cases ha
            · -- onto a block
              rename_i s0 off len sz cap
              split at ha
              · rename_i hc
                obtain ⟨rfl, hmax⟩ := hc
                split at ha
                · rename_i cs hcs
                  split at ha
                  · rename_i es hch
                    split at ha
                    · rename_i hok
                      have hok' : ∀ x ∈ es, elemOk agg i.size x = true := fun x hm => List.all_eq_true.1 hok x hm
                      obtain ⟨i1, us, r1, r2, r3⟩ := slice_cells h hp hcs hsz hagg hch hok'
                      obtain ⟨cap', rfl, hsn, hkc, hl, hz0, hx0⟩ := hp.slice_inv
                      have hb := h.cells s0 cs hcs
                      subst i1
                      have hread : ∀ (j : Nat) (v : Value), us[j]? = some v → w.cell? ((⟨(g.loc s0).1, (g.loc s0).2.1 + off, none⟩ : Addr).add j) = some v := fun j v hj => by rw [addr_add]; exact r3 j v hj
                      split at ha
                      · -- nothing is known of the capacity
                        cases ha
                        rcases Nat.lt_or_ge cap' (es.length + news.length) with hlt | hge
                        · exact grow_sound (P := P) (t := t) (tx := tx) (ty := ty) (mt := true) (h.kill s0) hu hi hz h0 hbytes hzok hok' hnok r1 hnr (firstCells_of r2 hread) hsrc hlt hmax
                        · have hvl : vs.length = news.length * i.size := hsrc.newsLen
                          have hend := hx0 rfl
                          have hfits : (g.loc s0).2.1 + off + es.length * i.size + vs.length ≤ (g.loc s0).2.2 := by
                            rw [← hend, hvl, Nat.add_assoc _ (es.length * i.size), ← Nat.add_mul]
                            exact Nat.add_le_add_left (Nat.mul_le_mul_right _ hge) _
                          have hrun := run_append_room_src (P := P) w t tx ty e i hu hi (g.loc s0).1 ((g.loc s0).2.1 + off) es.length cap' q news.length vs hsrc hge
                            (fun j hj => hb.there _ (by omega) (by omega)) (fun j hj => hb.open_ _ (by omega) (by omega))
                          have hin := World.cell?_setCells_in (g.loc s0).1 vs ((g.loc s0).2.1 + off + es.length * i.size) w (fun j hj => hb.there _ (by omega) (by omega))
                          have hokall : ∀ x ∈ es ++ news, elemOk agg i.size x = true := fun x hx => (List.mem_append.1 hx).elim (hok' x) (hnok x)
                          have hlen : (flatE (es ++ news)).length = (es.length + news.length) * i.size := by rw [elems_len hokall, List.length_append]
                          have hall : Reps g (flatE (es ++ news)) (us ++ vs) := by rw [flatE_append]; exact r1.append hnr
                          obtain ⟨hle, hinv⟩ := h.re hcs vs ((g.loc s0).2.1 + off + es.length * i.size) ((g.loc s0).2.1 + off) (by omega) hfits (by omega) (by omega) (fun _ => none) (fun j v _ _ hv => by cases hv) (flatE (es ++ news))
                            (by rw [hlen, Nat.add_mul]; omega) (fun j c hj => by
                              refine ⟨elems_cell hokall c (List.mem_of_getElem? hj), ?_⟩
                              have hlt := (List.getElem?_eq_some_iff.1 hj).1
                              have h1 : (us ++ vs)[j]? = some ((us ++ vs)[j]'(by rw [hall.1]; exact hlt)) := List.getElem?_eq_getElem _
                              refine ⟨_, ?_, hall.2 j c _ hj h1⟩
                              generalize (us ++ vs)[j]'(by rw [hall.1]; exact hlt) = u at h1
                              rw [List.getElem?_append] at h1
                              split at h1
                              · rename_i hjl
                                rw [World.cell?_setCells_out _ _ _ _ _ (fun _ _ => .inl (by simp only; omega))]
                                exact r3 j u h1
                              · rename_i hjl
                                have hlt2 := (List.getElem?_eq_some_iff.1 h1).1
                                have := hin (j - us.length) hlt2
                                rw [show (g.loc s0).2.1 + off + es.length * i.size + (j - us.length) = (g.loc s0).2.1 + off + j by omega] at this
                                rw [this, ← List.getElem?_eq_getElem hlt2]
                                exact h1)
                          refine ⟨_, _, _, hrun, hle, hinv, ?_⟩
                          show Rep _ (.slice st.ctr 0 (es ++ news).length i.size none) _
                          rw [List.length_append]
                          have hloc : (g.re s0 ((g.loc s0).2.1 + off) (fun _ => none)).loc st.ctr = ((g.loc s0).1, (g.loc s0).2.1 + off, (g.loc s0).2.2) := by simp [G.re, h.n]
                          have := Rep.slice (g := g.re s0 ((g.loc s0).2.1 + off) (fun _ => none)) (s := st.ctr) (off := 0) (len := es.length + news.length) (sz := i.size) (cap := cap') (kc := none) (by simp [G.re, h.n]) (fun k hk => by cases hk) hge h0
                            (fun _ => by rw [hloc]; simpa using hend)
                          rw [hloc] at this
                          exact this
                      · rename_i c
                        have hcc := hkc c rfl
                        subst hcc
                        split at ha
                        · rename_i hroom
                          split at ha
                          · rename_i hin
                            cases ha
                            have hvl : vs.length = news.length * i.size := hsrc.newsLen
                            have hfit := hb.fits
                            have hle2 : off + es.length * i.size + vs.length ≤ cs.length := by rw [hvl, Nat.add_assoc, ← Nat.add_mul]; exact hin
                            have hrun := run_append_room_src (P := P) w t tx ty e i hu hi (g.loc s0).1 ((g.loc s0).2.1 + off) es.length cap' q news.length vs hsrc hroom
                              (fun j hj => hb.there _ (by omega) (by omega)) (fun j hj => hb.open_ _ (by omega) (by omega))
                            have hst := store_many (g := g) (flatE news) vs cs (off + es.length * i.size) st w h hcs (by rw [← hnr.1]; omega) (elems_cell hnok) hnr
                            refine ⟨g, _, _, hrun, G.le.refl g, by rw [Nat.add_assoc (g.loc s0).2.1]; exact hst, ?_⟩
                            exact .slice hsn (fun k hk => by cases hk; rfl) hroom hz0 (fun hk => by cases hk)
                          · cases ha
                        · rename_i hroom
                          have ha := Option.some.inj ha
                          have a1 := congrArg Prod.fst ha
                          have a2 := congrArg Prod.snd ha
                          simp only at a1 a2
                          subst a1
                          subst a2
                          exact grow_sound (P := P) (mt := mt) h hu hi hz h0 hbytes hzok hok' hnok r1 hnr (firstCells_of r2 hread) hsrc (by omega) hmax
                    · cases ha
                  · cases ha
                · cases ha
              · cases ha
            · cases ha
        · cases ha
      · cases ha
    · cases ha
  · cases ha

end
end Go.Proofs.YtjpehemkgikkdaaA
