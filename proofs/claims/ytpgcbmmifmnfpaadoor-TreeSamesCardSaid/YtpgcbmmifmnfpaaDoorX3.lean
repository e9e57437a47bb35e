/- Whole functions of the library: the contracts hold of the program. No condition. -/
import Derived.Test.YtpgcbmmifmnfpaaDoorEA
import Derived.Test.YtpgcbmmifmnfpaaDoorSH
import Derived.Lib.AppendIntMem
namespace Go.Proofs.YtpgcbmmifmnfpaaDoorV
open Go Go.RowKit Go.Proofs.YtpgcbmmifmnfpaaDoorA
set_option linter.unusedVariables false
set_option linter.unusedSimpArgs false
set_option maxRecDepth 100000

theorem lits_rep {g : G} : ∀ {args : List AVal} {vs us : List Value}, litsOf args = some vs → Reps g args us → us = vs
  | [], vs, us, h, hr => by
    cases h
    exact List.length_eq_zero_iff.1 (by simpa using hr.1)
  | a :: args, vs, us, h, hr => by
    cases a with
    | lit v =>
      obtain ⟨vs', h', rfl⟩ := Option.map_eq_some_iff.1 h
      match us, hr with
      | [], hr => exact absurd hr.1 (by simp)
      | u :: us, hr =>
        have e1 := (hr.2 0 _ u rfl rfl).flat
        have hr' : Reps g args us := ⟨by have := hr.1; simpa using this, fun j c x hc hx => hr.2 (j + 1) c x hc hx⟩
        rw [lits_rep h' hr', e1]
    | _ => cases h
theorem any_ptr {g : G} {T : TypeId} {N : Nat} : Rep g (.iface T (.iptr (.agg []))) (.iface T (.pointer (some ⟨N, 0, none⟩))) :=
  .iface (.iptr (f := fun _ => default) (fun j c h => by simp [AVal.cells] at h) (fun j c h => by simp [AVal.cells] at h) (fun c h => by simp [AVal.cells] at h))
theorem two_rep {g : G} {a b : AVal} {u v : Value} (h1 : Rep g a u) (h2 : Rep g b v) : Rep g (.tuple [a, b]) (.tuple #[u, v]) :=
  .tuple rfl fun j c x hc hx => by
    match j with
    | 0 => cases hc; cases hx; exact h1
    | 1 => cases hc; cases hx; exact h2
    | j + 2 => simp at hc
/-- what such a function answers -/
def Tells (F : List Value → Option AVal) (f : FuncId) (base : Nat) (w0 : World) : Prop := ∀ vs r w, F vs = some r → Below base w0 w → base ≤ w.heap.size →
  Calls Tryd.prog f vs.toArray w fun e w' => ∃ v, e = .returned v ∧ (∀ g, Rep g r v) ∧ Below w.heap.size w w'
theorem pure_ok {F : List Value → Option AVal} {f : FuncId} {base : Nat} {w0 : World} (h : Tells F f base w0) (args : List AVal) (st : ASt) (r : AEnd × ASt) (hr : purePrim F args st = some r) : CallOK E base w0 f args st r := by
  unfold purePrim at hr
  obtain ⟨vs, h1, h2⟩ := Option.bind_eq_some_iff.1 hr
  obtain ⟨x, h3, rfl⟩ := Option.map_eq_some_iff.1 h2
  intro g w us hinv hg hreps
  have e := lits_rep h1 hreps
  have e2 : us = vs.toArray := by rw [← e]
  subst e2
  refine (h vs x w h3 hinv.below hinv.base).mono fun e w' he => ?_
  obtain ⟨v, rfl, hv, hb⟩ := he
  exact ⟨g, G.le.refl g, hinv.grow hb (fun a b c d e f => a.mono b c d e f), hv g⟩
/-- what the world must be like for it -/
structure PW (base : Nat) (w0 : World) : Prop where
  tab : 2 < base ∧ Lib.TabIs Tryd.prog w0 "internal/strconv.uint64pow10" .u64 Lib.pow10Tab
theorem lt_of_cell {w : World} {k : Nat} {v : Value} (h : w.cell? ⟨k, 0, none⟩ = some v) : k < w.heap.size := by
  rcases Nat.lt_or_ge k w.heap.size with h' | h'
  · exact h'
  · simp [World.cell?, Array.getElem?_eq_none h'] at h
theorem PW.of {w0 : World}
    (h3 : Lib.TabIs Tryd.prog w0 "internal/strconv.uint64pow10" .u64 Lib.pow10Tab)
    : PW w0.heap.size w0 where
  tab := ⟨lt_of_cell (h3.cell (g := 2) (by kernel_rfl) 0 (by decide)), h3⟩
theorem PW.cell {base : Nat} {w0 w : World} {k : Nat} (h : Below base w0 w) (hk : k < base) : w.cell? ⟨k, 0, none⟩ = w0.cell? ⟨k, 0, none⟩ := by
  unfold World.cell?
  rw [h.block k hk]
theorem tab_at {base : Nat} {w0 w : World} (hw : PW base w0) (hb : Below base w0 w) : Lib.TabIs Tryd.prog w "internal/strconv.uint64pow10" .u64 Lib.pow10Tab := by
  obtain ⟨h1, h2⟩ := hw.tab
  unfold Lib.TabIs World.var? at *
  have e : Tryd.prog.globalNamed "internal/strconv.uint64pow10" = some 2 := by kernel_rfl
  rw [e] at h2 ⊢
  simp only [Option.bind_some] at h2 ⊢
  rw [hb.block _ h1]
  exact h2
theorem t_format {base : Nat} {w0 : World} (hw : PW base w0) : Tells formatF 56 base w0 := by
  intro vs r w h hb hn
  unfold formatF at h
  split at h
  case h_2 => cases h
  rename_i n
  split at h
  case isFalse => cases h
  rename_i hs
  cases h
  refine (Tryd.strconv_FormatInt_10 n hs.1 hs.2 w (tab_at hw hb)).mono fun e w' hw => ?_
  obtain ⟨rfl, k, os, rfl⟩ := hw
  exact ⟨_, rfl, fun g => .lit rfl, Lib.below_grow _ _ (Nat.le_refl _) _ _⟩
theorem t_itoa {base : Nat} {w0 : World} (hw : PW base w0) : Tells itoaF 43 base w0 := by
  intro vs r w h hb hn
  unfold itoaF at h
  split at h
  case h_2 => cases h
  rename_i n
  split at h
  case isFalse => cases h
  rename_i hs
  cases h
  refine (Tryd.strconv_Itoa n hs.1 hs.2 w (tab_at hw hb)).mono fun e w' hw => ?_
  obtain ⟨rfl, k, os, rfl⟩ := hw
  exact ⟨_, rfl, fun g => .lit rfl, Lib.below_grow _ _ (Nat.le_refl _) _ _⟩
theorem ascii_at {s : ByteArray} (h : asciiB s = true) (j : Nat) (b : UInt8) (hj : s.data.toList[j]? = some b) : b.toNat < 128 := of_decide_eq_true (List.all_eq_true.1 h b (List.mem_of_getElem? hj))
theorem t_cany {base : Nat} {w0 : World} : Tells canyF 49 base w0 := by
  intro vs r w h hb hn
  unfold canyF at h
  split at h
  case h_2 => cases h
  rename_i s p
  split at h
  case isFalse => cases h
  rename_i hs
  cases h
  refine (Tryd.strings_ContainsAny (fun w => by rfl) s p w hs.1 hs.2.1 (ascii_at hs.2.2.1) (ascii_at hs.2.2.2)).mono fun e w' hw => ?_
  obtain ⟨rfl, hw⟩ := hw
  exact ⟨_, rfl, fun g => .lit rfl, hw⟩
theorem strs_at : ∀ {es : List AVal} {xs : List ByteArray}, strsL es = some xs → es.length = xs.length ∧ ∀ (j : Nat) (x : ByteArray), xs[j]? = some x → es[j]? = some (.lit (.string x))
  | [], xs, h => by cases h; exact ⟨rfl, fun j x hj => by cases hj⟩
  | a :: es, xs, h => by
    cases a with
    | lit v =>
      cases v with
      | string s =>
        obtain ⟨ys, h1, rfl⟩ := Option.map_eq_some_iff.1 h
        have ih := strs_at h1
        refine ⟨by rw [List.length_cons, List.length_cons, ih.1], fun j x hj => ?_⟩
        match j with
        | 0 => cases hj; rfl
        | j + 1 => exact ih.2 j x hj
      | _ => cases h
    | _ => cases h
theorem join_ok {base : Nat} {w0 : World} (args : List AVal) (st : ASt) (r : AEnd × ASt) (hr : joinP args st = some r) : CallOK E base w0 39 args st r := by
  intro g w us hinv hg hreps
  have two : ∀ (v : AVal) (sep : ByteArray), args = [v, .lit (.string sep)] → ∃ u0, us = #[u0, .string sep] ∧ Rep g v u0 := by
    rintro v sep rfl
    have e0 := hreps.1
    obtain ⟨u0, u1, hus⟩ : ∃ u0 u1, us.toList = [u0, u1] := by
      match hq : us.toList, e0 with
      | [a, b], _ => exact ⟨a, b, rfl⟩
    have r1 := (hreps.2 1 _ u1 rfl (by rw [hus]; rfl)).flat
    subst r1
    exact ⟨u0, by rw [← Array.toList_inj, hus], hreps.2 0 _ u0 rfl (by rw [hus]; rfl)⟩
  unfold joinP at hr
  split at hr
  · cases hr
    obtain ⟨u0, rfl, r0⟩ := two _ _ rfl
    rw [r0.flat]
    refine (Tryd.strings_Join_none none 0 _ w).mono fun e w' hw => ?_
    obtain ⟨rfl, rfl⟩ := hw
    exact ⟨g, G.le.refl g, hinv, .lit rfl⟩
  · cases hr
    obtain ⟨u0, rfl, r0⟩ := two _ _ rfl
    cases r0 with
    | @islice _ _ cap _ B o f hlc hs hf hrep hc hk =>
      refine (Tryd.strings_Join_none (some ⟨B, o, none⟩) cap _ w).mono fun e w' hw => ?_
      obtain ⟨rfl, rfl⟩ := hw
      exact ⟨g, G.le.refl g, hinv, .lit rfl⟩
  case h_4 => cases hr
  rename_i a es c sep
  obtain ⟨xs, h1, h2⟩ := Option.bind_eq_some_iff.1 hr
  split at h2
  case isFalse => cases h2
  rename_i hb
  cases h2
  obtain ⟨hl, hat⟩ := strs_at h1
  obtain ⟨u0, rfl, r0⟩ := two _ _ rfl
  cases r0 with
  | @islice _ _ cap _ B o f hlc hs hf hrep hc hk =>
    have hcell : ∀ (j : Nat) x, xs[j]? = some x → w.cell? ⟨B, o + j, none⟩ = some (.string x) := by
      intro j x hj
      have h3 := hat j x hj
      have h4 := hf j _ 0 _ h3 rfl
      have h5 := (hrep j _ 0 _ h3 rfl).flat
      have h6 := hinv.fr _ _ _ h4
      rw [h5, Nat.mul_one, Nat.add_zero] at h6
      exact h6
    have hB : B < w.heap.size := by
      apply Nat.lt_of_not_le
      intro hle
      obtain ⟨x, hx⟩ : ∃ x, xs[0]? = some x := ⟨_, List.getElem?_eq_getElem (by rw [← hl]; simp)⟩
      have h4 := hf 0 _ 0 _ (hat 0 x hx) rfl
      rw [hinv.fresh B _ hle] at h4
      cases h4
    rw [hl] at hlc ⊢
    refine (Tryd.strings_Join B o cap xs sep w hcell hB hb.1 hlc hb.2).mono fun e w' hw => ?_
    obtain ⟨rfl, hw⟩ := hw
    exact ⟨g, G.le.refl g, hinv.grow hw (fun a b c d e f => a.mono b c d e f), .lit rfl⟩
theorem prim_ok {base : Nat} {w0 : World} (hw : PW base w0) : PrimOK E base w0 := by
  intro f p hp args st r h
  have e : E.prim f = prims f := rfl
  rw [e] at hp
  unfold prims at hp
  split at hp
  · rename_i hf; subst hf; cases hp; exact pure_ok (t_format hw) args st r h
  split at hp
  · rename_i hf; subst hf; cases hp; exact pure_ok (t_itoa hw) args st r h
  split at hp
  · rename_i hf; subst hf; cases hp; exact pure_ok t_cany args st r h
  split at hp
  · rename_i hf; subst hf; cases hp; exact join_ok args st r h
  cases hp

/-- its answer, to a caller -/
theorem rw_prim {f : FuncId} {args : List AVal} {st : ASt} {F : List Value → Option AVal} {vs : List Value} {r : AVal} (hp : prims f = some (purePrim F)) (h1 : litsOf args = some vs) (h2 : F vs = some r) : rw E f args st = some (.returned r, st) := by
  refine rw_of (n := 1) ?_
  show acall E (drawB E) 1 f args st = _
  have hp' : E.prim f = some (purePrim F) := hp
  unfold acall
  rw [hp']
  show purePrim F args st = _
  unfold purePrim
  rw [h1, Option.bind_some, h2]
  rfl
end Go.Proofs.YtpgcbmmifmnfpaaDoorV
