/- Whole functions of the library: the contracts hold of the program. No condition. -/
import Derived.Test.YtlpdplchcpkajaaDoorEA
import Derived.Test.YtlpdplchcpkajaaDoorSH
import Derived.Lib.AppendIntMem
namespace Go.Proofs.YtlpdplchcpkajaaDoorV
open Go Go.RowKit Go.Proofs.YtlpdplchcpkajaaDoorA
set_option linter.unusedVariables false
set_option linter.unusedSimpArgs false
set_option maxRecDepth 100000

theorem lits_rep {g : G} : ∀ {args : List AVal} {vs us : List Value}, litsOf args = some vs → Reps g args us → us = vs
  | [], vs, us, h, hr => by
    cases h
    exact List.length_eq_zero_iff.1 (by simpa using hr.1)
  | a :: args, vs, us, h, hr => by
    cases a with
    | lit v =>
      obtain ⟨vs', h', rfl⟩ := Option.map_eq_some_iff.1 h
      match us, hr with
      | [], hr => exact absurd hr.1 (by simp)
      | u :: us, hr =>
        have e1 := (hr.2 0 _ u rfl rfl).flat
        have hr' : Reps g args us := ⟨by have := hr.1; simpa using this, fun j c x hc hx => hr.2 (j + 1) c x hc hx⟩
        rw [lits_rep h' hr', e1]
    | _ => cases h
theorem any_ptr {g : G} {T : TypeId} {N : Nat} : Rep g (.iface T (.iptr (.agg []))) (.iface T (.pointer (some ⟨N, 0, none⟩))) :=
  .iface (.iptr (f := fun _ => default) (fun j c h => by simp [AVal.cells] at h) (fun j c h => by simp [AVal.cells] at h) (fun c h => by simp [AVal.cells] at h))
theorem two_rep {g : G} {a b : AVal} {u v : Value} (h1 : Rep g a u) (h2 : Rep g b v) : Rep g (.tuple [a, b]) (.tuple #[u, v]) :=
  .tuple rfl fun j c x hc hx => by
    match j with
    | 0 => cases hc; cases hx; exact h1
    | 1 => cases hc; cases hx; exact h2
    | j + 2 => simp at hc
/-- what such a function answers -/
def Tells (F : List Value → Option AVal) (f : FuncId) (base : Nat) (w0 : World) : Prop := ∀ vs r w, F vs = some r → Below base w0 w → base ≤ w.heap.size →
  Calls Tryd.prog f vs.toArray w fun e w' => ∃ v, e = .returned v ∧ (∀ g, Rep g r v) ∧ Below w.heap.size w w'
theorem pure_ok {F : List Value → Option AVal} {f : FuncId} {base : Nat} {w0 : World} (h : Tells F f base w0) (args : List AVal) (st : ASt) (r : AEnd × ASt) (hr : purePrim F args st = some r) : CallOK E base w0 f args st r := by
  unfold purePrim at hr
  obtain ⟨vs, h1, h2⟩ := Option.bind_eq_some_iff.1 hr
  obtain ⟨x, h3, rfl⟩ := Option.map_eq_some_iff.1 h2
  intro g w us hinv hg hreps
  have e := lits_rep h1 hreps
  have e2 : us = vs.toArray := by rw [← e]
  subst e2
  refine (h vs x w h3 hinv.below hinv.base).mono fun e w' he => ?_
  obtain ⟨v, rfl, hv, hb⟩ := he
  exact ⟨g, G.le.refl g, hinv.grow hb (fun a b c d e f => a.mono b c d e f), hv g⟩
/-- what the world must be like for it -/
structure PW (base : Nat) (w0 : World) : Prop where
  syn : 3 < base ∧ ∃ t p, w0.cell? ⟨3, 0, none⟩ = some (.iface t p)
  rng : 4 < base ∧ ∃ t p, w0.cell? ⟨4, 0, none⟩ = some (.iface t p)
  tab : 2 < base ∧ Lib.TabIs Tryd.prog w0 "internal/strconv.uint64pow10" .u64 Lib.pow10Tab
  mlen : 0 < base ∧ ∃ m, w0.cell? ⟨0, 0, none⟩ = some (.int .i64 m)
theorem lt_of_cell {w : World} {k : Nat} {v : Value} (h : w.cell? ⟨k, 0, none⟩ = some v) : k < w.heap.size := by
  rcases Nat.lt_or_ge k w.heap.size with h' | h'
  · exact h'
  · simp [World.cell?, Array.getElem?_eq_none h'] at h
theorem PW.of {w0 : World} (h1 : ∃ t p, w0.cell? ⟨3, 0, none⟩ = some (.iface t p)) (h2 : ∃ t p, w0.cell? ⟨4, 0, none⟩ = some (.iface t p))
    (h3 : Lib.TabIs Tryd.prog w0 "internal/strconv.uint64pow10" .u64 Lib.pow10Tab)
    (h4 : ∃ m, w0.cell? ⟨0, 0, none⟩ = some (.int .i64 m))
    : PW w0.heap.size w0 where
  syn := by obtain ⟨t, p, h⟩ := h1; exact ⟨lt_of_cell h, t, p, h⟩
  rng := by obtain ⟨t, p, h⟩ := h2; exact ⟨lt_of_cell h, t, p, h⟩
  tab := ⟨lt_of_cell (h3.cell (g := 2) (by kernel_rfl) 0 (by decide)), h3⟩
  mlen := by obtain ⟨m, h⟩ := h4; exact ⟨lt_of_cell h, m, h⟩
theorem PW.cell {base : Nat} {w0 w : World} {k : Nat} (h : Below base w0 w) (hk : k < base) : w.cell? ⟨k, 0, none⟩ = w0.cell? ⟨k, 0, none⟩ := by
  unfold World.cell?
  rw [h.block k hk]
theorem t_parse {base : Nat} {w0 : World} (hw : PW base w0) : Tells (parseF 151) 86 base w0 := by
  intro vs r w h hb hn
  obtain ⟨h1, t1, p1, h3⟩ := hw.syn
  obtain ⟨h2, t2, p2, h4⟩ := hw.rng
  unfold parseF at h
  split at h
  case h_2 => cases h
  rename_i s
  split at h
  case isFalse => cases h
  rename_i hs
  cases h
  cases hq : Lib.parseIntB 32 s.data.toList with
  | ok v =>
    refine (Tryd.strconv_ParseInt_10_at32_ok s (by omega) v hq w).mono fun e w' hw => ?_
    obtain ⟨rfl, hw⟩ := hw
    refine ⟨_, rfl, fun g => two_rep (.lit rfl) (.lit rfl), ?_⟩
    rcases hw with rfl | ⟨t, rfl⟩
    · exact Below.refl _ _
    · exact Lib.bytesWorld_below _ _ _
  | range =>
    refine (Tryd.strconv_ParseInt_10_at32_range s hs hq (.iface t2 p2) w (by rw [PW.cell hb h2]; exact h4) (.inr ⟨t2, p2, rfl⟩)).mono fun e w' hw => ?_
    obtain ⟨N, rfl, _, _, hbel⟩ := hw
    exact ⟨_, rfl, fun g => two_rep (.lit rfl) any_ptr, hbel⟩
  | _ =>
    refine (Any.strconv_ParseInt_10_at32_syntax Tryd.laysC174 s hs hq (.iface t1 p1) w (by show w.cell? ⟨3, 0, none⟩ = _; rw [PW.cell hb h1]; exact h3) (.inr ⟨t1, p1, rfl⟩)).mono fun e w' hw => ?_
    obtain ⟨N, rfl, _, _, hbel⟩ := hw
    exact ⟨_, rfl, fun g => two_rep (.lit rfl) any_ptr, hbel⟩
theorem tab_at {base : Nat} {w0 w : World} (hw : PW base w0) (hb : Below base w0 w) : Lib.TabIs Tryd.prog w "internal/strconv.uint64pow10" .u64 Lib.pow10Tab := by
  obtain ⟨h1, h2⟩ := hw.tab
  unfold Lib.TabIs World.var? at *
  have e : Tryd.prog.globalNamed "internal/strconv.uint64pow10" = some 2 := by kernel_rfl
  rw [e] at h2 ⊢
  simp only [Option.bind_some] at h2 ⊢
  rw [hb.block _ h1]
  exact h2
theorem t_format {base : Nat} {w0 : World} (hw : PW base w0) : Tells formatF 84 base w0 := by
  intro vs r w h hb hn
  unfold formatF at h
  split at h
  case h_2 => cases h
  rename_i n
  split at h
  case isFalse => cases h
  rename_i hs
  cases h
  refine (Tryd.strconv_FormatInt_10 n hs.1 hs.2 w (tab_at hw hb)).mono fun e w' hw => ?_
  obtain ⟨rfl, k, os, rfl⟩ := hw
  exact ⟨_, rfl, fun g => .lit rfl, Lib.below_grow _ _ (Nat.le_refl _) _ _⟩
theorem t_cutsuf {base : Nat} {w0 : World} : Tells cutsufF 69 base w0 := by
  intro vs r w h hb hn
  unfold cutsufF at h
  split at h
  case h_2 => cases h
  rename_i s p
  split at h
  case isFalse => cases h
  rename_i hs
  cases h
  refine (Tryd.strings_CutSuffix s p w hs).mono fun e w' hw => ?_
  obtain ⟨rfl, rfl⟩ := hw
  exact ⟨_, rfl, fun g => two_rep (.lit rfl) (.lit rfl), Below.refl _ _⟩
theorem t_lastix {base : Nat} {w0 : World} : Tells lastixF 71 base w0 := by
  intro vs r w h hb hn
  unfold lastixF at h
  split at h
  case h_2 => cases h
  rename_i s c
  split at h
  case isFalse => cases h
  rename_i hs
  cases h
  refine (Tryd.strings_LastIndexByte s c hs w).mono fun e w' hw => ?_
  obtain ⟨rfl, rfl⟩ := hw
  exact ⟨_, rfl, fun g => .lit rfl, Below.refl _ _⟩
theorem t_ixbyte {base : Nat} {w0 : World} : Tells ixbyteF 53 base w0 := by
  intro vs r w h hb hn
  unfold ixbyteF at h
  split at h
  case h_2 => cases h
  rename_i s c
  cases h
  refine (Tryd.strings_IndexByte s c w).mono fun e w' hw => ?_
  obtain ⟨rfl, rfl⟩ := hw
  exact ⟨_, rfl, fun g => .lit rfl, Below.refl _ _⟩
theorem t_haspref {base : Nat} {w0 : World} : Tells hasprefF 26 base w0 := by
  intro vs r w h hb hn
  unfold hasprefF at h
  split at h
  case h_2 => cases h
  rename_i s p
  cases h
  refine (Tryd.strings_HasPrefix s p w).mono fun e w' hw => ?_
  obtain ⟨rfl, rfl⟩ := hw
  exact ⟨_, rfl, fun g => .lit rfl, Below.refl _ _⟩
theorem t_contains {base : Nat} {w0 : World} (hw : PW base w0) : Tells containsF 29 base w0 := by
  intro vs r w h hb hn
  obtain ⟨h1, m, h3⟩ := hw.mlen
  unfold containsF at h
  split at h
  case h_2 => cases h
  rename_i s p
  split at h
  case isFalse => cases h
  rename_i hs
  cases h
  refine (Tryd.strings_Contains s p m w hs (by rw [PW.cell hb h1]; exact h3)).mono fun e w' hw => ?_
  obtain ⟨rfl, rfl⟩ := hw
  exact ⟨_, rfl, fun g => .lit rfl, Below.refl _ _⟩
theorem prim_ok {base : Nat} {w0 : World} (hw : PW base w0) : PrimOK E base w0 := by
  intro f p hp args st r h
  have e : E.prim f = prims f := rfl
  rw [e] at hp
  unfold prims at hp
  split at hp
  · rename_i hf; subst hf; cases hp; exact pure_ok (t_parse hw) args st r h
  split at hp
  · rename_i hf; subst hf; cases hp; exact pure_ok (t_format hw) args st r h
  split at hp
  · rename_i hf; subst hf; cases hp; exact pure_ok t_cutsuf args st r h
  split at hp
  · rename_i hf; subst hf; cases hp; exact pure_ok t_lastix args st r h
  split at hp
  · rename_i hf; subst hf; cases hp; exact pure_ok t_ixbyte args st r h
  split at hp
  · rename_i hf; subst hf; cases hp; exact pure_ok t_haspref args st r h
  split at hp
  · rename_i hf; subst hf; cases hp; exact pure_ok (t_contains hw) args st r h
  cases hp

/-- its answer, to a caller -/
theorem rw_prim {f : FuncId} {args : List AVal} {st : ASt} {F : List Value → Option AVal} {vs : List Value} {r : AVal} (hp : prims f = some (purePrim F)) (h1 : litsOf args = some vs) (h2 : F vs = some r) : rw E f args st = some (.returned r, st) := by
  refine rw_of (n := 1) ?_
  show acall E (drawB E) 1 f args st = _
  have hp' : E.prim f = some (purePrim F) := hp
  unfold acall
  rw [hp']
  show purePrim F args st = _
  unfold purePrim
  rw [h1, Option.bind_some, h2]
  rfl
end Go.Proofs.YtlpdplchcpkajaaDoorV
