/- Rows of whole numbers, of rows, of events, as the clock has them. No condition. -/
import Derived.Test.YtcaokdlmolnbaaaJ23
import Derived.Test.YtcaokdlmolnbaaaK1
namespace Go.Proofs.YtcaokdlmolnbaaaV
open Go Go.RowKit Go.Proofs.YtcaokdlmolnbaaaA
set_option linter.unusedVariables false
set_option linter.unusedSimpArgs false
set_option maxRecDepth 100000

def intN (i : Int) : AVal := .lit (.int .i64 i)
theorem intT : SlT E.P 48 3 false 1 := ⟨rfl, rfl, ⟨_, _, rfl, rfl, by decide, rfl, rfl⟩, by decide⟩
theorem ints_ok (l : List Int) : (l.map intN).all (elemOk false 1) = true := by
  rw [List.all_eq_true]
  intro x hx
  obtain ⟨n, _, rfl⟩ := List.mem_map.1 hx
  rfl
theorem flatE_ints : ∀ l : List Int, flatE (l.map intN) = l.map intN
  | [] => rfl
  | n :: l => by
    have := flatE_ints l
    unfold flatE at *
    rw [List.map_cons, List.flatMap_cons, this]
    rfl

/-- whole numbers, to be read -/
def IR (st : ASt) (v : AVal) (l : List Int) : Prop := (∃ a, v = .lit (.slice a 0 0) ∧ l = []) ∨ (∃ c, v = .islice 1 (l.map intN) c) ∨ ∃ s c, v = .slice s 0 l.length 1 c ∧ (l ≠ [] → s < st.ctr ∧ st.heap s = some (.cells (l.map intN)))
theorem IR.gr {st st' : ASt} {v : AVal} {l : List Int} (h : IR st v l) (hg : Gr st st') : IR st' v l := by
  rcases h with h | h | ⟨s, c, e, h1⟩
  · exact .inl h
  · exact .inr (.inl h)
  · exact .inr (.inr ⟨s, c, e, fun hn => ⟨Nat.lt_of_lt_of_le (h1 hn).1 hg.1, by rw [hg.2 s (h1 hn).1]; exact (h1 hn).2⟩⟩)
theorem ir_cell {st : ASt} {v : AVal} {l : List Int} (h : IR st v l) : v.isCell = true ∧ v.cells = [v] := by
  rcases h with ⟨a, rfl, rfl⟩ | ⟨c, rfl⟩ | ⟨s, c, rfl, _⟩ <;> exact ⟨rfl, rfl⟩
theorem ir_len {st : ASt} {v : AVal} {l : List Int} (h : IR st v l) (mt : Bool) (ty : TypeId) (cs : Array Bool) (st2 : ASt) : builtinA E.P mt .len #[48] ty cs [v] st2 = some (.val (.lit (.int .i64 (l.length : Int))) st2) := by
  rcases h with ⟨a, rfl, rfl⟩ | ⟨c, rfl⟩ | ⟨s, c, rfl, _⟩
  · exact len_nil rfl _ _ _ _ _
  · have e : builtinA E.P mt .len #[48] ty cs [.islice 1 (l.map intN) c] st2 = some (.val (.lit (.int .i64 ((l.map intN).length : Int))) st2) := rfl
    rw [e, List.length_map]
  · rfl
theorem ir_at {st : ASt} {v : AVal} {l : List Int} (h : IR st v l) {i : Nat} (hi : i < l.length) : ∃ p, indexA E.P 48 v (.lit (.int .i64 (i : Int))) = some p ∧ ∀ st', Gr st st' → loadA E.P 3 st' p = some (.lit (.int .i64 l[i])) := by
  rcases h with ⟨a, rfl, rfl⟩ | ⟨c, rfl⟩ | ⟨s, c, rfl, h12⟩
  · simp at hi
  · have e : indexA E.P 48 (.islice 1 (l.map intN) c) (.lit (.int .i64 (i : Int))) = if 0 ≤ (i : Int) ∧ (i : Int) < ((l.map intN).length : Int) ∧ some 1 = some 1 then (((l.map intN)[(i : Int).toNat]?).map .iptr) else none := rfl
    exact ⟨_, by rw [e, if_pos ⟨by omega, by rw [List.length_map]; omega, rfl⟩, Int.toNat_natCast, List.getElem?_map, List.getElem?_eq_getElem hi]; rfl, fun st' _ => rfl⟩
  · obtain ⟨h1, h2⟩ := h12 (fun e => by rw [e] at hi; exact absurd hi (Nat.not_lt_zero _))
    have e : indexA E.P 48 (.slice s 0 l.length 1 c) (.lit (.int .i64 (i : Int))) = if 0 ≤ (i : Int) ∧ (i : Int) < (l.length : Nat) then some (.ptr s (0 + (i : Int).toNat * 1)) else none := rfl
    refine ⟨.ptr s i, by rw [e, if_pos ⟨by omega, by omega⟩]; simp, fun st' hg => ?_⟩
    have e2 : loadA E.P 3 st' (.ptr s i) = (match st'.heap s with | some (.cells cs) => cs[i]? | _ => none) := rfl
    rw [e2, hg.2 s h1, h2]
    simp [hi, intN]

/-- whole numbers in a row of their own that was made as long as it is, laid later than base -/
def MR (base st : ASt) (v : AVal) (l : List Int) (s : Nat) : Prop := v = .slice s 0 l.length 1 (some l.length) ∧ base.ctr ≤ s ∧ s < st.ctr ∧ st.heap s = some (.cells (l.map intN))
theorem MR.ir {base st : ASt} {v : AVal} {l : List Int} {s : Nat} (h : MR base st v l s) : IR st v l := .inr (.inr ⟨s, _, h.1, fun _ => ⟨h.2.2.1, h.2.2.2⟩⟩)
theorem MR.gr {base st st' : ASt} {v : AVal} {l : List Int} {s : Nat} (h : MR base st v l s) (hg : Gr st st') : MR base st' v l s :=
  ⟨h.1, h.2.1, Nat.lt_of_lt_of_le h.2.2.1 hg.1, by rw [hg.2 s h.2.2.1]; exact h.2.2.2⟩
/-- the state with the row anew -/
def putI (st : ASt) (s : Nat) (l : List Int) : ASt := st.set s (some (.cells (l.map intN)))
theorem MR.put {base st : ASt} {v : AVal} {l : List Int} {s : Nat} (h : MR base st v l s) {l' : List Int} (hl : l'.length = l.length) : MR base (putI st s l') v l' s :=
  ⟨by rw [hl]; exact h.1, h.2.1, h.2.2.1, ASt.set_same _ _ _⟩
theorem putI_gr {base st : ASt} {s : Nat} {l : List Int} (hg : Gr base st) (hs : base.ctr ≤ s) : Gr base (putI st s l) := ⟨hg.1, fun j hj => by
  show (st.set s _).heap j = _
  rw [ASt.set_ne _ _ _ _ (by omega)]; exact hg.2 j hj⟩
theorem mr_idx {base st : ASt} {v : AVal} {l : List Int} {s : Nat} (h : MR base st v l s) {i : Nat} (hi : i < l.length) : indexA E.P 48 v (.lit (.int .i64 (i : Int))) = some (.ptr s i) ∧ loadA E.P 3 st (.ptr s i) = some (.lit (.int .i64 l[i])) ∧ ∀ x : Int, storeA E.P 3 st (.ptr s i) (.lit (.int .i64 x)) = some (putI st s (l.set i x)) := by
  obtain ⟨rfl, _, h2, h3⟩ := h
  have e : indexA E.P 48 (.slice s 0 l.length 1 (some l.length)) (.lit (.int .i64 (i : Int))) = if 0 ≤ (i : Int) ∧ (i : Int) < (l.length : Nat) then some (.ptr s (0 + (i : Int).toNat * 1)) else none := rfl
  have e2 : loadA E.P 3 st (.ptr s i) = (match st.heap s with | some (.cells cs) => cs[i]? | _ => none) := rfl
  refine ⟨by rw [e, if_pos ⟨by omega, by omega⟩]; simp, by rw [e2, h3]; simp [hi, intN], fun x => ?_⟩
  have e3 : storeA E.P 3 st (.ptr s i) (.lit (.int .i64 x)) = (match st.heap s with
    | some (.cells cs) => if some 1 = some 1 ∧ i + 1 ≤ cs.length ∧ true = true then some (st.set s (some (.cells (cs.set i (.lit (.int .i64 x)))))) else none
    | _ => none) := rfl
  rw [e3, h3]
  simp only
  rw [if_pos ⟨trivial, by simp; omega, trivial⟩]
  unfold putI
  rw [List.map_set]; rfl
theorem mr_make (n : Nat) (hn : n ≤ 1000) (st : ASt) : ∃ v st', makeSliceA E.P 48 (.lit (.int .i64 (n : Int))) (.lit (.int .i64 (n : Int))) st = some (v, st') ∧ MR st st' v (List.replicate n 0) st.ctr ∧ Gr st st' := by
  have e : makeSliceA E.P 48 (.lit (.int .i64 (n : Int))) (.lit (.int .i64 (n : Int))) st = if 0 ≤ (n : Int) ∧ (n : Int) ≤ (n : Int) ∧ 0 < 1 ∧ (n : Int).toNat * 1 ≤ 16777216 ∧ 8 ≤ 4096 ∧ true = true then
      some (.slice st.ctr 0 (n : Int).toNat 1 (some (n : Int).toNat), st.new (.cells (flatE (List.replicate (n : Int).toNat (.lit (.int .i64 0)))))) else none := rfl
  have hf : flatE (List.replicate n (AVal.lit (.int .i64 0))) = (List.replicate n (0 : Int)).map intN := by
    have := flatE_ints (List.replicate n 0)
    rw [List.map_replicate] at this ⊢
    exact this
  refine ⟨_, _, by rw [e, if_pos ⟨by omega, by omega, by omega, by simp; omega, by omega, rfl⟩], ⟨by simp, Nat.le_refl _, by simp [ASt.new], ?_⟩, Gr.new _ _⟩
  rw [Int.toNat_natCast, hf]; simp [ASt.new]

/-! ### what an append leaves as it is -/
/-- but for a block of no cells, nothing that was there was written -/
def Pk (st st' : ASt) : Prop := Gr st st' ∨ ∃ k, st.heap k = some (.cells []) ∧ st.ctr ≤ st'.ctr ∧ ∀ j, j < st.ctr → j ≠ k → st'.heap j = st.heap j
theorem Pk.at {st st' : ASt} (h : Pk st st') {s : Nat} {cs : List AVal} (hs : s < st.ctr) (hh : st.heap s = some (.cells cs)) (hne : cs ≠ []) : s < st'.ctr ∧ st'.heap s = some (.cells cs) := by
  rcases h with h | ⟨k, h1, h2, h3⟩
  · exact ⟨Nat.lt_of_lt_of_le hs h.1, by rw [h.2 s hs]; exact hh⟩
  · refine ⟨Nat.lt_of_lt_of_le hs h2, ?_⟩
    rw [h3 s hs (fun e => ?_)]; · exact hh
    rw [e, h1] at hh
    cases hh
    exact hne rfl
theorem MS.pk {st st' : ASt} {v : AVal} {l : List Mk} (h : MS st v l) (hp : Pk st st') : MS st' v l := by
  rcases h with h | h | ⟨s, e, h1⟩
  · exact .inl h
  · exact .inr (.inl h)
  · exact .inr (.inr ⟨s, e, fun hn => hp.at (h1 hn).1 (h1 hn).2 (fun e => by
      cases l with
      | nil => exact hn rfl
      | cons m l => cases e)⟩)
theorem IR.pk {st st' : ASt} {v : AVal} {l : List Int} (h : IR st v l) (hp : Pk st st') : IR st' v l := by
  rcases h with h | h | ⟨s, c, e, h1⟩
  · exact .inl h
  · exact .inr (.inl h)
  · exact .inr (.inr ⟨s, c, e, fun hn => hp.at (h1 hn).1 (h1 hn).2 (fun e => hn (List.map_eq_nil_iff.1 e))⟩)
theorem ai_app' {t e : TypeId} {agg : Bool} {sz : Nat} {base st : ASt} {v x : AVal} {es ns : List AVal} (hT : SlT E.P t e agg sz) (h : AI sz base st v es) (hb : base.ctr ≤ st.ctr) (he : es.all (elemOk agg sz) = true) (hx : srcA E.P e t agg sz st x = some ns) (hne : ns ≠ []) (hl : es.length + ns.length ≤ 1000000) :
    ∃ v' st', appendA E.P false t t v x st = some (v', st') ∧ AI sz base st' v' (es ++ ns) ∧ Pk st st' ∧ st.ctr ≤ st'.ctr ∧ ∀ j, j < base.ctr → st'.heap j = st.heap j := by
  rcases h with ⟨rfl, rfl⟩ | ⟨k, rfl, h0, h1, h2⟩
  · exact ⟨_, _, app_nil hT hx hne (by simp at hl; omega), .inr ⟨st.ctr, rfl, hb, by simp [ASt.new], ASt.new_same _ _⟩, .inl (Gr.new _ _), (Gr.new _ _).1, fun j hj => ASt.new_ne _ _ _ (by omega)⟩
  · refine ⟨_, _, app_tok hT he hx hne (by omega) h2, .inr ⟨st.ctr, rfl, hb, by simp [ASt.new, ASt.set], by simp [ASt.new, ASt.set]⟩, .inr ⟨k, h2, by simp [ASt.new, ASt.set], fun j hj hjk => ?_⟩, by simp [ASt.new, ASt.set], fun j hj => ?_⟩
    · rw [ASt.new_ne _ _ _ (by simp [ASt.set]; omega), ASt.set_ne _ _ _ _ hjk]
    · rw [ASt.new_ne _ _ _ (by simp [ASt.set]; omega), ASt.set_ne _ _ _ _ (by omega)]

/-! ### rows of rows -/
def XS (st : ASt) (xs : List AVal) (rows : List (List Int)) : Prop := xs.length = rows.length ∧ ∀ (i : Nat) (x : AVal) (r : List Int), xs[i]? = some x → rows[i]? = some r → IR st x r
theorem XS.gr {st st' : ASt} {xs : List AVal} {rows : List (List Int)} (h : XS st xs rows) (hg : Gr st st') : XS st' xs rows := ⟨h.1, fun i x r a b => (h.2 i x r a b).gr hg⟩
theorem XS.pk {st st' : ASt} {xs : List AVal} {rows : List (List Int)} (h : XS st xs rows) (hg : Pk st st') : XS st' xs rows := ⟨h.1, fun i x r a b => (h.2 i x r a b).pk hg⟩
theorem XS.app {st : ASt} {xs : List AVal} {rows : List (List Int)} {x : AVal} {r : List Int} (h : XS st xs rows) (hx : IR st x r) : XS st (xs ++ [x]) (rows ++ [r]) := by
  refine ⟨by rw [List.length_append, List.length_append, h.1]; rfl, fun i y s a b => ?_⟩
  rw [List.getElem?_append] at a b
  rw [h.1] at a
  split at a
  · rename_i hi; rw [if_pos hi] at b; exact h.2 i y s a b
  · rename_i hi
    rw [if_neg hi] at b
    cases e : i - rows.length with
    | zero => rw [e] at a b; cases a; cases b; exact hx
    | succ k => rw [e] at a; simp at a
theorem xs_ok {st : ASt} {xs : List AVal} {rows : List (List Int)} (h : XS st xs rows) : xs.all (elemOk false 1) = true := by
  rw [List.all_eq_true]
  intro x hx
  obtain ⟨i, hi, rfl⟩ := List.mem_iff_getElem.1 hx
  have := ir_cell (h.2 i _ _ (List.getElem?_eq_getElem hi) (List.getElem?_eq_getElem (by rw [← h.1]; exact hi)))
  generalize xs[i] = x at *
  have h1 := this.1
  cases x <;> first | rfl | cases h1
/-- rows of whole numbers, to be read -/
def RR (st : ASt) (v : AVal) (rows : List (List Int)) : Prop := (∃ a, v = .lit (.slice a 0 0) ∧ rows = []) ∨ (∃ xs c, v = .islice 1 xs c ∧ XS st xs rows) ∨ ∃ s c, v = .slice s 0 rows.length 1 c ∧ (rows ≠ [] → s < st.ctr ∧ ∃ xs, st.heap s = some (.cells xs) ∧ XS st xs rows)
theorem RR.gr {st st' : ASt} {v : AVal} {rows : List (List Int)} (h : RR st v rows) (hg : Gr st st') : RR st' v rows := by
  rcases h with h | ⟨xs, c, e, h1⟩ | ⟨s, c, e, h1⟩
  · exact .inl h
  · exact .inr (.inl ⟨xs, c, e, h1.gr hg⟩)
  · exact .inr (.inr ⟨s, c, e, fun hn => by
      obtain ⟨k1, xs, k2, k3⟩ := h1 hn
      exact ⟨Nat.lt_of_lt_of_le k1 hg.1, xs, by rw [hg.2 s k1]; exact k2, k3.gr hg⟩⟩)
theorem rr_cell {st : ASt} {v : AVal} {l : List (List Int)} (h : RR st v l) : v.isCell = true ∧ v.cells = [v] := by
  rcases h with ⟨a, rfl, rfl⟩ | ⟨xs, c, rfl, _⟩ | ⟨s, c, rfl, _⟩ <;> exact ⟨rfl, rfl⟩
theorem rr_len {st : ASt} {v : AVal} {rows : List (List Int)} (h : RR st v rows) (mt : Bool) (ty : TypeId) (cs : Array Bool) (st2 : ASt) : builtinA E.P mt .len #[47] ty cs [v] st2 = some (.val (.lit (.int .i64 (rows.length : Int))) st2) := by
  rcases h with ⟨a, rfl, rfl⟩ | ⟨xs, c, rfl, h⟩ | ⟨s, c, rfl, _⟩
  · exact len_nil rfl _ _ _ _ _
  · have e : builtinA E.P mt .len #[47] ty cs [.islice 1 xs c] st2 = some (.val (.lit (.int .i64 (xs.length : Int))) st2) := rfl
    rw [e, h.1]
  · rfl
theorem rr_at {st : ASt} {v : AVal} {rows : List (List Int)} (h : RR st v rows) {i : Nat} (hi : i < rows.length) : ∃ p x, indexA E.P 47 v (.lit (.int .i64 (i : Int))) = some p ∧ IR st x rows[i] ∧ ∀ st', Gr st st' → loadA E.P 48 st' p = some x := by
  rcases h with ⟨a, rfl, rfl⟩ | ⟨xs, c, rfl, hx⟩ | ⟨s, c, rfl, h12⟩
  · simp at hi
  · have hi2 : i < xs.length := by rw [hx.1]; exact hi
    have e : indexA E.P 47 (.islice 1 xs c) (.lit (.int .i64 (i : Int))) = if 0 ≤ (i : Int) ∧ (i : Int) < (xs.length : Int) ∧ some 1 = some 1 then ((xs[(i : Int).toNat]?).map .iptr) else none := rfl
    have hr := hx.2 i _ _ (List.getElem?_eq_getElem hi2) (List.getElem?_eq_getElem hi)
    refine ⟨.iptr xs[i], xs[i], by rw [e, if_pos ⟨by omega, by omega, rfl⟩, Int.toNat_natCast, List.getElem?_eq_getElem hi2]; rfl, hr, fun st' _ => ?_⟩
    have e2 : loadA E.P 48 st' (.iptr xs[i]) = if xs[i].isCell = true then some xs[i] else none := rfl
    rw [e2, if_pos (ir_cell hr).1]
  · obtain ⟨h1, xs, h2, hx⟩ := h12 (fun e => by rw [e] at hi; exact absurd hi (Nat.not_lt_zero _))
    have hi2 : i < xs.length := by rw [hx.1]; exact hi
    have e : indexA E.P 47 (.slice s 0 rows.length 1 c) (.lit (.int .i64 (i : Int))) = if 0 ≤ (i : Int) ∧ (i : Int) < (rows.length : Nat) then some (.ptr s (0 + (i : Int).toNat * 1)) else none := rfl
    have hr := hx.2 i _ _ (List.getElem?_eq_getElem hi2) (List.getElem?_eq_getElem hi)
    refine ⟨.ptr s i, xs[i], by rw [e, if_pos ⟨by omega, by omega⟩]; simp, hr, fun st' hg => ?_⟩
    have e2 : loadA E.P 48 st' (.ptr s i) = (match st'.heap s with | some (.cells cs) => cs[i]? | _ => none) := rfl
    rw [e2, hg.2 s h1, h2]
    exact List.getElem?_eq_getElem hi2
theorem rowT : SlT E.P 47 48 false 1 := ⟨rfl, rfl, ⟨_, _, rfl, rfl, by decide, rfl, rfl⟩, by decide⟩

/-! ### rows of events -/
structure Ev where
  th : Nat
  ms : List Mk
instance : Inhabited Ev := ⟨⟨0, []⟩⟩
def EvX (st : ASt) (x : AVal) (e : Ev) : Prop := EvV st x (e.th : Int) e.ms ∧ e.ms.length ≤ 100 ∧ e.th ≤ 4
theorem EvX.gr {st st' : ASt} {x : AVal} {e : Ev} (h : EvX st x e) (hg : Gr st st') : EvX st' x e := ⟨h.1.gr hg, h.2⟩
theorem EvX.pk {st st' : ASt} {x : AVal} {e : Ev} (h : EvX st x e) (hg : Pk st st') : EvX st' x e := by
  obtain ⟨⟨v, e1, hv⟩, h2⟩ := h
  exact ⟨⟨v, e1, hv.pk hg⟩, h2⟩
def EL (st : ASt) (xs : List AVal) (es : List Ev) : Prop := xs.length = es.length ∧ ∀ (i : Nat) (x : AVal) (e : Ev), xs[i]? = some x → es[i]? = some e → EvX st x e
theorem EL.gr {st st' : ASt} {xs : List AVal} {es : List Ev} (h : EL st xs es) (hg : Gr st st') : EL st' xs es := ⟨h.1, fun i x r a b => (h.2 i x r a b).gr hg⟩
theorem EL.pk {st st' : ASt} {xs : List AVal} {es : List Ev} (h : EL st xs es) (hg : Pk st st') : EL st' xs es := ⟨h.1, fun i x r a b => (h.2 i x r a b).pk hg⟩
theorem EL.app {st : ASt} {xs : List AVal} {es : List Ev} {x : AVal} {e : Ev} (h : EL st xs es) (hx : EvX st x e) : EL st (xs ++ [x]) (es ++ [e]) := by
  refine ⟨by rw [List.length_append, List.length_append, h.1]; rfl, fun i y s a b => ?_⟩
  rw [List.getElem?_append] at a b
  rw [h.1] at a
  split at a
  · rename_i hi; rw [if_pos hi] at b; exact h.2 i y s a b
  · rename_i hi
    rw [if_neg hi] at b
    cases e : i - es.length with
    | zero => rw [e] at a b; cases a; cases b; exact hx
    | succ k => rw [e] at a; simp at a
theorem el_ok {st : ASt} {xs : List AVal} {es : List Ev} (h : EL st xs es) : xs.all (elemOk true 2) = true := by
  rw [List.all_eq_true]
  intro x hx
  obtain ⟨i, hi, rfl⟩ := List.mem_iff_getElem.1 hx
  obtain ⟨⟨v, e, hv⟩, _⟩ := h.2 i _ _ (List.getElem?_eq_getElem hi) (List.getElem?_eq_getElem (by rw [← h.1]; exact hi))
  rw [e]
  have h1 := (ms_cell hv).1
  cases v <;> first | rfl | cases h1
theorem flatE_two : ∀ (xs : List AVal), (∀ x ∈ xs, ∃ a b, x = .agg [a, b]) → (flatE xs).length = 2 * xs.length ∧ ∀ i, i < xs.length → xs[i]? = some (.agg (((flatE xs).drop (i * 2)).take 2))
  | [], _ => ⟨rfl, fun i h => absurd h (Nat.not_lt_zero _)⟩
  | x :: xs, h => by
    obtain ⟨a, b, rfl⟩ := h x (List.mem_cons_self ..)
    obtain ⟨h1, h2⟩ := flatE_two xs fun y hy => h y (List.mem_cons_of_mem _ hy)
    have e : flatE (.agg [a, b] :: xs) = a :: b :: flatE xs := rfl
    rw [e]
    refine ⟨by simp only [List.length_cons]; omega, fun i hi => ?_⟩
    cases i with
    | zero => rfl
    | succ i =>
      rw [List.getElem?_cons_succ, h2 i (by simpa using hi), show (i + 1) * 2 = i * 2 + 1 + 1 by omega]
      rfl
/-- events, to be read -/
def ES (st : ASt) (v : AVal) (es : List Ev) : Prop := (∃ a, v = .lit (.slice a 0 0) ∧ es = []) ∨ (∃ xs c, v = .islice 2 xs c ∧ EL st xs es) ∨ ∃ s xs, v = .slice s 0 es.length 2 none ∧ s < st.ctr ∧ st.heap s = some (.cells (flatE xs)) ∧ EL st xs es
theorem ES.gr {st st' : ASt} {v : AVal} {es : List Ev} (h : ES st v es) (hg : Gr st st') : ES st' v es := by
  rcases h with h | ⟨xs, c, e, h1⟩ | ⟨s, xs, e, h1, h2, h3⟩
  · exact .inl h
  · exact .inr (.inl ⟨xs, c, e, h1.gr hg⟩)
  · exact .inr (.inr ⟨s, xs, e, Nat.lt_of_lt_of_le h1 hg.1, by rw [hg.2 s h1]; exact h2, h3.gr hg⟩)
theorem es_cell {st : ASt} {v : AVal} {l : List Ev} (h : ES st v l) : v.isCell = true ∧ v.cells = [v] := by
  rcases h with ⟨a, rfl, rfl⟩ | ⟨xs, c, rfl, _⟩ | ⟨s, xs, rfl, _⟩ <;> exact ⟨rfl, rfl⟩
theorem es_len {st : ASt} {v : AVal} {es : List Ev} (h : ES st v es) (mt : Bool) (ty : TypeId) (cs : Array Bool) (st2 : ASt) : builtinA E.P mt .len #[45] ty cs [v] st2 = some (.val (.lit (.int .i64 (es.length : Int))) st2) := by
  rcases h with ⟨a, rfl, rfl⟩ | ⟨xs, c, rfl, h⟩ | ⟨s, xs, rfl, _, _⟩
  · exact len_nil rfl _ _ _ _ _
  · have e : builtinA E.P mt .len #[45] ty cs [.islice 2 xs c] st2 = some (.val (.lit (.int .i64 (xs.length : Int))) st2) := rfl
    rw [e, h.1]
  · rfl
theorem el_two {st : ASt} {xs : List AVal} {es : List Ev} (h : EL st xs es) : ∀ x ∈ xs, ∃ a b, x = .agg [a, b] := fun x hx => by
  obtain ⟨i, hi, rfl⟩ := List.mem_iff_getElem.1 hx
  obtain ⟨⟨v, e, hv⟩, _⟩ := h.2 i _ _ (List.getElem?_eq_getElem hi) (List.getElem?_eq_getElem (by rw [← h.1]; exact hi))
  exact ⟨_, _, e⟩
theorem es_at {st : ASt} {v : AVal} {es : List Ev} (h : ES st v es) {i : Nat} (hi : i < es.length) : ∃ p p0 w, indexA E.P 45 v (.lit (.int .i64 (i : Int))) = some p ∧ fieldA E.P 31 p 0 = some p0 ∧ EvX st (.agg [.lit (.int .i64 (es[i].th : Int)), w]) es[i] ∧ MS st w es[i].ms ∧
    ∀ st', Gr st st' → loadA E.P 31 st' p = some (.agg [.lit (.int .i64 (es[i].th : Int)), w]) ∧ loadA E.P 3 st' p0 = some (.lit (.int .i64 (es[i].th : Int))) := by
  rcases h with ⟨a, rfl, rfl⟩ | ⟨xs, c, rfl, hx⟩ | ⟨s, xs, rfl, h1, h2, hx⟩
  · simp at hi
  · have hi2 : i < xs.length := by rw [hx.1]; exact hi
    have e : indexA E.P 45 (.islice 2 xs c) (.lit (.int .i64 (i : Int))) = if 0 ≤ (i : Int) ∧ (i : Int) < (xs.length : Int) ∧ some 2 = some 2 then ((xs[(i : Int).toNat]?).map .iptr) else none := rfl
    have hr := hx.2 i _ _ (List.getElem?_eq_getElem hi2) (List.getElem?_eq_getElem hi)
    obtain ⟨⟨w, ew, hw⟩, hq⟩ := hr
    refine ⟨.iptr (.agg [.lit (.int .i64 (es[i].th : Int)), w]), .iptr (.lit (.int .i64 (es[i].th : Int))), w, by rw [e, if_pos ⟨by omega, by omega, rfl⟩, Int.toNat_natCast, List.getElem?_eq_getElem hi2, ew]; rfl, rfl, ⟨⟨w, rfl, hw⟩, hq⟩, hw, fun st' _ => ⟨rfl, rfl⟩⟩
  · have hi2 : i < xs.length := by rw [hx.1]; exact hi
    have e : indexA E.P 45 (.slice s 0 es.length 2 none) (.lit (.int .i64 (i : Int))) = if 0 ≤ (i : Int) ∧ (i : Int) < (es.length : Nat) then some (.ptr s (0 + (i : Int).toNat * 2)) else none := rfl
    have hr := hx.2 i _ _ (List.getElem?_eq_getElem hi2) (List.getElem?_eq_getElem hi)
    obtain ⟨⟨w, ew, hw⟩, hq⟩ := hr
    obtain ⟨f1, f2⟩ := flatE_two xs (el_two hx)
    have f3 := f2 i hi2
    rw [List.getElem?_eq_getElem hi2, ew] at f3
    have f4 : ((flatE xs).drop (i * 2)).take 2 = [.lit (.int .i64 (es[i].th : Int)), w] := by
      have := Option.some.inj f3
      injection this with this
      exact this.symm
    refine ⟨.ptr s (i * 2), .ptr s (i * 2 + 0), w, by rw [e, if_pos ⟨by omega, by omega⟩]; simp, rfl, ⟨⟨w, rfl, hw⟩, hq⟩, hw, fun st' hg => ⟨?_, ?_⟩⟩
    · have e2 : loadA E.P 31 st' (.ptr s (i * 2)) = (match st'.heap s with | some (.cells cs) => if i * 2 + 2 ≤ cs.length then some (.agg ((cs.drop (i * 2)).take 2)) else none | _ => none) := rfl
      rw [e2, hg.2 s h1, h2]
      simp only
      rw [if_pos (by omega), f4]
    · have e2 : loadA E.P 3 st' (.ptr s (i * 2 + 0)) = (match st'.heap s with | some (.cells cs) => cs[i * 2 + 0]? | _ => none) := rfl
      rw [e2, hg.2 s h1, h2]
      simp only
      have := congrArg (·[0]?) f4
      simpa [List.getElem?_take, List.getElem?_drop] using this
theorem evT : SlT E.P 45 31 true 2 := ⟨rfl, rfl, ⟨_, _, rfl, rfl, by decide, rfl, rfl⟩, by decide⟩
/-- what depends on what -/
def dI (es : List Ev) (i j : Nat) : Bool := decide (((es.getD i default).th : Int) = ((es.getD j default).th : Int)) || cla (es.getD i default).ms (es.getD j default).ms
def tI (es : List Ev) (i : Nat) : Nat := (es.getD i default).th
theorem dI_th (es : List Ev) (x y : Nat) (h : tI es x = tI es y) : dI es x y = true := by
  unfold dI
  unfold tI at h
  rw [h, decide_eq_true rfl, Bool.true_or]
theorem dI_symm (es : List Ev) (i j : Nat) : dI es i j = dI es j i := by
  unfold dI
  rw [cla_comm]
  congr 1
  rw [decide_eq_decide]; exact eq_comm
theorem getD_at {es : List Ev} {i : Nat} (h : i < es.length) : es.getD i default = es[i] := by rw [List.getD_eq_getElem?_getD, List.getElem?_eq_getElem h]; rfl
theorem dep_at {st : ASt} {es : List Ev} {i j : Nat} (hi : i < es.length) (hj : j < es.length) {x y : AVal} (hx : EvX st x es[i]) (hy : EvX st y es[j]) : ∃ st', rw E 17 [x, y] st = some (.returned (.lit (.bool (dI es i j))), st') ∧ Gr st st' := by
  obtain ⟨_, st', c, rfl, g⟩ := depend_rw hx.1 hy.1 (by have := hx.2.1; omega) (by have := hy.2.1; omega)
  refine ⟨st', ?_, g⟩
  unfold dI
  rw [getD_at hi, getD_at hj]
  exact c
theorem bi_max (mt : Bool) (cs : Array Bool) (a b : Int) (st : ASt) : builtinA E.P mt .max #[3, 3] 3 cs [.lit (.int .i64 a), .lit (.int .i64 b)] st = some (.val (.lit (.int .i64 (max a b))) st) := by
  have e : (if b > a then b else a) = max a b := by
    rw [Int.max_def]
    split <;> split <;> omega
  rw [← e]
  rfl
/-- a row, by a function -/
def rowN (T : Nat) (f : Nat → Nat) : List Int := (List.range T).map fun t => ((f t : Nat) : Int)
theorem rowN_len (T : Nat) (f : Nat → Nat) : (rowN T f).length = T := by simp [rowN]
theorem rowN_get {T : Nat} {f : Nat → Nat} {t : Nat} (h : t < (rowN T f).length) : (rowN T f)[t] = (f t : Int) := by simp [rowN]
theorem rowN_set {T : Nat} {f : Nat → Nat} {t : Nat} (y : Nat) : (rowN T f).set t (y : Int) = rowN T (fun k => if k = t then y else f k) := by
  refine List.ext_getElem (by simp [rowN]) fun k h1 h2 => ?_
  rw [List.getElem_set, rowN_get h2]
  by_cases e : t = k
  · rw [if_pos e, if_pos e.symm]
  · rw [if_neg e, if_neg (fun h => e h.symm), rowN_get]
theorem rowN_congr {T : Nat} {f g : Nat → Nat} (h : ∀ t, t < T → f t = g t) : rowN T f = rowN T g := by
  unfold rowN
  exact List.map_congr_left fun t ht => by rw [h t (List.mem_range.1 ht)]
end Go.Proofs.YtcaokdlmolnbaaaV
