/- Rows that grow and may be written. No condition. -/
import Derived.Test.YtpgcbmmifmnfpaaDoorLA
namespace Go.Proofs.YtpgcbmmifmnfpaaDoorV
open Go Go.RowKit Go.Proofs.YtpgcbmmifmnfpaaDoorA
set_option linter.unusedVariables false
set_option linter.unusedSimpArgs false

theorem slt_sz {P : Program} {t e : TypeId} {agg : Bool} {sz : Nat} (h : SlT P t e agg sz) : szOf P e = some sz := by
  obtain ⟨i, z, hi, rfl, _⟩ := h.info
  unfold szOf
  rw [hi]
  rfl
theorem elem_part {P : Program} {t e : TypeId} {agg : Bool} {sz : Nat} (hT : SlT P t e agg sz) {v : AVal} (hv : elemOk agg sz v = true) (pre post : List AVal) : partA P e (pre ++ (v.cells ++ post)) pre.length = some v := by
  have hl := elemOk_len hv
  unfold partA
  rw [hT.aggT, slt_sz hT]
  cases agg with
  | true =>
    have hg : ∃ cs, v = .agg cs := by
      cases v with
      | agg cs => exact ⟨cs, rfl⟩
      | _ => simp [elemOk] at hv
    obtain ⟨cs, rfl⟩ := hg
    have hl2 : cs.length = sz := hl
    show (if pre.length + sz ≤ (pre ++ (cs ++ post)).length then some (AVal.agg (((pre ++ (cs ++ post)).drop pre.length).take sz)) else none) = some (AVal.agg cs)
    rw [if_pos (by simp only [List.length_append]; omega), List.drop_left, ← hl2, List.take_left]
  | false =>
    have hc : v.cells = [v] := by
      cases v with
      | agg cs => simp [elemOk] at hv
      | _ => rfl
    simp only [hc]
    simp
theorem chunk_flat {P : Program} {t e : TypeId} {agg : Bool} {sz : Nat} (hT : SlT P t e agg sz) : ∀ (es pre : List AVal), es.all (elemOk agg sz) = true → chunkA P e sz (pre ++ flatE es) pre.length es.length = some es
  | [], pre, _ => rfl
  | v :: es, pre, h => by
    rw [List.all_cons, Bool.and_eq_true] at h
    have ih := chunk_flat hT es (pre ++ v.cells) h.2
    rw [List.length_append, elemOk_len h.1, List.append_assoc] at ih
    have e : flatE (v :: es) = v.cells ++ flatE es := rfl
    rw [e, List.length_cons, chunkA, elem_part hT h.1, ih]
/-- a row that grows and may be written, laid behind lo -/
def AM (sz lo : Nat) (st : ASt) (v : AVal) (es : List AVal) : Prop := (v = .nilSlice ∧ es = []) ∨ ∃ k, v = .slice k 0 es.length sz none ∧ lo < k ∧ k < st.ctr ∧ st.heap k = some (.cells (flatE es))
theorem AM.gr {sz lo : Nat} {st st' : ASt} {v : AVal} {es : List AVal} (h : AM sz lo st v es) (hg : Gr st st') : AM sz lo st' v es := by
  rcases h with h | ⟨k, e, h0, h1, h2⟩
  · exact .inl h
  · exact .inr ⟨k, e, h0, Nat.lt_of_lt_of_le h1 hg.1, by rw [hg.2 k h1]; exact h2⟩
theorem AM.set {sz lo : Nat} {st : ASt} {v : AVal} {es : List AVal} (h : AM sz lo st v es) {p : Nat} (hp : p ≤ lo) (b : Option Blk) : AM sz lo (st.set p b) v es := by
  rcases h with h | ⟨k, e, h0, h1, h2⟩
  · exact .inl h
  · exact .inr ⟨k, e, h0, h1, by rw [ASt.set_ne _ _ _ _ (by omega)]; exact h2⟩
theorem AM.cell {sz lo : Nat} {st : ASt} {v : AVal} {es : List AVal} (h : AM sz lo st v es) : v.isCell = true := by
  rcases h with ⟨rfl, _⟩ | ⟨k, rfl, _⟩ <;> rfl
theorem AM.lo {sz lo lo' : Nat} {st : ASt} {v : AVal} {es : List AVal} (h : AM sz lo st v es) (hl : lo' ≤ lo) : AM sz lo' st v es := h.imp id fun ⟨k, e, h0, h1, h2⟩ => ⟨k, e, by omega, h1, h2⟩
/-- all is as it was up to lo -/
def Kl (lo : Nat) (st st' : ASt) : Prop := st.ctr ≤ st'.ctr ∧ ∀ j, j ≤ lo → st'.heap j = st.heap j
theorem Kl.at {lo : Nat} {st st' : ASt} (h : Kl lo st st') {j : Nat} {b : Option Blk} (hj : st.heap j = b) (hc : j ≤ lo) : st'.heap j = b := by rw [h.2 j hc, hj]
theorem Kl.grow {lo : Nat} {base st st' : ASt} (h : Kl lo st st') (hg : Gr base st) (hb : base.ctr ≤ lo) : Gr base st' := ⟨Nat.le_trans hg.1 h.1, fun j hj => by rw [h.2 j (by omega), hg.2 j hj]⟩
theorem am_app {t e : TypeId} {agg : Bool} {sz lo : Nat} {st : ASt} {v x : AVal} {es ns : List AVal} (hT : SlT E.P t e agg sz) (h : AM sz lo st v es) (hlo : lo < st.ctr) (he : es.all (elemOk agg sz) = true) (hx : srcA E.P e t agg sz st x = some ns) (hne : ns ≠ []) (hl : es.length + ns.length ≤ 1000000) :
    ∃ v' st', appendA E.P true t t v x st = some (v', st') ∧ AM sz lo st' v' (es ++ ns) ∧ Kl lo st st' := by
  obtain ⟨i, z, hi, hsz, hb, hz, hzk⟩ := hT.info
  rcases h with ⟨rfl, rfl⟩ | ⟨k, rfl, h0, h1, h2⟩
  · refine ⟨.slice st.ctr 0 ns.length sz none, st.new (.cells (flatE ns)), ?_, .inr ⟨st.ctr, by simp, hlo, by simp, by simp [ASt.new]⟩, ⟨by simp, fun j hj => ASt.new_ne _ _ _ (by omega)⟩⟩
    refine app_of ?_
    unfold appendA0 AVal.nilSlice
    rw [hT.elem]
    simp only [hi, hT.aggT, hz]
    rw [hsz, if_pos ⟨hT.pos, hb, hzk⟩, hx]
    simp only
    rw [if_neg hne, if_pos (by simp at hl; omega)]
    rfl
  · have hch := chunk_flat hT es [] he
    rw [List.nil_append] at hch
    refine ⟨.slice st.ctr 0 (es ++ ns).length sz none, (st.set k none).new (.cells (flatE (es ++ ns))), ?_, .inr ⟨st.ctr, rfl, hlo, by simp, by simp [ASt.new, ASt.set]⟩, ⟨by simp, fun j hj => ?_⟩⟩
    · refine app_of ?_
      unfold appendA0
      rw [hT.elem]
      simp only [hi, hT.aggT, hz]
      rw [hsz, if_pos ⟨hT.pos, hb, hzk⟩, hx]
      simp only
      rw [if_neg hne, if_pos ⟨trivial, by omega⟩, h2]
      simp only
      rw [show (0 : Nat) = ([] : List AVal).length from rfl, hch]
      simp only
      rw [if_pos he]
      rfl
    · rw [ASt.new_ne _ _ _ (by simp [ASt.set]; omega), ASt.set_ne _ _ _ _ (by omega)]
theorem flatE_at : ∀ {es : List AVal} {i : Nat} {v : AVal} {sz : Nat}, (∀ x ∈ es, x.cells.length = sz) → es[i]? = some v → ∃ pre post, flatE es = pre ++ (v.cells ++ post) ∧ pre.length = i * sz
  | x :: es, 0, v, sz, h, hi => by
    cases hi
    exact ⟨[], flatE es, rfl, by simp⟩
  | x :: es, i + 1, v, sz, h, hi => by
    obtain ⟨pre, post, e, hl⟩ := flatE_at (es := es) (i := i) (fun y hy => h y (List.mem_cons_of_mem _ hy)) hi
    refine ⟨x.cells ++ pre, post, ?_, ?_⟩
    · show x.cells ++ flatE es = _
      rw [e, List.append_assoc]
    · rw [List.length_append, hl, h x (List.mem_cons_self ..), Nat.add_mul]
      omega
/-- an element of such a row -/
theorem am_ix {t e : TypeId} {agg : Bool} {sz lo : Nat} {st : ASt} {v : AVal} {es : List AVal} (hT : SlT E.P t e agg sz) (h : AM sz lo st v es) (he : es.all (elemOk agg sz) = true) {i : Nat} {x : AVal} (hi : es[i]? = some x) :
    ∃ k, v = .slice k 0 es.length sz none ∧ lo < k ∧ k < st.ctr ∧ st.heap k = some (.cells (flatE es)) ∧ loadA E.P e st (.ptr k (i * sz)) = some x := by
  rcases h with ⟨rfl, rfl⟩ | ⟨k, rfl, h0, h1, h2⟩
  · cases hi
  · refine ⟨k, rfl, h0, h1, h2, ?_⟩
    have hok := List.all_eq_true.1 he
    obtain ⟨pre, post, hf, hl⟩ := flatE_at (sz := sz) (fun y hy => elemOk_len (hok y hy)) hi
    have := elem_part hT (hok x (List.mem_of_getElem? hi)) pre post
    unfold loadA
    simp only [h2]
    rw [hf, ← hl]
    exact this
end Go.Proofs.YtpgcbmmifmnfpaaDoorV
