/- Rows that grow. No condition. -/
import Derived.Test.YtpgcbmmifmnfpaaDoorEA
namespace Go.Proofs.YtpgcbmmifmnfpaaDoorV
open Go Go.RowKit Go.Proofs.YtpgcbmmifmnfpaaDoorA
set_option linter.unusedVariables false
set_option linter.unusedSimpArgs false

theorem Gr.new' {a b : ASt} (h : Gr a b) (x : Blk) : Gr a (b.new x) := h.trans (Gr.new b x)
theorem Gr.set' {a b : ASt} {k : Nat} {x : Option Blk} (h : Gr a b) (hk : a.ctr ≤ k) : Gr a (b.set k x) := ⟨h.1, fun j hj => by rw [ASt.set_ne _ _ _ _ (by omega)]; exact h.2 j hj⟩
/-- elements so far, in a row that nothing else has, laid later than base -/
def AI (sz : Nat) (base st : ASt) (v : AVal) (es : List AVal) : Prop := (v = .nilSlice ∧ es = []) ∨ ∃ k, v = .islice sz es (.tok k) ∧ base.ctr ≤ k ∧ k < st.ctr ∧ st.heap k = some (.cells [])
theorem AI.gr {sz : Nat} {base st st' : ASt} {v : AVal} {es : List AVal} (h : AI sz base st v es) (hg : Gr st st') : AI sz base st' v es := by
  rcases h with h | ⟨k, e, h0, h1, h2⟩
  · exact .inl h
  · exact .inr ⟨k, e, h0, Nat.lt_of_lt_of_le h1 hg.1, by rw [hg.2 k h1]; exact h2⟩
theorem ai_app {t e : TypeId} {agg : Bool} {sz : Nat} {base st : ASt} {v x : AVal} {es ns : List AVal} (hT : SlT E.P t e agg sz) (h : AI sz base st v es) (hb : Gr base st) (he : es.all (elemOk agg sz) = true) (hx : srcA E.P e t agg sz st x = some ns) (hne : ns ≠ []) (hl : es.length + ns.length ≤ 1000000) :
    ∃ v' st', appendA E.P false t t v x st = some (v', st') ∧ AI sz base st' v' (es ++ ns) ∧ Gr base st' := by
  rcases h with ⟨rfl, rfl⟩ | ⟨k, rfl, h0, h1, h2⟩
  · refine ⟨_, _, app_nil hT hx hne (by simp at hl; omega), .inr ⟨st.ctr, rfl, hb.1, by simp [ASt.new], ASt.new_same _ _⟩, hb.trans (Gr.new _ _)⟩
  · refine ⟨_, _, app_tok hT he hx hne (by omega) h2, .inr ⟨st.ctr, rfl, hb.1, by simp [ASt.new, ASt.set], ?_⟩, ⟨?_, fun j hj => ?_⟩⟩
    · simp [ASt.new, ASt.set]
    · have := hb.1; simp [ASt.new, ASt.set]; omega
    · have h4 := hb.1
      rw [ASt.new_ne _ _ _ (by simp [ASt.set]; omega), ASt.set_ne _ _ _ _ (by omega), hb.2 j hj]

/-- all is as it was, but for blocks of no cells -/
def Kp (st st' : ASt) : Prop := st.ctr ≤ st'.ctr ∧ ∀ j, j < st.ctr → st.heap j ≠ some (.cells []) → st'.heap j = st.heap j
theorem Kp.refl (st : ASt) : Kp st st := ⟨Nat.le_refl _, fun _ _ _ => rfl⟩
theorem Kp.at {st st' : ASt} (h : Kp st st') {j : Nat} {c : AVal} {cs : List AVal} (hj : st.heap j = some (.cells (c :: cs))) (hc : j < st.ctr) : st'.heap j = some (.cells (c :: cs)) := by
  rw [h.2 j hc (by rw [hj]; intro h; cases h), hj]
theorem Gr.kp {st st' : ASt} (h : Gr st st') : Kp st st' := ⟨h.1, fun j hj _ => h.2 j hj⟩
theorem Gr.at {st st' : ASt} (h : Gr st st') {j : Nat} {b : Option Blk} (hj : st.heap j = b) (hc : j < st.ctr) : st'.heap j = b := by rw [h.2 j hc, hj]
theorem ai_app3 {t e : TypeId} {agg : Bool} {sz : Nat} {base st : ASt} {v x : AVal} {es ns : List AVal} (hT : SlT E.P t e agg sz) (h : AI sz base st v es) (hb : Gr base st) (he : es.all (elemOk agg sz) = true) (hx : srcA E.P e t agg sz st x = some ns) (hne : ns ≠ []) (hl : es.length + ns.length ≤ 1000000) :
    ∃ v' st', appendA E.P false t t v x st = some (v', st') ∧ AI sz base st' v' (es ++ ns) ∧ Gr base st' ∧ Kp st st' := by
  rcases h with ⟨rfl, rfl⟩ | ⟨k, rfl, h0, h1, h2⟩
  · refine ⟨_, _, app_nil hT hx hne (by simp at hl; omega), .inr ⟨st.ctr, rfl, hb.1, by simp [ASt.new], ASt.new_same _ _⟩, hb.trans (Gr.new _ _), (Gr.new _ _).kp⟩
  · refine ⟨_, _, app_tok hT he hx hne (by omega) h2, .inr ⟨st.ctr, rfl, hb.1, by simp [ASt.new, ASt.set], ?_⟩, ⟨?_, fun j hj => ?_⟩, ⟨by simp [ASt.new, ASt.set], fun j hj hn => ?_⟩⟩
    · simp [ASt.new, ASt.set]
    · have := hb.1; simp [ASt.new, ASt.set]; omega
    · have h4 := hb.1
      rw [ASt.new_ne _ _ _ (by simp [ASt.set]; omega), ASt.set_ne _ _ _ _ (by omega), hb.2 j hj]
    · have hjk : j ≠ k := fun e => hn (e ▸ h2)
      rw [ASt.new_ne _ _ _ (by simp [ASt.set]; omega), ASt.set_ne _ _ _ _ hjk]
theorem AI.cell {sz : Nat} {base st : ASt} {v : AVal} {es : List AVal} (h : AI sz base st v es) : v.isCell = true := by
  rcases h with ⟨rfl, _⟩ | ⟨k, rfl, _⟩ <;> rfl
theorem AI.set {sz : Nat} {base st : ASt} {v : AVal} {es : List AVal} (h : AI sz base st v es) {p : Nat} {c : AVal} {cs : List AVal} (hp : st.heap p = some (.cells (c :: cs))) (b : Option Blk) : AI sz base (st.set p b) v es := by
  rcases h with h | ⟨k, e, h0, h1, h2⟩
  · exact .inl h
  · refine .inr ⟨k, e, h0, h1, ?_⟩
    rw [ASt.set_ne _ _ _ _ (fun e => by rw [e, hp] at h2; cases h2)]
    exact h2
/-- a row's value, whatever lies behind it -/
def RV (sz : Nat) (v : AVal) (es : List AVal) : Prop := (v = .nilSlice ∧ es = []) ∨ ∃ c, v = .islice sz es c
theorem AI.rv {sz : Nat} {b st : ASt} {v : AVal} {es : List AVal} (h : AI sz b st v es) : RV sz v es := h.imp id fun ⟨k, h, _⟩ => ⟨_, h⟩
end Go.Proofs.YtpgcbmmifmnfpaaDoorV
