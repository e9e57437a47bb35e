/- WirePuts, walked in the second reading: one item. No condition. -/
import Derived.Test.YtjpehemkgikkdaaD1
namespace Go.Proofs.YtjpehemkgikkdaaV
open Go Go.RowKit Go.Proofs.YtjpehemkgikkdaaA
set_option linter.unusedVariables false
set_option linter.unusedSimpArgs false
set_option maxRecDepth 100000

def Item.cs (it : Item) : List AVal := [.lit (.int .u64 it.n), it.v, .lit (.bool it.is)]
/-- the state behind an item laid down -/
def laidI (st : ASt) (it : Item) : ASt := (st.new (.cells [.lit (.int .u64 0), .nilSlice, .lit (.bool false)])).set st.ctr (some (.cells it.cs))

theorem laidI_gr (st : ASt) (it : Item) : Gr st (laidI st it) :=
  ⟨by simp [laidI, ASt.set, ASt.new], fun j hj => by unfold laidI; rw [ASt.set_ne _ _ _ _ (by omega), ASt.new_ne _ _ _ (by omega)]⟩
theorem laidI_at (st : ASt) (it : Item) : (laidI st it).heap st.ctr = some (.cells it.cs) := by simp [laidI, ASt.set]
theorem laidI_ctr (st : ASt) (it : Item) : (laidI st it).ctr = st.ctr + 1 := rfl

theorem alloc_i (st : ASt) : allocA E.P 33 st = some (.ptr st.ctr 0, st.new (.cells [.lit (.int .u64 0), .nilSlice, .lit (.bool false)])) := rfl

theorem store_i (st : ASt) (it : Item) (h : IsB it.v it.raw) : storeA E.P 33 (st.new (.cells [.lit (.int .u64 0), .nilSlice, .lit (.bool false)])) (.ptr st.ctr 0) it.a = some (laidI st it) := by
  have hs : (st.new (.cells [.lit (.int .u64 0), .nilSlice, .lit (.bool false)])).heap st.ctr = some (.cells [.lit (.int .u64 0), .nilSlice, .lit (.bool false)]) := by simp [ASt.new]
  obtain ⟨n, v, raw, b⟩ := it
  rcases h with ⟨c, e⟩ | ⟨a, e, _⟩ <;> simp only at e <;> subst e
  · have : storeA E.P 33 (st.new (.cells [.lit (.int .u64 0), .nilSlice, .lit (.bool false)])) (.ptr st.ctr 0) (.agg [.lit (.int .u64 n), .islice 1 (raw.map byteA) c, .lit (.bool b)]) = (match (st.new (.cells [.lit (.int .u64 0), .nilSlice, .lit (.bool false)])).heap st.ctr with
      | some (.cells cs) => if szOf E.P 33 = some 3 ∧ 0 + 3 ≤ cs.length ∧ true = true then some ((st.new (.cells [.lit (.int .u64 0), .nilSlice, .lit (.bool false)])).set st.ctr (some (.cells (putL cs 0 [.lit (.int .u64 n), .islice 1 (raw.map byteA) c, .lit (.bool b)])))) else none
      | _ => none) := rfl
    show storeA E.P 33 _ _ (.agg [.lit (.int .u64 n), .islice 1 (raw.map byteA) c, .lit (.bool b)]) = _
    rw [this, hs]
    rfl
  · have : storeA E.P 33 (st.new (.cells [.lit (.int .u64 0), .nilSlice, .lit (.bool false)])) (.ptr st.ctr 0) (.agg [.lit (.int .u64 n), .lit (.slice a 0 0), .lit (.bool b)]) = (match (st.new (.cells [.lit (.int .u64 0), .nilSlice, .lit (.bool false)])).heap st.ctr with
      | some (.cells cs) => if szOf E.P 33 = some 3 ∧ 0 + 3 ≤ cs.length ∧ true = true then some ((st.new (.cells [.lit (.int .u64 0), .nilSlice, .lit (.bool false)])).set st.ctr (some (.cells (putL cs 0 [.lit (.int .u64 n), .lit (.slice a 0 0), .lit (.bool b)])))) else none
      | _ => none) := rfl
    show storeA E.P 33 _ _ (.agg [.lit (.int .u64 n), .lit (.slice a 0 0), .lit (.bool b)]) = _
    rw [this, hs]
    rfl

theorem ld_i {st : ASt} {s6 : Nat} {it : Item} (h : st.heap s6 = some (.cells it.cs)) : loadA E.P 22 st (.ptr s6 0) = some (.lit (.int .u64 it.n)) ∧ loadA E.P 24 st (.ptr s6 1) = some it.v ∧ loadA E.P 4 st (.ptr s6 2) = some (.lit (.bool it.is)) := by
  have a0 : loadA E.P 22 st (.ptr s6 0) = (match st.heap s6 with | some (.cells cs) => cs[0]? | _ => none) := rfl
  have a1 : loadA E.P 24 st (.ptr s6 1) = (match st.heap s6 with | some (.cells cs) => cs[1]? | _ => none) := rfl
  have a2 : loadA E.P 4 st (.ptr s6 2) = (match st.heap s6 with | some (.cells cs) => cs[2]? | _ => none) := rfl
  rw [a0, a1, a2, h]
  exact ⟨rfl, rfl, rfl⟩

theorem fld33 (s : Nat) : fieldA E.P 33 (.ptr s 0) 0 = some (.ptr s 0) ∧ fieldA E.P 33 (.ptr s 0) 1 = some (.ptr s 1) ∧ fieldA E.P 33 (.ptr s 0) 2 = some (.ptr s 2) := ⟨rfl, rfl, rfl⟩

noncomputable def ptBody : Code := (code Try.f4).snd.snd.snd.snd.snd.fst.snd.inn
noncomputable def ptPre : Code := .seq (code Try.f4).fst (.seq (code Try.f4).snd.fst (.seq (code Try.f4).snd.snd.fst (.seq (code Try.f4).snd.snd.snd.fst (.seq (code Try.f4).snd.snd.snd.snd.fst (code Try.f4).snd.snd.snd.snd.snd.fst.fst))))
noncomputable def ptEnd : Code := (code Try.f4).snd.snd.snd.snd.snd.snd

/-- a writer, and what is to be in it -/
structure Both (st : ASt) (s : Nat) (l : List UInt8) (kw kt : Option Nat) : Prop where
  w : WAt st s l kw
  t : Own' st l kt
  ts : kt ≠ some s
  tw : ∀ j, kt = some j → kw ≠ some j

theorem Both.lt {st : ASt} {s : Nat} {l : List UInt8} {kw kt : Option Nat} (h : Both st s l kw kt) : ∀ j, kw = some j → j < st.ctr := by
  intro j e
  have := h.w
  subst e
  exact this.2.1

theorem Both.gr {st st' : ASt} {s : Nat} {l : List UInt8} {kw kt : Option Nat} (h : Both st s l kw kt) (hg : Gr st st') : Both st' s l kw kt :=
  ⟨wat_gr h.w hg, ⟨h.t.nil, fun t e => by
    obtain ⟨h1, h2⟩ := h.t.room t e
    exact ⟨Nat.lt_of_lt_of_le h1 hg.1, by rw [hg.2 t h1]; exact h2⟩⟩, h.ts, h.tw⟩

/-- the writer is written, then the other one: both hold the same again -/
theorem both_step {stB stC stD : ASt} {s : Nat} {l n : List UInt8} {kw kt kw' kt' : Option Nat} (h : Both stB s l kw kt) (hw : Wr stB stC s kw kw' (l ++ n))
    (ho : Own' stD (l ++ n) kt') (hc : stC.ctr ≤ stD.ctr) (hf : ∀ j, j < stC.ctr → kt ≠ some j → stD.heap j = stC.heap j) (hk : ∀ j, kt' = some j → stC.ctr ≤ j ∨ kt = some j) : Both stD s (l ++ n) kw' kt' := by
  have hs := h.w.1
  have hsC : s < stC.ctr := Nat.lt_of_lt_of_le hs hw.fr.1
  have hkw : ∀ j, kw' = some j → kt ≠ some j := by
    intro j e e2
    rcases hw.own j e with h1 | h1
    · have := (h.t.room j e2).1; omega
    · exact h.tw j e2 h1
  refine ⟨?_, ho, fun e => ?_, fun j e e2 => ?_⟩
  · have hat := hw.at'
    refine ⟨Nat.lt_of_lt_of_le hat.1 hc, ?_⟩
    cases hk' : kw' with
    | none =>
      rw [hk'] at hat
      exact ⟨hat.2.1, by rw [hf s hsC h.ts]; exact hat.2.2⟩
    | some t =>
      rw [hk'] at hat
      have h1 : t < stC.ctr := hat.2.1
      exact ⟨Nat.lt_of_lt_of_le h1 hc, hat.2.2.1, by rw [hf s hsC h.ts]; exact hat.2.2.2.1, by rw [hf t h1 (hkw t hk')]; exact hat.2.2.2.2⟩
  · rcases hk s e with h1 | h1
    · omega
    · exact h.ts h1
  · rcases hk j e with h1 | h1
    · have : j < stC.ctr := by
        have hat := hw.at'
        rw [e2] at hat
        exact hat.2.1
      omega
    · exact hkw j e2 h1

/-- the other one's room, where the writer was written -/
theorem own_fr {stB stC : ASt} {s : Nat} {l l' : List UInt8} {kw kt kw' : Option Nat} (h : Both stB s l kw kt) (hw : Wr stB stC s kw kw' l') : Own' stC l kt :=
  ⟨h.t.nil, fun t e => by
    obtain ⟨h1, h2⟩ := h.t.room t e
    exact ⟨Nat.lt_of_lt_of_le h1 hw.fr.1, by rw [hw.fr.2 t h1 (fun e2 => h.ts (by rw [e, e2])) (h.tw t e)]; exact h2⟩⟩

end Go.Proofs.YtjpehemkgikkdaaV
