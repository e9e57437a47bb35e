/- Tokens by definition, plainly; rows that grow. No condition. -/
import Derived.Test.YtlpdplchcpkajaaDoorX6
import Derived.Test.YtlpdplchcpkajaaDoorX7
namespace Go.Proofs.YtlpdplchcpkajaaDoorV
open Go Go.RowKit Go.Proofs.YtlpdplchcpkajaaDoorA
set_option linter.unusedVariables false
set_option linter.unusedSimpArgs false
set_option maxRecDepth 100000

/-- elements so far, in a row that nothing else has, laid later than base -/
def AI (sz : Nat) (base st : ASt) (v : AVal) (es : List AVal) : Prop := (v = .nilSlice ∧ es = []) ∨ ∃ k, v = .islice sz es (.tok k) ∧ base.ctr ≤ k ∧ k < st.ctr ∧ st.heap k = some (.cells [])
theorem AI.gr {sz : Nat} {base st st' : ASt} {v : AVal} {es : List AVal} (h : AI sz base st v es) (hg : Gr st st') : AI sz base st' v es := by
  rcases h with h | ⟨k, e, h0, h1, h2⟩
  · exact .inl h
  · exact .inr ⟨k, e, h0, Nat.lt_of_lt_of_le h1 hg.1, by rw [hg.2 k h1]; exact h2⟩
theorem ai_app {t e : TypeId} {agg : Bool} {sz : Nat} {base st : ASt} {v x : AVal} {es ns : List AVal} (hT : SlT E.P t e agg sz) (h : AI sz base st v es) (hb : Gr base st) (he : es.all (elemOk agg sz) = true) (hx : srcA E.P e t agg sz st x = some ns) (hne : ns ≠ []) (hl : es.length + ns.length ≤ 1000000) :
    ∃ v' st', appendA E.P false t t v x st = some (v', st') ∧ AI sz base st' v' (es ++ ns) ∧ Gr base st' := by
  rcases h with ⟨rfl, rfl⟩ | ⟨k, rfl, h0, h1, h2⟩
  · refine ⟨_, _, app_nil hT hx hne (by simp at hl; omega), .inr ⟨st.ctr, rfl, hb.1, by simp [ASt.new], ASt.new_same _ _⟩, hb.trans (Gr.new _ _)⟩
  · refine ⟨_, _, app_tok hT he hx hne (by omega) h2, .inr ⟨st.ctr, rfl, hb.1, by simp [ASt.new, ASt.set], ?_⟩, ⟨?_, fun j hj => ?_⟩⟩
    · simp [ASt.new, ASt.set]
    · have := hb.1; simp [ASt.new, ASt.set]; omega
    · have h4 := hb.1
      rw [ASt.new_ne _ _ _ (by simp [ASt.set]; omega), ASt.set_ne _ _ _ _ (by omega), hb.2 j hj]

/-! ### tokens -/
def wordc (b : UInt8) : Bool := isLet b.toNat || isDig b.toNat
def digc (b : UInt8) : Bool := isDig b.toNat
def blankc (b : UInt8) : Bool := decide (b.toNat = 32 ∨ b.toNat = 10 ∨ b.toNat = 9)
theorem digc_dig {b : UInt8} (h : digc b = true) : IsDig b := by
  have : decide (48 ≤ b.toNat ∧ b.toNat ≤ 57) = true := h
  exact (of_decide_eq_true this : 48 ≤ b.toNat ∧ b.toNat ≤ 57)
structure Tk where
  kind : Nat
  text : List UInt8
  re : Nat
  im : Nat
  pos : Nat
def Tk.a (t : Tk) : AVal := .agg [.lit (.int .i64 (t.kind : Int)), .lit (.string ⟨t.text.toArray⟩), .lit (.complex .f64 t.re t.im), .lit (.int .i64 (t.pos : Int))]
/-- a token at the head of a text: its kind, how many bytes it has behind the first one, its number; or why there is none -/
def tokL (c : UInt8) (r : List UInt8) : Except Nat (Nat × Nat × Nat × Nat) :=
  if isLet c.toNat then .ok (1, (r.takeWhile wordc).length, 0, 0)
  else if isDig c.toNat then
    if (r.dropWhile digc).head? = some 105 then
      if (r.dropWhile digc).tail.head?.any wordc then .error 1
      else if imOk (c :: r.takeWhile digc) then .ok (2, (r.takeWhile digc).length + 1, 0, wb false (digv 0 (c :: r.takeWhile digc))) else .error 6
    else if (r.dropWhile digc).head?.any wordc then .error 1
    else if numOk (c :: r.takeWhile digc) then .ok (2, (r.takeWhile digc).length, wb false (digv 0 (c :: r.takeWhile digc)), 0) else .error 6
  else if isOne c.toNat then
    if r.head? = some 61 ∧ (c = 61 ∨ c = 33) then .ok (3, 1, 0, 0) else .ok (3, 0, 0, 0)
  else .error 1
def lexL (pos : Nat) : List UInt8 → Except (Nat × Nat) (List Tk)
  | [] => .ok []
  | c :: r =>
    if blankc c then lexL (pos + 1) r
    else if c = 47 ∧ r.head? = some 47 then lexL (pos + 1 + (r.takeWhile (· ≠ 10)).length) (r.dropWhile (· ≠ 10))
    else match tokL c r with
      | .error e => .error (pos, e)
      | .ok (k, n, x, y) => match lexL (pos + 1 + n) (r.drop n) with
        | .ok ts => .ok (⟨k, c :: r.take n, x, y, pos⟩ :: ts)
        | .error e => .error e
termination_by l => l.length
decreasing_by
  · simp
  · exact Nat.lt_succ_of_le (List.dropWhile_suffix _).length_le
  · simp; omega
theorem lexL_nil (pos : Nat) : lexL pos [] = .ok [] := by rw [lexL]
theorem lexL_blank {pos : Nat} {c : UInt8} {r : List UInt8} (h : blankc c = true) : lexL pos (c :: r) = lexL (pos + 1) r := by rw [lexL, if_pos h]
theorem lexL_note {pos : Nat} {r : List UInt8} (h : r.head? = some 47) : lexL pos (47 :: r) = lexL (pos + 1 + (r.takeWhile (· ≠ 10)).length) (r.dropWhile (· ≠ 10)) := by
  rw [lexL, if_neg (by decide), if_pos ⟨rfl, h⟩]
theorem lexL_tok {pos : Nat} {c : UInt8} {r : List UInt8} (h : blankc c = false) (h2 : ¬ (c = 47 ∧ r.head? = some 47)) : lexL pos (c :: r) = (match tokL c r with
      | .error e => .error (pos, e)
      | .ok (k, n, x, y) => match lexL (pos + 1 + n) (r.drop n) with
        | .ok ts => .ok (⟨k, c :: r.take n, x, y, pos⟩ :: ts)
        | .error e => .error e) := by
  rw [lexL, if_neg (by rw [h]; decide), if_neg h2]
end Go.Proofs.YtlpdplchcpkajaaDoorV
