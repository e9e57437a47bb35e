/- How single operations of the second reading are reckoned. No condition. -/
import Derived.Test.YtjpehemkgikkdaaA18
namespace Go.Proofs.YtjpehemkgikkdaaA
open Go Go.RowKit
set_option linter.unusedVariables false
set_option linter.unusedSimpArgs false

/-! ### numbers, whatever the program -/
section
variable (P : Program) (t : TypeId) (xo yo : Operand) (k yk : IntKind) (a b : Int)
theorem b_lss : binA P .lss t xo yo (.lit (.int k a)) (.lit (.int k b)) = some (.lit (.bool (decide (a < b)))) := by cases k <;> rfl
theorem b_leq : binA P .leq t xo yo (.lit (.int k a)) (.lit (.int k b)) = some (.lit (.bool (decide (a ≤ b)))) := by cases k <;> rfl
theorem b_gtr : binA P .gtr t xo yo (.lit (.int k a)) (.lit (.int k b)) = some (.lit (.bool (decide (a > b)))) := by cases k <;> rfl
theorem b_geq : binA P .geq t xo yo (.lit (.int k a)) (.lit (.int k b)) = some (.lit (.bool (decide (a ≥ b)))) := by cases k <;> rfl
theorem b_eql : binA P .eql t xo yo (.lit (.int k a)) (.lit (.int k b)) = some (.lit (.bool (a == b))) := by cases k <;> rfl
theorem b_neq : binA P .neq t xo yo (.lit (.int k a)) (.lit (.int k b)) = some (.lit (.bool (a != b))) := by cases k <;> rfl
theorem b_add : binA P .add t xo yo (.lit (.int k a)) (.lit (.int k b)) = some (.lit (.int k (k.wrap (a + b)))) := by cases k <;> rfl
theorem b_sub : binA P .sub t xo yo (.lit (.int k a)) (.lit (.int k b)) = some (.lit (.int k (k.wrap (a - b)))) := by cases k <;> rfl
theorem b_mul : binA P .mul t xo yo (.lit (.int k a)) (.lit (.int k b)) = some (.lit (.int k (k.wrap (a * b)))) := by cases k <;> rfl
theorem b_and : binA P .and t xo yo (.lit (.int k a)) (.lit (.int k b)) = some (.lit (.int k (k.wrap (BitVec.ofInt k.bits a &&& BitVec.ofInt k.bits b).toNat))) := by cases k <;> rfl
theorem b_or : binA P .or t xo yo (.lit (.int k a)) (.lit (.int k b)) = some (.lit (.int k (k.wrap (BitVec.ofInt k.bits a ||| BitVec.ofInt k.bits b).toNat))) := by cases k <;> rfl
theorem b_xor : binA P .xor t xo yo (.lit (.int k a)) (.lit (.int k b)) = some (.lit (.int k (k.wrap (BitVec.ofInt k.bits a ^^^ BitVec.ofInt k.bits b).toNat))) := by cases k <;> rfl
theorem b_shr (h : 0 ≤ b) : binA P .shr t xo yo (.lit (.int k a)) (.lit (.int yk b)) = some (.lit (.int k (a.fdiv (2 ^ min b.toNat k.bits)))) := by
  have : (eqGuard .shr t xo yo (.int k a) (.int yk b)) = pure () := rfl
  simp only [binA, valOf, this, pureV]
  have e : binOp .shr t (.int k a) (.int yk b) = (pure (.int k (a.fdiv (2 ^ min b.toNat k.bits))) : Sem Value) := by
    simp only [binOp, Op.shift]
    rw [if_neg (by omega)]
  rw [e]
  rfl
theorem b_shl (h : 0 ≤ b) : binA P .shl t xo yo (.lit (.int k a)) (.lit (.int yk b)) = some (.lit (.int k (k.wrap (a * 2 ^ min b.toNat k.bits)))) := by
  have : (eqGuard .shl t xo yo (.int k a) (.int yk b)) = pure () := rfl
  simp only [binA, valOf, this, pureV]
  have e : binOp .shl t (.int k a) (.int yk b) = (pure (.int k (k.wrap (a * 2 ^ min b.toNat k.bits))) : Sem Value) := by
    simp only [binOp, Op.shift]
    rw [if_neg (by omega)]
  rw [e]
  rfl
end

section
variable (P : Program) (t : TypeId) (xo yo : Operand) (k : IntKind) (a b : Int)
theorem b_quo (h : b ≠ 0) : binA P .quo t xo yo (.lit (.int k a)) (.lit (.int k b)) = some (.lit (.int k (k.wrap (a.tdiv b)))) := by
  have : (eqGuard .quo t xo yo (.int k a) (.int k b)) = pure () := rfl
  simp only [binA, valOf, this, pureV]
  have e : binOp .quo t (.int k a) (.int k b) = (pure (.int k (k.wrap (a.tdiv b))) : Sem Value) := by
    have e0 : binOp .quo t (.int k a) (.int k b) = Op.intDiv .quo k a b := by cases k <;> rfl
    rw [e0]
    unfold Op.intDiv
    rw [if_neg h]
  rw [e]
  rfl
theorem b_rem (h : b ≠ 0) : binA P .rem t xo yo (.lit (.int k a)) (.lit (.int k b)) = some (.lit (.int k (a.tmod b))) := by
  have : (eqGuard .rem t xo yo (.int k a) (.int k b)) = pure () := rfl
  simp only [binA, valOf, this, pureV]
  have e : binOp .rem t (.int k a) (.int k b) = (pure (.int k (a.tmod b)) : Sem Value) := by
    have e0 : binOp .rem t (.int k a) (.int k b) = Op.intDiv .rem k a b := by cases k <;> rfl
    rw [e0]
    unfold Op.intDiv
    rw [if_neg h]
  rw [e]
  rfl
end

theorem pureRun_bind {α β : Type} {P : Program} : ∀ (x : Sem α) (f : α → Sem β), pureRun P (x >>= f) = (pureRun P x).bind fun a => pureRun P (f a)
  | .pure a, f => rfl
  | .program k, f => pureRun_bind (k P) f
  | .mark m k, f => pureRun_bind k f
  | .load .., f | .store .., f | .new .., f | .shape .., f | .freeze .., f | .frozen .., f | .getObj .., f | .setObj .., f | .choose .., f | .sys .., f | .halt _, f => rfl

theorem pureRun_underlying {P : Program} {t : TypeId} {d : TypeDesc} (h : P.underlying t = some d) : pureRun P (underlying t) = some d := by
  unfold underlying
  rw [pureRun_bind]
  show (some P).bind _ = _
  simp only [Option.bind_some, h]
  rfl

theorem c_int {P : Program} {mt : Bool} {src dst : TypeId} {k k' : IntKind} {n : Int} {st : ASt} {d : TypeDesc} (hs : P.underlying src = some d) (hd : P.underlying dst = some (.int k')) :
    convA P mt src dst (.lit (.int k n)) st = some (.lit (.int k' (k'.wrap n)), st) := by
  have : pureRun P (convert src dst (.int k n)) = some (.int k' (k'.wrap n)) := by
    unfold convert
    rw [pureRun_bind, pureRun_underlying hs]
    simp only [Option.bind_some]
    rw [pureRun_bind, pureRun_underlying hd]
    simp only [Option.bind_some]
    rfl
  simp only [convA, valOf, pureV, this]
  rfl

theorem pure_equal {P : Program} {t : TypeId} {a b : Value} {r : Bool} (h : ∀ d, pureRun P (Op.equalIn (d + 1) t a b) = some r) : pureRun P (Op.equal t a b) = some r := by
  unfold Op.equal
  exact h 9999

theorem b_eqb {P : Program} {t : TypeId} {xo yo : Operand} {a b : Bool} (h : P.underlying t = some .bool) : binA P .eql t xo yo (.lit (.bool a)) (.lit (.bool b)) = some (.lit (.bool (a == b))) := by
  have e : pureRun P (Op.equal t (.bool a) (.bool b)) = some (a == b) := pure_equal fun d => by
    unfold Op.equalIn
    rw [pureRun_bind, pureRun_underlying h]
    rfl
  have : pureRun P (do eqGuard .eql t xo yo (.bool a) (.bool b); binOp .eql t (.bool a) (.bool b)) = some (.bool (a == b)) := by
    show pureRun P ((do pure (Value.bool (← Op.equal t (.bool a) (.bool b))) : Sem Value)) = _
    rw [pureRun_bind, e]
    rfl
  simp only [binA, valOf, pureV, this]
  rfl

theorem sb1 : ((some false : Option Bool) == some true) = false := rfl
theorem sb2 : ((some true : Option Bool) == some false) = false := rfl
theorem sb3 : ((some true : Option Bool) == some true) = true := rfl
theorem sb4 : ((some false : Option Bool) == some false) = true := rfl

/-! ### slices of one type -/
structure SlT (P : Program) (t e : TypeId) (agg : Bool) (sz : Nat) : Prop where
  elem : sliceElem P t = some e
  aggT : aggT P e = some agg
  info : ∃ i z, P.info? e = some i ∧ i.size = sz ∧ i.bytes ≤ 4096 ∧ zeroA P e = some z ∧ elemOk agg sz z = true
  pos : 0 < sz

section
variable {P : Program} {t e : TypeId} {agg : Bool} {sz : Nat} {st : ASt}

theorem src_islice (h : SlT P t e agg sz) {ns : List AVal} {c : Cap} (hn : ns.all (elemOk agg sz) = true) : srcA P e t agg sz st (.islice sz ns c) = some ns := by
  unfold srcA
  rw [sliceElem_inv h.elem]
  simp only
  rw [if_pos ⟨trivial, hn⟩]

theorem app_none {s : AVal} (h : SlT P t e agg sz) {x : AVal} (hx : srcA P e t agg sz st x = some []) {mt : Bool} (hs : s = .nilSlice ∨ (∃ es c, s = .islice sz es c)) : appendA P mt t t s x st = some (s, st) := by
  obtain ⟨i, z, hi, rfl, hb, hz, hzk⟩ := h.info
  unfold appendA
  rw [h.elem]
  simp only [hi, h.aggT, hz]
  rw [if_pos ⟨h.pos, hb, hzk⟩, hx]
  simp only [if_true]
  rcases hs with rfl | ⟨es, c, rfl⟩ <;> rfl

theorem app_nil (h : SlT P t e agg sz) {ns : List AVal} {x : AVal} (hx : srcA P e t agg sz st x = some ns) (hne : ns ≠ []) (hl : ns.length ≤ 1073741824) :
    appendA P false t t .nilSlice x st = some (.islice sz ns (.tok st.ctr), st.new (.cells [])) := by
  obtain ⟨i, z, hi, rfl, hb, hz, hzk⟩ := h.info
  unfold appendA AVal.nilSlice
  rw [h.elem]
  simp only [hi, h.aggT, hz]
  rw [if_pos ⟨h.pos, hb, hzk⟩, hx]
  simp only
  rw [if_neg hne, if_pos hl]
  rfl

theorem app_exact (h : SlT P t e agg sz) {es ns : List AVal} {x : AVal} (he : es.all (elemOk agg sz) = true) (hx : srcA P e t agg sz st x = some ns) (hne : ns ≠ []) (hl : es.length + ns.length ≤ 1073741824) :
    appendA P false t t (.islice sz es .exact) x st = some (.islice sz (es ++ ns) (.tok st.ctr), st.new (.cells [])) := by
  obtain ⟨i, z, hi, rfl, hb, hz, hzk⟩ := h.info
  unfold appendA
  rw [h.elem]
  simp only [hi, h.aggT, hz]
  rw [if_pos ⟨h.pos, hb, hzk⟩, hx]
  simp only
  rw [if_neg hne, if_pos ⟨trivial, he, hl⟩]
  rfl

theorem app_tok (h : SlT P t e agg sz) {es ns : List AVal} {x : AVal} {k : Nat} {cs : List AVal} (he : es.all (elemOk agg sz) = true) (hx : srcA P e t agg sz st x = some ns) (hne : ns ≠ []) (hl : es.length + ns.length ≤ 1073741824)
    (hk : st.heap k = some (.cells cs)) : appendA P false t t (.islice sz es (.tok k)) x st = some (.islice sz (es ++ ns) (.tok st.ctr), (st.set k none).new (.cells [])) := by
  obtain ⟨i, z, hi, rfl, hb, hz, hzk⟩ := h.info
  unfold appendA
  rw [h.elem]
  simp only [hi, h.aggT, hz]
  rw [if_pos ⟨h.pos, hb, hzk⟩, hx]
  simp only
  rw [if_neg hne, if_pos ⟨trivial, he, hl⟩]
  simp only [Bool.false_eq_true, if_false, hk]
  rfl

theorem bytes_ok (l : List UInt8) : (l.map byteA).all (elemOk false 1) = true := by
  rw [List.all_eq_true]
  intro x hx
  obtain ⟨b, _, rfl⟩ := List.mem_map.1 hx
  rfl

end

theorem len_islice {P : Program} {t e : TypeId} (h : P.underlying t = some (.slice e)) (mt : Bool) (ty : TypeId) (cs : Array Bool) (sz : Nat) (es : List AVal) (c : Cap) (st : ASt) :
    builtinA P mt .len #[t] ty cs [.islice sz es c] st = some (.val (.lit (.int .i64 es.length)) st) := by
  unfold builtinA
  simp only [vals, valOf, lenA, h]
  rfl

/-! ### a writer: its bytes, and what owns the room behind them -/
def WAt (st : ASt) (s : Nat) (l : List UInt8) (k : Option Nat) : Prop :=
  s < st.ctr ∧ match k with
    | none => l = [] ∧ st.heap s = some (.cells [.nilSlice])
    | some t => t < st.ctr ∧ t ≠ s ∧ st.heap s = some (.cells [.islice 1 (l.map byteA) (.tok t)]) ∧ st.heap t = some (.cells [])

/-- what one call may have turned -/
def Fr (st st' : ASt) (s : Nat) (k : Option Nat) : Prop := st.ctr ≤ st'.ctr ∧ ∀ j, j < st.ctr → j ≠ s → k ≠ some j → st'.heap j = st.heap j

def wval (l : List UInt8) : Option Nat → AVal
  | none => .nilSlice
  | some t => .islice 1 (l.map byteA) (.tok t)

theorem WAt.cell {st : ASt} {s : Nat} {l : List UInt8} {k : Option Nat} (h : WAt st s l k) : st.heap s = some (.cells [wval l k]) := by
  cases k with
  | none => exact h.2.2
  | some t => exact h.2.2.2.1

/-- the state with the old room gone -/
def wclr (st : ASt) : Option Nat → ASt
  | none => st
  | some t => st.set t none

theorem wclr_ctr (st : ASt) (k : Option Nat) : (wclr st k).ctr = st.ctr := by cases k <;> rfl

theorem wclr_heap (st : ASt) (k : Option Nat) (j : Nat) (h : k ≠ some j) : (wclr st k).heap j = st.heap j := by
  cases k with
  | none => rfl
  | some t => exact ASt.set_ne _ _ _ _ (fun e => h (by rw [e]))

/-- the state behind bytes put -/
def wput (st : ASt) (s : Nat) (l : List UInt8) (k : Option Nat) (n : List UInt8) : ASt :=
  ((wclr st k).new (.cells [])).set s (some (.cells [.islice 1 ((l ++ n).map byteA) (.tok st.ctr)]))

theorem wput_at {st : ASt} {s : Nat} {l : List UInt8} {k : Option Nat} (h : WAt st s l k) (n : List UInt8) : WAt (wput st s l k n) s (l ++ n) (some st.ctr) := by
  have h1 : s < st.ctr := h.1
  refine ⟨?_, ?_, by omega, ?_, ?_⟩
  · cases k <;> simp [wput, wclr, ASt.new, ASt.set] <;> omega
  · cases k <;> simp [wput, wclr, ASt.new, ASt.set]
  · cases k <;> simp [wput, wclr, ASt.new, ASt.set]
  · cases k <;> simp [wput, wclr, ASt.new, ASt.set] <;> omega

theorem wput_fr {st : ASt} {s : Nat} {l : List UInt8} {k : Option Nat} (h : WAt st s l k) (n : List UInt8) : Fr st (wput st s l k n) s k := by
  refine ⟨?_, fun j hj hs hk => ?_⟩
  · cases k <;> simp [wput, wclr, ASt.new, ASt.set]
  · have hne : j ≠ st.ctr := by omega
    cases k with
    | none => simp [wput, wclr, ASt.new, ASt.set, hs, hne]
    | some t =>
      have : j ≠ t := fun e => hk (by rw [e])
      simp [wput, wclr, ASt.new, ASt.set, hs, hne, this]

theorem Fr.trans {a b c : ASt} {s : Nat} {k k' : Option Nat} (h : Fr a b s k) (h' : Fr b c s k') (hk : ∀ j, k' = some j → a.ctr ≤ j ∨ k = some j) : Fr a c s k := by
  refine ⟨Nat.le_trans h.1 h'.1, fun j hj hs hn => ?_⟩
  have hk' : k' ≠ some j := by
    intro e
    rcases hk j e with h1 | h1
    · omega
    · exact hn h1
  rw [h'.2 j (Nat.lt_of_lt_of_le hj h.1) hs hk', h.2 j hj hs hn]

/-- bytes appended to a writer's -/
theorem wput_app {P : Program} {t e : TypeId} (hT : SlT P t e false 1) {st : ASt} {s : Nat} {l : List UInt8} {k : Option Nat} (h : WAt st s l k) {n : List UInt8} (hn : n ≠ []) (hl : l.length + n.length ≤ 1073741824) {x : AVal}
    (hx : srcA P e t false 1 st x = some (n.map byteA)) :
    appendA P false t t (wval l k) x st = some (.islice 1 ((l ++ n).map byteA) (.tok st.ctr), (wclr st k).new (.cells [])) := by
  have hne : n.map byteA ≠ [] := by simpa using hn
  cases k with
  | none =>
    have := h.2.1
    subst this
    exact app_nil hT hx hne (by simpa using hl)
  | some tk =>
    rw [List.map_append]
    exact app_tok hT (bytes_ok l) hx hne (by simpa using hl) h.2.2.2.2

end Go.Proofs.YtjpehemkgikkdaaA
