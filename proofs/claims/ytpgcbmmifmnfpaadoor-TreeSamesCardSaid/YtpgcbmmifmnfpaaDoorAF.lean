/- Single operations reckoned, whatever the program. No condition. -/
import Derived.Test.YtpgcbmmifmnfpaaDoorAE
namespace Go.Proofs.YtpgcbmmifmnfpaaDoorA
open Go Go.RowKit
set_option linter.unusedVariables false
set_option linter.unusedSimpArgs false

def _root_.Go.Code.bin : Code → Code | .block _ c => c | c => c
def _root_.Go.Code.lin : Code → Code | .loop c => c | c => c
def _root_.Go.Code.sin : Code → Code | .scope c => c | c => c

theorem aw_congr {E : Env} {fid : FuncId} {c c' : Code} {ts : List AVal} {st : ASt} {Q : APost} (e : ∀ n ts st, aexec E fid (rw E) (drawB E fid) n c ts st = aexec E fid (rw E) (drawB E fid) n c' ts st) (h : Wp E fid c' ts st Q) : Wp E fid c ts st Q := by
  obtain ⟨n, x, ts', st', h1, h2⟩ := h
  exact ⟨n, x, ts', st', by rw [e]; exact h1, h2⟩
theorem aw_cond_t {E : Env} {fid : FuncId} {c : Operand} {a b : Code} {ts : List AVal} {st : ASt} {Q : APost} (hc : aeval E ts c = some (.lit (.bool true))) (h : Wp E fid a ts st Q) : Wp E fid (.cond c a b) ts st Q := by
  obtain ⟨n, x, ts', st', h1, h2⟩ := h
  exact ⟨n, x, ts', st', by rw [aexec]; simp only [hc]; exact h1, h2⟩
theorem aw_cond_f {E : Env} {fid : FuncId} {c : Operand} {a b : Code} {ts : List AVal} {st : ASt} {Q : APost} (hc : aeval E ts c = some (.lit (.bool false))) (h : Wp E fid b ts st Q) : Wp E fid (.cond c a b) ts st Q := by
  obtain ⟨n, x, ts', st', h1, h2⟩ := h
  exact ⟨n, x, ts', st', by rw [aexec]; simp only [hc]; exact h1, h2⟩
theorem aw_skip {E : Env} {fid : FuncId} {ts : List AVal} {st : ASt} {Q : APost} (h : Q .normal ts st) : Wp E fid .skip ts st Q := ⟨0, .normal, ts, st, by rw [aexec], h⟩

theorem sbn1 : ((none : Option Bool) == some true) = false := rfl
theorem sbn2 : ((none : Option Bool) == some false) = false := rfl

/-! ### memory -/
def blkOf : Option Blk → Option (List AVal)
  | some (.cells cs) => some cs
  | _ => none
theorem blkOf_cells (cs : List AVal) : blkOf (some (.cells cs)) = some cs := rfl

section
variable {P : Program} {t : TypeId}
theorem ld_one {z : Nat} (ha : aggT P t = some false) (hs : szOf P t = some z) (st : ASt) (s o : Nat) : loadA P t st (.ptr s o) = (blkOf (st.heap s)).bind (fun cs => cs[o]?) := by
  unfold loadA
  simp only
  cases st.heap s with
  | none => rfl
  | some b => cases b with
    | cells cs => simp only [blkOf, Option.bind_some, partA, ha, hs]
    | map es => rfl
theorem ld_agg {z : Nat} (ha : aggT P t = some true) (hs : szOf P t = some z) (st : ASt) (s o : Nat) : loadA P t st (.ptr s o) = (blkOf (st.heap s)).bind (fun cs => if o + z ≤ cs.length then some (.agg ((cs.drop o).take z)) else none) := by
  unfold loadA
  simp only
  cases st.heap s with
  | none => rfl
  | some b => cases b with
    | cells cs => simp only [blkOf, Option.bind_some, partA, ha, hs]
    | map es => rfl
theorem cells_cell {v : AVal} (hv : v.isCell = true) : v.cells = [v] := by cases v <;> first | rfl | cases hv
/-- a store whose value isn't known to be one cell -/
def storeU (P : Program) (t : TypeId) (st : ASt) (a v : AVal) : Option ASt := storeA P t st a v
theorem st_one (hs : szOf P t = some 1) (st : ASt) (s o : Nat) (v : AVal) : storeA P t st (.ptr s o) v = if v.isCell = true then (blkOf (st.heap s)).bind (fun cs => if o + 1 ≤ cs.length then some (st.set s (some (.cells (cs.set o v)))) else none) else storeU P t st (.ptr s o) v := by
  by_cases hv : v.isCell = true
  case neg => rw [if_neg hv]; rfl
  rw [if_pos hv]
  unfold storeA
  simp only
  cases st.heap s with
  | none => rfl
  | some b => cases b with
    | cells cs =>
      simp only [blkOf, Option.bind_some, cells_cell hv, hs, List.length_singleton, List.all_cons, List.all_nil, hv, Bool.and_self, true_and, and_true, putL]
    | map es => rfl
theorem st_agg {z : Nat} (hs : szOf P t = some z) (st : ASt) (s o : Nat) (vs : List AVal) : storeA P t st (.ptr s o) (.agg vs) = (blkOf (st.heap s)).bind (fun cs => if vs.length = z ∧ o + vs.length ≤ cs.length ∧ vs.all AVal.isCell = true then some (st.set s (some (.cells (putL cs o vs)))) else none) := by
  unfold storeA
  simp only
  cases st.heap s with
  | none => rfl
  | some b => cases b with
    | cells cs =>
      simp only [blkOf, Option.bind_some, AVal.cells, hs, Option.some.injEq]
      by_cases h : vs.length = z
      · simp [h]
      · rw [if_neg (fun k => h k.1.symm), if_neg (fun k => h k.1)]
    | map es => rfl
end
theorem heap_set_same (st : ASt) (s : Nat) (b : Option Blk) : (st.set s b).heap s = b := ASt.set_same st s b
theorem heap_set_ne (st : ASt) (s k : Nat) (b : Option Blk) (h : k ≠ s) : (st.set s b).heap k = st.heap k := ASt.set_ne st s k b h
theorem heap_new_same (st : ASt) (b : Blk) : (st.new b).heap st.ctr = some b := ASt.new_same st b
theorem heap_new_ne (st : ASt) (k : Nat) (b : Blk) (h : k ≠ st.ctr) : (st.new b).heap k = st.heap k := ASt.new_ne st k b h
theorem set_set' (st : ASt) (s : Nat) (a b : Option Blk) : (st.set s a).set s b = st.set s b := ASt.set_set st s a b

/-! ### numbers -/
theorem wr_i64 {z : Int} (h1 : -9223372036854775808 ≤ z) (h2 : z ≤ 9223372036854775807) : IntKind.i64.wrap z = z := by
  simp [IntKind.wrap, IntKind.bits, IntKind.signed]; omega
theorem wr_i32 {z : Int} (h1 : -2147483648 ≤ z) (h2 : z ≤ 2147483647) : IntKind.i32.wrap z = z := by
  simp [IntKind.wrap, IntKind.bits, IntKind.signed]; omega
theorem wr_i16 {z : Int} (h1 : -32768 ≤ z) (h2 : z ≤ 32767) : IntKind.i16.wrap z = z := by
  simp [IntKind.wrap, IntKind.bits, IntKind.signed]; omega
theorem wr_i8 {z : Int} (h1 : -128 ≤ z) (h2 : z ≤ 127) : IntKind.i8.wrap z = z := by
  simp [IntKind.wrap, IntKind.bits, IntKind.signed]; omega
theorem wr_u64 {z : Int} (h1 : 0 ≤ z) (h2 : z ≤ 18446744073709551615) : IntKind.u64.wrap z = z := by
  simp [IntKind.wrap, IntKind.bits, IntKind.signed]; omega
theorem wr_u32 {z : Int} (h1 : 0 ≤ z) (h2 : z ≤ 4294967295) : IntKind.u32.wrap z = z := by
  simp [IntKind.wrap, IntKind.bits, IntKind.signed]; omega
theorem wr_u16 {z : Int} (h1 : 0 ≤ z) (h2 : z ≤ 65535) : IntKind.u16.wrap z = z := by
  simp [IntKind.wrap, IntKind.bits, IntKind.signed]; omega
theorem wr_u8 {z : Int} (h1 : 0 ≤ z) (h2 : z ≤ 255) : IntKind.u8.wrap z = z := by
  simp [IntKind.wrap, IntKind.bits, IntKind.signed]; omega
theorem dec_t {p : Prop} [d : Decidable p] (h : p) : decide p = true := decide_eq_true h
theorem dec_f {p : Prop} [d : Decidable p] (h : ¬ p) : decide p = false := decide_eq_false h
theorem ieq_t {a b : Int} (h : a = b) : (a == b) = true := by rw [beq_iff_eq]; exact h
theorem ieq_f {a b : Int} (h : a ≠ b) : (a == b) = false := by rw [beq_eq_false_iff_ne]; exact h
theorem ine_t {a b : Int} (h : a ≠ b) : (a != b) = true := by rw [bne_iff_ne]; exact h
theorem ine_f {a b : Int} (h : a = b) : (a != b) = false := by rw [h, bne_self_eq_false]
theorem lit_eq {k : IntKind} {a b : Int} (h : a = b) : some (AVal.lit (.int k a)) = some (.lit (.int k b)) := by rw [h]
theorem u_not (P : Program) (b : Bool) : pureV P (Op.unary .not (.bool b)) = some (.lit (.bool (!b))) := rfl
theorem u_neg (P : Program) (k : IntKind) (n : Int) : pureV P (Op.unary .neg (.int k n)) = some (.lit (.int k (k.wrap (0 - n)))) := rfl
theorem b_neb {P : Program} {t : TypeId} {xo yo : Operand} {a b : Bool} (h : P.underlying t = some .bool) : binA P .neq t xo yo (.lit (.bool a)) (.lit (.bool b)) = some (.lit (.bool (a != b))) := by
  have g : (eqGuard .neq t xo yo (.bool a) (.bool b)) = pure () := rfl
  have e : pureRun P (Op.equal t (.bool a) (.bool b)) = some (a == b) := pure_equal fun d => by
    unfold Op.equalIn
    rw [pureRun_bind, pureRun_underlying h]
    rfl
  have e2 : binOp .neq t (.bool a) (.bool b) = (do pure (.bool (!(← Op.equal t (.bool a) (.bool b))))) := rfl
  simp only [binA, eqAggA, valOf, g, pureV]
  rw [e2]
  have e3 : ∀ x : Sem Unit, x = pure () → ∀ y : Sem Value, (do x; y) = y := fun x hx y => by rw [hx]; rfl
  rw [e3 _ rfl, pureRun_bind, e]
  cases a <;> cases b <;> rfl
theorem bi_app (P : Program) (mt : Bool) (t tx ty : TypeId) (cs : Array Bool) (s x : AVal) (st : ASt) : builtinA P mt .append #[t, tx] ty cs [s, x] st = (appendA P mt t tx s x st).map .ofP := rfl

/-! ### slices -/
section
variable {P : Program} {t e : TypeId} {z : Nat} {es : List AVal} {c : Cap} {k k2 : IntKind} {l h : Int}
theorem cut_max (n h l : Nat) (k : Cap) : cutCap n h l k none = cutCap n h l k none := rfl
theorem sl_lh (hu : P.underlying t = some (.slice e)) (hz : szOf P e = some z) (h0 : 0 ≤ l) (h1 : l ≤ h) (h2 : h ≤ es.length) :
    sliceA P t (.islice z es c) (some (.lit (.int k l))) (some (.lit (.int k2 h))) none = some (.islice z ((es.drop l.toNat).take (h.toNat - l.toNat)) (cutCap es.length h.toNat l.toNat c none)) := by
  unfold sliceA
  rw [hu]
  simp only [hz, if_true, boundsA, boundA, intOfA]
  rw [if_pos (⟨by omega, h2⟩ : 0 ≤ h ∧ h ≤ (es.length : Int))]
  simp only
  rw [if_pos (⟨h0, by omega⟩ : 0 ≤ l ∧ l ≤ (h.toNat : Int))]
theorem sl_l (hu : P.underlying t = some (.slice e)) (hz : szOf P e = some z) (h0 : 0 ≤ l) (h1 : l ≤ es.length) :
    sliceA P t (.islice z es c) (some (.lit (.int k l))) none none = some (.islice z (es.drop l.toNat) (cutCap es.length es.length l.toNat c none)) := by
  unfold sliceA
  rw [hu]
  simp only [hz, if_true, boundsA, boundA, intOfA]
  rw [if_pos (⟨h0, h1⟩ : 0 ≤ l ∧ l ≤ (es.length : Int))]
  simp only
  rw [List.take_of_length_le (by simp)]
theorem sl_h (hu : P.underlying t = some (.slice e)) (hz : szOf P e = some z) (h0 : 0 ≤ h) (h1 : h ≤ es.length) :
    sliceA P t (.islice z es c) none (some (.lit (.int k h))) none = some (.islice z (es.take h.toNat) (cutCap es.length h.toNat 0 c none)) := by
  unfold sliceA
  rw [hu]
  simp only [hz, if_true, boundsA, boundA, intOfA]
  rw [if_pos (⟨h0, h1⟩ : 0 ≤ h ∧ h ≤ (es.length : Int))]
  simp only [List.drop_zero, Nat.sub_zero]
theorem len_nil (hu : P.underlying t = some (.slice e)) (mt : Bool) (ty : TypeId) (cs : Array Bool) (a : Option Addr) (st : ASt) : builtinA P mt .len #[t] ty cs [.lit (.slice a 0 0)] st = some (.val (.lit (.int .i64 0)) st) := by
  have e1 : vals [AVal.lit (.slice a 0 0)] = some [.slice a 0 0] := rfl
  have e2 : (builtin .len #[t] ty cs #[.slice a 0 0]) = (do pure (.value (← Builtin.len_ #[t] ty #[.slice a 0 0]))) := rfl
  unfold builtinA
  simp only [e1]
  rw [e2]
  rw [pureRun_bind]
  have e3 : pureRun P (Builtin.len_ #[t] ty #[.slice a 0 0]) = some (.int .i64 0) := by
    unfold Builtin.len_
    simp only [List.getElem?_toArray, List.getElem?_cons_zero, pureRun_bind, pureRun_underlying hu, Option.bind_some]
    rfl
  rw [e3]; rfl
theorem len_str (hu : P.underlying t = some .string) (mt : Bool) (ty : TypeId) (cs : Array Bool) (s : ByteArray) (st : ASt) : builtinA P mt .len #[t] ty cs [.lit (.string s)] st = some (.val (.lit (.int .i64 s.size)) st) := by
  have e1 : vals [AVal.lit (.string s)] = some [.string s] := rfl
  have e2 : (builtin .len #[t] ty cs #[.string s]) = (do pure (.value (← Builtin.len_ #[t] ty #[.string s]))) := rfl
  unfold builtinA
  simp only [e1]
  rw [e2]
  rw [pureRun_bind]
  have e3 : pureRun P (Builtin.len_ #[t] ty #[.string s]) = some (.int .i64 s.size) := by
    unfold Builtin.len_
    simp only [List.getElem?_toArray, List.getElem?_cons_zero, pureRun_bind, pureRun_underlying hu, Option.bind_some]
    rfl
  rw [e3]; rfl
end

section
variable {P : Program} {t e : TypeId} {agg : Bool} {sz : Nat} {z : AVal} {zs : List AVal} {n : Nat}
theorem bs_i (h1 : sliceElem P t = some e) (h2 : szOf P e = some sz) (h3 : aggT P e = some agg) (h4 : zeroA P e = some z) (h5 : 0 < sz ∧ n * sz ≤ 16777216 ∧ elemOk agg sz z = true) (hz : List.replicate n z = zs) (ps : List (Nat × AVal)) (st : ASt) :
    buildSliceA P false t n ps st = (setsE agg sz zs ps).map (fun es => (.islice sz es .exact, st)) := by
  unfold buildSliceA
  rw [h1]
  simp only [h2, h3, h4, hz]
  rw [if_pos h5]
  cases setsE agg sz zs ps <;> rfl
theorem bs_m (h1 : sliceElem P t = some e) (h2 : szOf P e = some sz) (h3 : aggT P e = some agg) (h4 : zeroA P e = some z) (h5 : 0 < sz ∧ n * sz ≤ 16777216 ∧ elemOk agg sz z = true) (hz : List.replicate n z = zs) (ps : List (Nat × AVal)) (st : ASt) :
    buildSliceA P true t n ps st = (setsE agg sz zs ps).map (fun es => (.slice st.ctr 0 n sz (some n), st.new (.cells (flatE es)))) := by
  unfold buildSliceA
  rw [h1]
  simp only [h2, h3, h4, hz]
  rw [if_pos h5]
  cases setsE agg sz zs ps <;> rfl
end

theorem cs_lit (u : Value) : (AVal.lit u).cells = [.lit u] := rfl
theorem cs_agg (cs : List AVal) : (AVal.agg cs).cells = cs := rfl
theorem cs_ptr (s o : Nat) : (AVal.ptr s o).cells = [.ptr s o] := rfl
theorem cs_iptr (v : AVal) : (AVal.iptr v).cells = [.iptr v] := rfl
theorem cs_slice (s o l sz : Nat) (c : Option Nat) : (AVal.slice s o l sz c).cells = [.slice s o l sz c] := rfl
theorem cs_islice (sz : Nat) (es : List AVal) (c : Cap) : (AVal.islice sz es c).cells = [.islice sz es c] := rfl
theorem cs_func (fn : Fn) (a b : List AVal) : (AVal.func fn a b).cells = [.func fn a b] := rfl
theorem cs_iface (t : TypeId) (v : AVal) : (AVal.iface t v).cells = [.iface t v] := rfl
theorem ic_lit (u : Value) : (AVal.lit u).isCell = true := rfl
theorem ic_agg (cs : List AVal) : (AVal.agg cs).isCell = false := rfl
theorem ic_ptr (s o : Nat) : (AVal.ptr s o).isCell = true := rfl
theorem ic_iptr (v : AVal) : (AVal.iptr v).isCell = true := rfl
theorem ic_slice (s o l sz : Nat) (c : Option Nat) : (AVal.slice s o l sz c).isCell = true := rfl
theorem ic_islice (sz : Nat) (es : List AVal) (c : Cap) : (AVal.islice sz es c).isCell = true := rfl
theorem ic_func (fn : Fn) (a b : List AVal) : (AVal.func fn a b).isCell = true := rfl
theorem ic_iface (t : TypeId) (v : AVal) : (AVal.iface t v).isCell = true := rfl
theorem ite_t {α : Type} {p : Prop} [Decidable p] {a b : α} (h : p) : (if p then a else b) = a := if_pos h
theorem ite_f {α : Type} {p : Prop} [Decidable p] {a b : α} (h : ¬ p) : (if p then a else b) = b := if_neg h
theorem valOf_lit (u : Value) : Go.Proofs.YtpgcbmmifmnfpaaDoorA.valOf (.lit u) = some u := rfl
theorem eo_lit (u : Value) : elemOk false 1 (.lit u) = true := rfl
theorem eo_agg (sz : Nat) (cs : List AVal) : elemOk true sz (.agg cs) = (cs.length == sz && cs.all AVal.isCell && true) := rfl
theorem eo_ptr (s o : Nat) : elemOk false 1 (.ptr s o) = true := rfl
theorem eo_iptr (v : AVal) : elemOk false 1 (.iptr v) = true := rfl
theorem eo_slice (s o l sz : Nat) (c : Option Nat) : elemOk false 1 (.slice s o l sz c) = true := rfl
theorem eo_islice (sz : Nat) (es : List AVal) (c : Cap) : elemOk false 1 (.islice sz es c) = true := rfl
theorem eo_func (fn : Fn) (a b : List AVal) : elemOk false 1 (.func fn a b) = true := rfl
theorem eo_iface (t : TypeId) (v : AVal) : elemOk false 1 (.iface t v) = true := rfl
theorem eo_byte (b : UInt8) : elemOk false 1 (byteA b) = true := rfl
/-! ### one operation, by its kind -/
def slotOf (ops : Array Oper) (j : Nat) : Option Tmp := (ops[j]?).bind (·.dst)
def yieldB (d : Option Tmp) (ts : List AVal) : Option Bool := match d with
  | some d => (match ts[d]? with
    | some (.lit (.bool b)) => some b
    | _ => none)
  | none => none
theorem ayielded_eq (ops : Array Oper) (ts : List AVal) (j : Nat) : ayielded ops ts j = yieldB (slotOf ops j) ts := by
  unfold ayielded slotOf yieldB
  cases (ops[j]?).bind (·.dst) <;> rfl
def dstOf : Option Oper → Option Tmp
  | some o => o.dst
  | none => none
theorem slotOf_eq (ops : List Oper) (j : Nat) : slotOf ops.toArray j = dstOf ops[j]? := by
  unfold slotOf dstOf
  rw [List.getElem?_toArray]
  cases ops[j]? <;> rfl
def stillD (x : Option ANext) (d : Option Tmp) (ts : List AVal) (st : ASt) : Prop := match d with
  | some d => (match ts[d]? with
    | some v => x = some (.val v st)
    | none => False)
  | none => False
def stillO (E : Env) (fid : FuncId) (ops : Array Oper) (ts : List AVal) (st : ASt) : Option Oper → Prop
  | some o => Region.wanted o (ayielded ops ts) = true → stillD (aexecOp E.P (ahint E fid o) (aeval E ts) o st) o.dst ts st
  | none => False
theorem still_eq (E : Env) (fid : FuncId) (ops : Array Oper) (ts : List AVal) (st : ASt) (k : Nat) : Still E fid ops ts st k = stillO E fid ops ts st ops[k]? := by
  unfold Still
  cases ops[k]? with
  | none => rfl
  | some o =>
    obtain ⟨dst, op, ty, pos, af, gd⟩ := o
    apply propext
    unfold stillO stillD
    cases dst with
    | none => simp
    | some d => cases ht : ts[d]? <;> simp [ht]
section
variable (P : Program) (mt : Bool) (ρ : Operand → Option AVal) (st : ASt) (d : Option Tmp) (ty : TypeId) (pos : String) (af : Array Edge) (gd : Option (Nat × Bool))
theorem xo_move (x : Operand) : aexecOp P mt ρ ⟨d, .move x, ty, pos, af, gd⟩ st = (ρ x).map (.val · st) := rfl
theorem xo_assign (x : Operand) : aexecOp P mt ρ ⟨d, .assign x, ty, pos, af, gd⟩ st = (ρ x).map (.val · st) := rfl
theorem xo_pick (c a b : Operand) : aexecOp P mt ρ ⟨d, .pick c a b, ty, pos, af, gd⟩ st = (match ρ c with
    | some (.lit (.bool true)) => (ρ a).map (.val · st)
    | some (.lit (.bool false)) => (ρ b).map (.val · st)
    | _ => none) := rfl
theorem xo_alloc (e : TypeId) : aexecOp P mt ρ ⟨d, .alloc e, ty, pos, af, gd⟩ st = (allocA P e st).map .ofP := rfl
theorem xo_box (e : TypeId) (x : Operand) : aexecOp P mt ρ ⟨d, .box e x, ty, pos, af, gd⟩ st = (match ρ x with
    | some v => (boxA v st).map .ofP
    | none => none) := rfl
theorem xo_build (t : TypeId) (ps : Array (Nat × Operand)) : aexecOp P mt ρ ⟨d, .build t ps, ty, pos, af, gd⟩ st = (match evalPs ρ ps.toList with
    | some ps => (buildA P t ps).map (.val · st)
    | none => none) := rfl
theorem xo_bslice (t : TypeId) (n : Nat) (ps : Array (Nat × Operand)) : aexecOp P mt ρ ⟨d, .buildSlice t n ps, ty, pos, af, gd⟩ st = (match evalPs ρ ps.toList with
    | some ps => (buildSliceA P mt t n ps st).map .ofP
    | none => none) := rfl
theorem xo_load (t : TypeId) (a : Operand) : aexecOp P mt ρ ⟨d, .load t a, ty, pos, af, gd⟩ st = (match ρ a with
    | some p => (loadA P t st p).map (.val · st)
    | none => none) := rfl
theorem xo_store (t : TypeId) (a x : Operand) : aexecOp P mt ρ ⟨d, .store t a x, ty, pos, af, gd⟩ st = (match ρ a, ρ x with
    | some p, some v => (storeA P t st p v).map (.val .undef ·)
    | _, _ => none) := rfl
theorem xo_nn (x : Operand) : aexecOp P mt ρ ⟨d, .nilCheck x, ty, pos, af, gd⟩ st = (match ρ x with
    | some v => if nilCheckA v = true then some (.val v st) else none
    | none => none) := rfl
theorem xo_bin (op : BinOp) (t : TypeId) (x y : Operand) (t2 : TypeId) : aexecOp P mt ρ ⟨d, .binOp op t x y t2, ty, pos, af, gd⟩ st = (match ρ x, ρ y with
    | some a, some b => (binA P op t x y a b).map (.val · st)
    | _, _ => none) := rfl
theorem xo_un (op : UnOp) (t : TypeId) (x : Operand) : aexecOp P mt ρ ⟨d, .unOp op t x, ty, pos, af, gd⟩ st = (match (ρ x).bind valOf with
    | some v => (pureV P (Op.unary op v)).map (.val · st)
    | none => none) := rfl
theorem xo_conv (s e : TypeId) (x : Operand) : aexecOp P mt ρ ⟨d, .convert s e x, ty, pos, af, gd⟩ st = (match ρ x with
    | some v => (convA P mt s e v st).map .ofP
    | none => none) := rfl
theorem xo_mki (t : TypeId) (x : Operand) : aexecOp P mt ρ ⟨d, .makeInterface t x, ty, pos, af, gd⟩ st = (match ρ x, P.underlying t with
    | some v, some (.interface _) => none
    | some v, some _ => some (.val (boxI t v) st)
    | _, _ => none) := rfl
theorem xo_mkf (fn : Fn) (a b : Array Operand) : aexecOp P mt ρ ⟨d, .makeFunc fn a b, ty, pos, af, gd⟩ st = (match evals ρ a.toList, evals ρ b.toList with
    | some a, some b => some (.val (.func fn a b) st)
    | _, _ => none) := rfl
theorem xo_mks (t : TypeId) (l c : Operand) : aexecOp P mt ρ ⟨d, .makeSlice t l c, ty, pos, af, gd⟩ st = (match ρ l, ρ c with
    | some a, some b => (makeSliceA P t a b st).map .ofP
    | _, _ => none) := rfl
theorem xo_slice (t : TypeId) (x : Operand) (lo hi mx : Option Operand) : aexecOp P mt ρ ⟨d, .slice t x lo hi mx, ty, pos, af, gd⟩ st = (match ρ x, evalO ρ lo, evalO ρ hi, evalO ρ mx with
    | some v, some l, some h, some m => (sliceU P t v l h m).map (.val · st)
    | _, _, _, _ => none) := rfl
theorem xo_fa (t : TypeId) (x : Operand) (f : Nat) : aexecOp P mt ρ ⟨d, .fieldAddr t x f, ty, pos, af, gd⟩ st = (match ρ x with
    | some a => (fieldA P t a f).map (.val · st)
    | none => none) := rfl
theorem xo_fv (t : TypeId) (x : Operand) (f : Nat) : aexecOp P mt ρ ⟨d, .field t x f, ty, pos, af, gd⟩ st = (match ρ x with
    | some a => (fieldV P t a f).map (.val · st)
    | none => none) := rfl
theorem xo_ia (t : TypeId) (x ix : Operand) : aexecOp P mt ρ ⟨d, .indexAddr t x ix, ty, pos, af, gd⟩ st = (match ρ x, ρ ix with
    | some a, some i => (indexA P t a i).map (.val · st)
    | _, _ => none) := rfl
theorem xo_ix (t : TypeId) (x ix : Operand) : aexecOp P mt ρ ⟨d, .index t x ix, ty, pos, af, gd⟩ st = (match ρ x, ρ ix with
    | some (.lit u), some (.lit i) => (pureV P (Instr.index t u i)).map (.val · st)
    | some a, some i => (indexV P t a i).map (.val · st)
    | _, _ => none) := rfl
theorem xo_ext (x : Operand) (i : Nat) : aexecOp P mt ρ ⟨d, .extract x i, ty, pos, af, gd⟩ st = (match ρ x with
    | some a => (extractA a i).map (.val · st)
    | none => none) := rfl
theorem xo_call (c : Call) : aexecOp P mt ρ ⟨d, .call c, ty, pos, af, gd⟩ st = callA P mt ρ c ty st := rfl
theorem xo_panic (x : Operand) : aexecOp P mt ρ ⟨d, .panic x, ty, pos, af, gd⟩ st = (match ρ x with
    | some (.iface t v) => some (.panic (.iface t v) st)
    | _ => none) := rfl
end

/-! ### temporaries, as a function -/
def upd (f : Nat → AVal) (i : Nat) (v : AVal) : Nat → AVal := fun k => if k = i then v else f k
theorem upd_app (f : Nat → AVal) (i : Nat) (v : AVal) (k : Nat) : upd f i v k = if k = i then v else f k := rfl
def Sl (n : Nat) (f : Nat → AVal) : List AVal := (List.range n).map f
theorem sl_len (n : Nat) (f : Nat → AVal) : (Sl n f).length = n := by simp [Sl]
theorem sl_get (n : Nat) (f : Nat → AVal) (k : Nat) : (Sl n f)[k]? = if k < n then some (f k) else none := by
  unfold Sl
  rw [List.getElem?_map]
  by_cases h : k < n
  · rw [if_pos h, List.getElem?_range h]; rfl
  · rw [if_neg h, List.getElem?_eq_none (by simp; omega)]; rfl
theorem sl_set (n : Nat) (f : Nat → AVal) (i : Nat) (v : AVal) : (Sl n f).set i v = Sl n (upd f i v) := by
  apply List.ext_getElem?
  intro k
  rw [List.getElem?_set, sl_len, sl_get, sl_get]
  by_cases h : i = k
  · subst h
    by_cases h2 : i < n
    · simp [h2, upd]
    · simp [h2]
  · have h' : ¬ k = i := fun e => h e.symm
    simp [h, h', upd]
theorem sl_ex {ts : List AVal} {n : Nat} (h : ts.length = n) : ∃ f, ts = Sl n f ∧ ∀ k v, ts[k]? = some v → f k = v := by
  refine ⟨fun k => (ts[k]?).getD .undef, ?_, fun k v hk => by simp only [hk, Option.getD_some]⟩
  apply List.ext_getElem?
  intro k
  rw [sl_get]
  by_cases hk : k < n
  · rw [if_pos hk, List.getElem?_eq_getElem (by omega)]; rfl
  · rw [if_neg hk, List.getElem?_eq_none (by omega)]

section
variable {E : Env} {fid : FuncId}
/-- a loop in its block, by what its temporaries tell -/
theorem aw_forS {id n : Nat} {c : Code} {Q : APost} (I : Nat → (Nat → AVal) → ASt → Prop)
    (step : ∀ i f st, I i f st → Wp E fid c (Sl n f) st (Nx (fun ts st => ∃ f', ts = Sl n f' ∧ ∃ j, j < i ∧ I j f' st) (Bx id Q))) : ∀ i f st, I i f st → Wp E fid (.block id (.loop c)) (Sl n f) st Q :=
  fun i f st h => aw_for (fun i ts st => ∃ f, ts = Sl n f ∧ I i f st) (fun i ts st ⟨f, e, h⟩ => by
    subst e
    refine (step i f st h).mono fun e ts st hq => ?_
    cases e with
    | normal =>
      obtain ⟨f', e, j, hj, hI⟩ := hq
      exact ⟨j, hj, f', e, hI⟩
    | _ => exact hq) i (Sl n f) st ⟨f, rfl, h⟩
theorem ce_of {f : FuncId} {args : List AVal} {st : ASt} {r : AEnd × ASt} {fn : Func} {c : Code} {n : Nat} (hf : E.P.funcs[f]? = some fn) (hb : fn.body = some c) (hn : fn.ntmps = n) (ha : args.length ≤ n)
    (h : ∀ g : Nat → AVal, (∀ (k : Nat) (v : AVal), args[k]? = some v → g k = v) → Wp E f c (Sl n g) st (fun e ts st => aend E fn (some (e, ts, st)) = some r)) (hp : E.prim f = none := by rfl) : rw E f args st = some r := by
  subst hn
  have t := tsOf ha
  obtain ⟨g, e, hg⟩ := sl_ex t.len
  refine rw_wp hf hb ?_ hp
  rw [e]
  exact h g fun k v hk => hg k v (t.at' k v hk)
theorem cx_of {f : FuncId} {args : List AVal} {st : ASt} {R : AEnd → ASt → Prop} {fn : Func} {c : Code} {n : Nat} (hf : E.P.funcs[f]? = some fn) (hb : fn.body = some c) (hn : fn.ntmps = n) (ha : args.length ≤ n)
    (h : ∀ g : Nat → AVal, (∀ (k : Nat) (v : AVal), args[k]? = some v → g k = v) → Wp E f c (Sl n g) st (fun e ts st => ∃ r st', aend E fn (some (e, ts, st)) = some (r, st') ∧ R r st')) (hp : E.prim f = none := by rfl) : ∃ r st', rw E f args st = some (r, st') ∧ R r st' := by
  subst hn
  have t := tsOf ha
  obtain ⟨g, e, hg⟩ := sl_ex t.len
  refine rw_wpx hf hb ?_ hp
  rw [e]
  exact h g fun k v hk => hg k v (t.at' k v hk)
end

/-! ### package variables that are never written -/
theorem law_of_run2 {E : Env} (hm : E.P.follows .mixedOrders = true) {n : Nat} {f : FuncId} {args : List AVal} {st : ASt} (h : run E n f args st0 = some (.returned (.lit (.bool true)), st))
    {W : World} {us : Array Value} (hglob : GlobOK E (g0 W)) (hr : Reps (g0 W) args us.toList) (hprim : PrimOK E W.heap.size W := by exact prim_none rfl) : Calls E.P f us W (fun e w' => e = .returned (.bool true) ∧ Below W.heap.size W w') := by
  refine (run_sound hm n f args st0 _ h hprim (g0 W) W us (sinv0 W) hglob hr).mono fun e w' he => ?_
  obtain ⟨g', h1, h2, h3⟩ := he
  cases e with
  | returned u => exact ⟨by rw [Rep.flat h3], h2.below⟩
  | panicked chain => exact h3.elim
  | outgrown => exact h3.elim
theorem glob_rep {W : World} {k : Nat} {us : List Value} (h : ∀ (j : Nat) (u : Value), us[j]? = some u → W.cell? ⟨k, j, none⟩ = some u) (hf : us.all flat = true) : Rep (g0 W) (.iptr (.agg (us.map .lit))) (.pointer (some ⟨k, 0, none⟩)) := by
  refine Rep.iptr (f := fun j => (us[j]?).getD .nilFunc) (fun j c hc => ?_) (fun j c hc => ?_) (fun c hc => ?_)
  · simp only [AVal.cells, List.getElem?_map] at hc
    cases hu : us[j]? with
    | none => rw [hu] at hc; cases hc
    | some u =>
      simp only [g0, Nat.zero_add, h j u hu, Option.getD_some]
  · simp only [AVal.cells, List.getElem?_map] at hc
    cases hu : us[j]? with
    | none => rw [hu] at hc; cases hc
    | some u =>
      rw [hu] at hc
      cases hc
      exact .lit (List.all_eq_true.1 hf u (List.mem_of_getElem? hu))
  · simp only [AVal.cells] at hc
    obtain ⟨u, _, rfl⟩ := List.mem_map.1 hc
    rfl

end Go.Proofs.YtpgcbmmifmnfpaaDoorA
