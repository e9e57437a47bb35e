/- Floats and complex numbers in the second reading; functions without a body. No condition. -/
import Derived.Test.YtpgcbmmifmnfpaaDoorFL
namespace Go.Proofs.YtpgcbmmifmnfpaaDoorA
open Go Go.RowKit
set_option linter.unusedVariables false
set_option linter.unusedSimpArgs false

/-- a function without a body -/
theorem ext_call {P : Program} {f : FuncId} {fn : Func} {e : Array Value → Sem Value} {args : List AVal} {us : List Value} {v : Value} {a : AVal} {st : ASt} (hf : P.funcs[f]? = some fn) (hname : (fn.name == "runtime.NumGoroutine") = false) (hb : fn.body.isNone = true)
    (hn : Extern.findNext fn = none) (he : Extern.find fn = some e) (hv : vals args = some us) (hr : pureRun P (e us.toArray) = some v) (ha : absOf v = some a) : callFuncA P f args st = some (.val a st) := by
  have h2 : pureRun P (callFunc f us.toArray) = some (.value v) := by
    unfold callFunc
    rw [pureRun_bind]
    have e2 : pureRun P program = some P := rfl
    rw [e2]
    simp only [Option.bind_some, hf, hname, hb, Bool.false_eq_true, if_false, if_true, hn, he]
    rw [pureRun_bind]
    have e3 : pureRun P (mark (.extern f)) = some () := rfl
    rw [e3]
    simp only [Option.bind_some]
    rw [pureRun_bind, hr]
    rfl
  unfold callFuncA
  rw [hf]
  simp only [hname, hb, Bool.false_eq_true, if_false, if_true, hv, h2]
  simp only [nextV, ha, Option.map_some]

section
variable {P : Program} {t : TypeId} {xo yo : Operand}
theorem fl_bin {op : BinOp} {a b v : Value} {w : AVal} (hg : eqGuard op t xo yo a b = pure ()) (he : eqAggA P t (.lit a) (.lit b) = none) (h : pureRun P (binOp op t a b) = some v) (hw : absOf v = some w) : binA P op t xo yo (.lit a) (.lit b) = some w := by
  simp only [binA, he, Go.Proofs.YtpgcbmmifmnfpaaDoorA.valOf, pureV, hg]
  show (pureRun P (binOp op t a b)).bind absOf = some w
  rw [h]
  exact hw
theorem f_arith {op : BinOp} {x y r : Nat} (h : (match op with | .add => Ieee.double.add x y | .sub => Ieee.double.sub x y | .mul => Ieee.double.mul x y | _ => none) = some r) : pureRun P (Op.floatArith op .f64 x y) = some (.float .f64 r) := by
  unfold Op.floatArith
  cases op <;> first | (cases h; done) | skip
  all_goals
    rw [pureRun_bind]
    have e : ∀ z : Option Nat, pureRun P (pure z) = some z := fun _ => rfl
    simp only at h
    first
      | (show (pureRun P (pure (Ieee.double.add x y))).bind _ = _; rw [e, h]; rfl)
      | (show (pureRun P (pure (Ieee.double.sub x y))).bind _ = _; rw [e, h]; rfl)
      | (show (pureRun P (pure (Ieee.double.mul x y))).bind _ = _; rw [e, h]; rfl)
theorem b_fadd {x y r : Nat} (h : Ieee.double.add x y = some r) : binA P .add t xo yo (.lit (.float .f64 x)) (.lit (.float .f64 y)) = some (.lit (.float .f64 r)) := fl_bin (v := .float .f64 r) rfl rfl (f_arith (op := .add) h) rfl
theorem b_fsub {x y r : Nat} (h : Ieee.double.sub x y = some r) : binA P .sub t xo yo (.lit (.float .f64 x)) (.lit (.float .f64 y)) = some (.lit (.float .f64 r)) := fl_bin (v := .float .f64 r) rfl rfl (f_arith (op := .sub) h) rfl
theorem b_fmul {x y r : Nat} (h : Ieee.double.mul x y = some r) : binA P .mul t xo yo (.lit (.float .f64 x)) (.lit (.float .f64 y)) = some (.lit (.float .f64 r)) := fl_bin (v := .float .f64 r) rfl rfl (f_arith (op := .mul) h) rfl
theorem b_flss (x y : Nat) : binA P .lss t xo yo (.lit (.float .f64 x)) (.lit (.float .f64 y)) = some (.lit (.bool (Ieee.double.order x y == some .lt))) := rfl
theorem b_fleq (x y : Nat) : binA P .leq t xo yo (.lit (.float .f64 x)) (.lit (.float .f64 y)) = some (.lit (.bool (Ieee.double.order x y == some .lt || Ieee.double.order x y == some .eq))) := rfl
theorem b_fgtr (x y : Nat) : binA P .gtr t xo yo (.lit (.float .f64 x)) (.lit (.float .f64 y)) = some (.lit (.bool (Ieee.double.order x y == some .gt))) := rfl
theorem b_fgeq (x y : Nat) : binA P .geq t xo yo (.lit (.float .f64 x)) (.lit (.float .f64 y)) = some (.lit (.bool (Ieee.double.order x y == some .gt || Ieee.double.order x y == some .eq))) := rfl
theorem b_feql (x y : Nat) : binA P .eql t xo yo (.lit (.float .f64 x)) (.lit (.float .f64 y)) = some (.lit (.bool (Ieee.double.order x y == some .eq))) := rfl
theorem b_fneq (x y : Nat) : binA P .neq t xo yo (.lit (.float .f64 x)) (.lit (.float .f64 y)) = some (.lit (.bool (Ieee.double.order x y != some .eq))) := rfl
theorem b_ceql (a b c d : Nat) : binA P .eql t xo yo (.lit (.complex .f64 a b)) (.lit (.complex .f64 c d)) = some (.lit (.bool ((Ieee.double.order a c == some .eq) && (Ieee.double.order b d == some .eq)))) := rfl
theorem b_cneq (a b c d : Nat) : binA P .neq t xo yo (.lit (.complex .f64 a b)) (.lit (.complex .f64 c d)) = some (.lit (.bool (!((Ieee.double.order a c == some .eq) && (Ieee.double.order b d == some .eq))))) := rfl
theorem c_arith {op : BinOp} {x y r : Nat} (h : (match op with | .add => Ieee.double.add x y | .sub => Ieee.double.sub x y | .mul => Ieee.double.mul x y | _ => none) = some r) : pureRun P (Op.Complex.arith op .f64 x y) = some r := by
  unfold Op.Complex.arith
  rw [pureRun_bind, f_arith h]
  rfl
theorem b_cadd {a b c d r i : Nat} (h1 : Ieee.double.add a c = some r) (h2 : Ieee.double.add b d = some i) : binA P .add t xo yo (.lit (.complex .f64 a b)) (.lit (.complex .f64 c d)) = some (.lit (.complex .f64 r i)) := by
  refine fl_bin rfl rfl (v := .complex .f64 r i) ?_ rfl
  show pureRun P (Op.complexOp .add .f64 a b c d) = _
  unfold Op.complexOp
  simp only
  rw [pureRun_bind, c_arith (op := .add) h1]
  simp only [Option.bind_some]
  rw [pureRun_bind, c_arith (op := .add) h2]
  rfl
theorem b_csub {a b c d r i : Nat} (h1 : Ieee.double.sub a c = some r) (h2 : Ieee.double.sub b d = some i) : binA P .sub t xo yo (.lit (.complex .f64 a b)) (.lit (.complex .f64 c d)) = some (.lit (.complex .f64 r i)) := by
  refine fl_bin rfl rfl (v := .complex .f64 r i) ?_ rfl
  show pureRun P (Op.complexOp .sub .f64 a b c d) = _
  unfold Op.complexOp
  simp only
  rw [pureRun_bind, c_arith (op := .sub) h1]
  simp only [Option.bind_some]
  rw [pureRun_bind, c_arith (op := .sub) h2]
  rfl
theorem b_cmul {a b c d ac bd ad bc r i : Nat} (h1 : Ieee.double.mul a c = some ac) (h2 : Ieee.double.mul b d = some bd) (h3 : Ieee.double.mul a d = some ad) (h4 : Ieee.double.mul b c = some bc) (h5 : Ieee.double.sub ac bd = some r) (h6 : Ieee.double.add ad bc = some i) :
    binA P .mul t xo yo (.lit (.complex .f64 a b)) (.lit (.complex .f64 c d)) = some (.lit (.complex .f64 r i)) := by
  refine fl_bin rfl rfl (v := .complex .f64 r i) ?_ rfl
  have hp : pureRun P (Op.Complex.product a b c d) = some (r, i) := by
    unfold Op.Complex.product Op.Complex.mul Op.Complex.sub Op.Complex.add
    rw [pureRun_bind, c_arith (op := .mul) h1]
    simp only [Option.bind_some]
    rw [pureRun_bind, c_arith (op := .mul) h2]
    simp only [Option.bind_some]
    rw [pureRun_bind, c_arith (op := .sub) h5]
    simp only [Option.bind_some]
    rw [pureRun_bind, c_arith (op := .mul) h3]
    simp only [Option.bind_some]
    rw [pureRun_bind, c_arith (op := .mul) h4]
    simp only [Option.bind_some]
    rw [pureRun_bind, c_arith (op := .add) h6]
    rfl
  show pureRun P (Op.complexOp .mul .f64 a b c d) = _
  have hc : ∀ x : Nat, pureRun P (Op.Complex.conv .f64 x .f64) = some x := fun _ => rfl
  unfold Op.complexOp
  simp only
  rw [pureRun_bind, hc]
  simp only [Option.bind_some]
  rw [pureRun_bind, hc]
  simp only [Option.bind_some]
  rw [pureRun_bind, hc]
  simp only [Option.bind_some]
  rw [pureRun_bind, hc]
  simp only [Option.bind_some]
  have hm : (BinOp.mul == BinOp.mul) = true := rfl
  simp only [hm, if_true]
  rw [pureRun_bind, hp]
  simp only [Option.bind_some]
  rw [pureRun_bind, hc]
  simp only [Option.bind_some]
  rw [pureRun_bind, hc]
  rfl
theorem u_fneg (b : Nat) : pureV P (Op.unary .neg (.float .f64 b)) = some (.lit (.float .f64 (Op.negFloat .f64 b))) := rfl
theorem c_if {mt : Bool} {src dst : TypeId} {k : IntKind} {n : Int} {st : ASt} {d : TypeDesc} (hs : P.underlying src = some d) (hd : P.underlying dst = some (.float .f64)) :
    convA P mt src dst (.lit (.int k n)) st = some (.lit (.float .f64 (FloatKind.f64.nearest n)), st) := by
  have : pureRun P (convert src dst (.int k n)) = some (.float .f64 (FloatKind.f64.nearest n)) := by
    unfold convert
    rw [pureRun_bind, pureRun_underlying hs]
    simp only [Option.bind_some]
    rw [pureRun_bind, pureRun_underlying hd]
    simp only [Option.bind_some]
    rfl
  simp only [convA, Go.Proofs.YtpgcbmmifmnfpaaDoorA.valOf, pureV, this]
  rfl
theorem bi_real (mt : Bool) (ts : Array TypeId) (ty : TypeId) (cs : Array Bool) (a b : Nat) (st : ASt) : builtinA P mt .real ts ty cs [.lit (.complex .f64 a b)] st = some (.val (.lit (.float .f64 a)) st) := rfl
theorem bi_imag (mt : Bool) (ts : Array TypeId) (ty : TypeId) (cs : Array Bool) (a b : Nat) (st : ASt) : builtinA P mt .imag ts ty cs [.lit (.complex .f64 a b)] st = some (.val (.lit (.float .f64 b)) st) := rfl
theorem bi_cplx (mt : Bool) (ts : Array TypeId) (ty : TypeId) (cs : Array Bool) (a b : Nat) (st : ASt) : builtinA P mt .complex ts ty cs [.lit (.float .f64 a), .lit (.float .f64 b)] st = some (.val (.lit (.complex .f64 a b)) st) := rfl
theorem b_andnot (k : IntKind) (a b : Int) : binA P .andNot t xo yo (.lit (.int k a)) (.lit (.int k b)) = some (.lit (.int k (k.wrap (BitVec.ofInt k.bits a &&& ~~~ BitVec.ofInt k.bits b).toNat))) := by cases k <;> rfl
end

/-! ### signs -/
theorem neg_w (s : Bool) {n : Nat} (h : n < 2 ^ 53) : Op.negFloat .f64 (wb s n) = wb (!s) n := by
  have key : ∀ r : Nat, r < 2 ^ 63 → ((if s then 2 ^ 63 else 0) + r) ^^^ 2 ^ 63 = (if !s then 2 ^ 63 else 0) + r := by
    intro r hr
    have e : ∀ x : Nat, x < 2 ^ 63 → 2 ^ 63 + x = 2 ^ 63 ^^^ x := fun x hx => by
      have := Nat.two_pow_add_eq_or_of_lt hx 1
      rw [Nat.mul_one] at this
      rw [this]
      apply Nat.eq_of_testBit_eq
      intro i
      rw [Nat.testBit_or, Nat.testBit_xor, Nat.testBit_two_pow]
      by_cases hi : 63 = i
      · subst hi
        rw [Nat.testBit_lt_two_pow hx]; rfl
      · simp [hi]
    cases s
    · simp only [Bool.false_eq_true, if_false, Nat.zero_add, Bool.not_false, if_true]
      rw [e r hr, Nat.xor_comm]
    · simp only [if_true, Bool.not_true, Bool.false_eq_true, if_false, Nat.zero_add]
      rw [e r hr, Nat.xor_comm, ← Nat.xor_assoc, Nat.xor_self, Nat.zero_xor]
  show wb s n ^^^ 2 ^ 63 = wb (!s) n
  by_cases h0 : n = 0
  · subst h0
    have := key 0 (by decide)
    simpa [wb] using this
  · obtain ⟨k1, k2⟩ := kept_ge h h0
    have hl := log2_lt53 h h0
    have := key ((1022 + n.log2) * 2 ^ 52 + n * 2 ^ (52 - n.log2)) (by omega)
    unfold wb
    rw [if_neg h0, if_neg h0]
    exact this
theorem wb_lt (s : Bool) {n : Nat} (h : n < 2 ^ 53) : wb s n < 2 ^ 64 ∧ wb false n < 2 ^ 63 ∧ wb true n = 2 ^ 63 + wb false n := by
  by_cases h0 : n = 0
  · subst h0; cases s <;> exact ⟨by decide, by decide, rfl⟩
  · obtain ⟨k1, k2⟩ := kept_ge h h0
    have hl := log2_lt53 h h0
    unfold wb
    rw [if_neg h0, if_neg h0, if_neg h0]
    refine ⟨?_, ?_, ?_⟩
    · cases s <;> simp only [Bool.false_eq_true, if_false, if_true] <;> omega
    · simp only [Bool.false_eq_true, if_false]; omega
    · simp only [Bool.false_eq_true, if_false, if_true]; omega
/-- the sign's bit is cleared -/
theorem abs_w (s : Bool) {n : Nat} (h : n < 2 ^ 53) : IntKind.u64.wrap (BitVec.ofInt (IntKind.bits .u64) ((wb s n : Nat) : Int) &&& ~~~ BitVec.ofInt (IntKind.bits .u64) 9223372036854775808).toNat = ((wb false n : Nat) : Int) := by
  obtain ⟨h1, h2, h3⟩ := wb_lt s h
  have e : (BitVec.ofInt (IntKind.bits .u64) ((wb s n : Nat) : Int) &&& ~~~ BitVec.ofInt (IntKind.bits .u64) 9223372036854775808).toNat = wb false n := by
    have e1 : ∀ x : Nat, x < 2 ^ 63 → ((BitVec.ofNat 64 x &&& ~~~ (BitVec.ofNat 64 9223372036854775808)) = BitVec.ofNat 64 x) ∧ ((BitVec.ofNat 64 (2 ^ 63 + x) &&& ~~~ (BitVec.ofNat 64 9223372036854775808)) = BitVec.ofNat 64 x) := by
      intro x hx
      have hx2 : (BitVec.ofNat 64 x).toNat = x := by rw [BitVec.toNat_ofNat]; omega
      have tb : ∀ i, i < 64 → (BitVec.ofNat 64 x).getLsbD i = x.testBit i := fun i hi => by rw [BitVec.getLsbD_ofNat, decide_eq_true hi, Bool.true_and]
      have t63 : x.testBit 63 = false := Nat.testBit_lt_two_pow hx
      have hc : ∀ i, i < 64 → (BitVec.ofNat 64 9223372036854775808).getLsbD i = decide (63 = i) := fun i hi => by
        rw [BitVec.getLsbD_ofNat, decide_eq_true hi, Bool.true_and, show (9223372036854775808 : Nat) = 2 ^ 63 from rfl, Nat.testBit_two_pow]
      refine ⟨?_, ?_⟩
      · apply BitVec.eq_of_getLsbD_eq
        intro i hi
        rw [BitVec.getLsbD_and, BitVec.getLsbD_not, tb i hi, hc i hi]
        by_cases h63 : 63 = i
        · subst h63; simp [t63]
        · simp [h63, hi]
      · apply BitVec.eq_of_getLsbD_eq
        intro i hi
        rw [BitVec.getLsbD_and, BitVec.getLsbD_not, tb i hi, hc i hi, BitVec.getLsbD_ofNat, decide_eq_true hi, Bool.true_and]
        by_cases h63 : 63 = i
        · subst h63; simp [t63]
        · have : (2 ^ 63 + x).testBit i = x.testBit i := by
            rw [Nat.testBit_two_pow_add_gt (by omega)]
          simp [h63, hi, this]
    have hb : IntKind.bits .u64 = 64 := rfl
    have hcst : BitVec.ofInt 64 9223372036854775808 = BitVec.ofNat 64 9223372036854775808 := rfl
    rw [hb, BitVec.ofInt_natCast, hcst]
    cases s
    · rw [(e1 _ h2).1, BitVec.toNat_ofNat]; omega
    · rw [h3, (e1 _ h2).2, BitVec.toNat_ofNat]; omega
  rw [e]
  exact wr_u64 (by omega) (by omega)
theorem trunc_w (s : Bool) {n : Nat} (h : n < 2 ^ 53) : FloatKind.f64.encode ((FloatKind.f64.decode (wb s n)).integral .zero) = wb s n ∧ ∀ a b, FloatKind.f64.decode (wb s n) ≠ .nan a b := by
  obtain ⟨q, hq⟩ := wb_rd s h
  have hd : FloatKind.f64.decode (wb s n) = .number s (n * 2 ^ q) (-(q : Int)) := hq
  rw [hd]
  refine ⟨?_, fun a b e => by cases e⟩
  unfold Ieee.Datum.integral
  have e1 : (-(q : Int)).toNat = 0 := by omega
  have e2 : (- -(q : Int)).toNat = q := by omega
  have hc : Ieee.Toward.zero.cut s (n * 2 ^ q) q = n := by
    unfold Ieee.Toward.cut
    have hmin : min q ((n * 2 ^ q).log2 + 2) = q ∨ n = 0 := by
      by_cases ha : n = 0
      · exact .inr ha
      · left; rw [log2_shift ha]; omega
    rcases hmin with h | h
    · simp only [h, Nat.one_shiftLeft]
      rw [Nat.mul_div_cancel _ (Nat.two_pow_pos q)]; rfl
    · subst h
      rw [Nat.zero_mul]
      simp only [Nat.zero_div]; rfl
  simp only [e1, e2, Nat.shiftLeft_zero, hc]
  show Ieee.double.write _ = _
  simp only [Ieee.Format.write]
  have := nearest_w s h 0
  rwa [Nat.pow_zero, Nat.mul_one] at this
end Go.Proofs.YtpgcbmmifmnfpaaDoorA
