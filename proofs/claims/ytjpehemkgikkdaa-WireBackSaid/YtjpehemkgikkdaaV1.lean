/- A writer's numbers and bytes, in the second reading. No condition. -/
import Derived.Test.YtjpehemkgikkdaaA19
import Derived.Test.YtjpehemkgikkdaaProg
namespace Go.Proofs.YtjpehemkgikkdaaV
open Go Go.RowKit Go.Proofs.YtjpehemkgikkdaaA
set_option linter.unusedVariables false
set_option linter.unusedSimpArgs false
set_option maxRecDepth 100000

noncomputable def E : Env := { P := Try.prog, hint := fun f t => f == 15 && t == 11, glob := fun _ => none }

/-- a number's bytes -/
def encF : Nat → Nat → List UInt8
  | 0, x => [UInt8.ofNat x]
  | m + 1, x => if x < 128 then [UInt8.ofNat x] else UInt8.ofNat (x % 128 + 128) :: encF m (x / 128)
def enc (x : Nat) : List UInt8 := encF 9 x

theorem byteT : SlT E.P 24 5 false 1 := ⟨rfl, rfl, ⟨_, _, rfl, rfl, by decide, rfl, rfl⟩, by decide⟩
theorem u5 : E.P.underlying 5 = some (.int .u8) := rfl
theorem u22 : E.P.underlying 22 = some (.int .u64) := rfl
theorem u24 : E.P.underlying 24 = some (.slice 5) := rfl
theorem fld26 (s : Nat) : fieldA E.P 26 (.ptr s 0) 0 = some (.ptr s 0) := rfl

theorem wrap_u8 (x : Nat) : IntKind.u8.wrap (x : Int) = ((x % 256 : Nat) : Int) := by
  simp [IntKind.wrap, IntKind.bits, IntKind.signed]

theorem or_128 (x : Nat) : IntKind.u8.wrap ((BitVec.ofInt (IntKind.bits .u8) (IntKind.u8.wrap (x : Int)) ||| BitVec.ofInt (IntKind.bits .u8) 128).toNat : Int) = ((x % 128 + 128 : Nat) : Int) := by
  rw [wrap_u8 x]
  have h : ∀ y : Fin 256, IntKind.u8.wrap ((BitVec.ofInt (IntKind.bits .u8) ((y.val : Nat) : Int) ||| BitVec.ofInt (IntKind.bits .u8) 128).toNat : Int) = ((y.val % 128 + 128 : Nat) : Int) := by decide +kernel
  have := h ⟨x % 256, by omega⟩
  simp only at this
  rw [this]
  omega

theorem shr_7 (x : Nat) : (x : Int).fdiv (2 ^ min (7 : Int).toNat (IntKind.bits .u64)) = ((x / 128 : Nat) : Int) := by
  rw [Int.fdiv_eq_ediv_of_nonneg _ (by decide)]
  rfl

theorem byteA_lit (n : Nat) (h : n < 256) : (AVal.lit (.int .u8 (n : Int))) = byteA (UInt8.ofNat n) := by
  unfold byteA
  rw [UInt8.toNat_ofNat_of_lt' (by simpa using h)]

theorem bs1 (v : AVal) (st : ASt) (h : elemOk false 1 v = true) : buildSliceA E.P false 24 1 [(0, v)] st = some (.islice 1 [v] .exact, st) := by
  have e : buildSliceA E.P false 24 1 [(0, v)] st = (match setsE false 1 (List.replicate 1 (.lit (.int .u8 0))) [(0, v)] with
    | some es => some (.islice 1 es .exact, st)
    | none => none) := rfl
  rw [e]
  simp [setsE, h]

/-- a byte put -/
theorem put_byte {st : ASt} {s : Nat} {l : List UInt8} {k : Option Nat} (h : WAt st s l k) (hl : l.length ≤ 1000000) (b : UInt8) :
    loadA E.P 24 st (.ptr s 0) = some (wval l k) ∧
    appendA E.P false 24 24 (wval l k) (.islice 1 [byteA b] .exact) st = some (.islice 1 ((l ++ [b]).map byteA) (.tok st.ctr), (wclr st k).new (.cells [])) ∧
    storeA E.P 24 ((wclr st k).new (.cells [])) (.ptr s 0) (.islice 1 ((l ++ [b]).map byteA) (.tok st.ctr)) = some (wput st s l k [b]) := by
  refine ⟨?_, wput_app byteT h (by simp) (by simp; omega) (src_islice (ns := [b].map byteA) byteT (bytes_ok [b])), ?_⟩
  · have : loadA E.P 24 st (.ptr s 0) = (match st.heap s with
      | some (.cells cs) => partA E.P 24 cs 0
      | _ => none) := rfl
    rw [this, h.cell]
    rfl
  · have hs : ((wclr st k).new (.cells [])).heap s = some (.cells [wval l k]) := by
      have h1 := h.1
      rw [ASt.new_ne _ _ _ (by rw [wclr_ctr]; omega), wclr_heap _ _ _ (by
        intro e
        subst e
        exact h.2.2.1 rfl)]
      exact h.cell
    have : storeA E.P 24 ((wclr st k).new (.cells [])) (.ptr s 0) (.islice 1 ((l ++ [b]).map byteA) (.tok st.ctr)) = (match ((wclr st k).new (.cells [])).heap s with
      | some (.cells cs) => if szOf E.P 24 = some 1 ∧ 0 + 1 ≤ cs.length ∧ true = true then some (((wclr st k).new (.cells [])).set s (some (.cells (putL cs 0 [.islice 1 ((l ++ [b]).map byteA) (.tok st.ctr)])))) else none
      | _ => none) := rfl
    rw [this, hs]
    rfl

noncomputable def numBody : Code := match Try.f16.body with | some (.seq (.block _ (.loop c)) _) => c | _ => .skip
noncomputable def numTail : Code := match Try.f16.body with | some (.seq _ c) => c | _ => .skip

theorem num_body (call : ACall) (dr : Array Oper → Bool) (n : Nat) {s x : Nat} {l : List UInt8} {k : Option Nat} {st : ASt} {ts : List AVal} (h0 : ts[0]? = some (.ptr s 0)) (h1 : ts[1]? = some (.lit (.int .u64 x))) (hl : ts.length = 31)
    (hw : WAt st s l k) (hlen : l.length ≤ 1000000) :
    (x < 128 → ∃ ts', aexec E 16 call dr n numBody ts st = some (.exit 0, ts', st) ∧ ts'[0]? = some (.ptr s 0) ∧ ts'[1]? = some (.lit (.int .u64 x)) ∧ ts'.length = 31) ∧
    (128 ≤ x → ∃ ts', aexec E 16 call dr n numBody ts st = some (.normal, ts', wput st s l k [UInt8.ofNat (x % 128 + 128)]) ∧ ts'[0]? = some (.ptr s 0) ∧ ts'[1]? = some (.lit (.int .u64 (x / 128 : Nat))) ∧ ts'.length = 31) := by
  have hh : ∀ t, E.hint 16 t = false := fun _ => rfl
  refine ⟨fun hx => ?_, fun hx => ?_⟩
  · have hd : decide ((x : Int) ≥ 128) = false := by simp; omega
    simp only [numBody, Try.f16, aexec, aops, aop, Region.wanted, ayielded, aexecOp, aeval, aput, aseq, ablock, ahint, absOf, flat, nilCheckA, ANext.ofP, evals, evalPs, evalO, aresults, aresults1, aresult, aend, List.getElem?_set, List.length_set, Option.map_some, Option.bind_some, if_true, if_false, ↓reduceIte, Nat.reduceLT, Nat.reduceEqDiff, reduceCtorEq, Bool.false_eq_true, false_and, and_false, and_true, true_and, Nat.reduceAdd, Nat.reduceLeDiff, callA, List.getElem?_toArray, List.getElem?_cons_succ, List.getElem?_cons_zero, sb1, sb2, sb3, sb4, h0, h1, hl, b_geq, hd]
    exact ⟨_, rfl, by simp [h0], by simp [h1], by simp [hl]⟩
  · have hd : decide ((x : Int) ≥ 128) = true := by simp; omega
    obtain ⟨p1, p2, p3⟩ := put_byte hw hlen (UInt8.ofNat (x % 128 + 128))
    have hc := c_int (mt := false) (st := st) (k := .u64) (n := (x : Int)) u22 u5
    have hor := or_128 x
    have hby := byteA_lit (x % 128 + 128) (by omega)
    simp only [numBody, Try.f16, aexec, aops, aop, Region.wanted, ayielded, aexecOp, aeval, aput, aseq, ablock, ahint, absOf, flat, nilCheckA, ANext.ofP, evals, evalPs, evalO, aresults, aresults1, aresult, aend, List.getElem?_set, List.length_set, Option.map_some, Option.bind_some, if_true, if_false, ↓reduceIte, Nat.reduceLT, Nat.reduceEqDiff, reduceCtorEq, Bool.false_eq_true, false_and, and_false, and_true, true_and, Nat.reduceAdd, Nat.reduceLeDiff, callA, List.getElem?_toArray, List.getElem?_cons_succ, List.getElem?_cons_zero, sb1, sb2, sb3, sb4, h0, h1, hl, b_geq, hd, hh, fld26, p1, hc, b_or, hor, hby, bs1 (byteA (UInt8.ofNat (x % 128 + 128))) st rfl, builtinA, p2, p3, b_shr _ _ _ _ _ _ _ _ (show (0 : Int) ≤ 7 by decide), shr_7]
    exact ⟨_, rfl, by simp [h0], by simp [hl], by simp [hl]⟩

end Go.Proofs.YtjpehemkgikkdaaV
