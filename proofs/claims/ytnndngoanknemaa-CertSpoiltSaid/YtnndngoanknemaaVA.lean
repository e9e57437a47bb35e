/- A writer's numbers and bytes, in the second reading. No condition. -/
import Derived.Test.YtnndngoanknemaaEA
namespace Go.Proofs.YtnndngoanknemaaV
open Go Go.RowKit Go.Proofs.YtnndngoanknemaaA
set_option linter.unusedVariables false
set_option linter.unusedSimpArgs false
set_option maxRecDepth 100000


/-- a number's bytes -/
def encF : Nat → Nat → List UInt8
  | 0, x => [UInt8.ofNat x]
  | m + 1, x => if x < 128 then [UInt8.ofNat x] else UInt8.ofNat (x % 128 + 128) :: encF m (x / 128)
def enc (x : Nat) : List UInt8 := encF 9 x

theorem byteT : SlT E.P 28 5 false 1 := ⟨rfl, rfl, ⟨_, _, rfl, rfl, by decide, rfl, rfl⟩, by decide⟩
theorem u5 : E.P.underlying 5 = some (.int .u8) := rfl
theorem u22 : E.P.underlying 32 = some (.int .u64) := rfl
theorem u24 : E.P.underlying 28 = some (.slice 5) := rfl
theorem fld26 (s : Nat) : fieldA E.P 30 (.ptr s 0) 0 = some (.ptr s 0) := rfl

theorem wrap_u8 (x : Nat) : IntKind.u8.wrap (x : Int) = ((x % 256 : Nat) : Int) := by
  simp [IntKind.wrap, IntKind.bits, IntKind.signed]

theorem or_128 (x : Nat) : IntKind.u8.wrap ((BitVec.ofInt (IntKind.bits .u8) (IntKind.u8.wrap (x : Int)) ||| BitVec.ofInt (IntKind.bits .u8) 128).toNat : Int) = ((x % 128 + 128 : Nat) : Int) := by
  rw [wrap_u8 x]
  have h : ∀ y : Fin 256, IntKind.u8.wrap ((BitVec.ofInt (IntKind.bits .u8) ((y.val : Nat) : Int) ||| BitVec.ofInt (IntKind.bits .u8) 128).toNat : Int) = ((y.val % 128 + 128 : Nat) : Int) := by decide +kernel
  have := h ⟨x % 256, by omega⟩
  simp only at this
  rw [this]
  omega

theorem shr_7 (x : Nat) : (x : Int).fdiv (2 ^ min (7 : Int).toNat (IntKind.bits .u64)) = ((x / 128 : Nat) : Int) := by
  rw [Int.fdiv_eq_ediv_of_nonneg _ (by decide)]
  rfl

theorem byteA_lit (n : Nat) (h : n < 256) : (AVal.lit (.int .u8 (n : Int))) = byteA (UInt8.ofNat n) := by
  unfold byteA
  rw [UInt8.toNat_ofNat_of_lt' (by simpa using h)]

theorem bs1 (v : AVal) (st : ASt) (h : elemOk false 1 v = true) : buildSliceA E.P false 28 1 [(0, v)] st = some (.islice 1 [v] .exact, st) := by
  have e : buildSliceA E.P false 28 1 [(0, v)] st = (match setsE false 1 (List.replicate 1 (.lit (.int .u8 0))) [(0, v)] with
    | some es => some (.islice 1 es .exact, st)
    | none => none) := rfl
  rw [e]
  simp [setsE, h]

/-- a byte put -/
theorem put_byte {st : ASt} {s : Nat} {l : List UInt8} {k : Option Nat} (h : WAt st s l k) (hl : l.length ≤ 1000000) (b : UInt8) :
    loadA E.P 28 st (.ptr s 0) = some (wval l k) ∧
    appendA E.P false 28 28 (wval l k) (.islice 1 [byteA b] .exact) st = some (.islice 1 ((l ++ [b]).map byteA) (.tok st.ctr), (wclr st k).new (.cells [])) ∧
    storeA E.P 28 ((wclr st k).new (.cells [])) (.ptr s 0) (.islice 1 ((l ++ [b]).map byteA) (.tok st.ctr)) = some (wput st s l k [b]) := by
  refine ⟨?_, wput_app byteT h (by simp) (by simp; omega) (src_islice (ns := [b].map byteA) byteT (bytes_ok [b])), ?_⟩
  · have : loadA E.P 28 st (.ptr s 0) = (match st.heap s with
      | some (.cells cs) => partA E.P 28 cs 0
      | _ => none) := rfl
    rw [this, h.cell]
    rfl
  · have hs : ((wclr st k).new (.cells [])).heap s = some (.cells [wval l k]) := by
      have h1 := h.1
      rw [ASt.new_ne _ _ _ (by rw [wclr_ctr]; omega), wclr_heap _ _ _ (by
        intro e
        subst e
        exact h.2.2.1 rfl)]
      exact h.cell
    have : storeA E.P 28 ((wclr st k).new (.cells [])) (.ptr s 0) (.islice 1 ((l ++ [b]).map byteA) (.tok st.ctr)) = (match ((wclr st k).new (.cells [])).heap s with
      | some (.cells cs) => if szOf E.P 28 = some 1 ∧ 0 + 1 ≤ cs.length ∧ true = true then some (((wclr st k).new (.cells [])).set s (some (.cells (putL cs 0 [.islice 1 ((l ++ [b]).map byteA) (.tok st.ctr)])))) else none
      | _ => none) := rfl
    rw [this, hs]
    rfl

noncomputable def numBody : Code := match Try.f11.body with | some (.seq (.block _ (.loop c)) _) => c | _ => .skip
noncomputable def numTail : Code := match Try.f11.body with | some (.seq _ c) => c | _ => .skip

theorem num_body (call : ACall) (dr : Array Oper → Bool) (n : Nat) {s x : Nat} {l : List UInt8} {k : Option Nat} {st : ASt} {ts : List AVal} (h0 : ts[0]? = some (.ptr s 0)) (h1 : ts[1]? = some (.lit (.int .u64 x))) (hl : ts.length = 31)
    (hw : WAt st s l k) (hlen : l.length ≤ 1000000) :
    (x < 128 → ∃ ts', aexec E 11 call dr n numBody ts st = some (.exit 0, ts', st) ∧ ts'[0]? = some (.ptr s 0) ∧ ts'[1]? = some (.lit (.int .u64 x)) ∧ ts'.length = 31) ∧
    (128 ≤ x → ∃ ts', aexec E 11 call dr n numBody ts st = some (.normal, ts', wput st s l k [UInt8.ofNat (x % 128 + 128)]) ∧ ts'[0]? = some (.ptr s 0) ∧ ts'[1]? = some (.lit (.int .u64 (x / 128 : Nat))) ∧ ts'.length = 31) := by
  have hh : ∀ t, E.hint 11 t = false := fun _ => rfl
  refine ⟨fun hx => ?_, fun hx => ?_⟩
  · have hd : decide ((x : Int) ≥ 128) = false := by simp; omega
    simp only [numBody, Try.f11, aexec, aops, aop, Region.wanted, ayielded, aexecOp, aeval, aput, aseq, ablock, ahint, absOf, flat, nilCheckA, ANext.ofP, evals, evalPs, evalO, aresults, aresults1, aresult, aend, List.getElem?_set, List.length_set, Option.map_some, Option.bind_some, if_true, if_false, ↓reduceIte, Nat.reduceLT, Nat.reduceEqDiff, reduceCtorEq, Bool.false_eq_true, false_and, and_false, and_true, true_and, Nat.reduceAdd, Nat.reduceLeDiff, callA, List.getElem?_toArray, List.getElem?_cons_succ, List.getElem?_cons_zero, sb1, sb2, sb3, sb4, sliceU_i, sliceU_s, sliceU_p, sliceU_l, evalV, h0, h1, hl, b_geq, hd]
    exact ⟨_, rfl, by simp [h0], by simp [h1], by simp [hl]⟩
  · have hd : decide ((x : Int) ≥ 128) = true := by simp; omega
    obtain ⟨p1, p2, p3⟩ := put_byte hw hlen (UInt8.ofNat (x % 128 + 128))
    have hc := c_int (mt := false) (st := st) (k := .u64) (n := (x : Int)) u22 u5
    have hor := or_128 x
    have hby := byteA_lit (x % 128 + 128) (by omega)
    simp only [numBody, Try.f11, aexec, aops, aop, Region.wanted, ayielded, aexecOp, aeval, aput, aseq, ablock, ahint, absOf, flat, nilCheckA, ANext.ofP, evals, evalPs, evalO, aresults, aresults1, aresult, aend, List.getElem?_set, List.length_set, Option.map_some, Option.bind_some, if_true, if_false, ↓reduceIte, Nat.reduceLT, Nat.reduceEqDiff, reduceCtorEq, Bool.false_eq_true, false_and, and_false, and_true, true_and, Nat.reduceAdd, Nat.reduceLeDiff, callA, List.getElem?_toArray, List.getElem?_cons_succ, List.getElem?_cons_zero, sb1, sb2, sb3, sb4, sliceU_i, sliceU_s, sliceU_p, sliceU_l, evalV, h0, h1, hl, b_geq, hd, hh, fld26, p1, hc, b_or, hor, hby, bs1 (byteA (UInt8.ofNat (x % 128 + 128))) st rfl, builtinA, p2, p3, b_shr _ _ _ _ _ _ _ _ (show (0 : Int) ≤ 7 by decide), shr_7]
    exact ⟨_, rfl, by simp [h0], by simp [hl], by simp [hl]⟩

end Go.Proofs.YtnndngoanknemaaV

/- Num's contract. No condition. -/
namespace Go.Proofs.YtnndngoanknemaaV
open Go Go.RowKit Go.Proofs.YtnndngoanknemaaA
set_option linter.unusedVariables false
set_option linter.unusedSimpArgs false
set_option maxRecDepth 100000

/-- bytes were put, and little else was touched -/
structure Wr (st st' : ASt) (s : Nat) (k : Option Nat) (k' : Option Nat) (l' : List UInt8) : Prop where
  at' : WAt st' s l' k'
  fr : Fr st st' s k
  own : ∀ j, k' = some j → st.ctr ≤ j ∨ k = some j

theorem Wr.put {st : ASt} {s : Nat} {l : List UInt8} {k : Option Nat} (h : WAt st s l k) (n : List UInt8) : Wr st (wput st s l k n) s k (some st.ctr) (l ++ n) :=
  ⟨wput_at h n, wput_fr h n, fun j e => .inl (by cases e; exact Nat.le_refl _)⟩

theorem Wr.trans {a b c : ASt} {s : Nat} {k k1 k2 : Option Nat} {l1 l2 : List UInt8} (h : Wr a b s k k1 l1) (h' : Wr b c s k1 k2 l2) : Wr a c s k k2 l2 :=
  ⟨h'.at', h.fr.trans h'.fr h.own, fun j e => by
    rcases h'.own j e with h1 | h1
    · exact .inl (Nat.le_trans h.fr.1 h1)
    · exact h.own j h1⟩

theorem num_loop (call : ACall) (dr : Array Oper → Bool) (n0 : Nat) : ∀ (m x : Nat) (s : Nat) (l : List UInt8) (k : Option Nat) (st : ASt) (ts : List AVal), x < 128 ^ (m + 1) → l.length + m ≤ 1000000 → ts[0]? = some (.ptr s 0) → ts[1]? = some (.lit (.int .u64 x)) → ts.length = 31 →
    WAt st s l k → ∀ n, m < n → ∃ ts' st' x' k' l', aloop (aexec E 11 call dr n0 numBody) n ts st = some (.exit 0, ts', st') ∧ ts'[0]? = some (.ptr s 0) ∧ ts'[1]? = some (.lit (.int .u64 (x' : Nat))) ∧ ts'.length = 31 ∧ x' < 128 ∧ Wr st st' s k k' l' ∧ l' ++ [UInt8.ofNat x'] = l ++ encF m x
  | m, x, s, l, k, st, ts, hx, hlen, h0, h1, hl, hw, 0, hn => by omega
  | m, x, s, l, k, st, ts, hx, hlen, h0, h1, hl, hw, n + 1, hn => by
    by_cases hlt : x < 128
    · obtain ⟨ts', e, a0, a1, al⟩ := (num_body call dr n0 h0 h1 hl hw (by omega)).1 hlt
      refine ⟨ts', st, x, k, l, ?_, a0, a1, al, hlt, ⟨hw, ⟨Nat.le_refl _, fun _ _ _ _ => rfl⟩, fun j e => .inr e⟩, ?_⟩
      · rw [aloop, e]; rfl
      · cases m with
        | zero => rfl
        | succ m => rw [encF, if_pos hlt]
    · cases m with
      | zero => simp only [Nat.zero_add, Nat.pow_one] at hx; omega
      | succ m =>
        obtain ⟨ts', e, a0, a1, al⟩ := (num_body call dr n0 h0 h1 hl hw (by omega)).2 (by omega)
        have hx' : x / 128 < 128 ^ (m + 1) := by
          rw [Nat.div_lt_iff_lt_mul (by decide), ← Nat.pow_succ]
          exact hx
        obtain ⟨ts2, st2, x2, k2, l2, e2, b0, b1, bl, hx2, hw2, hl2⟩ := num_loop call dr n0 m (x / 128) s (l ++ [UInt8.ofNat (x % 128 + 128)]) (some st.ctr) _ ts' hx' (by simp only [List.length_append, List.length_singleton]; omega) a0 a1 al (wput_at hw _) n (by omega)
        refine ⟨ts2, st2, x2, k2, l2, ?_, b0, b1, bl, hx2, (Wr.put hw _).trans hw2, ?_⟩
        · rw [aloop, e, aseq]; exact e2
        · rw [hl2, encF, if_neg hlt, List.append_assoc]; rfl

theorem num_tail (call : ACall) (dr : Array Oper → Bool) (n : Nat) {s x : Nat} {l : List UInt8} {k : Option Nat} {st : ASt} {ts : List AVal} (h0 : ts[0]? = some (.ptr s 0)) (h1 : ts[1]? = some (.lit (.int .u64 x))) (hl : ts.length = 31)
    (hw : WAt st s l k) (hlen : l.length ≤ 1000000) (hx : x < 128) :
    ∃ ts', aexec E 11 call dr n numTail ts st = some (.normal, ts', wput st s l k [UInt8.ofNat x]) := by
  have hh : ∀ t, E.hint 11 t = false := fun _ => rfl
  obtain ⟨p1, p2, p3⟩ := put_byte hw hlen (UInt8.ofNat x)
  have hc := c_int (mt := false) (st := st) (k := .u64) (n := (x : Int)) u22 u5
  have hww : IntKind.u8.wrap (x : Int) = ((x : Nat) : Int) := by rw [wrap_u8]; congr 1; omega
  have hby := byteA_lit x (by omega)
  simp only [numTail, Try.f11, aexec, aops, aop, Region.wanted, ayielded, aexecOp, aeval, aput, aseq, ablock, ahint, absOf, flat, nilCheckA, ANext.ofP, evals, evalPs, evalO, aresults, aresults1, aresult, aend, List.getElem?_set, List.length_set, Option.map_some, Option.bind_some, if_true, if_false, ↓reduceIte, Nat.reduceLT, Nat.reduceEqDiff, reduceCtorEq, Bool.false_eq_true, false_and, and_false, and_true, true_and, Nat.reduceAdd, Nat.reduceLeDiff, callA, List.getElem?_toArray, List.getElem?_cons_succ, List.getElem?_cons_zero, sb1, sb2, sb3, sb4, sliceU_i, sliceU_s, sliceU_p, sliceU_l, evalV, h0, h1, hl, hh, fld26, p1, hc, hww, hby, bs1 (byteA (UInt8.ofNat x)) st rfl, builtinA, p2, p3]
  exact ⟨_, rfl⟩

theorem num_run {s x : Nat} {l : List UInt8} {k : Option Nat} {st : ASt} (hw : WAt st s l k) (hx : x < 2 ^ 64) (hlen : l.length ≤ 999900) :
    ∃ st' k', RetN E 21 11 [.ptr s 0, .lit (.int .u64 x)] st (.tuple []) st' ∧ Wr st st' s k k' (l ++ enc x) := by
  have hb : Try.f11.body = some (.seq (.block 0 (.loop numBody)) numTail) := rfl
  have hx10 : x < 128 ^ (9 + 1) := by
    refine Nat.lt_of_lt_of_le hx (by decide)
  obtain ⟨ts', st', x', k', l', e, a0, a1, al, hx', hw', hl'⟩ := num_loop (run E 20) (drawB E 11) 20 9 x s l k st ([.ptr s 0, .lit (.int .u64 x)] ++ List.replicate 29 .undef) hx10 (by omega) rfl rfl rfl hw 20 (by omega)
  have hll : l'.length ≤ 1000000 := by
    have := congrArg List.length hl'
    have he : ∀ m y, (encF m y).length ≤ m + 1 := by
      intro m
      induction m with
      | zero => intro y; simp [encF]
      | succ m ih =>
        intro y
        rw [encF]
        split
        · simp
        · have := ih (y / 128)
          simp only [List.length_cons]
          omega
    have := he 9 x
    simp only [List.length_append, List.length_singleton] at *
    omega
  obtain ⟨ts2, e2⟩ := num_tail (run E 20) (drawB E 11) 20 a0 a1 al hw'.at' hll hx'
  refine ⟨wput st' s l' k' [UInt8.ofNat x'], some st'.ctr, RetN.of (n := 21) (?_), ?_⟩
  · rw [run_succ (fn := Try.f11) (c := .seq (.block 0 (.loop numBody)) numTail) rfl hb]
    have : ([AVal.ptr s 0, .lit (.int .u64 x)] ++ List.replicate (Try.f11.ntmps - [AVal.ptr s 0, .lit (.int .u64 x)].length) .undef) = ([.ptr s 0, .lit (.int .u64 x)] ++ List.replicate 29 .undef) := rfl
    rw [this, aexec, aexec, aexec, e]
    simp only [ablock, if_true, aseq, e2]
    rfl
  · unfold enc
    rw [← hl']
    exact hw'.trans (Wr.put hw'.at' _)

end Go.Proofs.YtnndngoanknemaaV

/- Bytes's contract, and Equal's. No condition. -/
namespace Go.Proofs.YtnndngoanknemaaV
open Go Go.RowKit Go.Proofs.YtnndngoanknemaaA
set_option linter.unusedVariables false
set_option linter.unusedSimpArgs false
set_option maxRecDepth 100000

/-- these bytes -/
def IsB (v : AVal) (l : List UInt8) : Prop := (∃ c, v = .islice 1 (l.map byteA) c) ∨ (∃ a, v = .lit (.slice a 0 0) ∧ l = [])
/-- nothing of old was touched -/


theorem run_code {n : Nat} {f : FuncId} {args : List AVal} {st : ASt} {fn : Func} (hf : E.P.funcs[f]? = some fn) (hb : fn.body.isSome = true) :
    run E (n + 1) f args st = aend E fn (aexec E f (run E n) (drawB E f) n (code fn) (args ++ List.replicate (fn.ntmps - args.length) .undef) st) := by
  cases h : fn.body with
  | none => rw [h] at hb; cases hb
  | some c =>
    rw [run_succ hf h]
    simp only [code, h, Option.getD_some]

theorem src_b {v : AVal} {l : List UInt8} (h : IsB v l) (st : ASt) : srcA E.P 5 28 false 1 st v = some (l.map byteA) := by
  rcases h with ⟨c, rfl⟩ | ⟨a, rfl, rfl⟩
  · exact src_islice byteT (bytes_ok l)
  · rfl

theorem len_b {v : AVal} {l : List UInt8} (h : IsB v l) (mt : Bool) (ty : TypeId) (cs : Array Bool) (st : ASt) :
    builtinA E.P mt .len #[28] ty cs [v] st = some (.val (.lit (.int .i64 l.length)) st) := by
  rcases h with ⟨c, rfl⟩ | ⟨a, rfl, rfl⟩
  · rw [len_islice (e := 5) u24]; simp
  · rfl

theorem idx_b {v : AVal} {l : List UInt8} (h : IsB v l) {i : Nat} (hi : i < l.length) : indexA E.P 28 v (.lit (.int .i64 i)) = some (.iptr (byteA l[i])) := by
  rcases h with ⟨c, rfl⟩ | ⟨a, rfl, rfl⟩
  · have : indexA E.P 28 (.islice 1 (l.map byteA) c) (.lit (.int .i64 i)) = if 0 ≤ (i : Int) ∧ (i : Int) < (l.map byteA).length ∧ (some 1 : Option Nat) = some 1 then ((l.map byteA)[(i : Int).toNat]?).map .iptr else none := rfl
    rw [this, if_pos ⟨by omega, by simp; omega, rfl⟩]
    simp [hi]
  · simp at hi

theorem load_b (b : UInt8) (st : ASt) : loadA E.P 5 st (.iptr (byteA b)) = some (byteA b) := rfl

theorem load_u8 (n : Int) (st : ASt) : loadA E.P 5 st (.iptr (.lit (.int .u8 n))) = some (.lit (.int .u8 n)) := rfl

/-- these bytes, in this state -/
def BS (st : ASt) (v : AVal) (l : List UInt8) : Prop := IsB v l ∨ ∃ s off cap cs, v = .slice s off l.length 1 cap ∧ s < st.ctr ∧ st.heap s = some (.cells cs) ∧ off + l.length ≤ cs.length ∧ (cs.drop off).take l.length = l.map byteA

theorem BS.gr {st st' : ASt} {v : AVal} {l : List UInt8} (h : BS st v l) (hg : Gr st st') : BS st' v l := by
  rcases h with h | ⟨s, off, cap, cs, e, h1, h2, h3, h4⟩
  · exact .inl h
  · exact .inr ⟨s, off, cap, cs, e, Nat.lt_of_lt_of_le h1 hg.1, by rw [hg.2 s h1]; exact h2, h3, h4⟩

theorem bs_len {st : ASt} {v : AVal} {l : List UInt8} (h : BS st v l) (mt : Bool) (ty : TypeId) (cs : Array Bool) (st2 : ASt) :
    builtinA E.P mt .len #[28] ty cs [v] st2 = some (.val (.lit (.int .i64 l.length)) st2) := by
  rcases h with h | ⟨s, off, cap, cs', rfl, h1, h2, h3, h4⟩
  · exact len_b h mt ty cs st2
  · rfl

theorem bs_idx {st : ASt} {v : AVal} {l : List UInt8} (h : BS st v l) {i : Nat} (hi : i < l.length) : ∃ p, indexA E.P 28 v (.lit (.int .i64 i)) = some p ∧ loadA E.P 5 st p = some (byteA l[i]) := by
  rcases h with h | ⟨s, off, cap, cs, rfl, h1, h2, h3, h4⟩
  · exact ⟨_, idx_b h hi, load_b _ _⟩
  · have e : indexA E.P 28 (.slice s off l.length 1 cap) (.lit (.int .i64 i)) = if 0 ≤ (i : Int) ∧ (i : Int) < (l.length : Nat) then some (.ptr s (off + (i : Int).toNat * 1)) else none := rfl
    refine ⟨_, by rw [e, if_pos ⟨by omega, by omega⟩], ?_⟩
    have e2 : loadA E.P 5 st (.ptr s (off + (i : Int).toNat * 1)) = (match st.heap s with
      | some (.cells cs) => cs[off + (i : Int).toNat * 1]?
      | _ => none) := rfl
    rw [e2, h2]
    simp only
    have := congrArg (fun q => q[i]?) h4
    simp only [List.getElem?_take, if_pos hi, List.getElem?_drop, List.getElem?_map, List.getElem?_eq_getElem hi, Option.map_some] at this
    simpa using this

theorem flat_bytes : ∀ l : List UInt8, flatE (l.map byteA) = l.map byteA
  | [] => rfl
  | b :: l => by
    have := flat_bytes l
    simp only [flatE, List.map_cons, List.flatMap_cons] at this ⊢
    rw [this]
    rfl

/-- a copy of bytes that may be written -/
theorem clone_b {x : AVal} {l : List UInt8} {st : ASt} (hx : srcA E.P 5 28 false 1 st x = some (l.map byteA)) (hlen : l.length ≤ 1000000) :
    ∃ v st', appendA E.P true 28 28 (.islice 1 [] .exact) x st = some (v, st') ∧ BS st' v l ∧ Gr st st' ∧ (l ≠ [] → v = .slice st.ctr 0 l.length 1 none ∧ st' = st.new (.cells (l.map byteA))) := by
  by_cases he : l = []
  · subst he
    exact ⟨_, _, app_none byteT hx (.inr ⟨_, _, rfl⟩), .inl (.inl ⟨_, rfl⟩), Gr.refl _, fun h => absurd rfl h⟩
  · have h1 := app_mut (st := st) (es := []) byteT rfl hx (by simpa using he) (by simp; omega)
    rw [List.nil_append, flat_bytes, List.length_map] at h1
    exact ⟨_, _, h1, .inr ⟨st.ctr, 0, none, l.map byteA, rfl, by simp [ASt.new], by simp [ASt.new], by simp, by rw [List.drop_zero, List.take_of_length_le (by simp)]⟩, Gr.new _ _, fun _ => ⟨rfl, rfl⟩⟩

theorem bytes_code (call : ACall) (dr : Array Oper → Bool) (n : Nat) {s : Nat} {l : List UInt8} {k : Option Nat} {st : ASt} {ts : List AVal} (h0 : ts[0]? = some (.ptr s 0)) (hl : ts.length = 9) (hw : WAt st s l k) (hlen : l.length ≤ 1000000) :
    ∃ v st', aend E Try.f13 (aexec E 13 call dr n (code Try.f13) ts st) = some (.returned v, st') ∧ BS st' v l ∧ Gr st st' ∧ (l ≠ [] → v = .slice st.ctr 0 l.length 1 none ∧ st' = st.new (.cells (l.map byteA))) := by
  have hh : ∀ t, E.hint 13 t = (t == 8) := fun t => by
    simp [E]
  have hb3 : (3 == 8) = false := rfl
  have hb8 : (8 == 8) = true := rfl
  have p1 : loadA E.P 28 st (.ptr s 0) = some (wval l k) := by
    have : loadA E.P 28 st (.ptr s 0) = (match st.heap s with
      | some (.cells cs) => partA E.P 28 cs 0
      | _ => none) := rfl
    rw [this, hw.cell]
    rfl
  have hb0 : buildSliceA E.P false 28 0 [] st = some (.islice 1 [] .exact, st) := rfl
  have hv : IsB (wval l k) l := by
    cases k with
    | none => exact .inr ⟨none, rfl, hw.2.1⟩
    | some t => exact .inl ⟨_, rfl⟩
  obtain ⟨v, st', e, hv', hg, hm⟩ := clone_b (src_b hv st) hlen
  refine ⟨v, st', ?_, hv', hg, hm⟩
  simp only [code, Try.f13, Option.getD_some, aexec, aops, aop, Region.wanted, ayielded, aexecOp, aeval, aput, aseq, ablock, ahint, absOf, flat, nilCheckA, ANext.ofP, evals, evalPs, evalO, aresults, aresults1, aresult, aend, List.getElem?_set, List.length_set, Option.map_some, Option.bind_some, if_true, if_false, ↓reduceIte, Nat.reduceLT, Nat.reduceEqDiff, reduceCtorEq, Bool.false_eq_true, false_and, and_false, and_true, true_and, Nat.reduceAdd, Nat.reduceLeDiff, callA, List.getElem?_toArray, List.getElem?_cons_succ, List.getElem?_cons_zero, sb1, sb2, sb3, sb4, sliceU_i, sliceU_s, sliceU_p, sliceU_l, evalV, h0, hl, hh, hb3, hb8, fld26, p1, hb0, builtinA, e]

theorem bytes_mut {s : Nat} {l : List UInt8} {k : Option Nat} {st : ASt} (hw : WAt st s l k) (hlen : l.length ≤ 1000000) :
    ∃ v st', RetN E 1 13 [.ptr s 0] st v st' ∧ BS st' v l ∧ Gr st st' ∧ (l ≠ [] → v = .slice st.ctr 0 l.length 1 none ∧ st' = st.new (.cells (l.map byteA))) := by
  obtain ⟨v, st', e, h1, h2⟩ := bytes_code (run E 0) (drawB E 13) 0 (ts := [.ptr s 0] ++ List.replicate 8 .undef) rfl rfl hw hlen
  exact ⟨v, st', RetN.of (n := 1) (by rw [run_code (fn := Try.f13) rfl rfl]; exact e), h1, h2⟩

theorem bytes_run {s : Nat} {l : List UInt8} {k : Option Nat} {st : ASt} (hw : WAt st s l k) (hlen : l.length ≤ 1000000) :
    ∃ v st', RetN E 1 13 [.ptr s 0] st v st' ∧ BS st' v l ∧ Gr st st' := by
  obtain ⟨v, st', e, h1, h2, _⟩ := bytes_mut hw hlen
  exact ⟨v, st', e, h1, h2⟩

noncomputable def eqBody : Code := (code Try.f14).snd.snd.fst.snd.inn
noncomputable def eqTail : Code := (code Try.f14).snd.snd.snd
noncomputable def eqInit : Code := (code Try.f14).snd.snd.fst.fst
noncomputable def eqFst : Code := (code Try.f14).snd.fst
theorem eq_code : code Try.f14 = .seq (code Try.f14).fst (.seq eqFst (.seq (.seq eqInit (.block 0 (.loop eqBody))) eqTail)) := rfl

theorem byte_bne (a b : UInt8) : (((a.toNat : Nat) : Int) != ((b.toNat : Nat) : Int)) = (a != b) := by
  by_cases h : a = b
  · subst h; simp
  · have : a.toNat ≠ b.toNat := fun e => h (UInt8.toNat_inj.1 e)
    have h2 : ((a.toNat : Nat) : Int) ≠ ((b.toNat : Nat) : Int) := by omega
    rw [bne, bne, beq_eq_false_iff_ne.2 h2, beq_eq_false_iff_ne.2 h]

set_option maxHeartbeats 1000000 in
theorem eq_body (call : ACall) (n : Nat) {x y : AVal} {l1 l2 : List UInt8} {st : ASt} {ts : List AVal} {i : Nat} (hx : BS st x l1) (hy : BS st y l2) (hll : l1.length = l2.length)
    (h0 : ts[0]? = some x) (h1 : ts[1]? = some y) (h12 : ts[12]? = some (.lit (.int .i64 l1.length))) (h13 : ts[13]? = some (.lit (.int .i64 i))) (hl : ts.length = 26) (hlt : l1.length ≤ 1000000) :
    (i = l1.length → ∃ ts', aexec E 14 call (drawB E 14) n eqBody ts st = some (.exit 0, ts', st) ∧ ts'.length = 26) ∧
    (∀ h : i < l1.length, (l1[i] = l2[i]'(hll ▸ h) → ∃ ts', aexec E 14 call (drawB E 14) n eqBody ts st = some (.normal, ts', st) ∧ ts'[0]? = some x ∧ ts'[1]? = some y ∧ ts'[12]? = some (.lit (.int .i64 l1.length)) ∧ ts'[13]? = some (.lit (.int .i64 (i + 1 : Nat))) ∧ ts'.length = 26) ∧
      (l1[i] ≠ l2[i]'(hll ▸ h) → ∃ ts', aexec E 14 call (drawB E 14) n eqBody ts st = some (.ret, ts', st) ∧ ts'[4]? = some (.lit (.bool false)))) := by
  have hh : ∀ t, E.hint 14 t = false := fun _ => rfl
  have hdr : drawB E 14 (eqBody.snd.snd.fst.inn.snd.fst.ops) = true := by kernel_rfl
  simp only [eqBody, code, Try.f14, Option.getD_some, Code.fst, Code.snd, Code.inn, Code.ops] at hdr
  refine ⟨fun hi => ?_, fun hi => ⟨fun he => ?_, fun he => ?_⟩⟩
  · have hd : decide ((i : Int) < l1.length) = false := by simp; omega
    simp only [eqBody, code, Try.f14, Option.getD_some, Code.fst, Code.snd, Code.inn, aexec, aops, aop, Region.wanted, ayielded, aexecOp, aeval, aput, aseq, ablock, ahint, absOf, flat, nilCheckA, ANext.ofP, evals, evalPs, evalO, aresults, aresults1, aresult, aend, List.getElem?_set, List.length_set, Option.map_some, Option.bind_some, if_true, if_false, ↓reduceIte, Nat.reduceLT, Nat.reduceEqDiff, reduceCtorEq, Bool.false_eq_true, false_and, and_false, and_true, true_and, Nat.reduceAdd, Nat.reduceLeDiff, callA, List.getElem?_toArray, List.getElem?_cons_succ, List.getElem?_cons_zero, sb1, sb2, sb3, sb4, sliceU_i, sliceU_s, sliceU_p, sliceU_l, evalV, h0, h1, h12, h13, hl, hh, b_lss, hd]
    exact ⟨_, rfl, by simp [hl]⟩
  · have hd : decide ((i : Int) < l1.length) = true := by simp; omega
    obtain ⟨p1, i1, j1⟩ := bs_idx hx hi
    obtain ⟨p2, i2, j2⟩ := bs_idx hy (hll ▸ hi)
    unfold byteA at j1 j2
    have hw : IntKind.i64.wrap ((i : Int) + 1) = ((i + 1 : Nat) : Int) := by
      simp [IntKind.wrap, IntKind.bits, IntKind.signed]; omega
    simp only [eqBody, code, Try.f14, Option.getD_some, Code.fst, Code.snd, Code.inn, aexec, aops, aop, Region.wanted, ayielded, aexecOp, aeval, aput, aseq, ablock, ahint, absOf, flat, nilCheckA, ANext.ofP, evals, evalPs, evalO, aresults, aresults1, aresult, aend, List.getElem?_set, List.length_set, Option.map_some, Option.bind_some, if_true, if_false, ↓reduceIte, Nat.reduceLT, Nat.reduceEqDiff, reduceCtorEq, Bool.false_eq_true, false_and, and_false, and_true, true_and, Nat.reduceAdd, Nat.reduceLeDiff, callA, List.getElem?_toArray, List.getElem?_cons_succ, List.getElem?_cons_zero, sb1, sb2, sb3, sb4, sliceU_i, sliceU_s, sliceU_p, sliceU_l, evalV, h0, h1, h12, h13, hl, hh, hdr, b_lss, hd, i1, i2, j1, j2, b_neq, byte_bne, he, bne_self_eq_false, b_add, hw]
    exact ⟨_, rfl, by simp [h0], by simp [h1], by simp [h12], by simp [hl], by simp [hl]⟩
  · have hd : decide ((i : Int) < l1.length) = true := by simp; omega
    obtain ⟨p1, i1, j1⟩ := bs_idx hx hi
    obtain ⟨p2, i2, j2⟩ := bs_idx hy (hll ▸ hi)
    unfold byteA at j1 j2
    have he' : (l1[i] != l2[i]'(hll ▸ hi)) = true := by simpa [bne] using he
    simp only [eqBody, code, Try.f14, Option.getD_some, Code.fst, Code.snd, Code.inn, aexec, aops, aop, Region.wanted, ayielded, aexecOp, aeval, aput, aseq, ablock, ahint, absOf, flat, nilCheckA, ANext.ofP, evals, evalPs, evalO, aresults, aresults1, aresult, aend, List.getElem?_set, List.length_set, Option.map_some, Option.bind_some, if_true, if_false, ↓reduceIte, Nat.reduceLT, Nat.reduceEqDiff, reduceCtorEq, Bool.false_eq_true, false_and, and_false, and_true, true_and, Nat.reduceAdd, Nat.reduceLeDiff, callA, List.getElem?_toArray, List.getElem?_cons_succ, List.getElem?_cons_zero, sb1, sb2, sb3, sb4, sliceU_i, sliceU_s, sliceU_p, sliceU_l, evalV, h0, h1, h12, h13, hl, hh, hdr, b_lss, hd, i1, i2, j1, j2, b_neq, byte_bne, he']
    exact ⟨_, rfl, by simp [hl]⟩

end Go.Proofs.YtnndngoanknemaaV

/- Equal's contract. No condition. -/
namespace Go.Proofs.YtnndngoanknemaaV
open Go Go.RowKit Go.Proofs.YtnndngoanknemaaA
set_option linter.unusedVariables false
set_option linter.unusedSimpArgs false
set_option maxRecDepth 100000

noncomputable def eqHead : Code := .seq (.seq (code Try.f14).fst eqFst) eqInit

theorem eq_head (call : ACall) (n : Nat) {x y : AVal} {l1 l2 : List UInt8} {st : ASt} {ts : List AVal} (hx : BS st x l1) (hy : BS st y l2) (h0 : ts[0]? = some x) (h1 : ts[1]? = some y) (hl : ts.length = 26) :
    (l1.length ≠ l2.length → ∃ ts', aexec E 14 call (drawB E 14) n eqHead ts st = some (.ret, ts', st) ∧ ts'[4]? = some (.lit (.bool false))) ∧
    (l1.length = l2.length → ∃ ts', aexec E 14 call (drawB E 14) n eqHead ts st = some (.normal, ts', st) ∧ 
          ts'[0]? = some x ∧ ts'[1]? = some y ∧ ts'[12]? = some (.lit (.int .i64 l1.length)) ∧ ts'[13]? = some (.lit (.int .i64 (0 : Nat))) ∧ ts'.length = 26) := by
  have hh : ∀ t, E.hint 14 t = false := fun _ => rfl
  refine ⟨fun he => ?_, fun he => ?_⟩
  · have hd : (((l1.length : Nat) : Int) != ((l2.length : Nat) : Int)) = true := by
      have : ((l1.length : Nat) : Int) ≠ ((l2.length : Nat) : Int) := by omega
      rw [bne, beq_eq_false_iff_ne.2 this]; rfl
    simp only [eqHead, eqFst, eqInit, code, Try.f14, Option.getD_some, Code.fst, Code.snd, Code.inn, aexec, aops, aop, Region.wanted, ayielded, aexecOp, aeval, aput, aseq, ablock, ahint, absOf, flat, nilCheckA, ANext.ofP, evals, evalPs, evalO, aresults, aresults1, aresult, aend, List.getElem?_set, List.length_set, Option.map_some, Option.bind_some, if_true, if_false, ↓reduceIte, Nat.reduceLT, Nat.reduceEqDiff, reduceCtorEq, Bool.false_eq_true, false_and, and_false, and_true, true_and, Nat.reduceAdd, Nat.reduceLeDiff, callA, List.getElem?_toArray, List.getElem?_cons_succ, List.getElem?_cons_zero, sb1, sb2, sb3, sb4, sliceU_i, sliceU_s, sliceU_p, sliceU_l, evalV, h0, h1, hl, hh, bs_len hx, bs_len hy, b_neq, hd]
    exact ⟨_, rfl, by simp [hl]⟩
  · have hd : (((l1.length : Nat) : Int) != ((l2.length : Nat) : Int)) = false := by
      simp [he]
    simp only [eqHead, eqFst, eqInit, code, Try.f14, Option.getD_some, Code.fst, Code.snd, Code.inn, aexec, aops, aop, Region.wanted, ayielded, aexecOp, aeval, aput, aseq, ablock, ahint, absOf, flat, nilCheckA, ANext.ofP, evals, evalPs, evalO, aresults, aresults1, aresult, aend, List.getElem?_set, List.length_set, Option.map_some, Option.bind_some, if_true, if_false, ↓reduceIte, Nat.reduceLT, Nat.reduceEqDiff, reduceCtorEq, Bool.false_eq_true, false_and, and_false, and_true, true_and, Nat.reduceAdd, Nat.reduceLeDiff, callA, List.getElem?_toArray, List.getElem?_cons_succ, List.getElem?_cons_zero, sb1, sb2, sb3, sb4, sliceU_i, sliceU_s, sliceU_p, sliceU_l, evalV, h0, h1, hl, hh, bs_len hx, bs_len hy, b_neq, hd]
    exact ⟨_, rfl, by simp [h0], by simp [h1], by simp [hl], by simp [hl], by simp [hl]⟩

theorem eq_parts (call : ACall) (n : Nat) (ts : List AVal) (st : ASt) : aexec E 14 call (drawB E 14) n (code Try.f14) ts st =
    aseq (aexec E 14 call (drawB E 14) n eqHead ts st) (fun ts st => aseq (ablock 0 (aloop (aexec E 14 call (drawB E 14) n eqBody) n ts st)) (aexec E 14 call (drawB E 14) n eqTail)) := by
  rw [eq_code, eqHead]
  simp only [aexec_seq, aexec_block, aexec_loop, aseq_assoc]

theorem eq_tail (call : ACall) (n : Nat) {st : ASt} {ts : List AVal} (hl : ts.length = 26) :
    ∃ ts', aexec E 14 call (drawB E 14) n eqTail ts st = some (.ret, ts', st) ∧ ts'[4]? = some (.lit (.bool true)) := by
  have hh : ∀ t, E.hint 14 t = false := fun _ => rfl
  simp only [eqTail, code, Try.f14, Option.getD_some, Code.fst, Code.snd, Code.inn, aexec, aops, aop, Region.wanted, ayielded, aexecOp, aeval, aput, aseq, ablock, ahint, absOf, flat, nilCheckA, ANext.ofP, evals, evalPs, evalO, aresults, aresults1, aresult, aend, List.getElem?_set, List.length_set, Option.map_some, Option.bind_some, if_true, if_false, ↓reduceIte, Nat.reduceLT, Nat.reduceEqDiff, reduceCtorEq, Bool.false_eq_true, false_and, and_false, and_true, true_and, Nat.reduceAdd, Nat.reduceLeDiff, callA, List.getElem?_toArray, List.getElem?_cons_succ, List.getElem?_cons_zero, sb1, sb2, sb3, sb4, sliceU_i, sliceU_s, sliceU_p, sliceU_l, evalV, hl, hh]
  exact ⟨_, rfl, by simp [hl]⟩

theorem eq_loop (call : ACall) (n : Nat) {x y : AVal} {l1 l2 : List UInt8} {st : ASt} {ts : List AVal} (hx : BS st x l1) (hy : BS st y l2) (hll : l1.length = l2.length) (hlt : l1.length ≤ 1000000)
    (h0 : ts[0]? = some x) (h1 : ts[1]? = some y) (h12 : ts[12]? = some (.lit (.int .i64 l1.length))) (h13 : ts[13]? = some (.lit (.int .i64 (0 : Nat)))) (hl : ts.length = 26) (hn : l1.length < n) :
    ∃ e ts', aloop (aexec E 14 call (drawB E 14) n eqBody) n ts st = some (e, ts', st) ∧ ((e = .exit 0 ∧ l1 = l2 ∧ ts'.length = 26) ∨ (e = .ret ∧ l1 ≠ l2 ∧ ts'[4]? = some (.lit (.bool false)))) := by
  obtain ⟨e, ts', st', h, rfl, hq⟩ := aloop_rule (b := aexec E 14 call (drawB E 14) n eqBody)
    (I := fun k ts s => s = st ∧ ∃ i, k + i = l1.length ∧ l1.take i = l2.take i ∧ ts[0]? = some x ∧ ts[1]? = some y ∧ ts[12]? = some (.lit (.int .i64 l1.length)) ∧ ts[13]? = some (.lit (.int .i64 (i : Nat))) ∧ ts.length = 26)
    (Q := fun e ts' s => s = st ∧ ((e = .exit 0 ∧ l1 = l2 ∧ ts'.length = 26) ∨ (e = .ret ∧ l1 ≠ l2 ∧ ts'[4]? = some (.lit (.bool false)))))
    (step := by
      rintro k ts s ⟨hs, i, hi, ht, a0, a1, a12, a13, al⟩
      rw [hs]
      by_cases hk : i = l1.length
      · obtain ⟨ts', e, hl'⟩ := (eq_body call n (st := st) hx hy hll a0 a1 a12 a13 al hlt).1 hk
        refine .inr ⟨_, ts', _, e, by simp, rfl, .inl ⟨rfl, ?_, hl'⟩⟩
        rw [List.take_of_length_le (by omega), List.take_of_length_le (by omega)] at ht
        exact ht
      · have hlt2 : i < l1.length := by omega
        have hb := (eq_body call n (st := st) hx hy hll a0 a1 a12 a13 al hlt).2 hlt2
        by_cases hee : l1[i] = l2[i]'(hll ▸ hlt2)
        · obtain ⟨ts', e, b0, b1, b12, b13, bl⟩ := hb.1 hee
          refine .inl ⟨ts', _, e, k - 1, by omega, rfl, i + 1, by omega, ?_, b0, b1, b12, b13, bl⟩
          rw [List.take_succ_eq_append_getElem hlt2, List.take_succ_eq_append_getElem (hll ▸ hlt2), ht, hee]
        · obtain ⟨ts', e, b4⟩ := hb.2 hee
          refine .inr ⟨_, ts', _, e, by simp, rfl, .inr ⟨rfl, ?_, b4⟩⟩
          intro hc
          subst hc
          exact hee rfl)
    n l1.length ts st ⟨rfl, 0, by omega, by simp, h0, h1, h12, h13, hl⟩ hn
  exact ⟨e, ts', h, hq⟩

theorem eq_run {x y : AVal} {l1 l2 : List UInt8} (st : ASt) (hx : BS st x l1) (hy : BS st y l2) (hlt : l1.length ≤ 1000000) :
    RetN E (l1.length + 2) 14 [x, y] st (.lit (.bool (l1 == l2))) st := by
  refine RetN.of (n := l1.length + 1 + 1) ?_
  rw [run_code (fn := Try.f14) rfl rfl, eq_parts]
  obtain ⟨ha, hb⟩ := eq_head (run E (l1.length + 1)) (l1.length + 1) (st := st) (ts := [x, y] ++ List.replicate 24 .undef) hx hy rfl rfl rfl
  have hts : ([x, y] ++ List.replicate (Try.f14.ntmps - [x, y].length) .undef) = [x, y] ++ List.replicate 24 .undef := rfl
  have hres : ∀ ts v, ts[4]? = some v → aresults E Try.f14 ts st = some v := by
    intro ts v h
    have : aresults E Try.f14 ts st = (match (match ts[4]? with | some v => some [v] | _ => none) with | some [v] => some v | some vs => some (.tuple vs) | none => none) := by
      unfold aresults
      simp only [Try.f14, aresults1, aresult]
      cases ts[4]? <;> rfl
    rw [this, h]
  rw [hts]
  by_cases hl : l1.length = l2.length
  · obtain ⟨ts3, e3, a0, a1, a12, a13, al⟩ := hb hl
    obtain ⟨e, ts4, e4, hq⟩ := eq_loop (run E (l1.length + 1)) (l1.length + 1) (st := st) hx hy hl hlt a0 a1 a12 a13 al (by omega)
    simp only [aseq, e3]
    rcases hq with ⟨rfl, rfl, h4⟩ | ⟨rfl, hne, h4⟩
    · obtain ⟨ts5, e5, h5⟩ := eq_tail (run E (l1.length + 1)) (l1.length + 1) (st := st) h4
      simp only [e4, ablock, if_true, aseq, e5, aend, hres _ _ h5, Option.map_some, beq_self_eq_true]
    · simp only [e4, ablock, aseq, aend, hres _ _ h4, Option.map_some, beq_eq_false_iff_ne.2 hne]
  · obtain ⟨ts2, e2, h2⟩ := ha hl
    have hne : l1 ≠ l2 := fun e => hl (by rw [e])
    simp only [aseq, e2, aend, hres _ _ h2, Option.map_some, beq_eq_false_iff_ne.2 hne]

end Go.Proofs.YtnndngoanknemaaV

/- Plain laws of a number's bytes, and what stays where another writer is written. No condition. -/
namespace Go.Proofs.YtnndngoanknemaaV
open Go Go.RowKit Go.Proofs.YtnndngoanknemaaA
set_option linter.unusedVariables false
set_option linter.unusedSimpArgs false
set_option maxRecDepth 100000

theorem ofNat_inj {a b : Nat} (ha : a < 256) (hb : b < 256) (h : UInt8.ofNat a = UInt8.ofNat b) : a = b := by
  have := congrArg UInt8.toNat h
  rwa [UInt8.toNat_ofNat_of_lt' (by simpa using ha), UInt8.toNat_ofNat_of_lt' (by simpa using hb)] at this

theorem encF_inj : ∀ (m x y : Nat) (r r' : List UInt8), x < 128 ^ (m + 1) → y < 128 ^ (m + 1) → encF m x ++ r = encF m y ++ r' → x = y ∧ r = r'
  | 0, x, y, r, r', hx, hy, h => by
    simp only [encF, List.singleton_append, List.cons.injEq] at h
    simp only [Nat.zero_add, Nat.pow_one] at hx hy
    exact ⟨ofNat_inj (by omega) (by omega) h.1, h.2⟩
  | m + 1, x, y, r, r', hx, hy, h => by
    have hx' : x / 128 < 128 ^ (m + 1) := by
      rw [Nat.div_lt_iff_lt_mul (by decide), ← Nat.pow_succ]; exact hx
    have hy' : y / 128 < 128 ^ (m + 1) := by
      rw [Nat.div_lt_iff_lt_mul (by decide), ← Nat.pow_succ]; exact hy
    unfold encF at h
    by_cases h1 : x < 128
    · by_cases h2 : y < 128
      · rw [if_pos h1, if_pos h2] at h
        simp only [List.singleton_append, List.cons.injEq] at h
        exact ⟨ofNat_inj (by omega) (by omega) h.1, h.2⟩
      · rw [if_pos h1, if_neg h2] at h
        simp only [List.singleton_append, List.cons_append, List.cons.injEq] at h
        have := ofNat_inj (by omega) (by omega) h.1
        omega
    · by_cases h2 : y < 128
      · rw [if_neg h1, if_pos h2] at h
        simp only [List.singleton_append, List.cons_append, List.cons.injEq] at h
        have := ofNat_inj (by omega) (by omega) h.1
        omega
      · rw [if_neg h1, if_neg h2] at h
        simp only [List.cons_append, List.cons.injEq] at h
        have e1 := ofNat_inj (by omega) (by omega) h.1
        obtain ⟨e2, e3⟩ := encF_inj m _ _ r r' hx' hy' h.2
        exact ⟨by omega, e3⟩

theorem lt_enc {x : Nat} (h : x < 2 ^ 64) : x < 128 ^ (9 + 1) := Nat.lt_of_lt_of_le h (by decide)

theorem enc_inj {x y : Nat} (hx : x < 2 ^ 64) (hy : y < 2 ^ 64) {r r' : List UInt8} (h : enc x ++ r = enc y ++ r') : x = y ∧ r = r' :=
  encF_inj 9 x y r r' (lt_enc hx) (lt_enc hy) h

theorem encF_len : ∀ (m x : Nat), (encF m x).length ≤ m + 1
  | 0, x => by simp [encF]
  | m + 1, x => by
    rw [encF]
    split
    · simp
    · have := encF_len m (x / 128)
      simp only [List.length_cons]
      omega
theorem enc_len (x : Nat) : (enc x).length ≤ 10 := encF_len 9 x

/-- a writer, where another one is written -/
theorem wat_fr {st st' : ASt} {s s' : Nat} {l : List UInt8} {k k' : Option Nat} (h : WAt st s l k) (hf : Fr st st' s' k') (hs : s ≠ s') (hk : k' ≠ some s) (hk2 : ∀ j, k = some j → j ≠ s' ∧ k' ≠ some j) : WAt st' s l k := by
  have h1 : s < st.ctr := h.1
  refine ⟨Nat.lt_of_lt_of_le h1 hf.1, ?_⟩
  cases k with
  | none =>
    exact ⟨h.2.1, by rw [hf.2 s h1 hs hk]; exact h.2.2⟩
  | some t =>
    have h2 : t < st.ctr := h.2.1
    have h3 : t ≠ s := h.2.2.1
    refine ⟨Nat.lt_of_lt_of_le h2 hf.1, h3, ?_, ?_⟩
    · rw [hf.2 s h1 hs hk]; exact h.2.2.2.1
    · rw [hf.2 t h2 (hk2 t rfl).1 (hk2 t rfl).2]; exact h.2.2.2.2

theorem wat_gr {st st' : ASt} {s : Nat} {l : List UInt8} {k : Option Nat} (h : WAt st s l k) (hg : Gr st st') : WAt st' s l k := by
  have h1 : s < st.ctr := h.1
  refine ⟨Nat.lt_of_lt_of_le h1 hg.1, ?_⟩
  cases k with
  | none => exact ⟨h.2.1, by rw [hg.2 s h1]; exact h.2.2⟩
  | some t =>
    have h2 : t < st.ctr := h.2.1
    exact ⟨Nat.lt_of_lt_of_le h2 hg.1, h.2.2.1, by rw [hg.2 s h1]; exact h.2.2.2.1, by rw [hg.2 t h2]; exact h.2.2.2.2⟩

/-- a writer anew -/
theorem wat_init (st : ASt) : WAt (st.new (.cells [.nilSlice])) st.ctr [] none :=
  ⟨by simp [ASt.new], rfl, by simp [ASt.new]⟩

theorem alloc_w (st : ASt) : allocA E.P 30 st = some (.ptr st.ctr 0, st.new (.cells [.nilSlice])) := rfl

/-- Awake's answer, as a fact to be laid in -/
def AwakeIs (s0 : ASt) : Prop := ∃ d, RetN E d 23 [] st0 (.lit (.bool true)) s0

end Go.Proofs.YtnndngoanknemaaV
