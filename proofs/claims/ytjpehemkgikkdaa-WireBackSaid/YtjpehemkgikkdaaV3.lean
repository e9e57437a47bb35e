/- Bytes's contract, and Equal's. No condition. -/
import Derived.Test.YtjpehemkgikkdaaV2
namespace Go.Proofs.YtjpehemkgikkdaaV
open Go Go.RowKit Go.Proofs.YtjpehemkgikkdaaA
set_option linter.unusedVariables false
set_option linter.unusedSimpArgs false
set_option maxRecDepth 100000

/-- these bytes -/
def IsB (v : AVal) (l : List UInt8) : Prop := (∃ c, v = .islice 1 (l.map byteA) c) ∨ (∃ a, v = .lit (.slice a 0 0) ∧ l = [])
/-- nothing of old was touched -/
def Gr (st st' : ASt) : Prop := st.ctr ≤ st'.ctr ∧ ∀ j, j < st.ctr → st'.heap j = st.heap j
theorem Gr.refl (st : ASt) : Gr st st := ⟨Nat.le_refl _, fun _ _ => rfl⟩
theorem Gr.trans {a b c : ASt} (h : Gr a b) (h' : Gr b c) : Gr a c := ⟨Nat.le_trans h.1 h'.1, fun j hj => by rw [h'.2 j (Nat.lt_of_lt_of_le hj h.1), h.2 j hj]⟩
theorem Gr.new (st : ASt) (b : Blk) : Gr st (st.new b) := ⟨by simp [ASt.new], fun j hj => ASt.new_ne _ _ _ (by omega)⟩

noncomputable def code (fn : Func) : Code := fn.body.getD .skip

theorem run_code {n : Nat} {f : FuncId} {args : List AVal} {st : ASt} {fn : Func} (hf : E.P.funcs[f]? = some fn) (hb : fn.body.isSome = true) :
    run E (n + 1) f args st = aend E fn (aexec E f (run E n) (drawB E f) n (code fn) (args ++ List.replicate (fn.ntmps - args.length) .undef) st) := by
  cases h : fn.body with
  | none => rw [h] at hb; cases hb
  | some c =>
    rw [run_succ hf h]
    simp only [code, h, Option.getD_some]

theorem src_b {v : AVal} {l : List UInt8} (h : IsB v l) (st : ASt) : srcA E.P 5 24 false 1 st v = some (l.map byteA) := by
  rcases h with ⟨c, rfl⟩ | ⟨a, rfl, rfl⟩
  · exact src_islice byteT (bytes_ok l)
  · rfl

theorem len_b {v : AVal} {l : List UInt8} (h : IsB v l) (mt : Bool) (ty : TypeId) (cs : Array Bool) (st : ASt) :
    builtinA E.P mt .len #[24] ty cs [v] st = some (.val (.lit (.int .i64 l.length)) st) := by
  rcases h with ⟨c, rfl⟩ | ⟨a, rfl, rfl⟩
  · rw [len_islice (e := 5) u24]; simp
  · rfl

theorem idx_b {v : AVal} {l : List UInt8} (h : IsB v l) {i : Nat} (hi : i < l.length) : indexA E.P 24 v (.lit (.int .i64 i)) = some (.iptr (byteA l[i])) := by
  rcases h with ⟨c, rfl⟩ | ⟨a, rfl, rfl⟩
  · have : indexA E.P 24 (.islice 1 (l.map byteA) c) (.lit (.int .i64 i)) = if 0 ≤ (i : Int) ∧ (i : Int) < (l.map byteA).length ∧ (some 1 : Option Nat) = some 1 then ((l.map byteA)[(i : Int).toNat]?).map .iptr else none := rfl
    rw [this, if_pos ⟨by omega, by simp; omega, rfl⟩]
    simp [hi]
  · simp at hi

theorem load_b (b : UInt8) (st : ASt) : loadA E.P 5 st (.iptr (byteA b)) = some (byteA b) := rfl

theorem load_u8 (n : Int) (st : ASt) : loadA E.P 5 st (.iptr (.lit (.int .u8 n))) = some (.lit (.int .u8 n)) := rfl

theorem bytes_code (call : ACall) (dr : Array Oper → Bool) (n : Nat) {s : Nat} {l : List UInt8} {k : Option Nat} {st : ASt} {ts : List AVal} (h0 : ts[0]? = some (.ptr s 0)) (hl : ts.length = 9) (hw : WAt st s l k) (hlen : l.length ≤ 1000000) :
    ∃ v st', aend E Try.f18 (aexec E 18 call dr n (code Try.f18) ts st) = some (.returned v, st') ∧ IsB v l ∧ Gr st st' := by
  have hh : ∀ t, E.hint 18 t = false := fun _ => rfl
  have p1 : loadA E.P 24 st (.ptr s 0) = some (wval l k) := by
    have : loadA E.P 24 st (.ptr s 0) = (match st.heap s with
      | some (.cells cs) => partA E.P 24 cs 0
      | _ => none) := rfl
    rw [this, hw.cell]
    rfl
  have hb0 : buildSliceA E.P false 24 0 [] st = some (.islice 1 [] .exact, st) := rfl
  have hv : IsB (wval l k) l := by
    cases k with
    | none => exact .inr ⟨none, rfl, hw.2.1⟩
    | some t => exact .inl ⟨_, rfl⟩
  have hp : ∃ v st', appendA E.P false 24 24 (.islice 1 [] .exact) (wval l k) st = some (v, st') ∧ IsB v l ∧ Gr st st' := by
    by_cases he : l = []
    · subst he
      exact ⟨_, _, app_none byteT (src_b hv st) (.inr ⟨_, _, rfl⟩), .inl ⟨_, rfl⟩, Gr.refl _⟩
    · refine ⟨_, _, app_exact byteT rfl (src_b hv st) (by simpa using he) (by simp; omega), .inl ⟨_, by simp; rfl⟩, Gr.new _ _⟩
  obtain ⟨v, st', e, hv', hg⟩ := hp
  refine ⟨v, st', ?_, hv', hg⟩
  simp only [code, Try.f18, Option.getD_some, aexec, aops, aop, Region.wanted, ayielded, aexecOp, aeval, aput, aseq, ablock, ahint, absOf, flat, nilCheckA, ANext.ofP, evals, evalPs, evalO, aresults, aresults1, aresult, aend, List.getElem?_set, List.length_set, Option.map_some, Option.bind_some, if_true, if_false, ↓reduceIte, Nat.reduceLT, Nat.reduceEqDiff, reduceCtorEq, Bool.false_eq_true, false_and, and_false, and_true, true_and, Nat.reduceAdd, Nat.reduceLeDiff, callA, List.getElem?_toArray, List.getElem?_cons_succ, List.getElem?_cons_zero, sb1, sb2, sb3, sb4, h0, hl, hh, fld26, p1, hb0, builtinA, e]

theorem bytes_run {s : Nat} {l : List UInt8} {k : Option Nat} {st : ASt} (hw : WAt st s l k) (hlen : l.length ≤ 1000000) :
    ∃ v st', RetN E 1 18 [.ptr s 0] st v st' ∧ IsB v l ∧ Gr st st' := by
  obtain ⟨v, st', e, h1, h2⟩ := bytes_code (run E 0) (drawB E 18) 0 (ts := [.ptr s 0] ++ List.replicate 8 .undef) rfl rfl hw hlen
  exact ⟨v, st', RetN.of (n := 1) (by rw [run_code (fn := Try.f18) rfl rfl]; exact e), h1, h2⟩

noncomputable def eqBody : Code := (code Try.f17).snd.snd.fst.snd.inn
noncomputable def eqTail : Code := (code Try.f17).snd.snd.snd
noncomputable def eqInit : Code := (code Try.f17).snd.snd.fst.fst
noncomputable def eqFst : Code := (code Try.f17).snd.fst
theorem eq_code : code Try.f17 = .seq (code Try.f17).fst (.seq eqFst (.seq (.seq eqInit (.block 0 (.loop eqBody))) eqTail)) := rfl

theorem byte_bne (a b : UInt8) : (((a.toNat : Nat) : Int) != ((b.toNat : Nat) : Int)) = (a != b) := by
  by_cases h : a = b
  · subst h; simp
  · have : a.toNat ≠ b.toNat := fun e => h (UInt8.toNat_inj.1 e)
    have h2 : ((a.toNat : Nat) : Int) ≠ ((b.toNat : Nat) : Int) := by omega
    rw [bne, bne, beq_eq_false_iff_ne.2 h2, beq_eq_false_iff_ne.2 h]

set_option maxHeartbeats 1000000 in
theorem eq_body (call : ACall) (n : Nat) {x y : AVal} {l1 l2 : List UInt8} {st : ASt} {ts : List AVal} {i : Nat} (hx : IsB x l1) (hy : IsB y l2) (hll : l1.length = l2.length)
    (h0 : ts[0]? = some x) (h1 : ts[1]? = some y) (h12 : ts[12]? = some (.lit (.int .i64 l1.length))) (h13 : ts[13]? = some (.lit (.int .i64 i))) (hl : ts.length = 26) (hlt : l1.length ≤ 1000000) :
    (i = l1.length → ∃ ts', aexec E 17 call (drawB E 17) n eqBody ts st = some (.exit 0, ts', st) ∧ ts'.length = 26) ∧
    (∀ h : i < l1.length, (l1[i] = l2[i]'(hll ▸ h) → ∃ ts', aexec E 17 call (drawB E 17) n eqBody ts st = some (.normal, ts', st) ∧ ts'[0]? = some x ∧ ts'[1]? = some y ∧ ts'[12]? = some (.lit (.int .i64 l1.length)) ∧ ts'[13]? = some (.lit (.int .i64 (i + 1 : Nat))) ∧ ts'.length = 26) ∧
      (l1[i] ≠ l2[i]'(hll ▸ h) → ∃ ts', aexec E 17 call (drawB E 17) n eqBody ts st = some (.ret, ts', st) ∧ ts'[4]? = some (.lit (.bool false)))) := by
  have hh : ∀ t, E.hint 17 t = false := fun _ => rfl
  have hdr : drawB E 17 (eqBody.snd.snd.fst.inn.snd.fst.ops) = true := by kernel_rfl
  simp only [eqBody, code, Try.f17, Option.getD_some, Code.fst, Code.snd, Code.inn, Code.ops] at hdr
  refine ⟨fun hi => ?_, fun hi => ⟨fun he => ?_, fun he => ?_⟩⟩
  · have hd : decide ((i : Int) < l1.length) = false := by simp; omega
    simp only [eqBody, code, Try.f17, Option.getD_some, Code.fst, Code.snd, Code.inn, aexec, aops, aop, Region.wanted, ayielded, aexecOp, aeval, aput, aseq, ablock, ahint, absOf, flat, nilCheckA, ANext.ofP, evals, evalPs, evalO, aresults, aresults1, aresult, aend, List.getElem?_set, List.length_set, Option.map_some, Option.bind_some, if_true, if_false, ↓reduceIte, Nat.reduceLT, Nat.reduceEqDiff, reduceCtorEq, Bool.false_eq_true, false_and, and_false, and_true, true_and, Nat.reduceAdd, Nat.reduceLeDiff, callA, List.getElem?_toArray, List.getElem?_cons_succ, List.getElem?_cons_zero, sb1, sb2, sb3, sb4, h0, h1, h12, h13, hl, hh, b_lss, hd]
    exact ⟨_, rfl, by simp [hl]⟩
  · have hd : decide ((i : Int) < l1.length) = true := by simp; omega
    have i1 := idx_b hx hi
    have i2 := idx_b hy (hll ▸ hi)
    have hw : IntKind.i64.wrap ((i : Int) + 1) = ((i + 1 : Nat) : Int) := by
      simp [IntKind.wrap, IntKind.bits, IntKind.signed]; omega
    simp only [eqBody, code, Try.f17, Option.getD_some, Code.fst, Code.snd, Code.inn, aexec, aops, aop, Region.wanted, ayielded, aexecOp, aeval, aput, aseq, ablock, ahint, absOf, flat, nilCheckA, ANext.ofP, evals, evalPs, evalO, aresults, aresults1, aresult, aend, List.getElem?_set, List.length_set, Option.map_some, Option.bind_some, if_true, if_false, ↓reduceIte, Nat.reduceLT, Nat.reduceEqDiff, reduceCtorEq, Bool.false_eq_true, false_and, and_false, and_true, true_and, Nat.reduceAdd, Nat.reduceLeDiff, callA, List.getElem?_toArray, List.getElem?_cons_succ, List.getElem?_cons_zero, sb1, sb2, sb3, sb4, h0, h1, h12, h13, hl, hh, hdr, b_lss, hd, i1, i2, load_u8, byteA, b_neq, byte_bne, he, bne_self_eq_false, b_add, hw]
    exact ⟨_, rfl, by simp [h0], by simp [h1], by simp [h12], by simp [hl], by simp [hl]⟩
  · have hd : decide ((i : Int) < l1.length) = true := by simp; omega
    have i1 := idx_b hx hi
    have i2 := idx_b hy (hll ▸ hi)
    have he' : (l1[i] != l2[i]'(hll ▸ hi)) = true := by simpa [bne] using he
    simp only [eqBody, code, Try.f17, Option.getD_some, Code.fst, Code.snd, Code.inn, aexec, aops, aop, Region.wanted, ayielded, aexecOp, aeval, aput, aseq, ablock, ahint, absOf, flat, nilCheckA, ANext.ofP, evals, evalPs, evalO, aresults, aresults1, aresult, aend, List.getElem?_set, List.length_set, Option.map_some, Option.bind_some, if_true, if_false, ↓reduceIte, Nat.reduceLT, Nat.reduceEqDiff, reduceCtorEq, Bool.false_eq_true, false_and, and_false, and_true, true_and, Nat.reduceAdd, Nat.reduceLeDiff, callA, List.getElem?_toArray, List.getElem?_cons_succ, List.getElem?_cons_zero, sb1, sb2, sb3, sb4, h0, h1, h12, h13, hl, hh, hdr, b_lss, hd, i1, i2, load_u8, byteA, b_neq, byte_bne, he']
    exact ⟨_, rfl, by simp [hl]⟩

end Go.Proofs.YtjpehemkgikkdaaV
