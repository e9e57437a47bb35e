/- WireTakes, walked in the second reading: ints, slices, the rounds. No condition. -/
import Derived.Test.YtjpehemkgikkdaaT2
import Derived.Test.YtjpehemkgikkdaaB2
namespace Go.Proofs.YtjpehemkgikkdaaV
open Go Go.RowKit Go.Proofs.YtjpehemkgikkdaaA
set_option linter.unusedVariables false
set_option linter.unusedSimpArgs false
set_option maxRecDepth 100000

theorem u59 : E.P.underlying 59 = some (.slice 3) := rfl
theorem c3 : E.P.cellsOf 3 = 1 := rfl
theorem row3 (c : AVal) : ofRow E.P 3 [c] = c := rfl

def intA (i : Int) : AVal := .lit (.int .i64 i)
/-- these whole numbers -/
def IsI (v : AVal) (l : List Int) : Prop := (∃ c, v = .islice 1 (l.map intA) c) ∨ (∃ a, v = .lit (.slice a 0 0) ∧ l = [])

theorem int_rows {n : Nat} : ∀ rows : List (List AVal), (∀ r ∈ rows, Dat E.P n 3 r) → ∃ l : List Int, rows.map (ofRow E.P 3) = l.map intA ∧ ∀ i ∈ l, -9223372036854775808 ≤ i ∧ i ≤ 9223372036854775807
  | [], h => ⟨[], rfl, fun i hi => by cases hi⟩
  | r :: rows, h => by
    obtain ⟨l, hl, hb⟩ := int_rows rows fun x hx => h x (List.mem_cons_of_mem _ hx)
    obtain ⟨i, rfl, h1, h2⟩ := dat_int u3 (h r (List.mem_cons_self ..))
    have h1' : (-9223372036854775808 : Int) ≤ i := h1
    have h2' : i ≤ 9223372036854775807 := h2
    refine ⟨i :: l, ?_, fun j hj => ?_⟩
    · rw [List.map_cons, List.map_cons, hl, row3]; rfl
    · cases hj with
      | head => exact ⟨h1', h2'⟩
      | tail _ hj => exact hb j hj

theorem datv_ints {n : Nat} {v : AVal} (h : DatV E.P n 59 v) : ∃ l : List Int, IsI v l ∧ ∀ i ∈ l, -9223372036854775808 ≤ i ∧ i ≤ 9223372036854775807 := by
  obtain ⟨cells, h1, _, rfl⟩ := h
  cases n with
  | zero => cases h1
  | succ n =>
    unfold Dat at h1
    rw [u59] at h1
    rcases h1 with ⟨a, rfl⟩ | ⟨rows, rfl, _, hr⟩
    · exact ⟨[], .inr ⟨a, rfl, rfl⟩, fun i hi => by cases hi⟩
    · obtain ⟨l, hl, hb⟩ := int_rows rows fun r hr' => (hr r hr').2.2
      exact ⟨l, .inl ⟨.unk, by rw [hl, c3]; rfl⟩, hb⟩

theorem len_i {v : AVal} {l : List Int} (h : IsI v l) (mt : Bool) (ty : TypeId) (cs : Array Bool) (st : ASt) :
    builtinA E.P mt .len #[59] ty cs [v] st = some (.val (.lit (.int .i64 l.length)) st) := by
  rcases h with ⟨c, rfl⟩ | ⟨a, rfl, rfl⟩
  · rw [len_islice (e := 3) u59]; simp
  · rfl

theorem idx_i {v : AVal} {l : List Int} (h : IsI v l) {i : Nat} (hi : i < l.length) : indexA E.P 59 v (.lit (.int .i64 i)) = some (.iptr (.lit (.int .i64 l[i]))) := by
  rcases h with ⟨c, rfl⟩ | ⟨a, rfl, rfl⟩
  · have : indexA E.P 59 (.islice 1 (l.map intA) c) (.lit (.int .i64 i)) = if 0 ≤ (i : Int) ∧ (i : Int) < (l.map intA).length ∧ (some 1 : Option Nat) = some 1 then ((l.map intA)[(i : Int).toNat]?).map .iptr else none := rfl
    rw [this, if_pos ⟨by omega, by simp; omega, rfl⟩]
    simp [hi, intA]
  · simp at hi

theorem load_i3 (n : Int) (st : ASt) : loadA E.P 3 st (.iptr (.lit (.int .i64 n))) = some (.lit (.int .i64 n)) := rfl

theorem slice_fr {l : List UInt8} {c : Cap} {p : Nat} (h : p ≤ l.length) : ∃ c', sliceA E.P 24 (.islice 1 (l.map byteA) c) (some (.lit (.int .i64 p))) none none = some (.islice 1 ((l.drop p).map byteA) c') := by
  have e : sliceA E.P 24 (.islice 1 (l.map byteA) c) (some (.lit (.int .i64 p))) none none = (match boundsA (l.map byteA).length (l.map byteA).length (some (.lit (.int .i64 p))) none none with
        | some (lo, h, m) => some (.islice 1 (((l.map byteA).drop lo).take (h - lo)) (cutCap (l.map byteA).length h lo c m))
        | none => none) := rfl
  have hl : (l.map byteA).length = l.length := by simp
  have e2 : boundsA (l.map byteA).length (l.map byteA).length (some (.lit (.int .i64 p))) none none = some (p, l.length, none) := by
    have b2 : boundA (some (.lit (.int .i64 p))) 0 (l.map byteA).length = some p := by
      have : boundA (some (.lit (.int .i64 p))) 0 (l.map byteA).length = if 0 ≤ (p : Int) ∧ (p : Int) ≤ ((l.map byteA).length : Int) then some (p : Int).toNat else none := rfl
      rw [this, if_pos ⟨by omega, by rw [hl]; omega⟩]
      simp
    have b1 : boundA none (l.map byteA).length (l.map byteA).length = some (l.map byteA).length := rfl
    unfold boundsA
    simp only [b1, b2]
    rw [hl]
  rw [e, e2]
  refine ⟨cutCap (l.map byteA).length l.length p c none, ?_⟩
  simp only
  rw [List.take_of_length_le (by simp), List.map_drop]

theorem slice_lit0 (a : Option Addr) : pureV E.P (Instr.sliceAt 24 (.slice a 0 0) (some (.int .i64 ((0 : Nat) : Int))) none none) = some (.lit (.slice a 0 0)) := slice_lit a

/-- a reader's place behind one number, or its error -/
def tkE (l : List UInt8) (p e : Nat) : Nat × Nat × Nat := if e = 0 then (match rd (l.drop p) 0 0 0 with
  | .inl f => (0, p, f)
  | .inr (n, k) => (n, p + k, 0)) else (0, p, e)

structure TkI (x y : AVal) (l : List UInt8) (ns : List Int) (i p e rs : Nat) (v : AVal) (ts : List AVal) (st : ASt) : Prop where
  r : RAt st rs v l p e
  pl : p ≤ l.length
  t0 : ts[0]? = some x
  t5 : ts[5]? = some (.ptr rs 0)
  t6 : ts[6]? = some (.lit (.int .i64 p))
  t7 : ts[7]? = some (.lit (.int .i64 e))
  t29 : ts[29]? = some y
  t30 : ts[30]? = some (.lit (.int .i64 ns.length))
  t31 : ts[31]? = some (.lit (.int .i64 i))
  tl : ts.length = 111

noncomputable def tkBody : Code := (code Try.f13).snd.snd.snd.snd.snd.fst.snd.inn

/-- a reader's number, and the state behind it -/
theorem tk_num {st : ASt} {rs : Nat} {v : AVal} {l : List UInt8} {p e : Nat} (h : RAt st rs v l p e) (hp : p ≤ l.length) (hl : l.length ≤ 200) :
    ∃ st', RetN E 210 35 [.ptr rs 0] st (.lit (.int .u64 (tkE l p e).1)) st' ∧ RAt st' rs v l (tkE l p e).2.1 (tkE l p e).2.2 ∧ (tkE l p e).2.1 ≤ l.length := by
  have n1 := rnum_run h hp (by omega)
  unfold tkE
  by_cases he : e = 0
  · simp only [if_pos he] at n1 ⊢
    cases hr : rd (l.drop p) 0 0 0 with
    | inl f =>
      rw [hr] at n1
      exact ⟨_, fun N hN => n1 N (by omega), rset_at h _ _, hp⟩
    | inr q =>
      obtain ⟨n, k⟩ := q
      rw [hr] at n1
      have := (rd_le (l.drop p) 0 0 0).1 n k hr
      simp only [List.length_drop] at this
      exact ⟨_, fun N hN => n1 N (by omega), rset_at h _ _, by simp only; omega⟩
  · simp only [if_neg he] at n1 ⊢
    exact ⟨_, fun N hN => n1 N (by omega), h, hp⟩

theorem cf41 (a : List AVal) (st : ASt) : callFuncA E.P 41 a st = some (.enter 41 a st) := rfl

theorem tk_exit (N m : Nat) (dr : Array Oper → Bool) {x y : AVal} {l : List UInt8} {ns : List Int} {i p e rs : Nat} {v : AVal} {ts : List AVal} {st : ASt} (h : TkI x y l ns i p e rs v ts st) (hi : i = ns.length) :
    ∃ ts', aexec E 13 (run E N) dr m tkBody ts st = some (.exit 0, ts', st) ∧ ts'.length = 111 := by
  obtain ⟨r, pl, t0, t5, t6, t7, t29, t30, t31, tl⟩ := h
  have hh : ∀ t, E.hint 13 t = false := fun _ => rfl
  have hd : decide ((i : Int) < ns.length) = false := by rw [decide_eq_false_iff_not]; omega
  simp only [tkBody, code, Try.f13, Option.getD_some, Code.fst, Code.snd, Code.inn, aexec, aops, aop, Region.wanted, ayielded, aexecOp, aeval, aput, aseq, ablock, ahint, absOf, flat, nilCheckA, ANext.ofP, evals, evalPs, evalO, aresults, aresults1, aresult, aend, List.getElem?_set, List.length_set, Option.map_some, Option.bind_some, if_true, if_false, ↓reduceIte, Nat.reduceLT, Nat.reduceEqDiff, reduceCtorEq, Bool.false_eq_true, false_and, and_false, and_true, true_and, Nat.reduceAdd, Nat.reduceLeDiff, callA, List.getElem?_toArray, List.getElem?_cons_succ, List.getElem?_cons_zero, sb1, sb2, sb3, sb4, t0, t5, t6, t7, t29, t30, t31, tl, hh, b_lss, hd]
  exact ⟨_, rfl, by simp only [List.getElem?_set, List.length_set, Nat.reduceLT, Nat.reduceEqDiff, ↓reduceIte, reduceCtorEq, *]⟩

set_option maxHeartbeats 4000000 in
theorem tk_even (N m : Nat) (hN : 300 ≤ N) (dr : Array Oper → Bool) {x y : AVal} {l : List UInt8} {ns : List Int} {i p e rs : Nat} {v : AVal} {ts : List AVal} {st : ASt} (hx : IsB x l) (hy : IsI y ns) (hl : l.length ≤ 200) (hns : ns.length ≤ 40)
    (h : TkI x y l ns i p e rs v ts st) (hi : i < ns.length) (hev : ns[i].tmod 2 = 0) :
    ∃ ts' st' p' e', aexec E 13 (run E N) dr m tkBody ts st = some (.normal, ts', st') ∧ TkI x y l ns (i + 1) p' e' rs v ts' st' := by
  obtain ⟨r, pl, t0, t5, t6, t7, t29, t30, t31, tl⟩ := h
  have hh : ∀ t, E.hint 13 t = false := fun _ => rfl
  have hd : decide ((i : Int) < ns.length) = true := by rw [decide_eq_true_eq]; omega
  have hi1 : IntKind.i64.wrap ((i : Int) + 1) = ((i + 1 : Nat) : Int) := by
    simp [IntKind.wrap, IntKind.bits, IntKind.signed]; omega
  have q0 : ((0 : Int) == 0) = true := rfl
  obtain ⟨st', n1, r', pl'⟩ := tk_num r pl hl
  have n2 := at_run r'
  have n3 := left_run r' pl' (by omega)
  have n4 := err_run r'
  have c1 := n1 N (by omega)
  have c2 := n2 N (by omega)
  have c3 := n3 N (by omega)
  have c4 := n4 N (by omega)
  have q2 : IntKind.i64.wrap ((l.length : Int) - ((tkE l p e).2.1 : Int)) = ((l.length - (tkE l p e).2.1 : Nat) : Int) := by
    simp [IntKind.wrap, IntKind.bits, IntKind.signed]; omega
  have key : ∀ w, IsB w (l.drop p) → run E N 41 [w] st = some (.returned (.tuple [.lit (.int .u64 (rdOut (rd (l.drop p) 0 0 0)).1), .lit (.int .i64 (rdOut (rd (l.drop p) 0 0 0)).2.1), .lit (.int .i64 (rdOut (rd (l.drop p) 0 0 0)).2.2)]), st) := fun w hw =>
    nm_run st hw (by simp; omega) N (by simp; omega)
  by_cases he : e = 0
  · subst he
    have z1 : (((0 : Nat) : Int) == 0) = true := rfl
    have z2 : (((0 : Nat) : Int) != 0) = false := rfl
    cases hr : rd (l.drop p) 0 0 0 with
    | inl f =>
      have hT : tkE l p 0 = (0, p, f) := by unfold tkE; rw [if_pos rfl, hr]
      rw [hT] at c1 c2 c3 c4 q2 r' pl'
      rw [hr] at key
      simp only [rdOut] at c1 c2 c3 c4 q2 r' pl' key
      have hf : f ≠ 0 := by rcases (rd_le (l.drop p) 0 0 0).2 f hr with e | e <;> omega
      have z3 : (((f : Nat) : Int) != 0) = true := by rw [bne, beq_eq_false_iff_ne.2 (by omega)]; rfl
      have z4 : IntKind.i64.wrap ((p : Int) + 0) = (p : Int) := by
        simp [IntKind.wrap, IntKind.bits, IntKind.signed]; omega
      rcases hx with ⟨c, rfl⟩ | ⟨a, rfl, rfl⟩
      · obtain ⟨c', hsl⟩ := slice_fr (c := c) pl
        have hw : IsB (.islice 1 ((l.drop p).map byteA) c') (l.drop p) := .inl ⟨_, rfl⟩
        have hlb := len_b (.inl ⟨c, rfl⟩ : IsB (.islice 1 (l.map byteA) c) l)
        simp only [AVal.undef, sbn, sbn', tkBody, code, Try.f13, Option.getD_some, Code.fst, Code.snd, Code.inn, aexec, aops, aop, Region.wanted, ayielded, aexecOp, aeval, aput, aseq, ablock, ahint, absOf, flat, nilCheckA, ANext.ofP, evals, evalPs, evalO, aresults, aresults1, aresult, aend, List.getElem?_set, List.length_set, Option.map_some, Option.bind_some, if_true, if_false, ↓reduceIte, Nat.reduceLT, Nat.reduceEqDiff, reduceCtorEq, Bool.false_eq_true, false_and, and_false, and_true, true_and, Nat.reduceAdd, Nat.reduceLeDiff, callA, List.getElem?_toArray, List.getElem?_cons_succ, List.getElem?_cons_zero, sb1, sb2, sb3, sb4, t0, t5, t6, t7, t29, t30, t31, tl, hh, b_lss, hd, idx_i hy hi, load_i3, b_rem _ _ _ _ _ _ _ (show (2 : Int) ≠ 0 by decide), hev, b_eql, q0, cf41, extractA, List.getElem?_cons_zero, List.getElem?_cons_succ, cf35, cf36, cf37, cf38, c1, c2, c3, c4, b_neq, bne_self_eq_false, b_add, b_sub, q2, hi1, hsl, key _ hw, hlb, z1, z2, z3, z4]
        exact ⟨_, _, _, _, rfl, ⟨r', pl', by simp only [List.getElem?_set, List.length_set, Nat.reduceLT, Nat.reduceEqDiff, ↓reduceIte, reduceCtorEq, *], by simp only [List.getElem?_set, List.length_set, Nat.reduceLT, Nat.reduceEqDiff, ↓reduceIte, reduceCtorEq, *], by simp only [List.getElem?_set, List.length_set, Nat.reduceLT, Nat.reduceEqDiff, ↓reduceIte, reduceCtorEq, *], by simp only [List.getElem?_set, List.length_set, Nat.reduceLT, Nat.reduceEqDiff, ↓reduceIte, reduceCtorEq, *], by simp only [List.getElem?_set, List.length_set, Nat.reduceLT, Nat.reduceEqDiff, ↓reduceIte, reduceCtorEq, *], by simp only [List.getElem?_set, List.length_set, Nat.reduceLT, Nat.reduceEqDiff, ↓reduceIte, reduceCtorEq, *], by simp only [List.getElem?_set, List.length_set, Nat.reduceLT, Nat.reduceEqDiff, ↓reduceIte, reduceCtorEq, *], by simp only [List.getElem?_set, List.length_set, Nat.reduceLT, Nat.reduceEqDiff, ↓reduceIte, reduceCtorEq, *]⟩⟩
      · have hp0 : p = 0 := by simpa using pl
        subst hp0
        have hw : IsB (.lit (.slice a 0 0)) (([] : List UInt8).drop 0) := .inr ⟨a, rfl, rfl⟩
        have hlb := len_b (.inr ⟨a, rfl, rfl⟩ : IsB (.lit (.slice a 0 0)) [])
        simp only [AVal.undef, sbn, sbn', tkBody, code, Try.f13, Option.getD_some, Code.fst, Code.snd, Code.inn, aexec, aops, aop, Region.wanted, ayielded, aexecOp, aeval, aput, aseq, ablock, ahint, absOf, flat, nilCheckA, ANext.ofP, evals, evalPs, evalO, aresults, aresults1, aresult, aend, List.getElem?_set, List.length_set, Option.map_some, Option.bind_some, if_true, if_false, ↓reduceIte, Nat.reduceLT, Nat.reduceEqDiff, reduceCtorEq, Bool.false_eq_true, false_and, and_false, and_true, true_and, Nat.reduceAdd, Nat.reduceLeDiff, callA, List.getElem?_toArray, List.getElem?_cons_succ, List.getElem?_cons_zero, sb1, sb2, sb3, sb4, t0, t5, t6, t7, t29, t30, t31, tl, hh, b_lss, hd, idx_i hy hi, load_i3, b_rem _ _ _ _ _ _ _ (show (2 : Int) ≠ 0 by decide), hev, b_eql, q0, cf41, extractA, List.getElem?_cons_zero, List.getElem?_cons_succ, cf35, cf36, cf37, cf38, c1, c2, c3, c4, b_neq, bne_self_eq_false, b_add, b_sub, q2, hi1, evalO, YtjpehemkgikkdaaA.aexecOp.evalV, slice_lit0, key _ hw, hlb, z1, z2, z3, z4]
        exact ⟨_, _, _, _, rfl, ⟨r', pl', by simp only [List.getElem?_set, List.length_set, Nat.reduceLT, Nat.reduceEqDiff, ↓reduceIte, reduceCtorEq, *], by simp only [List.getElem?_set, List.length_set, Nat.reduceLT, Nat.reduceEqDiff, ↓reduceIte, reduceCtorEq, *], by simp only [List.getElem?_set, List.length_set, Nat.reduceLT, Nat.reduceEqDiff, ↓reduceIte, reduceCtorEq, *], by simp only [List.getElem?_set, List.length_set, Nat.reduceLT, Nat.reduceEqDiff, ↓reduceIte, reduceCtorEq, *], by simp only [List.getElem?_set, List.length_set, Nat.reduceLT, Nat.reduceEqDiff, ↓reduceIte, reduceCtorEq, *], by simp only [List.getElem?_set, List.length_set, Nat.reduceLT, Nat.reduceEqDiff, ↓reduceIte, reduceCtorEq, *], by simp only [List.getElem?_set, List.length_set, Nat.reduceLT, Nat.reduceEqDiff, ↓reduceIte, reduceCtorEq, *], by simp only [List.getElem?_set, List.length_set, Nat.reduceLT, Nat.reduceEqDiff, ↓reduceIte, reduceCtorEq, *]⟩⟩
    | inr q =>
      obtain ⟨n, k⟩ := q
      have hT : tkE l p 0 = (n, p + k, 0) := by unfold tkE; rw [if_pos rfl, hr]
      rw [hT] at c1 c2 c3 c4 q2 r' pl'
      rw [hr] at key
      simp only [rdOut] at c1 c2 c3 c4 q2 r' pl' key
      have z4 : IntKind.i64.wrap ((p : Int) + (k : Int)) = ((p + k : Nat) : Int) := by
        simp [IntKind.wrap, IntKind.bits, IntKind.signed]; omega
      rcases hx with ⟨c, rfl⟩ | ⟨a, rfl, rfl⟩
      · obtain ⟨c', hsl⟩ := slice_fr (c := c) pl
        have hw : IsB (.islice 1 ((l.drop p).map byteA) c') (l.drop p) := .inl ⟨_, rfl⟩
        have hlb := len_b (.inl ⟨c, rfl⟩ : IsB (.islice 1 (l.map byteA) c) l)
        simp only [AVal.undef, sbn, sbn', tkBody, code, Try.f13, Option.getD_some, Code.fst, Code.snd, Code.inn, aexec, aops, aop, Region.wanted, ayielded, aexecOp, aeval, aput, aseq, ablock, ahint, absOf, flat, nilCheckA, ANext.ofP, evals, evalPs, evalO, aresults, aresults1, aresult, aend, List.getElem?_set, List.length_set, Option.map_some, Option.bind_some, if_true, if_false, ↓reduceIte, Nat.reduceLT, Nat.reduceEqDiff, reduceCtorEq, Bool.false_eq_true, false_and, and_false, and_true, true_and, Nat.reduceAdd, Nat.reduceLeDiff, callA, List.getElem?_toArray, List.getElem?_cons_succ, List.getElem?_cons_zero, sb1, sb2, sb3, sb4, t0, t5, t6, t7, t29, t30, t31, tl, hh, b_lss, hd, idx_i hy hi, load_i3, b_rem _ _ _ _ _ _ _ (show (2 : Int) ≠ 0 by decide), hev, b_eql, q0, cf41, extractA, List.getElem?_cons_zero, List.getElem?_cons_succ, cf35, cf36, cf37, cf38, c1, c2, c3, c4, b_neq, bne_self_eq_false, b_add, b_sub, q2, hi1, hsl, key _ hw, hlb, z1, z2, z4]
        exact ⟨_, _, _, _, rfl, ⟨r', pl', by simp only [List.getElem?_set, List.length_set, Nat.reduceLT, Nat.reduceEqDiff, ↓reduceIte, reduceCtorEq, *], by simp only [List.getElem?_set, List.length_set, Nat.reduceLT, Nat.reduceEqDiff, ↓reduceIte, reduceCtorEq, *], by simp only [List.getElem?_set, List.length_set, Nat.reduceLT, Nat.reduceEqDiff, ↓reduceIte, reduceCtorEq, *], by simp only [List.getElem?_set, List.length_set, Nat.reduceLT, Nat.reduceEqDiff, ↓reduceIte, reduceCtorEq, *], by simp only [List.getElem?_set, List.length_set, Nat.reduceLT, Nat.reduceEqDiff, ↓reduceIte, reduceCtorEq, *], by simp only [List.getElem?_set, List.length_set, Nat.reduceLT, Nat.reduceEqDiff, ↓reduceIte, reduceCtorEq, *], by simp only [List.getElem?_set, List.length_set, Nat.reduceLT, Nat.reduceEqDiff, ↓reduceIte, reduceCtorEq, *], by simp only [List.getElem?_set, List.length_set, Nat.reduceLT, Nat.reduceEqDiff, ↓reduceIte, reduceCtorEq, *]⟩⟩
      · have hp0 : p = 0 := by simpa using pl
        subst hp0
        have hw : IsB (.lit (.slice a 0 0)) (([] : List UInt8).drop 0) := .inr ⟨a, rfl, rfl⟩
        have hlb := len_b (.inr ⟨a, rfl, rfl⟩ : IsB (.lit (.slice a 0 0)) [])
        simp only [AVal.undef, sbn, sbn', tkBody, code, Try.f13, Option.getD_some, Code.fst, Code.snd, Code.inn, aexec, aops, aop, Region.wanted, ayielded, aexecOp, aeval, aput, aseq, ablock, ahint, absOf, flat, nilCheckA, ANext.ofP, evals, evalPs, evalO, aresults, aresults1, aresult, aend, List.getElem?_set, List.length_set, Option.map_some, Option.bind_some, if_true, if_false, ↓reduceIte, Nat.reduceLT, Nat.reduceEqDiff, reduceCtorEq, Bool.false_eq_true, false_and, and_false, and_true, true_and, Nat.reduceAdd, Nat.reduceLeDiff, callA, List.getElem?_toArray, List.getElem?_cons_succ, List.getElem?_cons_zero, sb1, sb2, sb3, sb4, t0, t5, t6, t7, t29, t30, t31, tl, hh, b_lss, hd, idx_i hy hi, load_i3, b_rem _ _ _ _ _ _ _ (show (2 : Int) ≠ 0 by decide), hev, b_eql, q0, cf41, extractA, List.getElem?_cons_zero, List.getElem?_cons_succ, cf35, cf36, cf37, cf38, c1, c2, c3, c4, b_neq, bne_self_eq_false, b_add, b_sub, q2, hi1, evalO, YtjpehemkgikkdaaA.aexecOp.evalV, slice_lit0, key _ hw, hlb, z1, z2, z4]
        exact ⟨_, _, _, _, rfl, ⟨r', pl', by simp only [List.getElem?_set, List.length_set, Nat.reduceLT, Nat.reduceEqDiff, ↓reduceIte, reduceCtorEq, *], by simp only [List.getElem?_set, List.length_set, Nat.reduceLT, Nat.reduceEqDiff, ↓reduceIte, reduceCtorEq, *], by simp only [List.getElem?_set, List.length_set, Nat.reduceLT, Nat.reduceEqDiff, ↓reduceIte, reduceCtorEq, *], by simp only [List.getElem?_set, List.length_set, Nat.reduceLT, Nat.reduceEqDiff, ↓reduceIte, reduceCtorEq, *], by simp only [List.getElem?_set, List.length_set, Nat.reduceLT, Nat.reduceEqDiff, ↓reduceIte, reduceCtorEq, *], by simp only [List.getElem?_set, List.length_set, Nat.reduceLT, Nat.reduceEqDiff, ↓reduceIte, reduceCtorEq, *], by simp only [List.getElem?_set, List.length_set, Nat.reduceLT, Nat.reduceEqDiff, ↓reduceIte, reduceCtorEq, *], by simp only [List.getElem?_set, List.length_set, Nat.reduceLT, Nat.reduceEqDiff, ↓reduceIte, reduceCtorEq, *]⟩⟩
  · have z1 : (((e : Nat) : Int) == 0) = false := by rw [beq_eq_false_iff_ne]; omega
    have z2 : (((e : Nat) : Int) != 0) = true := by rw [bne, z1]; rfl
    have z3 : (((0 : Nat) : Int) != 0) = false := rfl
    have hT : tkE l p e = (0, p, e) := by unfold tkE; rw [if_neg he]
    rw [hT] at c1 c2 c3 c4 q2 r' pl'
    simp only at c1 c2 c3 c4 q2 r' pl'
    have z4 : IntKind.i64.wrap ((p : Int) + 0) = (p : Int) := by
      simp [IntKind.wrap, IntKind.bits, IntKind.signed]; omega
    rcases hx with ⟨c, rfl⟩ | ⟨a, rfl, rfl⟩
    · obtain ⟨c', hsl⟩ := slice_fr (c := c) pl
      have hw : IsB (.islice 1 ((l.drop p).map byteA) c') (l.drop p) := .inl ⟨_, rfl⟩
      have hlb := len_b (.inl ⟨c, rfl⟩ : IsB (.islice 1 (l.map byteA) c) l)
      simp only [AVal.undef, sbn, sbn', tkBody, code, Try.f13, Option.getD_some, Code.fst, Code.snd, Code.inn, aexec, aops, aop, Region.wanted, ayielded, aexecOp, aeval, aput, aseq, ablock, ahint, absOf, flat, nilCheckA, ANext.ofP, evals, evalPs, evalO, aresults, aresults1, aresult, aend, List.getElem?_set, List.length_set, Option.map_some, Option.bind_some, if_true, if_false, ↓reduceIte, Nat.reduceLT, Nat.reduceEqDiff, reduceCtorEq, Bool.false_eq_true, false_and, and_false, and_true, true_and, Nat.reduceAdd, Nat.reduceLeDiff, callA, List.getElem?_toArray, List.getElem?_cons_succ, List.getElem?_cons_zero, sb1, sb2, sb3, sb4, t0, t5, t6, t7, t29, t30, t31, tl, hh, b_lss, hd, idx_i hy hi, load_i3, b_rem _ _ _ _ _ _ _ (show (2 : Int) ≠ 0 by decide), hev, b_eql, q0, cf41, extractA, List.getElem?_cons_zero, List.getElem?_cons_succ, cf35, cf36, cf37, cf38, c1, c2, c3, c4, b_neq, bne_self_eq_false, b_add, b_sub, q2, hi1, hsl, key _ hw, hlb, z1, z2, z3, z4]
      exact ⟨_, _, _, _, rfl, ⟨r', pl', by simp only [List.getElem?_set, List.length_set, Nat.reduceLT, Nat.reduceEqDiff, ↓reduceIte, reduceCtorEq, *], by simp only [List.getElem?_set, List.length_set, Nat.reduceLT, Nat.reduceEqDiff, ↓reduceIte, reduceCtorEq, *], by simp only [List.getElem?_set, List.length_set, Nat.reduceLT, Nat.reduceEqDiff, ↓reduceIte, reduceCtorEq, *], by simp only [List.getElem?_set, List.length_set, Nat.reduceLT, Nat.reduceEqDiff, ↓reduceIte, reduceCtorEq, *], by simp only [List.getElem?_set, List.length_set, Nat.reduceLT, Nat.reduceEqDiff, ↓reduceIte, reduceCtorEq, *], by simp only [List.getElem?_set, List.length_set, Nat.reduceLT, Nat.reduceEqDiff, ↓reduceIte, reduceCtorEq, *], by simp only [List.getElem?_set, List.length_set, Nat.reduceLT, Nat.reduceEqDiff, ↓reduceIte, reduceCtorEq, *], by simp only [List.getElem?_set, List.length_set, Nat.reduceLT, Nat.reduceEqDiff, ↓reduceIte, reduceCtorEq, *]⟩⟩
    · have hp0 : p = 0 := by simpa using pl
      subst hp0
      have hw : IsB (.lit (.slice a 0 0)) (([] : List UInt8).drop 0) := .inr ⟨a, rfl, rfl⟩
      have hlb := len_b (.inr ⟨a, rfl, rfl⟩ : IsB (.lit (.slice a 0 0)) [])
      simp only [AVal.undef, sbn, sbn', tkBody, code, Try.f13, Option.getD_some, Code.fst, Code.snd, Code.inn, aexec, aops, aop, Region.wanted, ayielded, aexecOp, aeval, aput, aseq, ablock, ahint, absOf, flat, nilCheckA, ANext.ofP, evals, evalPs, evalO, aresults, aresults1, aresult, aend, List.getElem?_set, List.length_set, Option.map_some, Option.bind_some, if_true, if_false, ↓reduceIte, Nat.reduceLT, Nat.reduceEqDiff, reduceCtorEq, Bool.false_eq_true, false_and, and_false, and_true, true_and, Nat.reduceAdd, Nat.reduceLeDiff, callA, List.getElem?_toArray, List.getElem?_cons_succ, List.getElem?_cons_zero, sb1, sb2, sb3, sb4, t0, t5, t6, t7, t29, t30, t31, tl, hh, b_lss, hd, idx_i hy hi, load_i3, b_rem _ _ _ _ _ _ _ (show (2 : Int) ≠ 0 by decide), hev, b_eql, q0, cf41, extractA, List.getElem?_cons_zero, List.getElem?_cons_succ, cf35, cf36, cf37, cf38, c1, c2, c3, c4, b_neq, bne_self_eq_false, b_add, b_sub, q2, hi1, evalO, YtjpehemkgikkdaaA.aexecOp.evalV, slice_lit0, key _ hw, hlb, z1, z2, z3, z4]
      exact ⟨_, _, _, _, rfl, ⟨r', pl', by simp only [List.getElem?_set, List.length_set, Nat.reduceLT, Nat.reduceEqDiff, ↓reduceIte, reduceCtorEq, *], by simp only [List.getElem?_set, List.length_set, Nat.reduceLT, Nat.reduceEqDiff, ↓reduceIte, reduceCtorEq, *], by simp only [List.getElem?_set, List.length_set, Nat.reduceLT, Nat.reduceEqDiff, ↓reduceIte, reduceCtorEq, *], by simp only [List.getElem?_set, List.length_set, Nat.reduceLT, Nat.reduceEqDiff, ↓reduceIte, reduceCtorEq, *], by simp only [List.getElem?_set, List.length_set, Nat.reduceLT, Nat.reduceEqDiff, ↓reduceIte, reduceCtorEq, *], by simp only [List.getElem?_set, List.length_set, Nat.reduceLT, Nat.reduceEqDiff, ↓reduceIte, reduceCtorEq, *], by simp only [List.getElem?_set, List.length_set, Nat.reduceLT, Nat.reduceEqDiff, ↓reduceIte, reduceCtorEq, *], by simp only [List.getElem?_set, List.length_set, Nat.reduceLT, Nat.reduceEqDiff, ↓reduceIte, reduceCtorEq, *]⟩⟩

end Go.Proofs.YtjpehemkgikkdaaV
