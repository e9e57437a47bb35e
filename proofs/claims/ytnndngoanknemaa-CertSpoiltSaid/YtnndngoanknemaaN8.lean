/- Parents, walked: its contract. No condition. -/
import Derived.Test.YtnndngoanknemaaN7
namespace Go.Proofs.YtnndngoanknemaaV
open Go Go.RowKit Go.Proofs.YtnndngoanknemaaA
set_option linter.unusedVariables false
set_option linter.unusedSimpArgs false
set_option maxRecDepth 100000

theorem irow_last {st : ASt} {v : AVal} {l : List Int} {x : Int} {s : Option Nat} (h : IRow st v (l ++ [x]) s) :
    ∃ s', s = some s' ∧ indexA E.P 74 v (.lit (.int .i64 l.length)) = some (.ptr s' l.length) ∧ loadA E.P 3 st (.ptr s' l.length) = some (.lit (.int .i64 x)) := by
  obtain ⟨s', h1, h2, h3⟩ := irow_idx h (i := l.length) (by simp)
  refine ⟨s', h1, h2, ?_⟩
  rw [h3]; simp

theorem pop_run {st : ASt} {v : AVal} {l : List Int} {x : Int} {s : Option Nat} (h : IRow st v (l ++ [x]) s) (hl : l.length ≤ 100000) :
    ∃ v', RetN E 1 46 [v] st v' st ∧ IRow st v' l s := by
  obtain ⟨v', h1, h2⟩ := irow_pop h
  refine ⟨v', RetN.of (n := 0 + 1) ?_, h2⟩
  rw [run_code (fn := Try.f46) rfl rfl]
  have hh : ∀ t, E.hint 46 t = false := fun _ => rfl
  obtain ⟨ts, et, t0, tl⟩ : ∃ ts : List AVal, ([v] ++ List.replicate (Try.f46.ntmps - [v].length) .undef) = ts ∧ ts[0]? = some v ∧ ts.length = 8 := ⟨_, rfl, rfl, rfl⟩
  rw [et]
  have q : IntKind.i64.wrap (((l ++ [x]).length : Int) - 1) = ((l.length : Nat) : Int) := by
    simp [IntKind.wrap, IntKind.bits, IntKind.signed]; omega
  cases s with
  | none => obtain ⟨_, h⟩ := h; simp at h
  | some s =>
    have hv : ∃ a b c d e, v = .slice a b c d e := by obtain ⟨rfl, _⟩ := h; exact ⟨_, _, _, _, _, rfl⟩
    obtain ⟨a, b, c, d, e, rfl⟩ := hv
    simp only [code, Try.f46, Option.getD_some, aexec, aops, aop, Region.wanted, ayielded, aexecOp, aeval, aput, aseq, ablock, ahint, absOf, flat, nilCheckA, ANext.ofP, evals, evalPs, evalO, aresults, aresults1, aresult, aend, List.getElem?_set, List.length_set, Option.map_some, Option.bind_some, if_true, if_false, ↓reduceIte, Nat.reduceLT, Nat.reduceEqDiff, reduceCtorEq, Bool.false_eq_true, false_and, and_false, and_true, true_and, Nat.reduceAdd, Nat.reduceLeDiff, callA, List.getElem?_toArray, List.getElem?_cons_succ, List.getElem?_cons_zero, sb1, sb2, sb3, sb4, sliceU_i, sliceU_s, sliceU_p, sliceU_l, evalV, t0, tl, hh, irow_len h, b_sub, q, evalO, h1]

theorem cf44 (a : List AVal) (st : ASt) : callFuncA E.P 46 a st = some (.enter 46 a st) := rfl

/-! ### by definition -/
def popZ : List (Nat × Int) → List (Nat × Int)
  | [] => []
  | (a, c) :: r => if c = 0 then popZ r else (a, c) :: r
def parStep (q : List (Nat × Int) × List Int) (i : Nat) (kd : Int) : List (Nat × Int) × List Int := match popZ q.1 with
  | [] => ([(i, kd)], q.2 ++ [-1])
  | (a, c) :: r => ((i, kd) :: (a, c - 1) :: r, q.2 ++ [(a : Int)])
def parSt (l : List Nd) : Nat → List (Nat × Int) × List Int
  | 0 => ([], [])
  | i + 1 => match l[i]? with
    | some n => parStep (parSt l i) i n.kd
    | none => parSt l i
/-- what each node is tried behind -/
def par (l : List Nd) : List Int := (parSt l l.length).2

def opens (S : List (Nat × Int)) : List Int := (S.map fun p => (p.1 : Int)).reverse
def lefts (S : List (Nat × Int)) : List Int := (S.map (·.2)).reverse
theorem opens_cons (p : Nat × Int) (S : List (Nat × Int)) : opens (p :: S) = opens S ++ [(p.1 : Int)] := by simp [opens]
theorem lefts_cons (p : Nat × Int) (S : List (Nat × Int)) : lefts (p :: S) = lefts S ++ [p.2] := by simp [lefts]
theorem opens_len (S : List (Nat × Int)) : (opens S).length = S.length := by simp [opens]
theorem lefts_len (S : List (Nat × Int)) : (lefts S).length = S.length := by simp [lefts]

structure PaS (v outv ov lv : AVal) (len i : Nat) (ts : List AVal) : Prop where
  t0 : ts[0]? = some v
  t3 : ts[3]? = some outv
  t4 : ts[4]? = some ov
  t5 : ts[5]? = some lv
  t8 : ts[8]? = some v
  t9 : ts[9]? = some (.lit (.int .i64 len))
  t10 : ts[10]? = some (.lit (.int .i64 i))
  tl : ts.length = 65

structure PaH (base st : ASt) (outv : AVal) (out : List Int) (ov lv : AVal) (S : List (Nat × Int)) (a b c : Option Nat) : Prop where
  r0 : IRow st outv out a
  r1 : IRow st ov (opens S) b
  r2 : IRow st lv (lefts S) c
  ab : ∀ k, a = some k → b ≠ some k
  ac : ∀ k, a = some k → c ≠ some k
  bc : ∀ k, b = some k → c ≠ some k
  fa : ∀ k, a = some k → base.ctr ≤ k
  fb : ∀ k, b = some k → base.ctr ≤ k
  fc : ∀ k, c = some k → base.ctr ≤ k
  gr : Gr base st
  len : S.length ≤ 1000
  ol : out.length ≤ 1000
  cnt : ∀ p ∈ S, 0 ≤ p.2 ∧ p.2 ≤ 6

theorem irow_lt {st : ASt} {v : AVal} {l : List Int} {s : Option Nat} (h : IRow st v l s) : ∀ k, s = some k → k < st.ctr := by
  intro k e; subst e; exact h.2.1

theorem PaH.laid {base st : ASt} {outv ov lv : AVal} {out : List Int} {S : List (Nat × Int)} {a b c : Option Nat} (h : PaH base st outv out ov lv S a b c) (n : Nd) : PaH base (laidN st n) outv out ov lv S a b c := by
  have g := laidN_gr st n
  have key : ∀ {v : AVal} {l : List Int} {s : Option Nat}, IRow st v l s → IRow (laidN st n) v l s := fun hr => hr.gr g.1 (fun k e => g.2 k (irow_lt hr k e))
  exact ⟨key h.r0, key h.r1, key h.r2, h.ab, h.ac, h.bc, h.fa, h.fb, h.fc, h.gr.trans g, h.len, h.ol, h.cnt⟩

noncomputable def paBody : Code := (code Try.f44).snd.snd.fst.snd.inn
noncomputable def paIn : Code := paBody.snd.snd.fst.inn
noncomputable def paPop : Code := paIn.snd.fst.inn
noncomputable def paR3 : Code := paBody.fst
noncomputable def paR4 : Code := paIn.fst
noncomputable def paR7 : Code := paIn.snd.snd.fst
noncomputable def paR11 : Code := paIn.snd.snd.snd
noncomputable def paR12 : Code := paBody.snd.snd.snd
theorem pa_body : paBody = .seq paR3 (.seq (.cond (.tmp 11) .skip (.exit 0)) (.seq (.block 1 (.seq paR4 (.seq (.block 2 (.loop paPop)) (.seq paR7 paR11)))) paR12)) := rfl

theorem hint31 (t : Nat) : E.hint 44 t = (t == 36 || t == 45 || t == 57 || t == 62) := by simp [E]

theorem pa3 (call : ACall) (dr : Array Oper → Bool) (n : Nat) {v outv ov lv : AVal} {len i : Nat} {ts : List AVal} {st : ASt} (h : PaS v outv ov lv len i ts) :
    ∃ ts', aexec E 44 call dr n paR3 ts st = some (.normal, ts', st) ∧ PaS v outv ov lv len i ts' ∧ ts'[11]? = some (.lit (.bool (decide (i < len)))) := by
  obtain ⟨t0, t3, t4, t5, t8, t9, t10, tl⟩ := h
  have hd : decide ((i : Int) < (len : Int)) = decide (i < len) := by rw [decide_eq_decide]; omega
  simp only [paR3, paBody, paIn, code, Try.f44, Option.getD_some, Code.fst, Code.snd, Code.inn, aexec, aops, aop, Region.wanted, ayielded, aexecOp, aeval, aput, aseq, ablock, ahint, absOf, flat, nilCheckA, ANext.ofP, evals, evalPs, evalO, aresults, aresults1, aresult, aend, List.getElem?_set, List.length_set, Option.map_some, Option.bind_some, if_true, if_false, ↓reduceIte, Nat.reduceLT, Nat.reduceEqDiff, reduceCtorEq, Bool.false_eq_true, false_and, and_false, and_true, true_and, Nat.reduceAdd, Nat.reduceLeDiff, callA, List.getElem?_toArray, List.getElem?_cons_succ, List.getElem?_cons_zero, sb1, sb2, sb3, sb4, sliceU_i, sliceU_s, sliceU_p, sliceU_l, evalV, t0, t3, t4, t5, t8, t9, t10, tl, b_lss, hd]
  exact ⟨_, rfl, ⟨by simp only [List.getElem?_set, List.length_set, Nat.reduceLT, Nat.reduceEqDiff, ↓reduceIte, reduceCtorEq, *], by simp only [List.getElem?_set, List.length_set, Nat.reduceLT, Nat.reduceEqDiff, ↓reduceIte, reduceCtorEq, *], by simp only [List.getElem?_set, List.length_set, Nat.reduceLT, Nat.reduceEqDiff, ↓reduceIte, reduceCtorEq, *], by simp only [List.getElem?_set, List.length_set, Nat.reduceLT, Nat.reduceEqDiff, ↓reduceIte, reduceCtorEq, *], by simp only [List.getElem?_set, List.length_set, Nat.reduceLT, Nat.reduceEqDiff, ↓reduceIte, reduceCtorEq, *], by simp only [List.getElem?_set, List.length_set, Nat.reduceLT, Nat.reduceEqDiff, ↓reduceIte, reduceCtorEq, *], by simp only [List.getElem?_set, List.length_set, Nat.reduceLT, Nat.reduceEqDiff, ↓reduceIte, reduceCtorEq, *], by simp only [List.getElem?_set, List.length_set, Nat.reduceLT, Nat.reduceEqDiff, ↓reduceIte, reduceCtorEq, *]⟩, by simp only [List.getElem?_set, List.length_set, Nat.reduceLT, Nat.reduceEqDiff, ↓reduceIte, reduceCtorEq, *]⟩

theorem pa4 (call : ACall) (dr : Array Oper → Bool) (n : Nat) {v outv ov lv : AVal} {l : List Nd} {i : Nat} {ts : List AVal} {st : ASt} (hp : PS st v l) (hi : i < l.length) (h : PaS v outv ov lv l.length i ts) :
    ∃ ts', aexec E 44 call dr n paR4 ts st = some (.normal, ts', laidN st l[i]) ∧ PaS v outv ov lv l.length i ts' ∧ ts'[6]? = some (.lit (.int .i64 i)) ∧ ts'[7]? = some (.ptr st.ctr 0) := by
  obtain ⟨t0, t3, t4, t5, t8, t9, t10, tl⟩ := h
  obtain ⟨p, q, i1, i2, _⟩ := ps_idx hp hi
  simp only [paR4, paBody, paIn, code, Try.f44, Option.getD_some, Code.fst, Code.snd, Code.inn, aexec, aops, aop, Region.wanted, ayielded, aexecOp, aeval, aput, aseq, ablock, ahint, absOf, flat, nilCheckA, ANext.ofP, evals, evalPs, evalO, aresults, aresults1, aresult, aend, List.getElem?_set, List.length_set, Option.map_some, Option.bind_some, if_true, if_false, ↓reduceIte, Nat.reduceLT, Nat.reduceEqDiff, reduceCtorEq, Bool.false_eq_true, false_and, and_false, and_true, true_and, Nat.reduceAdd, Nat.reduceLeDiff, callA, List.getElem?_toArray, List.getElem?_cons_succ, List.getElem?_cons_zero, sb1, sb2, sb3, sb4, sliceU_i, sliceU_s, sliceU_p, sliceU_l, evalV, t0, t3, t4, t5, t8, t9, t10, tl, i1, i2, alloc_n, store_n]
  exact ⟨_, rfl, ⟨by simp only [List.getElem?_set, List.length_set, Nat.reduceLT, Nat.reduceEqDiff, ↓reduceIte, reduceCtorEq, *], by simp only [List.getElem?_set, List.length_set, Nat.reduceLT, Nat.reduceEqDiff, ↓reduceIte, reduceCtorEq, *], by simp only [List.getElem?_set, List.length_set, Nat.reduceLT, Nat.reduceEqDiff, ↓reduceIte, reduceCtorEq, *], by simp only [List.getElem?_set, List.length_set, Nat.reduceLT, Nat.reduceEqDiff, ↓reduceIte, reduceCtorEq, *], by simp only [List.getElem?_set, List.length_set, Nat.reduceLT, Nat.reduceEqDiff, ↓reduceIte, reduceCtorEq, *], by simp only [List.getElem?_set, List.length_set, Nat.reduceLT, Nat.reduceEqDiff, ↓reduceIte, reduceCtorEq, *], by simp only [List.getElem?_set, List.length_set, Nat.reduceLT, Nat.reduceEqDiff, ↓reduceIte, reduceCtorEq, *], by simp only [List.getElem?_set, List.length_set, Nat.reduceLT, Nat.reduceEqDiff, ↓reduceIte, reduceCtorEq, *]⟩, by simp only [List.getElem?_set, List.length_set, Nat.reduceLT, Nat.reduceEqDiff, ↓reduceIte, reduceCtorEq, *], by simp only [List.getElem?_set, List.length_set, Nat.reduceLT, Nat.reduceEqDiff, ↓reduceIte, reduceCtorEq, *]⟩

/-- a round of taking away -/
theorem pa_pop (N : Nat) (hN : 1 ≤ N) (dr : Array Oper → Bool) (n : Nat) {base st : ASt} {v outv ov lv nv : AVal} {out : List Int} {S : List (Nat × Int)} {a b c : Option Nat} {len i : Nat} {ts : List AVal} (h : PaS v outv ov lv len i ts) (hH : PaH base st outv out ov lv S a b c) (t6 : ts[6]? = some (.lit (.int .i64 i))) (t7 : ts[7]? = some nv) :
    (popZ S = S → ∃ ts', aexec E 44 (run E N) dr n paPop ts st = some (.exit 2, ts', st) ∧ PaS v outv ov lv len i ts' ∧ ts'[6]? = some (.lit (.int .i64 i)) ∧ ts'[7]? = some nv) ∧
    (∀ x r, S = (x, 0) :: r → ∃ ts' ov' lv', aexec E 44 (run E N) dr n paPop ts st = some (.normal, ts', st) ∧ PaS v outv ov' lv' len i ts' ∧ PaH base st outv out ov' lv' r a b c ∧ ts'[6]? = some (.lit (.int .i64 i)) ∧ ts'[7]? = some nv) := by
  obtain ⟨t0, t3, t4, t5, t8, t9, t10, tl⟩ := h
  have L1 := fun mt ty cs s2 => irow_len hH.r1 mt ty cs s2
  have L2 := fun mt ty cs s2 => irow_len hH.r2 mt ty cs s2
  rw [opens_len] at L1
  rw [lefts_len] at L2
  have hSl := hH.len
  refine ⟨fun hS => ?_, fun x r hS => ?_⟩
  · cases S with
    | nil =>
      simp only [List.length_nil] at L1 L2
      have a1 : decide (((0 : Nat) : Int) > 0) = false := rfl
      simp only [AVal.undef, sbn, sbn', paPop, paBody, paIn, code, Try.f44, Option.getD_some, Code.fst, Code.snd, Code.inn, aexec, aops, aop, Region.wanted, ayielded, aexecOp, aeval, aput, aseq, ablock, ahint, absOf, flat, nilCheckA, ANext.ofP, evals, evalPs, evalO, aresults, aresults1, aresult, aend, List.getElem?_set, List.length_set, Option.map_some, Option.bind_some, if_true, if_false, ↓reduceIte, Nat.reduceLT, Nat.reduceEqDiff, reduceCtorEq, Bool.false_eq_true, false_and, and_false, and_true, true_and, Nat.reduceAdd, Nat.reduceLeDiff, callA, List.getElem?_toArray, List.getElem?_cons_succ, List.getElem?_cons_zero, sb1, sb2, sb3, sb4, sliceU_i, sliceU_s, sliceU_p, sliceU_l, evalV, t0, t3, t4, t5, t8, t9, t10, tl, L1, b_gtr, a1]
      exact ⟨_, rfl, ⟨by simp only [List.getElem?_set, List.length_set, Nat.reduceLT, Nat.reduceEqDiff, ↓reduceIte, reduceCtorEq, *], by simp only [List.getElem?_set, List.length_set, Nat.reduceLT, Nat.reduceEqDiff, ↓reduceIte, reduceCtorEq, *], by simp only [List.getElem?_set, List.length_set, Nat.reduceLT, Nat.reduceEqDiff, ↓reduceIte, reduceCtorEq, *], by simp only [List.getElem?_set, List.length_set, Nat.reduceLT, Nat.reduceEqDiff, ↓reduceIte, reduceCtorEq, *], by simp only [List.getElem?_set, List.length_set, Nat.reduceLT, Nat.reduceEqDiff, ↓reduceIte, reduceCtorEq, *], by simp only [List.getElem?_set, List.length_set, Nat.reduceLT, Nat.reduceEqDiff, ↓reduceIte, reduceCtorEq, *], by simp only [List.getElem?_set, List.length_set, Nat.reduceLT, Nat.reduceEqDiff, ↓reduceIte, reduceCtorEq, *], by simp only [List.getElem?_set, List.length_set, Nat.reduceLT, Nat.reduceEqDiff, ↓reduceIte, reduceCtorEq, *]⟩, by simp only [List.getElem?_set, List.length_set, Nat.reduceLT, Nat.reduceEqDiff, ↓reduceIte, reduceCtorEq, *], by simp only [List.getElem?_set, List.length_set, Nat.reduceLT, Nat.reduceEqDiff, ↓reduceIte, reduceCtorEq, *]⟩
    | cons p r =>
      obtain ⟨x, k⟩ := p
      have hk : k ≠ 0 := by
        intro e
        rw [popZ, if_pos e] at hS
        have := congrArg List.length hS
        have hle : ∀ S : List (Nat × Int), (popZ S).length ≤ S.length := by
          intro S
          induction S with
          | nil => simp [popZ]
          | cons p r ih =>
            obtain ⟨x, c⟩ := p
            rw [popZ]
            split
            · simp; omega
            · simp
        have h2 := hle r
        simp at this
        omega
      have r2 := hH.r2
      rw [lefts_cons] at r2
      obtain ⟨s', e1, e2, e3⟩ := irow_last r2
      rw [lefts_len] at e2 e3
      have a1 : decide ((((x, k) :: r).length : Int) > 0) = true := by rw [decide_eq_true_eq]; simp
      have q : IntKind.i64.wrap ((((x, k) :: r).length : Int) - 1) = ((r.length : Nat) : Int) := by
        simp at hSl
        simp [IntKind.wrap, IntKind.bits, IntKind.signed]; omega
      have a2 : (k == 0) = false := beq_eq_false_iff_ne.2 hk
      simp only [AVal.undef, sbn, sbn', paPop, paBody, paIn, code, Try.f44, Option.getD_some, Code.fst, Code.snd, Code.inn, aexec, aops, aop, Region.wanted, ayielded, aexecOp, aeval, aput, aseq, ablock, ahint, absOf, flat, nilCheckA, ANext.ofP, evals, evalPs, evalO, aresults, aresults1, aresult, aend, List.getElem?_set, List.length_set, Option.map_some, Option.bind_some, if_true, if_false, ↓reduceIte, Nat.reduceLT, Nat.reduceEqDiff, reduceCtorEq, Bool.false_eq_true, false_and, and_false, and_true, true_and, Nat.reduceAdd, Nat.reduceLeDiff, callA, List.getElem?_toArray, List.getElem?_cons_succ, List.getElem?_cons_zero, sb1, sb2, sb3, sb4, sliceU_i, sliceU_s, sliceU_p, sliceU_l, evalV, t0, t3, t4, t5, t8, t9, t10, tl, L1, L2, b_gtr, a1, b_sub, q, e2, e3, b_eql, a2]
      exact ⟨_, rfl, ⟨by simp only [List.getElem?_set, List.length_set, Nat.reduceLT, Nat.reduceEqDiff, ↓reduceIte, reduceCtorEq, *], by simp only [List.getElem?_set, List.length_set, Nat.reduceLT, Nat.reduceEqDiff, ↓reduceIte, reduceCtorEq, *], by simp only [List.getElem?_set, List.length_set, Nat.reduceLT, Nat.reduceEqDiff, ↓reduceIte, reduceCtorEq, *], by simp only [List.getElem?_set, List.length_set, Nat.reduceLT, Nat.reduceEqDiff, ↓reduceIte, reduceCtorEq, *], by simp only [List.getElem?_set, List.length_set, Nat.reduceLT, Nat.reduceEqDiff, ↓reduceIte, reduceCtorEq, *], by simp only [List.getElem?_set, List.length_set, Nat.reduceLT, Nat.reduceEqDiff, ↓reduceIte, reduceCtorEq, *], by simp only [List.getElem?_set, List.length_set, Nat.reduceLT, Nat.reduceEqDiff, ↓reduceIte, reduceCtorEq, *], by simp only [List.getElem?_set, List.length_set, Nat.reduceLT, Nat.reduceEqDiff, ↓reduceIte, reduceCtorEq, *]⟩, by simp only [List.getElem?_set, List.length_set, Nat.reduceLT, Nat.reduceEqDiff, ↓reduceIte, reduceCtorEq, *], by simp only [List.getElem?_set, List.length_set, Nat.reduceLT, Nat.reduceEqDiff, ↓reduceIte, reduceCtorEq, *]⟩
  · subst hS
    have r2 := hH.r2
    have r1 := hH.r1
    rw [lefts_cons] at r2
    rw [opens_cons] at r1
    obtain ⟨s', e1, e2, e3⟩ := irow_last r2
    rw [lefts_len] at e2 e3
    simp at hSl
    have a1 : decide ((((x, (0 : Int)) :: r).length : Int) > 0) = true := by rw [decide_eq_true_eq]; simp
    have q : IntKind.i64.wrap ((((x, (0 : Int)) :: r).length : Int) - 1) = ((r.length : Nat) : Int) := by
      simp [IntKind.wrap, IntKind.bits, IntKind.signed]; omega
    have a2 : ((0 : Int) == 0) = true := rfl
    obtain ⟨ov', n1, w1⟩ := pop_run r1 (by rw [opens_len]; omega)
    obtain ⟨lv', n2, w2⟩ := pop_run r2 (by rw [lefts_len]; omega)
    have c1 := n1 N hN
    have c2 := n2 N hN
    simp only [AVal.undef, sbn, sbn', paPop, paBody, paIn, code, Try.f44, Option.getD_some, Code.fst, Code.snd, Code.inn, aexec, aops, aop, Region.wanted, ayielded, aexecOp, aeval, aput, aseq, ablock, ahint, absOf, flat, nilCheckA, ANext.ofP, evals, evalPs, evalO, aresults, aresults1, aresult, aend, List.getElem?_set, List.length_set, Option.map_some, Option.bind_some, if_true, if_false, ↓reduceIte, Nat.reduceLT, Nat.reduceEqDiff, reduceCtorEq, Bool.false_eq_true, false_and, and_false, and_true, true_and, Nat.reduceAdd, Nat.reduceLeDiff, callA, List.getElem?_toArray, List.getElem?_cons_succ, List.getElem?_cons_zero, sb1, sb2, sb3, sb4, sliceU_i, sliceU_s, sliceU_p, sliceU_l, evalV, t0, t3, t4, t5, t8, t9, t10, tl, L1, L2, b_gtr, a1, b_sub, q, e2, e3, b_eql, a2, cf44, c1, c2]
    exact ⟨_, ov', lv', rfl, ⟨by simp only [List.getElem?_set, List.length_set, Nat.reduceLT, Nat.reduceEqDiff, ↓reduceIte, reduceCtorEq, *], by simp only [List.getElem?_set, List.length_set, Nat.reduceLT, Nat.reduceEqDiff, ↓reduceIte, reduceCtorEq, *], by simp only [List.getElem?_set, List.length_set, Nat.reduceLT, Nat.reduceEqDiff, ↓reduceIte, reduceCtorEq, *], by simp only [List.getElem?_set, List.length_set, Nat.reduceLT, Nat.reduceEqDiff, ↓reduceIte, reduceCtorEq, *], by simp only [List.getElem?_set, List.length_set, Nat.reduceLT, Nat.reduceEqDiff, ↓reduceIte, reduceCtorEq, *], by simp only [List.getElem?_set, List.length_set, Nat.reduceLT, Nat.reduceEqDiff, ↓reduceIte, reduceCtorEq, *], by simp only [List.getElem?_set, List.length_set, Nat.reduceLT, Nat.reduceEqDiff, ↓reduceIte, reduceCtorEq, *], by simp only [List.getElem?_set, List.length_set, Nat.reduceLT, Nat.reduceEqDiff, ↓reduceIte, reduceCtorEq, *]⟩, ⟨hH.r0, w1, w2, hH.ab, hH.ac, hH.bc, hH.fa, hH.fb, hH.fc, hH.gr, by omega, hH.ol, fun p hp => hH.cnt p (List.mem_cons_of_mem _ hp)⟩, by simp only [List.getElem?_set, List.length_set, Nat.reduceLT, Nat.reduceEqDiff, ↓reduceIte, reduceCtorEq, *], by simp only [List.getElem?_set, List.length_set, Nat.reduceLT, Nat.reduceEqDiff, ↓reduceIte, reduceCtorEq, *]⟩

theorem popZ_idem : ∀ S : List (Nat × Int), popZ (popZ S) = popZ S
  | [] => rfl
  | (a, c) :: r => by
    rw [popZ]
    split
    · exact popZ_idem r
    · rename_i h; rw [popZ, if_neg h]

theorem pa_pops (N : Nat) (hN : 1 ≤ N) (dr : Array Oper → Bool) (n : Nat) (hn : 1000 < n) {base st : ASt} {v outv ov lv nv : AVal} {out : List Int} {S : List (Nat × Int)} {a b c : Option Nat} {len i : Nat} {ts : List AVal} (h : PaS v outv ov lv len i ts) (hH : PaH base st outv out ov lv S a b c) (t6 : ts[6]? = some (.lit (.int .i64 i))) (t7 : ts[7]? = some nv) :
    ∃ ts' ov' lv', aloop (aexec E 44 (run E N) dr n paPop) n ts st = some (.exit 2, ts', st) ∧ PaS v outv ov' lv' len i ts' ∧ PaH base st outv out ov' lv' (popZ S) a b c ∧ ts'[6]? = some (.lit (.int .i64 i)) ∧ ts'[7]? = some nv := by
  obtain ⟨e, ts', st', h1, rfl, rfl, h2⟩ := aloop_rule (b := aexec E 44 (run E N) dr n paPop)
    (I := fun k ts s => s = st ∧ ∃ T ov lv, k = T.length ∧ popZ T = popZ S ∧ PaS v outv ov lv len i ts ∧ PaH base st outv out ov lv T a b c ∧ ts[6]? = some (.lit (.int .i64 i)) ∧ ts[7]? = some nv)
    (Q := fun e ts' s => s = st ∧ e = .exit 2 ∧ ∃ ov' lv', PaS v outv ov' lv' len i ts' ∧ PaH base st outv out ov' lv' (popZ S) a b c ∧ ts'[6]? = some (.lit (.int .i64 i)) ∧ ts'[7]? = some nv)
    (step := by
      rintro k ts s ⟨hs, T, ov, lv, hk, hT, hI, hP, u6, u7⟩
      rw [hs]
      obtain ⟨ha, hb⟩ := pa_pop N hN dr n hI hP u6 u7
      by_cases hT2 : popZ T = T
      · obtain ⟨ts', e, h1, h6, h7⟩ := ha hT2
        rw [hT2] at hT
        rw [hT] at hP
        exact .inr ⟨_, ts', _, e, by simp, rfl, rfl, ov, lv, h1, hP, h6, h7⟩
      · cases T with
        | nil => exact absurd rfl hT2
        | cons p r =>
          obtain ⟨x, c'⟩ := p
          have h0 : c' = 0 := by
            by_cases e : c' = 0
            · exact e
            · rw [popZ, if_neg e] at hT2; exact absurd rfl hT2
          subst h0
          obtain ⟨ts', ov', lv', e, h1, h2, h6, h7⟩ := hb x r rfl
          exact .inl ⟨ts', _, e, r.length, by rw [hk]; simp, rfl, r, ov', lv', rfl, by rw [← hT, popZ, if_pos rfl], h1, h2, h6, h7⟩)
    n S.length ts st ⟨rfl, S, ov, lv, rfl, rfl, h, hH, t6, t7⟩ (by have := hH.len; omega)
  obtain ⟨ov', lv', h3⟩ := h2
  exact ⟨ts', ov', lv', h1, h3⟩

end Go.Proofs.YtnndngoanknemaaV
