/- WireTakes: num's contract, Raw where it doesn't take, slices. No condition. -/
import Derived.Test.YtjpehemkgikkdaaT1
import Derived.Test.YtjpehemkgikkdaaVC
namespace Go.Proofs.YtjpehemkgikkdaaV
open Go Go.RowKit Go.Proofs.YtjpehemkgikkdaaA
set_option linter.unusedVariables false
set_option linter.unusedSimpArgs false
set_option maxRecDepth 100000

/-- what num hands back -/
def rdOut : Nat ⊕ (Nat × Nat) → Nat × Nat × Nat
  | .inl e => (0, 0, e)
  | .inr (n, k) => (n, k, 0)

theorem rd_le : ∀ (l : List UInt8) (sh n k : Nat), (∀ x j, rd l sh n k = .inr (x, j) → j ≤ k + l.length) ∧ (∀ e, rd l sh n k = .inl e → e = 1 ∨ e = 3)
  | [], sh, n, k => ⟨fun x j h => (by simp only [rd] at h; cases h), fun e h => by simp only [rd] at h; cases h; exact .inr rfl⟩
  | c :: r, sh, n, k => by
    obtain ⟨h1, h2⟩ := rd_le r (sh + 7) (n ||| (c.toNat &&& 127) * 2 ^ sh) (k + 1)
    unfold rd
    refine ⟨fun x j h => ?_, fun e h => ?_⟩
    · split at h
      · cases h
      · split at h
        · have := h1 x j h; simp only [List.length_cons]; omega
        · cases h; simp only [List.length_cons]; omega
    · split at h
      · cases h; exact .inl rfl
      · split at h
        · exact h2 e h
        · cases h

theorem nm_run {x : AVal} {l : List UInt8} (st : ASt) (hx : IsB x l) (hl : l.length ≤ 1000000) :
    RetN E (l.length + 2) 41 [x] st (.tuple [.lit (.int .u64 (rdOut (rd l 0 0 0)).1), .lit (.int .i64 (rdOut (rd l 0 0 0)).2.1), .lit (.int .i64 (rdOut (rd l 0 0 0)).2.2)]) st := by
  refine RetN.of (n := l.length + 1 + 1) ?_
  rw [run_code (fn := Try.f41) rfl rfl, nm_parts]
  obtain ⟨ts, et, t0, tl⟩ : ∃ ts : List AVal, ([x] ++ List.replicate (Try.f41.ntmps - [x].length) .undef) = ts ∧ ts[0]? = some x ∧ ts.length = 43 := ⟨_, rfl, rfl, rfl⟩
  rw [et]
  have hres : ∀ ts st a b c, ts[2]? = some a → ts[3]? = some b → ts[4]? = some c → aresults E Try.f41 ts st = some (.tuple [a, b, c]) := by
    intro ts st a b c h1 h2 h3
    unfold aresults
    simp only [Try.f41, aresults1, aresult, h1, h2, h3]
  have hh : ∀ t, E.hint 41 t = false := fun _ => rfl
  obtain ⟨ts1, e1, hI⟩ : ∃ ts', aexec E 41 (run E (l.length + 1)) (drawB E 41) (l.length + 1) nmPre ts st = some (.normal, ts', st) ∧ NmI x l 0 0 ts' := by
    simp only [nmPre, code, Try.f41, Option.getD_some, Code.fst, Code.snd, Code.inn, aexec, aops, aop, Region.wanted, ayielded, aexecOp, aeval, aput, aseq, ablock, ahint, absOf, flat, nilCheckA, ANext.ofP, evals, evalPs, evalO, aresults, aresults1, aresult, aend, List.getElem?_set, List.length_set, Option.map_some, Option.bind_some, if_true, if_false, ↓reduceIte, Nat.reduceLT, Nat.reduceEqDiff, reduceCtorEq, Bool.false_eq_true, false_and, and_false, and_true, true_and, Nat.reduceAdd, Nat.reduceLeDiff, callA, List.getElem?_toArray, List.getElem?_cons_succ, List.getElem?_cons_zero, sb1, sb2, sb3, sb4, t0, tl, hh, len_b hx]
    exact ⟨_, rfl, by omega, by decide, by simp only [List.getElem?_set, List.length_set, Nat.reduceLT, Nat.reduceEqDiff, ↓reduceIte, reduceCtorEq, *]; rfl, by simp only [List.getElem?_set, List.length_set, Nat.reduceLT, Nat.reduceEqDiff, ↓reduceIte, reduceCtorEq, *], by simp only [List.getElem?_set, List.length_set, Nat.reduceLT, Nat.reduceEqDiff, ↓reduceIte, reduceCtorEq, *], by simp only [List.getElem?_set, List.length_set, Nat.reduceLT, Nat.reduceEqDiff, ↓reduceIte, reduceCtorEq, *]; rfl, by simp only [List.getElem?_set, List.length_set, Nat.reduceLT, Nat.reduceEqDiff, ↓reduceIte, reduceCtorEq, *]⟩
  have key := aloop_rule (b := aexec E 41 (run E (l.length + 1)) (drawB E 41) (l.length + 1) nmBody)
    (I := fun k ts s' => s' = st ∧ ∃ i n, k + i = l.length ∧ NmI x l i n ts ∧ rd (l.drop i) (7 * i) n i = rd l 0 0 0)
    (Q := fun e ts' s' => s' = st ∧ ((e = .exit 0 ∧ ts'.length = 43 ∧ rd l 0 0 0 = .inl 3) ∨ (e = .ret ∧ ts'[2]? = some (.lit (.int .u64 (rdOut (rd l 0 0 0)).1)) ∧ ts'[3]? = some (.lit (.int .i64 (rdOut (rd l 0 0 0)).2.1)) ∧ ts'[4]? = some (.lit (.int .i64 (rdOut (rd l 0 0 0)).2.2)))))
    (step := by
      rintro k ts1 s' ⟨hs', i, n, hi, hI, hr⟩
      rw [hs']
      by_cases he : i = l.length
      · obtain ⟨ts', e, al⟩ := nm_exit (run E (l.length + 1)) (drawB E 41) (l.length + 1) (st := st) hI he
        rw [List.drop_of_length_le (by omega), rd] at hr
        exact .inr ⟨_, ts', _, e, by simp, rfl, .inl ⟨rfl, al, hr.symm⟩⟩
      · have hlt : i < l.length := by omega
        rw [List.drop_eq_getElem_cons hlt, rd] at hr
        by_cases hb : (7 * i = 63 ∧ 1 < l[i].toNat) ∨ (0 < 7 * i ∧ l[i].toNat = 0)
        · obtain ⟨ts', e, a2, a3, a4⟩ := nm_bad (run E (l.length + 1)) (drawB E 41) (l.length + 1) (st := st) hx hI hlt hb
          rw [if_pos hb] at hr
          exact .inr ⟨_, ts', _, e, by simp, rfl, .inr ⟨rfl, by rw [← hr]; exact a2, by rw [← hr]; exact a3, by rw [← hr]; exact a4⟩⟩
        · rw [if_neg hb] at hr
          obtain ⟨hg, hla⟩ := nm_next (run E (l.length + 1)) (drawB E 41) (l.length + 1) (st := st) hx hI hlt hb
          by_cases hc : 128 ≤ l[i].toNat
          · obtain ⟨ts', e, hI'⟩ := hg hc
            rw [if_pos hc] at hr
            exact .inl ⟨ts', _, e, k - 1, by omega, rfl, i + 1, _, by omega, hI', by rw [← hr, Nat.mul_add]; rfl⟩
          · obtain ⟨ts', e, a2, a3, a4⟩ := hla (by omega)
            rw [if_neg hc] at hr
            exact .inr ⟨_, ts', _, e, by simp, rfl, .inr ⟨rfl, by rw [← hr]; exact a2, by rw [← hr]; exact a3, by rw [← hr]; exact a4⟩⟩)
    (l.length + 1) l.length ts1 st ⟨rfl, 0, 0, by omega, hI, rfl⟩ (by omega)
  obtain ⟨e, ts2, s2, e2, rfl, hq⟩ := key
  rcases hq with ⟨rfl, al, hr⟩ | ⟨rfl, a2, a3, a4⟩
  · have hend : ∃ ts', aexec E 41 (run E (l.length + 1)) (drawB E 41) (l.length + 1) nmEnd ts2 s2 = some (.ret, ts', s2) ∧ ts'[2]? = some (.lit (.int .u64 (0 : Nat))) ∧ ts'[3]? = some (.lit (.int .i64 (0 : Nat))) ∧ ts'[4]? = some (.lit (.int .i64 (3 : Nat))) := by
      simp only [nmEnd, code, Try.f41, Option.getD_some, Code.fst, Code.snd, Code.inn, aexec, aops, aop, Region.wanted, ayielded, aexecOp, aeval, aput, aseq, ablock, ahint, absOf, flat, nilCheckA, ANext.ofP, evals, evalPs, evalO, aresults, aresults1, aresult, aend, List.getElem?_set, List.length_set, Option.map_some, Option.bind_some, if_true, if_false, ↓reduceIte, Nat.reduceLT, Nat.reduceEqDiff, reduceCtorEq, Bool.false_eq_true, false_and, and_false, and_true, true_and, Nat.reduceAdd, Nat.reduceLeDiff, callA, List.getElem?_toArray, List.getElem?_cons_succ, List.getElem?_cons_zero, sb1, sb2, sb3, sb4, al, hh]
      exact ⟨_, rfl, by simp only [List.getElem?_set, List.length_set, Nat.reduceLT, Nat.reduceEqDiff, ↓reduceIte, reduceCtorEq, *]; rfl, by simp only [List.getElem?_set, List.length_set, Nat.reduceLT, Nat.reduceEqDiff, ↓reduceIte, reduceCtorEq, *]; rfl, by simp only [List.getElem?_set, List.length_set, Nat.reduceLT, Nat.reduceEqDiff, ↓reduceIte, reduceCtorEq, *]; rfl⟩
    obtain ⟨ts3, e3, b2, b3, b4⟩ := hend
    rw [hr]
    simp only [e1, aseq, e2, ablock, if_true, e3, aend, hres _ _ _ _ _ b2 b3 b4, Option.map_some, rdOut]
  · simp only [e1, aseq, e2, ablock, aend, hres _ _ _ _ _ a2 a3 a4, Option.map_some]

set_option maxHeartbeats 1000000 in
/-- Raw, where nothing is taken -/
theorem rraw_bad {st : ASt} {s : Nat} {v : AVal} {l : List UInt8} {p e : Nat} {k : Int} (h : RAt st s v l p e) (hp : p ≤ l.length) (hl : l.length ≤ 1000000) (hk : e ≠ 0 ∨ k < 0 ∨ ((l.length - p : Nat) : Int) < k) :
    RetN E 2 42 [.ptr s 0, .lit (.int .i64 k)] st .nilSlice (if e = 0 then rset st s v p 3 else st) := by
  refine RetN.of (n := 1 + 1) ?_
  rw [run_code (fn := Try.f42) rfl rfl]
  have hh : ∀ t, E.hint 42 t = false := fun _ => rfl
  have hdr1 : drawB E 42 ((code Try.f42).snd.fst.fst.ops) = true := by kernel_rfl
  simp only [code, Try.f42, Option.getD_some, Code.fst, Code.snd, Code.inn, Code.ops] at hdr1
  obtain ⟨ts, et, t0, t1, tl⟩ : ∃ ts : List AVal, ([AVal.ptr s 0, .lit (.int .i64 k)] ++ List.replicate (Try.f42.ntmps - [AVal.ptr s 0, .lit (.int .i64 k)].length) .undef) = ts ∧ ts[0]? = some (.ptr s 0) ∧ ts[1]? = some (.lit (.int .i64 k)) ∧ ts.length = 60 := ⟨_, rfl, rfl, rfl, rfl⟩
  rw [et]
  obtain ⟨f0, f1, f2⟩ := fld84 s
  obtain ⟨l0, l1, l2⟩ := ld_r h
  by_cases he : e = 0
  · have c1 : ∀ N, 1 ≤ N → run E N 46 [.ptr s 0, .lit (.int .i64 3)] st = some (.returned (.tuple []), rset st s v p 3) := fun N hN => by
      have := fail_run (f := 3) h N hN
      rw [if_pos he] at this
      exact this
    have c1 := c1 1 (Nat.le_refl _)
    obtain ⟨m0, m1, m2⟩ := ld_r (rset_at h p 3)
    rw [if_pos he]
    have q0 : (((e : Nat) : Int) == 0) = true := by rw [he]; rfl
    have q3 : (((3 : Nat) : Int) != 0) = true := rfl
    have q2 : IntKind.i64.wrap ((l.length : Int) - (p : Int)) = ((l.length - p : Nat) : Int) := by
      simp [IntKind.wrap, IntKind.bits, IntKind.signed]; omega
    cases b1 : decide (k < 0) with
    | true =>
      simp only [AVal.undef, sbn, sbn', code, Try.f42, Option.getD_some, aexec, aops, aop, Region.wanted, ayielded, aexecOp, aeval, aput, aseq, ablock, ahint, absOf, flat, nilCheckA, ANext.ofP, evals, evalPs, evalO, aresults, aresults1, aresult, aend, List.getElem?_set, List.length_set, Option.map_some, Option.bind_some, if_true, if_false, ↓reduceIte, Nat.reduceLT, Nat.reduceEqDiff, reduceCtorEq, Bool.false_eq_true, false_and, and_false, and_true, true_and, Nat.reduceAdd, Nat.reduceLeDiff, callA, List.getElem?_toArray, List.getElem?_cons_succ, List.getElem?_cons_zero, sb1, sb2, sb3, sb4, t0, t1, tl, hh, hdr1, f0, f1, f2, l0, l1, l2, b_eql, q0, b_lss, b1, cf46, c1, m2, b_neq, q3]
      rfl
    | false =>
      have b2 : decide (k > ((l.length - p : Nat) : Int)) = true := by
        rw [decide_eq_false_iff_not] at b1
        rw [decide_eq_true_eq]
        rcases hk with h1 | h1 | h1
        · exact absurd he h1
        · exact absurd h1 b1
        · exact h1
      simp only [AVal.undef, sbn, sbn', code, Try.f42, Option.getD_some, aexec, aops, aop, Region.wanted, ayielded, aexecOp, aeval, aput, aseq, ablock, ahint, absOf, flat, nilCheckA, ANext.ofP, evals, evalPs, evalO, aresults, aresults1, aresult, aend, List.getElem?_set, List.length_set, Option.map_some, Option.bind_some, if_true, if_false, ↓reduceIte, Nat.reduceLT, Nat.reduceEqDiff, reduceCtorEq, Bool.false_eq_true, false_and, and_false, and_true, true_and, Nat.reduceAdd, Nat.reduceLeDiff, callA, List.getElem?_toArray, List.getElem?_cons_succ, List.getElem?_cons_zero, sb1, sb2, sb3, sb4, t0, t1, tl, hh, hdr1, f0, f1, f2, l0, l1, l2, b_eql, q0, b_lss, b1, len_b (.inl h.2.2), b_sub, q2, b_gtr, b2, cf46, c1, m2, b_neq, q3]
      rfl
  · rw [if_neg he]
    have q0 : (((e : Nat) : Int) == 0) = false := by rw [beq_eq_false_iff_ne]; omega
    have q3 : (((e : Nat) : Int) != 0) = true := by rw [bne, q0]; rfl
    simp only [AVal.undef, sbn, sbn', code, Try.f42, Option.getD_some, aexec, aops, aop, Region.wanted, ayielded, aexecOp, aeval, aput, aseq, ablock, ahint, absOf, flat, nilCheckA, ANext.ofP, evals, evalPs, evalO, aresults, aresults1, aresult, aend, List.getElem?_set, List.length_set, Option.map_some, Option.bind_some, if_true, if_false, ↓reduceIte, Nat.reduceLT, Nat.reduceEqDiff, reduceCtorEq, Bool.false_eq_true, false_and, and_false, and_true, true_and, Nat.reduceAdd, Nat.reduceLeDiff, callA, List.getElem?_toArray, List.getElem?_cons_succ, List.getElem?_cons_zero, sb1, sb2, sb3, sb4, t0, t1, tl, hh, hdr1, f0, f1, f2, l0, l1, l2, b_eql, q0, b_neq, q3]
    rfl

theorem slice_lit (a : Option Addr) : pureV E.P (Instr.sliceAt 24 (.slice a 0 0) (some (.int .i64 0)) none none) = some (.lit (.slice a 0 0)) := by
  rfl

end Go.Proofs.YtjpehemkgikkdaaV
