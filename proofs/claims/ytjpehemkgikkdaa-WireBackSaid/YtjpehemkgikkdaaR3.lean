/- A reader's Raw. No condition. -/
import Derived.Test.YtjpehemkgikkdaaR2
import Derived.Test.YtjpehemkgikkdaaW5
namespace Go.Proofs.YtjpehemkgikkdaaV
open Go Go.RowKit Go.Proofs.YtjpehemkgikkdaaA
set_option linter.unusedVariables false
set_option linter.unusedSimpArgs false
set_option maxRecDepth 100000

theorem slice_is {l : List UInt8} {c : Cap} {p k : Nat} (h : p + k ≤ l.length) : ∃ c', sliceA E.P 24 (.islice 1 (l.map byteA) c) (some (.lit (.int .i64 p))) (some (.lit (.int .i64 (p + k : Nat)))) none = some (.islice 1 (((l.drop p).take k).map byteA) c') := by
  have e : sliceA E.P 24 (.islice 1 (l.map byteA) c) (some (.lit (.int .i64 p))) (some (.lit (.int .i64 (p + k : Nat)))) none = (match boundsA (l.map byteA).length (l.map byteA).length (some (.lit (.int .i64 p))) (some (.lit (.int .i64 (p + k : Nat)))) none with
        | some (lo, h, m) => some (.islice 1 (((l.map byteA).drop lo).take (h - lo)) (cutCap (l.map byteA).length h lo c m))
        | none => none) := rfl
  have e2 : boundsA (l.map byteA).length (l.map byteA).length (some (.lit (.int .i64 p))) (some (.lit (.int .i64 (p + k : Nat)))) none = some (p, p + k, none) := by
    have hl : (l.map byteA).length = l.length := by simp
    have b1 : boundA (some (.lit (.int .i64 (p + k : Nat)))) (l.map byteA).length (l.map byteA).length = some (p + k) := by
      have : boundA (some (.lit (.int .i64 (p + k : Nat)))) (l.map byteA).length (l.map byteA).length = if 0 ≤ ((p + k : Nat) : Int) ∧ ((p + k : Nat) : Int) ≤ (l.map byteA).length then some ((p + k : Nat) : Int).toNat else none := rfl
      rw [this, if_pos ⟨by omega, by rw [hl]; omega⟩, Int.toNat_natCast]
    have b2 : boundA (some (.lit (.int .i64 p))) 0 (p + k) = some p := by
      have : boundA (some (.lit (.int .i64 p))) 0 (p + k) = if 0 ≤ (p : Int) ∧ (p : Int) ≤ ((p + k : Nat) : Int) then some (p : Int).toNat else none := rfl
      rw [this, if_pos ⟨by omega, by omega⟩]
      simp
    unfold boundsA
    simp only [b1, b2]
  rw [e, e2]
  refine ⟨cutCap (l.map byteA).length (p + k) p c none, ?_⟩
  simp only [List.map_take, List.map_drop, Nat.add_sub_cancel_left]

/-- what Raw takes -/
theorem rraw_ok {st : ASt} {s : Nat} {v : AVal} {l : List UInt8} {p k : Nat} (h : RAt st s v l p 0) (hk : p + k ≤ l.length) (hl : l.length ≤ 1000000) :
    ∃ r st', RetN E 1 42 [.ptr s 0, .lit (.int .i64 k)] st r st' ∧ IsB r ((l.drop p).take k) ∧ RAt st' s v l (p + k) 0 ∧ st.ctr ≤ st'.ctr ∧ (∀ j, j < st.ctr → j ≠ s → st'.heap j = st.heap j) := by
  obtain ⟨c, hv⟩ := h.2.2
  have h2 := rset_at h (p + k) 0
  obtain ⟨c', hsl⟩ := slice_is (c := c) hk
  rw [← hv] at hsl
  have hb0 : ∀ st, buildSliceA E.P false 24 0 [] st = some (.islice 1 [] .exact, st) := fun _ => rfl
  have hsrc : srcA E.P 5 24 false 1 (rset st s v (p + k) 0) (.islice 1 (((l.drop p).take k).map byteA) c') = some (((l.drop p).take k).map byteA) := src_b (.inl ⟨_, rfl⟩) _
  have hp : ∃ r st', appendA E.P false 24 24 (.islice 1 [] .exact) (.islice 1 (((l.drop p).take k).map byteA) c') (rset st s v (p + k) 0) = some (r, st') ∧ IsB r ((l.drop p).take k) ∧ Gr (rset st s v (p + k) 0) st' := by
    by_cases he : (l.drop p).take k = []
    · rw [he] at hsrc ⊢
      exact ⟨_, _, app_none byteT hsrc (.inr ⟨_, _, rfl⟩), .inl ⟨_, rfl⟩, Gr.refl _⟩
    · refine ⟨_, _, app_exact byteT rfl hsrc (by simpa using he) (by simp; omega), .inl ⟨_, by simp; rfl⟩, Gr.new _ _⟩
  obtain ⟨r, st', ea, hr, hg⟩ := hp
  refine ⟨r, st', RetN.of (n := 0 + 1) ?_, hr, ⟨Nat.lt_of_lt_of_le h2.1 hg.1, by rw [hg.2 s h2.1]; exact h2.2.1, h2.2.2⟩, hg.1, fun j hj hne => ?_⟩
  · rw [run_code (fn := Try.f42) rfl rfl]
    have hh : ∀ t, E.hint 42 t = false := fun _ => rfl
    have hdr1 : drawB E 42 ((code Try.f42).snd.fst.fst.ops) = true := by kernel_rfl
    have hdr2 : drawB E 42 ((code Try.f42).snd.snd.snd.snd.fst.ops) = true := by kernel_rfl
    simp only [code, Try.f42, Option.getD_some, Code.fst, Code.snd, Code.inn, Code.ops] at hdr1 hdr2
    obtain ⟨ts, et, t0, t1, tl⟩ : ∃ ts : List AVal, ([AVal.ptr s 0, .lit (.int .i64 k)] ++ List.replicate (Try.f42.ntmps - [AVal.ptr s 0, .lit (.int .i64 k)].length) .undef) = ts ∧ ts[0]? = some (.ptr s 0) ∧ ts[1]? = some (.lit (.int .i64 k)) ∧ ts.length = 60 := ⟨_, rfl, rfl, rfl, rfl⟩
    rw [et]
    obtain ⟨f0, f1, f2⟩ := fld84 s
    obtain ⟨l0, l1, l2⟩ := ld_r h
    obtain ⟨m0, m1, m2⟩ := ld_r h2
    have q1 : decide ((k : Int) < 0) = false := by rw [decide_eq_false_iff_not]; omega
    have q2 : IntKind.i64.wrap ((l.length : Int) - (p : Int)) = ((l.length - p : Nat) : Int) := by
      simp [IntKind.wrap, IntKind.bits, IntKind.signed]; omega
    have q3 : decide ((k : Int) > ((l.length - p : Nat) : Int)) = false := by rw [decide_eq_false_iff_not]; omega
    have q4 : (((0 : Nat) : Int) == 0) = true := rfl
    have q5 : (((0 : Nat) : Int) != 0) = false := rfl
    have q6 : IntKind.i64.wrap ((p : Int) + (k : Int)) = ((p + k : Nat) : Int) := by
      simp [IntKind.wrap, IntKind.bits, IntKind.signed]; omega
    have q7 : IntKind.i64.wrap (((p + k : Nat) : Int) - (k : Int)) = ((p : Nat) : Int) := by
      simp [IntKind.wrap, IntKind.bits, IntKind.signed]; omega
    have hsl' : ∀ w, v = w → sliceA E.P 24 w (some (.lit (.int .i64 p))) (some (.lit (.int .i64 (p + k : Nat)))) none = some (.islice 1 (((l.drop p).take k).map byteA) c') := fun w e => by rw [← e]; exact hsl
    subst hv
    simp only [code, Try.f42, Option.getD_some, aexec, aops, aop, Region.wanted, ayielded, aexecOp, aeval, aput, aseq, ablock, ahint, absOf, flat, nilCheckA, ANext.ofP, evals, evalPs, evalO, aresults, aresults1, aresult, aend, List.getElem?_set, List.length_set, Option.map_some, Option.bind_some, if_true, if_false, ↓reduceIte, Nat.reduceLT, Nat.reduceEqDiff, reduceCtorEq, Bool.false_eq_true, false_and, and_false, and_true, true_and, Nat.reduceAdd, Nat.reduceLeDiff, callA, List.getElem?_toArray, List.getElem?_cons_succ, List.getElem?_cons_zero, sb1, sb2, sb3, sb4, t0, t1, tl, hh, hdr1, hdr2, f0, f1, f2, l0, l1, l2, b_eql, q4, b_lss, q1, len_b (.inl ⟨c, rfl⟩ : IsB (.islice 1 (l.map byteA) c) l), b_sub, q2, b_gtr, q3, b_neq, q5, b_add, q6, (st_r h (p + k)).1, m0, m1, m2, q7, hb0, hsl, b_app, ea]
  · rw [hg.2 j hj]; unfold rset; rw [ASt.set_ne _ _ _ _ hne]

end Go.Proofs.YtjpehemkgikkdaaV
