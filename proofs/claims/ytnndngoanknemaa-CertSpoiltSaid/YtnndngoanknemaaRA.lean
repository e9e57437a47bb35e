/- A reader's contracts: At, Err, Left, fail. No condition. -/
import Derived.Test.YtnndngoanknemaaVC
import Derived.Test.YtnndngoanknemaaAD
namespace Go.Proofs.YtnndngoanknemaaV
open Go Go.RowKit Go.Proofs.YtnndngoanknemaaA
set_option linter.unusedVariables false
set_option linter.unusedSimpArgs false
set_option maxRecDepth 100000

theorem fld84 (s : Nat) : fieldA E.P 79 (.ptr s 0) 0 = some (.ptr s 0) ∧ fieldA E.P 79 (.ptr s 0) 1 = some (.ptr s 1) ∧ fieldA E.P 79 (.ptr s 0) 2 = some (.ptr s 2) := ⟨rfl, rfl, rfl⟩

theorem ld_r {st : ASt} {s : Nat} {v : AVal} {l : List UInt8} {p e : Nat} (h : RAt st s v l p e) : loadA E.P 28 st (.ptr s 0) = some v ∧ loadA E.P 3 st (.ptr s 1) = some (.lit (.int .i64 p)) ∧ loadA E.P 40 st (.ptr s 2) = some (.lit (.int .i64 e)) := by
  have a0 : loadA E.P 28 st (.ptr s 0) = (match st.heap s with | some (.cells cs) => cs[0]? | _ => none) := rfl
  have a1 : loadA E.P 3 st (.ptr s 1) = (match st.heap s with | some (.cells cs) => cs[1]? | _ => none) := rfl
  have a2 : loadA E.P 40 st (.ptr s 2) = (match st.heap s with | some (.cells cs) => cs[2]? | _ => none) := rfl
  rw [a0, a1, a2, h.2.1]
  exact ⟨rfl, rfl, rfl⟩

/-- the state behind a reader's numbers set -/
def rset (st : ASt) (s : Nat) (v : AVal) (p e : Nat) : ASt := st.set s (some (.cells [v, .lit (.int .i64 p), .lit (.int .i64 e)]))

theorem rset_at {st : ASt} {s : Nat} {v : AVal} {l : List UInt8} {p e : Nat} (h : RAt st s v l p e) (p' e' : Nat) : RAt (rset st s v p' e') s v l p' e' :=
  ⟨h.1, by simp [rset, ASt.set], h.2.2⟩

theorem st_r {st : ASt} {s : Nat} {v : AVal} {l : List UInt8} {p e : Nat} (h : RAt st s v l p e) (n : Nat) :
    storeA E.P 3 st (.ptr s 1) (.lit (.int .i64 n)) = some (rset st s v n e) ∧ storeA E.P 40 st (.ptr s 2) (.lit (.int .i64 n)) = some (rset st s v p n) := by
  have a1 : storeA E.P 3 st (.ptr s 1) (.lit (.int .i64 n)) = (match st.heap s with | some (.cells cs) => if some 1 = some 1 ∧ 1 + 1 ≤ cs.length ∧ true = true then some (st.set s (some (.cells (cs.set 1 (.lit (.int .i64 n)))))) else none | _ => none) := rfl
  have a2 : storeA E.P 40 st (.ptr s 2) (.lit (.int .i64 n)) = (match st.heap s with | some (.cells cs) => if some 1 = some 1 ∧ 2 + 1 ≤ cs.length ∧ true = true then some (st.set s (some (.cells (cs.set 2 (.lit (.int .i64 n)))))) else none | _ => none) := rfl
  rw [a1, a2, h.2.1]
  exact ⟨rfl, rfl⟩

theorem at_run {st : ASt} {s : Nat} {v : AVal} {l : List UInt8} {p e : Nat} (h : RAt st s v l p e) : RetN E 1 31 [.ptr s 0] st (.lit (.int .i64 p)) st := by
  refine RetN.of (n := 0 + 1) ?_
  rw [run_code (fn := Try.f31) rfl rfl]
  have hh : ∀ t, E.hint 31 t = false := fun _ => rfl
  obtain ⟨ts, et, t0, tl⟩ : ∃ ts : List AVal, ([AVal.ptr s 0] ++ List.replicate (Try.f31.ntmps - [AVal.ptr s 0].length) .undef) = ts ∧ ts[0]? = some (.ptr s 0) ∧ ts.length = 7 := ⟨_, rfl, rfl, rfl⟩
  rw [et]
  simp only [code, Try.f31, Option.getD_some, aexec, aops, aop, Region.wanted, ayielded, aexecOp, aeval, aput, aseq, ablock, ahint, absOf, flat, nilCheckA, ANext.ofP, evals, evalPs, evalO, aresults, aresults1, aresult, aend, List.getElem?_set, List.length_set, Option.map_some, Option.bind_some, if_true, if_false, ↓reduceIte, Nat.reduceLT, Nat.reduceEqDiff, reduceCtorEq, Bool.false_eq_true, false_and, and_false, and_true, true_and, Nat.reduceAdd, Nat.reduceLeDiff, callA, List.getElem?_toArray, List.getElem?_cons_succ, List.getElem?_cons_zero, sb1, sb2, sb3, sb4, sliceU_i, sliceU_s, sliceU_p, sliceU_l, evalV, t0, tl, hh, (fld84 s).2.1, (ld_r h).2.1]

theorem err_run {st : ASt} {s : Nat} {v : AVal} {l : List UInt8} {p e : Nat} (h : RAt st s v l p e) : RetN E 1 42 [.ptr s 0] st (.lit (.int .i64 e)) st := by
  refine RetN.of (n := 0 + 1) ?_
  rw [run_code (fn := Try.f42) rfl rfl]
  have hh : ∀ t, E.hint 42 t = false := fun _ => rfl
  obtain ⟨ts, et, t0, tl⟩ : ∃ ts : List AVal, ([AVal.ptr s 0] ++ List.replicate (Try.f42.ntmps - [AVal.ptr s 0].length) .undef) = ts ∧ ts[0]? = some (.ptr s 0) ∧ ts.length = 7 := ⟨_, rfl, rfl, rfl⟩
  rw [et]
  simp only [code, Try.f42, Option.getD_some, aexec, aops, aop, Region.wanted, ayielded, aexecOp, aeval, aput, aseq, ablock, ahint, absOf, flat, nilCheckA, ANext.ofP, evals, evalPs, evalO, aresults, aresults1, aresult, aend, List.getElem?_set, List.length_set, Option.map_some, Option.bind_some, if_true, if_false, ↓reduceIte, Nat.reduceLT, Nat.reduceEqDiff, reduceCtorEq, Bool.false_eq_true, false_and, and_false, and_true, true_and, Nat.reduceAdd, Nat.reduceLeDiff, callA, List.getElem?_toArray, List.getElem?_cons_succ, List.getElem?_cons_zero, sb1, sb2, sb3, sb4, sliceU_i, sliceU_s, sliceU_p, sliceU_l, evalV, t0, tl, hh, (fld84 s).2.2, (ld_r h).2.2]

theorem left_run {st : ASt} {s : Nat} {v : AVal} {l : List UInt8} {p e : Nat} (h : RAt st s v l p e) (hp : p ≤ l.length) (hl : l.length ≤ 1000000) : RetN E 1 32 [.ptr s 0] st (.lit (.int .i64 (l.length - p : Nat))) st := by
  refine RetN.of (n := 0 + 1) ?_
  rw [run_code (fn := Try.f32) rfl rfl]
  have hh : ∀ t, E.hint 32 t = false := fun _ => rfl
  have hdr : drawB E 32 ((code Try.f32).snd.fst.ops) = true := by kernel_rfl
  simp only [code, Try.f32, Option.getD_some, Code.fst, Code.snd, Code.inn, Code.ops] at hdr
  have hw : IntKind.i64.wrap ((l.length : Int) - (p : Int)) = ((l.length - p : Nat) : Int) := by
    simp [IntKind.wrap, IntKind.bits, IntKind.signed]; omega
  obtain ⟨ts, et, t0, tl⟩ : ∃ ts : List AVal, ([AVal.ptr s 0] ++ List.replicate (Try.f32.ntmps - [AVal.ptr s 0].length) .undef) = ts ∧ ts[0]? = some (.ptr s 0) ∧ ts.length = 13 := ⟨_, rfl, rfl, rfl⟩
  rw [et]
  simp only [code, Try.f32, Option.getD_some, aexec, aops, aop, Region.wanted, ayielded, aexecOp, aeval, aput, aseq, ablock, ahint, absOf, flat, nilCheckA, ANext.ofP, evals, evalPs, evalO, aresults, aresults1, aresult, aend, List.getElem?_set, List.length_set, Option.map_some, Option.bind_some, if_true, if_false, ↓reduceIte, Nat.reduceLT, Nat.reduceEqDiff, reduceCtorEq, Bool.false_eq_true, false_and, and_false, and_true, true_and, Nat.reduceAdd, Nat.reduceLeDiff, callA, List.getElem?_toArray, List.getElem?_cons_succ, List.getElem?_cons_zero, sb1, sb2, sb3, sb4, sliceU_i, sliceU_s, sliceU_p, sliceU_l, evalV, t0, tl, hh, hdr, (fld84 s).1, (fld84 s).2.1, (ld_r h).1, (ld_r h).2.1, len_b (.inl h.2.2), b_sub, hw]

theorem fail_run {st : ASt} {s : Nat} {v : AVal} {l : List UInt8} {p e f : Nat} (h : RAt st s v l p e) : RetN E 1 40 [.ptr s 0, .lit (.int .i64 f)] st (.tuple []) (if e = 0 then rset st s v p f else st) := by
  refine RetN.of (n := 0 + 1) ?_
  rw [run_code (fn := Try.f40) rfl rfl]
  have hh : ∀ t, E.hint 40 t = false := fun _ => rfl
  obtain ⟨ts, et, t0, t1, tl⟩ : ∃ ts : List AVal, ([AVal.ptr s 0, .lit (.int .i64 f)] ++ List.replicate (Try.f40.ntmps - [AVal.ptr s 0, .lit (.int .i64 f)].length) .undef) = ts ∧ ts[0]? = some (.ptr s 0) ∧ ts[1]? = some (.lit (.int .i64 f)) ∧ ts.length = 13 := ⟨_, rfl, rfl, rfl, rfl⟩
  rw [et]
  by_cases he : e = 0
  · have hd : (((e : Nat) : Int) == 0) = true := by subst he; rfl
    rw [if_pos he]
    simp only [code, Try.f40, Option.getD_some, aexec, aops, aop, Region.wanted, ayielded, aexecOp, aeval, aput, aseq, ablock, ahint, absOf, flat, nilCheckA, ANext.ofP, evals, evalPs, evalO, aresults, aresults1, aresult, aend, List.getElem?_set, List.length_set, Option.map_some, Option.bind_some, if_true, if_false, ↓reduceIte, Nat.reduceLT, Nat.reduceEqDiff, reduceCtorEq, Bool.false_eq_true, false_and, and_false, and_true, true_and, Nat.reduceAdd, Nat.reduceLeDiff, callA, List.getElem?_toArray, List.getElem?_cons_succ, List.getElem?_cons_zero, sb1, sb2, sb3, sb4, sliceU_i, sliceU_s, sliceU_p, sliceU_l, evalV, t0, t1, tl, hh, (fld84 s).2.2, (ld_r h).2.2, b_eql, hd, (st_r h f).2]
  · have hd : (((e : Nat) : Int) == 0) = false := by rw [beq_eq_false_iff_ne]; omega
    rw [if_neg he]
    simp only [code, Try.f40, Option.getD_some, aexec, aops, aop, Region.wanted, ayielded, aexecOp, aeval, aput, aseq, ablock, ahint, absOf, flat, nilCheckA, ANext.ofP, evals, evalPs, evalO, aresults, aresults1, aresult, aend, List.getElem?_set, List.length_set, Option.map_some, Option.bind_some, if_true, if_false, ↓reduceIte, Nat.reduceLT, Nat.reduceEqDiff, reduceCtorEq, Bool.false_eq_true, false_and, and_false, and_true, true_and, Nat.reduceAdd, Nat.reduceLeDiff, callA, List.getElem?_toArray, List.getElem?_cons_succ, List.getElem?_cons_zero, sb1, sb2, sb3, sb4, sliceU_i, sliceU_s, sliceU_p, sliceU_l, evalV, t0, t1, tl, hh, (fld84 s).2.2, (ld_r h).2.2, b_eql, hd]

end Go.Proofs.YtnndngoanknemaaV

/- A reader's Raw. No condition. -/
namespace Go.Proofs.YtnndngoanknemaaV
open Go Go.RowKit Go.Proofs.YtnndngoanknemaaA
set_option linter.unusedVariables false
set_option linter.unusedSimpArgs false
set_option maxRecDepth 100000

theorem slice_is {l : List UInt8} {c : Cap} {p k : Nat} (h : p + k ≤ l.length) : ∃ c', sliceA E.P 28 (.islice 1 (l.map byteA) c) (some (.lit (.int .i64 p))) (some (.lit (.int .i64 (p + k : Nat)))) none = some (.islice 1 (((l.drop p).take k).map byteA) c') := by
  have e : sliceA E.P 28 (.islice 1 (l.map byteA) c) (some (.lit (.int .i64 p))) (some (.lit (.int .i64 (p + k : Nat)))) none = (match boundsA (l.map byteA).length (l.map byteA).length (some (.lit (.int .i64 p))) (some (.lit (.int .i64 (p + k : Nat)))) none with
        | some (lo, h, m) => some (.islice 1 (((l.map byteA).drop lo).take (h - lo)) (cutCap (l.map byteA).length h lo c m))
        | none => none) := rfl
  have e2 : boundsA (l.map byteA).length (l.map byteA).length (some (.lit (.int .i64 p))) (some (.lit (.int .i64 (p + k : Nat)))) none = some (p, p + k, none) := by
    have hl : (l.map byteA).length = l.length := by simp
    have b1 : boundA (some (.lit (.int .i64 (p + k : Nat)))) (l.map byteA).length (l.map byteA).length = some (p + k) := by
      have : boundA (some (.lit (.int .i64 (p + k : Nat)))) (l.map byteA).length (l.map byteA).length = if 0 ≤ ((p + k : Nat) : Int) ∧ ((p + k : Nat) : Int) ≤ (l.map byteA).length then some ((p + k : Nat) : Int).toNat else none := rfl
      rw [this, if_pos ⟨by omega, by rw [hl]; omega⟩, Int.toNat_natCast]
    have b2 : boundA (some (.lit (.int .i64 p))) 0 (p + k) = some p := by
      have : boundA (some (.lit (.int .i64 p))) 0 (p + k) = if 0 ≤ (p : Int) ∧ (p : Int) ≤ ((p + k : Nat) : Int) then some (p : Int).toNat else none := rfl
      rw [this, if_pos ⟨by omega, by omega⟩]
      simp
    unfold boundsA
    simp only [b1, b2]
  rw [e, e2]
  refine ⟨cutCap (l.map byteA).length (p + k) p c none, ?_⟩
  simp only [List.map_take, List.map_drop, Nat.add_sub_cancel_left]

/-- what Raw takes -/
theorem rraw_ok {st : ASt} {s : Nat} {v : AVal} {l : List UInt8} {p k : Nat} (h : RAt st s v l p 0) (hk : p + k ≤ l.length) (hl : l.length ≤ 1000000) :
    ∃ r st', RetN E 1 29 [.ptr s 0, .lit (.int .i64 k)] st r st' ∧ IsB r ((l.drop p).take k) ∧ RAt st' s v l (p + k) 0 ∧ st.ctr ≤ st'.ctr ∧ (∀ j, j < st.ctr → j ≠ s → st'.heap j = st.heap j) := by
  obtain ⟨c, hv⟩ := h.2.2
  have h2 := rset_at h (p + k) 0
  obtain ⟨c', hsl⟩ := slice_is (c := c) hk
  rw [← hv] at hsl
  have hb0 : ∀ st, buildSliceA E.P false 28 0 [] st = some (.islice 1 [] .exact, st) := fun _ => rfl
  have hsrc : srcA E.P 5 28 false 1 (rset st s v (p + k) 0) (.islice 1 (((l.drop p).take k).map byteA) c') = some (((l.drop p).take k).map byteA) := src_b (.inl ⟨_, rfl⟩) _
  have hp : ∃ r st', appendA E.P false 28 28 (.islice 1 [] .exact) (.islice 1 (((l.drop p).take k).map byteA) c') (rset st s v (p + k) 0) = some (r, st') ∧ IsB r ((l.drop p).take k) ∧ Gr (rset st s v (p + k) 0) st' := by
    by_cases he : (l.drop p).take k = []
    · rw [he] at hsrc ⊢
      exact ⟨_, _, app_none byteT hsrc (.inr ⟨_, _, rfl⟩), .inl ⟨_, rfl⟩, Gr.refl _⟩
    · refine ⟨_, _, app_exact byteT rfl hsrc (by simpa using he) (by simp; omega), .inl ⟨_, by simp; rfl⟩, Gr.new _ _⟩
  obtain ⟨r, st', ea, hr, hg⟩ := hp
  refine ⟨r, st', RetN.of (n := 0 + 1) ?_, hr, ⟨Nat.lt_of_lt_of_le h2.1 hg.1, by rw [hg.2 s h2.1]; exact h2.2.1, h2.2.2⟩, hg.1, fun j hj hne => ?_⟩
  · rw [run_code (fn := Try.f29) rfl rfl]
    have hh : ∀ t, E.hint 29 t = false := fun _ => rfl
    have hdr1 : drawB E 29 ((code Try.f29).snd.fst.fst.ops) = true := by kernel_rfl
    have hdr2 : drawB E 29 ((code Try.f29).snd.snd.snd.snd.fst.ops) = true := by kernel_rfl
    simp only [code, Try.f29, Option.getD_some, Code.fst, Code.snd, Code.inn, Code.ops] at hdr1 hdr2
    obtain ⟨ts, et, t0, t1, tl⟩ : ∃ ts : List AVal, ([AVal.ptr s 0, .lit (.int .i64 k)] ++ List.replicate (Try.f29.ntmps - [AVal.ptr s 0, .lit (.int .i64 k)].length) .undef) = ts ∧ ts[0]? = some (.ptr s 0) ∧ ts[1]? = some (.lit (.int .i64 k)) ∧ ts.length = 60 := ⟨_, rfl, rfl, rfl, rfl⟩
    rw [et]
    obtain ⟨f0, f1, f2⟩ := fld84 s
    obtain ⟨l0, l1, l2⟩ := ld_r h
    obtain ⟨m0, m1, m2⟩ := ld_r h2
    have q1 : decide ((k : Int) < 0) = false := by rw [decide_eq_false_iff_not]; omega
    have q2 : IntKind.i64.wrap ((l.length : Int) - (p : Int)) = ((l.length - p : Nat) : Int) := by
      simp [IntKind.wrap, IntKind.bits, IntKind.signed]; omega
    have q3 : decide ((k : Int) > ((l.length - p : Nat) : Int)) = false := by rw [decide_eq_false_iff_not]; omega
    have q4 : (((0 : Nat) : Int) == 0) = true := rfl
    have q5 : (((0 : Nat) : Int) != 0) = false := rfl
    have q6 : IntKind.i64.wrap ((p : Int) + (k : Int)) = ((p + k : Nat) : Int) := by
      simp [IntKind.wrap, IntKind.bits, IntKind.signed]; omega
    have q7 : IntKind.i64.wrap (((p + k : Nat) : Int) - (k : Int)) = ((p : Nat) : Int) := by
      simp [IntKind.wrap, IntKind.bits, IntKind.signed]; omega
    have hsl' : ∀ w, v = w → sliceA E.P 28 w (some (.lit (.int .i64 p))) (some (.lit (.int .i64 (p + k : Nat)))) none = some (.islice 1 (((l.drop p).take k).map byteA) c') := fun w e => by rw [← e]; exact hsl
    subst hv
    simp only [code, Try.f29, Option.getD_some, aexec, aops, aop, Region.wanted, ayielded, aexecOp, aeval, aput, aseq, ablock, ahint, absOf, flat, nilCheckA, ANext.ofP, evals, evalPs, evalO, aresults, aresults1, aresult, aend, List.getElem?_set, List.length_set, Option.map_some, Option.bind_some, if_true, if_false, ↓reduceIte, Nat.reduceLT, Nat.reduceEqDiff, reduceCtorEq, Bool.false_eq_true, false_and, and_false, and_true, true_and, Nat.reduceAdd, Nat.reduceLeDiff, callA, List.getElem?_toArray, List.getElem?_cons_succ, List.getElem?_cons_zero, sb1, sb2, sb3, sb4, sliceU_i, sliceU_s, sliceU_p, sliceU_l, evalV, t0, t1, tl, hh, hdr1, hdr2, f0, f1, f2, l0, l1, l2, b_eql, q4, b_lss, q1, len_b (.inl ⟨c, rfl⟩ : IsB (.islice 1 (l.map byteA) c) l), b_sub, q2, b_gtr, q3, b_neq, q5, b_add, q6, (st_r h (p + k)).1, m0, m1, m2, q7, hb0, hsl, b_app, ea]
  · rw [hg.2 j hj]; unfold rset; rw [ASt.set_ne _ _ _ _ hne]

end Go.Proofs.YtnndngoanknemaaV

/- A reader's Num: its plain form, and its parts. No condition. -/
namespace Go.Proofs.YtnndngoanknemaaV
open Go Go.RowKit Go.Proofs.YtnndngoanknemaaA
set_option linter.unusedVariables false
set_option linter.unusedSimpArgs false
set_option maxRecDepth 100000

/-- what a number's reading comes to: an error, or the number and how many bytes -/
def rd : List UInt8 → Nat → Nat → Nat → Nat ⊕ (Nat × Nat)
  | [], sh, n, k => .inl 3
  | c :: r, sh, n, k => if (sh = 63 ∧ 1 < c.toNat) ∨ (0 < sh ∧ c.toNat = 0) then .inl 1
      else if 128 ≤ c.toNat then rd r (sh + 7) (n ||| (c.toNat &&& 127) * 2 ^ sh) (k + 1) else .inr (n ||| (c.toNat &&& 127) * 2 ^ sh, k + 1)

noncomputable def nuScope : Code := (code Try.f41).snd.inn
noncomputable def nuPre : Code := .seq nuScope.fst nuScope.snd.fst
noncomputable def nuRest : Code := nuScope.snd.snd.snd

theorem nu_eq : code Try.f41 = .seq (code Try.f41).fst (.scope nuScope) := rfl
theorem nu_scope : nuScope = .seq nuScope.fst (.seq nuScope.snd.fst (.seq (.label 0) nuRest)) := rfl
theorem nu_label : ∃ rest, findLabel nuScope 0 = some rest := ⟨_, rfl⟩
theorem nu_from (call : ACall) (dr : Array Oper → Bool) (n : Nat) (ts : List AVal) (st : ASt) : afrom E 41 call dr n 0 nuScope ts st = aexec E 41 call dr n nuRest ts st := by
  rw [nu_scope]
  have e1 : findLabel nuScope.fst 0 = none := rfl
  have e2 : findLabel nuScope.snd.fst 0 = none := rfl
  have e3 : findLabel (.label 0) 0 = some .skip := rfl
  rw [afrom]
  simp only [e1]
  rw [afrom]
  simp only [e2]
  rw [afrom]
  simp only [e3]
  rw [afrom]
  simp only [if_true, aseq]

end Go.Proofs.YtnndngoanknemaaV

/- A reader's Num: one round. No condition. -/
namespace Go.Proofs.YtnndngoanknemaaV
open Go Go.RowKit Go.Proofs.YtnndngoanknemaaA
set_option linter.unusedVariables false
set_option linter.unusedSimpArgs false
set_option maxRecDepth 100000

theorem sbn : ((none : Option Bool) == some true) = false := rfl
theorem sbn' : ((none : Option Bool) == some false) = false := rfl

theorem cf46 (a : List AVal) (st : ASt) : callFuncA E.P 40 a st = some (.enter 40 a st) := rfl

structure NuI (v : AVal) (l : List UInt8) (p s i sh n : Nat) (ts : List AVal) (st : ASt) : Prop where
  r : RAt st s v l p 0
  il : i ≤ l.length
  n64 : n < 2 ^ 64
  t0 : ts[0]? = some (.ptr s 0)
  t3 : ts[3]? = some (.lit (.int .u64 n))
  t4 : ts[4]? = some (.lit (.int .i64 sh))
  t5 : ts[5]? = some (.lit (.int .i64 i))
  tl : ts.length = 66

theorem nu_short (N m : Nat) (hN : 1 ≤ N) (dr : Array Oper → Bool) {v : AVal} {l : List UInt8} {p s i sh n : Nat} {ts : List AVal} {st : ASt} (h : NuI v l p s i sh n ts st) (hi : i = l.length) :
    ∃ ts', aexec E 41 (run E N) dr m nuRest ts st = some (.ret, ts', rset st s v p 3) ∧ ts'[2]? = some (.lit (.int .u64 (0 : Nat))) := by
  obtain ⟨r, il, n64, t0, t3, t4, t5, tl⟩ := h
  have hh : ∀ t, E.hint 41 t = false := fun _ => rfl
  have c1 := fail_run (f := 3) r N hN
  rw [if_pos rfl] at c1
  have hd : (((i : Nat) : Int) == ((l.length : Nat) : Int)) = true := by rw [hi]; exact beq_self_eq_true _
  have c1' : run E N 40 [.ptr s 0, .lit (.int .i64 3)] st = some (.returned (.tuple []), rset st s v p 3) := c1
  simp only [nuRest, nuScope, code, Try.f41, Option.getD_some, Code.fst, Code.snd, Code.inn, aexec, aops, aop, Region.wanted, ayielded, aexecOp, aeval, aput, aseq, ablock, ahint, absOf, flat, nilCheckA, ANext.ofP, evals, evalPs, evalO, aresults, aresults1, aresult, aend, List.getElem?_set, List.length_set, Option.map_some, Option.bind_some, if_true, if_false, ↓reduceIte, Nat.reduceLT, Nat.reduceEqDiff, reduceCtorEq, Bool.false_eq_true, false_and, and_false, and_true, true_and, Nat.reduceAdd, Nat.reduceLeDiff, callA, List.getElem?_toArray, List.getElem?_cons_succ, List.getElem?_cons_zero, sb1, sb2, sb3, sb4, sliceU_i, sliceU_s, sliceU_p, sliceU_l, evalV, t0, t3, t4, t5, tl, hh, (fld84 s).1, (ld_r r).1, len_b (.inl r.2.2), b_eql, hd, cf46, c1']
  exact ⟨_, rfl, by simp only [List.getElem?_set, List.length_set, Nat.reduceLT, Nat.reduceEqDiff, ↓reduceIte, reduceCtorEq, *]; rfl⟩

set_option maxHeartbeats 1000000 in
theorem nu_bad (N m : Nat) (hN : 1 ≤ N) (dr : Array Oper → Bool) {v : AVal} {l : List UInt8} {p s i sh n : Nat} {ts : List AVal} {st : ASt} (h : NuI v l p s i sh n ts st) (hi : i < l.length)
    (hb : (sh = 63 ∧ 1 < l[i].toNat) ∨ (0 < sh ∧ l[i].toNat = 0)) :
    ∃ ts', aexec E 41 (run E N) dr m nuRest ts st = some (.ret, ts', rset st s v p 1) ∧ ts'[2]? = some (.lit (.int .u64 (0 : Nat))) := by
  obtain ⟨r, il, n64, t0, t3, t4, t5, tl⟩ := h
  have hh : ∀ t, E.hint 41 t = false := fun _ => rfl
  obtain ⟨w35, x35⟩ : ∃ w, ts[35]? = some w := ⟨_, List.getElem?_eq_getElem (by omega)⟩
  obtain ⟨w36, x36⟩ : ∃ w, ts[36]? = some w := ⟨_, List.getElem?_eq_getElem (by omega)⟩
  obtain ⟨w39, x39⟩ : ∃ w, ts[39]? = some w := ⟨_, List.getElem?_eq_getElem (by omega)⟩
  obtain ⟨w40, x40⟩ : ∃ w, ts[40]? = some w := ⟨_, List.getElem?_eq_getElem (by omega)⟩
  obtain ⟨w41, x41⟩ : ∃ w, ts[41]? = some w := ⟨_, List.getElem?_eq_getElem (by omega)⟩
  obtain ⟨w42, x42⟩ : ∃ w, ts[42]? = some w := ⟨_, List.getElem?_eq_getElem (by omega)⟩
  obtain ⟨w43, x43⟩ : ∃ w, ts[43]? = some w := ⟨_, List.getElem?_eq_getElem (by omega)⟩
  obtain ⟨w44, x44⟩ : ∃ w, ts[44]? = some w := ⟨_, List.getElem?_eq_getElem (by omega)⟩
  have c1 := fail_run (f := 1) r N hN
  rw [if_pos rfl] at c1
  have hd : (((i : Nat) : Int) == ((l.length : Nat) : Int)) = false := by rw [beq_eq_false_iff_ne]; omega
  have c1' : run E N 40 [.ptr s 0, .lit (.int .i64 1)] st = some (.returned (.tuple []), rset st s v p 1) := c1
  obtain ⟨p1, i1, i2⟩ := bs_idx (st := st) (.inl (.inl r.2.2)) hi
  unfold byteA at i2
  cases b1 : (((sh : Nat) : Int) == 63) with
  | true =>
    have hsh : sh = 63 := by have := eq_of_beq b1; omega
    cases b2 : decide (((l[i].toNat : Nat) : Int) > 1) with
    | true =>
      simp only [AVal.undef, sbn, sbn', nuRest, nuScope, code, Try.f41, Option.getD_some, Code.fst, Code.snd, Code.inn, aexec, aops, aop, Region.wanted, ayielded, aexecOp, aeval, aput, aseq, ablock, ahint, absOf, flat, nilCheckA, ANext.ofP, evals, evalPs, evalO, aresults, aresults1, aresult, aend, List.getElem?_set, List.length_set, Option.map_some, Option.bind_some, if_true, if_false, ↓reduceIte, Nat.reduceLT, Nat.reduceEqDiff, reduceCtorEq, Bool.false_eq_true, false_and, and_false, and_true, true_and, Nat.reduceAdd, Nat.reduceLeDiff, callA, List.getElem?_toArray, List.getElem?_cons_succ, List.getElem?_cons_zero, sb1, sb2, sb3, sb4, sliceU_i, sliceU_s, sliceU_p, sliceU_l, evalV, t0, t3, t4, t5, tl, x35, x36, x39, x40, x41, x42, x43, x44, hh, (fld84 s).1, (ld_r r).1, len_b (.inl r.2.2), b_eql, hd, cf46, c1', i1, i2, b1, b_gtr, b2]
      exact ⟨_, rfl, by simp only [List.getElem?_set, List.length_set, Nat.reduceLT, Nat.reduceEqDiff, ↓reduceIte, reduceCtorEq, *]; rfl⟩
    | false =>
      have b3 : decide (((sh : Nat) : Int) > 0) = true := by rw [decide_eq_true_eq]; omega
      have b4 : (((l[i].toNat : Nat) : Int) == 0) = true := by
        rw [decide_eq_false_iff_not] at b2
        rcases hb with ⟨_, h1⟩ | ⟨_, h1⟩
        · omega
        · rw [h1]; rfl
      simp only [AVal.undef, sbn, sbn', nuRest, nuScope, code, Try.f41, Option.getD_some, Code.fst, Code.snd, Code.inn, aexec, aops, aop, Region.wanted, ayielded, aexecOp, aeval, aput, aseq, ablock, ahint, absOf, flat, nilCheckA, ANext.ofP, evals, evalPs, evalO, aresults, aresults1, aresult, aend, List.getElem?_set, List.length_set, Option.map_some, Option.bind_some, if_true, if_false, ↓reduceIte, Nat.reduceLT, Nat.reduceEqDiff, reduceCtorEq, Bool.false_eq_true, false_and, and_false, and_true, true_and, Nat.reduceAdd, Nat.reduceLeDiff, callA, List.getElem?_toArray, List.getElem?_cons_succ, List.getElem?_cons_zero, sb1, sb2, sb3, sb4, sliceU_i, sliceU_s, sliceU_p, sliceU_l, evalV, t0, t3, t4, t5, tl, x35, x36, x39, x40, x41, x42, x43, x44, hh, (fld84 s).1, (ld_r r).1, len_b (.inl r.2.2), b_eql, hd, cf46, c1', i1, i2, b1, b_gtr, b2, b3, b4]
      exact ⟨_, rfl, by simp only [List.getElem?_set, List.length_set, Nat.reduceLT, Nat.reduceEqDiff, ↓reduceIte, reduceCtorEq, *]; rfl⟩
  | false =>
    have hsh : sh ≠ 63 := by rw [beq_eq_false_iff_ne] at b1; omega
    have h2 : 0 < sh ∧ l[i].toNat = 0 := by
      rcases hb with ⟨h1, _⟩ | h1
      · exact absurd h1 hsh
      · exact h1
    have b3 : decide (((sh : Nat) : Int) > 0) = true := by rw [decide_eq_true_eq]; omega
    have b4 : (((l[i].toNat : Nat) : Int) == 0) = true := by rw [h2.2]; rfl
    simp only [AVal.undef, sbn, sbn', nuRest, nuScope, code, Try.f41, Option.getD_some, Code.fst, Code.snd, Code.inn, aexec, aops, aop, Region.wanted, ayielded, aexecOp, aeval, aput, aseq, ablock, ahint, absOf, flat, nilCheckA, ANext.ofP, evals, evalPs, evalO, aresults, aresults1, aresult, aend, List.getElem?_set, List.length_set, Option.map_some, Option.bind_some, if_true, if_false, ↓reduceIte, Nat.reduceLT, Nat.reduceEqDiff, reduceCtorEq, Bool.false_eq_true, false_and, and_false, and_true, true_and, Nat.reduceAdd, Nat.reduceLeDiff, callA, List.getElem?_toArray, List.getElem?_cons_succ, List.getElem?_cons_zero, sb1, sb2, sb3, sb4, sliceU_i, sliceU_s, sliceU_p, sliceU_l, evalV, t0, t3, t4, t5, tl, x35, x36, x39, x40, x41, x42, x43, x44, hh, (fld84 s).1, (ld_r r).1, len_b (.inl r.2.2), b_eql, hd, cf46, c1', i1, i2, b1, b_gtr, b3, b4]
    exact ⟨_, rfl, by simp only [List.getElem?_set, List.length_set, Nat.reduceLT, Nat.reduceEqDiff, ↓reduceIte, reduceCtorEq, *]; rfl⟩

end Go.Proofs.YtnndngoanknemaaV

/- A reader's Num: the round that goes on, or ends. No condition. -/
namespace Go.Proofs.YtnndngoanknemaaV
open Go Go.RowKit Go.Proofs.YtnndngoanknemaaA
set_option linter.unusedVariables false
set_option linter.unusedSimpArgs false
set_option maxRecDepth 100000

/-- the number, a byte further -/
def nuN (n sh : Nat) (c : UInt8) : Nat := n ||| (c.toNat &&& 127) * 2 ^ sh

theorem c_mul_lt {sh : Nat} {c : UInt8} (hs : sh ≤ 63) (h63 : sh = 63 → c.toNat ≤ 1) (h56 : sh ≠ 63 → sh ≤ 56) : (c.toNat &&& 127) * 2 ^ sh < 2 ^ 64 := by
  by_cases e : sh = 63
  · have h1 : c.toNat &&& 127 ≤ c.toNat := Nat.and_le_left
    have := h63 e
    subst e
    have : (c.toNat &&& 127) ≤ 1 := by omega
    calc (c.toNat &&& 127) * 2 ^ 63 ≤ 1 * 2 ^ 63 := Nat.mul_le_mul_right _ this
      _ < 2 ^ 64 := by decide
  · have h1 : c.toNat &&& 127 ≤ 127 := Nat.and_le_right
    calc (c.toNat &&& 127) * 2 ^ sh ≤ 127 * 2 ^ 56 := Nat.mul_le_mul h1 (Nat.pow_le_pow_right (by decide) (h56 e))
      _ < 2 ^ 64 := by decide

theorem nuN_lt {n sh : Nat} {c : UInt8} (hn : n < 2 ^ 64) (h : (c.toNat &&& 127) * 2 ^ sh < 2 ^ 64) : nuN n sh c < 2 ^ 64 := Nat.or_lt_two_pow hn h

set_option maxHeartbeats 1000000 in
theorem nu_go (N m : Nat) (hN : 1 ≤ N) (dr : Array Oper → Bool) {v : AVal} {l : List UInt8} {p s i sh n : Nat} {ts : List AVal} {st : ASt} (h : NuI v l p s i sh n ts st) (hi : i < l.length) (hll : l.length ≤ 1000000) (hb : ¬ ((sh = 63 ∧ 1 < l[i].toNat) ∨ (0 < sh ∧ l[i].toNat = 0))) (hs : sh ≤ 63) (h56 : sh ≠ 63 → sh ≤ 56) (hc : 128 ≤ l[i].toNat) :
    ∃ ts', aexec E 41 (run E N) dr m nuRest ts st = some (.goto 0, ts', st) ∧ NuI v l p s (i + 1) (sh + 7) (nuN n sh l[i]) ts' st := by
  obtain ⟨r, il, n64, t0, t3, t4, t5, tl⟩ := h
  have hh : ∀ t, E.hint 41 t = false := fun _ => rfl
  obtain ⟨w35, x35⟩ : ∃ w, ts[35]? = some w := ⟨_, List.getElem?_eq_getElem (by omega)⟩
  obtain ⟨w36, x36⟩ : ∃ w, ts[36]? = some w := ⟨_, List.getElem?_eq_getElem (by omega)⟩
  obtain ⟨w39, x39⟩ : ∃ w, ts[39]? = some w := ⟨_, List.getElem?_eq_getElem (by omega)⟩
  obtain ⟨w40, x40⟩ : ∃ w, ts[40]? = some w := ⟨_, List.getElem?_eq_getElem (by omega)⟩
  obtain ⟨w41, x41⟩ : ∃ w, ts[41]? = some w := ⟨_, List.getElem?_eq_getElem (by omega)⟩
  obtain ⟨w42, x42⟩ : ∃ w, ts[42]? = some w := ⟨_, List.getElem?_eq_getElem (by omega)⟩
  obtain ⟨w43, x43⟩ : ∃ w, ts[43]? = some w := ⟨_, List.getElem?_eq_getElem (by omega)⟩
  obtain ⟨w44, x44⟩ : ∃ w, ts[44]? = some w := ⟨_, List.getElem?_eq_getElem (by omega)⟩
  have hd : (((i : Nat) : Int) == ((l.length : Nat) : Int)) = false := by rw [beq_eq_false_iff_ne]; omega
  obtain ⟨p1, i1, i2⟩ := bs_idx (st := st) (.inl (.inl r.2.2)) hi
  unfold byteA at i2
  have h63 : sh = 63 → l[i].toNat ≤ 1 := fun e => by
    by_cases h1 : 1 < l[i].toNat
    · exact absurd (.inl ⟨e, h1⟩) hb
    · omega
  have hml := c_mul_lt hs h63 h56
  have ha := and_nat (k := .u8) rfl (a := l[i].toNat) (b := 127) (UInt8.toNat_lt _) (by decide)
  have e127 : ((127 : Nat) : Int) = 127 := rfl
  rw [e127] at ha
  have hcv := c_int (mt := false) (st := st) (k := .u8) (n := ((l[i].toNat &&& 127 : Nat) : Int)) u5 u22
  rw [wrap_u rfl (by have : l[i].toNat &&& 127 ≤ 127 := Nat.and_le_right; simp only [IntKind.bits]; omega)] at hcv
  have hsh0 : (0 : Int) ≤ (sh : Int) := by omega
  have hshl : IntKind.u64.wrap (((l[i].toNat &&& 127 : Nat) : Int) * 2 ^ min ((sh : Nat) : Int).toNat IntKind.u64.bits) = (((l[i].toNat &&& 127) * 2 ^ sh : Nat) : Int) := by
    rw [Int.toNat_natCast, show min sh IntKind.u64.bits = sh by simp only [IntKind.bits]; omega]
    have : ((l[i].toNat &&& 127 : Nat) : Int) * 2 ^ sh = (((l[i].toNat &&& 127) * 2 ^ sh : Nat) : Int) := by simp
    rw [this]
    exact wrap_u rfl hml
  have hor := or_nat (k := .u64) rfl (a := n) (b := (l[i].toNat &&& 127) * 2 ^ sh) n64 hml
  have hi1 : IntKind.i64.wrap ((i : Int) + 1) = ((i + 1 : Nat) : Int) := by
    simp [IntKind.wrap, IntKind.bits, IntKind.signed]; omega
  have hs7 : IntKind.i64.wrap ((sh : Int) + 7) = ((sh + 7 : Nat) : Int) := by
    simp [IntKind.wrap, IntKind.bits, IntKind.signed]; omega
  have hge : decide (((l[i].toNat : Nat) : Int) ≥ 128) = true := by rw [decide_eq_true_eq]; omega
  cases b1 : (((sh : Nat) : Int) == 63) with
  | true =>
    have hsh : sh = 63 := by have := eq_of_beq b1; omega
    have b2 : decide (((l[i].toNat : Nat) : Int) > 1) = false := by rw [decide_eq_false_iff_not]; have := h63 hsh; omega
    have b3 : decide (((sh : Nat) : Int) > 0) = true := by rw [decide_eq_true_eq]; omega
    have b4 : (((l[i].toNat : Nat) : Int) == 0) = false := by rw [beq_eq_false_iff_ne]; intro e; exact hb (.inr ⟨by omega, by omega⟩)
    simp only [AVal.undef, sbn, sbn', nuRest, nuScope, code, Try.f41, Option.getD_some, Code.fst, Code.snd, Code.inn, aexec, aops, aop, Region.wanted, ayielded, aexecOp, aeval, aput, aseq, ablock, ahint, absOf, flat, nilCheckA, ANext.ofP, evals, evalPs, evalO, aresults, aresults1, aresult, aend, List.getElem?_set, List.length_set, Option.map_some, Option.bind_some, if_true, if_false, ↓reduceIte, Nat.reduceLT, Nat.reduceEqDiff, reduceCtorEq, Bool.false_eq_true, false_and, and_false, and_true, true_and, Nat.reduceAdd, Nat.reduceLeDiff, callA, List.getElem?_toArray, List.getElem?_cons_succ, List.getElem?_cons_zero, sb1, sb2, sb3, sb4, sliceU_i, sliceU_s, sliceU_p, sliceU_l, evalV, t0, t3, t4, t5, tl, x35, x36, x39, x40, x41, x42, x43, x44, hh, (fld84 s).1, (fld84 s).2.1, (ld_r r).1, len_b (.inl r.2.2), b_eql, hd, i1, i2, b1, b_gtr, b_and, ha, hcv, b_shl _ _ _ _ _ _ _ _ hsh0, hshl, b_or, hor, b_add, hi1, hs7, b_geq, hge, b2, b3, b4]
    exact ⟨_, rfl, r, by omega, nuN_lt n64 hml, by simp only [List.getElem?_set, List.length_set, Nat.reduceLT, Nat.reduceEqDiff, ↓reduceIte, reduceCtorEq, *], by simp only [List.getElem?_set, List.length_set, Nat.reduceLT, Nat.reduceEqDiff, ↓reduceIte, reduceCtorEq, *]; rfl, by simp only [List.getElem?_set, List.length_set, Nat.reduceLT, Nat.reduceEqDiff, ↓reduceIte, reduceCtorEq, *], by simp only [List.getElem?_set, List.length_set, Nat.reduceLT, Nat.reduceEqDiff, ↓reduceIte, reduceCtorEq, *], by simp only [List.getElem?_set, List.length_set, Nat.reduceLT, Nat.reduceEqDiff, ↓reduceIte, reduceCtorEq, *]⟩
  | false =>
    cases b3 : decide (((sh : Nat) : Int) > 0) with
    | true =>
      have b4 : (((l[i].toNat : Nat) : Int) == 0) = false := by rw [decide_eq_true_eq] at b3; rw [beq_eq_false_iff_ne]; intro e; exact hb (.inr ⟨by omega, by omega⟩)
      simp only [AVal.undef, sbn, sbn', nuRest, nuScope, code, Try.f41, Option.getD_some, Code.fst, Code.snd, Code.inn, aexec, aops, aop, Region.wanted, ayielded, aexecOp, aeval, aput, aseq, ablock, ahint, absOf, flat, nilCheckA, ANext.ofP, evals, evalPs, evalO, aresults, aresults1, aresult, aend, List.getElem?_set, List.length_set, Option.map_some, Option.bind_some, if_true, if_false, ↓reduceIte, Nat.reduceLT, Nat.reduceEqDiff, reduceCtorEq, Bool.false_eq_true, false_and, and_false, and_true, true_and, Nat.reduceAdd, Nat.reduceLeDiff, callA, List.getElem?_toArray, List.getElem?_cons_succ, List.getElem?_cons_zero, sb1, sb2, sb3, sb4, sliceU_i, sliceU_s, sliceU_p, sliceU_l, evalV, t0, t3, t4, t5, tl, x35, x36, x39, x40, x41, x42, x43, x44, hh, (fld84 s).1, (fld84 s).2.1, (ld_r r).1, len_b (.inl r.2.2), b_eql, hd, i1, i2, b1, b_gtr, b_and, ha, hcv, b_shl _ _ _ _ _ _ _ _ hsh0, hshl, b_or, hor, b_add, hi1, hs7, b_geq, hge, b3, b4]
      exact ⟨_, rfl, r, by omega, nuN_lt n64 hml, by simp only [List.getElem?_set, List.length_set, Nat.reduceLT, Nat.reduceEqDiff, ↓reduceIte, reduceCtorEq, *], by simp only [List.getElem?_set, List.length_set, Nat.reduceLT, Nat.reduceEqDiff, ↓reduceIte, reduceCtorEq, *]; rfl, by simp only [List.getElem?_set, List.length_set, Nat.reduceLT, Nat.reduceEqDiff, ↓reduceIte, reduceCtorEq, *], by simp only [List.getElem?_set, List.length_set, Nat.reduceLT, Nat.reduceEqDiff, ↓reduceIte, reduceCtorEq, *], by simp only [List.getElem?_set, List.length_set, Nat.reduceLT, Nat.reduceEqDiff, ↓reduceIte, reduceCtorEq, *]⟩
    | false =>
      simp only [AVal.undef, sbn, sbn', nuRest, nuScope, code, Try.f41, Option.getD_some, Code.fst, Code.snd, Code.inn, aexec, aops, aop, Region.wanted, ayielded, aexecOp, aeval, aput, aseq, ablock, ahint, absOf, flat, nilCheckA, ANext.ofP, evals, evalPs, evalO, aresults, aresults1, aresult, aend, List.getElem?_set, List.length_set, Option.map_some, Option.bind_some, if_true, if_false, ↓reduceIte, Nat.reduceLT, Nat.reduceEqDiff, reduceCtorEq, Bool.false_eq_true, false_and, and_false, and_true, true_and, Nat.reduceAdd, Nat.reduceLeDiff, callA, List.getElem?_toArray, List.getElem?_cons_succ, List.getElem?_cons_zero, sb1, sb2, sb3, sb4, sliceU_i, sliceU_s, sliceU_p, sliceU_l, evalV, t0, t3, t4, t5, tl, x35, x36, x39, x40, x41, x42, x43, x44, hh, (fld84 s).1, (fld84 s).2.1, (ld_r r).1, len_b (.inl r.2.2), b_eql, hd, i1, i2, b1, b_gtr, b_and, ha, hcv, b_shl _ _ _ _ _ _ _ _ hsh0, hshl, b_or, hor, b_add, hi1, hs7, b_geq, hge, b3]
      exact ⟨_, rfl, r, by omega, nuN_lt n64 hml, by simp only [List.getElem?_set, List.length_set, Nat.reduceLT, Nat.reduceEqDiff, ↓reduceIte, reduceCtorEq, *], by simp only [List.getElem?_set, List.length_set, Nat.reduceLT, Nat.reduceEqDiff, ↓reduceIte, reduceCtorEq, *]; rfl, by simp only [List.getElem?_set, List.length_set, Nat.reduceLT, Nat.reduceEqDiff, ↓reduceIte, reduceCtorEq, *], by simp only [List.getElem?_set, List.length_set, Nat.reduceLT, Nat.reduceEqDiff, ↓reduceIte, reduceCtorEq, *], by simp only [List.getElem?_set, List.length_set, Nat.reduceLT, Nat.reduceEqDiff, ↓reduceIte, reduceCtorEq, *]⟩

set_option maxHeartbeats 1000000 in
theorem nu_last (N m : Nat) (hN : 1 ≤ N) (dr : Array Oper → Bool) {v : AVal} {l : List UInt8} {p s i sh n : Nat} {ts : List AVal} {st : ASt} (h : NuI v l p s i sh n ts st) (hi : i < l.length) (hll : l.length ≤ 1000000) (hb : ¬ ((sh = 63 ∧ 1 < l[i].toNat) ∨ (0 < sh ∧ l[i].toNat = 0))) (hs : sh ≤ 63) (h56 : sh ≠ 63 → sh ≤ 56) (hc : l[i].toNat < 128) :
    ∃ ts', aexec E 41 (run E N) dr m nuRest ts st = some (.ret, ts', rset st s v (i + 1) 0) ∧ ts'[2]? = some (.lit (.int .u64 (nuN n sh l[i] : Nat))) := by
  obtain ⟨r, il, n64, t0, t3, t4, t5, tl⟩ := h
  have hh : ∀ t, E.hint 41 t = false := fun _ => rfl
  obtain ⟨w35, x35⟩ : ∃ w, ts[35]? = some w := ⟨_, List.getElem?_eq_getElem (by omega)⟩
  obtain ⟨w36, x36⟩ : ∃ w, ts[36]? = some w := ⟨_, List.getElem?_eq_getElem (by omega)⟩
  obtain ⟨w39, x39⟩ : ∃ w, ts[39]? = some w := ⟨_, List.getElem?_eq_getElem (by omega)⟩
  obtain ⟨w40, x40⟩ : ∃ w, ts[40]? = some w := ⟨_, List.getElem?_eq_getElem (by omega)⟩
  obtain ⟨w41, x41⟩ : ∃ w, ts[41]? = some w := ⟨_, List.getElem?_eq_getElem (by omega)⟩
  obtain ⟨w42, x42⟩ : ∃ w, ts[42]? = some w := ⟨_, List.getElem?_eq_getElem (by omega)⟩
  obtain ⟨w43, x43⟩ : ∃ w, ts[43]? = some w := ⟨_, List.getElem?_eq_getElem (by omega)⟩
  obtain ⟨w44, x44⟩ : ∃ w, ts[44]? = some w := ⟨_, List.getElem?_eq_getElem (by omega)⟩
  have hd : (((i : Nat) : Int) == ((l.length : Nat) : Int)) = false := by rw [beq_eq_false_iff_ne]; omega
  obtain ⟨p1, i1, i2⟩ := bs_idx (st := st) (.inl (.inl r.2.2)) hi
  unfold byteA at i2
  have h63 : sh = 63 → l[i].toNat ≤ 1 := fun e => by
    by_cases h1 : 1 < l[i].toNat
    · exact absurd (.inl ⟨e, h1⟩) hb
    · omega
  have hml := c_mul_lt hs h63 h56
  have ha := and_nat (k := .u8) rfl (a := l[i].toNat) (b := 127) (UInt8.toNat_lt _) (by decide)
  have e127 : ((127 : Nat) : Int) = 127 := rfl
  rw [e127] at ha
  have hcv := c_int (mt := false) (st := st) (k := .u8) (n := ((l[i].toNat &&& 127 : Nat) : Int)) u5 u22
  rw [wrap_u rfl (by have : l[i].toNat &&& 127 ≤ 127 := Nat.and_le_right; simp only [IntKind.bits]; omega)] at hcv
  have hsh0 : (0 : Int) ≤ (sh : Int) := by omega
  have hshl : IntKind.u64.wrap (((l[i].toNat &&& 127 : Nat) : Int) * 2 ^ min ((sh : Nat) : Int).toNat IntKind.u64.bits) = (((l[i].toNat &&& 127) * 2 ^ sh : Nat) : Int) := by
    rw [Int.toNat_natCast, show min sh IntKind.u64.bits = sh by simp only [IntKind.bits]; omega]
    have : ((l[i].toNat &&& 127 : Nat) : Int) * 2 ^ sh = (((l[i].toNat &&& 127) * 2 ^ sh : Nat) : Int) := by simp
    rw [this]
    exact wrap_u rfl hml
  have hor := or_nat (k := .u64) rfl (a := n) (b := (l[i].toNat &&& 127) * 2 ^ sh) n64 hml
  have hi1 : IntKind.i64.wrap ((i : Int) + 1) = ((i + 1 : Nat) : Int) := by
    simp [IntKind.wrap, IntKind.bits, IntKind.signed]; omega
  have hs7 : IntKind.i64.wrap ((sh : Int) + 7) = ((sh + 7 : Nat) : Int) := by
    simp [IntKind.wrap, IntKind.bits, IntKind.signed]; omega
  have hge : decide (((l[i].toNat : Nat) : Int) ≥ 128) = false := by rw [decide_eq_false_iff_not]; omega
  cases b1 : (((sh : Nat) : Int) == 63) with
  | true =>
    have hsh : sh = 63 := by have := eq_of_beq b1; omega
    have b2 : decide (((l[i].toNat : Nat) : Int) > 1) = false := by rw [decide_eq_false_iff_not]; have := h63 hsh; omega
    have b3 : decide (((sh : Nat) : Int) > 0) = true := by rw [decide_eq_true_eq]; omega
    have b4 : (((l[i].toNat : Nat) : Int) == 0) = false := by rw [beq_eq_false_iff_ne]; intro e; exact hb (.inr ⟨by omega, by omega⟩)
    simp only [AVal.undef, sbn, sbn', nuRest, nuScope, code, Try.f41, Option.getD_some, Code.fst, Code.snd, Code.inn, aexec, aops, aop, Region.wanted, ayielded, aexecOp, aeval, aput, aseq, ablock, ahint, absOf, flat, nilCheckA, ANext.ofP, evals, evalPs, evalO, aresults, aresults1, aresult, aend, List.getElem?_set, List.length_set, Option.map_some, Option.bind_some, if_true, if_false, ↓reduceIte, Nat.reduceLT, Nat.reduceEqDiff, reduceCtorEq, Bool.false_eq_true, false_and, and_false, and_true, true_and, Nat.reduceAdd, Nat.reduceLeDiff, callA, List.getElem?_toArray, List.getElem?_cons_succ, List.getElem?_cons_zero, sb1, sb2, sb3, sb4, sliceU_i, sliceU_s, sliceU_p, sliceU_l, evalV, t0, t3, t4, t5, tl, x35, x36, x39, x40, x41, x42, x43, x44, hh, (fld84 s).1, (fld84 s).2.1, (ld_r r).1, len_b (.inl r.2.2), b_eql, hd, i1, i2, b1, b_gtr, b_and, ha, hcv, b_shl _ _ _ _ _ _ _ _ hsh0, hshl, b_or, hor, b_add, hi1, hs7, b_geq, hge, b2, b3, b4, (st_r r (i + 1)).1]
    exact ⟨_, rfl, by simp only [List.getElem?_set, List.length_set, Nat.reduceLT, Nat.reduceEqDiff, ↓reduceIte, reduceCtorEq, *]; rfl⟩
  | false =>
    cases b3 : decide (((sh : Nat) : Int) > 0) with
    | true =>
      have b4 : (((l[i].toNat : Nat) : Int) == 0) = false := by rw [decide_eq_true_eq] at b3; rw [beq_eq_false_iff_ne]; intro e; exact hb (.inr ⟨by omega, by omega⟩)
      simp only [AVal.undef, sbn, sbn', nuRest, nuScope, code, Try.f41, Option.getD_some, Code.fst, Code.snd, Code.inn, aexec, aops, aop, Region.wanted, ayielded, aexecOp, aeval, aput, aseq, ablock, ahint, absOf, flat, nilCheckA, ANext.ofP, evals, evalPs, evalO, aresults, aresults1, aresult, aend, List.getElem?_set, List.length_set, Option.map_some, Option.bind_some, if_true, if_false, ↓reduceIte, Nat.reduceLT, Nat.reduceEqDiff, reduceCtorEq, Bool.false_eq_true, false_and, and_false, and_true, true_and, Nat.reduceAdd, Nat.reduceLeDiff, callA, List.getElem?_toArray, List.getElem?_cons_succ, List.getElem?_cons_zero, sb1, sb2, sb3, sb4, sliceU_i, sliceU_s, sliceU_p, sliceU_l, evalV, t0, t3, t4, t5, tl, x35, x36, x39, x40, x41, x42, x43, x44, hh, (fld84 s).1, (fld84 s).2.1, (ld_r r).1, len_b (.inl r.2.2), b_eql, hd, i1, i2, b1, b_gtr, b_and, ha, hcv, b_shl _ _ _ _ _ _ _ _ hsh0, hshl, b_or, hor, b_add, hi1, hs7, b_geq, hge, b3, b4, (st_r r (i + 1)).1]
      exact ⟨_, rfl, by simp only [List.getElem?_set, List.length_set, Nat.reduceLT, Nat.reduceEqDiff, ↓reduceIte, reduceCtorEq, *]; rfl⟩
    | false =>
      simp only [AVal.undef, sbn, sbn', nuRest, nuScope, code, Try.f41, Option.getD_some, Code.fst, Code.snd, Code.inn, aexec, aops, aop, Region.wanted, ayielded, aexecOp, aeval, aput, aseq, ablock, ahint, absOf, flat, nilCheckA, ANext.ofP, evals, evalPs, evalO, aresults, aresults1, aresult, aend, List.getElem?_set, List.length_set, Option.map_some, Option.bind_some, if_true, if_false, ↓reduceIte, Nat.reduceLT, Nat.reduceEqDiff, reduceCtorEq, Bool.false_eq_true, false_and, and_false, and_true, true_and, Nat.reduceAdd, Nat.reduceLeDiff, callA, List.getElem?_toArray, List.getElem?_cons_succ, List.getElem?_cons_zero, sb1, sb2, sb3, sb4, sliceU_i, sliceU_s, sliceU_p, sliceU_l, evalV, t0, t3, t4, t5, tl, x35, x36, x39, x40, x41, x42, x43, x44, hh, (fld84 s).1, (fld84 s).2.1, (ld_r r).1, len_b (.inl r.2.2), b_eql, hd, i1, i2, b1, b_gtr, b_and, ha, hcv, b_shl _ _ _ _ _ _ _ _ hsh0, hshl, b_or, hor, b_add, hi1, hs7, b_geq, hge, b3, (st_r r (i + 1)).1]
      exact ⟨_, rfl, by simp only [List.getElem?_set, List.length_set, Nat.reduceLT, Nat.reduceEqDiff, ↓reduceIte, reduceCtorEq, *]; rfl⟩

end Go.Proofs.YtnndngoanknemaaV

/- A reader's Num. No condition. -/
namespace Go.Proofs.YtnndngoanknemaaV
open Go Go.RowKit Go.Proofs.YtnndngoanknemaaA
set_option linter.unusedVariables false
set_option linter.unusedSimpArgs false
set_option maxRecDepth 100000

/-- what is left of the reader, and what came out -/
def rdEnd (st : ASt) (s : Nat) (v : AVal) (p : Nat) : Nat ⊕ (Nat × Nat) → ASt
  | .inl e => rset st s v p e
  | .inr (_, k) => rset st s v (p + k) 0
def rdVal : Nat ⊕ (Nat × Nat) → Nat
  | .inl _ => 0
  | .inr (n, _) => n

theorem nu_loop (N m : Nat) (hN : 1 ≤ N) (dr : Array Oper → Bool) {v : AVal} {l : List UInt8} {p s : Nat} {st : ASt} {ts : List AVal} (hll : l.length ≤ 1000000) (h : NuI v l p s p 0 0 ts st) (hm : l.length < m) :
    ∃ ts', ascope (fun l' => afrom E 41 (run E N) dr m l' nuScope) nuScope m (aexec E 41 (run E N) dr m nuRest ts st) = some (.ret, ts', rdEnd st s v p (rd (l.drop p) 0 0 0)) ∧ ts'[2]? = some (.lit (.int .u64 (rdVal (rd (l.drop p) 0 0 0) : Nat))) := by
  obtain ⟨rest, hl⟩ := nu_label
  have key := ascope_rule (fr := fun l' => afrom E 41 (run E N) dr m l' nuScope) (code := nuScope) (l := 0) hl
    (I := fun k ts s' => s' = st ∧ ∃ i n j, k + i = l.length ∧ i = p + j ∧ (7 * j ≤ 63) ∧ NuI v l p s i (7 * j) n ts st ∧ rd (l.drop i) (7 * j) n j = rd (l.drop p) 0 0 0)
    (Q := fun e ts' s' => e = .ret ∧ s' = rdEnd st s v p (rd (l.drop p) 0 0 0) ∧ ts'[2]? = some (.lit (.int .u64 (rdVal (rd (l.drop p) 0 0 0) : Nat))))
    (step := by
      rintro k ts1 s' ⟨hs', i, n, j, hi, hj, h7, hI, hr⟩
      rw [hs']
      simp only [nu_from]
      by_cases he : i = l.length
      · obtain ⟨ts', e, a2⟩ := nu_short N m hN dr hI he
        rw [List.drop_of_length_le (by omega), rd] at hr
        exact .inr ⟨_, ts', _, e, by simp, rfl, by rw [← hr]; rfl, by rw [← hr]; exact a2⟩
      · have hlt : i < l.length := by have := hI.il; omega
        rw [List.drop_eq_getElem_cons hlt, rd] at hr
        by_cases hb : (7 * j = 63 ∧ 1 < l[i].toNat) ∨ (0 < 7 * j ∧ l[i].toNat = 0)
        · obtain ⟨ts', e, a2⟩ := nu_bad N m hN dr hI hlt hb
          rw [if_pos hb] at hr
          exact .inr ⟨_, ts', _, e, by simp, rfl, by rw [← hr]; rfl, by rw [← hr]; exact a2⟩
        · rw [if_neg hb] at hr
          by_cases hc : 128 ≤ l[i].toNat
          · obtain ⟨ts', e, hI'⟩ := nu_go N m hN dr hI hlt hll hb h7 (by omega) hc
            rw [if_pos hc] at hr
            have hj9 : 7 * j ≠ 63 := fun e9 => hb (.inl ⟨e9, by omega⟩)
            exact .inl ⟨ts', _, e, k - 1, by omega, rfl, i + 1, nuN n (7 * j) l[i], j + 1, by omega, by omega, by omega, by rw [Nat.mul_add]; exact hI', by rw [← hr, Nat.mul_add]; rfl⟩
          · obtain ⟨ts', e, a2⟩ := nu_last N m hN dr hI hlt hll hb h7 (by omega) (by omega)
            rw [if_neg hc] at hr
            exact .inr ⟨_, ts', _, e, by simp, rfl, by rw [← hr]; show rset st s v (i + 1) 0 = rset st s v (p + (j + 1)) 0; rw [show i + 1 = p + (j + 1) by omega], by rw [← hr]; exact a2⟩)
    m (l.length - p) ts st ⟨rfl, p, 0, 0, by have := h.il; omega, by omega, by omega, h, rfl⟩ (by omega)
  obtain ⟨e, ts', st', h1, rfl, rfl, h2⟩ := key
  rw [nu_from] at h1
  exact ⟨ts', h1, h2⟩

end Go.Proofs.YtnndngoanknemaaV

/- A reader's Num, whole. No condition. -/
namespace Go.Proofs.YtnndngoanknemaaV
open Go Go.RowKit Go.Proofs.YtnndngoanknemaaA
set_option linter.unusedVariables false
set_option linter.unusedSimpArgs false
set_option maxRecDepth 100000

theorem nu_pre (call : ACall) (m : Nat) {v : AVal} {l : List UInt8} {p s e : Nat} {st : ASt} {ts : List AVal} (h : RAt st s v l p e) (hp : p ≤ l.length) (t0 : ts[0]? = some (.ptr s 0)) (tl : ts.length = 66) :
    (e ≠ 0 → ∃ ts', aexec E 41 call (drawB E 41) m nuPre ts st = some (.ret, ts', st) ∧ ts'[2]? = some (.lit (.int .u64 (0 : Nat)))) ∧
    (e = 0 → ∃ ts', aexec E 41 call (drawB E 41) m nuPre ts st = some (.normal, ts', st) ∧ NuI v l p s p 0 0 ts' st) := by
  have hh : ∀ t, E.hint 41 t = false := fun _ => rfl
  have hdr : drawB E 41 nuScope.fst.ops = true := by kernel_rfl
  simp only [nuScope, code, Try.f41, Option.getD_some, Code.fst, Code.snd, Code.inn, Code.ops] at hdr
  refine ⟨fun he => ?_, fun he => ?_⟩
  · have hd : (((e : Nat) : Int) != 0) = true := by
      have : ((e : Nat) : Int) ≠ 0 := by omega
      rw [bne, beq_eq_false_iff_ne.2 this]; rfl
    simp only [nuPre, nuScope, code, Try.f41, Option.getD_some, Code.fst, Code.snd, Code.inn, aexec, aops, aop, Region.wanted, ayielded, aexecOp, aeval, aput, aseq, ablock, ahint, absOf, flat, nilCheckA, ANext.ofP, evals, evalPs, evalO, aresults, aresults1, aresult, aend, List.getElem?_set, List.length_set, Option.map_some, Option.bind_some, if_true, if_false, ↓reduceIte, Nat.reduceLT, Nat.reduceEqDiff, reduceCtorEq, Bool.false_eq_true, false_and, and_false, and_true, true_and, Nat.reduceAdd, Nat.reduceLeDiff, callA, List.getElem?_toArray, List.getElem?_cons_succ, List.getElem?_cons_zero, sb1, sb2, sb3, sb4, sliceU_i, sliceU_s, sliceU_p, sliceU_l, evalV, t0, tl, hh, hdr, (fld84 s).2.1, (fld84 s).2.2, (ld_r h).2.1, (ld_r h).2.2, b_neq, hd]
    exact ⟨_, rfl, by simp only [List.getElem?_set, List.length_set, Nat.reduceLT, Nat.reduceEqDiff, ↓reduceIte, reduceCtorEq, *]; rfl⟩
  · subst he
    have hd : (((0 : Nat) : Int) != 0) = false := rfl
    simp only [nuPre, nuScope, code, Try.f41, Option.getD_some, Code.fst, Code.snd, Code.inn, aexec, aops, aop, Region.wanted, ayielded, aexecOp, aeval, aput, aseq, ablock, ahint, absOf, flat, nilCheckA, ANext.ofP, evals, evalPs, evalO, aresults, aresults1, aresult, aend, List.getElem?_set, List.length_set, Option.map_some, Option.bind_some, if_true, if_false, ↓reduceIte, Nat.reduceLT, Nat.reduceEqDiff, reduceCtorEq, Bool.false_eq_true, false_and, and_false, and_true, true_and, Nat.reduceAdd, Nat.reduceLeDiff, callA, List.getElem?_toArray, List.getElem?_cons_succ, List.getElem?_cons_zero, sb1, sb2, sb3, sb4, sliceU_i, sliceU_s, sliceU_p, sliceU_l, evalV, t0, tl, hh, hdr, (fld84 s).2.1, (fld84 s).2.2, (ld_r h).2.1, (ld_r h).2.2, b_neq, hd]
    exact ⟨_, rfl, h, hp, by decide, by simp only [List.getElem?_set, List.length_set, Nat.reduceLT, Nat.reduceEqDiff, ↓reduceIte, reduceCtorEq, *], by simp only [List.getElem?_set, List.length_set, Nat.reduceLT, Nat.reduceEqDiff, ↓reduceIte, reduceCtorEq, *]; rfl, by simp only [List.getElem?_set, List.length_set, Nat.reduceLT, Nat.reduceEqDiff, ↓reduceIte, reduceCtorEq, *]; rfl, by simp only [List.getElem?_set, List.length_set, Nat.reduceLT, Nat.reduceEqDiff, ↓reduceIte, reduceCtorEq, *], by simp only [List.getElem?_set, List.length_set, Nat.reduceLT, Nat.reduceEqDiff, ↓reduceIte, reduceCtorEq, *]⟩

theorem nu_zero (call : ACall) (dr : Array Oper → Bool) (m : Nat) {s : Nat} {st : ASt} {ts : List AVal} (t0 : ts[0]? = some (.ptr s 0)) (tl : ts.length = 66) :
    ∃ ts', aexec E 41 call dr m (code Try.f41).fst ts st = some (.normal, ts', st) ∧ ts'[0]? = some (.ptr s 0) ∧ ts'.length = 66 := by
  have hh : ∀ t, E.hint 41 t = false := fun _ => rfl
  simp only [code, Try.f41, Option.getD_some, Code.fst, Code.snd, Code.inn, aexec, aops, aop, Region.wanted, ayielded, aexecOp, aeval, aput, aseq, ablock, ahint, absOf, flat, nilCheckA, ANext.ofP, evals, evalPs, evalO, aresults, aresults1, aresult, aend, List.getElem?_set, List.length_set, Option.map_some, Option.bind_some, if_true, if_false, ↓reduceIte, Nat.reduceLT, Nat.reduceEqDiff, reduceCtorEq, Bool.false_eq_true, false_and, and_false, and_true, true_and, Nat.reduceAdd, Nat.reduceLeDiff, callA, List.getElem?_toArray, List.getElem?_cons_succ, List.getElem?_cons_zero, sb1, sb2, sb3, sb4, sliceU_i, sliceU_s, sliceU_p, sliceU_l, evalV, t0, tl, hh]
  exact ⟨_, rfl, by simp only [List.getElem?_set, List.length_set, Nat.reduceLT, Nat.reduceEqDiff, ↓reduceIte, reduceCtorEq, *], by simp only [List.getElem?_set, List.length_set, Nat.reduceLT, Nat.reduceEqDiff, ↓reduceIte, reduceCtorEq, *]⟩

theorem nu_seq (call : ACall) (dr : Array Oper → Bool) (m : Nat) (ts : List AVal) (st : ASt) : aexec E 41 call dr m nuScope ts st = aseq (aexec E 41 call dr m nuPre ts st) (aexec E 41 call dr m nuRest) := by
  rw [nu_scope, nuPre]
  have e : aexec E 41 call dr m (.label 0) = fun ts st => some (.normal, ts, st) := by funext ts st; rw [aexec]
  simp only [aexec_seq, aseq_assoc, e]
  congr 1

end Go.Proofs.YtnndngoanknemaaV

/- A reader's Num: its contract. No condition. -/
namespace Go.Proofs.YtnndngoanknemaaV
open Go Go.RowKit Go.Proofs.YtnndngoanknemaaA
set_option linter.unusedVariables false
set_option linter.unusedSimpArgs false
set_option maxRecDepth 100000

theorem rnum_run {v : AVal} {l : List UInt8} {p s e : Nat} {st : ASt} (h : RAt st s v l p e) (hp : p ≤ l.length) (hll : l.length ≤ 1000000) :
    RetN E (l.length + 2) 41 [.ptr s 0] st (.lit (.int .u64 (if e = 0 then rdVal (rd (l.drop p) 0 0 0) else 0 : Nat))) (if e = 0 then rdEnd st s v p (rd (l.drop p) 0 0 0) else st) := by
  refine RetN.of (n := l.length + 1 + 1) ?_
  rw [run_code (fn := Try.f41) rfl rfl, nu_eq]
  obtain ⟨ts, et, t0, tl⟩ : ∃ ts : List AVal, ([AVal.ptr s 0] ++ List.replicate (Try.f41.ntmps - [AVal.ptr s 0].length) .undef) = ts ∧ ts[0]? = some (.ptr s 0) ∧ ts.length = 66 := ⟨_, rfl, rfl, rfl⟩
  rw [et]
  have hres : ∀ ts st v, ts[2]? = some v → aresults E Try.f41 ts st = some v := by
    intro ts st v h
    unfold aresults
    simp only [Try.f41, aresults1, aresult, h]
  obtain ⟨ts1, e1, a0, al⟩ := nu_zero (run E (l.length + 1)) (drawB E 41) (l.length + 1) (st := st) t0 tl
  have hsc : ∀ ts st, aexec E 41 (run E (l.length + 1)) (drawB E 41) (l.length + 1) (.scope nuScope) ts st = ascope (fun l' => afrom E 41 (run E (l.length + 1)) (drawB E 41) (l.length + 1) l' nuScope) nuScope (l.length + 1) (aexec E 41 (run E (l.length + 1)) (drawB E 41) (l.length + 1) nuScope ts st) := by
    intro ts st; rw [aexec]
  have hpre := nu_pre (run E (l.length + 1)) (l.length + 1) h hp a0 al
  simp only [aexec_seq, e1, aseq, hsc, nu_seq]
  by_cases he : e = 0
  · obtain ⟨ts2, e2, hI⟩ := hpre.2 he
    obtain ⟨ts3, e3, a2⟩ := nu_loop (l.length + 1) (l.length + 1) (by omega) (drawB E 41) hll hI (by omega)
    simp only [e2, e3, if_pos he, aend, hres _ _ _ a2, Option.map_some]
  · obtain ⟨ts2, e2, a2⟩ := hpre.1 he
    have : ascope (fun l' => afrom E 41 (run E (l.length + 1)) (drawB E 41) (l.length + 1) l' nuScope) nuScope (l.length + 1) (some (.ret, ts2, st)) = some (.ret, ts2, st) := rfl
    simp only [e2, this, if_neg he, aend, hres _ _ _ a2, Option.map_some]

end Go.Proofs.YtnndngoanknemaaV

/- The plain law: a number that was put is taken. No condition. -/
namespace Go.Proofs.YtnndngoanknemaaV
open Go Go.RowKit Go.Proofs.YtnndngoanknemaaA
set_option linter.unusedVariables false
set_option linter.unusedSimpArgs false
set_option maxRecDepth 100000

theorem or_add {n y sh : Nat} (h : n < 2 ^ sh) : n ||| y * 2 ^ sh = n + y * 2 ^ sh := by
  have := Nat.two_pow_add_eq_or_of_lt h y
  rw [Nat.or_comm, Nat.mul_comm, ← this, Nat.add_comm]

theorem and_127 (c : Nat) : c &&& 127 = c % 128 := Nat.and_two_pow_sub_one_eq_mod c 7

theorem rd_enc : ∀ (m x sh n k : Nat) (r : List UInt8), x < 128 ^ (m + 1) → sh + 7 * m = 63 → n < 2 ^ sh → (0 < sh → 0 < x) → x * 2 ^ sh < 2 ^ 64 → rd (encF m x ++ r) sh n k = .inr (n + x * 2 ^ sh, k + (encF m x).length)
  | 0, x, sh, n, k, r, hx, hs, hn, h0, hb => by
    simp only [Nat.zero_add, Nat.pow_one] at hx
    have hs63 : sh = 63 := by omega
    have hx1 : x ≤ 1 := by
      rw [hs63] at hb
      omega
    have e : (UInt8.ofNat x).toNat = x := UInt8.toNat_ofNat_of_lt' (by show x < 256; omega)
    simp only [encF, List.cons_append, List.nil_append, rd, e, and_127, List.length_singleton]
    rw [if_neg (by have := h0 (by omega); omega), if_neg (by omega), or_add hn, Nat.mod_eq_of_lt (by omega)]
  | m + 1, x, sh, n, k, r, hx, hs, hn, h0, hb => by
    rw [encF]
    by_cases h1 : x < 128
    · have e : (UInt8.ofNat x).toNat = x := UInt8.toNat_ofNat_of_lt' (by show x < 256; omega)
      rw [if_pos h1]
      simp only [List.cons_append, List.nil_append, rd, e, and_127, List.length_singleton]
      rw [if_neg (by
        rintro (⟨h2, _⟩ | ⟨h2, h3⟩)
        · omega
        · have := h0 h2; omega), if_neg (by omega), or_add hn, Nat.mod_eq_of_lt h1]
    · have e : (UInt8.ofNat (x % 128 + 128)).toNat = x % 128 + 128 := UInt8.toNat_ofNat_of_lt' (by show x % 128 + 128 < 256; omega)
      rw [if_neg h1]
      simp only [List.cons_append, rd, e, and_127]
      have hx' : x / 128 < 128 ^ (m + 1) := by
        rw [Nat.div_lt_iff_lt_mul (by decide), ← Nat.pow_succ]; exact hx
      have hp : 2 ^ (sh + 7) = 2 ^ sh * 128 := by rw [Nat.pow_add]
      have hmod : (x % 128 + 128) % 128 = x % 128 := by omega
      have hsum : x % 128 * 2 ^ sh + x / 128 * (2 ^ sh * 128) = x * 2 ^ sh := by
        have h3 : x % 128 + 128 * (x / 128) = x := Nat.mod_add_div x 128
        have h4 : x / 128 * (2 ^ sh * 128) = (128 * (x / 128)) * 2 ^ sh := by
          rw [Nat.mul_comm (2 ^ sh) 128, ← Nat.mul_assoc, Nat.mul_comm (x / 128) 128]
        rw [h4, ← Nat.add_mul, h3]
      rw [if_neg (by
        rintro (⟨h2, _⟩ | ⟨h2, h3⟩)
        · omega
        · omega), if_pos (by omega), hmod, or_add hn]
      rw [rd_enc m (x / 128) (sh + 7) _ (k + 1) r hx' (by omega) (by
        rw [hp]
        have : x % 128 * 2 ^ sh ≤ 127 * 2 ^ sh := Nat.mul_le_mul_right _ (by omega)
        omega) (fun _ => by omega) (by rw [hp]; omega)]
      simp only [List.length_cons]
      rw [hp, Nat.add_assoc, hsum]
      congr 2
      omega

theorem rd_put {x : Nat} (h : x < 2 ^ 64) (r : List UInt8) : rd (enc x ++ r) 0 0 0 = .inr (x, (enc x).length) := by
  have := rd_enc 9 x 0 0 0 r (lt_enc h) (by decide) (by decide) (fun h => by omega) (by simpa using h)
  rw [enc, this]
  simp

end Go.Proofs.YtnndngoanknemaaV
