/- Num's contract. No condition. -/
import Derived.Test.YtjpehemkgikkdaaV1
namespace Go.Proofs.YtjpehemkgikkdaaV
open Go Go.RowKit Go.Proofs.YtjpehemkgikkdaaA
set_option linter.unusedVariables false
set_option linter.unusedSimpArgs false
set_option maxRecDepth 100000

/-- bytes were put, and little else was touched -/
structure Wr (st st' : ASt) (s : Nat) (k : Option Nat) (k' : Option Nat) (l' : List UInt8) : Prop where
  at' : WAt st' s l' k'
  fr : Fr st st' s k
  own : ∀ j, k' = some j → st.ctr ≤ j ∨ k = some j

theorem Wr.put {st : ASt} {s : Nat} {l : List UInt8} {k : Option Nat} (h : WAt st s l k) (n : List UInt8) : Wr st (wput st s l k n) s k (some st.ctr) (l ++ n) :=
  ⟨wput_at h n, wput_fr h n, fun j e => .inl (by cases e; exact Nat.le_refl _)⟩

theorem Wr.trans {a b c : ASt} {s : Nat} {k k1 k2 : Option Nat} {l1 l2 : List UInt8} (h : Wr a b s k k1 l1) (h' : Wr b c s k1 k2 l2) : Wr a c s k k2 l2 :=
  ⟨h'.at', h.fr.trans h'.fr h.own, fun j e => by
    rcases h'.own j e with h1 | h1
    · exact .inl (Nat.le_trans h.fr.1 h1)
    · exact h.own j h1⟩

theorem num_loop (call : ACall) (dr : Array Oper → Bool) (n0 : Nat) : ∀ (m x : Nat) (s : Nat) (l : List UInt8) (k : Option Nat) (st : ASt) (ts : List AVal), x < 128 ^ (m + 1) → l.length + m ≤ 1000000 → ts[0]? = some (.ptr s 0) → ts[1]? = some (.lit (.int .u64 x)) → ts.length = 31 →
    WAt st s l k → ∀ n, m < n → ∃ ts' st' x' k' l', aloop (aexec E 16 call dr n0 numBody) n ts st = some (.exit 0, ts', st') ∧ ts'[0]? = some (.ptr s 0) ∧ ts'[1]? = some (.lit (.int .u64 (x' : Nat))) ∧ ts'.length = 31 ∧ x' < 128 ∧ Wr st st' s k k' l' ∧ l' ++ [UInt8.ofNat x'] = l ++ encF m x
  | m, x, s, l, k, st, ts, hx, hlen, h0, h1, hl, hw, 0, hn => by omega
  | m, x, s, l, k, st, ts, hx, hlen, h0, h1, hl, hw, n + 1, hn => by
    by_cases hlt : x < 128
    · obtain ⟨ts', e, a0, a1, al⟩ := (num_body call dr n0 h0 h1 hl hw (by omega)).1 hlt
      refine ⟨ts', st, x, k, l, ?_, a0, a1, al, hlt, ⟨hw, ⟨Nat.le_refl _, fun _ _ _ _ => rfl⟩, fun j e => .inr e⟩, ?_⟩
      · rw [aloop, e]; rfl
      · cases m with
        | zero => rfl
        | succ m => rw [encF, if_pos hlt]
    · cases m with
      | zero => simp only [Nat.zero_add, Nat.pow_one] at hx; omega
      | succ m =>
        obtain ⟨ts', e, a0, a1, al⟩ := (num_body call dr n0 h0 h1 hl hw (by omega)).2 (by omega)
        have hx' : x / 128 < 128 ^ (m + 1) := by
          rw [Nat.div_lt_iff_lt_mul (by decide), ← Nat.pow_succ]
          exact hx
        obtain ⟨ts2, st2, x2, k2, l2, e2, b0, b1, bl, hx2, hw2, hl2⟩ := num_loop call dr n0 m (x / 128) s (l ++ [UInt8.ofNat (x % 128 + 128)]) (some st.ctr) _ ts' hx' (by simp only [List.length_append, List.length_singleton]; omega) a0 a1 al (wput_at hw _) n (by omega)
        refine ⟨ts2, st2, x2, k2, l2, ?_, b0, b1, bl, hx2, (Wr.put hw _).trans hw2, ?_⟩
        · rw [aloop, e, aseq]; exact e2
        · rw [hl2, encF, if_neg hlt, List.append_assoc]; rfl

theorem num_tail (call : ACall) (dr : Array Oper → Bool) (n : Nat) {s x : Nat} {l : List UInt8} {k : Option Nat} {st : ASt} {ts : List AVal} (h0 : ts[0]? = some (.ptr s 0)) (h1 : ts[1]? = some (.lit (.int .u64 x))) (hl : ts.length = 31)
    (hw : WAt st s l k) (hlen : l.length ≤ 1000000) (hx : x < 128) :
    ∃ ts', aexec E 16 call dr n numTail ts st = some (.normal, ts', wput st s l k [UInt8.ofNat x]) := by
  have hh : ∀ t, E.hint 16 t = false := fun _ => rfl
  obtain ⟨p1, p2, p3⟩ := put_byte hw hlen (UInt8.ofNat x)
  have hc := c_int (mt := false) (st := st) (k := .u64) (n := (x : Int)) u22 u5
  have hww : IntKind.u8.wrap (x : Int) = ((x : Nat) : Int) := by rw [wrap_u8]; congr 1; omega
  have hby := byteA_lit x (by omega)
  simp only [numTail, Try.f16, aexec, aops, aop, Region.wanted, ayielded, aexecOp, aeval, aput, aseq, ablock, ahint, absOf, flat, nilCheckA, ANext.ofP, evals, evalPs, evalO, aresults, aresults1, aresult, aend, List.getElem?_set, List.length_set, Option.map_some, Option.bind_some, if_true, if_false, ↓reduceIte, Nat.reduceLT, Nat.reduceEqDiff, reduceCtorEq, Bool.false_eq_true, false_and, and_false, and_true, true_and, Nat.reduceAdd, Nat.reduceLeDiff, callA, List.getElem?_toArray, List.getElem?_cons_succ, List.getElem?_cons_zero, sb1, sb2, sb3, sb4, h0, h1, hl, hh, fld26, p1, hc, hww, hby, bs1 (byteA (UInt8.ofNat x)) st rfl, builtinA, p2, p3]
  exact ⟨_, rfl⟩

theorem num_run {s x : Nat} {l : List UInt8} {k : Option Nat} {st : ASt} (hw : WAt st s l k) (hx : x < 2 ^ 64) (hlen : l.length ≤ 999900) :
    ∃ st' k', RetN E 21 16 [.ptr s 0, .lit (.int .u64 x)] st (.tuple []) st' ∧ Wr st st' s k k' (l ++ enc x) := by
  have hb : Try.f16.body = some (.seq (.block 0 (.loop numBody)) numTail) := rfl
  have hx10 : x < 128 ^ (9 + 1) := by
    refine Nat.lt_of_lt_of_le hx (by decide)
  obtain ⟨ts', st', x', k', l', e, a0, a1, al, hx', hw', hl'⟩ := num_loop (run E 20) (drawB E 16) 20 9 x s l k st ([.ptr s 0, .lit (.int .u64 x)] ++ List.replicate 29 .undef) hx10 (by omega) rfl rfl rfl hw 20 (by omega)
  have hll : l'.length ≤ 1000000 := by
    have := congrArg List.length hl'
    have he : ∀ m y, (encF m y).length ≤ m + 1 := by
      intro m
      induction m with
      | zero => intro y; simp [encF]
      | succ m ih =>
        intro y
        rw [encF]
        split
        · simp
        · have := ih (y / 128)
          simp only [List.length_cons]
          omega
    have := he 9 x
    simp only [List.length_append, List.length_singleton] at *
    omega
  obtain ⟨ts2, e2⟩ := num_tail (run E 20) (drawB E 16) 20 a0 a1 al hw'.at' hll hx'
  refine ⟨wput st' s l' k' [UInt8.ofNat x'], some st'.ctr, RetN.of (n := 21) (?_), ?_⟩
  · rw [run_succ (fn := Try.f16) (c := .seq (.block 0 (.loop numBody)) numTail) rfl hb]
    have : ([AVal.ptr s 0, .lit (.int .u64 x)] ++ List.replicate (Try.f16.ntmps - [AVal.ptr s 0, .lit (.int .u64 x)].length) .undef) = ([.ptr s 0, .lit (.int .u64 x)] ++ List.replicate 29 .undef) := rfl
    rw [this, aexec, aexec, aexec, e]
    simp only [ablock, if_true, aseq, e2]
    rfl
  · unfold enc
    rw [← hl']
    exact hw'.trans (Wr.put hw'.at' _)

end Go.Proofs.YtjpehemkgikkdaaV
