/- cert's frame and upTo, walked. No condition. -/
import Derived.Test.YtnndngoanknemaaC3
import Derived.Test.YtnndngoanknemaaCF
import Derived.Test.YtnndngoanknemaaO1
namespace Go.Proofs.YtnndngoanknemaaV
open Go Go.RowKit Go.Proofs.YtnndngoanknemaaA
set_option linter.unusedVariables false
set_option linter.unusedSimpArgs false
set_option maxRecDepth 100000

/-! ### bytes as a text -/
theorem bytesOf_map : ∀ l : List UInt8, bytesOf (l.map byteA) = some l
  | [] => rfl
  | b :: l => by
    have h : byteOfA (byteA b) = some b := by
      unfold byteA byteOfA
      simp
    rw [List.map_cons, bytesOf, h, bytesOf_map l]
theorem bs_str {st : ASt} {v : AVal} {l : List UInt8} (h : BS st v l) (hne : l ≠ []) (mt : Bool) : convA E.P mt 28 9 v st = some (.lit (.string ⟨l.toArray⟩), st) := by
  rcases h with (⟨c, rfl⟩ | ⟨a, rfl, rfl⟩) | ⟨s, off, cap, cs, rfl, h1, h2, h3, h4⟩
  · have e : convA E.P mt 28 9 (.islice 1 (l.map byteA) c) st = (bytesOf (l.map byteA)).map fun l => (.lit (.string ⟨l.toArray⟩), st) := rfl
    rw [e, bytesOf_map]; rfl
  · exact absurd rfl hne
  · have e : convA E.P mt 28 9 (.slice s off l.length 1 cap) st = (match st.heap s with
        | some (.cells cs) => if off + l.length ≤ cs.length then (bytesOf ((cs.drop off).take l.length)).map fun l => (.lit (.string ⟨l.toArray⟩), st) else none
        | _ => none) := rfl
    rw [e, h2]
    simp only
    rw [if_pos h3, h4, bytesOf_map]; rfl
theorem b_sneq (xo yo : Operand) (a b : ByteArray) : binA E.P .neq 9 xo yo (.lit (.string a)) (.lit (.string b)) = some (.lit (.bool (!(a.toList == b.toList)))) := rfl
theorem str_list (a : List UInt8) : (⟨a.toArray⟩ : ByteArray).toList = a := by rw [ByteArray.toList_eq]
theorem mark_str : (⟨#[66, 82, 68, 49]⟩ : ByteArray).toList = markB := str_list [66, 82, 68, 49]

theorem mark_lst : ([66, 82, 68, 49] : List UInt8) = markB := rfl
theorem wrap_mid {z : Int} (h1 : -1000000000 ≤ z) (h2 : z ≤ 1000000000) : IntKind.i64.wrap z = z := by
  simp [IntKind.wrap, IntKind.bits, IntKind.signed]
  omega

/-- a certificate without its ends -/
def frP (l : List UInt8) : (Nat × Nat) ⊕ List UInt8 :=
  if l.length < 8 then .inl (l.length, 3) else if l.take 4 ≠ markB then .inl (0, 1)
  else if l.drop (l.length - 4) ≠ le4 (sumN (l.take (l.length - 4))) then .inl (l.length - 4, 4) else .inr (l.take (l.length - 4))

theorem cf27' (a : List AVal) (st : ASt) : callFuncA E.P 27 a st = some (.enter 27 a st) := rfl

set_option maxHeartbeats 1000000 in
theorem frame_run {x : AVal} {l : List UInt8} {st : ASt} (hx : BN st x l) (hl : l.length ≤ 100000) :
    ∃ r st', RetN E 110001 27 [x] st r st' ∧ Gr st st' ∧
      ((∃ p c, frP l = .inl (p, c) ∧ r = .tuple [.nilSlice, .lit (.int .i64 p), .lit (.int .i64 c)]) ∨ ∃ b v, frP l = .inr b ∧ r = .tuple [v, .lit (.int .i64 0), .lit (.int .i64 0)] ∧ BN st' v b) := by
  obtain ⟨ts, et, t0, tl⟩ : ∃ ts : List AVal, ([x] ++ List.replicate (Try.f27.ntmps - [x].length) .undef) = ts ∧ ts[0]? = some x ∧ ts.length = 51 := ⟨_, rfl, rfl, rfl⟩
  have hh : ∀ t, E.hint 27 t = false := fun _ => rfl
  have L := fun mt ty cs st2 => bs_len hx.bs mt ty cs st2
  have g1 : decide (((l.length : Nat) : Int) > 1048576) = false := by rw [decide_eq_false_iff_not]; omega
  unfold frP
  by_cases h8 : l.length < 8
  · have g2 : decide (((l.length : Nat) : Int) < 8) = true := by rw [decide_eq_true_eq]; omega
    refine ⟨_, st, RetN.of (n := 110000 + 1) ?_, Gr.refl _, .inl ⟨l.length, 3, by rw [if_pos h8], rfl⟩⟩
    obtain ⟨N, hN⟩ : ∃ N, N = 110000 := ⟨_, rfl⟩
    rw [← hN, run_code (fn := Try.f27) rfl rfl, et]
    simp only [AVal.undef, sbn, sbn', code, Try.f27, Option.getD_some, Code.fst, Code.snd, Code.inn, aexec, aops, aop, Region.wanted, ayielded, aexecOp, aeval, aput, aseq, ablock, ahint, absOf, flat, nilCheckA, ANext.ofP, evals, evalPs, evalO, aresults, aresults1, aresult, aend, List.getElem?_set, List.length_set, Option.map_some, Option.bind_some, if_true, if_false, ↓reduceIte, Nat.reduceLT, Nat.reduceEqDiff, reduceCtorEq, Bool.false_eq_true, false_and, and_false, and_true, true_and, Nat.reduceAdd, Nat.reduceLeDiff, callA, List.getElem?_toArray, List.getElem?_cons_succ, List.getElem?_cons_zero, sb1, sb2, sb3, sb4, sliceU_i, sliceU_s, sliceU_p, sliceU_l, evalV, t0, tl, hh, L, b_sub, b_gtr, g1, b_lss, g2]
    rfl
  · have q1 : IntKind.i64.wrap ((l.length : Int) - 4) = (l.length : Int) - 4 := wrap_mid (by omega) (by omega)
    have g2 : decide (((l.length : Nat) : Int) < 8) = false := by rw [decide_eq_false_iff_not]; omega
    obtain ⟨v1, e1, b1⟩ := bn_cut hx (xlo := none) (xhi := some (.lit (.int .i64 ((4 : Nat) : Int)))) (lo := 0) (hi := 4) (.inl ⟨rfl, rfl⟩) (.inr rfl) (by omega) (by omega)
    rw [List.drop_zero, Nat.sub_zero] at b1
    have e1' : sliceU E.P 28 x none (some (.lit (.int .i64 4))) none = some v1 := e1
    have hne1 : l.take 4 ≠ [] := fun e => by
      have := congrArg List.length e
      rw [List.length_take, List.length_nil] at this
      omega
    have c1 := fun mt => bs_str b1.bs hne1 mt
    by_cases hm : l.take 4 = markB
    · have z1 : (!(markB == markB)) = false := by rw [beq_self_eq_true]; rfl
      obtain ⟨v2, e2, b2⟩ := bn_cut hx (xlo := none) (xhi := some (.lit (.int .i64 ((l.length - 4 : Nat) : Int)))) (lo := 0) (hi := l.length - 4) (.inl ⟨rfl, rfl⟩) (.inr rfl) (by omega) (by omega)
      rw [List.drop_zero, Nat.sub_zero] at b2
      have hsub : ((l.length - 4 : Nat) : Int) = (l.length : Int) - 4 := by omega
      rw [hsub] at e2
      obtain ⟨s3, n3, g3⟩ := sum_run b2.bs (by rw [List.length_take]; omega)
      obtain ⟨v4, e4, b4⟩ := bn_cut (hx.gr g3) (xlo := some (.lit (.int .i64 ((l.length - 4 : Nat) : Int)))) (xhi := none) (lo := l.length - 4) (hi := l.length) (.inr rfl) (.inl ⟨rfl, rfl⟩) (by omega) (by omega)
      rw [hsub] at e4
      have hcut : (l.drop (l.length - 4)).take (l.length - (l.length - 4)) = l.drop (l.length - 4) := List.take_of_length_le (by rw [List.length_drop]; omega)
      rw [hcut] at b4
      have hne4 : l.drop (l.length - 4) ≠ [] := fun e => by
        have := congrArg List.length e
        rw [List.length_drop, List.length_nil] at this
        omega
      have c4 := fun mt => bs_str b4.bs hne4 mt
      have hc : ∀ x mt st, convA E.P mt 22 5 (.lit (.int .u32 ((x : Nat) : Int))) st = some (byteA (UInt8.ofNat x), st) := fun x mt st => cv_u8 mt st x
      generalize hS : sumN (l.take (l.length - 4)) = S at *
      have e5 : [UInt8.ofNat S, UInt8.ofNat (S / 256), UInt8.ofNat (S / 65536), UInt8.ofNat (S / 16777216)] = le4 S := rfl
      have c5 := fun mt => bs_str (st := s3) (.inl (.inl ⟨.exact, rfl⟩) : BS s3 (.islice 1 ((le4 S).map byteA) .exact) (le4 S)) (by simp [le4]) mt
      have hdr : drawB E 27 ((code Try.f27).snd.snd.snd.fst.snd.fst.ops) = true := by kernel_rfl
      simp only [code, Try.f27, Option.getD_some, Code.fst, Code.snd, Code.inn, Code.ops] at hdr
      obtain ⟨N, hN⟩ : ∃ N, N = 110000 := ⟨_, rfl⟩
      have cn := n3 N (by rw [List.length_take]; omega)
      by_cases hs : l.drop (l.length - 4) = le4 S
      · have z2 : (!(le4 S == le4 S)) = false := by rw [beq_self_eq_true]; rfl
        refine ⟨.tuple [v2, .lit (.int .i64 0), .lit (.int .i64 0)], s3, RetN.of (n := 110000 + 1) ?_, g3, .inr ⟨l.take (l.length - 4), v2, by rw [if_neg h8, if_neg (fun h => h hm), if_neg (fun h => h hs)], rfl, b2.gr g3⟩⟩
        rw [hm] at c1
        rw [hs] at c4
        rw [← hN, run_code (fn := Try.f27) rfl rfl, et]
        simp only [AVal.undef, sbn, sbn', code, Try.f27, Option.getD_some, Code.fst, Code.snd, Code.inn, aexec, aops, aop, Region.wanted, ayielded, aexecOp, aeval, aput, aseq, ablock, ahint, absOf, flat, nilCheckA, ANext.ofP, evals, evalPs, evalO, aresults, aresults1, aresult, aend, List.getElem?_set, List.length_set, Option.map_some, Option.bind_some, if_true, if_false, ↓reduceIte, Nat.reduceLT, Nat.reduceEqDiff, reduceCtorEq, Bool.false_eq_true, false_and, and_false, and_true, true_and, Nat.reduceAdd, Nat.reduceLeDiff, callA, List.getElem?_toArray, List.getElem?_cons_succ, List.getElem?_cons_zero, sb1, sb2, sb3, sb4, sliceU_i, sliceU_s, sliceU_p, sliceU_l, evalV, t0, tl, hh, L, b_sub, q1, b_gtr, g1, b_lss, g2, e1', c1, b_sneq, str_list, mark_lst, z1, e2, cf21, cn, hdr, e4, c4, hc, b_shr8, b_shr16, b_shr24, bs4, e5, c5, z2]
      · have z2 : (!(l.drop (l.length - 4) == le4 S)) = true := by rw [beq_eq_false_iff_ne.2 hs]; rfl
        refine ⟨_, s3, RetN.of (n := 110000 + 1) ?_, g3, .inl ⟨l.length - 4, 4, by rw [if_neg h8, if_neg (fun h => h hm), if_pos hs], rfl⟩⟩
        rw [hm] at c1
        rw [← hN, run_code (fn := Try.f27) rfl rfl, et, hsub]
        simp only [AVal.undef, sbn, sbn', code, Try.f27, Option.getD_some, Code.fst, Code.snd, Code.inn, aexec, aops, aop, Region.wanted, ayielded, aexecOp, aeval, aput, aseq, ablock, ahint, absOf, flat, nilCheckA, ANext.ofP, evals, evalPs, evalO, aresults, aresults1, aresult, aend, List.getElem?_set, List.length_set, Option.map_some, Option.bind_some, if_true, if_false, ↓reduceIte, Nat.reduceLT, Nat.reduceEqDiff, reduceCtorEq, Bool.false_eq_true, false_and, and_false, and_true, true_and, Nat.reduceAdd, Nat.reduceLeDiff, callA, List.getElem?_toArray, List.getElem?_cons_succ, List.getElem?_cons_zero, sb1, sb2, sb3, sb4, sliceU_i, sliceU_s, sliceU_p, sliceU_l, evalV, t0, tl, hh, L, b_sub, q1, b_gtr, g1, b_lss, g2, e1', c1, b_sneq, str_list, mark_lst, z1, e2, cf21, cn, hdr, e4, c4, hc, b_shr8, b_shr16, b_shr24, bs4, e5, c5, z2]
        rfl
    · have z1 : (!(l.take 4 == markB)) = true := by rw [beq_eq_false_iff_ne.2 hm]; rfl
      refine ⟨_, st, RetN.of (n := 110000 + 1) ?_, Gr.refl _, .inl ⟨0, 1, by rw [if_neg h8, if_pos hm], rfl⟩⟩
      obtain ⟨N, hN⟩ : ∃ N, N = 110000 := ⟨_, rfl⟩
      rw [← hN, run_code (fn := Try.f27) rfl rfl, et]
      simp only [AVal.undef, sbn, sbn', code, Try.f27, Option.getD_some, Code.fst, Code.snd, Code.inn, aexec, aops, aop, Region.wanted, ayielded, aexecOp, aeval, aput, aseq, ablock, ahint, absOf, flat, nilCheckA, ANext.ofP, evals, evalPs, evalO, aresults, aresults1, aresult, aend, List.getElem?_set, List.length_set, Option.map_some, Option.bind_some, if_true, if_false, ↓reduceIte, Nat.reduceLT, Nat.reduceEqDiff, reduceCtorEq, Bool.false_eq_true, false_and, and_false, and_true, true_and, Nat.reduceAdd, Nat.reduceLeDiff, callA, List.getElem?_toArray, List.getElem?_cons_succ, List.getElem?_cons_zero, sb1, sb2, sb3, sb4, sliceU_i, sliceU_s, sliceU_p, sliceU_l, evalV, t0, tl, hh, L, b_sub, q1, b_gtr, g1, b_lss, g2, e1', c1, b_sneq, str_list, mark_lst, z1]
      rfl

/-! ### numbers read -/
theorem rd_le : ∀ (l : List UInt8) (sh n k : Nat), (∀ x j, rd l sh n k = .inr (x, j) → j ≤ k + l.length) ∧ (∀ e, rd l sh n k = .inl e → e = 1 ∨ e = 3)
  | [], sh, n, k => ⟨fun x j h => (by simp only [rd] at h; cases h), fun e h => by simp only [rd] at h; cases h; exact .inr rfl⟩
  | c :: r, sh, n, k => by
    obtain ⟨h1, h2⟩ := rd_le r (sh + 7) (n ||| (c.toNat &&& 127) * 2 ^ sh) (k + 1)
    unfold rd
    refine ⟨fun x j h => ?_, fun e h => ?_⟩
    · split at h
      · cases h
      · split at h
        · have := h1 x j h; simp only [List.length_cons]; omega
        · cases h; simp only [List.length_cons]; omega
    · split at h
      · cases h; exact .inl rfl
      · split at h
        · exact h2 e h
        · cases h

theorem rd_lt : ∀ (m : Nat) (l : List UInt8) (sh n k x j : Nat), sh + 7 * m = 63 → n < 2 ^ sh → rd l sh n k = .inr (x, j) → x < 2 ^ 64
  | _, [], sh, n, k, x, j, _, _, h => by simp only [rd] at h; cases h
  | 0, c :: r, sh, n, k, x, j, hs, hn, h => by
    have hs63 : sh = 63 := by omega
    subst hs63
    rw [rd] at h
    by_cases hb : (63 = 63 ∧ 1 < c.toNat) ∨ (0 < 63 ∧ c.toNat = 0)
    · rw [if_pos hb] at h; cases h
    · rw [if_neg hb] at h
      have hc : c.toNat = 1 := by omega
      rw [if_neg (by omega)] at h
      simp only [Sum.inr.injEq, Prod.mk.injEq] at h
      rw [← h.1, and_127, or_add hn, hc]
      omega
  | m + 1, c :: r, sh, n, k, x, j, hs, hn, h => by
    have hcl := UInt8.toNat_lt c
    have hp : 2 ^ (sh + 7) = 2 ^ sh * 128 := by rw [Nat.pow_add]
    have hlt : n + c.toNat % 128 * 2 ^ sh < 2 ^ (sh + 7) := by
      rw [hp]
      have : c.toNat % 128 * 2 ^ sh ≤ 127 * 2 ^ sh := Nat.mul_le_mul_right _ (by omega)
      omega
    rw [rd] at h
    by_cases hb : (sh = 63 ∧ 1 < c.toNat) ∨ (0 < sh ∧ c.toNat = 0)
    · rw [if_pos hb] at h; cases h
    · rw [if_neg hb] at h
      by_cases hc : 128 ≤ c.toNat
      · rw [if_pos hc, and_127, or_add hn] at h
        exact rd_lt m r (sh + 7) _ (k + 1) x j (by omega) hlt h
      · rw [if_neg hc] at h
        simp only [Sum.inr.injEq, Prod.mk.injEq] at h
        rw [← h.1, and_127, or_add hn]
        exact Nat.lt_of_lt_of_le hlt (Nat.pow_le_pow_right (by decide) (by omega))
/-! ### a taker -/
theorem rd_out {l : List UInt8} {x k : Nat} (h : rd l 0 0 0 = .inr (x, k)) : x < 2 ^ 64 ∧ k ≤ l.length ∧ k = (enc x).length ∧ l = enc x ++ l.drop k := by
  obtain ⟨y, r, e1, e2, _, e4, e5⟩ := rd_inv 9 l 0 0 0 x k rfl (by decide) h
  have hx : x = y := by omega
  subst hx
  have hk : k = (enc x).length := by rw [e4, Nat.zero_add]; rfl
  have hl : l = enc x ++ r := e5
  refine ⟨rd_lt 9 l 0 0 0 x k rfl (by decide) h, by rw [hl, List.length_append, hk]; omega, hk, ?_⟩
  rw [hk]
  conv => lhs; rw [hl]
  conv => rhs; rw [hl, List.drop_left]

end Go.Proofs.YtnndngoanknemaaV
