/- WireOne, walked in the second reading: up to the first reader. No condition. -/
import Derived.Test.YtjpehemkgikkdaaO2
namespace Go.Proofs.YtjpehemkgikkdaaV
open Go Go.RowKit Go.Proofs.YtjpehemkgikkdaaA
set_option linter.unusedVariables false
set_option linter.unusedSimpArgs false
set_option maxRecDepth 100000

noncomputable def oA : Code := .seq (code Try.f11).fst (.seq (code Try.f11).snd.fst (.seq (code Try.f11).snd.snd.fst (.seq (code Try.f11).snd.snd.snd.fst (.seq (code Try.f11).snd.snd.snd.snd.fst (.seq (code Try.f11).snd.snd.snd.snd.snd.fst (.seq (code Try.f11).snd.snd.snd.snd.snd.snd.fst
  (.seq (code Try.f11).snd.snd.snd.snd.snd.snd.snd.fst (code Try.f11).snd.snd.snd.snd.snd.snd.snd.snd.fst.fst)))))))
noncomputable def oB : Code := (code Try.f11).snd.snd.snd.snd.snd.snd.snd.snd.fst.snd
noncomputable def oC : Code := (code Try.f11).snd.snd.snd.snd.snd.snd.snd.snd.snd

theorem o_parts (call : ACall) (dr : Array Oper → Bool) (n : Nat) (ts : List AVal) (st : ASt) : aexec E 11 call dr n (code Try.f11) ts st =
    aseq (aexec E 11 call dr n oA ts st) fun ts st => aseq (aexec E 11 call dr n oB ts st) (aexec E 11 call dr n oC) := by
  have e : code Try.f11 = .seq (code Try.f11).fst (.seq (code Try.f11).snd.fst (.seq (code Try.f11).snd.snd.fst (.seq (code Try.f11).snd.snd.snd.fst (.seq (code Try.f11).snd.snd.snd.snd.fst (.seq (code Try.f11).snd.snd.snd.snd.snd.fst (.seq (code Try.f11).snd.snd.snd.snd.snd.snd.fst
    (.seq (code Try.f11).snd.snd.snd.snd.snd.snd.snd.fst (.seq (.seq (code Try.f11).snd.snd.snd.snd.snd.snd.snd.snd.fst.fst oB) oC)))))))) := rfl
  rw [e, oA]
  simp only [aexec_seq, aseq_assoc]

structure OneI (n by' cut k sB rs : Nat) (v : AVal) (l : List UInt8) (ts : List AVal) (st : ASt) : Prop where
  own : Own1 st sB l
  t0 : ts[0]? = some (.lit (.int .u64 n))
  t2 : ts[2]? = some (.lit (.int .u8 by'))
  t3 : ts[3]? = some (.lit (.int .u8 cut))
  t10 : ts[10]? = some (.slice sB 0 l.length 1 none)
  t11 : ts[11]? = some (.lit (.int .i64 k))
  tl : ts.length = 82

/-- a byte turned -/
def turned (l : List UInt8) (k by' : Nat) : List UInt8 := l.set k (UInt8.ofNat ((l.getD k 0).toNat ^^^ by'))

theorem one_A (N m d0 : Nat) (hN2 : 300 ≤ N) (dr : Array Oper → Bool) {n at' by' cut : Nat} (hn : n < 2 ^ 64) (ha : at' < 256) (hb : by' < 256) {s0 : ASt} {ts : List AVal} (hA : RetN E d0 15 [] st0 (.lit (.bool true)) s0) (hN : d0 ≤ N)
    (h0 : ts[0]? = some (.lit (.int .u64 n))) (h1 : ts[1]? = some (.lit (.int .u8 at'))) (h2 : ts[2]? = some (.lit (.int .u8 by'))) (h3 : ts[3]? = some (.lit (.int .u8 cut))) (tl : ts.length = 82) :
    ∃ ts' st' sB rs v, aexec E 11 (run E N) dr m oA ts st0 = some (.normal, ts', st') ∧ OneI n by' cut (at' % (enc n).length) sB rs v (turned (enc n) (at' % (enc n).length) by') ts' st' ∧
      RAt st' rs v (turned (enc n) (at' % (enc n).length) by') 0 0 ∧ rs ≠ sB ∧ ts'[12]? = some (.ptr rs 0) := by
  have hh : ∀ t, E.hint 11 t = false := fun _ => rfl
  have c0 := hA N hN
  have hnot : ∀ b, pureV E.P (Op.unary .not (.bool b)) = some (.lit (.bool (!b))) := fun _ => rfl
  have hL := enc_len n
  have hne : enc n ≠ [] := by
    obtain ⟨L, b, r, e, _⟩ := encF_bits 9 n (lt_enc hn)
    show encF 9 n ≠ []
    rw [e]; simp
  have hpos : 0 < (enc n).length := List.length_pos_iff.2 hne
  obtain ⟨st1, k1, n1, w1⟩ := num_run (wat_init s0) hn (by simp)
  obtain ⟨v, st2, n2, _, g2, hm⟩ := bytes_mut w1.at' (by simp; omega)
  rw [List.nil_append] at hm
  obtain ⟨rfl, rfl⟩ := hm hne
  have own : Own1 (st1.new (.cells ((enc n).map byteA))) st1.ctr (enc n) := ⟨by simp [ASt.new], by simp [ASt.new]⟩
  have hk : at' % (enc n).length < (enc n).length := Nat.mod_lt _ hpos
  obtain ⟨i1, i2⟩ := own_idx own hk
  have hx := xor_nat (k := .u8) rfl (a := (enc n)[at' % (enc n).length].toNat) (b := by') (UInt8.toNat_lt _) hb
  have hx8 : (enc n)[at' % (enc n).length].toNat ^^^ by' < 256 := Nat.xor_lt_two_pow (n := 8) (UInt8.toNat_lt _) hb
  have hst := own_store own hk hx8
  have own2 := oset_own own ((enc n).set (at' % (enc n).length) (UInt8.ofNat ((enc n)[at' % (enc n).length].toNat ^^^ by')))
  have hT : (enc n).set (at' % (enc n).length) (UInt8.ofNat ((enc n)[at' % (enc n).length].toNat ^^^ by')) = turned (enc n) (at' % (enc n).length) by' := by
    unfold turned
    rw [List.getD_eq_getElem?_getD, List.getElem?_eq_getElem hk]; rfl
  rw [hT] at hst own2
  have hlen : (turned (enc n) (at' % (enc n).length) by').length = (enc n).length := by simp [turned]
  have bs2 := own2.bs
  obtain ⟨rs, v, st4, n4, r4, g4, lt4⟩ := read_run bs2 (by omega)
  rw [hlen] at n4
  have c1 := n1 N (by omega)
  have c2 := n2 N (by omega)
  have c4 := n4 N (by omega)
  have hcv := c_int (mt := false) (st := st1.new (.cells ((enc n).map byteA))) (k := .u8) (n := ((at' : Nat) : Int)) u5 u3
  have hw : IntKind.i64.wrap ((at' : Nat) : Int) = ((at' : Nat) : Int) := by
    simp [IntKind.wrap, IntKind.bits, IntKind.signed]; omega
  rw [hw] at hcv
  have hL0 : (((enc n).length : Nat) : Int) ≠ 0 := by omega
  have hrem : ((at' : Nat) : Int).tmod (((enc n).length : Nat) : Int) = ((at' % (enc n).length : Nat) : Int) := by
    rw [Int.tmod_eq_emod_of_nonneg (by omega)]; rfl
  have hz : ((((enc n).length : Nat) : Int) == 0) = false := by rw [beq_eq_false_iff_ne]; exact hL0
  have hlen2 := fun mt ty cs st => bs_len own.bs mt ty cs st
  simp only [oA, code, Try.f11, Option.getD_some, Code.fst, Code.snd, Code.inn, aexec, aops, aop, Region.wanted, ayielded, aexecOp, aeval, aput, aseq, ablock, ahint, absOf, flat, nilCheckA, ANext.ofP, evals, evalPs, evalO, aresults, aresults1, aresult, aend, List.getElem?_set, List.length_set, Option.map_some, Option.bind_some, if_true, if_false, ↓reduceIte, Nat.reduceLT, Nat.reduceEqDiff, reduceCtorEq, Bool.false_eq_true, false_and, and_false, and_true, true_and, Nat.reduceAdd, Nat.reduceLeDiff, callA, List.getElem?_toArray, List.getElem?_cons_succ, List.getElem?_cons_zero, sb1, sb2, sb3, sb4, hh, h0, h1, h2, h3, tl, cf15, cf16, cf18, cf34, c0, YtjpehemkgikkdaaA.valOf, hnot, Bool.not_true, alloc_w, c1, c2, hlen2, b_eql, hz, hcv, b_rem _ _ _ _ _ _ _ hL0, hrem, i1, i2, b_xor, hx, hst, c4]
  refine ⟨_, _, st1.ctr, rs, v, rfl, ⟨own2.gr g4, by simp only [List.getElem?_set, List.length_set, Nat.reduceLT, Nat.reduceEqDiff, ↓reduceIte, reduceCtorEq, *], by simp only [List.getElem?_set, List.length_set, Nat.reduceLT, Nat.reduceEqDiff, ↓reduceIte, reduceCtorEq, *], by simp only [List.getElem?_set, List.length_set, Nat.reduceLT, Nat.reduceEqDiff, ↓reduceIte, reduceCtorEq, *], by simp only [List.getElem?_set, List.length_set, Nat.reduceLT, Nat.reduceEqDiff, ↓reduceIte, reduceCtorEq, *], by simp only [List.getElem?_set, List.length_set, Nat.reduceLT, Nat.reduceEqDiff, ↓reduceIte, reduceCtorEq, *], by simp only [List.getElem?_set, List.length_set, Nat.reduceLT, Nat.reduceEqDiff, ↓reduceIte, reduceCtorEq, *]⟩, r4, ?_, by simp only [List.getElem?_set, List.length_set, Nat.reduceLT, Nat.reduceEqDiff, ↓reduceIte, reduceCtorEq, *]⟩
  have := own2.lt
  omega

end Go.Proofs.YtjpehemkgikkdaaV
