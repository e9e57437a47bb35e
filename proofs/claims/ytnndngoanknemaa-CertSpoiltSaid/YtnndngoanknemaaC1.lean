/- cert.Encode, walked: its contract. No condition. -/
import Derived.Test.YtnndngoanknemaaN12
import Derived.Test.YtnndngoanknemaaS3
namespace Go.Proofs.YtnndngoanknemaaV
open Go Go.RowKit Go.Proofs.YtnndngoanknemaaA
set_option linter.unusedVariables false
set_option linter.unusedSimpArgs false
set_option maxRecDepth 100000

/-! ### what a certificate is -/
def le4 (c : Nat) : List UInt8 := [UInt8.ofNat c, UInt8.ofNat (c / 256), UInt8.ofNat (c / 65536), UInt8.ofNat (c / 16777216)]
def ndB (n : Nd) : List UInt8 := enc n.th.toNat ++ enc n.sl ++ enc n.so ++ enc n.kd.toNat
def markB : List UInt8 := [66, 82, 68, 49]
def bodyB (sum : Nat) (l : List Nd) : List UInt8 := markB ++ enc sum ++ enc l.length ++ l.flatMap ndB
def certB (sum : Nat) (l : List Nd) : List UInt8 := bodyB sum l ++ le4 (sumN (bodyB sum l))
def NdOk (n : Nd) : Prop := (0 ≤ n.th ∧ n.th < 2 ^ 63) ∧ n.sl < 2 ^ 64 ∧ n.so < 2 ^ 64 ∧ 0 ≤ n.kd ∧ n.kd < 2 ^ 63

theorem ndB_len (n : Nd) : (ndB n).length ≤ 40 := by
  have h1 := enc_len n.th.toNat
  have h2 := enc_len n.sl
  have h3 := enc_len n.so
  have h4 := enc_len n.kd.toNat
  simp only [ndB, List.length_append]; omega
theorem ndsB_len : ∀ l : List Nd, (l.flatMap ndB).length ≤ 40 * l.length
  | [] => by simp
  | n :: l => by
    have := ndB_len n
    have := ndsB_len l
    rw [List.flatMap_cons, List.length_append, List.length_cons]; omega
theorem bodyB_len (sum : Nat) (l : List Nd) : (bodyB sum l).length ≤ 24 + 40 * l.length := by
  have h1 := enc_len sum
  have h2 := enc_len l.length
  have h3 := ndsB_len l
  simp only [bodyB, markB, List.length_append, List.length_cons, List.length_nil]; omega
theorem bodyB_pos (sum : Nat) (l : List Nd) : 4 ≤ (bodyB sum l).length := by
  simp only [bodyB, markB, List.length_append, List.length_cons, List.length_nil]; omega

theorem cv_iu (mt : Bool) (st : ASt) {x : Int} (h0 : 0 ≤ x) (h1 : x < 2 ^ 63) : convA E.P mt 3 32 (.lit (.int .i64 x)) st = some (.lit (.int .u64 ((x.toNat : Nat) : Int)), st) := by
  rw [c_int u3 u22]
  have : IntKind.u64.wrap x = ((x.toNat : Nat) : Int) := by
    simp [IntKind.wrap, IntKind.bits, IntKind.signed]; omega
  rw [this]
theorem cv_u32 (mt : Bool) (st : ASt) {x : Nat} (h1 : x < 2 ^ 32) : convA E.P mt 22 32 (.lit (.int .u32 x)) st = some (.lit (.int .u64 (x : Int)), st) := by
  rw [c_int u38 u22]
  have : IntKind.u64.wrap (x : Int) = (x : Int) := by
    simp [IntKind.wrap, IntKind.bits, IntKind.signed]; omega
  rw [this]
theorem cv_u8 (mt : Bool) (st : ASt) (x : Nat) : convA E.P mt 22 5 (.lit (.int .u32 x)) st = some (byteA (UInt8.ofNat x), st) := by
  rw [c_int u38 u5, wrap_u8]
  have : byteA (UInt8.ofNat x) = .lit (.int .u8 ((x % 256 : Nat) : Int)) := by
    unfold byteA
    simp
  rw [this]
theorem shr_u32' (x s : Nat) (h : s ≤ 32) : (x : Int).fdiv (2 ^ min ((s : Nat) : Int).toNat (IntKind.bits .u32)) = ((x / 2 ^ s : Nat) : Int) := fdiv_pow x s 32 h
theorem b_shr8 (x : Nat) (t : TypeId) (xo yo : Operand) : binA E.P .shr t xo yo (.lit (.int .u32 x)) (.lit (.int .u64 8)) = some (.lit (.int .u32 ((x / 256 : Nat) : Int))) := by
  rw [b_shr _ _ _ _ _ _ _ _ (by decide)]
  have := shr_u32' x 8 (by decide)
  exact congrArg (fun z => some (AVal.lit (.int .u32 z))) this
theorem b_shr16 (x : Nat) (t : TypeId) (xo yo : Operand) : binA E.P .shr t xo yo (.lit (.int .u32 x)) (.lit (.int .u64 16)) = some (.lit (.int .u32 ((x / 65536 : Nat) : Int))) := by
  rw [b_shr _ _ _ _ _ _ _ _ (by decide)]
  have := shr_u32' x 16 (by decide)
  exact congrArg (fun z => some (AVal.lit (.int .u32 z))) this
theorem b_shr24 (x : Nat) (t : TypeId) (xo yo : Operand) : binA E.P .shr t xo yo (.lit (.int .u32 x)) (.lit (.int .u64 24)) = some (.lit (.int .u32 ((x / 16777216 : Nat) : Int))) := by
  rw [b_shr _ _ _ _ _ _ _ _ (by decide)]
  have := shr_u32' x 24 (by decide)
  exact congrArg (fun z => some (AVal.lit (.int .u32 z))) this
theorem bs4 (a b c d : UInt8) (st : ASt) : buildSliceA E.P false 28 4 [(0, byteA a), (1, byteA b), (2, byteA c), (3, byteA d)] st = some (.islice 1 ([a, b, c, d].map byteA) .exact, st) := rfl

/-- a writer that was made here, and what is in it -/
structure EnS (base st : ASt) (s : Nat) (L : List UInt8) (k : Option Nat) : Prop where
  w : WAt st s L k
  gr : Gr base st
  lo : base.ctr ≤ s
  ko : ∀ j, k = some j → base.ctr ≤ j

theorem EnS.put {base st st' : ASt} {s : Nat} {L L' : List UInt8} {k k' : Option Nat} (h : EnS base st s L k) (hw : Wr st st' s k k' L') : EnS base st' s L' k' := by
  refine ⟨hw.at', ⟨Nat.le_trans h.gr.1 hw.fr.1, fun j hj => ?_⟩, h.lo, fun j hj => ?_⟩
  · have h1 := h.gr.1
    have h2 := h.lo
    rw [hw.fr.2 j (by omega) (by omega) (fun e => by have := h.ko j e; omega), h.gr.2 j hj]
  · rcases hw.own j hj with h1 | h1
    · exact Nat.le_trans h.gr.1 h1
    · exact h.ko j h1
theorem EnS.more {base st st' : ASt} {s : Nat} {L : List UInt8} {k : Option Nat} (h : EnS base st s L k) (hg : Gr st st') : EnS base st' s L k :=
  ⟨wat_gr h.w hg, h.gr.trans hg, h.lo, h.ko⟩

noncomputable def enA : Code := .seq (code Try.f12).fst (.seq (code Try.f12).snd.fst (.seq (code Try.f12).snd.snd.fst (.seq (code Try.f12).snd.snd.snd.fst (.seq (code Try.f12).snd.snd.snd.snd.fst (code Try.f12).snd.snd.snd.snd.snd.fst.fst))))
noncomputable def enL : Code := (code Try.f12).snd.snd.snd.snd.snd.fst.snd.inn
noncomputable def enE : Code := (code Try.f12).snd.snd.snd.snd.snd.snd
theorem en_parts (call : ACall) (dr : Array Oper → Bool) (n : Nat) (ts : List AVal) (st : ASt) : aexec E 12 call dr n (code Try.f12) ts st =
    aseq (aexec E 12 call dr n enA ts st) fun ts st => aseq (ablock 0 (aloop (aexec E 12 call dr n enL) n ts st)) (aexec E 12 call dr n enE) := by
  have e : code Try.f12 = .seq (code Try.f12).fst (.seq (code Try.f12).snd.fst (.seq (code Try.f12).snd.snd.fst (.seq (code Try.f12).snd.snd.snd.fst (.seq (code Try.f12).snd.snd.snd.snd.fst (.seq (.seq (code Try.f12).snd.snd.snd.snd.snd.fst.fst (.block 0 (.loop enL))) enE))))) := rfl
  rw [e, enA]
  simp only [aexec_seq, aexec_block, aexec_loop, aseq_assoc]

structure EnI (v : AVal) (s n i : Nat) (ts : List AVal) : Prop where
  t5 : ts[5]? = some (.ptr s 0)
  t20 : ts[20]? = some v
  t21 : ts[21]? = some (.lit (.int .i64 n))
  t22 : ts[22]? = some (.lit (.int .i64 i))
  tl : ts.length = 58

theorem hintEn (t : Nat) : E.hint 12 t = (t == 10) := by simp [E]

theorem mark_lit (st : ASt) : ∃ v st', buildSliceA E.P true 28 4 [(0, .lit (.int .u8 66)), (1, .lit (.int .u8 82)), (2, .lit (.int .u8 68)), (3, .lit (.int .u8 49))] st = some (v, st') ∧ convA E.P false 28 28 v st' = some (v, st') ∧ v = .slice st.ctr 0 4 1 (some 4) ∧ st' = st.new (.cells (markB.map byteA)) ∧ BS st' v markB ∧ Gr st st' := by
  refine ⟨.slice st.ctr 0 4 1 (some 4), st.new (.cells (markB.map byteA)), rfl, ?_, rfl, rfl, .inr ⟨st.ctr, 0, some 4, markB.map byteA, rfl, by simp [ASt.new], by simp [ASt.new], by decide, rfl⟩, Gr.new _ _⟩
  have e : convA E.P false 28 28 (.slice st.ctr 0 4 1 (some 4)) (st.new (.cells (markB.map byteA))) = (match (st.new (.cells (markB.map byteA))).heap st.ctr with
      | some (.cells _) => some (.slice st.ctr 0 4 1 (some 4), st.new (.cells (markB.map byteA)))
      | _ => none) := rfl
  have e2 : (st.new (.cells (markB.map byteA))).heap st.ctr = some (.cells (markB.map byteA)) := by simp [ASt.new]
  exact e.trans (by rw [e2])

theorem en_A (N m : Nat) (hN : 100 ≤ N) (dr : Array Oper → Bool) {v : AVal} {l : List Nd} {sum : Nat} {ts : List AVal} {st : ASt} (hp : PS st v l) (hl : l.length ≤ 1000) (hs : sum < 2 ^ 32)
    (t0 : ts[0]? = some (.lit (.int .u32 sum))) (t1 : ts[1]? = some v) (tl : ts.length = 58) :
    ∃ ts' st' s k, aexec E 12 (run E N) dr m enA ts st = some (.normal, ts', st') ∧ EnI v s l.length 0 ts' ∧ EnS st st' s (markB ++ enc sum ++ enc l.length) k := by
  have h10 : E.hint 12 10 = true := rfl
  have h11 : E.hint 12 11 = false := rfl
  have h14 : E.hint 12 14 = false := rfl
  have h18 : E.hint 12 18 = false := rfl
  obtain ⟨stA, ea, e0⟩ : ∃ stA, allocA E.P 30 st = some (.ptr st.ctr 0, stA) ∧ EnS st stA st.ctr [] none := ⟨_, alloc_w st, wat_init st, Gr.new _ _, Nat.le_refl _, fun j e => by cases e⟩
  obtain ⟨vB, stB, eb, ecv, _, _, hm, gB⟩ := mark_lit stA
  have e1 := e0.more gB
  obtain ⟨st1, k1, n1, w1⟩ := raw_run e1.w (src_bs hm) (by decide)
  have e2 := e1.put w1
  obtain ⟨st2, k2, n2, w2⟩ := num_run (x := sum) e2.w (by omega) (by decide)
  have e3 := e2.put w2
  have hle := enc_len sum
  obtain ⟨st3, k3, n3, w3⟩ := num_run (x := l.length) e3.w (by omega) (by simp [markB]; omega)
  have e4 := e3.put w3
  have c1 := n1 N (by omega)
  have c2 := n2 N (by omega)
  have c3 := n3 N (by omega)
  have cv1 := fun mt st => cv_u32 mt st hs
  have cv2 := fun mt st => cv_iu mt st (x := ((l.length : Nat) : Int)) (by omega) (by omega)
  rw [Int.toNat_natCast] at cv2
  simp only [AVal.undef, sbn, sbn', enA, code, Try.f12, Option.getD_some, Code.fst, Code.snd, Code.inn, aexec, aops, aop, Region.wanted, ayielded, aexecOp, aeval, aput, aseq, ablock, ahint, absOf, flat, nilCheckA, ANext.ofP, evals, evalPs, evalO, aresults, aresults1, aresult, aend, List.getElem?_set, List.length_set, Option.map_some, Option.bind_some, if_true, if_false, ↓reduceIte, Nat.reduceLT, Nat.reduceEqDiff, reduceCtorEq, Bool.false_eq_true, false_and, and_false, and_true, true_and, Nat.reduceAdd, Nat.reduceLeDiff, callA, List.getElem?_toArray, List.getElem?_cons_succ, List.getElem?_cons_zero, sb1, sb2, sb3, sb4, sliceU_i, sliceU_s, sliceU_p, sliceU_l, evalV, t0, t1, tl, h10, h11, h14, h18, ea, eb, ecv, cf19, c1, cv1, cf16, c2, ps_len hp, cv2, c3]
  exact ⟨_, st3, st.ctr, k3, rfl, ⟨by simp only [List.getElem?_set, List.length_set, Nat.reduceLT, Nat.reduceEqDiff, ↓reduceIte, reduceCtorEq, *], by simp only [List.getElem?_set, List.length_set, Nat.reduceLT, Nat.reduceEqDiff, ↓reduceIte, reduceCtorEq, *], by simp only [List.getElem?_set, List.length_set, Nat.reduceLT, Nat.reduceEqDiff, ↓reduceIte, reduceCtorEq, *], by simp only [List.getElem?_set, List.length_set, Nat.reduceLT, Nat.reduceEqDiff, ↓reduceIte, reduceCtorEq, *]; rfl, by simp only [List.getElem?_set, List.length_set, Nat.reduceLT, Nat.reduceEqDiff, ↓reduceIte, reduceCtorEq, *]⟩, e4⟩

theorem en_round (N m : Nat) (hN : 100 ≤ N) (dr : Array Oper → Bool) {v : AVal} {l : List Nd} {L : List UInt8} {i s : Nat} {k : Option Nat} {ts : List AVal} {base st : ASt} (hp : PS base v l) (hok : ∀ n ∈ l, NdOk n) (hl : l.length ≤ 1000) (hL : L.length ≤ 100000)
    (hw : EnS base st s L k) (h : EnI v s l.length i ts) :
    (i = l.length → ∃ ts', aexec E 12 (run E N) dr m enL ts st = some (.exit 0, ts', st) ∧ EnI v s l.length i ts') ∧
    (∀ hi : i < l.length, ∃ ts' st' k', aexec E 12 (run E N) dr m enL ts st = some (.normal, ts', st') ∧ EnI v s l.length (i + 1) ts' ∧ EnS base st' s (L ++ ndB l[i]) k') := by
  obtain ⟨t5, t20, t21, t22, tl⟩ := h
  refine ⟨fun hi => ?_, fun hi => ?_⟩
  · have hd : decide ((i : Int) < l.length) = false := by rw [decide_eq_false_iff_not]; omega
    simp only [enL, code, Try.f12, Option.getD_some, Code.fst, Code.snd, Code.inn, aexec, aops, aop, Region.wanted, ayielded, aexecOp, aeval, aput, aseq, ablock, ahint, absOf, flat, nilCheckA, ANext.ofP, evals, evalPs, evalO, aresults, aresults1, aresult, aend, List.getElem?_set, List.length_set, Option.map_some, Option.bind_some, if_true, if_false, ↓reduceIte, Nat.reduceLT, Nat.reduceEqDiff, reduceCtorEq, Bool.false_eq_true, false_and, and_false, and_true, true_and, Nat.reduceAdd, Nat.reduceLeDiff, callA, List.getElem?_toArray, List.getElem?_cons_succ, List.getElem?_cons_zero, sb1, sb2, sb3, sb4, sliceU_i, sliceU_s, sliceU_p, sliceU_l, evalV, t5, t20, t21, t22, tl, b_lss, hd]
    exact ⟨_, rfl, ⟨by simp only [List.getElem?_set, List.length_set, Nat.reduceLT, Nat.reduceEqDiff, ↓reduceIte, reduceCtorEq, *], by simp only [List.getElem?_set, List.length_set, Nat.reduceLT, Nat.reduceEqDiff, ↓reduceIte, reduceCtorEq, *], by simp only [List.getElem?_set, List.length_set, Nat.reduceLT, Nat.reduceEqDiff, ↓reduceIte, reduceCtorEq, *], by simp only [List.getElem?_set, List.length_set, Nat.reduceLT, Nat.reduceEqDiff, ↓reduceIte, reduceCtorEq, *], by simp only [List.getElem?_set, List.length_set, Nat.reduceLT, Nat.reduceEqDiff, ↓reduceIte, reduceCtorEq, *]⟩⟩
  · have hd : decide ((i : Int) < l.length) = true := by rw [decide_eq_true_eq]; omega
    obtain ⟨⟨o1, o2⟩, o3, o4, o5, o6⟩ := hok _ (List.getElem_mem hi)
    obtain ⟨p, q, i1, i2, _⟩ := ps_idx (hp.gr hw.gr) hi
    obtain ⟨f0, f1, f2, f3⟩ := fldN1 st.ctr
    have e1 := hw.more (laidN_gr st l[i])
    have at0 := laidN_at st l[i]
    obtain ⟨_, a1, _⟩ := ldN1 at0
    have l1 := enc_len l[i].th.toNat
    have l2 := enc_len l[i].sl
    have l3 := enc_len l[i].so
    have keep : ∀ {x y : ASt} {L1 L2 : List UInt8} {k1 k2 : Option Nat}, x.ctr > st.ctr → x.heap st.ctr = some (.cells l[i].cs) → (∀ j, k1 = some j → j ≠ st.ctr) → Wr x y s k1 k2 L2 → y.heap st.ctr = some (.cells l[i].cs) ∧ y.ctr > st.ctr ∧ ∀ j, k2 = some j → j ≠ st.ctr := by
      intro x y L1 L2 k1 k2 hc hx hk hwr
      have hws := hw.w.1
      refine ⟨by rw [hwr.fr.2 st.ctr hc (by omega) (fun e => hk _ e rfl)]; exact hx, Nat.lt_of_lt_of_le hc hwr.fr.1, fun j hj => ?_⟩
      rcases hwr.own j hj with h1 | h1
      · omega
      · exact hk j h1
    have hk0 : ∀ j, k = some j → j ≠ st.ctr := fun j e => by
      subst e
      have := hw.w.2.1
      omega
    obtain ⟨st1, k1, n1, w1⟩ := num_run (x := l[i].th.toNat) e1.w (by omega) (by omega)
    have e2 := e1.put w1
    obtain ⟨at1, ct1, hk1⟩ := keep (L1 := L) (by rw [laidN_ctr]; omega) at0 hk0 w1
    obtain ⟨_, _, a2, _⟩ := ldN1 at1
    obtain ⟨st2, k2, n2, w2⟩ := num_run (x := l[i].sl) e2.w o3 (by simp; omega)
    have e3 := e2.put w2
    obtain ⟨at2, ct2, hk2⟩ := keep (L1 := L) ct1 at1 hk1 w2
    obtain ⟨_, _, _, a3, _⟩ := ldN1 at2
    obtain ⟨st3, k3, n3, w3⟩ := num_run (x := l[i].so) e3.w o4 (by simp; omega)
    have e4 := e3.put w3
    obtain ⟨at3, ct3, hk3⟩ := keep (L1 := L) ct2 at2 hk2 w3
    obtain ⟨_, _, _, _, a4⟩ := ldN1 at3
    obtain ⟨st4, k4, n4, w4⟩ := num_run (x := l[i].kd.toNat) e4.w (by omega) (by simp; omega)
    have e5 := e4.put w4
    have c1 := n1 N (by omega)
    have c2 := n2 N (by omega)
    have c3 := n3 N (by omega)
    have c4 := n4 N (by omega)
    have cv1 := fun mt st => cv_iu mt st o1 o2
    have cv2 := fun mt st => cv_iu mt st o5 o6
    have hh : ∀ t, t ≠ 10 → E.hint 12 t = false := fun t ht => by rw [hintEn]; simp [ht]
    have h28 : E.hint 12 28 = false := rfl
    have h38 : E.hint 12 38 = false := rfl
    have q1 : IntKind.i64.wrap ((i : Int) + 1) = ((i + 1 : Nat) : Int) := by
      simp [IntKind.wrap, IntKind.bits, IntKind.signed]; omega
    simp only [AVal.undef, sbn, sbn', enL, code, Try.f12, Option.getD_some, Code.fst, Code.snd, Code.inn, aexec, aops, aop, Region.wanted, ayielded, aexecOp, aeval, aput, aseq, ablock, ahint, absOf, flat, nilCheckA, ANext.ofP, evals, evalPs, evalO, aresults, aresults1, aresult, aend, List.getElem?_set, List.length_set, Option.map_some, Option.bind_some, if_true, if_false, ↓reduceIte, Nat.reduceLT, Nat.reduceEqDiff, reduceCtorEq, Bool.false_eq_true, false_and, and_false, and_true, true_and, Nat.reduceAdd, Nat.reduceLeDiff, callA, List.getElem?_toArray, List.getElem?_cons_succ, List.getElem?_cons_zero, sb1, sb2, sb3, sb4, sliceU_i, sliceU_s, sliceU_p, sliceU_l, evalV, t5, t20, t21, t22, tl, b_lss, hd, i1, i2, alloc_n, store_n, f0, f1, f2, f3, a1, a2, a3, a4, h28, h38, cv1, cv2, cf16, c1, c2, c3, c4, b_add, q1]
    refine ⟨_, st4, k4, rfl, ⟨by simp only [List.getElem?_set, List.length_set, Nat.reduceLT, Nat.reduceEqDiff, ↓reduceIte, reduceCtorEq, *], by simp only [List.getElem?_set, List.length_set, Nat.reduceLT, Nat.reduceEqDiff, ↓reduceIte, reduceCtorEq, *], by simp only [List.getElem?_set, List.length_set, Nat.reduceLT, Nat.reduceEqDiff, ↓reduceIte, reduceCtorEq, *], by simp only [List.getElem?_set, List.length_set, Nat.reduceLT, Nat.reduceEqDiff, ↓reduceIte, reduceCtorEq, *], by simp only [List.getElem?_set, List.length_set, Nat.reduceLT, Nat.reduceEqDiff, ↓reduceIte, reduceCtorEq, *]⟩, ?_⟩
    have : L ++ ndB l[i] = L ++ enc l[i].th.toNat ++ enc l[i].sl ++ enc l[i].so ++ enc l[i].kd.toNat := by
      simp only [ndB, List.append_assoc]
    rw [this]
    exact e5

/-- what was made here of bytes: a block of its own -/
structure Own0 (base st : ASt) (v : AVal) (l : List UInt8) : Prop where
  v : ∃ s, v = .slice s 0 l.length 1 none ∧ base.ctr ≤ s ∧ s < st.ctr ∧ st.heap s = some (.cells (l.map byteA))
  gr : Gr base st
theorem Own0.bs {base st : ASt} {v : AVal} {l : List UInt8} (h : Own0 base st v l) : BS st v l := by
  obtain ⟨s, e, _, h2, h3⟩ := h.v
  exact .inr ⟨s, 0, none, _, e, h2, h3, by simp, by rw [List.drop_zero, List.take_of_length_le (by simp)]⟩

theorem le4_len (c : Nat) : (le4 c).length = 4 := rfl

theorem en_E (N m : Nat) (hN : 50000 ≤ N) (dr : Array Oper → Bool) {v : AVal} {n i s : Nat} {L : List UInt8} {k : Option Nat} {ts : List AVal} {base st : ASt} (hL : L.length ≤ 49000) (h4 : 4 ≤ L.length) (hw : EnS base st s L k) (h : EnI v s n i ts) :
    ∃ ts' st' v', aexec E 12 (run E N) dr m enE ts st = some (.ret, ts', st') ∧ ts'[4]? = some v' ∧ Own0 base st' v' (L ++ le4 (sumN L)) := by
  obtain ⟨t5, t20, t21, t22, tl⟩ := h
  obtain ⟨b1, st1, n1, bb, g1, hb1⟩ := bytes_mut hw.w (by omega)
  have e1 := hw.more g1
  obtain ⟨st2, n2, g2⟩ := sum_run bb (by omega)
  have e2 := e1.more g2
  have hx : ∀ st, srcA E.P 5 28 false 1 st (.islice 1 ((le4 (sumN L)).map byteA) .exact) = some ((le4 (sumN L)).map byteA) := fun st => src_islice byteT (bytes_ok _)
  obtain ⟨st3, k3, n3, w3⟩ := raw_run e2.w (hx st2) (by rw [le4_len]; omega)
  have e3 := e2.put w3
  obtain ⟨b4, st4, n4, bb4, g4, hb4⟩ := bytes_mut e3.w (by rw [List.length_append, le4_len]; omega)
  have hne : L ++ le4 (sumN L) ≠ [] := by
    intro e
    have := congrArg List.length e
    rw [List.length_append, le4_len] at this
    simp at this
  obtain ⟨hv4, hs4⟩ := hb4 hne
  have c1 := n1 N (by omega)
  have c2 := n2 N (by omega)
  have c3 := n3 N (by omega)
  have c4 := n4 N (by omega)
  have hc : ∀ x mt st, convA E.P mt 22 5 (.lit (.int .u32 ((x : Nat) : Int))) st = some (byteA (UInt8.ofNat x), st) := fun x mt st => cv_u8 mt st x
  have hh : ∀ t, t ≠ 10 → E.hint 12 t = false := fun t ht => by rw [hintEn]; simp [ht]
  have h45 : E.hint 12 45 = false := rfl
  have h48 : E.hint 12 48 = false := rfl
  have h51 : E.hint 12 51 = false := rfl
  have h54 : E.hint 12 54 = false := rfl
  have h55 : E.hint 12 55 = false := rfl
  have e4 : [UInt8.ofNat (sumN L), UInt8.ofNat (sumN L / 256), UInt8.ofNat (sumN L / 65536), UInt8.ofNat (sumN L / 16777216)] = le4 (sumN L) := rfl
  simp only [AVal.undef, sbn, sbn', enE, code, Try.f12, Option.getD_some, Code.fst, Code.snd, Code.inn, aexec, aops, aop, Region.wanted, ayielded, aexecOp, aeval, aput, aseq, ablock, ahint, absOf, flat, nilCheckA, ANext.ofP, evals, evalPs, evalO, aresults, aresults1, aresult, aend, List.getElem?_set, List.length_set, Option.map_some, Option.bind_some, if_true, if_false, ↓reduceIte, Nat.reduceLT, Nat.reduceEqDiff, reduceCtorEq, Bool.false_eq_true, false_and, and_false, and_true, true_and, Nat.reduceAdd, Nat.reduceLeDiff, callA, List.getElem?_toArray, List.getElem?_cons_succ, List.getElem?_cons_zero, sb1, sb2, sb3, sb4, sliceU_i, sliceU_s, sliceU_p, sliceU_l, evalV, t5, t20, t21, t22, tl, h45, h48, h51, h54, h55, cf18, c1, cf21, c2, hc, b_shr8, b_shr16, b_shr24, bs4, e4, cf19, c3, c4]
  refine ⟨_, st4, b4, rfl, by simp only [List.getElem?_set, List.length_set, Nat.reduceLT, Nat.reduceEqDiff, ↓reduceIte, reduceCtorEq, *], ⟨st3.ctr, hv4, Nat.le_trans e3.gr.1 (Nat.le_refl _), ?_, ?_⟩, e3.gr.trans g4⟩
  · rw [hs4]; simp [ASt.new]
  · rw [hs4]; simp [ASt.new]

theorem enc_run {v : AVal} {l : List Nd} {sum : Nat} {st : ASt} (hp : PS st v l) (hok : ∀ n ∈ l, NdOk n) (hl : l.length ≤ 1000) (hs : sum < 2 ^ 32) :
    ∃ v' st', RetN E 50001 12 [.lit (.int .u32 sum), v] st v' st' ∧ Own0 st st' v' (certB sum l) := by
  obtain ⟨ts, et, t0, t1, tl⟩ : ∃ ts : List AVal, ([AVal.lit (.int .u32 sum), v] ++ List.replicate (Try.f12.ntmps - [AVal.lit (.int .u32 sum), v].length) .undef) = ts ∧ ts[0]? = some (.lit (.int .u32 sum)) ∧ ts[1]? = some v ∧ ts.length = 58 := ⟨_, rfl, rfl, rfl, rfl⟩
  have hres : ∀ ts st v, ts[4]? = some v → aresults E Try.f12 ts st = some v := by
    intro ts st v h
    unfold aresults
    simp only [Try.f12, aresults1, aresult, h]
  suffices H : ∀ N, 50000 ≤ N → ∃ v' st', run E (N + 1) 12 [.lit (.int .u32 sum), v] st = some (.returned v', st') ∧ Own0 st st' v' (certB sum l) by
    obtain ⟨v', st', h1, h2⟩ := H 50000 (Nat.le_refl _)
    exact ⟨v', st', RetN.of h1, h2⟩
  intro N hN
  obtain ⟨ts1, st1, s, k, e1, i1, w1⟩ := en_A N N (by omega) (drawB E 12) hp hl hs t0 t1 tl
  have key := aloop_rule (b := aexec E 12 (run E N) (drawB E 12) N enL)
    (I := fun f ts s' => ∃ i k, f + i = l.length ∧ EnI v s l.length i ts ∧ EnS st s' s (markB ++ enc sum ++ enc l.length ++ (l.take i).flatMap ndB) k)
    (Q := fun ex ts' s' => ex = .exit 0 ∧ ∃ k, EnI v s l.length l.length ts' ∧ EnS st s' s (bodyB sum l) k)
    (step := by
      rintro f ts s' ⟨i, k, hf, hI, hw⟩
      have hb : (markB ++ enc sum ++ enc l.length ++ (l.take i).flatMap ndB).length ≤ 100000 := by
        have h1 := enc_len sum
        have h2 := enc_len l.length
        have h3 := ndsB_len (l.take i)
        have h4 : (l.take i).length ≤ l.length := by rw [List.length_take]; omega
        simp only [markB, List.length_append, List.length_cons, List.length_nil]; omega
      obtain ⟨ha, hb⟩ := en_round N N (by omega) (drawB E 12) hp hok hl hb hw hI
      by_cases he : i = l.length
      · obtain ⟨ts', e, h'⟩ := ha he
        subst he
        rw [List.take_length] at hw
        exact .inr ⟨_, ts', _, e, by simp, rfl, k, h', hw⟩
      · have hi : i < l.length := by omega
        obtain ⟨ts', st', k', e, h', hw'⟩ := hb hi
        refine .inl ⟨ts', st', e, f - 1, by omega, i + 1, k', by omega, h', ?_⟩
        have : (l.take (i + 1)).flatMap ndB = (l.take i).flatMap ndB ++ ndB l[i] := by
          rw [List.take_succ_eq_append_getElem hi, List.flatMap_append, List.flatMap_cons, List.flatMap_nil, List.append_nil]
        rw [this, ← List.append_assoc]
        exact hw')
    N l.length ts1 st1 ⟨0, k, by omega, i1, by simpa using w1⟩ (by omega)
  obtain ⟨ex, ts2, st2, e2, rfl, k2, i2, w2⟩ := key
  have hbl := bodyB_len sum l
  obtain ⟨ts3, st3, v3, e3, r3, o3⟩ := en_E N N hN (drawB E 12) (by omega) (bodyB_pos sum l) w2 i2
  refine ⟨v3, st3, ?_, o3⟩
  rw [run_code (fn := Try.f12) rfl rfl, et, en_parts]
  simp only [e1, aseq, e2, ablock, if_true, e3, aend, hres _ _ _ r3, Option.map_some]

end Go.Proofs.YtnndngoanknemaaV
