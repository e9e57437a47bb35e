/- What laws about bytes lean on: numbers and bytes appended by the reference, Raw, arguments. No condition. -/
import Derived.Test.YtnndngoanknemaaVB
import Derived.Test.YtnndngoanknemaaAD
namespace Go.Proofs.YtnndngoanknemaaV
open Go Go.RowKit Go.Proofs.YtnndngoanknemaaA
set_option linter.unusedVariables false
set_option linter.unusedSimpArgs false
set_option maxRecDepth 100000

theorem cf15 (a : List AVal) (st : ASt) : callFuncA E.P 23 a st = some (.enter 23 a st) := rfl
theorem u4 : E.P.underlying 4 = some .bool := rfl

theorem mixed : E.P.follows .mixedOrders = true := by kernel_rfl

end Go.Proofs.YtnndngoanknemaaV

namespace Go.Proofs.YtnndngoanknemaaV
open Go Go.RowKit Go.Proofs.YtnndngoanknemaaA
set_option linter.unusedVariables false
set_option linter.unusedSimpArgs false
set_option maxRecDepth 100000

theorem encF_bits : ∀ (m x : Nat), x < 128 ^ (m + 1) → ∃ (L : Nat) (b : UInt8) (r : List UInt8), encF m x = r ++ [b] ∧ r.length = L ∧ b < 128 ∧ ((L = 0 ∧ x < 128) ∨ (128 ^ L ≤ x ∧ x < 128 ^ (L + 1)))
  | 0, x, h => by
    simp only [Nat.zero_add, Nat.pow_one] at h
    refine ⟨0, UInt8.ofNat x, [], rfl, rfl, ?_, .inl ⟨rfl, h⟩⟩
    rw [UInt8.lt_iff_toNat_lt, UInt8.toNat_ofNat_of_lt' (by show x < 256; omega)]
    exact h
  | m + 1, x, h => by
    unfold encF
    by_cases h1 : x < 128
    · rw [if_pos h1]
      refine ⟨0, UInt8.ofNat x, [], rfl, rfl, ?_, .inl ⟨rfl, h1⟩⟩
      rw [UInt8.lt_iff_toNat_lt, UInt8.toNat_ofNat_of_lt' (by show x < 256; omega)]
      exact h1
    · rw [if_neg h1]
      have hx' : x / 128 < 128 ^ (m + 1) := by
        rw [Nat.div_lt_iff_lt_mul (by decide), ← Nat.pow_succ]; exact h
      obtain ⟨L, b, r, e, hl, hb, hc⟩ := encF_bits m (x / 128) hx'
      refine ⟨L + 1, b, UInt8.ofNat (x % 128 + 128) :: r, by rw [e]; rfl, by simp [hl], hb, .inr ?_⟩
      rcases hc with ⟨rfl, h2⟩ | ⟨h2, h3⟩
      · simp only [Nat.zero_add, Nat.pow_one]
        refine ⟨by omega, ?_⟩
        rw [Nat.div_lt_iff_lt_mul (by decide)] at h2
        have : 128 ^ (1 + 1) = 128 * 128 := rfl
        omega
      · rw [Nat.le_div_iff_mul_le (by decide), ← Nat.pow_succ] at h2
        rw [Nat.div_lt_iff_lt_mul (by decide), ← Nat.pow_succ] at h3
        exact ⟨h2, h3⟩

/-- bytes that own the room behind them -/
structure Own' (st : ASt) (l : List UInt8) (k : Option Nat) : Prop where
  nil : k = none → l = []
  room : ∀ t, k = some t → t < st.ctr ∧ st.heap t = some (.cells [])

theorem app_room {st : ASt} {l n : List UInt8} {k : Option Nat} {x : AVal} (h : Own' st l k) (hx : srcA E.P 5 28 false 1 st x = some (n.map byteA)) (hl : l.length + n.length ≤ 1073741824) :
    ∃ k' st', appendA E.P false 28 28 (wval l k) x st = some (wval (l ++ n) k', st') ∧ Own' st' (l ++ n) k' ∧ st.ctr ≤ st'.ctr ∧ (∀ j, j < st.ctr → k ≠ some j → st'.heap j = st.heap j) ∧ (∀ j, k' = some j → st.ctr ≤ j ∨ k = some j) := by
  by_cases hn : n = []
  · subst hn
    refine ⟨k, st, ?_, by simpa using h, Nat.le_refl _, fun _ _ _ => rfl, fun j e => .inr e⟩
    rw [List.append_nil]
    exact app_none byteT hx (by cases k; exact .inl rfl; exact .inr ⟨_, _, rfl⟩)
  · refine ⟨some st.ctr, (wclr st k).new (.cells []), ?_, ⟨fun e => (by cases e), fun t e => ?_⟩, ?_, fun j hj hk => ?_, fun j e => .inl (by cases e; exact Nat.le_refl _)⟩
    · have hne : n.map byteA ≠ [] := by simpa using hn
      cases k with
      | none =>
        have := h.nil rfl
        subst this
        exact app_nil byteT hx hne (by simpa using hl)
      | some t =>
        show appendA E.P false 28 28 (.islice 1 (l.map byteA) (.tok t)) x st = some (.islice 1 ((l ++ n).map byteA) (.tok st.ctr), _)
        rw [List.map_append]
        exact app_tok byteT (bytes_ok l) hx hne (by simpa using hl) (h.room t rfl).2
    · cases e
      have := wclr_ctr st k
      refine ⟨by simp only [ASt.new]; omega, ?_⟩
      rw [← this]; simp [ASt.new]
    · have := wclr_ctr st k
      simp only [ASt.new]; omega
    · rw [ASt.new_ne _ _ _ (by rw [wclr_ctr]; omega), wclr_heap _ _ _ hk]

theorem wat_own {st : ASt} {s : Nat} {l : List UInt8} {k : Option Nat} (h : WAt st s l k) : Own' st l k := by
  refine ⟨fun e => ?_, fun t e => ?_⟩
  · subst e; exact h.2.1
  · subst e; exact ⟨h.2.1, h.2.2.2.2⟩

theorem load_w {st : ASt} {s : Nat} {l : List UInt8} {k : Option Nat} (hw : WAt st s l k) : loadA E.P 28 st (.ptr s 0) = some (wval l k) := by
  have : loadA E.P 28 st (.ptr s 0) = (match st.heap s with
    | some (.cells cs) => partA E.P 28 cs 0
    | _ => none) := rfl
  rw [this, hw.cell]
  rfl

theorem store_w {st : ASt} {s : Nat} {v : AVal} (hs : st.heap s = some (.cells [v])) (l : List UInt8) (k : Option Nat) : storeA E.P 28 st (.ptr s 0) (wval l k) = some (st.set s (some (.cells [wval l k]))) := by
  have : storeA E.P 28 st (.ptr s 0) (wval l k) = (match st.heap s with
    | some (.cells cs) => if szOf E.P 28 = some (wval l k).cells.length ∧ 0 + (wval l k).cells.length ≤ cs.length ∧ (wval l k).cells.all AVal.isCell = true then some (st.set s (some (.cells (putL cs 0 (wval l k).cells)))) else none
    | _ => none) := rfl
  rw [this, hs]
  cases k <;> rfl

theorem raw_run {s : Nat} {l n : List UInt8} {k : Option Nat} {st : ASt} {x : AVal} (hw : WAt st s l k) (hx : srcA E.P 5 28 false 1 st x = some (n.map byteA)) (hlen : l.length + n.length ≤ 1000000) :
    ∃ st' k', RetN E 1 24 [.ptr s 0, x] st (.tuple []) st' ∧ Wr st st' s k k' (l ++ n) := by
  obtain ⟨k', st1, e, ho, hc, hf, hk'⟩ := app_room (wat_own hw) hx (by omega)
  have h1 := hw.1
  have hks : k ≠ some s := by
    intro e; subst e; exact hw.2.2.1 rfl
  have hs : st1.heap s = some (.cells [wval l k]) := by rw [hf s h1 hks]; exact hw.cell
  have hk's : k' ≠ some s := by
    intro e2
    rcases hk' s e2 with h2 | h2
    · omega
    · exact hks h2
  refine ⟨st1.set s (some (.cells [wval (l ++ n) k'])), k', RetN.of (n := 0 + 1) ?_, ?_, ⟨?_, fun j hj hne hk => ?_⟩, hk'⟩
  · rw [run_code (fn := Try.f24) rfl rfl]
    have hh : ∀ t, E.hint 24 t = false := fun _ => rfl
    obtain ⟨ts, et, t0, t1, tl⟩ : ∃ ts : List AVal, ([AVal.ptr s 0, x] ++ List.replicate (Try.f24.ntmps - [AVal.ptr s 0, x].length) .undef) = ts ∧ ts[0]? = some (.ptr s 0) ∧ ts[1]? = some x ∧ ts.length = 13 := ⟨_, rfl, rfl, rfl, rfl⟩
    rw [et]
    simp only [code, Try.f24, Option.getD_some, aexec, aops, aop, Region.wanted, ayielded, aexecOp, aeval, aput, aseq, ablock, ahint, absOf, flat, nilCheckA, ANext.ofP, evals, evalPs, evalO, aresults, aresults1, aresult, aend, List.getElem?_set, List.length_set, Option.map_some, Option.bind_some, if_true, if_false, ↓reduceIte, Nat.reduceLT, Nat.reduceEqDiff, reduceCtorEq, Bool.false_eq_true, false_and, and_false, and_true, true_and, Nat.reduceAdd, Nat.reduceLeDiff, callA, List.getElem?_toArray, List.getElem?_cons_succ, List.getElem?_cons_zero, sb1, sb2, sb3, sb4, sliceU_i, sliceU_s, sliceU_p, sliceU_l, evalV, t0, t1, tl, hh, fld26, load_w hw, builtinA, e, store_w hs]
  · refine ⟨by simp only [ASt.set]; omega, ?_⟩
    cases hk2 : k' with
    | none =>
      have h3 := ho.nil hk2
      exact ⟨h3, by simp [ASt.set, wval]⟩
    | some t =>
      obtain ⟨h3, h4⟩ := ho.room t hk2
      have hts : t ≠ s := fun e2 => hk's (by rw [hk2, e2])
      exact ⟨by simpa [ASt.set] using h3, hts, by simp [ASt.set, wval], by rw [ASt.set_ne _ _ _ _ hts]; exact h4⟩
  · simp only [ASt.set]; exact hc
  · rw [ASt.set_ne _ _ _ _ hne]; exact hf j hj hk

theorem cf20 (a : List AVal) (st : ASt) : callFuncA E.P 33 a st = some (.enter 33 a st) := rfl
theorem cf19 (a : List AVal) (st : ASt) : callFuncA E.P 24 a st = some (.enter 24 a st) := rfl

theorem refnum_run : ∀ (m x : Nat) (st : ASt), x < 128 ^ (m + 1) → x < 2 ^ 64 → m ≤ 9 → ∃ v st', RetN E (m + 1) 33 [.lit (.int .u64 x)] st v st' ∧ IsB v (encF m x) ∧ Gr st st' := by
  intro m
  induction m with
  | zero =>
    intro x st hx hx2 _
    simp only [Nat.zero_add, Nat.pow_one] at hx
    refine ⟨.islice 1 [byteA (UInt8.ofNat x)] .exact, st, RetN.of (n := 0 + 1) ?_, .inl ⟨_, rfl⟩, Gr.refl _⟩
    rw [run_code (fn := Try.f33) rfl rfl]
    have hh : ∀ t, E.hint 33 t = false := fun _ => rfl
    obtain ⟨ts, et, t0, tl⟩ : ∃ ts : List AVal, ([AVal.lit (.int .u64 x)] ++ List.replicate (Try.f33.ntmps - [AVal.lit (.int .u64 x)].length) .undef) = ts ∧ ts[0]? = some (.lit (.int .u64 x)) ∧ ts.length = 17 := ⟨_, rfl, rfl, rfl⟩
    rw [et]
    have hd : decide ((x : Int) < 128) = true := by rw [decide_eq_true_eq]; omega
    have hc := c_int (mt := false) (st := st) (k := .u64) (n := (x : Int)) u22 u5
    rw [wrap_u8, Nat.mod_eq_of_lt (by omega), byteA_lit x (by omega)] at hc
    simp only [code, Try.f33, Option.getD_some, aexec, aops, aop, Region.wanted, ayielded, aexecOp, aeval, aput, aseq, ablock, ahint, absOf, flat, nilCheckA, ANext.ofP, evals, evalPs, evalO, aresults, aresults1, aresult, aend, List.getElem?_set, List.length_set, Option.map_some, Option.bind_some, if_true, if_false, ↓reduceIte, Nat.reduceLT, Nat.reduceEqDiff, reduceCtorEq, Bool.false_eq_true, false_and, and_false, and_true, true_and, Nat.reduceAdd, Nat.reduceLeDiff, callA, List.getElem?_toArray, List.getElem?_cons_succ, List.getElem?_cons_zero, sb1, sb2, sb3, sb4, sliceU_i, sliceU_s, sliceU_p, sliceU_l, evalV, t0, tl, hh, b_lss, hd, hc, bs1 (byteA (UInt8.ofNat x)) st rfl]
  | succ m ih =>
    intro x st hx hx2 hm
    rw [encF]
    by_cases h1 : x < 128
    · rw [if_pos h1]
      refine ⟨.islice 1 [byteA (UInt8.ofNat x)] .exact, st, RetN.of (n := m + 1 + 1) ?_, .inl ⟨_, rfl⟩, Gr.refl _⟩
      rw [run_code (fn := Try.f33) rfl rfl]
      have hh : ∀ t, E.hint 33 t = false := fun _ => rfl
      obtain ⟨ts, et, t0, tl⟩ : ∃ ts : List AVal, ([AVal.lit (.int .u64 x)] ++ List.replicate (Try.f33.ntmps - [AVal.lit (.int .u64 x)].length) .undef) = ts ∧ ts[0]? = some (.lit (.int .u64 x)) ∧ ts.length = 17 := ⟨_, rfl, rfl, rfl⟩
      rw [et]
      have hd : decide ((x : Int) < 128) = true := by rw [decide_eq_true_eq]; omega
      have hc := c_int (mt := false) (st := st) (k := .u64) (n := (x : Int)) u22 u5
      rw [wrap_u8, Nat.mod_eq_of_lt (by omega), byteA_lit x (by omega)] at hc
      simp only [code, Try.f33, Option.getD_some, aexec, aops, aop, Region.wanted, ayielded, aexecOp, aeval, aput, aseq, ablock, ahint, absOf, flat, nilCheckA, ANext.ofP, evals, evalPs, evalO, aresults, aresults1, aresult, aend, List.getElem?_set, List.length_set, Option.map_some, Option.bind_some, if_true, if_false, ↓reduceIte, Nat.reduceLT, Nat.reduceEqDiff, reduceCtorEq, Bool.false_eq_true, false_and, and_false, and_true, true_and, Nat.reduceAdd, Nat.reduceLeDiff, callA, List.getElem?_toArray, List.getElem?_cons_succ, List.getElem?_cons_zero, sb1, sb2, sb3, sb4, sliceU_i, sliceU_s, sliceU_p, sliceU_l, evalV, t0, tl, hh, b_lss, hd, hc, bs1 (byteA (UInt8.ofNat x)) st rfl]
    · rw [if_neg h1]
      have hx' : x / 128 < 128 ^ (m + 1) := by
        rw [Nat.div_lt_iff_lt_mul (by decide), ← Nat.pow_succ]; exact hx
      obtain ⟨v, st', n1, b1, g1⟩ := ih (x / 128) st hx' (by omega) (by omega)
      have hne : encF m (x / 128) ≠ [] := by
        obtain ⟨L, b, r, e, _⟩ := encF_bits m (x / 128) hx'
        rw [e]; simp
      have happ := app_exact (st := st') byteT (es := [byteA (UInt8.ofNat (x % 128 + 128))]) (x := v) rfl (src_b b1 st') (by simpa using hne) (by have := encF_len m (x / 128); simp; omega)
      refine ⟨.islice 1 ((UInt8.ofNat (x % 128 + 128) :: encF m (x / 128)).map byteA) (.tok st'.ctr), st'.new (.cells []), RetN.of (n := m + 1 + 1) ?_, .inl ⟨_, rfl⟩, g1.trans (Gr.new st' (.cells []))⟩
      · rw [run_code (fn := Try.f33) rfl rfl]
        have hh : ∀ t, E.hint 33 t = false := fun _ => rfl
        obtain ⟨ts, et, t0, tl⟩ : ∃ ts : List AVal, ([AVal.lit (.int .u64 x)] ++ List.replicate (Try.f33.ntmps - [AVal.lit (.int .u64 x)].length) .undef) = ts ∧ ts[0]? = some (.lit (.int .u64 x)) ∧ ts.length = 17 := ⟨_, rfl, rfl, rfl⟩
        rw [et]
        have hd : decide ((x : Int) < 128) = false := by rw [decide_eq_false_iff_not]; omega
        have q1 : (x : Int).tmod 128 = ((x % 128 : Nat) : Int) := by rw [Int.tmod_eq_emod_of_nonneg (by omega)]; rfl
        have q2 : IntKind.u64.wrap (128 + ((x % 128 : Nat) : Int)) = ((x % 128 + 128 : Nat) : Int) := by
          have : (128 + ((x % 128 : Nat) : Int)) = ((x % 128 + 128 : Nat) : Int) := by omega
          rw [this]
          exact wrap_u rfl (by simp only [IntKind.bits]; omega)
        have q3 : IntKind.u64.wrap ((x : Int).tdiv 128) = ((x / 128 : Nat) : Int) := by
          have : (x : Int).tdiv 128 = ((x / 128 : Nat) : Int) := by rw [Int.tdiv_eq_ediv_of_nonneg (by omega)]; rfl
          rw [this]
          exact wrap_u rfl (by simp only [IntKind.bits]; omega)
        have hc := c_int (mt := false) (st := st) (k := .u64) (n := ((x % 128 + 128 : Nat) : Int)) u22 u5
        rw [wrap_u8, Nat.mod_eq_of_lt (show x % 128 + 128 < 256 by omega), byteA_lit (x % 128 + 128) (by omega)] at hc
        have c1 := n1 (m + 1) (Nat.le_refl _)
        simp only [code, Try.f33, Option.getD_some, aexec, aops, aop, Region.wanted, ayielded, aexecOp, aeval, aput, aseq, ablock, ahint, absOf, flat, nilCheckA, ANext.ofP, evals, evalPs, evalO, aresults, aresults1, aresult, aend, List.getElem?_set, List.length_set, Option.map_some, Option.bind_some, if_true, if_false, ↓reduceIte, Nat.reduceLT, Nat.reduceEqDiff, reduceCtorEq, Bool.false_eq_true, false_and, and_false, and_true, true_and, Nat.reduceAdd, Nat.reduceLeDiff, callA, List.getElem?_toArray, List.getElem?_cons_succ, List.getElem?_cons_zero, sb1, sb2, sb3, sb4, sliceU_i, sliceU_s, sliceU_p, sliceU_l, evalV, t0, tl, hh, b_lss, hd, b_rem _ _ _ _ _ _ _ (show (128 : Int) ≠ 0 by decide), q1, b_add, q2, hc, bs1 (byteA (UInt8.ofNat (x % 128 + 128))) st rfl, b_quo _ _ _ _ _ _ _ (show (128 : Int) ≠ 0 by decide), q3, cf20, c1, builtinA, happ]
        rfl

end Go.Proofs.YtnndngoanknemaaV
namespace Go.Proofs.YtnndngoanknemaaV
open Go Go.RowKit Go.Proofs.YtnndngoanknemaaA
set_option linter.unusedVariables false
set_option linter.unusedSimpArgs false
set_option maxRecDepth 100000

theorem c5 : E.P.cellsOf 5 = 1 := rfl
theorem row5 (c : AVal) : ofRow E.P 5 [c] = c := rfl

theorem dat_int {n : Nat} {t : TypeId} {k : IntKind} {cells : List AVal} (hu : E.P.underlying t = some (.int k)) (h : Dat E.P n t cells) : ∃ i, cells = [.lit (.int k i)] ∧ k.min ≤ i ∧ i ≤ k.max := by
  cases n with
  | zero => cases h
  | succ n => unfold Dat at h; rw [hu] at h; exact h

theorem dat_bool {n : Nat} {t : TypeId} {cells : List AVal} (hu : E.P.underlying t = some .bool) (h : Dat E.P n t cells) : ∃ b, cells = [.lit (.bool b)] := by
  cases n with
  | zero => cases h
  | succ n => unfold Dat at h; rw [hu] at h; exact h

theorem byte_rows {n : Nat} : ∀ rows : List (List AVal), (∀ r ∈ rows, Dat E.P n 5 r) → ∃ l : List UInt8, rows.map (ofRow E.P 5) = l.map byteA
  | [], h => ⟨[], rfl⟩
  | r :: rows, h => by
    obtain ⟨l, hl⟩ := byte_rows rows fun x hx => h x (List.mem_cons_of_mem _ hx)
    obtain ⟨i, rfl, h1, h2⟩ := dat_int u5 (h r (List.mem_cons_self ..))
    have h1' : (0 : Int) ≤ i := h1
    have h2' : i ≤ 255 := h2
    refine ⟨UInt8.ofNat i.toNat :: l, ?_⟩
    rw [List.map_cons, List.map_cons, hl, row5, ← byteA_lit i.toNat (by omega), Int.toNat_of_nonneg h1']

theorem dat_bytes {n : Nat} {cells : List AVal} (h : Dat E.P n 28 cells) : ∃ v l, cells = [v] ∧ IsB v l := by
  cases n with
  | zero => cases h
  | succ n =>
    unfold Dat at h
    rw [u24] at h
    rcases h with ⟨a, rfl⟩ | ⟨rows, rfl, _, hr⟩
    · exact ⟨_, [], rfl, .inr ⟨a, rfl, rfl⟩⟩
    · obtain ⟨l, hl⟩ := byte_rows rows fun r hr' => (hr r hr').2.2
      exact ⟨_, l, rfl, .inl ⟨.unk, by rw [hl, c5]⟩⟩

theorem datv_bytes {n : Nat} {v : AVal} (h : DatV E.P n 28 v) : ∃ l, IsB v l := by
  obtain ⟨cells, h1, _, rfl⟩ := h
  obtain ⟨v, l, rfl, hb⟩ := dat_bytes h1
  exact ⟨l, hb⟩

theorem datv_int {n : Nat} {t : TypeId} {k : IntKind} {v : AVal} (hu : E.P.underlying t = some (.int k)) (hr : rowB E.P t = false) (h : DatV E.P n t v) : ∃ i, v = .lit (.int k i) ∧ k.min ≤ i ∧ i ≤ k.max := by
  obtain ⟨cells, h1, _, rfl⟩ := h
  obtain ⟨i, rfl, h2⟩ := dat_int hu h1
  exact ⟨i, by unfold ofRow; rw [hr]; rfl, h2⟩

/-- an item -/

theorem b_app {P : Program} {mt : Bool} {t tx ty : TypeId} {cs : Array Bool} {s x : AVal} {st : ASt} : builtinA P mt .append #[t, tx] ty cs [s, x] st = (appendA P mt t tx s x st).map .ofP := rfl

end Go.Proofs.YtnndngoanknemaaV
