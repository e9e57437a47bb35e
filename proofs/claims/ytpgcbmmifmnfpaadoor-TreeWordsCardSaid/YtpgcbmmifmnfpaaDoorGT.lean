/- What walks through these functions need: pieces of their code, single operations reckoned. No condition. -/
import Derived.Test.YtpgcbmmifmnfpaaDoorEA
import Derived.Test.YtpgcbmmifmnfpaaDoorAK
import Derived.Test.YtpgcbmmifmnfpaaDoorST
namespace Go.Proofs.YtpgcbmmifmnfpaaDoorV
open Go Go.RowKit Go.Proofs.YtpgcbmmifmnfpaaDoorA
set_option linter.unusedVariables false
set_option linter.unusedSimpArgs false
set_option maxRecDepth 100000

/-! ### braidwork/braidworklaw04.TreeWords -/
noncomputable def B3 : Code := code Tryd.f3
noncomputable def N3_0 := cp B3 []
noncomputable def R3_0 := cp B3 [1]
noncomputable def r3_0 := (⟨r_mk rfl (by simp only [R3_0, B3, code, Tryd.f3, dc, Poe]; exact rfl)⟩ : PLift (Goe E 3 R3_0 _))
noncomputable def N3_1 := cp B3 [2]
noncomputable def N3_2 := cp B3 [2, 1]
noncomputable def R3_1 := cp B3 [2, 1, 1]
noncomputable def r3_1 := (⟨r_mk rfl (by simp only [R3_1, B3, code, Tryd.f3, dc, Poe]; exact rfl)⟩ : PLift (Goe E 3 R3_1 _))
noncomputable def N3_3 := cp B3 [2, 1, 2]
noncomputable def N3_4 := cp B3 [2, 1, 2, 6]
noncomputable def R3_2 := cp B3 [2, 1, 2, 6, 1]
noncomputable def r3_2 := (⟨r_mk rfl (by simp only [R3_2, B3, code, Tryd.f3, dc, Poe]; exact rfl)⟩ : PLift (Goe E 3 R3_2 _))
theorem n3_4 : Gqe E 3 N3_4 (.seq R3_2 .ret) := gq rfl
theorem n3_3 : Gqe E 3 N3_3 (.cond (.tmp 11) N3_4 .skip) := gq rfl
theorem n3_2 : Gqe E 3 N3_2 (.seq R3_1 N3_3) := gq rfl
noncomputable def N3_5 := cp B3 [2, 2]
noncomputable def R3_3 := cp B3 [2, 2, 1]
noncomputable def r3_3 := (⟨r_mk rfl (by simp only [R3_3, B3, code, Tryd.f3, dc, Poe]; exact rfl)⟩ : PLift (Goe E 3 R3_3 _))
noncomputable def N3_6 := cp B3 [2, 2, 2]
noncomputable def R3_4 := cp B3 [2, 2, 2, 1]
noncomputable def r3_4 := (⟨r_mk rfl (by simp only [R3_4, B3, code, Tryd.f3, dc, Poe]; exact rfl)⟩ : PLift (Goe E 3 R3_4 _))
noncomputable def N3_7 := cp B3 [2, 2, 2, 2]
noncomputable def N3_8 := cp B3 [2, 2, 2, 2, 1]
noncomputable def R3_5 := cp B3 [2, 2, 2, 2, 1, 1]
noncomputable def r3_5 := (⟨r_mk rfl (by simp only [R3_5, B3, code, Tryd.f3, dc, Poe]; exact rfl)⟩ : PLift (Goe E 3 R3_5 _))
noncomputable def N3_9 := cp B3 [2, 2, 2, 2, 1, 2]
noncomputable def N3_10 := cp B3 [2, 2, 2, 2, 1, 2, 6]
noncomputable def R3_6 := cp B3 [2, 2, 2, 2, 1, 2, 6]
noncomputable def r3_6 := (⟨r_mk rfl (by simp only [R3_6, B3, code, Tryd.f3, dc, Poe]; exact rfl)⟩ : PLift (Goe E 3 R3_6 _))
theorem n3_10 : Gqe E 3 N3_10 R3_6 := gq rfl
theorem n3_9 : Gqe E 3 N3_9 (.cond (.tmp 19) N3_10 .skip) := gq rfl
theorem n3_8 : Gqe E 3 N3_8 (.seq R3_5 N3_9) := gq rfl
noncomputable def N3_11 := cp B3 [2, 2, 2, 2, 2]
noncomputable def N3_12 := cp B3 [2, 2, 2, 2, 2, 1]
noncomputable def R3_7 := cp B3 [2, 2, 2, 2, 2, 1, 1]
noncomputable def r3_7 := (⟨r_mk rfl (by simp only [R3_7, B3, code, Tryd.f3, dc, Poe]; exact rfl)⟩ : PLift (Goe E 3 R3_7 _))
noncomputable def N3_13 := cp B3 [2, 2, 2, 2, 2, 1, 2]
noncomputable def N3_14 := cp B3 [2, 2, 2, 2, 2, 1, 2, 6]
noncomputable def R3_8 := cp B3 [2, 2, 2, 2, 2, 1, 2, 6, 1]
noncomputable def r3_8 := (⟨r_mk rfl (by simp only [R3_8, B3, code, Tryd.f3, dc, Poe]; exact rfl)⟩ : PLift (Goe E 3 R3_8 _))
theorem n3_14 : Gqe E 3 N3_14 (.seq R3_8 .ret) := gq rfl
theorem n3_13 : Gqe E 3 N3_13 (.cond (.tmp 27) N3_14 .skip) := gq rfl
theorem n3_12 : Gqe E 3 N3_12 (.seq R3_7 N3_13) := gq rfl
noncomputable def N3_15 := cp B3 [2, 2, 2, 2, 2, 2]
noncomputable def R3_9 := cp B3 [2, 2, 2, 2, 2, 2, 1]
noncomputable def r3_9 := (⟨r_mk rfl (by simp only [R3_9, B3, code, Tryd.f3, dc, Poe]; exact rfl)⟩ : PLift (Goe E 3 R3_9 _))
noncomputable def N3_16 := cp B3 [2, 2, 2, 2, 2, 2, 2]
noncomputable def N3_17 := cp B3 [2, 2, 2, 2, 2, 2, 2, 1]
noncomputable def R3_10 := cp B3 [2, 2, 2, 2, 2, 2, 2, 1, 1]
noncomputable def r3_10 := (⟨r_mk rfl (by simp only [R3_10, B3, code, Tryd.f3, dc, Poe]; exact rfl)⟩ : PLift (Goe E 3 R3_10 _))
noncomputable def N3_18 := cp B3 [2, 2, 2, 2, 2, 2, 2, 1, 2]
noncomputable def N3_19 := cp B3 [2, 2, 2, 2, 2, 2, 2, 1, 2, 6]
noncomputable def R3_11 := cp B3 [2, 2, 2, 2, 2, 2, 2, 1, 2, 6, 1]
noncomputable def r3_11 := (⟨r_mk rfl (by simp only [R3_11, B3, code, Tryd.f3, dc, Poe]; exact rfl)⟩ : PLift (Goe E 3 R3_11 _))
theorem n3_19 : Gqe E 3 N3_19 (.seq R3_11 .ret) := gq rfl
theorem n3_18 : Gqe E 3 N3_18 (.cond (.tmp 34) N3_19 .skip) := gq rfl
theorem n3_17 : Gqe E 3 N3_17 (.seq R3_10 N3_18) := gq rfl
noncomputable def N3_20 := cp B3 [2, 2, 2, 2, 2, 2, 2, 2]
noncomputable def R3_12 := cp B3 [2, 2, 2, 2, 2, 2, 2, 2, 1]
noncomputable def r3_12 := (⟨r_mk rfl (by simp only [R3_12, B3, code, Tryd.f3, dc, Poe]; exact rfl)⟩ : PLift (Goe E 3 R3_12 _))
noncomputable def N3_21 := cp B3 [2, 2, 2, 2, 2, 2, 2, 2, 2]
noncomputable def R3_13 := cp B3 [2, 2, 2, 2, 2, 2, 2, 2, 2, 1]
noncomputable def r3_13 := (⟨r_mk rfl (by simp only [R3_13, B3, code, Tryd.f3, dc, Poe]; exact rfl)⟩ : PLift (Goe E 3 R3_13 _))
noncomputable def N3_22 := cp B3 [2, 2, 2, 2, 2, 2, 2, 2, 2, 2]
noncomputable def R3_14 := cp B3 [2, 2, 2, 2, 2, 2, 2, 2, 2, 2, 1]
noncomputable def r3_14 := (⟨r_mk rfl (by simp only [R3_14, B3, code, Tryd.f3, dc, Poe]; exact rfl)⟩ : PLift (Goe E 3 R3_14 _))
noncomputable def N3_23 := cp B3 [2, 2, 2, 2, 2, 2, 2, 2, 2, 2, 2]
noncomputable def R3_15 := cp B3 [2, 2, 2, 2, 2, 2, 2, 2, 2, 2, 2, 1]
noncomputable def r3_15 := (⟨r_pl (p := [.one 0 [], .one 2 [], .one 3 [], .one 4 [], .one 5 [], .one 1 [5], .one 6 [], .one 7 [], .one 8 [], .one 10 [], .one 11 [], .one 12 [], .one 13 [], .one 14 [], .one 9 [13], .one 15 [], .one 16 [], .one 17 [], .one 18 [], .one 20 [], .one 21 [], .one 22 [], .one 23 [], .one 19 [23], .one 24 [], .one 25 [], .one 26 [], .one 27 [], .one 29 [], .one 30 [], .one 28 [], .one 31 [], .one 32 [], .one 33 [], .one 34 [], .one 35 [], .one 36 [], .one 37 [], .one 38 [], .one 40 [], .one 41 [], .one 39 [], .one 42 [], .one 43 [], .one 44 [], .one 45 [], .one 46 [], .one 47 [], .one 48 []]) rfl (by kernel_rfl) (by kernel_rfl) (by simp only [R3_15, B3, code, Tryd.f3, dc, dpl, Ple]; exact rfl)⟩ : PLift (Gpe E 3 R3_15 _))
theorem n3_23 : Gqe E 3 N3_23 (.seq R3_15 .ret) := gq rfl
theorem n3_22 : Gqe E 3 N3_22 (.seq R3_14 N3_23) := gq rfl
theorem n3_21 : Gqe E 3 N3_21 (.seq R3_13 N3_22) := gq rfl
theorem n3_20 : Gqe E 3 N3_20 (.seq R3_12 N3_21) := gq rfl
theorem n3_16 : Gqe E 3 N3_16 (.seq N3_17 N3_20) := gq rfl
theorem n3_15 : Gqe E 3 N3_15 (.seq R3_9 N3_16) := gq rfl
theorem n3_11 : Gqe E 3 N3_11 (.seq N3_12 N3_15) := gq rfl
theorem n3_7 : Gqe E 3 N3_7 (.seq N3_8 N3_11) := gq rfl
theorem n3_6 : Gqe E 3 N3_6 (.seq R3_4 N3_7) := gq rfl
theorem n3_5 : Gqe E 3 N3_5 (.seq R3_3 N3_6) := gq rfl
theorem n3_1 : Gqe E 3 N3_1 (.seq N3_2 N3_5) := gq rfl
theorem n3_0 : Gqe E 3 N3_0 (.seq R3_0 N3_1) := gq rfl
theorem en_3 {x0 : AVal} {st : ASt} {R : AEnd → ASt → Prop} (h : ∀ g : Nat → AVal, g 0 = x0 → Gc E 3 N3_0 [] (RQ E Tryd.f3 R) (Sl 89 g) st) : ∃ r st', rw E 3 [x0] st = some (r, st') ∧ R r st' :=
  en_of (fn := Tryd.f3) (c := N3_0) rfl rfl rfl (Nat.le_of_ble_eq_true rfl) fun g hg => h g (hg 0 x0 rfl)
theorem rq_3 (R : AEnd → ASt → Prop) (g : Nat → AVal) (st : ASt) : RQ E Tryd.f3 R .ret (Sl 89 g) st = R (.returned (g 2)) st := by
  rw [rq_gen (.inl rfl), show (Tryd.f3).results.toList = [.tmp 2] from rfl]
  simp only [aresB, sl_get, Nat.reduceLT, ↓reduceIte, bindK_some, tup]
theorem cf_6 (a : List AVal) (st : ASt) : callFuncA E.P 6 a st = some (.enter 6 a st) := rfl
theorem hint_3_13 : E.hint 3 13 = false := rfl
theorem o_bs_24_6 (ps : List (Nat × AVal)) (st : ASt) : buildSliceA E.P false 24 6 ps st = (setsE false 1 [(.lit (.string ⟨#[]⟩)), (.lit (.string ⟨#[]⟩)), (.lit (.string ⟨#[]⟩)), (.lit (.string ⟨#[]⟩)), (.lit (.string ⟨#[]⟩)), (.lit (.string ⟨#[]⟩))] ps).map (fun es => (.islice 1 es .exact, st)) := bs_i rfl rfl rfl rfl (by decide) rfl ps st
theorem o_ixi_24 (sz : Nat) (es : List AVal) (c : Cap) (k : IntKind) (i : Int) : indexA E.P 24 (.islice sz es c) (.lit (.int k i)) = if 0 ≤ i ∧ i < es.length ∧ some 1 = some sz then (es[i.toNat]?).map .iptr else none := rfl
theorem o_ixs_24 (s o l sz : Nat) (c : Option Nat) (k : IntKind) (i : Int) : indexA E.P 24 (.slice s o l sz c) (.lit (.int k i)) = if 0 ≤ i ∧ i < l then some (.ptr s (o + i.toNat * 1)) else none := rfl
theorem o_ldp_9 (st : ASt) (s o : Nat) : loadA E.P 9 st (.ptr s o) = (blkOf (st.heap s)).bind (fun cs => cs[o]?) := ld_one rfl rfl st s o
theorem o_ldi_9 (st : ASt) (v : AVal) : loadA E.P 9 st (.iptr v) = if v.isCell = true then some v else none := rfl
theorem cf_7 (a : List AVal) (st : ASt) : callFuncA E.P 7 a st = some (.enter 7 a st) := rfl
theorem cf_8 (a : List AVal) (st : ASt) : callFuncA E.P 8 a st = some (.enter 8 a st) := rfl
theorem hint_3_38 : E.hint 3 38 = false := rfl
theorem o_bs_24_17 (ps : List (Nat × AVal)) (st : ASt) : buildSliceA E.P false 24 17 ps st = (setsE false 1 [(.lit (.string ⟨#[]⟩)), (.lit (.string ⟨#[]⟩)), (.lit (.string ⟨#[]⟩)), (.lit (.string ⟨#[]⟩)), (.lit (.string ⟨#[]⟩)), (.lit (.string ⟨#[]⟩)), (.lit (.string ⟨#[]⟩)), (.lit (.string ⟨#[]⟩)), (.lit (.string ⟨#[]⟩)), (.lit (.string ⟨#[]⟩)), (.lit (.string ⟨#[]⟩)), (.lit (.string ⟨#[]⟩)), (.lit (.string ⟨#[]⟩)), (.lit (.string ⟨#[]⟩)), (.lit (.string ⟨#[]⟩)), (.lit (.string ⟨#[]⟩)), (.lit (.string ⟨#[]⟩))] ps).map (fun es => (.islice 1 es .exact, st)) := bs_i rfl rfl rfl rfl (by decide) rfl ps st
theorem hint_3_39 : E.hint 3 39 = false := rfl
theorem o_bs_27_17 (ps : List (Nat × AVal)) (st : ASt) : buildSliceA E.P false 27 17 ps st = (setsE false 1 [(.lit (.int .i64 0)), (.lit (.int .i64 0)), (.lit (.int .i64 0)), (.lit (.int .i64 0)), (.lit (.int .i64 0)), (.lit (.int .i64 0)), (.lit (.int .i64 0)), (.lit (.int .i64 0)), (.lit (.int .i64 0)), (.lit (.int .i64 0)), (.lit (.int .i64 0)), (.lit (.int .i64 0)), (.lit (.int .i64 0)), (.lit (.int .i64 0)), (.lit (.int .i64 0)), (.lit (.int .i64 0)), (.lit (.int .i64 0))] ps).map (fun es => (.islice 1 es .exact, st)) := bs_i rfl rfl rfl rfl (by decide) rfl ps st
theorem hint_3_40 : E.hint 3 40 = false := rfl
theorem cf_9 (a : List AVal) (st : ASt) : callFuncA E.P 9 a st = some (.enter 9 a st) := rfl
theorem o_ixi_27 (sz : Nat) (es : List AVal) (c : Cap) (k : IntKind) (i : Int) : indexA E.P 27 (.islice sz es c) (.lit (.int k i)) = if 0 ≤ i ∧ i < es.length ∧ some 1 = some sz then (es[i.toNat]?).map .iptr else none := rfl
theorem o_ixs_27 (s o l sz : Nat) (c : Option Nat) (k : IntKind) (i : Int) : indexA E.P 27 (.slice s o l sz c) (.lit (.int k i)) = if 0 ≤ i ∧ i < l then some (.ptr s (o + i.toNat * 1)) else none := rfl
theorem o_ldp_3 (st : ASt) (s o : Nat) : loadA E.P 3 st (.ptr s o) = (blkOf (st.heap s)).bind (fun cs => cs[o]?) := ld_one rfl rfl st s o
theorem o_ldi_3 (st : ASt) (v : AVal) : loadA E.P 3 st (.iptr v) = if v.isCell = true then some v else none := rfl
theorem o_eqb_4_eql (xo yo : Operand) (a b : Bool) : binA E.P .eql 4 xo yo (.lit (.bool a)) (.lit (.bool b)) = some (.lit (.bool (a == b))) := b_eqb rfl
theorem cf_10 (a : List AVal) (st : ASt) : callFuncA E.P 10 a st = some (.enter 10 a st) := rfl
theorem cf_11 (a : List AVal) (st : ASt) : callFuncA E.P 11 a st = some (.enter 11 a st) := rfl
theorem cf_12 (a : List AVal) (st : ASt) : callFuncA E.P 12 a st = some (.enter 12 a st) := rfl

/-! ### (braidwork/tree.Sort).Word -/
noncomputable def B7 : Code := code Tryd.f7
noncomputable def N7_0 := cp B7 []
noncomputable def R7_0 := cp B7 [1]
noncomputable def r7_0 := (⟨r_mk rfl (by simp only [R7_0, B7, code, Tryd.f7, dc, Poe]; exact rfl)⟩ : PLift (Goe E 7 R7_0 _))
noncomputable def N7_1 := cp B7 [2]
noncomputable def R7_1 := cp B7 [2, 1]
noncomputable def r7_1 := (⟨r_mk rfl (by simp only [R7_1, B7, code, Tryd.f7, dc, Poe]; exact rfl)⟩ : PLift (Goe E 7 R7_1 _))
noncomputable def N7_2 := cp B7 [2, 2]
noncomputable def N7_3 := cp B7 [2, 2, 1]
noncomputable def R7_2 := cp B7 [2, 2, 1, 1]
noncomputable def r7_2 := (⟨r_mk rfl (by simp only [R7_2, B7, code, Tryd.f7, dc, Poe]; exact rfl)⟩ : PLift (Goe E 7 R7_2 _))
noncomputable def N7_4 := cp B7 [2, 2, 1, 2]
noncomputable def N7_5 := cp B7 [2, 2, 1, 2, 6]
noncomputable def R7_3 := cp B7 [2, 2, 1, 2, 6, 1]
noncomputable def r7_3 := (⟨r_mk rfl (by simp only [R7_3, B7, code, Tryd.f7, dc, Poe]; exact rfl)⟩ : PLift (Goe E 7 R7_3 _))
theorem n7_5 : Gqe E 7 N7_5 (.seq R7_3 .ret) := gq rfl
theorem n7_4 : Gqe E 7 N7_4 (.cond (.tmp 10) N7_5 .skip) := gq rfl
theorem n7_3 : Gqe E 7 N7_3 (.seq R7_2 N7_4) := gq rfl
noncomputable def N7_6 := cp B7 [2, 2, 2]
noncomputable def R7_4 := cp B7 [2, 2, 2, 1]
noncomputable def r7_4 := (⟨r_mk rfl (by simp only [R7_4, B7, code, Tryd.f7, dc, Poe]; exact rfl)⟩ : PLift (Goe E 7 R7_4 _))
theorem n7_6 : Gqe E 7 N7_6 (.seq R7_4 .ret) := gq rfl
theorem n7_2 : Gqe E 7 N7_2 (.seq N7_3 N7_6) := gq rfl
theorem n7_1 : Gqe E 7 N7_1 (.seq R7_1 N7_2) := gq rfl
theorem n7_0 : Gqe E 7 N7_0 (.seq R7_0 N7_1) := gq rfl
theorem en_7 {x0 : AVal} {st : ASt} {R : AEnd → ASt → Prop} (h : ∀ g : Nat → AVal, g 0 = x0 → Gc E 7 N7_0 [] (RQ E Tryd.f7 R) (Sl 14 g) st) : ∃ r st', rw E 7 [x0] st = some (r, st') ∧ R r st' :=
  en_of (fn := Tryd.f7) (c := N7_0) rfl rfl rfl (Nat.le_of_ble_eq_true rfl) fun g hg => h g (hg 0 x0 rfl)
theorem rq_7 (R : AEnd → ASt → Prop) (g : Nat → AVal) (st : ASt) : RQ E Tryd.f7 R .ret (Sl 14 g) st = R (.returned (g 2)) st := by
  rw [rq_gen (.inl rfl), show (Tryd.f7).results.toList = [.tmp 2] from rfl]
  simp only [aresB, sl_get, Nat.reduceLT, ↓reduceIte, bindK_some, tup]
theorem o_bd_51 (ps : List (Nat × AVal)) : buildA E.P 51 ps = (fillA (fun i => some (i * 1, 1)) [.lit (.string ⟨#[]⟩), .lit (.string ⟨#[]⟩), .lit (.string ⟨#[]⟩), .lit (.string ⟨#[]⟩), .lit (.string ⟨#[]⟩), .lit (.string ⟨#[]⟩)] ps).map .agg := rfl
theorem o_al_51 (st : ASt) : allocA E.P 51 st = some (.ptr st.ctr 0, st.new (.cells [.lit (.string ⟨#[]⟩), .lit (.string ⟨#[]⟩), .lit (.string ⟨#[]⟩), .lit (.string ⟨#[]⟩), .lit (.string ⟨#[]⟩), .lit (.string ⟨#[]⟩)])) := rfl
theorem o_st_51 (st : ASt) (s o : Nat) (vs : List AVal) : storeA E.P 51 st (.ptr s o) (.agg vs) = (blkOf (st.heap s)).bind (fun cs => if vs.length = 6 ∧ o + vs.length ≤ cs.length ∧ vs.all AVal.isCell = true then some (st.set s (some (.cells (putL cs o vs)))) else none) := st_agg rfl st s o vs
theorem o_ixg_51 (cs : List AVal) (k : IntKind) (i : Int) : indexA E.P 51 (.iptr (.agg cs)) (.lit (.int k i)) = if 0 ≤ i ∧ i < (6 : Nat) then (cs[i.toNat * 1]?).map .iptr else none := rfl
theorem o_ixp_51 (s o : Nat) (k : IntKind) (i : Int) : indexA E.P 51 (.ptr s o) (.lit (.int k i)) = if 0 ≤ i ∧ i < (6 : Nat) then some (.ptr s (o + i.toNat * 1)) else none := rfl

/-! ### (braidwork/tree.Kind).Word -/
noncomputable def B8 : Code := code Tryd.f8
noncomputable def N8_0 := cp B8 []
noncomputable def R8_0 := cp B8 [1]
noncomputable def r8_0 := (⟨r_mk rfl (by simp only [R8_0, B8, code, Tryd.f8, dc, Poe]; exact rfl)⟩ : PLift (Goe E 8 R8_0 _))
noncomputable def N8_1 := cp B8 [2]
noncomputable def R8_1 := cp B8 [2, 1]
noncomputable def r8_1 := (⟨r_mk rfl (by simp only [R8_1, B8, code, Tryd.f8, dc, Poe]; exact rfl)⟩ : PLift (Goe E 8 R8_1 _))
noncomputable def N8_2 := cp B8 [2, 2]
noncomputable def N8_3 := cp B8 [2, 2, 1]
noncomputable def R8_2 := cp B8 [2, 2, 1, 1]
noncomputable def r8_2 := (⟨r_mk rfl (by simp only [R8_2, B8, code, Tryd.f8, dc, Poe]; exact rfl)⟩ : PLift (Goe E 8 R8_2 _))
noncomputable def N8_4 := cp B8 [2, 2, 1, 2]
noncomputable def N8_5 := cp B8 [2, 2, 1, 2, 6]
noncomputable def R8_3 := cp B8 [2, 2, 1, 2, 6, 1]
noncomputable def r8_3 := (⟨r_mk rfl (by simp only [R8_3, B8, code, Tryd.f8, dc, Poe]; exact rfl)⟩ : PLift (Goe E 8 R8_3 _))
theorem n8_5 : Gqe E 8 N8_5 (.seq R8_3 .ret) := gq rfl
theorem n8_4 : Gqe E 8 N8_4 (.cond (.tmp 10) N8_5 .skip) := gq rfl
theorem n8_3 : Gqe E 8 N8_3 (.seq R8_2 N8_4) := gq rfl
noncomputable def N8_6 := cp B8 [2, 2, 2]
noncomputable def R8_4 := cp B8 [2, 2, 2, 1]
noncomputable def r8_4 := (⟨r_mk rfl (by simp only [R8_4, B8, code, Tryd.f8, dc, Poe]; exact rfl)⟩ : PLift (Goe E 8 R8_4 _))
theorem n8_6 : Gqe E 8 N8_6 (.seq R8_4 .ret) := gq rfl
theorem n8_2 : Gqe E 8 N8_2 (.seq N8_3 N8_6) := gq rfl
theorem n8_1 : Gqe E 8 N8_1 (.seq R8_1 N8_2) := gq rfl
theorem n8_0 : Gqe E 8 N8_0 (.seq R8_0 N8_1) := gq rfl
theorem en_8 {x0 : AVal} {st : ASt} {R : AEnd → ASt → Prop} (h : ∀ g : Nat → AVal, g 0 = x0 → Gc E 8 N8_0 [] (RQ E Tryd.f8 R) (Sl 14 g) st) : ∃ r st', rw E 8 [x0] st = some (r, st') ∧ R r st' :=
  en_of (fn := Tryd.f8) (c := N8_0) rfl rfl rfl (Nat.le_of_ble_eq_true rfl) fun g hg => h g (hg 0 x0 rfl)
theorem rq_8 (R : AEnd → ASt → Prop) (g : Nat → AVal) (st : ASt) : RQ E Tryd.f8 R .ret (Sl 14 g) st = R (.returned (g 2)) st := by
  rw [rq_gen (.inl rfl), show (Tryd.f8).results.toList = [.tmp 2] from rfl]
  simp only [aresB, sl_get, Nat.reduceLT, ↓reduceIte, bindK_some, tup]
theorem o_bd_52 (ps : List (Nat × AVal)) : buildA E.P 52 ps = (fillA (fun i => some (i * 1, 1)) [.lit (.string ⟨#[]⟩), .lit (.string ⟨#[]⟩), .lit (.string ⟨#[]⟩), .lit (.string ⟨#[]⟩), .lit (.string ⟨#[]⟩), .lit (.string ⟨#[]⟩), .lit (.string ⟨#[]⟩), .lit (.string ⟨#[]⟩), .lit (.string ⟨#[]⟩), .lit (.string ⟨#[]⟩), .lit (.string ⟨#[]⟩), .lit (.string ⟨#[]⟩), .lit (.string ⟨#[]⟩), .lit (.string ⟨#[]⟩), .lit (.string ⟨#[]⟩), .lit (.string ⟨#[]⟩), .lit (.string ⟨#[]⟩)] ps).map .agg := rfl
theorem o_al_52 (st : ASt) : allocA E.P 52 st = some (.ptr st.ctr 0, st.new (.cells [.lit (.string ⟨#[]⟩), .lit (.string ⟨#[]⟩), .lit (.string ⟨#[]⟩), .lit (.string ⟨#[]⟩), .lit (.string ⟨#[]⟩), .lit (.string ⟨#[]⟩), .lit (.string ⟨#[]⟩), .lit (.string ⟨#[]⟩), .lit (.string ⟨#[]⟩), .lit (.string ⟨#[]⟩), .lit (.string ⟨#[]⟩), .lit (.string ⟨#[]⟩), .lit (.string ⟨#[]⟩), .lit (.string ⟨#[]⟩), .lit (.string ⟨#[]⟩), .lit (.string ⟨#[]⟩), .lit (.string ⟨#[]⟩)])) := rfl
theorem o_st_52 (st : ASt) (s o : Nat) (vs : List AVal) : storeA E.P 52 st (.ptr s o) (.agg vs) = (blkOf (st.heap s)).bind (fun cs => if vs.length = 17 ∧ o + vs.length ≤ cs.length ∧ vs.all AVal.isCell = true then some (st.set s (some (.cells (putL cs o vs)))) else none) := st_agg rfl st s o vs
theorem o_ixg_52 (cs : List AVal) (k : IntKind) (i : Int) : indexA E.P 52 (.iptr (.agg cs)) (.lit (.int k i)) = if 0 ≤ i ∧ i < (17 : Nat) then (cs[i.toNat * 1]?).map .iptr else none := rfl
theorem o_ixp_52 (s o : Nat) (k : IntKind) (i : Int) : indexA E.P 52 (.ptr s o) (.lit (.int k i)) = if 0 ≤ i ∧ i < (17 : Nat) then some (.ptr s (o + i.toNat * 1)) else none := rfl

/-! ### (braidwork/tree.Kind).Gives -/
noncomputable def B9 : Code := code Tryd.f9
noncomputable def N9_0 := cp B9 []
noncomputable def R9_0 := cp B9 [1]
noncomputable def r9_0 := (⟨r_mk rfl (by simp only [R9_0, B9, code, Tryd.f9, dc, Poe]; exact rfl)⟩ : PLift (Goe E 9 R9_0 _))
noncomputable def N9_1 := cp B9 [2]
noncomputable def R9_1 := cp B9 [2, 1]
noncomputable def r9_1 := (⟨r_mk rfl (by simp only [R9_1, B9, code, Tryd.f9, dc, Poe]; exact rfl)⟩ : PLift (Goe E 9 R9_1 _))
theorem n9_1 : Gqe E 9 N9_1 (.seq R9_1 .ret) := gq rfl
theorem n9_0 : Gqe E 9 N9_0 (.seq R9_0 N9_1) := gq rfl
theorem en_9 {x0 : AVal} {st : ASt} {R : AEnd → ASt → Prop} (h : ∀ g : Nat → AVal, g 0 = x0 → Gc E 9 N9_0 [] (RQ E Tryd.f9 R) (Sl 17 g) st) : ∃ r st', rw E 9 [x0] st = some (r, st') ∧ R r st' :=
  en_of (fn := Tryd.f9) (c := N9_0) rfl rfl rfl (Nat.le_of_ble_eq_true rfl) fun g hg => h g (hg 0 x0 rfl)
theorem rq_9 (R : AEnd → ASt → Prop) (g : Nat → AVal) (st : ASt) : RQ E Tryd.f9 R .ret (Sl 17 g) st = R (.returned (g 2)) st := by
  rw [rq_gen (.inl rfl), show (Tryd.f9).results.toList = [.tmp 2] from rfl]
  simp only [aresB, sl_get, Nat.reduceLT, ↓reduceIte, bindK_some, tup]

/-! ### (braidwork/tree.Kind).Takes -/
noncomputable def B10 : Code := code Tryd.f10
noncomputable def N10_0 := cp B10 []
noncomputable def R10_0 := cp B10 [1]
noncomputable def r10_0 := (⟨r_mk rfl (by simp only [R10_0, B10, code, Tryd.f10, dc, Poe]; exact rfl)⟩ : PLift (Goe E 10 R10_0 _))
noncomputable def N10_1 := cp B10 [2]
noncomputable def N10_2 := cp B10 [2, 1]
noncomputable def R10_1 := cp B10 [2, 1, 1]
noncomputable def r10_1 := (⟨r_mk rfl (by simp only [R10_1, B10, code, Tryd.f10, dc, Poe]; exact rfl)⟩ : PLift (Goe E 10 R10_1 _))
noncomputable def N10_3 := cp B10 [2, 1, 2]
noncomputable def N10_4 := cp B10 [2, 1, 2, 3]
noncomputable def N10_5 := cp B10 [2, 1, 2, 3, 1]
noncomputable def R10_2 := cp B10 [2, 1, 2, 3, 1, 1]
noncomputable def r10_2 := (⟨r_mk rfl (by simp only [R10_2, B10, code, Tryd.f10, dc, Poe]; exact rfl)⟩ : PLift (Goe E 10 R10_2 _))
noncomputable def N10_6 := cp B10 [2, 1, 2, 3, 1, 2]
noncomputable def N10_7 := cp B10 [2, 1, 2, 3, 1, 2, 7]
noncomputable def R10_3 := cp B10 [2, 1, 2, 3, 1, 2, 7, 1]
noncomputable def r10_3 := (⟨r_mk rfl (by simp only [R10_3, B10, code, Tryd.f10, dc, Poe]; exact rfl)⟩ : PLift (Goe E 10 R10_3 _))
noncomputable def N10_8 := cp B10 [2, 1, 2, 3, 1, 2, 7, 2]
noncomputable def N10_9 := cp B10 [2, 1, 2, 3, 1, 2, 7, 2, 7]
noncomputable def R10_4 := cp B10 [2, 1, 2, 3, 1, 2, 7, 2, 7, 1]
noncomputable def r10_4 := (⟨r_mk rfl (by simp only [R10_4, B10, code, Tryd.f10, dc, Poe]; exact rfl)⟩ : PLift (Goe E 10 R10_4 _))
noncomputable def N10_10 := cp B10 [2, 1, 2, 3, 1, 2, 7, 2, 7, 2]
noncomputable def N10_11 := cp B10 [2, 1, 2, 3, 1, 2, 7, 2, 7, 2, 7]
noncomputable def R10_5 := cp B10 [2, 1, 2, 3, 1, 2, 7, 2, 7, 2, 7, 1]
noncomputable def r10_5 := (⟨r_mk rfl (by simp only [R10_5, B10, code, Tryd.f10, dc, Poe]; exact rfl)⟩ : PLift (Goe E 10 R10_5 _))
noncomputable def N10_12 := cp B10 [2, 1, 2, 3, 1, 2, 7, 2, 7, 2, 7, 2]
noncomputable def N10_13 := cp B10 [2, 1, 2, 3, 1, 2, 7, 2, 7, 2, 7, 2, 7]
noncomputable def R10_6 := cp B10 [2, 1, 2, 3, 1, 2, 7, 2, 7, 2, 7, 2, 7, 1]
noncomputable def r10_6 := (⟨r_mk rfl (by simp only [R10_6, B10, code, Tryd.f10, dc, Poe]; exact rfl)⟩ : PLift (Goe E 10 R10_6 _))
noncomputable def N10_14 := cp B10 [2, 1, 2, 3, 1, 2, 7, 2, 7, 2, 7, 2, 7, 2]
noncomputable def N10_15 := cp B10 [2, 1, 2, 3, 1, 2, 7, 2, 7, 2, 7, 2, 7, 2, 7]
noncomputable def R10_7 := cp B10 [2, 1, 2, 3, 1, 2, 7, 2, 7, 2, 7, 2, 7, 2, 7, 1]
noncomputable def r10_7 := (⟨r_mk rfl (by simp only [R10_7, B10, code, Tryd.f10, dc, Poe]; exact rfl)⟩ : PLift (Goe E 10 R10_7 _))
noncomputable def N10_16 := cp B10 [2, 1, 2, 3, 1, 2, 7, 2, 7, 2, 7, 2, 7, 2, 7, 2]
noncomputable def N10_17 := cp B10 [2, 1, 2, 3, 1, 2, 7, 2, 7, 2, 7, 2, 7, 2, 7, 2, 7]
noncomputable def R10_8 := cp B10 [2, 1, 2, 3, 1, 2, 7, 2, 7, 2, 7, 2, 7, 2, 7, 2, 7, 1]
noncomputable def r10_8 := (⟨r_mk rfl (by simp only [R10_8, B10, code, Tryd.f10, dc, Poe]; exact rfl)⟩ : PLift (Goe E 10 R10_8 _))
noncomputable def N10_18 := cp B10 [2, 1, 2, 3, 1, 2, 7, 2, 7, 2, 7, 2, 7, 2, 7, 2, 7, 2]
noncomputable def N10_19 := cp B10 [2, 1, 2, 3, 1, 2, 7, 2, 7, 2, 7, 2, 7, 2, 7, 2, 7, 2, 7]
noncomputable def R10_9 := cp B10 [2, 1, 2, 3, 1, 2, 7, 2, 7, 2, 7, 2, 7, 2, 7, 2, 7, 2, 7]
noncomputable def r10_9 := (⟨r_mk rfl (by simp only [R10_9, B10, code, Tryd.f10, dc, Poe]; exact rfl)⟩ : PLift (Goe E 10 R10_9 _))
theorem n10_19 : Gqe E 10 N10_19 R10_9 := gq rfl
theorem n10_18 : Gqe E 10 N10_18 (.cond (.tmp 4) .skip N10_19) := gq rfl
theorem n10_17 : Gqe E 10 N10_17 (.seq R10_8 N10_18) := gq rfl
theorem n10_16 : Gqe E 10 N10_16 (.cond (.tmp 4) .skip N10_17) := gq rfl
theorem n10_15 : Gqe E 10 N10_15 (.seq R10_7 N10_16) := gq rfl
theorem n10_14 : Gqe E 10 N10_14 (.cond (.tmp 4) .skip N10_15) := gq rfl
theorem n10_13 : Gqe E 10 N10_13 (.seq R10_6 N10_14) := gq rfl
theorem n10_12 : Gqe E 10 N10_12 (.cond (.tmp 4) .skip N10_13) := gq rfl
theorem n10_11 : Gqe E 10 N10_11 (.seq R10_5 N10_12) := gq rfl
theorem n10_10 : Gqe E 10 N10_10 (.cond (.tmp 4) .skip N10_11) := gq rfl
theorem n10_9 : Gqe E 10 N10_9 (.seq R10_4 N10_10) := gq rfl
theorem n10_8 : Gqe E 10 N10_8 (.cond (.tmp 4) .skip N10_9) := gq rfl
theorem n10_7 : Gqe E 10 N10_7 (.seq R10_3 N10_8) := gq rfl
theorem n10_6 : Gqe E 10 N10_6 (.cond (.tmp 4) .skip N10_7) := gq rfl
theorem n10_5 : Gqe E 10 N10_5 (.seq R10_2 N10_6) := gq rfl
noncomputable def N10_20 := cp B10 [2, 1, 2, 3, 2]
noncomputable def N10_21 := cp B10 [2, 1, 2, 3, 2, 6]
noncomputable def R10_10 := cp B10 [2, 1, 2, 3, 2, 6, 1]
noncomputable def r10_10 := (⟨r_mk rfl (by simp only [R10_10, B10, code, Tryd.f10, dc, Poe]; exact rfl)⟩ : PLift (Goe E 10 R10_10 _))
theorem n10_21 : Gqe E 10 N10_21 (.seq R10_10 .ret) := gq rfl
noncomputable def N10_22 := cp B10 [2, 1, 2, 3, 2, 7]
noncomputable def R10_11 := cp B10 [2, 1, 2, 3, 2, 7, 1]
noncomputable def r10_11 := (⟨r_mk rfl (by simp only [R10_11, B10, code, Tryd.f10, dc, Poe]; exact rfl)⟩ : PLift (Goe E 10 R10_11 _))
noncomputable def N10_23 := cp B10 [2, 1, 2, 3, 2, 7, 2]
noncomputable def N10_24 := cp B10 [2, 1, 2, 3, 2, 7, 2, 6]
noncomputable def R10_12 := cp B10 [2, 1, 2, 3, 2, 7, 2, 6, 1]
noncomputable def r10_12 := (⟨r_mk rfl (by simp only [R10_12, B10, code, Tryd.f10, dc, Poe]; exact rfl)⟩ : PLift (Goe E 10 R10_12 _))
theorem n10_24 : Gqe E 10 N10_24 (.seq R10_12 .ret) := gq rfl
theorem n10_23 : Gqe E 10 N10_23 (.cond (.tmp 13) N10_24 .skip) := gq rfl
theorem n10_22 : Gqe E 10 N10_22 (.seq R10_11 N10_23) := gq rfl
theorem n10_20 : Gqe E 10 N10_20 (.cond (.tmp 4) N10_21 N10_22) := gq rfl
theorem n10_4 : Gqe E 10 N10_4 (.seq N10_5 N10_20) := gq rfl
theorem n10_3 : Gqe E 10 N10_3 (.block 0 N10_4) := gq rfl
theorem n10_2 : Gqe E 10 N10_2 (.seq R10_1 N10_3) := gq rfl
noncomputable def N10_25 := cp B10 [2, 2]
noncomputable def R10_13 := cp B10 [2, 2, 1]
noncomputable def r10_13 := (⟨r_mk rfl (by simp only [R10_13, B10, code, Tryd.f10, dc, Poe]; exact rfl)⟩ : PLift (Goe E 10 R10_13 _))
theorem n10_25 : Gqe E 10 N10_25 (.seq R10_13 .ret) := gq rfl
theorem n10_1 : Gqe E 10 N10_1 (.seq N10_2 N10_25) := gq rfl
theorem n10_0 : Gqe E 10 N10_0 (.seq R10_0 N10_1) := gq rfl
theorem en_10 {x0 : AVal} {st : ASt} {R : AEnd → ASt → Prop} (h : ∀ g : Nat → AVal, g 0 = x0 → Gc E 10 N10_0 [] (RQ E Tryd.f10 R) (Sl 15 g) st) : ∃ r st', rw E 10 [x0] st = some (r, st') ∧ R r st' :=
  en_of (fn := Tryd.f10) (c := N10_0) rfl rfl rfl (Nat.le_of_ble_eq_true rfl) fun g hg => h g (hg 0 x0 rfl)
theorem rq_10 (R : AEnd → ASt → Prop) (g : Nat → AVal) (st : ASt) : RQ E Tryd.f10 R .ret (Sl 15 g) st = R (.returned (g 2)) st := by
  rw [rq_gen (.inl rfl), show (Tryd.f10).results.toList = [.tmp 2] from rfl]
  simp only [aresB, sl_get, Nat.reduceLT, ↓reduceIte, bindK_some, tup]

/-! ### (braidwork/tree.Kind).Named -/
noncomputable def B11 : Code := code Tryd.f11
noncomputable def N11_0 := cp B11 []
noncomputable def R11_0 := cp B11 [1]
noncomputable def r11_0 := (⟨r_mk rfl (by simp only [R11_0, B11, code, Tryd.f11, dc, Poe]; exact rfl)⟩ : PLift (Goe E 11 R11_0 _))
noncomputable def N11_1 := cp B11 [2]
noncomputable def R11_1 := cp B11 [2, 1]
noncomputable def r11_1 := (⟨r_mk rfl (by simp only [R11_1, B11, code, Tryd.f11, dc, Poe]; exact rfl)⟩ : PLift (Goe E 11 R11_1 _))
theorem n11_1 : Gqe E 11 N11_1 (.seq R11_1 .ret) := gq rfl
theorem n11_0 : Gqe E 11 N11_0 (.seq R11_0 N11_1) := gq rfl
theorem en_11 {x0 : AVal} {st : ASt} {R : AEnd → ASt → Prop} (h : ∀ g : Nat → AVal, g 0 = x0 → Gc E 11 N11_0 [] (RQ E Tryd.f11 R) (Sl 9 g) st) : ∃ r st', rw E 11 [x0] st = some (r, st') ∧ R r st' :=
  en_of (fn := Tryd.f11) (c := N11_0) rfl rfl rfl (Nat.le_of_ble_eq_true rfl) fun g hg => h g (hg 0 x0 rfl)
theorem rq_11 (R : AEnd → ASt → Prop) (g : Nat → AVal) (st : ASt) : RQ E Tryd.f11 R .ret (Sl 9 g) st = R (.returned (g 2)) st := by
  rw [rq_gen (.inl rfl), show (Tryd.f11).results.toList = [.tmp 2] from rfl]
  simp only [aresB, sl_get, Nat.reduceLT, ↓reduceIte, bindK_some, tup]

/-! ### (braidwork/tree.Kind).Celled -/
noncomputable def B12 : Code := code Tryd.f12
noncomputable def N12_0 := cp B12 []
noncomputable def R12_0 := cp B12 [1]
noncomputable def r12_0 := (⟨r_mk rfl (by simp only [R12_0, B12, code, Tryd.f12, dc, Poe]; exact rfl)⟩ : PLift (Goe E 12 R12_0 _))
noncomputable def N12_1 := cp B12 [2]
noncomputable def R12_1 := cp B12 [2, 1]
noncomputable def r12_1 := (⟨r_mk rfl (by simp only [R12_1, B12, code, Tryd.f12, dc, Poe]; exact rfl)⟩ : PLift (Goe E 12 R12_1 _))
theorem n12_1 : Gqe E 12 N12_1 (.seq R12_1 .ret) := gq rfl
theorem n12_0 : Gqe E 12 N12_0 (.seq R12_0 N12_1) := gq rfl
theorem en_12 {x0 : AVal} {st : ASt} {R : AEnd → ASt → Prop} (h : ∀ g : Nat → AVal, g 0 = x0 → Gc E 12 N12_0 [] (RQ E Tryd.f12 R) (Sl 9 g) st) : ∃ r st', rw E 12 [x0] st = some (r, st') ∧ R r st' :=
  en_of (fn := Tryd.f12) (c := N12_0) rfl rfl rfl (Nat.le_of_ble_eq_true rfl) fun g hg => h g (hg 0 x0 rfl)
theorem rq_12 (R : AEnd → ASt → Prop) (g : Nat → AVal) (st : ASt) : RQ E Tryd.f12 R .ret (Sl 9 g) st = R (.returned (g 2)) st := by
  rw [rq_gen (.inl rfl), show (Tryd.f12).results.toList = [.tmp 2] from rfl]
  simp only [aresB, sl_get, Nat.reduceLT, ↓reduceIte, bindK_some, tup]
end Go.Proofs.YtpgcbmmifmnfpaaDoorV
