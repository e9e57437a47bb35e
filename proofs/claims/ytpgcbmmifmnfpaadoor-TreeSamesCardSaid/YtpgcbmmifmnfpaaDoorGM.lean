/- What walks through these functions need: pieces of their code, single operations reckoned. No condition. -/
import Derived.Test.YtpgcbmmifmnfpaaDoorEA
import Derived.Test.YtpgcbmmifmnfpaaDoorAK
import Derived.Test.YtpgcbmmifmnfpaaDoorST
import Derived.Test.YtpgcbmmifmnfpaaDoorAS
namespace Go.Proofs.YtpgcbmmifmnfpaaDoorV
open Go Go.RowKit Go.Proofs.YtpgcbmmifmnfpaaDoorA
set_option linter.unusedVariables false
set_option linter.unusedSimpArgs false
set_option maxRecDepth 100000

/-! ### braidwork/braidworklaw04.reg -/
noncomputable def B36 : Code := code Tryd.f36
noncomputable def N36_0 := cp B36 []
noncomputable def R36_0 := cp B36 [1]
noncomputable def r36_0 := (⟨r_mk rfl (by simp only [R36_0, B36, code, Tryd.f36, dc, Poe]; exact rfl)⟩ : PLift (Goe E 36 R36_0 _))
noncomputable def N36_1 := cp B36 [2]
noncomputable def R36_1 := cp B36 [2, 1]
noncomputable def r36_1 := (⟨r_mk rfl (by simp only [R36_1, B36, code, Tryd.f36, dc, Poe]; exact rfl)⟩ : PLift (Goe E 36 R36_1 _))
theorem n36_1 : Gqe E 36 N36_1 (.seq R36_1 .ret) := gq rfl
theorem n36_0 : Gqe E 36 N36_0 (.seq R36_0 N36_1) := gq rfl
theorem en_36 {x0 : AVal} {st : ASt} {R : AEnd → ASt → Prop} (h : ∀ g : Nat → AVal, g 0 = x0 → Gc E 36 N36_0 [] (RQ E Tryd.f36 R) (Sl 8 g) st) : ∃ r st', rw E 36 [x0] st = some (r, st') ∧ R r st' :=
  en_of (fn := Tryd.f36) (c := N36_0) rfl rfl rfl (Nat.le_of_ble_eq_true rfl) fun g hg => h g (hg 0 x0 rfl)
theorem rq_36 (R : AEnd → ASt → Prop) (g : Nat → AVal) (st : ASt) : RQ E Tryd.f36 R .ret (Sl 8 g) st = R (.returned (g 2)) st := by
  rw [rq_gen (.inl rfl), show (Tryd.f36).results.toList = [.tmp 2] from rfl]
  simp only [aresB, sl_get, Nat.reduceLT, ↓reduceIte, bindK_some, tup]
theorem hint_36_3 : E.hint 36 3 = false := rfl
theorem o_bs_24_3 (ps : List (Nat × AVal)) (st : ASt) : buildSliceA E.P false 24 3 ps st = (setsE false 1 [(.lit (.string ⟨#[]⟩)), (.lit (.string ⟨#[]⟩)), (.lit (.string ⟨#[]⟩))] ps).map (fun es => (.islice 1 es .exact, st)) := bs_i rfl rfl rfl rfl (by decide) rfl ps st
theorem o_ixi_24 (sz : Nat) (es : List AVal) (c : Cap) (k : IntKind) (i : Int) : indexA E.P 24 (.islice sz es c) (.lit (.int k i)) = if 0 ≤ i ∧ i < es.length ∧ some 1 = some sz then (es[i.toNat]?).map .iptr else none := rfl
theorem o_ixs_24 (s o l sz : Nat) (c : Option Nat) (k : IntKind) (i : Int) : indexA E.P 24 (.slice s o l sz c) (.lit (.int k i)) = if 0 ≤ i ∧ i < l then some (.ptr s (o + i.toNat * 1)) else none := rfl
theorem o_ldp_9 (st : ASt) (s o : Nat) : loadA E.P 9 st (.ptr s o) = (blkOf (st.heap s)).bind (fun cs => cs[o]?) := ld_one rfl rfl st s o
theorem o_ldi_9 (st : ASt) (v : AVal) : loadA E.P 9 st (.iptr v) = if v.isCell = true then some v else none := rfl

/-! ### braidwork/braidworklaw04.num -/
noncomputable def B19 : Code := code Tryd.f19
noncomputable def N19_0 := cp B19 []
noncomputable def R19_0 := cp B19 [1]
noncomputable def r19_0 := (⟨r_mk rfl (by simp only [R19_0, B19, code, Tryd.f19, dc, Poe]; exact rfl)⟩ : PLift (Goe E 19 R19_0 _))
noncomputable def N19_1 := cp B19 [2]
noncomputable def R19_1 := cp B19 [2, 1]
noncomputable def r19_1 := (⟨r_mk rfl (by simp only [R19_1, B19, code, Tryd.f19, dc, Poe]; exact rfl)⟩ : PLift (Goe E 19 R19_1 _))
noncomputable def N19_2 := cp B19 [2, 2]
noncomputable def N19_3 := cp B19 [2, 2, 1]
noncomputable def R19_2 := cp B19 [2, 2, 1, 1]
noncomputable def r19_2 := (⟨r_mk rfl (by simp only [R19_2, B19, code, Tryd.f19, dc, Poe]; exact rfl)⟩ : PLift (Goe E 19 R19_2 _))
noncomputable def N19_4 := cp B19 [2, 2, 1, 2]
noncomputable def N19_5 := cp B19 [2, 2, 1, 2, 6]
noncomputable def R19_3 := cp B19 [2, 2, 1, 2, 6, 1]
noncomputable def r19_3 := (⟨r_mk rfl (by simp only [R19_3, B19, code, Tryd.f19, dc, Poe]; exact rfl)⟩ : PLift (Goe E 19 R19_3 _))
theorem n19_5 : Gqe E 19 N19_5 (.seq R19_3 .ret) := gq rfl
theorem n19_4 : Gqe E 19 N19_4 (.cond (.tmp 9) N19_5 .skip) := gq rfl
theorem n19_3 : Gqe E 19 N19_3 (.seq R19_2 N19_4) := gq rfl
noncomputable def N19_6 := cp B19 [2, 2, 2]
noncomputable def R19_4 := cp B19 [2, 2, 2, 1]
noncomputable def r19_4 := (⟨r_mk rfl (by simp only [R19_4, B19, code, Tryd.f19, dc, Poe]; exact rfl)⟩ : PLift (Goe E 19 R19_4 _))
theorem n19_6 : Gqe E 19 N19_6 (.seq R19_4 .ret) := gq rfl
theorem n19_2 : Gqe E 19 N19_2 (.seq N19_3 N19_6) := gq rfl
theorem n19_1 : Gqe E 19 N19_1 (.seq R19_1 N19_2) := gq rfl
theorem n19_0 : Gqe E 19 N19_0 (.seq R19_0 N19_1) := gq rfl
theorem en_19 {x0 : AVal} {st : ASt} {R : AEnd → ASt → Prop} (h : ∀ g : Nat → AVal, g 0 = x0 → Gc E 19 N19_0 [] (RQ E Tryd.f19 R) (Sl 17 g) st) : ∃ r st', rw E 19 [x0] st = some (r, st') ∧ R r st' :=
  en_of (fn := Tryd.f19) (c := N19_0) rfl rfl rfl (Nat.le_of_ble_eq_true rfl) fun g hg => h g (hg 0 x0 rfl)
theorem rq_19 (R : AEnd → ASt → Prop) (g : Nat → AVal) (st : ASt) : RQ E Tryd.f19 R .ret (Sl 17 g) st = bindK (loadA E.P 48 st (g 2)) fun v0 => R (.returned (v0)) st := by
  rw [rq_gen (.inl rfl), show (Tryd.f19).results.toList = [.cell 2 48] from rfl]
  simp only [aresB, sl_get, Nat.reduceLT, ↓reduceIte, bindK_some, tup]
theorem o_al_48 (st : ASt) : allocA E.P 48 st = some (.ptr st.ctr 0, st.new (.cells [.lit (.string ⟨#[]⟩), .lit (.complex .f64 0 0), .lit (.string ⟨#[]⟩), .lit (.slice none 0 0)])) := rfl
theorem o_cv_30_5 (mt : Bool) (n : Int) (st : ASt) : convA E.P mt 30 5 (.lit (.int .i8 n)) st = some (.lit (.int .u8 (IntKind.u8.wrap n)), st) := c_int rfl rfl
theorem hint_19_7 : E.hint 19 7 = false := rfl
theorem o_bd_48 (ps : List (Nat × AVal)) : buildA E.P 48 ps = (fillA (fun i => ([(0, 1), (1, 1), (2, 1), (3, 1)] : List (Nat × Nat))[i]?) [.lit (.string ⟨#[]⟩), .lit (.complex .f64 0 0), .lit (.string ⟨#[]⟩), .lit (.slice none 0 0)] ps).map .agg := rfl
theorem o_st_48 (st : ASt) (s o : Nat) (vs : List AVal) : storeA E.P 48 st (.ptr s o) (.agg vs) = (blkOf (st.heap s)).bind (fun cs => if vs.length = 4 ∧ o + vs.length ≤ cs.length ∧ vs.all AVal.isCell = true then some (st.set s (some (.cells (putL cs o vs)))) else none) := st_agg rfl st s o vs
theorem o_ldp_48 (st : ASt) (s o : Nat) : loadA E.P 48 st (.ptr s o) = (blkOf (st.heap s)).bind (fun cs => if o + 4 ≤ cs.length then some (.agg ((cs.drop o).take 4)) else none) := ld_agg rfl rfl st s o
theorem o_ldi_48 (st : ASt) (cs : List AVal) : loadA E.P 48 st (.iptr (.agg cs)) = if cs.length = 4 then some (.agg cs) else none := rfl

/-! ### braidwork/braidworklaw04.register -/
noncomputable def B18 : Code := code Tryd.f18
noncomputable def N18_0 := cp B18 []
noncomputable def R18_0 := cp B18 [1]
noncomputable def r18_0 := (⟨r_mk rfl (by simp only [R18_0, B18, code, Tryd.f18, dc, Poe]; exact rfl)⟩ : PLift (Goe E 18 R18_0 _))
noncomputable def N18_1 := cp B18 [2]
noncomputable def R18_1 := cp B18 [2, 1]
noncomputable def r18_1 := (⟨r_mk rfl (by simp only [R18_1, B18, code, Tryd.f18, dc, Poe]; exact rfl)⟩ : PLift (Goe E 18 R18_1 _))
theorem n18_1 : Gqe E 18 N18_1 (.seq R18_1 .ret) := gq rfl
theorem n18_0 : Gqe E 18 N18_0 (.seq R18_0 N18_1) := gq rfl
theorem en_18 {x0 : AVal} {st : ASt} {R : AEnd → ASt → Prop} (h : ∀ g : Nat → AVal, g 0 = x0 → Gc E 18 N18_0 [] (RQ E Tryd.f18 R) (Sl 6 g) st) : ∃ r st', rw E 18 [x0] st = some (r, st') ∧ R r st' :=
  en_of (fn := Tryd.f18) (c := N18_0) rfl rfl rfl (Nat.le_of_ble_eq_true rfl) fun g hg => h g (hg 0 x0 rfl)
theorem rq_18 (R : AEnd → ASt → Prop) (g : Nat → AVal) (st : ASt) : RQ E Tryd.f18 R .ret (Sl 6 g) st = bindK (loadA E.P 48 st (g 2)) fun v0 => R (.returned (v0)) st := by
  rw [rq_gen (.inl rfl), show (Tryd.f18).results.toList = [.cell 2 48] from rfl]
  simp only [aresB, sl_get, Nat.reduceLT, ↓reduceIte, bindK_some, tup]
theorem cf_36 (a : List AVal) (st : ASt) : callFuncA E.P 36 a st = some (.enter 36 a st) := rfl

/-! ### braidwork/braidworklaw04.Expr -/
noncomputable def B51 : Code := code Tryd.f51
noncomputable def N51_0 := cp B51 []
noncomputable def R51_0 := cp B51 [1]
noncomputable def r51_0 := (⟨r_mk rfl (by simp only [R51_0, B51, code, Tryd.f51, dc, Poe]; exact rfl)⟩ : PLift (Goe E 51 R51_0 _))
noncomputable def N51_1 := cp B51 [2]
noncomputable def R51_1 := cp B51 [2, 1]
noncomputable def r51_1 := (⟨r_mk rfl (by simp only [R51_1, B51, code, Tryd.f51, dc, Poe]; exact rfl)⟩ : PLift (Goe E 51 R51_1 _))
noncomputable def N51_2 := cp B51 [2, 2]
noncomputable def N51_3 := cp B51 [2, 2, 1]
noncomputable def R51_2 := cp B51 [2, 2, 1, 1]
noncomputable def r51_2 := (⟨r_mk rfl (by simp only [R51_2, B51, code, Tryd.f51, dc, Poe]; exact rfl)⟩ : PLift (Goe E 51 R51_2 _))
noncomputable def N51_4 := cp B51 [2, 2, 1, 2]
noncomputable def N51_5 := cp B51 [2, 2, 1, 2, 3]
noncomputable def N51_6 := cp B51 [2, 2, 1, 2, 3, 1]
noncomputable def R51_3 := cp B51 [2, 2, 1, 2, 3, 1, 1]
noncomputable def r51_3 := (⟨r_mk rfl (by simp only [R51_3, B51, code, Tryd.f51, dc, Poe]; exact rfl)⟩ : PLift (Goe E 51 R51_3 _))
noncomputable def N51_7 := cp B51 [2, 2, 1, 2, 3, 1, 2]
noncomputable def N51_8 := cp B51 [2, 2, 1, 2, 3, 1, 2, 7]
noncomputable def R51_4 := cp B51 [2, 2, 1, 2, 3, 1, 2, 7, 1]
noncomputable def r51_4 := (⟨r_mk rfl (by simp only [R51_4, B51, code, Tryd.f51, dc, Poe]; exact rfl)⟩ : PLift (Goe E 51 R51_4 _))
noncomputable def N51_9 := cp B51 [2, 2, 1, 2, 3, 1, 2, 7, 2]
noncomputable def N51_10 := cp B51 [2, 2, 1, 2, 3, 1, 2, 7, 2, 7]
noncomputable def R51_5 := cp B51 [2, 2, 1, 2, 3, 1, 2, 7, 2, 7, 1]
noncomputable def r51_5 := (⟨r_mk rfl (by simp only [R51_5, B51, code, Tryd.f51, dc, Poe]; exact rfl)⟩ : PLift (Goe E 51 R51_5 _))
noncomputable def N51_11 := cp B51 [2, 2, 1, 2, 3, 1, 2, 7, 2, 7, 2]
noncomputable def N51_12 := cp B51 [2, 2, 1, 2, 3, 1, 2, 7, 2, 7, 2, 7]
noncomputable def R51_6 := cp B51 [2, 2, 1, 2, 3, 1, 2, 7, 2, 7, 2, 7]
noncomputable def r51_6 := (⟨r_mk rfl (by simp only [R51_6, B51, code, Tryd.f51, dc, Poe]; exact rfl)⟩ : PLift (Goe E 51 R51_6 _))
theorem n51_12 : Gqe E 51 N51_12 R51_6 := gq rfl
theorem n51_11 : Gqe E 51 N51_11 (.cond (.tmp 14) .skip N51_12) := gq rfl
theorem n51_10 : Gqe E 51 N51_10 (.seq R51_5 N51_11) := gq rfl
theorem n51_9 : Gqe E 51 N51_9 (.cond (.tmp 14) .skip N51_10) := gq rfl
theorem n51_8 : Gqe E 51 N51_8 (.seq R51_4 N51_9) := gq rfl
theorem n51_7 : Gqe E 51 N51_7 (.cond (.tmp 14) .skip N51_8) := gq rfl
theorem n51_6 : Gqe E 51 N51_6 (.seq R51_3 N51_7) := gq rfl
noncomputable def N51_13 := cp B51 [2, 2, 1, 2, 3, 2]
noncomputable def N51_14 := cp B51 [2, 2, 1, 2, 3, 2, 6]
noncomputable def R51_7 := cp B51 [2, 2, 1, 2, 3, 2, 6, 1]
noncomputable def r51_7 := (⟨r_mk rfl (by simp only [R51_7, B51, code, Tryd.f51, dc, Poe]; exact rfl)⟩ : PLift (Goe E 51 R51_7 _))
theorem n51_14 : Gqe E 51 N51_14 (.seq R51_7 .ret) := gq rfl
noncomputable def N51_15 := cp B51 [2, 2, 1, 2, 3, 2, 7]
noncomputable def N51_16 := cp B51 [2, 2, 1, 2, 3, 2, 7, 1]
noncomputable def R51_8 := cp B51 [2, 2, 1, 2, 3, 2, 7, 1, 1]
noncomputable def r51_8 := (⟨r_mk rfl (by simp only [R51_8, B51, code, Tryd.f51, dc, Poe]; exact rfl)⟩ : PLift (Goe E 51 R51_8 _))
noncomputable def N51_17 := cp B51 [2, 2, 1, 2, 3, 2, 7, 1, 2]
noncomputable def N51_18 := cp B51 [2, 2, 1, 2, 3, 2, 7, 1, 2, 7]
noncomputable def R51_9 := cp B51 [2, 2, 1, 2, 3, 2, 7, 1, 2, 7]
noncomputable def r51_9 := (⟨r_mk rfl (by simp only [R51_9, B51, code, Tryd.f51, dc, Poe]; exact rfl)⟩ : PLift (Goe E 51 R51_9 _))
theorem n51_18 : Gqe E 51 N51_18 R51_9 := gq rfl
theorem n51_17 : Gqe E 51 N51_17 (.cond (.tmp 20) .skip N51_18) := gq rfl
theorem n51_16 : Gqe E 51 N51_16 (.seq R51_8 N51_17) := gq rfl
noncomputable def N51_19 := cp B51 [2, 2, 1, 2, 3, 2, 7, 2]
noncomputable def N51_20 := cp B51 [2, 2, 1, 2, 3, 2, 7, 2, 6]
noncomputable def R51_10 := cp B51 [2, 2, 1, 2, 3, 2, 7, 2, 6, 1]
noncomputable def r51_10 := (⟨r_mk rfl (by simp only [R51_10, B51, code, Tryd.f51, dc, Poe]; exact rfl)⟩ : PLift (Goe E 51 R51_10 _))
theorem n51_20 : Gqe E 51 N51_20 (.seq R51_10 .ret) := gq rfl
noncomputable def N51_21 := cp B51 [2, 2, 1, 2, 3, 2, 7, 2, 7]
noncomputable def R51_11 := cp B51 [2, 2, 1, 2, 3, 2, 7, 2, 7, 1]
noncomputable def r51_11 := (⟨r_mk rfl (by simp only [R51_11, B51, code, Tryd.f51, dc, Poe]; exact rfl)⟩ : PLift (Goe E 51 R51_11 _))
noncomputable def N51_22 := cp B51 [2, 2, 1, 2, 3, 2, 7, 2, 7, 2]
noncomputable def N51_23 := cp B51 [2, 2, 1, 2, 3, 2, 7, 2, 7, 2, 6]
noncomputable def R51_12 := cp B51 [2, 2, 1, 2, 3, 2, 7, 2, 7, 2, 6, 1]
noncomputable def r51_12 := (⟨r_mk rfl (by simp only [R51_12, B51, code, Tryd.f51, dc, Poe]; exact rfl)⟩ : PLift (Goe E 51 R51_12 _))
theorem n51_23 : Gqe E 51 N51_23 (.seq R51_12 .ret) := gq rfl
noncomputable def N51_24 := cp B51 [2, 2, 1, 2, 3, 2, 7, 2, 7, 2, 7]
noncomputable def R51_13 := cp B51 [2, 2, 1, 2, 3, 2, 7, 2, 7, 2, 7, 1]
noncomputable def r51_13 := (⟨r_mk rfl (by simp only [R51_13, B51, code, Tryd.f51, dc, Poe]; exact rfl)⟩ : PLift (Goe E 51 R51_13 _))
noncomputable def N51_25 := cp B51 [2, 2, 1, 2, 3, 2, 7, 2, 7, 2, 7, 2]
noncomputable def N51_26 := cp B51 [2, 2, 1, 2, 3, 2, 7, 2, 7, 2, 7, 2, 6]
noncomputable def R51_14 := cp B51 [2, 2, 1, 2, 3, 2, 7, 2, 7, 2, 7, 2, 6, 1]
noncomputable def r51_14 := (⟨r_mk rfl (by simp only [R51_14, B51, code, Tryd.f51, dc, Poe]; exact rfl)⟩ : PLift (Goe E 51 R51_14 _))
theorem n51_26 : Gqe E 51 N51_26 (.seq R51_14 .ret) := gq rfl
noncomputable def N51_27 := cp B51 [2, 2, 1, 2, 3, 2, 7, 2, 7, 2, 7, 2, 7]
noncomputable def R51_15 := cp B51 [2, 2, 1, 2, 3, 2, 7, 2, 7, 2, 7, 2, 7, 1]
noncomputable def r51_15 := (⟨r_mk rfl (by simp only [R51_15, B51, code, Tryd.f51, dc, Poe]; exact rfl)⟩ : PLift (Goe E 51 R51_15 _))
noncomputable def N51_28 := cp B51 [2, 2, 1, 2, 3, 2, 7, 2, 7, 2, 7, 2, 7, 2]
noncomputable def N51_29 := cp B51 [2, 2, 1, 2, 3, 2, 7, 2, 7, 2, 7, 2, 7, 2, 6]
noncomputable def R51_16 := cp B51 [2, 2, 1, 2, 3, 2, 7, 2, 7, 2, 7, 2, 7, 2, 6, 1]
noncomputable def r51_16 := (⟨r_mk rfl (by simp only [R51_16, B51, code, Tryd.f51, dc, Poe]; exact rfl)⟩ : PLift (Goe E 51 R51_16 _))
theorem n51_29 : Gqe E 51 N51_29 (.seq R51_16 .ret) := gq rfl
noncomputable def N51_30 := cp B51 [2, 2, 1, 2, 3, 2, 7, 2, 7, 2, 7, 2, 7, 2, 7]
noncomputable def R51_17 := cp B51 [2, 2, 1, 2, 3, 2, 7, 2, 7, 2, 7, 2, 7, 2, 7, 1]
noncomputable def r51_17 := (⟨r_mk rfl (by simp only [R51_17, B51, code, Tryd.f51, dc, Poe]; exact rfl)⟩ : PLift (Goe E 51 R51_17 _))
noncomputable def N51_31 := cp B51 [2, 2, 1, 2, 3, 2, 7, 2, 7, 2, 7, 2, 7, 2, 7, 2]
noncomputable def N51_32 := cp B51 [2, 2, 1, 2, 3, 2, 7, 2, 7, 2, 7, 2, 7, 2, 7, 2, 6]
noncomputable def R51_18 := cp B51 [2, 2, 1, 2, 3, 2, 7, 2, 7, 2, 7, 2, 7, 2, 7, 2, 6, 1]
noncomputable def r51_18 := (⟨r_mk rfl (by simp only [R51_18, B51, code, Tryd.f51, dc, Poe]; exact rfl)⟩ : PLift (Goe E 51 R51_18 _))
theorem n51_32 : Gqe E 51 N51_32 (.seq R51_18 .ret) := gq rfl
noncomputable def N51_33 := cp B51 [2, 2, 1, 2, 3, 2, 7, 2, 7, 2, 7, 2, 7, 2, 7, 2, 7]
noncomputable def R51_19 := cp B51 [2, 2, 1, 2, 3, 2, 7, 2, 7, 2, 7, 2, 7, 2, 7, 2, 7, 1]
noncomputable def r51_19 := (⟨r_mk rfl (by simp only [R51_19, B51, code, Tryd.f51, dc, Poe]; exact rfl)⟩ : PLift (Goe E 51 R51_19 _))
noncomputable def N51_34 := cp B51 [2, 2, 1, 2, 3, 2, 7, 2, 7, 2, 7, 2, 7, 2, 7, 2, 7, 2]
noncomputable def N51_35 := cp B51 [2, 2, 1, 2, 3, 2, 7, 2, 7, 2, 7, 2, 7, 2, 7, 2, 7, 2, 6]
noncomputable def R51_20 := cp B51 [2, 2, 1, 2, 3, 2, 7, 2, 7, 2, 7, 2, 7, 2, 7, 2, 7, 2, 6, 1]
noncomputable def r51_20 := (⟨r_mk rfl (by simp only [R51_20, B51, code, Tryd.f51, dc, Poe]; exact rfl)⟩ : PLift (Goe E 51 R51_20 _))
theorem n51_35 : Gqe E 51 N51_35 (.seq R51_20 .ret) := gq rfl
noncomputable def N51_36 := cp B51 [2, 2, 1, 2, 3, 2, 7, 2, 7, 2, 7, 2, 7, 2, 7, 2, 7, 2, 7]
noncomputable def R51_21 := cp B51 [2, 2, 1, 2, 3, 2, 7, 2, 7, 2, 7, 2, 7, 2, 7, 2, 7, 2, 7, 1]
noncomputable def r51_21 := (⟨r_mk rfl (by simp only [R51_21, B51, code, Tryd.f51, dc, Poe]; exact rfl)⟩ : PLift (Goe E 51 R51_21 _))
noncomputable def N51_37 := cp B51 [2, 2, 1, 2, 3, 2, 7, 2, 7, 2, 7, 2, 7, 2, 7, 2, 7, 2, 7, 2]
noncomputable def N51_38 := cp B51 [2, 2, 1, 2, 3, 2, 7, 2, 7, 2, 7, 2, 7, 2, 7, 2, 7, 2, 7, 2, 6]
noncomputable def R51_22 := cp B51 [2, 2, 1, 2, 3, 2, 7, 2, 7, 2, 7, 2, 7, 2, 7, 2, 7, 2, 7, 2, 6, 1]
noncomputable def r51_22 := (⟨r_mk rfl (by simp only [R51_22, B51, code, Tryd.f51, dc, Poe]; exact rfl)⟩ : PLift (Goe E 51 R51_22 _))
theorem n51_38 : Gqe E 51 N51_38 (.seq R51_22 .ret) := gq rfl
noncomputable def N51_39 := cp B51 [2, 2, 1, 2, 3, 2, 7, 2, 7, 2, 7, 2, 7, 2, 7, 2, 7, 2, 7, 2, 7]
noncomputable def R51_23 := cp B51 [2, 2, 1, 2, 3, 2, 7, 2, 7, 2, 7, 2, 7, 2, 7, 2, 7, 2, 7, 2, 7, 1]
noncomputable def r51_23 := (⟨r_mk rfl (by simp only [R51_23, B51, code, Tryd.f51, dc, Poe]; exact rfl)⟩ : PLift (Goe E 51 R51_23 _))
noncomputable def N51_40 := cp B51 [2, 2, 1, 2, 3, 2, 7, 2, 7, 2, 7, 2, 7, 2, 7, 2, 7, 2, 7, 2, 7, 2]
noncomputable def N51_41 := cp B51 [2, 2, 1, 2, 3, 2, 7, 2, 7, 2, 7, 2, 7, 2, 7, 2, 7, 2, 7, 2, 7, 2, 6]
noncomputable def R51_24 := cp B51 [2, 2, 1, 2, 3, 2, 7, 2, 7, 2, 7, 2, 7, 2, 7, 2, 7, 2, 7, 2, 7, 2, 6, 1]
noncomputable def r51_24 := (⟨r_mk rfl (by simp only [R51_24, B51, code, Tryd.f51, dc, Poe]; exact rfl)⟩ : PLift (Goe E 51 R51_24 _))
theorem n51_41 : Gqe E 51 N51_41 (.seq R51_24 .ret) := gq rfl
noncomputable def N51_42 := cp B51 [2, 2, 1, 2, 3, 2, 7, 2, 7, 2, 7, 2, 7, 2, 7, 2, 7, 2, 7, 2, 7, 2, 7]
noncomputable def R51_25 := cp B51 [2, 2, 1, 2, 3, 2, 7, 2, 7, 2, 7, 2, 7, 2, 7, 2, 7, 2, 7, 2, 7, 2, 7, 1]
noncomputable def r51_25 := (⟨r_mk rfl (by simp only [R51_25, B51, code, Tryd.f51, dc, Poe]; exact rfl)⟩ : PLift (Goe E 51 R51_25 _))
noncomputable def N51_43 := cp B51 [2, 2, 1, 2, 3, 2, 7, 2, 7, 2, 7, 2, 7, 2, 7, 2, 7, 2, 7, 2, 7, 2, 7, 2]
noncomputable def N51_44 := cp B51 [2, 2, 1, 2, 3, 2, 7, 2, 7, 2, 7, 2, 7, 2, 7, 2, 7, 2, 7, 2, 7, 2, 7, 2, 6]
noncomputable def R51_26 := cp B51 [2, 2, 1, 2, 3, 2, 7, 2, 7, 2, 7, 2, 7, 2, 7, 2, 7, 2, 7, 2, 7, 2, 7, 2, 6, 1]
noncomputable def r51_26 := (⟨r_mk rfl (by simp only [R51_26, B51, code, Tryd.f51, dc, Poe]; exact rfl)⟩ : PLift (Goe E 51 R51_26 _))
theorem n51_44 : Gqe E 51 N51_44 (.seq R51_26 .ret) := gq rfl
noncomputable def N51_45 := cp B51 [2, 2, 1, 2, 3, 2, 7, 2, 7, 2, 7, 2, 7, 2, 7, 2, 7, 2, 7, 2, 7, 2, 7, 2, 7]
noncomputable def R51_27 := cp B51 [2, 2, 1, 2, 3, 2, 7, 2, 7, 2, 7, 2, 7, 2, 7, 2, 7, 2, 7, 2, 7, 2, 7, 2, 7, 1]
noncomputable def r51_27 := (⟨r_mk rfl (by simp only [R51_27, B51, code, Tryd.f51, dc, Poe]; exact rfl)⟩ : PLift (Goe E 51 R51_27 _))
noncomputable def N51_46 := cp B51 [2, 2, 1, 2, 3, 2, 7, 2, 7, 2, 7, 2, 7, 2, 7, 2, 7, 2, 7, 2, 7, 2, 7, 2, 7, 2]
noncomputable def N51_47 := cp B51 [2, 2, 1, 2, 3, 2, 7, 2, 7, 2, 7, 2, 7, 2, 7, 2, 7, 2, 7, 2, 7, 2, 7, 2, 7, 2, 6]
noncomputable def R51_28 := cp B51 [2, 2, 1, 2, 3, 2, 7, 2, 7, 2, 7, 2, 7, 2, 7, 2, 7, 2, 7, 2, 7, 2, 7, 2, 7, 2, 6, 1]
noncomputable def r51_28 := (⟨r_mk rfl (by simp only [R51_28, B51, code, Tryd.f51, dc, Poe]; exact rfl)⟩ : PLift (Goe E 51 R51_28 _))
theorem n51_47 : Gqe E 51 N51_47 (.seq R51_28 .ret) := gq rfl
theorem n51_46 : Gqe E 51 N51_46 (.cond (.tmp 73) N51_47 .skip) := gq rfl
theorem n51_45 : Gqe E 51 N51_45 (.seq R51_27 N51_46) := gq rfl
theorem n51_43 : Gqe E 51 N51_43 (.cond (.tmp 68) N51_44 N51_45) := gq rfl
theorem n51_42 : Gqe E 51 N51_42 (.seq R51_25 N51_43) := gq rfl
theorem n51_40 : Gqe E 51 N51_40 (.cond (.tmp 60) N51_41 N51_42) := gq rfl
theorem n51_39 : Gqe E 51 N51_39 (.seq R51_23 N51_40) := gq rfl
theorem n51_37 : Gqe E 51 N51_37 (.cond (.tmp 54) N51_38 N51_39) := gq rfl
theorem n51_36 : Gqe E 51 N51_36 (.seq R51_21 N51_37) := gq rfl
theorem n51_34 : Gqe E 51 N51_34 (.cond (.tmp 48) N51_35 N51_36) := gq rfl
theorem n51_33 : Gqe E 51 N51_33 (.seq R51_19 N51_34) := gq rfl
theorem n51_31 : Gqe E 51 N51_31 (.cond (.tmp 42) N51_32 N51_33) := gq rfl
theorem n51_30 : Gqe E 51 N51_30 (.seq R51_17 N51_31) := gq rfl
theorem n51_28 : Gqe E 51 N51_28 (.cond (.tmp 36) N51_29 N51_30) := gq rfl
theorem n51_27 : Gqe E 51 N51_27 (.seq R51_15 N51_28) := gq rfl
theorem n51_25 : Gqe E 51 N51_25 (.cond (.tmp 30) N51_26 N51_27) := gq rfl
theorem n51_24 : Gqe E 51 N51_24 (.seq R51_13 N51_25) := gq rfl
theorem n51_22 : Gqe E 51 N51_22 (.cond (.tmp 24) N51_23 N51_24) := gq rfl
theorem n51_21 : Gqe E 51 N51_21 (.seq R51_11 N51_22) := gq rfl
theorem n51_19 : Gqe E 51 N51_19 (.cond (.tmp 20) N51_20 N51_21) := gq rfl
theorem n51_15 : Gqe E 51 N51_15 (.seq N51_16 N51_19) := gq rfl
theorem n51_13 : Gqe E 51 N51_13 (.cond (.tmp 14) N51_14 N51_15) := gq rfl
theorem n51_5 : Gqe E 51 N51_5 (.seq N51_6 N51_13) := gq rfl
theorem n51_4 : Gqe E 51 N51_4 (.block 0 N51_5) := gq rfl
theorem n51_3 : Gqe E 51 N51_3 (.seq R51_2 N51_4) := gq rfl
noncomputable def N51_48 := cp B51 [2, 2, 2]
noncomputable def R51_29 := cp B51 [2, 2, 2, 1]
noncomputable def r51_29 := (⟨r_mk rfl (by simp only [R51_29, B51, code, Tryd.f51, dc, Poe]; exact rfl)⟩ : PLift (Goe E 51 R51_29 _))
theorem n51_48 : Gqe E 51 N51_48 (.seq R51_29 .ret) := gq rfl
theorem n51_2 : Gqe E 51 N51_2 (.seq N51_3 N51_48) := gq rfl
theorem n51_1 : Gqe E 51 N51_1 (.seq R51_1 N51_2) := gq rfl
theorem n51_0 : Gqe E 51 N51_0 (.seq R51_0 N51_1) := gq rfl
theorem en_51 {x0 x1 : AVal} {st : ASt} {R : AEnd → ASt → Prop} (h : ∀ g : Nat → AVal, g 0 = x0 → g 1 = x1 → Gc E 51 N51_0 [] (RQ E Tryd.f51 R) (Sl 84 g) st) : ∃ r st', rw E 51 [x0, x1] st = some (r, st') ∧ R r st' :=
  en_of (fn := Tryd.f51) (c := N51_0) rfl rfl rfl (Nat.le_of_ble_eq_true rfl) fun g hg => h g (hg 0 x0 rfl) (hg 1 x1 rfl)
theorem rq_51 (R : AEnd → ASt → Prop) (g : Nat → AVal) (st : ASt) : RQ E Tryd.f51 R .ret (Sl 84 g) st = bindK (loadA E.P 48 st (g 4)) fun v0 => R (.returned (v0)) st := by
  rw [rq_gen (.inl rfl), show (Tryd.f51).results.toList = [.cell 4 48] from rfl]
  simp only [aresB, sl_get, Nat.reduceLT, ↓reduceIte, bindK_some, tup]
theorem cf_18 (a : List AVal) (st : ASt) : callFuncA E.P 18 a st = some (.enter 18 a st) := rfl
theorem cf_19 (a : List AVal) (st : ASt) : callFuncA E.P 19 a st = some (.enter 19 a st) := rfl
theorem hint_51_28 : E.hint 51 28 = false := rfl
theorem o_bs_46_2 (ps : List (Nat × AVal)) (st : ASt) : buildSliceA E.P false 46 2 ps st = (setsE true 4 [(.agg [.lit (.string ⟨#[]⟩), .lit (.complex .f64 0 0), .lit (.string ⟨#[]⟩), .lit (.slice none 0 0)]), (.agg [.lit (.string ⟨#[]⟩), .lit (.complex .f64 0 0), .lit (.string ⟨#[]⟩), .lit (.slice none 0 0)])] ps).map (fun es => (.islice 4 es .exact, st)) := bs_i rfl rfl rfl rfl (by decide) rfl ps st
theorem hint_51_34 : E.hint 51 34 = false := rfl
theorem hint_51_40 : E.hint 51 40 = false := rfl
theorem hint_51_46 : E.hint 51 46 = false := rfl
theorem hint_51_52 : E.hint 51 52 = false := rfl
theorem hint_51_58 : E.hint 51 58 = false := rfl
theorem hint_51_64 : E.hint 51 64 = false := rfl
theorem hint_51_66 : E.hint 51 66 = false := rfl
theorem o_bs_46_1 (ps : List (Nat × AVal)) (st : ASt) : buildSliceA E.P false 46 1 ps st = (setsE true 4 [(.agg [.lit (.string ⟨#[]⟩), .lit (.complex .f64 0 0), .lit (.string ⟨#[]⟩), .lit (.slice none 0 0)])] ps).map (fun es => (.islice 4 es .exact, st)) := bs_i rfl rfl rfl rfl (by decide) rfl ps st
theorem hint_51_71 : E.hint 51 71 = false := rfl
theorem hint_51_76 : E.hint 51 76 = false := rfl
theorem hint_51_80 : E.hint 51 80 = false := rfl
theorem hint_51_82 : E.hint 51 82 = false := rfl

/-! ### braidwork/braidworklaw04.letter -/
noncomputable def B24 : Code := code Tryd.f24
noncomputable def N24_0 := cp B24 []
noncomputable def R24_0 := cp B24 [1]
noncomputable def r24_0 := (⟨r_mk rfl (by simp only [R24_0, B24, code, Tryd.f24, dc, Poe]; exact rfl)⟩ : PLift (Goe E 24 R24_0 _))
noncomputable def N24_1 := cp B24 [2]
noncomputable def R24_1 := cp B24 [2, 1]
noncomputable def r24_1 := (⟨r_mk rfl (by simp only [R24_1, B24, code, Tryd.f24, dc, Poe]; exact rfl)⟩ : PLift (Goe E 24 R24_1 _))
theorem n24_1 : Gqe E 24 N24_1 (.seq R24_1 .ret) := gq rfl
theorem n24_0 : Gqe E 24 N24_0 (.seq R24_0 N24_1) := gq rfl
theorem en_24 {x0 x1 x2 : AVal} {st : ASt} {R : AEnd → ASt → Prop} (h : ∀ g : Nat → AVal, g 0 = x0 → g 1 = x1 → g 2 = x2 → Gc E 24 N24_0 [] (RQ E Tryd.f24 R) (Sl 15 g) st) : ∃ r st', rw E 24 [x0, x1, x2] st = some (r, st') ∧ R r st' :=
  en_of (fn := Tryd.f24) (c := N24_0) rfl rfl rfl (Nat.le_of_ble_eq_true rfl) fun g hg => h g (hg 0 x0 rfl) (hg 1 x1 rfl) (hg 2 x2 rfl)
theorem rq_24 (R : AEnd → ASt → Prop) (g : Nat → AVal) (st : ASt) : RQ E Tryd.f24 R .ret (Sl 15 g) st = R (.returned (g 6)) st := by
  rw [rq_gen (.inl rfl), show (Tryd.f24).results.toList = [.tmp 6] from rfl]
  simp only [aresB, sl_get, Nat.reduceLT, ↓reduceIte, bindK_some, tup]
theorem o_cv_5_21 (mt : Bool) (n : Int) (st : ASt) : convA E.P mt 5 21 (.lit (.int .u8 n)) st = some (.lit (.int .i32 (IntKind.i32.wrap n)), st) := c_int rfl rfl
theorem hint_24_13 : E.hint 24 13 = false := rfl

/-! ### braidwork/braidworklaw04.many -/
noncomputable def B23 : Code := code Tryd.f23
noncomputable def N23_0 := cp B23 []
noncomputable def R23_0 := cp B23 [1]
noncomputable def r23_0 := (⟨r_mk rfl (by simp only [R23_0, B23, code, Tryd.f23, dc, Poe]; exact rfl)⟩ : PLift (Goe E 23 R23_0 _))
noncomputable def N23_1 := cp B23 [2]
noncomputable def N23_2 := cp B23 [2, 1]
noncomputable def R23_1 := cp B23 [2, 1, 1]
noncomputable def r23_1 := (⟨r_mk rfl (by simp only [R23_1, B23, code, Tryd.f23, dc, Poe]; exact rfl)⟩ : PLift (Goe E 23 R23_1 _))
noncomputable def N23_3 := cp B23 [2, 1, 2]
noncomputable def N23_4 := cp B23 [2, 1, 2, 6]
noncomputable def R23_2 := cp B23 [2, 1, 2, 6, 1]
noncomputable def r23_2 := (⟨r_mk rfl (by simp only [R23_2, B23, code, Tryd.f23, dc, Poe]; exact rfl)⟩ : PLift (Goe E 23 R23_2 _))
theorem n23_4 : Gqe E 23 N23_4 (.seq R23_2 .ret) := gq rfl
theorem n23_3 : Gqe E 23 N23_3 (.cond (.tmp 7) N23_4 .skip) := gq rfl
theorem n23_2 : Gqe E 23 N23_2 (.seq R23_1 N23_3) := gq rfl
noncomputable def N23_5 := cp B23 [2, 2]
noncomputable def R23_3 := cp B23 [2, 2, 1]
noncomputable def r23_3 := (⟨r_mk rfl (by simp only [R23_3, B23, code, Tryd.f23, dc, Poe]; exact rfl)⟩ : PLift (Goe E 23 R23_3 _))
theorem n23_5 : Gqe E 23 N23_5 (.seq R23_3 .ret) := gq rfl
theorem n23_1 : Gqe E 23 N23_1 (.seq N23_2 N23_5) := gq rfl
theorem n23_0 : Gqe E 23 N23_0 (.seq R23_0 N23_1) := gq rfl
theorem en_23 {x0 x1 x2 : AVal} {st : ASt} {R : AEnd → ASt → Prop} (h : ∀ g : Nat → AVal, g 0 = x0 → g 1 = x1 → g 2 = x2 → Gc E 23 N23_0 [] (RQ E Tryd.f23 R) (Sl 16 g) st) : ∃ r st', rw E 23 [x0, x1, x2] st = some (r, st') ∧ R r st' :=
  en_of (fn := Tryd.f23) (c := N23_0) rfl rfl rfl (Nat.le_of_ble_eq_true rfl) fun g hg => h g (hg 0 x0 rfl) (hg 1 x1 rfl) (hg 2 x2 rfl)
theorem rq_23 (R : AEnd → ASt → Prop) (g : Nat → AVal) (st : ASt) : RQ E Tryd.f23 R .ret (Sl 16 g) st = R (.returned (g 6)) st := by
  rw [rq_gen (.inl rfl), show (Tryd.f23).results.toList = [.tmp 6] from rfl]
  simp only [aresB, sl_get, Nat.reduceLT, ↓reduceIte, bindK_some, tup]

/-! ### (braidwork/braidworklaw04.Small).stmt -/
noncomputable def B40 : Code := code Tryd.f40
noncomputable def N40_0 := cp B40 []
noncomputable def R40_0 := cp B40 [1]
noncomputable def r40_0 := (⟨r_mk rfl (by simp only [R40_0, B40, code, Tryd.f40, dc, Poe]; exact rfl)⟩ : PLift (Goe E 40 R40_0 _))
noncomputable def N40_1 := cp B40 [2]
noncomputable def R40_1 := cp B40 [2, 1]
noncomputable def r40_1 := (⟨r_mk rfl (by simp only [R40_1, B40, code, Tryd.f40, dc, Poe]; exact rfl)⟩ : PLift (Goe E 40 R40_1 _))
noncomputable def N40_2 := cp B40 [2, 2]
noncomputable def R40_2 := cp B40 [2, 2, 1]
noncomputable def r40_2 := (⟨r_mk rfl (by simp only [R40_2, B40, code, Tryd.f40, dc, Poe]; exact rfl)⟩ : PLift (Goe E 40 R40_2 _))
noncomputable def N40_3 := cp B40 [2, 2, 2]
noncomputable def R40_3 := cp B40 [2, 2, 2, 1]
noncomputable def r40_3 := (⟨r_mk rfl (by simp only [R40_3, B40, code, Tryd.f40, dc, Poe]; exact rfl)⟩ : PLift (Goe E 40 R40_3 _))
noncomputable def N40_4 := cp B40 [2, 2, 2, 2]
noncomputable def N40_5 := cp B40 [2, 2, 2, 2, 1, 3]
noncomputable def R40_4 := cp B40 [2, 2, 2, 2, 1, 3, 1]
noncomputable def r40_4 := (⟨r_mk rfl (by simp only [R40_4, B40, code, Tryd.f40, dc, Poe]; exact rfl)⟩ : PLift (Goe E 40 R40_4 _))
noncomputable def N40_6 := cp B40 [2, 2, 2, 2, 1, 3, 2]
noncomputable def N40_7 := cp B40 [2, 2, 2, 2, 1, 3, 2, 6]
noncomputable def R40_5 := cp B40 [2, 2, 2, 2, 1, 3, 2, 6, 1]
noncomputable def r40_5 := (⟨r_mk rfl (by simp only [R40_5, B40, code, Tryd.f40, dc, Poe]; exact rfl)⟩ : PLift (Goe E 40 R40_5 _))
noncomputable def N40_8 := cp B40 [2, 2, 2, 2, 1, 3, 2, 6, 2]
noncomputable def R40_6 := cp B40 [2, 2, 2, 2, 1, 3, 2, 6, 2]
noncomputable def r40_6 := (⟨r_pl (p := [.one 0 [], .one 1 [], .one 2 [], .one 3 [], .one 4 [], .one 5 [], .one 6 [], .one 7 [], .one 8 [], .one 9 [], .one 10 [1], .one 11 [], .one 12 [], .one 13 [], .one 14 []]) rfl (by kernel_rfl) (by kernel_rfl) (by simp only [R40_6, B40, code, Tryd.f40, dc, dpl, Ple]; exact rfl)⟩ : PLift (Gpe E 40 R40_6 _))
theorem n40_8 : Gqe E 40 N40_8 R40_6 := gq rfl
theorem n40_7 : Gqe E 40 N40_7 (.seq R40_5 N40_8) := gq rfl
noncomputable def N40_9 := cp B40 [2, 2, 2, 2, 1, 3, 2, 7]
noncomputable def R40_7 := cp B40 [2, 2, 2, 2, 1, 3, 2, 7, 1]
noncomputable def r40_7 := (⟨r_mk rfl (by simp only [R40_7, B40, code, Tryd.f40, dc, Poe]; exact rfl)⟩ : PLift (Goe E 40 R40_7 _))
noncomputable def N40_10 := cp B40 [2, 2, 2, 2, 1, 3, 2, 7, 2]
noncomputable def N40_11 := cp B40 [2, 2, 2, 2, 1, 3, 2, 7, 2, 6]
noncomputable def R40_8 := cp B40 [2, 2, 2, 2, 1, 3, 2, 7, 2, 6]
noncomputable def r40_8 := (⟨r_pl (p := [.one 0 [], .one 1 [], .one 2 [], .one 3 [], .one 4 [1], .one 5 [], .one 6 [], .one 7 []]) rfl (by kernel_rfl) (by kernel_rfl) (by simp only [R40_8, B40, code, Tryd.f40, dc, dpl, Ple]; exact rfl)⟩ : PLift (Gpe E 40 R40_8 _))
theorem n40_11 : Gqe E 40 N40_11 R40_8 := gq rfl
noncomputable def N40_12 := cp B40 [2, 2, 2, 2, 1, 3, 2, 7, 2, 7]
noncomputable def R40_9 := cp B40 [2, 2, 2, 2, 1, 3, 2, 7, 2, 7, 1]
noncomputable def r40_9 := (⟨r_mk rfl (by simp only [R40_9, B40, code, Tryd.f40, dc, Poe]; exact rfl)⟩ : PLift (Goe E 40 R40_9 _))
noncomputable def N40_13 := cp B40 [2, 2, 2, 2, 1, 3, 2, 7, 2, 7, 2]
noncomputable def N40_14 := cp B40 [2, 2, 2, 2, 1, 3, 2, 7, 2, 7, 2, 6]
noncomputable def R40_10 := cp B40 [2, 2, 2, 2, 1, 3, 2, 7, 2, 7, 2, 6, 1]
noncomputable def r40_10 := (⟨r_mk rfl (by simp only [R40_10, B40, code, Tryd.f40, dc, Poe]; exact rfl)⟩ : PLift (Goe E 40 R40_10 _))
noncomputable def N40_15 := cp B40 [2, 2, 2, 2, 1, 3, 2, 7, 2, 7, 2, 6, 2]
noncomputable def R40_11 := cp B40 [2, 2, 2, 2, 1, 3, 2, 7, 2, 7, 2, 6, 2]
noncomputable def r40_11 := (⟨r_mk rfl (by simp only [R40_11, B40, code, Tryd.f40, dc, Poe]; exact rfl)⟩ : PLift (Goe E 40 R40_11 _))
theorem n40_15 : Gqe E 40 N40_15 R40_11 := gq rfl
theorem n40_14 : Gqe E 40 N40_14 (.seq R40_10 N40_15) := gq rfl
noncomputable def N40_16 := cp B40 [2, 2, 2, 2, 1, 3, 2, 7, 2, 7, 2, 7]
noncomputable def R40_12 := cp B40 [2, 2, 2, 2, 1, 3, 2, 7, 2, 7, 2, 7, 1]
noncomputable def r40_12 := (⟨r_mk rfl (by simp only [R40_12, B40, code, Tryd.f40, dc, Poe]; exact rfl)⟩ : PLift (Goe E 40 R40_12 _))
noncomputable def N40_17 := cp B40 [2, 2, 2, 2, 1, 3, 2, 7, 2, 7, 2, 7, 2]
noncomputable def N40_18 := cp B40 [2, 2, 2, 2, 1, 3, 2, 7, 2, 7, 2, 7, 2, 6]
noncomputable def R40_13 := cp B40 [2, 2, 2, 2, 1, 3, 2, 7, 2, 7, 2, 7, 2, 6, 1]
noncomputable def r40_13 := (⟨r_mk rfl (by simp only [R40_13, B40, code, Tryd.f40, dc, Poe]; exact rfl)⟩ : PLift (Goe E 40 R40_13 _))
noncomputable def N40_19 := cp B40 [2, 2, 2, 2, 1, 3, 2, 7, 2, 7, 2, 7, 2, 6, 2]
noncomputable def R40_14 := cp B40 [2, 2, 2, 2, 1, 3, 2, 7, 2, 7, 2, 7, 2, 6, 2]
noncomputable def r40_14 := (⟨r_mk rfl (by simp only [R40_14, B40, code, Tryd.f40, dc, Poe]; exact rfl)⟩ : PLift (Goe E 40 R40_14 _))
theorem n40_19 : Gqe E 40 N40_19 R40_14 := gq rfl
theorem n40_18 : Gqe E 40 N40_18 (.seq R40_13 N40_19) := gq rfl
noncomputable def N40_20 := cp B40 [2, 2, 2, 2, 1, 3, 2, 7, 2, 7, 2, 7, 2, 7]
noncomputable def R40_15 := cp B40 [2, 2, 2, 2, 1, 3, 2, 7, 2, 7, 2, 7, 2, 7, 1]
noncomputable def r40_15 := (⟨r_mk rfl (by simp only [R40_15, B40, code, Tryd.f40, dc, Poe]; exact rfl)⟩ : PLift (Goe E 40 R40_15 _))
noncomputable def N40_21 := cp B40 [2, 2, 2, 2, 1, 3, 2, 7, 2, 7, 2, 7, 2, 7, 2]
noncomputable def N40_22 := cp B40 [2, 2, 2, 2, 1, 3, 2, 7, 2, 7, 2, 7, 2, 7, 2, 6]
noncomputable def R40_16 := cp B40 [2, 2, 2, 2, 1, 3, 2, 7, 2, 7, 2, 7, 2, 7, 2, 6]
noncomputable def r40_16 := (⟨r_mk rfl (by simp only [R40_16, B40, code, Tryd.f40, dc, Poe]; exact rfl)⟩ : PLift (Goe E 40 R40_16 _))
theorem n40_22 : Gqe E 40 N40_22 R40_16 := gq rfl
theorem n40_21 : Gqe E 40 N40_21 (.cond (.tmp 104) N40_22 .skip) := gq rfl
theorem n40_20 : Gqe E 40 N40_20 (.seq R40_15 N40_21) := gq rfl
theorem n40_17 : Gqe E 40 N40_17 (.cond (.tmp 85) N40_18 N40_20) := gq rfl
theorem n40_16 : Gqe E 40 N40_16 (.seq R40_12 N40_17) := gq rfl
theorem n40_13 : Gqe E 40 N40_13 (.cond (.tmp 66) N40_14 N40_16) := gq rfl
theorem n40_12 : Gqe E 40 N40_12 (.seq R40_9 N40_13) := gq rfl
theorem n40_10 : Gqe E 40 N40_10 (.cond (.tmp 52) N40_11 N40_12) := gq rfl
theorem n40_9 : Gqe E 40 N40_9 (.seq R40_7 N40_10) := gq rfl
theorem n40_6 : Gqe E 40 N40_6 (.cond (.tmp 17) N40_7 N40_9) := gq rfl
theorem n40_5 : Gqe E 40 N40_5 (.seq R40_4 N40_6) := gq rfl
noncomputable def N40_23 := cp B40 [2, 2, 2, 2, 2]
noncomputable def N40_24 := cp B40 [2, 2, 2, 2, 2, 1]
noncomputable def R40_17 := cp B40 [2, 2, 2, 2, 2, 1, 1]
noncomputable def r40_17 := (⟨r_mk rfl (by simp only [R40_17, B40, code, Tryd.f40, dc, Poe]; exact rfl)⟩ : PLift (Goe E 40 R40_17 _))
noncomputable def N40_25 := cp B40 [2, 2, 2, 2, 2, 1, 2]
noncomputable def N40_26 := cp B40 [2, 2, 2, 2, 2, 1, 2, 6]
noncomputable def R40_18 := cp B40 [2, 2, 2, 2, 2, 1, 2, 6]
noncomputable def r40_18 := (⟨r_mk rfl (by simp only [R40_18, B40, code, Tryd.f40, dc, Poe]; exact rfl)⟩ : PLift (Goe E 40 R40_18 _))
theorem n40_26 : Gqe E 40 N40_26 R40_18 := gq rfl
theorem n40_25 : Gqe E 40 N40_25 (.cond (.tmp 137) N40_26 .skip) := gq rfl
theorem n40_24 : Gqe E 40 N40_24 (.seq R40_17 N40_25) := gq rfl
noncomputable def N40_27 := cp B40 [2, 2, 2, 2, 2, 2]
noncomputable def N40_28 := cp B40 [2, 2, 2, 2, 2, 2, 1]
noncomputable def R40_19 := cp B40 [2, 2, 2, 2, 2, 2, 1, 1]
noncomputable def r40_19 := (⟨r_mk rfl (by simp only [R40_19, B40, code, Tryd.f40, dc, Poe]; exact rfl)⟩ : PLift (Goe E 40 R40_19 _))
noncomputable def N40_29 := cp B40 [2, 2, 2, 2, 2, 2, 1, 2]
noncomputable def N40_30 := cp B40 [2, 2, 2, 2, 2, 2, 1, 2, 3]
noncomputable def N40_31 := cp B40 [2, 2, 2, 2, 2, 2, 1, 2, 3, 1]
noncomputable def R40_20 := cp B40 [2, 2, 2, 2, 2, 2, 1, 2, 3, 1, 1]
noncomputable def r40_20 := (⟨r_mk rfl (by simp only [R40_20, B40, code, Tryd.f40, dc, Poe]; exact rfl)⟩ : PLift (Goe E 40 R40_20 _))
noncomputable def N40_32 := cp B40 [2, 2, 2, 2, 2, 2, 1, 2, 3, 1, 2]
noncomputable def N40_33 := cp B40 [2, 2, 2, 2, 2, 2, 1, 2, 3, 1, 2, 7]
noncomputable def R40_21 := cp B40 [2, 2, 2, 2, 2, 2, 1, 2, 3, 1, 2, 7, 1]
noncomputable def r40_21 := (⟨r_mk rfl (by simp only [R40_21, B40, code, Tryd.f40, dc, Poe]; exact rfl)⟩ : PLift (Goe E 40 R40_21 _))
noncomputable def N40_34 := cp B40 [2, 2, 2, 2, 2, 2, 1, 2, 3, 1, 2, 7, 2]
noncomputable def N40_35 := cp B40 [2, 2, 2, 2, 2, 2, 1, 2, 3, 1, 2, 7, 2, 7]
noncomputable def R40_22 := cp B40 [2, 2, 2, 2, 2, 2, 1, 2, 3, 1, 2, 7, 2, 7, 1]
noncomputable def r40_22 := (⟨r_mk rfl (by simp only [R40_22, B40, code, Tryd.f40, dc, Poe]; exact rfl)⟩ : PLift (Goe E 40 R40_22 _))
noncomputable def N40_36 := cp B40 [2, 2, 2, 2, 2, 2, 1, 2, 3, 1, 2, 7, 2, 7, 2]
noncomputable def N40_37 := cp B40 [2, 2, 2, 2, 2, 2, 1, 2, 3, 1, 2, 7, 2, 7, 2, 7]
noncomputable def R40_23 := cp B40 [2, 2, 2, 2, 2, 2, 1, 2, 3, 1, 2, 7, 2, 7, 2, 7, 1]
noncomputable def r40_23 := (⟨r_mk rfl (by simp only [R40_23, B40, code, Tryd.f40, dc, Poe]; exact rfl)⟩ : PLift (Goe E 40 R40_23 _))
noncomputable def N40_38 := cp B40 [2, 2, 2, 2, 2, 2, 1, 2, 3, 1, 2, 7, 2, 7, 2, 7, 2]
noncomputable def N40_39 := cp B40 [2, 2, 2, 2, 2, 2, 1, 2, 3, 1, 2, 7, 2, 7, 2, 7, 2, 7]
noncomputable def R40_24 := cp B40 [2, 2, 2, 2, 2, 2, 1, 2, 3, 1, 2, 7, 2, 7, 2, 7, 2, 7, 1]
noncomputable def r40_24 := (⟨r_mk rfl (by simp only [R40_24, B40, code, Tryd.f40, dc, Poe]; exact rfl)⟩ : PLift (Goe E 40 R40_24 _))
noncomputable def N40_40 := cp B40 [2, 2, 2, 2, 2, 2, 1, 2, 3, 1, 2, 7, 2, 7, 2, 7, 2, 7, 2]
noncomputable def N40_41 := cp B40 [2, 2, 2, 2, 2, 2, 1, 2, 3, 1, 2, 7, 2, 7, 2, 7, 2, 7, 2, 7]
noncomputable def R40_25 := cp B40 [2, 2, 2, 2, 2, 2, 1, 2, 3, 1, 2, 7, 2, 7, 2, 7, 2, 7, 2, 7, 1]
noncomputable def r40_25 := (⟨r_mk rfl (by simp only [R40_25, B40, code, Tryd.f40, dc, Poe]; exact rfl)⟩ : PLift (Goe E 40 R40_25 _))
noncomputable def N40_42 := cp B40 [2, 2, 2, 2, 2, 2, 1, 2, 3, 1, 2, 7, 2, 7, 2, 7, 2, 7, 2, 7, 2]
noncomputable def N40_43 := cp B40 [2, 2, 2, 2, 2, 2, 1, 2, 3, 1, 2, 7, 2, 7, 2, 7, 2, 7, 2, 7, 2, 7]
noncomputable def R40_26 := cp B40 [2, 2, 2, 2, 2, 2, 1, 2, 3, 1, 2, 7, 2, 7, 2, 7, 2, 7, 2, 7, 2, 7, 1]
noncomputable def r40_26 := (⟨r_mk rfl (by simp only [R40_26, B40, code, Tryd.f40, dc, Poe]; exact rfl)⟩ : PLift (Goe E 40 R40_26 _))
noncomputable def N40_44 := cp B40 [2, 2, 2, 2, 2, 2, 1, 2, 3, 1, 2, 7, 2, 7, 2, 7, 2, 7, 2, 7, 2, 7, 2]
noncomputable def N40_45 := cp B40 [2, 2, 2, 2, 2, 2, 1, 2, 3, 1, 2, 7, 2, 7, 2, 7, 2, 7, 2, 7, 2, 7, 2, 7]
noncomputable def R40_27 := cp B40 [2, 2, 2, 2, 2, 2, 1, 2, 3, 1, 2, 7, 2, 7, 2, 7, 2, 7, 2, 7, 2, 7, 2, 7]
noncomputable def r40_27 := (⟨r_mk rfl (by simp only [R40_27, B40, code, Tryd.f40, dc, Poe]; exact rfl)⟩ : PLift (Goe E 40 R40_27 _))
theorem n40_45 : Gqe E 40 N40_45 R40_27 := gq rfl
theorem n40_44 : Gqe E 40 N40_44 (.cond (.tmp 143) .skip N40_45) := gq rfl
theorem n40_43 : Gqe E 40 N40_43 (.seq R40_26 N40_44) := gq rfl
theorem n40_42 : Gqe E 40 N40_42 (.cond (.tmp 143) .skip N40_43) := gq rfl
theorem n40_41 : Gqe E 40 N40_41 (.seq R40_25 N40_42) := gq rfl
theorem n40_40 : Gqe E 40 N40_40 (.cond (.tmp 143) .skip N40_41) := gq rfl
theorem n40_39 : Gqe E 40 N40_39 (.seq R40_24 N40_40) := gq rfl
theorem n40_38 : Gqe E 40 N40_38 (.cond (.tmp 143) .skip N40_39) := gq rfl
theorem n40_37 : Gqe E 40 N40_37 (.seq R40_23 N40_38) := gq rfl
theorem n40_36 : Gqe E 40 N40_36 (.cond (.tmp 143) .skip N40_37) := gq rfl
theorem n40_35 : Gqe E 40 N40_35 (.seq R40_22 N40_36) := gq rfl
theorem n40_34 : Gqe E 40 N40_34 (.cond (.tmp 143) .skip N40_35) := gq rfl
theorem n40_33 : Gqe E 40 N40_33 (.seq R40_21 N40_34) := gq rfl
theorem n40_32 : Gqe E 40 N40_32 (.cond (.tmp 143) .skip N40_33) := gq rfl
theorem n40_31 : Gqe E 40 N40_31 (.seq R40_20 N40_32) := gq rfl
noncomputable def N40_46 := cp B40 [2, 2, 2, 2, 2, 2, 1, 2, 3, 2]
noncomputable def N40_47 := cp B40 [2, 2, 2, 2, 2, 2, 1, 2, 3, 2, 6]
noncomputable def R40_28 := cp B40 [2, 2, 2, 2, 2, 2, 1, 2, 3, 2, 6]
noncomputable def r40_28 := (⟨r_pl (p := [.one 0 [], .one 1 [], .one 2 [], .one 3 [], .one 4 [], .one 5 [], .one 6 [1], .one 7 [], .one 8 [], .one 9 [], .one 10 []]) rfl (by kernel_rfl) (by kernel_rfl) (by simp only [R40_28, B40, code, Tryd.f40, dc, dpl, Ple]; exact rfl)⟩ : PLift (Gpe E 40 R40_28 _))
theorem n40_47 : Gqe E 40 N40_47 R40_28 := gq rfl
noncomputable def N40_48 := cp B40 [2, 2, 2, 2, 2, 2, 1, 2, 3, 2, 7]
noncomputable def R40_29 := cp B40 [2, 2, 2, 2, 2, 2, 1, 2, 3, 2, 7, 1]
noncomputable def r40_29 := (⟨r_mk rfl (by simp only [R40_29, B40, code, Tryd.f40, dc, Poe]; exact rfl)⟩ : PLift (Goe E 40 R40_29 _))
noncomputable def N40_49 := cp B40 [2, 2, 2, 2, 2, 2, 1, 2, 3, 2, 7, 2]
noncomputable def N40_50 := cp B40 [2, 2, 2, 2, 2, 2, 1, 2, 3, 2, 7, 2, 6]
noncomputable def R40_30 := cp B40 [2, 2, 2, 2, 2, 2, 1, 2, 3, 2, 7, 2, 6]
noncomputable def r40_30 := (⟨r_pl (p := [.one 0 [], .one 1 [], .one 2 [], .one 3 [], .one 4 [], .one 5 [], .one 7 [], .one 8 [], .one 9 [], .one 6 [1, 8], .one 10 [1], .one 11 [], .one 12 [], .one 13 [], .one 14 []]) rfl (by kernel_rfl) (by kernel_rfl) (by simp only [R40_30, B40, code, Tryd.f40, dc, dpl, Ple]; exact rfl)⟩ : PLift (Gpe E 40 R40_30 _))
theorem n40_50 : Gqe E 40 N40_50 R40_30 := gq rfl
theorem n40_49 : Gqe E 40 N40_49 (.cond (.tmp 162) N40_50 .skip) := gq rfl
theorem n40_48 : Gqe E 40 N40_48 (.seq R40_29 N40_49) := gq rfl
theorem n40_46 : Gqe E 40 N40_46 (.cond (.tmp 143) N40_47 N40_48) := gq rfl
theorem n40_30 : Gqe E 40 N40_30 (.seq N40_31 N40_46) := gq rfl
theorem n40_29 : Gqe E 40 N40_29 (.block 1 N40_30) := gq rfl
theorem n40_28 : Gqe E 40 N40_28 (.seq R40_19 N40_29) := gq rfl
noncomputable def N40_51 := cp B40 [2, 2, 2, 2, 2, 2, 2]
noncomputable def R40_31 := cp B40 [2, 2, 2, 2, 2, 2, 2, 1]
noncomputable def r40_31 := (⟨r_mk rfl (by simp only [R40_31, B40, code, Tryd.f40, dc, Poe]; exact rfl)⟩ : PLift (Goe E 40 R40_31 _))
theorem n40_51 : Gqe E 40 N40_51 (.seq R40_31 .ret) := gq rfl
theorem n40_27 : Gqe E 40 N40_27 (.seq N40_28 N40_51) := gq rfl
theorem n40_23 : Gqe E 40 N40_23 (.seq N40_24 N40_27) := gq rfl
theorem n40_4 : Gqe E 40 N40_4 (.seq (.block 0 N40_5) N40_23) := gq rfl
theorem n40_3 : Gqe E 40 N40_3 (.seq R40_3 N40_4) := gq rfl
theorem n40_2 : Gqe E 40 N40_2 (.seq R40_2 N40_3) := gq rfl
theorem n40_1 : Gqe E 40 N40_1 (.seq R40_1 N40_2) := gq rfl
theorem n40_0 : Gqe E 40 N40_0 (.seq R40_0 N40_1) := gq rfl
theorem en_40 {x0 x1 : AVal} {st : ASt} {R : AEnd → ASt → Prop} (h : ∀ g : Nat → AVal, g 0 = x0 → g 1 = x1 → Gc E 40 N40_0 [] (RQ E Tryd.f40 R) (Sl 180 g) st) : ∃ r st', rw E 40 [x0, x1] st = some (r, st') ∧ R r st' :=
  en_of (fn := Tryd.f40) (c := N40_0) rfl rfl rfl (Nat.le_of_ble_eq_true rfl) fun g hg => h g (hg 0 x0 rfl) (hg 1 x1 rfl)
theorem rq_40 (R : AEnd → ASt → Prop) (g : Nat → AVal) (st : ASt) : RQ E Tryd.f40 R .ret (Sl 180 g) st = bindK (loadA E.P 63 st (g 4)) fun v0 => R (.returned (.tuple [v0, g 5])) st := by
  rw [rq_gen (.inl rfl), show (Tryd.f40).results.toList = [.cell 4 63, .tmp 5] from rfl]
  simp only [aresB, sl_get, Nat.reduceLT, ↓reduceIte, bindK_some, tup]
theorem o_al_63 (st : ASt) : allocA E.P 63 st = some (.ptr st.ctr 0, st.new (.cells [.lit (.int .i64 0), .lit (.string ⟨#[]⟩), .lit (.string ⟨#[]⟩), .lit (.bool false), .lit (.slice none 0 0), .lit (.slice none 0 0), .lit (.slice none 0 0), .lit (.int .i64 0)])) := rfl
theorem hint_40_9 : E.hint 40 9 = false := rfl
theorem o_bs_94_19 (ps : List (Nat × AVal)) (st : ASt) : buildSliceA E.P false 94 19 ps st = (setsE false 1 [(.lit (.int .i64 0)), (.lit (.int .i64 0)), (.lit (.int .i64 0)), (.lit (.int .i64 0)), (.lit (.int .i64 0)), (.lit (.int .i64 0)), (.lit (.int .i64 0)), (.lit (.int .i64 0)), (.lit (.int .i64 0)), (.lit (.int .i64 0)), (.lit (.int .i64 0)), (.lit (.int .i64 0)), (.lit (.int .i64 0)), (.lit (.int .i64 0)), (.lit (.int .i64 0)), (.lit (.int .i64 0)), (.lit (.int .i64 0)), (.lit (.int .i64 0)), (.lit (.int .i64 0))] ps).map (fun es => (.islice 1 es .exact, st)) := bs_i rfl rfl rfl rfl (by decide) rfl ps st
theorem o_fap_81_0 (s o : Nat) : fieldA E.P 81 (.ptr s o) 0 = some (.ptr s (o + 0)) := rfl
theorem o_fai_81_0 (cs : List AVal) : fieldA E.P 81 (.iptr (.agg cs)) 0 = (cs[0]?).map .iptr := rfl
theorem o_ldp_5 (st : ASt) (s o : Nat) : loadA E.P 5 st (.ptr s o) = (blkOf (st.heap s)).bind (fun cs => cs[o]?) := ld_one rfl rfl st s o
theorem o_ldi_5 (st : ASt) (v : AVal) : loadA E.P 5 st (.iptr v) = if v.isCell = true then some v else none := rfl
theorem o_ixi_94 (sz : Nat) (es : List AVal) (c : Cap) (k : IntKind) (i : Int) : indexA E.P 94 (.islice sz es c) (.lit (.int k i)) = if 0 ≤ i ∧ i < es.length ∧ some 1 = some sz then (es[i.toNat]?).map .iptr else none := rfl
theorem o_ixs_94 (s o l sz : Nat) (c : Option Nat) (k : IntKind) (i : Int) : indexA E.P 94 (.slice s o l sz c) (.lit (.int k i)) = if 0 ≤ i ∧ i < l then some (.ptr s (o + i.toNat * 1)) else none := rfl
theorem o_ldp_26 (st : ASt) (s o : Nat) : loadA E.P 26 st (.ptr s o) = (blkOf (st.heap s)).bind (fun cs => cs[o]?) := ld_one rfl rfl st s o
theorem o_ldi_26 (st : ASt) (v : AVal) : loadA E.P 26 st (.iptr v) = if v.isCell = true then some v else none := rfl
theorem o_bd_63 (ps : List (Nat × AVal)) : buildA E.P 63 ps = (fillA (fun i => ([(0, 1), (1, 1), (2, 1), (3, 1), (4, 1), (5, 1), (6, 1), (7, 1)] : List (Nat × Nat))[i]?) [.lit (.int .i64 0), .lit (.string ⟨#[]⟩), .lit (.string ⟨#[]⟩), .lit (.bool false), .lit (.slice none 0 0), .lit (.slice none 0 0), .lit (.slice none 0 0), .lit (.int .i64 0)] ps).map .agg := rfl
theorem o_st_63 (st : ASt) (s o : Nat) (vs : List AVal) : storeA E.P 63 st (.ptr s o) (.agg vs) = (blkOf (st.heap s)).bind (fun cs => if vs.length = 8 ∧ o + vs.length ≤ cs.length ∧ vs.all AVal.isCell = true then some (st.set s (some (.cells (putL cs o vs)))) else none) := st_agg rfl st s o vs
theorem o_fap_81_2 (s o : Nat) : fieldA E.P 81 (.ptr s o) 2 = some (.ptr s (o + 2)) := rfl
theorem o_fai_81_2 (cs : List AVal) : fieldA E.P 81 (.iptr (.agg cs)) 2 = (cs[2]?).map .iptr := rfl
theorem o_fap_33_1 (s o : Nat) : fieldA E.P 33 (.ptr s o) 1 = some (.ptr s (o + 1)) := rfl
theorem o_fai_33_1 (cs : List AVal) : fieldA E.P 33 (.iptr (.agg cs)) 1 = (cs[1]?).map .iptr := rfl
theorem o_fap_63_2 (s o : Nat) : fieldA E.P 63 (.ptr s o) 2 = some (.ptr s (o + 2)) := rfl
theorem o_fai_63_2 (cs : List AVal) : fieldA E.P 63 (.iptr (.agg cs)) 2 = (cs[2]?).map .iptr := rfl
theorem o_st_9 (st : ASt) (s o : Nat) (v : AVal) : storeA E.P 9 st (.ptr s o) v = if v.isCell = true then (blkOf (st.heap s)).bind (fun cs => if o + 1 ≤ cs.length then some (st.set s (some (.cells (cs.set o v)))) else none) else storeU E.P 9 st (.ptr s o) v := st_one rfl st s o v
theorem o_fap_63_3 (s o : Nat) : fieldA E.P 63 (.ptr s o) 3 = some (.ptr s (o + 3)) := rfl
theorem o_fai_63_3 (cs : List AVal) : fieldA E.P 63 (.iptr (.agg cs)) 3 = (cs[3]?).map .iptr := rfl
theorem o_st_4 (st : ASt) (s o : Nat) (v : AVal) : storeA E.P 4 st (.ptr s o) v = if v.isCell = true then (blkOf (st.heap s)).bind (fun cs => if o + 1 ≤ cs.length then some (st.set s (some (.cells (cs.set o v)))) else none) else storeU E.P 4 st (.ptr s o) v := st_one rfl st s o v
theorem o_fap_63_4 (s o : Nat) : fieldA E.P 63 (.ptr s o) 4 = some (.ptr s (o + 4)) := rfl
theorem o_fai_63_4 (cs : List AVal) : fieldA E.P 63 (.iptr (.agg cs)) 4 = (cs[4]?).map .iptr := rfl
theorem o_ldp_46 (st : ASt) (s o : Nat) : loadA E.P 46 st (.ptr s o) = (blkOf (st.heap s)).bind (fun cs => cs[o]?) := ld_one rfl rfl st s o
theorem o_ldi_46 (st : ASt) (v : AVal) : loadA E.P 46 st (.iptr v) = if v.isCell = true then some v else none := rfl
theorem o_cv_5_30 (mt : Bool) (n : Int) (st : ASt) : convA E.P mt 5 30 (.lit (.int .u8 n)) st = some (.lit (.int .i8 (IntKind.i8.wrap n)), st) := c_int rfl rfl
theorem cf_51 (a : List AVal) (st : ASt) : callFuncA E.P 51 a st = some (.enter 51 a st) := rfl
theorem hint_40_49 : E.hint 40 49 = false := rfl
theorem hint_40_50 : E.hint 40 50 = false := rfl
theorem slt_46 : SlT E.P 46 48 true 4 := ⟨rfl, rfl, ⟨_, _, rfl, rfl, by decide, rfl, rfl⟩, by decide⟩
theorem o_st_46 (st : ASt) (s o : Nat) (v : AVal) : storeA E.P 46 st (.ptr s o) v = if v.isCell = true then (blkOf (st.heap s)).bind (fun cs => if o + 1 ≤ cs.length then some (st.set s (some (.cells (cs.set o v)))) else none) else storeU E.P 46 st (.ptr s o) v := st_one rfl st s o v
theorem o_fap_33_0 (s o : Nat) : fieldA E.P 33 (.ptr s o) 0 = some (.ptr s (o + 0)) := rfl
theorem o_fai_33_0 (cs : List AVal) : fieldA E.P 33 (.iptr (.agg cs)) 0 = (cs[0]?).map .iptr := rfl
theorem cf_23 (a : List AVal) (st : ASt) : callFuncA E.P 23 a st = some (.enter 23 a st) := rfl
theorem cf_24 (a : List AVal) (st : ASt) : callFuncA E.P 24 a st = some (.enter 24 a st) := rfl
theorem o_fap_33_2 (s o : Nat) : fieldA E.P 33 (.ptr s o) 2 = some (.ptr s (o + 2)) := rfl
theorem o_fai_33_2 (cs : List AVal) : fieldA E.P 33 (.iptr (.agg cs)) 2 = (cs[2]?).map .iptr := rfl
theorem o_fap_33_3 (s o : Nat) : fieldA E.P 33 (.ptr s o) 3 = some (.ptr s (o + 3)) := rfl
theorem o_fai_33_3 (cs : List AVal) : fieldA E.P 33 (.iptr (.agg cs)) 3 = (cs[3]?).map .iptr := rfl
theorem o_fap_33_6 (s o : Nat) : fieldA E.P 33 (.ptr s o) 6 = some (.ptr s (o + 6)) := rfl
theorem o_fai_33_6 (cs : List AVal) : fieldA E.P 33 (.iptr (.agg cs)) 6 = (cs[6]?).map .iptr := rfl
theorem o_ldp_31 (st : ASt) (s o : Nat) : loadA E.P 31 st (.ptr s o) = (blkOf (st.heap s)).bind (fun cs => cs[o]?) := ld_one rfl rfl st s o
theorem o_ldi_31 (st : ASt) (v : AVal) : loadA E.P 31 st (.iptr v) = if v.isCell = true then some v else none := rfl
theorem o_leni_31 (mt : Bool) (ty : TypeId) (cs : Array Bool) (sz : Nat) (es : List AVal) (c : Cap) (st : ASt) : builtinA E.P mt .len #[31] ty cs [.islice sz es c] st = some (.val (.lit (.int .i64 es.length)) st) := rfl
theorem o_lens_31 (mt : Bool) (ty : TypeId) (cs : Array Bool) (s o l sz : Nat) (c : Option Nat) (st : ASt) : builtinA E.P mt .len #[31] ty cs [.slice s o l sz c] st = some (.val (.lit (.int .i64 l)) st) := rfl
theorem o_lenn_31 (mt : Bool) (ty : TypeId) (cs : Array Bool) (a : Option Addr) (st : ASt) : builtinA E.P mt .len #[31] ty cs [.lit (.slice a 0 0)] st = some (.val (.lit (.int .i64 0)) st) := len_nil rfl _ _ _ _ _
theorem o_cv_3_5 (mt : Bool) (n : Int) (st : ASt) : convA E.P mt 3 5 (.lit (.int .i64 n)) st = some (.lit (.int .u8 (IntKind.u8.wrap n)), st) := c_int rfl rfl
theorem o_fap_81_3 (s o : Nat) : fieldA E.P 81 (.ptr s o) 3 = some (.ptr s (o + 3)) := rfl
theorem o_fai_81_3 (cs : List AVal) : fieldA E.P 81 (.iptr (.agg cs)) 3 = (cs[3]?).map .iptr := rfl
theorem o_fap_63_1 (s o : Nat) : fieldA E.P 63 (.ptr s o) 1 = some (.ptr s (o + 1)) := rfl
theorem o_fai_63_1 (cs : List AVal) : fieldA E.P 63 (.iptr (.agg cs)) 1 = (cs[1]?).map .iptr := rfl
theorem o_fap_81_1 (s o : Nat) : fieldA E.P 81 (.ptr s o) 1 = some (.ptr s (o + 1)) := rfl
theorem o_fai_81_1 (cs : List AVal) : fieldA E.P 81 (.iptr (.agg cs)) 1 = (cs[1]?).map .iptr := rfl
theorem o_fap_81_4 (s o : Nat) : fieldA E.P 81 (.ptr s o) 4 = some (.ptr s (o + 4)) := rfl
theorem o_fai_81_4 (cs : List AVal) : fieldA E.P 81 (.iptr (.agg cs)) 4 = (cs[4]?).map .iptr := rfl
theorem o_ldp_30 (st : ASt) (s o : Nat) : loadA E.P 30 st (.ptr s o) = (blkOf (st.heap s)).bind (fun cs => cs[o]?) := ld_one rfl rfl st s o
theorem o_ldi_30 (st : ASt) (v : AVal) : loadA E.P 30 st (.iptr v) = if v.isCell = true then some v else none := rfl
theorem hint_40_159 : E.hint 40 159 = false := rfl
theorem hint_40_160 : E.hint 40 160 = false := rfl
theorem hint_40_175 : E.hint 40 175 = false := rfl
theorem hint_40_176 : E.hint 40 176 = false := rfl
theorem o_ldp_63 (st : ASt) (s o : Nat) : loadA E.P 63 st (.ptr s o) = (blkOf (st.heap s)).bind (fun cs => if o + 8 ≤ cs.length then some (.agg ((cs.drop o).take 8)) else none) := ld_agg rfl rfl st s o
theorem o_ldi_63 (st : ASt) (cs : List AVal) : loadA E.P 63 st (.iptr (.agg cs)) = if cs.length = 8 then some (.agg cs) else none := rfl

/-! ### (braidwork/braidworklaw04.Small).stmts -/
noncomputable def B25 : Code := code Tryd.f25
noncomputable def N25_0 := cp B25 []
noncomputable def R25_0 := cp B25 [1]
noncomputable def r25_0 := (⟨r_mk rfl (by simp only [R25_0, B25, code, Tryd.f25, dc, Poe]; exact rfl)⟩ : PLift (Goe E 25 R25_0 _))
noncomputable def N25_1 := cp B25 [2]
noncomputable def R25_1 := cp B25 [2, 1]
noncomputable def r25_1 := (⟨r_mk rfl (by simp only [R25_1, B25, code, Tryd.f25, dc, Poe]; exact rfl)⟩ : PLift (Goe E 25 R25_1 _))
noncomputable def N25_2 := cp B25 [2, 2]
noncomputable def L25_0 := cp B25 [2, 2, 1, 3, 4]
noncomputable def N25_3 := cp B25 [2, 2, 1, 3, 4, 1]
noncomputable def R25_2 := cp B25 [2, 2, 1, 3, 4, 1, 1]
noncomputable def r25_2 := (⟨r_mk rfl (by simp only [R25_2, B25, code, Tryd.f25, dc, Poe]; exact rfl)⟩ : PLift (Goe E 25 R25_2 _))
noncomputable def N25_4 := cp B25 [2, 2, 1, 3, 4, 1, 2]
theorem n25_4 : Gqe E 25 N25_4 (.cond (.tmp 20) .skip (.exit 0)) := gq rfl
theorem n25_3 : Gqe E 25 N25_3 (.seq R25_2 N25_4) := gq rfl
noncomputable def N25_5 := cp B25 [2, 2, 1, 3, 4, 2]
noncomputable def N25_6 := cp B25 [2, 2, 1, 3, 4, 2, 3]
noncomputable def R25_3 := cp B25 [2, 2, 1, 3, 4, 2, 3, 1]
noncomputable def r25_3 := (⟨r_mk rfl (by simp only [R25_3, B25, code, Tryd.f25, dc, Poe]; exact rfl)⟩ : PLift (Goe E 25 R25_3 _))
noncomputable def N25_7 := cp B25 [2, 2, 1, 3, 4, 2, 3, 2]
noncomputable def R25_4 := cp B25 [2, 2, 1, 3, 4, 2, 3, 2, 1]
noncomputable def r25_4 := (⟨r_mk rfl (by simp only [R25_4, B25, code, Tryd.f25, dc, Poe]; exact rfl)⟩ : PLift (Goe E 25 R25_4 _))
noncomputable def N25_8 := cp B25 [2, 2, 1, 3, 4, 2, 3, 2, 2]
noncomputable def R25_5 := cp B25 [2, 2, 1, 3, 4, 2, 3, 2, 2, 1]
noncomputable def r25_5 := (⟨r_mk rfl (by simp only [R25_5, B25, code, Tryd.f25, dc, Poe]; exact rfl)⟩ : PLift (Goe E 25 R25_5 _))
noncomputable def N25_9 := cp B25 [2, 2, 1, 3, 4, 2, 3, 2, 2, 2]
noncomputable def N25_10 := cp B25 [2, 2, 1, 3, 4, 2, 3, 2, 2, 2, 1]
noncomputable def R25_6 := cp B25 [2, 2, 1, 3, 4, 2, 3, 2, 2, 2, 1, 1]
noncomputable def r25_6 := (⟨r_mk rfl (by simp only [R25_6, B25, code, Tryd.f25, dc, Poe]; exact rfl)⟩ : PLift (Goe E 25 R25_6 _))
noncomputable def N25_11 := cp B25 [2, 2, 1, 3, 4, 2, 3, 2, 2, 2, 1, 2]
noncomputable def N25_12 := cp B25 [2, 2, 1, 3, 4, 2, 3, 2, 2, 2, 1, 2, 6]
noncomputable def N25_13 := cp B25 [2, 2, 1, 3, 4, 2, 3, 2, 2, 2, 1, 2, 6, 1]
noncomputable def R25_7 := cp B25 [2, 2, 1, 3, 4, 2, 3, 2, 2, 2, 1, 2, 6, 1, 1]
noncomputable def r25_7 := (⟨r_mk rfl (by simp only [R25_7, B25, code, Tryd.f25, dc, Poe]; exact rfl)⟩ : PLift (Goe E 25 R25_7 _))
noncomputable def N25_14 := cp B25 [2, 2, 1, 3, 4, 2, 3, 2, 2, 2, 1, 2, 6, 1, 2]
theorem n25_14 : Gqe E 25 N25_14 (.cond (.tmp 38) (.exit 1) .skip) := gq rfl
theorem n25_13 : Gqe E 25 N25_13 (.seq R25_7 N25_14) := gq rfl
noncomputable def N25_15 := cp B25 [2, 2, 1, 3, 4, 2, 3, 2, 2, 2, 1, 2, 6, 2]
noncomputable def R25_8 := cp B25 [2, 2, 1, 3, 4, 2, 3, 2, 2, 2, 1, 2, 6, 2, 1]
noncomputable def r25_8 := (⟨r_mk rfl (by simp only [R25_8, B25, code, Tryd.f25, dc, Poe]; exact rfl)⟩ : PLift (Goe E 25 R25_8 _))
noncomputable def N25_16 := cp B25 [2, 2, 1, 3, 4, 2, 3, 2, 2, 2, 1, 2, 6, 2, 2]
noncomputable def R25_9 := cp B25 [2, 2, 1, 3, 4, 2, 3, 2, 2, 2, 1, 2, 6, 2, 2, 1]
noncomputable def r25_9 := (⟨r_mk rfl (by simp only [R25_9, B25, code, Tryd.f25, dc, Poe]; exact rfl)⟩ : PLift (Goe E 25 R25_9 _))
noncomputable def N25_17 := cp B25 [2, 2, 1, 3, 4, 2, 3, 2, 2, 2, 1, 2, 6, 2, 2, 2]
noncomputable def N25_18 := cp B25 [2, 2, 1, 3, 4, 2, 3, 2, 2, 2, 1, 2, 6, 2, 2, 2, 6]
noncomputable def R25_10 := cp B25 [2, 2, 1, 3, 4, 2, 3, 2, 2, 2, 1, 2, 6, 2, 2, 2, 6]
noncomputable def r25_10 := (⟨r_mk rfl (by simp only [R25_10, B25, code, Tryd.f25, dc, Poe]; exact rfl)⟩ : PLift (Goe E 25 R25_10 _))
theorem n25_18 : Gqe E 25 N25_18 R25_10 := gq rfl
theorem n25_17 : Gqe E 25 N25_17 (.cond (.tmp 61) N25_18 .skip) := gq rfl
theorem n25_16 : Gqe E 25 N25_16 (.seq R25_9 N25_17) := gq rfl
theorem n25_15 : Gqe E 25 N25_15 (.seq R25_8 N25_16) := gq rfl
theorem n25_12 : Gqe E 25 N25_12 (.seq N25_13 N25_15) := gq rfl
theorem n25_11 : Gqe E 25 N25_11 (.cond (.tmp 36) N25_12 .skip) := gq rfl
theorem n25_10 : Gqe E 25 N25_10 (.seq R25_6 N25_11) := gq rfl
noncomputable def N25_19 := cp B25 [2, 2, 1, 3, 4, 2, 3, 2, 2, 2, 2]
noncomputable def R25_11 := cp B25 [2, 2, 1, 3, 4, 2, 3, 2, 2, 2, 2, 1]
noncomputable def r25_11 := (⟨r_mk rfl (by simp only [R25_11, B25, code, Tryd.f25, dc, Poe]; exact rfl)⟩ : PLift (Goe E 25 R25_11 _))
noncomputable def N25_20 := cp B25 [2, 2, 1, 3, 4, 2, 3, 2, 2, 2, 2, 2]
noncomputable def N25_21 := cp B25 [2, 2, 1, 3, 4, 2, 3, 2, 2, 2, 2, 2, 6]
noncomputable def R25_12 := cp B25 [2, 2, 1, 3, 4, 2, 3, 2, 2, 2, 2, 2, 6]
noncomputable def r25_12 := (⟨r_mk rfl (by simp only [R25_12, B25, code, Tryd.f25, dc, Poe]; exact rfl)⟩ : PLift (Goe E 25 R25_12 _))
theorem n25_21 : Gqe E 25 N25_21 R25_12 := gq rfl
theorem n25_20 : Gqe E 25 N25_20 (.cond (.tmp 77) N25_21 .skip) := gq rfl
theorem n25_19 : Gqe E 25 N25_19 (.seq R25_11 N25_20) := gq rfl
theorem n25_9 : Gqe E 25 N25_9 (.seq N25_10 N25_19) := gq rfl
theorem n25_8 : Gqe E 25 N25_8 (.seq R25_5 N25_9) := gq rfl
theorem n25_7 : Gqe E 25 N25_7 (.seq R25_4 N25_8) := gq rfl
theorem n25_6 : Gqe E 25 N25_6 (.seq R25_3 N25_7) := gq rfl
theorem n25_5 : Gqe E 25 N25_5 (.block 1 N25_6) := gq rfl
theorem l25_0 : Gqe E 25 L25_0 (.seq N25_3 N25_5) := gq rfl
noncomputable def N25_22 := cp B25 [2, 2, 2]
noncomputable def R25_13 := cp B25 [2, 2, 2, 1]
noncomputable def r25_13 := (⟨r_mk rfl (by simp only [R25_13, B25, code, Tryd.f25, dc, Poe]; exact rfl)⟩ : PLift (Goe E 25 R25_13 _))
theorem n25_22 : Gqe E 25 N25_22 (.seq R25_13 .ret) := gq rfl
theorem n25_2 : Gqe E 25 N25_2 (.seq (.block 0 (.loop L25_0)) N25_22) := gq rfl
theorem n25_1 : Gqe E 25 N25_1 (.seq R25_1 N25_2) := gq rfl
theorem n25_0 : Gqe E 25 N25_0 (.seq R25_0 N25_1) := gq rfl
theorem en_25 {x0 x1 x2 x3 : AVal} {st : ASt} {R : AEnd → ASt → Prop} (h : ∀ g : Nat → AVal, g 0 = x0 → g 1 = x1 → g 2 = x2 → g 3 = x3 → Gc E 25 N25_0 [] (RQ E Tryd.f25 R) (Sl 84 g) st) : ∃ r st', rw E 25 [x0, x1, x2, x3] st = some (r, st') ∧ R r st' :=
  en_of (fn := Tryd.f25) (c := N25_0) rfl rfl rfl (Nat.le_of_ble_eq_true rfl) fun g hg => h g (hg 0 x0 rfl) (hg 1 x1 rfl) (hg 2 x2 rfl) (hg 3 x3 rfl)
theorem rq_25 (R : AEnd → ASt → Prop) (g : Nat → AVal) (st : ASt) : RQ E Tryd.f25 R .ret (Sl 84 g) st = R (.returned (.tuple [g 8, g 9])) st := by
  rw [rq_gen (.inl rfl), show (Tryd.f25).results.toList = [.tmp 8, .tmp 9] from rfl]
  simp only [aresB, sl_get, Nat.reduceLT, ↓reduceIte, bindK_some, tup]
theorem o_leni_53 (mt : Bool) (ty : TypeId) (cs : Array Bool) (sz : Nat) (es : List AVal) (c : Cap) (st : ASt) : builtinA E.P mt .len #[53] ty cs [.islice sz es c] st = some (.val (.lit (.int .i64 es.length)) st) := rfl
theorem o_lens_53 (mt : Bool) (ty : TypeId) (cs : Array Bool) (s o l sz : Nat) (c : Option Nat) (st : ASt) : builtinA E.P mt .len #[53] ty cs [.slice s o l sz c] st = some (.val (.lit (.int .i64 l)) st) := rfl
theorem o_lenn_53 (mt : Bool) (ty : TypeId) (cs : Array Bool) (a : Option Addr) (st : ASt) : builtinA E.P mt .len #[53] ty cs [.lit (.slice a 0 0)] st = some (.val (.lit (.int .i64 0)) st) := len_nil rfl _ _ _ _ _
theorem o_ixi_53 (sz : Nat) (es : List AVal) (c : Cap) (k : IntKind) (i : Int) : indexA E.P 53 (.islice sz es c) (.lit (.int k i)) = if 0 ≤ i ∧ i < es.length ∧ some 5 = some sz then (es[i.toNat]?).map .iptr else none := rfl
theorem o_ixs_53 (s o l sz : Nat) (c : Option Nat) (k : IntKind) (i : Int) : indexA E.P 53 (.slice s o l sz c) (.lit (.int k i)) = if 0 ≤ i ∧ i < l then some (.ptr s (o + i.toNat * 5)) else none := rfl
theorem o_ldp_81 (st : ASt) (s o : Nat) : loadA E.P 81 st (.ptr s o) = (blkOf (st.heap s)).bind (fun cs => if o + 5 ≤ cs.length then some (.agg ((cs.drop o).take 5)) else none) := ld_agg rfl rfl st s o
theorem o_ldi_81 (st : ASt) (cs : List AVal) : loadA E.P 81 st (.iptr (.agg cs)) = if cs.length = 5 then some (.agg cs) else none := rfl
theorem o_al_81 (st : ASt) : allocA E.P 81 st = some (.ptr st.ctr 0, st.new (.cells [.lit (.int .u8 0), .lit (.int .u8 0), .lit (.int .u8 0), .lit (.int .u8 0), .lit (.int .i8 0)])) := rfl
theorem o_st_81 (st : ASt) (s o : Nat) (vs : List AVal) : storeA E.P 81 st (.ptr s o) (.agg vs) = (blkOf (st.heap s)).bind (fun cs => if vs.length = 5 ∧ o + vs.length ≤ cs.length ∧ vs.all AVal.isCell = true then some (st.set s (some (.cells (putL cs o vs)))) else none) := st_agg rfl st s o vs
theorem o_sl_53_lh {es : List AVal} {c : Cap} {k k2 : IntKind} {l h : Int} (h0 : 0 ≤ l) (h1 : l ≤ h) (h2 : h ≤ es.length) : sliceA E.P 53 (.islice 5 es c) (some (.lit (.int k l))) (some (.lit (.int k2 h))) none = some (.islice 5 ((es.drop l.toNat).take (h.toNat - l.toNat)) (cutCap es.length h.toNat l.toNat c none)) := sl_lh rfl rfl h0 h1 h2
theorem o_sl_53_l {es : List AVal} {c : Cap} {k : IntKind} {l : Int} (h0 : 0 ≤ l) (h1 : l ≤ es.length) : sliceA E.P 53 (.islice 5 es c) (some (.lit (.int k l))) none none = some (.islice 5 (es.drop l.toNat) (cutCap es.length es.length l.toNat c none)) := sl_l rfl rfl h0 h1
theorem o_sl_53_h {es : List AVal} {c : Cap} {k : IntKind} {h : Int} (h0 : 0 ≤ h) (h1 : h ≤ es.length) : sliceA E.P 53 (.islice 5 es c) none (some (.lit (.int k h))) none = some (.islice 5 (es.take h.toNat) (cutCap es.length h.toNat 0 c none)) := sl_h rfl rfl h0 h1
theorem o_ldp_33 (st : ASt) (s o : Nat) : loadA E.P 33 st (.ptr s o) = (blkOf (st.heap s)).bind (fun cs => if o + 7 ≤ cs.length then some (.agg ((cs.drop o).take 7)) else none) := ld_agg rfl rfl st s o
theorem o_ldi_33 (st : ASt) (cs : List AVal) : loadA E.P 33 st (.iptr (.agg cs)) = if cs.length = 7 then some (.agg cs) else none := rfl
theorem cf_40 (a : List AVal) (st : ASt) : callFuncA E.P 40 a st = some (.enter 40 a st) := rfl
theorem o_fap_63_0 (s o : Nat) : fieldA E.P 63 (.ptr s o) 0 = some (.ptr s (o + 0)) := rfl
theorem o_fai_63_0 (cs : List AVal) : fieldA E.P 63 (.iptr (.agg cs)) 0 = (cs[0]?).map .iptr := rfl
theorem o_cv_5_3 (mt : Bool) (n : Int) (st : ASt) : convA E.P mt 5 3 (.lit (.int .u8 n)) st = some (.lit (.int .i64 (IntKind.i64.wrap n)), st) := c_int rfl rfl
theorem cf_25 (a : List AVal) (st : ASt) : callFuncA E.P 25 a st = some (.enter 25 a st) := rfl
theorem o_fap_63_5 (s o : Nat) : fieldA E.P 63 (.ptr s o) 5 = some (.ptr s (o + 5)) := rfl
theorem o_fai_63_5 (cs : List AVal) : fieldA E.P 63 (.iptr (.agg cs)) 5 = (cs[5]?).map .iptr := rfl
theorem o_st_39 (st : ASt) (s o : Nat) (v : AVal) : storeA E.P 39 st (.ptr s o) v = if v.isCell = true then (blkOf (st.heap s)).bind (fun cs => if o + 1 ≤ cs.length then some (st.set s (some (.cells (cs.set o v)))) else none) else storeU E.P 39 st (.ptr s o) v := st_one rfl st s o v
theorem o_fap_63_6 (s o : Nat) : fieldA E.P 63 (.ptr s o) 6 = some (.ptr s (o + 6)) := rfl
theorem o_fai_63_6 (cs : List AVal) : fieldA E.P 63 (.iptr (.agg cs)) 6 = (cs[6]?).map .iptr := rfl
theorem hint_25_80 : E.hint 25 80 = false := rfl
theorem o_bs_39_1 (ps : List (Nat × AVal)) (st : ASt) : buildSliceA E.P false 39 1 ps st = (setsE true 8 [(.agg [.lit (.int .i64 0), .lit (.string ⟨#[]⟩), .lit (.string ⟨#[]⟩), .lit (.bool false), .lit (.slice none 0 0), .lit (.slice none 0 0), .lit (.slice none 0 0), .lit (.int .i64 0)])] ps).map (fun es => (.islice 8 es .exact, st)) := bs_i rfl rfl rfl rfl (by decide) rfl ps st
theorem hint_25_81 : E.hint 25 81 = false := rfl
theorem slt_39 : SlT E.P 39 63 true 8 := ⟨rfl, rfl, ⟨_, _, rfl, rfl, by decide, rfl, rfl⟩, by decide⟩

/-! ### braidwork/braidworklaw04.Make -/
noncomputable def B14 : Code := code Tryd.f14
noncomputable def N14_0 := cp B14 []
noncomputable def R14_0 := cp B14 [1]
noncomputable def r14_0 := (⟨r_mk rfl (by simp only [R14_0, B14, code, Tryd.f14, dc, Poe]; exact rfl)⟩ : PLift (Goe E 14 R14_0 _))
noncomputable def N14_1 := cp B14 [2]
noncomputable def R14_1 := cp B14 [2, 1]
noncomputable def r14_1 := (⟨r_mk rfl (by simp only [R14_1, B14, code, Tryd.f14, dc, Poe]; exact rfl)⟩ : PLift (Goe E 14 R14_1 _))
noncomputable def N14_2 := cp B14 [2, 2]
noncomputable def R14_2 := cp B14 [2, 2, 1]
noncomputable def r14_2 := (⟨r_mk rfl (by simp only [R14_2, B14, code, Tryd.f14, dc, Poe]; exact rfl)⟩ : PLift (Goe E 14 R14_2 _))
noncomputable def N14_3 := cp B14 [2, 2, 2]
noncomputable def N14_4 := cp B14 [2, 2, 2, 1]
noncomputable def R14_3 := cp B14 [2, 2, 2, 1, 1]
noncomputable def r14_3 := (⟨r_mk rfl (by simp only [R14_3, B14, code, Tryd.f14, dc, Poe]; exact rfl)⟩ : PLift (Goe E 14 R14_3 _))
noncomputable def N14_5 := cp B14 [2, 2, 2, 1, 2]
noncomputable def L14_0 := cp B14 [2, 2, 2, 1, 2, 3, 4]
noncomputable def R14_4 := cp B14 [2, 2, 2, 1, 2, 3, 4, 1]
noncomputable def r14_4 := (⟨r_mk rfl (by simp only [R14_4, B14, code, Tryd.f14, dc, Poe]; exact rfl)⟩ : PLift (Goe E 14 R14_4 _))
noncomputable def N14_6 := cp B14 [2, 2, 2, 1, 2, 3, 4, 2]
noncomputable def N14_7 := cp B14 [2, 2, 2, 1, 2, 3, 4, 2, 2]
noncomputable def N14_8 := cp B14 [2, 2, 2, 1, 2, 3, 4, 2, 2, 1, 3]
noncomputable def R14_5 := cp B14 [2, 2, 2, 1, 2, 3, 4, 2, 2, 1, 3, 1]
noncomputable def r14_5 := (⟨r_mk rfl (by simp only [R14_5, B14, code, Tryd.f14, dc, Poe]; exact rfl)⟩ : PLift (Goe E 14 R14_5 _))
noncomputable def N14_9 := cp B14 [2, 2, 2, 1, 2, 3, 4, 2, 2, 1, 3, 2]
noncomputable def R14_6 := cp B14 [2, 2, 2, 1, 2, 3, 4, 2, 2, 1, 3, 2]
noncomputable def r14_6 := (⟨r_pl (p := [.one 0 [], .one 1 [], .one 3 [], .one 4 [], .one 5 [], .one 6 [], .one 7 [], .one 8 [], .one 9 [], .one 10 [], .one 11 [], .one 12 [], .one 2 [4, 6, 8, 11, 12], .one 13 []]) rfl (by kernel_rfl) (by kernel_rfl) (by simp only [R14_6, B14, code, Tryd.f14, dc, dpl, Ple]; exact rfl)⟩ : PLift (Gpe E 14 R14_6 _))
theorem n14_9 : Gqe E 14 N14_9 R14_6 := gq rfl
theorem n14_8 : Gqe E 14 N14_8 (.seq R14_5 N14_9) := gq rfl
noncomputable def N14_10 := cp B14 [2, 2, 2, 1, 2, 3, 4, 2, 2, 2]
noncomputable def R14_7 := cp B14 [2, 2, 2, 1, 2, 3, 4, 2, 2, 2]
noncomputable def r14_7 := (⟨r_mk rfl (by simp only [R14_7, B14, code, Tryd.f14, dc, Poe]; exact rfl)⟩ : PLift (Goe E 14 R14_7 _))
theorem n14_10 : Gqe E 14 N14_10 R14_7 := gq rfl
theorem n14_7 : Gqe E 14 N14_7 (.seq (.block 1 N14_8) N14_10) := gq rfl
theorem n14_6 : Gqe E 14 N14_6 (.seq (.cond (.tmp 18) .skip (.exit 0)) N14_7) := gq rfl
theorem l14_0 : Gqe E 14 L14_0 (.seq R14_4 N14_6) := gq rfl
theorem n14_5 : Gqe E 14 N14_5 (.block 0 (.loop L14_0)) := gq rfl
theorem n14_4 : Gqe E 14 N14_4 (.seq R14_3 N14_5) := gq rfl
noncomputable def N14_11 := cp B14 [2, 2, 2, 2]
noncomputable def N14_12 := cp B14 [2, 2, 2, 2, 1]
noncomputable def R14_8 := cp B14 [2, 2, 2, 2, 1, 1]
noncomputable def r14_8 := (⟨r_mk rfl (by simp only [R14_8, B14, code, Tryd.f14, dc, Poe]; exact rfl)⟩ : PLift (Goe E 14 R14_8 _))
noncomputable def N14_13 := cp B14 [2, 2, 2, 2, 1, 2]
noncomputable def N14_14 := cp B14 [2, 2, 2, 2, 1, 2, 6]
noncomputable def R14_9 := cp B14 [2, 2, 2, 2, 1, 2, 6]
noncomputable def r14_9 := (⟨r_mk rfl (by simp only [R14_9, B14, code, Tryd.f14, dc, Poe]; exact rfl)⟩ : PLift (Goe E 14 R14_9 _))
theorem n14_14 : Gqe E 14 N14_14 R14_9 := gq rfl
theorem n14_13 : Gqe E 14 N14_13 (.cond (.tmp 38) N14_14 .skip) := gq rfl
theorem n14_12 : Gqe E 14 N14_12 (.seq R14_8 N14_13) := gq rfl
noncomputable def N14_15 := cp B14 [2, 2, 2, 2, 2]
noncomputable def N14_16 := cp B14 [2, 2, 2, 2, 2, 1]
noncomputable def R14_10 := cp B14 [2, 2, 2, 2, 2, 1, 1]
noncomputable def r14_10 := (⟨r_mk rfl (by simp only [R14_10, B14, code, Tryd.f14, dc, Poe]; exact rfl)⟩ : PLift (Goe E 14 R14_10 _))
noncomputable def N14_17 := cp B14 [2, 2, 2, 2, 2, 1, 2]
noncomputable def L14_1 := cp B14 [2, 2, 2, 2, 2, 1, 2, 3, 4]
noncomputable def R14_11 := cp B14 [2, 2, 2, 2, 2, 1, 2, 3, 4, 1]
noncomputable def r14_11 := (⟨r_mk rfl (by simp only [R14_11, B14, code, Tryd.f14, dc, Poe]; exact rfl)⟩ : PLift (Goe E 14 R14_11 _))
noncomputable def N14_18 := cp B14 [2, 2, 2, 2, 2, 1, 2, 3, 4, 2]
noncomputable def N14_19 := cp B14 [2, 2, 2, 2, 2, 1, 2, 3, 4, 2, 2]
noncomputable def N14_20 := cp B14 [2, 2, 2, 2, 2, 1, 2, 3, 4, 2, 2, 1, 3]
noncomputable def R14_12 := cp B14 [2, 2, 2, 2, 2, 1, 2, 3, 4, 2, 2, 1, 3, 1]
noncomputable def r14_12 := (⟨r_mk rfl (by simp only [R14_12, B14, code, Tryd.f14, dc, Poe]; exact rfl)⟩ : PLift (Goe E 14 R14_12 _))
noncomputable def N14_21 := cp B14 [2, 2, 2, 2, 2, 1, 2, 3, 4, 2, 2, 1, 3, 2]
noncomputable def R14_13 := cp B14 [2, 2, 2, 2, 2, 1, 2, 3, 4, 2, 2, 1, 3, 2]
noncomputable def r14_13 := (⟨r_mk rfl (by simp only [R14_13, B14, code, Tryd.f14, dc, Poe]; exact rfl)⟩ : PLift (Goe E 14 R14_13 _))
theorem n14_21 : Gqe E 14 N14_21 R14_13 := gq rfl
theorem n14_20 : Gqe E 14 N14_20 (.seq R14_12 N14_21) := gq rfl
noncomputable def N14_22 := cp B14 [2, 2, 2, 2, 2, 1, 2, 3, 4, 2, 2, 2]
noncomputable def R14_14 := cp B14 [2, 2, 2, 2, 2, 1, 2, 3, 4, 2, 2, 2]
noncomputable def r14_14 := (⟨r_mk rfl (by simp only [R14_14, B14, code, Tryd.f14, dc, Poe]; exact rfl)⟩ : PLift (Goe E 14 R14_14 _))
theorem n14_22 : Gqe E 14 N14_22 R14_14 := gq rfl
theorem n14_19 : Gqe E 14 N14_19 (.seq (.block 3 N14_20) N14_22) := gq rfl
theorem n14_18 : Gqe E 14 N14_18 (.seq (.cond (.tmp 50) .skip (.exit 2)) N14_19) := gq rfl
theorem l14_1 : Gqe E 14 L14_1 (.seq R14_11 N14_18) := gq rfl
theorem n14_17 : Gqe E 14 N14_17 (.block 2 (.loop L14_1)) := gq rfl
theorem n14_16 : Gqe E 14 N14_16 (.seq R14_10 N14_17) := gq rfl
noncomputable def N14_23 := cp B14 [2, 2, 2, 2, 2, 2]
noncomputable def N14_24 := cp B14 [2, 2, 2, 2, 2, 2, 1]
noncomputable def R14_15 := cp B14 [2, 2, 2, 2, 2, 2, 1, 1]
noncomputable def r14_15 := (⟨r_mk rfl (by simp only [R14_15, B14, code, Tryd.f14, dc, Poe]; exact rfl)⟩ : PLift (Goe E 14 R14_15 _))
noncomputable def N14_25 := cp B14 [2, 2, 2, 2, 2, 2, 1, 2]
noncomputable def L14_2 := cp B14 [2, 2, 2, 2, 2, 2, 1, 2, 3, 4]
noncomputable def R14_16 := cp B14 [2, 2, 2, 2, 2, 2, 1, 2, 3, 4, 1]
noncomputable def r14_16 := (⟨r_mk rfl (by simp only [R14_16, B14, code, Tryd.f14, dc, Poe]; exact rfl)⟩ : PLift (Goe E 14 R14_16 _))
noncomputable def N14_26 := cp B14 [2, 2, 2, 2, 2, 2, 1, 2, 3, 4, 2]
noncomputable def N14_27 := cp B14 [2, 2, 2, 2, 2, 2, 1, 2, 3, 4, 2, 2]
noncomputable def N14_28 := cp B14 [2, 2, 2, 2, 2, 2, 1, 2, 3, 4, 2, 2, 1, 3]
noncomputable def R14_17 := cp B14 [2, 2, 2, 2, 2, 2, 1, 2, 3, 4, 2, 2, 1, 3, 1]
noncomputable def r14_17 := (⟨r_mk rfl (by simp only [R14_17, B14, code, Tryd.f14, dc, Poe]; exact rfl)⟩ : PLift (Goe E 14 R14_17 _))
noncomputable def N14_29 := cp B14 [2, 2, 2, 2, 2, 2, 1, 2, 3, 4, 2, 2, 1, 3, 2]
noncomputable def R14_18 := cp B14 [2, 2, 2, 2, 2, 2, 1, 2, 3, 4, 2, 2, 1, 3, 2]
noncomputable def r14_18 := (⟨r_pl (p := [.one 0 [], .one 1 [], .one 3 [], .one 4 [], .one 5 [], .one 6 [], .one 7 [], .one 8 [], .one 2 [4, 7, 8], .one 9 []]) rfl (by kernel_rfl) (by kernel_rfl) (by simp only [R14_18, B14, code, Tryd.f14, dc, dpl, Ple]; exact rfl)⟩ : PLift (Gpe E 14 R14_18 _))
theorem n14_29 : Gqe E 14 N14_29 R14_18 := gq rfl
theorem n14_28 : Gqe E 14 N14_28 (.seq R14_17 N14_29) := gq rfl
noncomputable def N14_30 := cp B14 [2, 2, 2, 2, 2, 2, 1, 2, 3, 4, 2, 2, 2]
noncomputable def R14_19 := cp B14 [2, 2, 2, 2, 2, 2, 1, 2, 3, 4, 2, 2, 2]
noncomputable def r14_19 := (⟨r_mk rfl (by simp only [R14_19, B14, code, Tryd.f14, dc, Poe]; exact rfl)⟩ : PLift (Goe E 14 R14_19 _))
theorem n14_30 : Gqe E 14 N14_30 R14_19 := gq rfl
theorem n14_27 : Gqe E 14 N14_27 (.seq (.block 5 N14_28) N14_30) := gq rfl
theorem n14_26 : Gqe E 14 N14_26 (.seq (.cond (.tmp 61) .skip (.exit 4)) N14_27) := gq rfl
theorem l14_2 : Gqe E 14 L14_2 (.seq R14_16 N14_26) := gq rfl
theorem n14_25 : Gqe E 14 N14_25 (.block 4 (.loop L14_2)) := gq rfl
theorem n14_24 : Gqe E 14 N14_24 (.seq R14_15 N14_25) := gq rfl
noncomputable def N14_31 := cp B14 [2, 2, 2, 2, 2, 2, 2]
noncomputable def R14_20 := cp B14 [2, 2, 2, 2, 2, 2, 2, 1]
noncomputable def r14_20 := (⟨r_mk rfl (by simp only [R14_20, B14, code, Tryd.f14, dc, Poe]; exact rfl)⟩ : PLift (Goe E 14 R14_20 _))
noncomputable def N14_32 := cp B14 [2, 2, 2, 2, 2, 2, 2, 2]
noncomputable def R14_21 := cp B14 [2, 2, 2, 2, 2, 2, 2, 2, 1]
noncomputable def r14_21 := (⟨r_mk rfl (by simp only [R14_21, B14, code, Tryd.f14, dc, Poe]; exact rfl)⟩ : PLift (Goe E 14 R14_21 _))
noncomputable def N14_33 := cp B14 [2, 2, 2, 2, 2, 2, 2, 2, 2]
noncomputable def N14_34 := cp B14 [2, 2, 2, 2, 2, 2, 2, 2, 2, 1]
noncomputable def R14_22 := cp B14 [2, 2, 2, 2, 2, 2, 2, 2, 2, 1, 1]
noncomputable def r14_22 := (⟨r_mk rfl (by simp only [R14_22, B14, code, Tryd.f14, dc, Poe]; exact rfl)⟩ : PLift (Goe E 14 R14_22 _))
noncomputable def N14_35 := cp B14 [2, 2, 2, 2, 2, 2, 2, 2, 2, 1, 2]
noncomputable def N14_36 := cp B14 [2, 2, 2, 2, 2, 2, 2, 2, 2, 1, 2, 6]
noncomputable def R14_23 := cp B14 [2, 2, 2, 2, 2, 2, 2, 2, 2, 1, 2, 6]
noncomputable def r14_23 := (⟨r_mk rfl (by simp only [R14_23, B14, code, Tryd.f14, dc, Poe]; exact rfl)⟩ : PLift (Goe E 14 R14_23 _))
theorem n14_36 : Gqe E 14 N14_36 R14_23 := gq rfl
theorem n14_35 : Gqe E 14 N14_35 (.cond (.tmp 86) N14_36 .skip) := gq rfl
theorem n14_34 : Gqe E 14 N14_34 (.seq R14_22 N14_35) := gq rfl
noncomputable def N14_37 := cp B14 [2, 2, 2, 2, 2, 2, 2, 2, 2, 2]
noncomputable def N14_38 := cp B14 [2, 2, 2, 2, 2, 2, 2, 2, 2, 2, 1]
noncomputable def R14_24 := cp B14 [2, 2, 2, 2, 2, 2, 2, 2, 2, 2, 1, 1]
noncomputable def r14_24 := (⟨r_mk rfl (by simp only [R14_24, B14, code, Tryd.f14, dc, Poe]; exact rfl)⟩ : PLift (Goe E 14 R14_24 _))
noncomputable def N14_39 := cp B14 [2, 2, 2, 2, 2, 2, 2, 2, 2, 2, 1, 2]
noncomputable def L14_3 := cp B14 [2, 2, 2, 2, 2, 2, 2, 2, 2, 2, 1, 2, 3, 4]
noncomputable def R14_25 := cp B14 [2, 2, 2, 2, 2, 2, 2, 2, 2, 2, 1, 2, 3, 4, 1]
noncomputable def r14_25 := (⟨r_mk rfl (by simp only [R14_25, B14, code, Tryd.f14, dc, Poe]; exact rfl)⟩ : PLift (Goe E 14 R14_25 _))
noncomputable def N14_40 := cp B14 [2, 2, 2, 2, 2, 2, 2, 2, 2, 2, 1, 2, 3, 4, 2]
noncomputable def N14_41 := cp B14 [2, 2, 2, 2, 2, 2, 2, 2, 2, 2, 1, 2, 3, 4, 2, 2]
noncomputable def N14_42 := cp B14 [2, 2, 2, 2, 2, 2, 2, 2, 2, 2, 1, 2, 3, 4, 2, 2, 1, 3]
noncomputable def R14_26 := cp B14 [2, 2, 2, 2, 2, 2, 2, 2, 2, 2, 1, 2, 3, 4, 2, 2, 1, 3, 1]
noncomputable def r14_26 := (⟨r_mk rfl (by simp only [R14_26, B14, code, Tryd.f14, dc, Poe]; exact rfl)⟩ : PLift (Goe E 14 R14_26 _))
noncomputable def N14_43 := cp B14 [2, 2, 2, 2, 2, 2, 2, 2, 2, 2, 1, 2, 3, 4, 2, 2, 1, 3, 2]
noncomputable def R14_27 := cp B14 [2, 2, 2, 2, 2, 2, 2, 2, 2, 2, 1, 2, 3, 4, 2, 2, 1, 3, 2, 1]
noncomputable def r14_27 := (⟨r_mk rfl (by simp only [R14_27, B14, code, Tryd.f14, dc, Poe]; exact rfl)⟩ : PLift (Goe E 14 R14_27 _))
noncomputable def N14_44 := cp B14 [2, 2, 2, 2, 2, 2, 2, 2, 2, 2, 1, 2, 3, 4, 2, 2, 1, 3, 2, 2]
noncomputable def R14_28 := cp B14 [2, 2, 2, 2, 2, 2, 2, 2, 2, 2, 1, 2, 3, 4, 2, 2, 1, 3, 2, 2]
noncomputable def r14_28 := (⟨r_pl (p := [.one 0 [], .one 1 [], .one 2 [], .one 3 [], .one 5 [], .one 4 [1], .one 6 [], .one 7 [], .one 8 [], .one 9 [], .one 10 []]) rfl (by kernel_rfl) (by kernel_rfl) (by simp only [R14_28, B14, code, Tryd.f14, dc, dpl, Ple]; exact rfl)⟩ : PLift (Gpe E 14 R14_28 _))
theorem n14_44 : Gqe E 14 N14_44 R14_28 := gq rfl
theorem n14_43 : Gqe E 14 N14_43 (.seq R14_27 N14_44) := gq rfl
theorem n14_42 : Gqe E 14 N14_42 (.seq R14_26 N14_43) := gq rfl
noncomputable def N14_45 := cp B14 [2, 2, 2, 2, 2, 2, 2, 2, 2, 2, 1, 2, 3, 4, 2, 2, 2]
noncomputable def R14_29 := cp B14 [2, 2, 2, 2, 2, 2, 2, 2, 2, 2, 1, 2, 3, 4, 2, 2, 2]
noncomputable def r14_29 := (⟨r_mk rfl (by simp only [R14_29, B14, code, Tryd.f14, dc, Poe]; exact rfl)⟩ : PLift (Goe E 14 R14_29 _))
theorem n14_45 : Gqe E 14 N14_45 R14_29 := gq rfl
theorem n14_41 : Gqe E 14 N14_41 (.seq (.block 7 N14_42) N14_45) := gq rfl
theorem n14_40 : Gqe E 14 N14_40 (.seq (.cond (.tmp 91) .skip (.exit 6)) N14_41) := gq rfl
theorem l14_3 : Gqe E 14 L14_3 (.seq R14_25 N14_40) := gq rfl
theorem n14_39 : Gqe E 14 N14_39 (.block 6 (.loop L14_3)) := gq rfl
theorem n14_38 : Gqe E 14 N14_38 (.seq R14_24 N14_39) := gq rfl
noncomputable def N14_46 := cp B14 [2, 2, 2, 2, 2, 2, 2, 2, 2, 2, 2]
noncomputable def R14_30 := cp B14 [2, 2, 2, 2, 2, 2, 2, 2, 2, 2, 2, 1]
noncomputable def r14_30 := (⟨r_mk rfl (by simp only [R14_30, B14, code, Tryd.f14, dc, Poe]; exact rfl)⟩ : PLift (Goe E 14 R14_30 _))
theorem n14_46 : Gqe E 14 N14_46 (.seq R14_30 .ret) := gq rfl
theorem n14_37 : Gqe E 14 N14_37 (.seq N14_38 N14_46) := gq rfl
theorem n14_33 : Gqe E 14 N14_33 (.seq N14_34 N14_37) := gq rfl
theorem n14_32 : Gqe E 14 N14_32 (.seq R14_21 N14_33) := gq rfl
theorem n14_31 : Gqe E 14 N14_31 (.seq R14_20 N14_32) := gq rfl
theorem n14_23 : Gqe E 14 N14_23 (.seq N14_24 N14_31) := gq rfl
theorem n14_15 : Gqe E 14 N14_15 (.seq N14_16 N14_23) := gq rfl
theorem n14_11 : Gqe E 14 N14_11 (.seq N14_12 N14_15) := gq rfl
theorem n14_3 : Gqe E 14 N14_3 (.seq N14_4 N14_11) := gq rfl
theorem n14_2 : Gqe E 14 N14_2 (.seq R14_2 N14_3) := gq rfl
theorem n14_1 : Gqe E 14 N14_1 (.seq R14_1 N14_2) := gq rfl
theorem n14_0 : Gqe E 14 N14_0 (.seq R14_0 N14_1) := gq rfl
theorem en_14 {x0 : AVal} {st : ASt} {R : AEnd → ASt → Prop} (h : ∀ g : Nat → AVal, g 0 = x0 → Gc E 14 N14_0 [] (RQ E Tryd.f14 R) (Sl 113 g) st) : ∃ r st', rw E 14 [x0] st = some (r, st') ∧ R r st' :=
  en_of (fn := Tryd.f14) (c := N14_0) rfl rfl rfl (Nat.le_of_ble_eq_true rfl) fun g hg => h g (hg 0 x0 rfl)
theorem rq_14 (R : AEnd → ASt → Prop) (g : Nat → AVal) (st : ASt) : RQ E Tryd.f14 R .ret (Sl 113 g) st = bindK (loadA E.P 36 st (g 2)) fun v0 => R (.returned (v0)) st := by
  rw [rq_gen (.inl rfl), show (Tryd.f14).results.toList = [.cell 2 36] from rfl]
  simp only [aresB, sl_get, Nat.reduceLT, ↓reduceIte, bindK_some, tup]
theorem o_al_36 (st : ASt) : allocA E.P 36 st = some (.ptr st.ctr 0, st.new (.cells [.lit (.slice none 0 0)])) := rfl
theorem o_fap_33_5 (s o : Nat) : fieldA E.P 33 (.ptr s o) 5 = some (.ptr s (o + 5)) := rfl
theorem o_fai_33_5 (cs : List AVal) : fieldA E.P 33 (.iptr (.agg cs)) 5 = (cs[5]?).map .iptr := rfl
theorem hint_14_26 : E.hint 14 26 = false := rfl
theorem hint_14_31 : E.hint 14 31 = false := rfl
theorem hint_14_43 : E.hint 14 43 = false := rfl
theorem hint_14_70 : E.hint 14 70 = false := rfl
theorem o_fap_33_4 (s o : Nat) : fieldA E.P 33 (.ptr s o) 4 = some (.ptr s (o + 4)) := rfl
theorem o_fai_33_4 (cs : List AVal) : fieldA E.P 33 (.iptr (.agg cs)) 4 = (cs[4]?).map .iptr := rfl
theorem hint_14_79 : E.hint 14 79 = false := rfl
theorem hint_14_87 : E.hint 14 87 = false := rfl
theorem o_bs_31_1 (ps : List (Nat × AVal)) (st : ASt) : buildSliceA E.P false 31 1 ps st = (setsE false 1 [(.lit (.slice none 0 0))] ps).map (fun es => (.islice 1 es .exact, st)) := bs_i rfl rfl rfl rfl (by decide) rfl ps st
theorem o_ixi_31 (sz : Nat) (es : List AVal) (c : Cap) (k : IntKind) (i : Int) : indexA E.P 31 (.islice sz es c) (.lit (.int k i)) = if 0 ≤ i ∧ i < es.length ∧ some 1 = some sz then (es[i.toNat]?).map .iptr else none := rfl
theorem o_ixs_31 (s o l sz : Nat) (c : Option Nat) (k : IntKind) (i : Int) : indexA E.P 31 (.slice s o l sz c) (.lit (.int k i)) = if 0 ≤ i ∧ i < l then some (.ptr s (o + i.toNat * 1)) else none := rfl
theorem o_ldp_53 (st : ASt) (s o : Nat) : loadA E.P 53 st (.ptr s o) = (blkOf (st.heap s)).bind (fun cs => cs[o]?) := ld_one rfl rfl st s o
theorem o_ldi_53 (st : ASt) (v : AVal) : loadA E.P 53 st (.iptr v) = if v.isCell = true then some v else none := rfl
theorem o_fap_36_0 (s o : Nat) : fieldA E.P 36 (.ptr s o) 0 = some (.ptr s (o + 0)) := rfl
theorem o_fai_36_0 (cs : List AVal) : fieldA E.P 36 (.iptr (.agg cs)) 0 = (cs[0]?).map .iptr := rfl
theorem o_ldp_34 (st : ASt) (s o : Nat) : loadA E.P 34 st (.ptr s o) = (blkOf (st.heap s)).bind (fun cs => cs[o]?) := ld_one rfl rfl st s o
theorem o_ldi_34 (st : ASt) (v : AVal) : loadA E.P 34 st (.iptr v) = if v.isCell = true then some v else none := rfl
theorem o_bd_41 (ps : List (Nat × AVal)) : buildA E.P 41 ps = (fillA (fun i => ([(0, 1), (1, 1), (2, 1), (3, 1), (4, 1)] : List (Nat × Nat))[i]?) [.lit (.int .i64 0), .lit (.string ⟨#[]⟩), .lit (.complex .f64 0 0), .lit (.slice none 0 0), .lit (.int .i64 0)] ps).map .agg := rfl
theorem hint_14_108 : E.hint 14 108 = false := rfl
theorem o_bs_34_1 (ps : List (Nat × AVal)) (st : ASt) : buildSliceA E.P false 34 1 ps st = (setsE true 5 [(.agg [.lit (.int .i64 0), .lit (.string ⟨#[]⟩), .lit (.complex .f64 0 0), .lit (.slice none 0 0), .lit (.int .i64 0)])] ps).map (fun es => (.islice 5 es .exact, st)) := bs_i rfl rfl rfl rfl (by decide) rfl ps st
theorem hint_14_109 : E.hint 14 109 = true := rfl
theorem slt_34 : SlT E.P 34 41 true 5 := ⟨rfl, rfl, ⟨_, _, rfl, rfl, by decide, rfl, rfl⟩, by decide⟩
theorem o_st_34 (st : ASt) (s o : Nat) (v : AVal) : storeA E.P 34 st (.ptr s o) v = if v.isCell = true then (blkOf (st.heap s)).bind (fun cs => if o + 1 ≤ cs.length then some (st.set s (some (.cells (cs.set o v)))) else none) else storeU E.P 34 st (.ptr s o) v := st_one rfl st s o v
theorem o_ldp_36 (st : ASt) (s o : Nat) : loadA E.P 36 st (.ptr s o) = (blkOf (st.heap s)).bind (fun cs => if o + 1 ≤ cs.length then some (.agg ((cs.drop o).take 1)) else none) := ld_agg rfl rfl st s o
theorem o_ldi_36 (st : ASt) (cs : List AVal) : loadA E.P 36 st (.iptr (.agg cs)) = if cs.length = 1 then some (.agg cs) else none := rfl
theorem o_st_36 (st : ASt) (s o : Nat) (vs : List AVal) : storeA E.P 36 st (.ptr s o) (.agg vs) = (blkOf (st.heap s)).bind (fun cs => if vs.length = 1 ∧ o + vs.length ≤ cs.length ∧ vs.all AVal.isCell = true then some (st.set s (some (.cells (putL cs o vs)))) else none) := st_agg rfl st s o vs

/-! ### braidwork/braidworklaw04.Make$1 -/
noncomputable def B22 : Code := code Tryd.f22
noncomputable def N22_0 := cp B22 []
noncomputable def R22_0 := cp B22 []
noncomputable def r22_0 := (⟨r_mk rfl (by simp only [R22_0, B22, code, Tryd.f22, dc, Poe]; exact rfl)⟩ : PLift (Goe E 22 R22_0 _))
theorem n22_0 : Gqe E 22 N22_0 R22_0 := gq rfl
theorem en_22 {x0 x1 x2 x3 : AVal} {st : ASt} {R : AEnd → ASt → Prop} (h : ∀ g : Nat → AVal, g 0 = x0 → g 1 = x1 → g 2 = x2 → g 3 = x3 → Gc E 22 N22_0 [] (RQ E Tryd.f22 R) (Sl 16 g) st) : ∃ r st', rw E 22 [x0, x1, x2, x3] st = some (r, st') ∧ R r st' :=
  en_of (fn := Tryd.f22) (c := N22_0) rfl rfl rfl (Nat.le_of_ble_eq_true rfl) fun g hg => h g (hg 0 x0 rfl) (hg 1 x1 rfl) (hg 2 x2 rfl) (hg 3 x3 rfl)
theorem rq_22 (R : AEnd → ASt → Prop) (g : Nat → AVal) (st : ASt) : RQ E Tryd.f22 R .ret (Sl 16 g) st = R (.returned (.tuple [])) st := by
  rw [rq_gen (.inl rfl), show (Tryd.f22).results.toList = [] from rfl]
  simp only [aresB, sl_get, Nat.reduceLT, ↓reduceIte, bindK_some, tup]
theorem rqn_22 (R : AEnd → ASt → Prop) (g : Nat → AVal) (st : ASt) : RQ E Tryd.f22 R .normal (Sl 16 g) st = R (.returned (.tuple [])) st := by
  rw [rq_gen (.inr rfl), show (Tryd.f22).results.toList = [] from rfl]
  simp only [aresB, sl_get, Nat.reduceLT, ↓reduceIte, bindK_some, tup]
theorem hint_22_13 : E.hint 22 13 = false := rfl
theorem hint_22_14 : E.hint 22 14 = true := rfl

/-! ### (braidwork/braidworklaw04.Small).Light -/
noncomputable def B13 : Code := code Tryd.f13
noncomputable def N13_0 := cp B13 []
noncomputable def R13_0 := cp B13 [1]
noncomputable def r13_0 := (⟨r_mk rfl (by simp only [R13_0, B13, code, Tryd.f13, dc, Poe]; exact rfl)⟩ : PLift (Goe E 13 R13_0 _))
noncomputable def N13_1 := cp B13 [2]
noncomputable def N13_2 := cp B13 [2, 1]
noncomputable def R13_1 := cp B13 [2, 1, 1]
noncomputable def r13_1 := (⟨r_mk rfl (by simp only [R13_1, B13, code, Tryd.f13, dc, Poe]; exact rfl)⟩ : PLift (Goe E 13 R13_1 _))
noncomputable def N13_3 := cp B13 [2, 1, 2]
noncomputable def N13_4 := cp B13 [2, 1, 2, 6]
noncomputable def R13_2 := cp B13 [2, 1, 2, 6, 1]
noncomputable def r13_2 := (⟨r_mk rfl (by simp only [R13_2, B13, code, Tryd.f13, dc, Poe]; exact rfl)⟩ : PLift (Goe E 13 R13_2 _))
theorem n13_4 : Gqe E 13 N13_4 (.seq R13_2 .ret) := gq rfl
theorem n13_3 : Gqe E 13 N13_3 (.cond (.tmp 8) N13_4 .skip) := gq rfl
theorem n13_2 : Gqe E 13 N13_2 (.seq R13_1 N13_3) := gq rfl
noncomputable def N13_5 := cp B13 [2, 2]
noncomputable def N13_6 := cp B13 [2, 2, 1]
noncomputable def R13_3 := cp B13 [2, 2, 1, 1]
noncomputable def r13_3 := (⟨r_mk rfl (by simp only [R13_3, B13, code, Tryd.f13, dc, Poe]; exact rfl)⟩ : PLift (Goe E 13 R13_3 _))
noncomputable def N13_7 := cp B13 [2, 2, 1, 2]
noncomputable def L13_0 := cp B13 [2, 2, 1, 2, 3, 4]
noncomputable def R13_4 := cp B13 [2, 2, 1, 2, 3, 4, 1]
noncomputable def r13_4 := (⟨r_mk rfl (by simp only [R13_4, B13, code, Tryd.f13, dc, Poe]; exact rfl)⟩ : PLift (Goe E 13 R13_4 _))
noncomputable def N13_8 := cp B13 [2, 2, 1, 2, 3, 4, 2]
noncomputable def N13_9 := cp B13 [2, 2, 1, 2, 3, 4, 2, 2]
noncomputable def N13_10 := cp B13 [2, 2, 1, 2, 3, 4, 2, 2, 1, 3]
noncomputable def R13_5 := cp B13 [2, 2, 1, 2, 3, 4, 2, 2, 1, 3, 1]
noncomputable def r13_5 := (⟨r_mk rfl (by simp only [R13_5, B13, code, Tryd.f13, dc, Poe]; exact rfl)⟩ : PLift (Goe E 13 R13_5 _))
noncomputable def N13_11 := cp B13 [2, 2, 1, 2, 3, 4, 2, 2, 1, 3, 2]
noncomputable def R13_6 := cp B13 [2, 2, 1, 2, 3, 4, 2, 2, 1, 3, 2, 1]
noncomputable def r13_6 := (⟨r_mk rfl (by simp only [R13_6, B13, code, Tryd.f13, dc, Poe]; exact rfl)⟩ : PLift (Goe E 13 R13_6 _))
noncomputable def N13_12 := cp B13 [2, 2, 1, 2, 3, 4, 2, 2, 1, 3, 2, 2]
noncomputable def N13_13 := cp B13 [2, 2, 1, 2, 3, 4, 2, 2, 1, 3, 2, 2, 6]
noncomputable def R13_7 := cp B13 [2, 2, 1, 2, 3, 4, 2, 2, 1, 3, 2, 2, 6, 1]
noncomputable def r13_7 := (⟨r_mk rfl (by simp only [R13_7, B13, code, Tryd.f13, dc, Poe]; exact rfl)⟩ : PLift (Goe E 13 R13_7 _))
theorem n13_13 : Gqe E 13 N13_13 (.seq R13_7 .ret) := gq rfl
theorem n13_12 : Gqe E 13 N13_12 (.cond (.tmp 18) N13_13 .skip) := gq rfl
theorem n13_11 : Gqe E 13 N13_11 (.seq R13_6 N13_12) := gq rfl
theorem n13_10 : Gqe E 13 N13_10 (.seq R13_5 N13_11) := gq rfl
noncomputable def N13_14 := cp B13 [2, 2, 1, 2, 3, 4, 2, 2, 2]
noncomputable def R13_8 := cp B13 [2, 2, 1, 2, 3, 4, 2, 2, 2]
noncomputable def r13_8 := (⟨r_mk rfl (by simp only [R13_8, B13, code, Tryd.f13, dc, Poe]; exact rfl)⟩ : PLift (Goe E 13 R13_8 _))
theorem n13_14 : Gqe E 13 N13_14 R13_8 := gq rfl
theorem n13_9 : Gqe E 13 N13_9 (.seq (.block 1 N13_10) N13_14) := gq rfl
theorem n13_8 : Gqe E 13 N13_8 (.seq (.cond (.tmp 13) .skip (.exit 0)) N13_9) := gq rfl
theorem l13_0 : Gqe E 13 L13_0 (.seq R13_4 N13_8) := gq rfl
theorem n13_7 : Gqe E 13 N13_7 (.block 0 (.loop L13_0)) := gq rfl
theorem n13_6 : Gqe E 13 N13_6 (.seq R13_3 N13_7) := gq rfl
noncomputable def N13_15 := cp B13 [2, 2, 2]
noncomputable def R13_9 := cp B13 [2, 2, 2, 1]
noncomputable def r13_9 := (⟨r_mk rfl (by simp only [R13_9, B13, code, Tryd.f13, dc, Poe]; exact rfl)⟩ : PLift (Goe E 13 R13_9 _))
theorem n13_15 : Gqe E 13 N13_15 (.seq R13_9 .ret) := gq rfl
theorem n13_5 : Gqe E 13 N13_5 (.seq N13_6 N13_15) := gq rfl
theorem n13_1 : Gqe E 13 N13_1 (.seq N13_2 N13_5) := gq rfl
theorem n13_0 : Gqe E 13 N13_0 (.seq R13_0 N13_1) := gq rfl
theorem en_13 {x0 : AVal} {st : ASt} {R : AEnd → ASt → Prop} (h : ∀ g : Nat → AVal, g 0 = x0 → Gc E 13 N13_0 [] (RQ E Tryd.f13 R) (Sl 20 g) st) : ∃ r st', rw E 13 [x0] st = some (r, st') ∧ R r st' :=
  en_of (fn := Tryd.f13) (c := N13_0) rfl rfl rfl (Nat.le_of_ble_eq_true rfl) fun g hg => h g (hg 0 x0 rfl)
theorem rq_13 (R : AEnd → ASt → Prop) (g : Nat → AVal) (st : ASt) : RQ E Tryd.f13 R .ret (Sl 20 g) st = R (.returned (g 2)) st := by
  rw [rq_gen (.inl rfl), show (Tryd.f13).results.toList = [.tmp 2] from rfl]
  simp only [aresB, sl_get, Nat.reduceLT, ↓reduceIte, bindK_some, tup]

/-! ### braidwork/braidworklaw04.Text -/
noncomputable def B16 : Code := code Tryd.f16
noncomputable def N16_0 := cp B16 []
noncomputable def R16_0 := cp B16 [1]
noncomputable def r16_0 := (⟨r_mk rfl (by simp only [R16_0, B16, code, Tryd.f16, dc, Poe]; exact rfl)⟩ : PLift (Goe E 16 R16_0 _))
noncomputable def N16_1 := cp B16 [2]
noncomputable def R16_1 := cp B16 [2, 1]
noncomputable def r16_1 := (⟨r_mk rfl (by simp only [R16_1, B16, code, Tryd.f16, dc, Poe]; exact rfl)⟩ : PLift (Goe E 16 R16_1 _))
noncomputable def N16_2 := cp B16 [2, 2]
noncomputable def N16_3 := cp B16 [2, 2, 1]
noncomputable def R16_2 := cp B16 [2, 2, 1, 1]
noncomputable def r16_2 := (⟨r_mk rfl (by simp only [R16_2, B16, code, Tryd.f16, dc, Poe]; exact rfl)⟩ : PLift (Goe E 16 R16_2 _))
noncomputable def N16_4 := cp B16 [2, 2, 1, 2]
noncomputable def L16_0 := cp B16 [2, 2, 1, 2, 3, 4]
noncomputable def R16_3 := cp B16 [2, 2, 1, 2, 3, 4, 1]
noncomputable def r16_3 := (⟨r_mk rfl (by simp only [R16_3, B16, code, Tryd.f16, dc, Poe]; exact rfl)⟩ : PLift (Goe E 16 R16_3 _))
noncomputable def N16_5 := cp B16 [2, 2, 1, 2, 3, 4, 2]
noncomputable def N16_6 := cp B16 [2, 2, 1, 2, 3, 4, 2, 2]
noncomputable def N16_7 := cp B16 [2, 2, 1, 2, 3, 4, 2, 2, 1, 3]
noncomputable def R16_4 := cp B16 [2, 2, 1, 2, 3, 4, 2, 2, 1, 3, 1]
noncomputable def r16_4 := (⟨r_mk rfl (by simp only [R16_4, B16, code, Tryd.f16, dc, Poe]; exact rfl)⟩ : PLift (Goe E 16 R16_4 _))
noncomputable def N16_8 := cp B16 [2, 2, 1, 2, 3, 4, 2, 2, 1, 3, 2]
noncomputable def R16_5 := cp B16 [2, 2, 1, 2, 3, 4, 2, 2, 1, 3, 2, 1]
noncomputable def r16_5 := (⟨r_mk rfl (by simp only [R16_5, B16, code, Tryd.f16, dc, Poe]; exact rfl)⟩ : PLift (Goe E 16 R16_5 _))
noncomputable def N16_9 := cp B16 [2, 2, 1, 2, 3, 4, 2, 2, 1, 3, 2, 2]
noncomputable def N16_10 := cp B16 [2, 2, 1, 2, 3, 4, 2, 2, 1, 3, 2, 2, 3]
noncomputable def R16_6 := cp B16 [2, 2, 1, 2, 3, 4, 2, 2, 1, 3, 2, 2, 3, 1]
noncomputable def r16_6 := (⟨r_mk rfl (by simp only [R16_6, B16, code, Tryd.f16, dc, Poe]; exact rfl)⟩ : PLift (Goe E 16 R16_6 _))
noncomputable def N16_11 := cp B16 [2, 2, 1, 2, 3, 4, 2, 2, 1, 3, 2, 2, 3, 2]
noncomputable def N16_12 := cp B16 [2, 2, 1, 2, 3, 4, 2, 2, 1, 3, 2, 2, 3, 2, 6]
noncomputable def R16_7 := cp B16 [2, 2, 1, 2, 3, 4, 2, 2, 1, 3, 2, 2, 3, 2, 6]
noncomputable def r16_7 := (⟨r_pl (p := [.one 0 [], .one 1 [], .one 2 [], .one 3 [], .one 4 [], .one 5 [], .one 6 [], .one 7 [2], .one 8 [], .one 9 [], .one 10 [], .one 11 []]) rfl (by kernel_rfl) (by kernel_rfl) (by simp only [R16_7, B16, code, Tryd.f16, dc, dpl, Ple]; exact rfl)⟩ : PLift (Gpe E 16 R16_7 _))
theorem n16_12 : Gqe E 16 N16_12 R16_7 := gq rfl
noncomputable def N16_13 := cp B16 [2, 2, 1, 2, 3, 4, 2, 2, 1, 3, 2, 2, 3, 2, 7]
noncomputable def R16_8 := cp B16 [2, 2, 1, 2, 3, 4, 2, 2, 1, 3, 2, 2, 3, 2, 7, 1]
noncomputable def r16_8 := (⟨r_mk rfl (by simp only [R16_8, B16, code, Tryd.f16, dc, Poe]; exact rfl)⟩ : PLift (Goe E 16 R16_8 _))
noncomputable def N16_14 := cp B16 [2, 2, 1, 2, 3, 4, 2, 2, 1, 3, 2, 2, 3, 2, 7, 2]
noncomputable def N16_15 := cp B16 [2, 2, 1, 2, 3, 4, 2, 2, 1, 3, 2, 2, 3, 2, 7, 2, 6]
noncomputable def R16_9 := cp B16 [2, 2, 1, 2, 3, 4, 2, 2, 1, 3, 2, 2, 3, 2, 7, 2, 6]
noncomputable def r16_9 := (⟨r_pl (p := [.one 0 [], .one 1 [], .one 2 [], .one 3 [], .one 4 [], .one 5 [], .one 6 [], .one 7 [2], .one 8 [], .one 9 [], .one 10 [], .one 11 []]) rfl (by kernel_rfl) (by kernel_rfl) (by simp only [R16_9, B16, code, Tryd.f16, dc, dpl, Ple]; exact rfl)⟩ : PLift (Gpe E 16 R16_9 _))
theorem n16_15 : Gqe E 16 N16_15 R16_9 := gq rfl
noncomputable def N16_16 := cp B16 [2, 2, 1, 2, 3, 4, 2, 2, 1, 3, 2, 2, 3, 2, 7, 2, 7]
noncomputable def R16_10 := cp B16 [2, 2, 1, 2, 3, 4, 2, 2, 1, 3, 2, 2, 3, 2, 7, 2, 7, 1]
noncomputable def r16_10 := (⟨r_mk rfl (by simp only [R16_10, B16, code, Tryd.f16, dc, Poe]; exact rfl)⟩ : PLift (Goe E 16 R16_10 _))
noncomputable def N16_17 := cp B16 [2, 2, 1, 2, 3, 4, 2, 2, 1, 3, 2, 2, 3, 2, 7, 2, 7, 2]
noncomputable def N16_18 := cp B16 [2, 2, 1, 2, 3, 4, 2, 2, 1, 3, 2, 2, 3, 2, 7, 2, 7, 2, 6]
noncomputable def R16_11 := cp B16 [2, 2, 1, 2, 3, 4, 2, 2, 1, 3, 2, 2, 3, 2, 7, 2, 7, 2, 6]
noncomputable def r16_11 := (⟨r_mk rfl (by simp only [R16_11, B16, code, Tryd.f16, dc, Poe]; exact rfl)⟩ : PLift (Goe E 16 R16_11 _))
theorem n16_18 : Gqe E 16 N16_18 R16_11 := gq rfl
noncomputable def N16_19 := cp B16 [2, 2, 1, 2, 3, 4, 2, 2, 1, 3, 2, 2, 3, 2, 7, 2, 7, 2, 7]
noncomputable def R16_12 := cp B16 [2, 2, 1, 2, 3, 4, 2, 2, 1, 3, 2, 2, 3, 2, 7, 2, 7, 2, 7, 1]
noncomputable def r16_12 := (⟨r_mk rfl (by simp only [R16_12, B16, code, Tryd.f16, dc, Poe]; exact rfl)⟩ : PLift (Goe E 16 R16_12 _))
noncomputable def N16_20 := cp B16 [2, 2, 1, 2, 3, 4, 2, 2, 1, 3, 2, 2, 3, 2, 7, 2, 7, 2, 7, 2]
noncomputable def N16_21 := cp B16 [2, 2, 1, 2, 3, 4, 2, 2, 1, 3, 2, 2, 3, 2, 7, 2, 7, 2, 7, 2, 6]
noncomputable def R16_13 := cp B16 [2, 2, 1, 2, 3, 4, 2, 2, 1, 3, 2, 2, 3, 2, 7, 2, 7, 2, 7, 2, 6]
noncomputable def r16_13 := (⟨r_pl (p := [.one 0 [], .one 1 [], .one 2 [], .one 3 [], .one 4 [], .one 5 [], .one 6 [], .one 7 [2], .one 8 [], .one 9 [], .one 10 [], .one 11 []]) rfl (by kernel_rfl) (by kernel_rfl) (by simp only [R16_13, B16, code, Tryd.f16, dc, dpl, Ple]; exact rfl)⟩ : PLift (Gpe E 16 R16_13 _))
theorem n16_21 : Gqe E 16 N16_21 R16_13 := gq rfl
noncomputable def N16_22 := cp B16 [2, 2, 1, 2, 3, 4, 2, 2, 1, 3, 2, 2, 3, 2, 7, 2, 7, 2, 7, 2, 7]
noncomputable def R16_14 := cp B16 [2, 2, 1, 2, 3, 4, 2, 2, 1, 3, 2, 2, 3, 2, 7, 2, 7, 2, 7, 2, 7, 1]
noncomputable def r16_14 := (⟨r_mk rfl (by simp only [R16_14, B16, code, Tryd.f16, dc, Poe]; exact rfl)⟩ : PLift (Goe E 16 R16_14 _))
noncomputable def N16_23 := cp B16 [2, 2, 1, 2, 3, 4, 2, 2, 1, 3, 2, 2, 3, 2, 7, 2, 7, 2, 7, 2, 7, 2]
noncomputable def N16_24 := cp B16 [2, 2, 1, 2, 3, 4, 2, 2, 1, 3, 2, 2, 3, 2, 7, 2, 7, 2, 7, 2, 7, 2, 6]
noncomputable def R16_15 := cp B16 [2, 2, 1, 2, 3, 4, 2, 2, 1, 3, 2, 2, 3, 2, 7, 2, 7, 2, 7, 2, 7, 2, 6]
noncomputable def r16_15 := (⟨r_mk rfl (by simp only [R16_15, B16, code, Tryd.f16, dc, Poe]; exact rfl)⟩ : PLift (Goe E 16 R16_15 _))
theorem n16_24 : Gqe E 16 N16_24 R16_15 := gq rfl
noncomputable def N16_25 := cp B16 [2, 2, 1, 2, 3, 4, 2, 2, 1, 3, 2, 2, 3, 2, 7, 2, 7, 2, 7, 2, 7, 2, 7]
noncomputable def R16_16 := cp B16 [2, 2, 1, 2, 3, 4, 2, 2, 1, 3, 2, 2, 3, 2, 7, 2, 7, 2, 7, 2, 7, 2, 7, 1]
noncomputable def r16_16 := (⟨r_mk rfl (by simp only [R16_16, B16, code, Tryd.f16, dc, Poe]; exact rfl)⟩ : PLift (Goe E 16 R16_16 _))
noncomputable def N16_26 := cp B16 [2, 2, 1, 2, 3, 4, 2, 2, 1, 3, 2, 2, 3, 2, 7, 2, 7, 2, 7, 2, 7, 2, 7, 2]
noncomputable def N16_27 := cp B16 [2, 2, 1, 2, 3, 4, 2, 2, 1, 3, 2, 2, 3, 2, 7, 2, 7, 2, 7, 2, 7, 2, 7, 2, 6]
noncomputable def R16_17 := cp B16 [2, 2, 1, 2, 3, 4, 2, 2, 1, 3, 2, 2, 3, 2, 7, 2, 7, 2, 7, 2, 7, 2, 7, 2, 6]
noncomputable def r16_17 := (⟨r_pl (p := [.one 0 [], .one 1 [], .one 2 [], .one 3 [], .one 4 [], .one 5 [], .one 6 [2], .one 7 [], .one 8 [], .one 9 [], .one 10 []]) rfl (by kernel_rfl) (by kernel_rfl) (by simp only [R16_17, B16, code, Tryd.f16, dc, dpl, Ple]; exact rfl)⟩ : PLift (Gpe E 16 R16_17 _))
theorem n16_27 : Gqe E 16 N16_27 R16_17 := gq rfl
theorem n16_26 : Gqe E 16 N16_26 (.cond (.tmp 71) N16_27 .skip) := gq rfl
theorem n16_25 : Gqe E 16 N16_25 (.seq R16_16 N16_26) := gq rfl
theorem n16_23 : Gqe E 16 N16_23 (.cond (.tmp 62) N16_24 N16_25) := gq rfl
theorem n16_22 : Gqe E 16 N16_22 (.seq R16_14 N16_23) := gq rfl
theorem n16_20 : Gqe E 16 N16_20 (.cond (.tmp 49) N16_21 N16_22) := gq rfl
theorem n16_19 : Gqe E 16 N16_19 (.seq R16_12 N16_20) := gq rfl
theorem n16_17 : Gqe E 16 N16_17 (.cond (.tmp 41) N16_18 N16_19) := gq rfl
theorem n16_16 : Gqe E 16 N16_16 (.seq R16_10 N16_17) := gq rfl
theorem n16_14 : Gqe E 16 N16_14 (.cond (.tmp 28) N16_15 N16_16) := gq rfl
theorem n16_13 : Gqe E 16 N16_13 (.seq R16_8 N16_14) := gq rfl
theorem n16_11 : Gqe E 16 N16_11 (.cond (.tmp 15) N16_12 N16_13) := gq rfl
theorem n16_10 : Gqe E 16 N16_10 (.seq R16_6 N16_11) := gq rfl
theorem n16_9 : Gqe E 16 N16_9 (.block 2 N16_10) := gq rfl
theorem n16_8 : Gqe E 16 N16_8 (.seq R16_5 N16_9) := gq rfl
theorem n16_7 : Gqe E 16 N16_7 (.seq R16_4 N16_8) := gq rfl
noncomputable def N16_28 := cp B16 [2, 2, 1, 2, 3, 4, 2, 2, 2]
noncomputable def R16_18 := cp B16 [2, 2, 1, 2, 3, 4, 2, 2, 2]
noncomputable def r16_18 := (⟨r_mk rfl (by simp only [R16_18, B16, code, Tryd.f16, dc, Poe]; exact rfl)⟩ : PLift (Goe E 16 R16_18 _))
theorem n16_28 : Gqe E 16 N16_28 R16_18 := gq rfl
theorem n16_6 : Gqe E 16 N16_6 (.seq (.block 1 N16_7) N16_28) := gq rfl
theorem n16_5 : Gqe E 16 N16_5 (.seq (.cond (.tmp 10) .skip (.exit 0)) N16_6) := gq rfl
theorem l16_0 : Gqe E 16 L16_0 (.seq R16_3 N16_5) := gq rfl
theorem n16_4 : Gqe E 16 N16_4 (.block 0 (.loop L16_0)) := gq rfl
theorem n16_3 : Gqe E 16 N16_3 (.seq R16_2 N16_4) := gq rfl
noncomputable def N16_29 := cp B16 [2, 2, 2]
noncomputable def R16_19 := cp B16 [2, 2, 2, 1]
noncomputable def r16_19 := (⟨r_mk rfl (by simp only [R16_19, B16, code, Tryd.f16, dc, Poe]; exact rfl)⟩ : PLift (Goe E 16 R16_19 _))
theorem n16_29 : Gqe E 16 N16_29 (.seq R16_19 .ret) := gq rfl
theorem n16_2 : Gqe E 16 N16_2 (.seq N16_3 N16_29) := gq rfl
theorem n16_1 : Gqe E 16 N16_1 (.seq R16_1 N16_2) := gq rfl
theorem n16_0 : Gqe E 16 N16_0 (.seq R16_0 N16_1) := gq rfl
theorem en_16 {x0 : AVal} {st : ASt} {R : AEnd → ASt → Prop} (h : ∀ g : Nat → AVal, g 0 = x0 → Gc E 16 N16_0 [] (RQ E Tryd.f16 R) (Sl 85 g) st) : ∃ r st', rw E 16 [x0] st = some (r, st') ∧ R r st' :=
  en_of (fn := Tryd.f16) (c := N16_0) rfl rfl rfl (Nat.le_of_ble_eq_true rfl) fun g hg => h g (hg 0 x0 rfl)
theorem rq_16 (R : AEnd → ASt → Prop) (g : Nat → AVal) (st : ASt) : RQ E Tryd.f16 R .ret (Sl 85 g) st = R (.returned (g 2)) st := by
  rw [rq_gen (.inl rfl), show (Tryd.f16).results.toList = [.tmp 2] from rfl]
  simp only [aresB, sl_get, Nat.reduceLT, ↓reduceIte, bindK_some, tup]
theorem o_leni_34 (mt : Bool) (ty : TypeId) (cs : Array Bool) (sz : Nat) (es : List AVal) (c : Cap) (st : ASt) : builtinA E.P mt .len #[34] ty cs [.islice sz es c] st = some (.val (.lit (.int .i64 es.length)) st) := rfl
theorem o_lens_34 (mt : Bool) (ty : TypeId) (cs : Array Bool) (s o l sz : Nat) (c : Option Nat) (st : ASt) : builtinA E.P mt .len #[34] ty cs [.slice s o l sz c] st = some (.val (.lit (.int .i64 l)) st) := rfl
theorem o_lenn_34 (mt : Bool) (ty : TypeId) (cs : Array Bool) (a : Option Addr) (st : ASt) : builtinA E.P mt .len #[34] ty cs [.lit (.slice a 0 0)] st = some (.val (.lit (.int .i64 0)) st) := len_nil rfl _ _ _ _ _
theorem o_ixi_34 (sz : Nat) (es : List AVal) (c : Cap) (k : IntKind) (i : Int) : indexA E.P 34 (.islice sz es c) (.lit (.int k i)) = if 0 ≤ i ∧ i < es.length ∧ some 5 = some sz then (es[i.toNat]?).map .iptr else none := rfl
theorem o_ixs_34 (s o l sz : Nat) (c : Option Nat) (k : IntKind) (i : Int) : indexA E.P 34 (.slice s o l sz c) (.lit (.int k i)) = if 0 ≤ i ∧ i < l then some (.ptr s (o + i.toNat * 5)) else none := rfl
theorem o_ldp_41 (st : ASt) (s o : Nat) : loadA E.P 41 st (.ptr s o) = (blkOf (st.heap s)).bind (fun cs => if o + 5 ≤ cs.length then some (.agg ((cs.drop o).take 5)) else none) := ld_agg rfl rfl st s o
theorem o_ldi_41 (st : ASt) (cs : List AVal) : loadA E.P 41 st (.iptr (.agg cs)) = if cs.length = 5 then some (.agg cs) else none := rfl
theorem o_al_41 (st : ASt) : allocA E.P 41 st = some (.ptr st.ctr 0, st.new (.cells [.lit (.int .i64 0), .lit (.string ⟨#[]⟩), .lit (.complex .f64 0 0), .lit (.slice none 0 0), .lit (.int .i64 0)])) := rfl
theorem o_st_41 (st : ASt) (s o : Nat) (vs : List AVal) : storeA E.P 41 st (.ptr s o) (.agg vs) = (blkOf (st.heap s)).bind (fun cs => if vs.length = 5 ∧ o + vs.length ≤ cs.length ∧ vs.all AVal.isCell = true then some (st.set s (some (.cells (putL cs o vs)))) else none) := st_agg rfl st s o vs
theorem o_fap_41_0 (s o : Nat) : fieldA E.P 41 (.ptr s o) 0 = some (.ptr s (o + 0)) := rfl
theorem o_fai_41_0 (cs : List AVal) : fieldA E.P 41 (.iptr (.agg cs)) 0 = (cs[0]?).map .iptr := rfl
theorem o_ldp_23 (st : ASt) (s o : Nat) : loadA E.P 23 st (.ptr s o) = (blkOf (st.heap s)).bind (fun cs => cs[o]?) := ld_one rfl rfl st s o
theorem o_ldi_23 (st : ASt) (v : AVal) : loadA E.P 23 st (.iptr v) = if v.isCell = true then some v else none := rfl
theorem o_fap_41_1 (s o : Nat) : fieldA E.P 41 (.ptr s o) 1 = some (.ptr s (o + 1)) := rfl
theorem o_fai_41_1 (cs : List AVal) : fieldA E.P 41 (.iptr (.agg cs)) 1 = (cs[1]?).map .iptr := rfl
theorem o_fap_41_2 (s o : Nat) : fieldA E.P 41 (.ptr s o) 2 = some (.ptr s (o + 2)) := rfl
theorem o_fai_41_2 (cs : List AVal) : fieldA E.P 41 (.iptr (.agg cs)) 2 = (cs[2]?).map .iptr := rfl
theorem o_ldp_38 (st : ASt) (s o : Nat) : loadA E.P 38 st (.ptr s o) = (blkOf (st.heap s)).bind (fun cs => cs[o]?) := ld_one rfl rfl st s o
theorem o_ldi_38 (st : ASt) (v : AVal) : loadA E.P 38 st (.iptr v) = if v.isCell = true then some v else none := rfl
theorem cf_30 (a : List AVal) (st : ASt) : callFuncA E.P 30 a st = some (.enter 30 a st) := rfl
theorem o_fap_41_3 (s o : Nat) : fieldA E.P 41 (.ptr s o) 3 = some (.ptr s (o + 3)) := rfl
theorem o_fai_41_3 (cs : List AVal) : fieldA E.P 41 (.iptr (.agg cs)) 3 = (cs[3]?).map .iptr := rfl
theorem o_ldp_39 (st : ASt) (s o : Nat) : loadA E.P 39 st (.ptr s o) = (blkOf (st.heap s)).bind (fun cs => cs[o]?) := ld_one rfl rfl st s o
theorem o_ldi_39 (st : ASt) (v : AVal) : loadA E.P 39 st (.iptr v) = if v.isCell = true then some v else none := rfl
theorem cf_31 (a : List AVal) (st : ASt) : callFuncA E.P 31 a st = some (.enter 31 a st) := rfl

/-! ### braidwork/braidworklaw04.number -/
noncomputable def B30 : Code := code Tryd.f30
noncomputable def N30_0 := cp B30 []
noncomputable def R30_0 := cp B30 [1]
noncomputable def r30_0 := (⟨r_mk rfl (by simp only [R30_0, B30, code, Tryd.f30, dc, Poe]; exact rfl)⟩ : PLift (Goe E 30 R30_0 _))
noncomputable def N30_1 := cp B30 [2]
noncomputable def R30_1 := cp B30 [2, 1]
noncomputable def r30_1 := (⟨r_mk rfl (by simp only [R30_1, B30, code, Tryd.f30, dc, Poe]; exact rfl)⟩ : PLift (Goe E 30 R30_1 _))
noncomputable def N30_2 := cp B30 [2, 2]
noncomputable def N30_3 := cp B30 [2, 2, 1, 3]
noncomputable def R30_2 := cp B30 [2, 2, 1, 3, 1]
noncomputable def r30_2 := (⟨r_mk rfl (by simp only [R30_2, B30, code, Tryd.f30, dc, Poe]; exact rfl)⟩ : PLift (Goe E 30 R30_2 _))
noncomputable def N30_4 := cp B30 [2, 2, 1, 3, 2]
noncomputable def N30_5 := cp B30 [2, 2, 1, 3, 2, 6]
noncomputable def R30_3 := cp B30 [2, 2, 1, 3, 2, 6, 1]
noncomputable def r30_3 := (⟨r_mk rfl (by simp only [R30_3, B30, code, Tryd.f30, dc, Poe]; exact rfl)⟩ : PLift (Goe E 30 R30_3 _))
theorem n30_5 : Gqe E 30 N30_5 (.seq R30_3 .ret) := gq rfl
noncomputable def N30_6 := cp B30 [2, 2, 1, 3, 2, 7]
noncomputable def R30_4 := cp B30 [2, 2, 1, 3, 2, 7, 1]
noncomputable def r30_4 := (⟨r_mk rfl (by simp only [R30_4, B30, code, Tryd.f30, dc, Poe]; exact rfl)⟩ : PLift (Goe E 30 R30_4 _))
noncomputable def N30_7 := cp B30 [2, 2, 1, 3, 2, 7, 2]
noncomputable def N30_8 := cp B30 [2, 2, 1, 3, 2, 7, 2, 6]
noncomputable def R30_5 := cp B30 [2, 2, 1, 3, 2, 7, 2, 6, 1]
noncomputable def r30_5 := (⟨r_mk rfl (by simp only [R30_5, B30, code, Tryd.f30, dc, Poe]; exact rfl)⟩ : PLift (Goe E 30 R30_5 _))
theorem n30_8 : Gqe E 30 N30_8 (.seq R30_5 .ret) := gq rfl
noncomputable def N30_9 := cp B30 [2, 2, 1, 3, 2, 7, 2, 7]
noncomputable def R30_6 := cp B30 [2, 2, 1, 3, 2, 7, 2, 7, 1]
noncomputable def r30_6 := (⟨r_mk rfl (by simp only [R30_6, B30, code, Tryd.f30, dc, Poe]; exact rfl)⟩ : PLift (Goe E 30 R30_6 _))
noncomputable def N30_10 := cp B30 [2, 2, 1, 3, 2, 7, 2, 7, 2]
noncomputable def N30_11 := cp B30 [2, 2, 1, 3, 2, 7, 2, 7, 2, 6]
noncomputable def R30_7 := cp B30 [2, 2, 1, 3, 2, 7, 2, 7, 2, 6, 1]
noncomputable def r30_7 := (⟨r_mk rfl (by simp only [R30_7, B30, code, Tryd.f30, dc, Poe]; exact rfl)⟩ : PLift (Goe E 30 R30_7 _))
theorem n30_11 : Gqe E 30 N30_11 (.seq R30_7 .ret) := gq rfl
theorem n30_10 : Gqe E 30 N30_10 (.cond (.tmp 22) N30_11 .skip) := gq rfl
theorem n30_9 : Gqe E 30 N30_9 (.seq R30_6 N30_10) := gq rfl
theorem n30_7 : Gqe E 30 N30_7 (.cond (.tmp 16) N30_8 N30_9) := gq rfl
theorem n30_6 : Gqe E 30 N30_6 (.seq R30_4 N30_7) := gq rfl
theorem n30_4 : Gqe E 30 N30_4 (.cond (.tmp 11) N30_5 N30_6) := gq rfl
theorem n30_3 : Gqe E 30 N30_3 (.seq R30_2 N30_4) := gq rfl
noncomputable def N30_12 := cp B30 [2, 2, 2]
noncomputable def R30_8 := cp B30 [2, 2, 2, 1]
noncomputable def r30_8 := (⟨r_mk rfl (by simp only [R30_8, B30, code, Tryd.f30, dc, Poe]; exact rfl)⟩ : PLift (Goe E 30 R30_8 _))
theorem n30_12 : Gqe E 30 N30_12 (.seq R30_8 .ret) := gq rfl
theorem n30_2 : Gqe E 30 N30_2 (.seq (.block 0 N30_3) N30_12) := gq rfl
theorem n30_1 : Gqe E 30 N30_1 (.seq R30_1 N30_2) := gq rfl
theorem n30_0 : Gqe E 30 N30_0 (.seq R30_0 N30_1) := gq rfl
theorem en_30 {x0 : AVal} {st : ASt} {R : AEnd → ASt → Prop} (h : ∀ g : Nat → AVal, g 0 = x0 → Gc E 30 N30_0 [] (RQ E Tryd.f30 R) (Sl 38 g) st) : ∃ r st', rw E 30 [x0] st = some (r, st') ∧ R r st' :=
  en_of (fn := Tryd.f30) (c := N30_0) rfl rfl rfl (Nat.le_of_ble_eq_true rfl) fun g hg => h g (hg 0 x0 rfl)
theorem rq_30 (R : AEnd → ASt → Prop) (g : Nat → AVal) (st : ASt) : RQ E Tryd.f30 R .ret (Sl 38 g) st = R (.returned (g 2)) st := by
  rw [rq_gen (.inl rfl), show (Tryd.f30).results.toList = [.tmp 2] from rfl]
  simp only [aresB, sl_get, Nat.reduceLT, ↓reduceIte, bindK_some, tup]
theorem hint_30_7 : E.hint 30 7 = false := rfl
theorem hint_30_10 : E.hint 30 10 = false := rfl
theorem cf_43 (a : List AVal) (st : ASt) : callFuncA E.P 43 a st = some (.enter 43 a st) := rfl

/-! ### braidwork/braidworklaw04.block -/
noncomputable def B31 : Code := code Tryd.f31
noncomputable def N31_0 := cp B31 []
noncomputable def R31_0 := cp B31 [1]
noncomputable def r31_0 := (⟨r_mk rfl (by simp only [R31_0, B31, code, Tryd.f31, dc, Poe]; exact rfl)⟩ : PLift (Goe E 31 R31_0 _))
noncomputable def N31_1 := cp B31 [2]
noncomputable def R31_1 := cp B31 [2, 1]
noncomputable def r31_1 := (⟨r_mk rfl (by simp only [R31_1, B31, code, Tryd.f31, dc, Poe]; exact rfl)⟩ : PLift (Goe E 31 R31_1 _))
noncomputable def N31_2 := cp B31 [2, 2]
noncomputable def N31_3 := cp B31 [2, 2, 1]
noncomputable def R31_2 := cp B31 [2, 2, 1, 1]
noncomputable def r31_2 := (⟨r_mk rfl (by simp only [R31_2, B31, code, Tryd.f31, dc, Poe]; exact rfl)⟩ : PLift (Goe E 31 R31_2 _))
noncomputable def N31_4 := cp B31 [2, 2, 1, 2]
noncomputable def L31_0 := cp B31 [2, 2, 1, 2, 3, 4]
noncomputable def R31_3 := cp B31 [2, 2, 1, 2, 3, 4, 1]
noncomputable def r31_3 := (⟨r_mk rfl (by simp only [R31_3, B31, code, Tryd.f31, dc, Poe]; exact rfl)⟩ : PLift (Goe E 31 R31_3 _))
noncomputable def N31_5 := cp B31 [2, 2, 1, 2, 3, 4, 2]
noncomputable def N31_6 := cp B31 [2, 2, 1, 2, 3, 4, 2, 2]
noncomputable def N31_7 := cp B31 [2, 2, 1, 2, 3, 4, 2, 2, 1, 3]
noncomputable def R31_4 := cp B31 [2, 2, 1, 2, 3, 4, 2, 2, 1, 3, 1]
noncomputable def r31_4 := (⟨r_mk rfl (by simp only [R31_4, B31, code, Tryd.f31, dc, Poe]; exact rfl)⟩ : PLift (Goe E 31 R31_4 _))
noncomputable def N31_8 := cp B31 [2, 2, 1, 2, 3, 4, 2, 2, 1, 3, 2]
noncomputable def R31_5 := cp B31 [2, 2, 1, 2, 3, 4, 2, 2, 1, 3, 2]
noncomputable def r31_5 := (⟨r_mk rfl (by simp only [R31_5, B31, code, Tryd.f31, dc, Poe]; exact rfl)⟩ : PLift (Goe E 31 R31_5 _))
theorem n31_8 : Gqe E 31 N31_8 R31_5 := gq rfl
theorem n31_7 : Gqe E 31 N31_7 (.seq R31_4 N31_8) := gq rfl
noncomputable def N31_9 := cp B31 [2, 2, 1, 2, 3, 4, 2, 2, 2]
noncomputable def R31_6 := cp B31 [2, 2, 1, 2, 3, 4, 2, 2, 2]
noncomputable def r31_6 := (⟨r_mk rfl (by simp only [R31_6, B31, code, Tryd.f31, dc, Poe]; exact rfl)⟩ : PLift (Goe E 31 R31_6 _))
theorem n31_9 : Gqe E 31 N31_9 R31_6 := gq rfl
theorem n31_6 : Gqe E 31 N31_6 (.seq (.block 1 N31_7) N31_9) := gq rfl
theorem n31_5 : Gqe E 31 N31_5 (.seq (.cond (.tmp 9) .skip (.exit 0)) N31_6) := gq rfl
theorem l31_0 : Gqe E 31 L31_0 (.seq R31_3 N31_5) := gq rfl
theorem n31_4 : Gqe E 31 N31_4 (.block 0 (.loop L31_0)) := gq rfl
theorem n31_3 : Gqe E 31 N31_3 (.seq R31_2 N31_4) := gq rfl
noncomputable def N31_10 := cp B31 [2, 2, 2]
noncomputable def R31_7 := cp B31 [2, 2, 2, 1]
noncomputable def r31_7 := (⟨r_mk rfl (by simp only [R31_7, B31, code, Tryd.f31, dc, Poe]; exact rfl)⟩ : PLift (Goe E 31 R31_7 _))
theorem n31_10 : Gqe E 31 N31_10 (.seq R31_7 .ret) := gq rfl
theorem n31_2 : Gqe E 31 N31_2 (.seq N31_3 N31_10) := gq rfl
theorem n31_1 : Gqe E 31 N31_1 (.seq R31_1 N31_2) := gq rfl
theorem n31_0 : Gqe E 31 N31_0 (.seq R31_0 N31_1) := gq rfl
theorem en_31 {x0 : AVal} {st : ASt} {R : AEnd → ASt → Prop} (h : ∀ g : Nat → AVal, g 0 = x0 → Gc E 31 N31_0 [] (RQ E Tryd.f31 R) (Sl 19 g) st) : ∃ r st', rw E 31 [x0] st = some (r, st') ∧ R r st' :=
  en_of (fn := Tryd.f31) (c := N31_0) rfl rfl rfl (Nat.le_of_ble_eq_true rfl) fun g hg => h g (hg 0 x0 rfl)
theorem rq_31 (R : AEnd → ASt → Prop) (g : Nat → AVal) (st : ASt) : RQ E Tryd.f31 R .ret (Sl 19 g) st = R (.returned (g 2)) st := by
  rw [rq_gen (.inl rfl), show (Tryd.f31).results.toList = [.tmp 2] from rfl]
  simp only [aresB, sl_get, Nat.reduceLT, ↓reduceIte, bindK_some, tup]
theorem o_leni_39 (mt : Bool) (ty : TypeId) (cs : Array Bool) (sz : Nat) (es : List AVal) (c : Cap) (st : ASt) : builtinA E.P mt .len #[39] ty cs [.islice sz es c] st = some (.val (.lit (.int .i64 es.length)) st) := rfl
theorem o_lens_39 (mt : Bool) (ty : TypeId) (cs : Array Bool) (s o l sz : Nat) (c : Option Nat) (st : ASt) : builtinA E.P mt .len #[39] ty cs [.slice s o l sz c] st = some (.val (.lit (.int .i64 l)) st) := rfl
theorem o_lenn_39 (mt : Bool) (ty : TypeId) (cs : Array Bool) (a : Option Addr) (st : ASt) : builtinA E.P mt .len #[39] ty cs [.lit (.slice a 0 0)] st = some (.val (.lit (.int .i64 0)) st) := len_nil rfl _ _ _ _ _
theorem o_ixi_39 (sz : Nat) (es : List AVal) (c : Cap) (k : IntKind) (i : Int) : indexA E.P 39 (.islice sz es c) (.lit (.int k i)) = if 0 ≤ i ∧ i < es.length ∧ some 8 = some sz then (es[i.toNat]?).map .iptr else none := rfl
theorem o_ixs_39 (s o l sz : Nat) (c : Option Nat) (k : IntKind) (i : Int) : indexA E.P 39 (.slice s o l sz c) (.lit (.int k i)) = if 0 ≤ i ∧ i < l then some (.ptr s (o + i.toNat * 8)) else none := rfl
theorem cf_44 (a : List AVal) (st : ASt) : callFuncA E.P 44 a st = some (.enter 44 a st) := rfl

/-! ### braidwork/braidworklaw04.stmt -/
noncomputable def B44 : Code := code Tryd.f44
noncomputable def N44_0 := cp B44 []
noncomputable def R44_0 := cp B44 [1]
noncomputable def r44_0 := (⟨r_mk rfl (by simp only [R44_0, B44, code, Tryd.f44, dc, Poe]; exact rfl)⟩ : PLift (Goe E 44 R44_0 _))
noncomputable def N44_1 := cp B44 [2]
noncomputable def R44_1 := cp B44 [2, 1]
noncomputable def r44_1 := (⟨r_mk rfl (by simp only [R44_1, B44, code, Tryd.f44, dc, Poe]; exact rfl)⟩ : PLift (Goe E 44 R44_1 _))
noncomputable def N44_2 := cp B44 [2, 2]
noncomputable def N44_3 := cp B44 [2, 2, 1]
noncomputable def R44_2 := cp B44 [2, 2, 1, 1]
noncomputable def r44_2 := (⟨r_mk rfl (by simp only [R44_2, B44, code, Tryd.f44, dc, Poe]; exact rfl)⟩ : PLift (Goe E 44 R44_2 _))
noncomputable def N44_4 := cp B44 [2, 2, 1, 2]
noncomputable def L44_0 := cp B44 [2, 2, 1, 2, 3, 4]
noncomputable def R44_3 := cp B44 [2, 2, 1, 2, 3, 4, 1]
noncomputable def r44_3 := (⟨r_mk rfl (by simp only [R44_3, B44, code, Tryd.f44, dc, Poe]; exact rfl)⟩ : PLift (Goe E 44 R44_3 _))
noncomputable def N44_5 := cp B44 [2, 2, 1, 2, 3, 4, 2]
noncomputable def N44_6 := cp B44 [2, 2, 1, 2, 3, 4, 2, 2]
noncomputable def N44_7 := cp B44 [2, 2, 1, 2, 3, 4, 2, 2, 1, 3]
noncomputable def R44_4 := cp B44 [2, 2, 1, 2, 3, 4, 2, 2, 1, 3, 1]
noncomputable def r44_4 := (⟨r_mk rfl (by simp only [R44_4, B44, code, Tryd.f44, dc, Poe]; exact rfl)⟩ : PLift (Goe E 44 R44_4 _))
noncomputable def N44_8 := cp B44 [2, 2, 1, 2, 3, 4, 2, 2, 1, 3, 2]
noncomputable def R44_5 := cp B44 [2, 2, 1, 2, 3, 4, 2, 2, 1, 3, 2]
noncomputable def r44_5 := (⟨r_mk rfl (by simp only [R44_5, B44, code, Tryd.f44, dc, Poe]; exact rfl)⟩ : PLift (Goe E 44 R44_5 _))
theorem n44_8 : Gqe E 44 N44_8 R44_5 := gq rfl
theorem n44_7 : Gqe E 44 N44_7 (.seq R44_4 N44_8) := gq rfl
noncomputable def N44_9 := cp B44 [2, 2, 1, 2, 3, 4, 2, 2, 2]
noncomputable def R44_6 := cp B44 [2, 2, 1, 2, 3, 4, 2, 2, 2]
noncomputable def r44_6 := (⟨r_mk rfl (by simp only [R44_6, B44, code, Tryd.f44, dc, Poe]; exact rfl)⟩ : PLift (Goe E 44 R44_6 _))
theorem n44_9 : Gqe E 44 N44_9 R44_6 := gq rfl
theorem n44_6 : Gqe E 44 N44_6 (.seq (.block 1 N44_7) N44_9) := gq rfl
theorem n44_5 : Gqe E 44 N44_5 (.seq (.cond (.tmp 14) .skip (.exit 0)) N44_6) := gq rfl
theorem l44_0 : Gqe E 44 L44_0 (.seq R44_3 N44_5) := gq rfl
theorem n44_4 : Gqe E 44 N44_4 (.block 0 (.loop L44_0)) := gq rfl
theorem n44_3 : Gqe E 44 N44_3 (.seq R44_2 N44_4) := gq rfl
noncomputable def N44_10 := cp B44 [2, 2, 2]
noncomputable def R44_7 := cp B44 [2, 2, 2, 1]
noncomputable def r44_7 := (⟨r_mk rfl (by simp only [R44_7, B44, code, Tryd.f44, dc, Poe]; exact rfl)⟩ : PLift (Goe E 44 R44_7 _))
noncomputable def N44_11 := cp B44 [2, 2, 2, 2]
noncomputable def N44_12 := cp B44 [2, 2, 2, 2, 1]
noncomputable def R44_8 := cp B44 [2, 2, 2, 2, 1, 1]
noncomputable def r44_8 := (⟨r_mk rfl (by simp only [R44_8, B44, code, Tryd.f44, dc, Poe]; exact rfl)⟩ : PLift (Goe E 44 R44_8 _))
noncomputable def N44_13 := cp B44 [2, 2, 2, 2, 1, 2]
noncomputable def N44_14 := cp B44 [2, 2, 2, 2, 1, 2, 6]
noncomputable def R44_9 := cp B44 [2, 2, 2, 2, 1, 2, 6]
noncomputable def r44_9 := (⟨r_lex rfl (by kernel_rfl) (by simp only [R44_9, B44, code, Tryd.f44, dc, Poe]; exact rfl)⟩ : PLift (Goe E 44 R44_9 _))
theorem n44_14 : Gqe E 44 N44_14 R44_9 := gq rfl
theorem n44_13 : Gqe E 44 N44_13 (.cond (.tmp 26) N44_14 .skip) := gq rfl
theorem n44_12 : Gqe E 44 N44_12 (.seq R44_8 N44_13) := gq rfl
noncomputable def N44_15 := cp B44 [2, 2, 2, 2, 2]
noncomputable def R44_10 := cp B44 [2, 2, 2, 2, 2, 1]
noncomputable def r44_10 := (⟨r_mk rfl (by simp only [R44_10, B44, code, Tryd.f44, dc, Poe]; exact rfl)⟩ : PLift (Goe E 44 R44_10 _))
noncomputable def N44_16 := cp B44 [2, 2, 2, 2, 2, 2]
noncomputable def R44_11 := cp B44 [2, 2, 2, 2, 2, 2, 1]
noncomputable def r44_11 := (⟨r_mk rfl (by simp only [R44_11, B44, code, Tryd.f44, dc, Poe]; exact rfl)⟩ : PLift (Goe E 44 R44_11 _))
noncomputable def N44_17 := cp B44 [2, 2, 2, 2, 2, 2, 2]
noncomputable def N44_18 := cp B44 [2, 2, 2, 2, 2, 2, 2, 1]
noncomputable def R44_12 := cp B44 [2, 2, 2, 2, 2, 2, 2, 1, 1]
noncomputable def r44_12 := (⟨r_mk rfl (by simp only [R44_12, B44, code, Tryd.f44, dc, Poe]; exact rfl)⟩ : PLift (Goe E 44 R44_12 _))
noncomputable def N44_19 := cp B44 [2, 2, 2, 2, 2, 2, 2, 1, 2]
noncomputable def N44_20 := cp B44 [2, 2, 2, 2, 2, 2, 2, 1, 2, 3]
noncomputable def R44_13 := cp B44 [2, 2, 2, 2, 2, 2, 2, 1, 2, 3, 1]
noncomputable def r44_13 := (⟨r_mk rfl (by simp only [R44_13, B44, code, Tryd.f44, dc, Poe]; exact rfl)⟩ : PLift (Goe E 44 R44_13 _))
noncomputable def N44_21 := cp B44 [2, 2, 2, 2, 2, 2, 2, 1, 2, 3, 2]
noncomputable def N44_22 := cp B44 [2, 2, 2, 2, 2, 2, 2, 1, 2, 3, 2, 6]
noncomputable def R44_14 := cp B44 [2, 2, 2, 2, 2, 2, 2, 1, 2, 3, 2, 6, 1]
noncomputable def r44_14 := (⟨r_mk rfl (by simp only [R44_14, B44, code, Tryd.f44, dc, Poe]; exact rfl)⟩ : PLift (Goe E 44 R44_14 _))
theorem n44_22 : Gqe E 44 N44_22 (.seq R44_14 .ret) := gq rfl
noncomputable def N44_23 := cp B44 [2, 2, 2, 2, 2, 2, 2, 1, 2, 3, 2, 7]
noncomputable def N44_24 := cp B44 [2, 2, 2, 2, 2, 2, 2, 1, 2, 3, 2, 7, 1]
noncomputable def R44_15 := cp B44 [2, 2, 2, 2, 2, 2, 2, 1, 2, 3, 2, 7, 1, 1]
noncomputable def r44_15 := (⟨r_mk rfl (by simp only [R44_15, B44, code, Tryd.f44, dc, Poe]; exact rfl)⟩ : PLift (Goe E 44 R44_15 _))
noncomputable def N44_25 := cp B44 [2, 2, 2, 2, 2, 2, 2, 1, 2, 3, 2, 7, 1, 2]
noncomputable def N44_26 := cp B44 [2, 2, 2, 2, 2, 2, 2, 1, 2, 3, 2, 7, 1, 2, 7]
noncomputable def R44_16 := cp B44 [2, 2, 2, 2, 2, 2, 2, 1, 2, 3, 2, 7, 1, 2, 7]
noncomputable def r44_16 := (⟨r_mk rfl (by simp only [R44_16, B44, code, Tryd.f44, dc, Poe]; exact rfl)⟩ : PLift (Goe E 44 R44_16 _))
theorem n44_26 : Gqe E 44 N44_26 R44_16 := gq rfl
theorem n44_25 : Gqe E 44 N44_25 (.cond (.tmp 53) .skip N44_26) := gq rfl
theorem n44_24 : Gqe E 44 N44_24 (.seq R44_15 N44_25) := gq rfl
noncomputable def N44_27 := cp B44 [2, 2, 2, 2, 2, 2, 2, 1, 2, 3, 2, 7, 2]
noncomputable def N44_28 := cp B44 [2, 2, 2, 2, 2, 2, 2, 1, 2, 3, 2, 7, 2, 6]
noncomputable def R44_17 := cp B44 [2, 2, 2, 2, 2, 2, 2, 1, 2, 3, 2, 7, 2, 6, 1]
noncomputable def r44_17 := (⟨r_mk rfl (by simp only [R44_17, B44, code, Tryd.f44, dc, Poe]; exact rfl)⟩ : PLift (Goe E 44 R44_17 _))
theorem n44_28 : Gqe E 44 N44_28 (.seq R44_17 .ret) := gq rfl
noncomputable def N44_29 := cp B44 [2, 2, 2, 2, 2, 2, 2, 1, 2, 3, 2, 7, 2, 7]
noncomputable def N44_30 := cp B44 [2, 2, 2, 2, 2, 2, 2, 1, 2, 3, 2, 7, 2, 7, 1]
noncomputable def R44_18 := cp B44 [2, 2, 2, 2, 2, 2, 2, 1, 2, 3, 2, 7, 2, 7, 1, 1]
noncomputable def r44_18 := (⟨r_mk rfl (by simp only [R44_18, B44, code, Tryd.f44, dc, Poe]; exact rfl)⟩ : PLift (Goe E 44 R44_18 _))
noncomputable def N44_31 := cp B44 [2, 2, 2, 2, 2, 2, 2, 1, 2, 3, 2, 7, 2, 7, 1, 2]
noncomputable def N44_32 := cp B44 [2, 2, 2, 2, 2, 2, 2, 1, 2, 3, 2, 7, 2, 7, 1, 2, 7]
noncomputable def R44_19 := cp B44 [2, 2, 2, 2, 2, 2, 2, 1, 2, 3, 2, 7, 2, 7, 1, 2, 7, 1]
noncomputable def r44_19 := (⟨r_mk rfl (by simp only [R44_19, B44, code, Tryd.f44, dc, Poe]; exact rfl)⟩ : PLift (Goe E 44 R44_19 _))
noncomputable def N44_33 := cp B44 [2, 2, 2, 2, 2, 2, 2, 1, 2, 3, 2, 7, 2, 7, 1, 2, 7, 2]
noncomputable def N44_34 := cp B44 [2, 2, 2, 2, 2, 2, 2, 1, 2, 3, 2, 7, 2, 7, 1, 2, 7, 2, 7]
noncomputable def R44_20 := cp B44 [2, 2, 2, 2, 2, 2, 2, 1, 2, 3, 2, 7, 2, 7, 1, 2, 7, 2, 7]
noncomputable def r44_20 := (⟨r_mk rfl (by simp only [R44_20, B44, code, Tryd.f44, dc, Poe]; exact rfl)⟩ : PLift (Goe E 44 R44_20 _))
theorem n44_34 : Gqe E 44 N44_34 R44_20 := gq rfl
theorem n44_33 : Gqe E 44 N44_33 (.cond (.tmp 65) .skip N44_34) := gq rfl
theorem n44_32 : Gqe E 44 N44_32 (.seq R44_19 N44_33) := gq rfl
theorem n44_31 : Gqe E 44 N44_31 (.cond (.tmp 65) .skip N44_32) := gq rfl
theorem n44_30 : Gqe E 44 N44_30 (.seq R44_18 N44_31) := gq rfl
noncomputable def N44_35 := cp B44 [2, 2, 2, 2, 2, 2, 2, 1, 2, 3, 2, 7, 2, 7, 2]
noncomputable def N44_36 := cp B44 [2, 2, 2, 2, 2, 2, 2, 1, 2, 3, 2, 7, 2, 7, 2, 6]
noncomputable def R44_21 := cp B44 [2, 2, 2, 2, 2, 2, 2, 1, 2, 3, 2, 7, 2, 7, 2, 6, 1]
noncomputable def r44_21 := (⟨r_mk rfl (by simp only [R44_21, B44, code, Tryd.f44, dc, Poe]; exact rfl)⟩ : PLift (Goe E 44 R44_21 _))
theorem n44_36 : Gqe E 44 N44_36 (.seq R44_21 .ret) := gq rfl
noncomputable def N44_37 := cp B44 [2, 2, 2, 2, 2, 2, 2, 1, 2, 3, 2, 7, 2, 7, 2, 7]
noncomputable def R44_22 := cp B44 [2, 2, 2, 2, 2, 2, 2, 1, 2, 3, 2, 7, 2, 7, 2, 7, 1]
noncomputable def r44_22 := (⟨r_mk rfl (by simp only [R44_22, B44, code, Tryd.f44, dc, Poe]; exact rfl)⟩ : PLift (Goe E 44 R44_22 _))
noncomputable def N44_38 := cp B44 [2, 2, 2, 2, 2, 2, 2, 1, 2, 3, 2, 7, 2, 7, 2, 7, 2]
noncomputable def N44_39 := cp B44 [2, 2, 2, 2, 2, 2, 2, 1, 2, 3, 2, 7, 2, 7, 2, 7, 2, 6]
noncomputable def R44_23 := cp B44 [2, 2, 2, 2, 2, 2, 2, 1, 2, 3, 2, 7, 2, 7, 2, 7, 2, 6, 1]
noncomputable def r44_23 := (⟨r_mk rfl (by simp only [R44_23, B44, code, Tryd.f44, dc, Poe]; exact rfl)⟩ : PLift (Goe E 44 R44_23 _))
theorem n44_39 : Gqe E 44 N44_39 (.seq R44_23 .ret) := gq rfl
noncomputable def N44_40 := cp B44 [2, 2, 2, 2, 2, 2, 2, 1, 2, 3, 2, 7, 2, 7, 2, 7, 2, 7]
noncomputable def N44_41 := cp B44 [2, 2, 2, 2, 2, 2, 2, 1, 2, 3, 2, 7, 2, 7, 2, 7, 2, 7, 1]
noncomputable def R44_24 := cp B44 [2, 2, 2, 2, 2, 2, 2, 1, 2, 3, 2, 7, 2, 7, 2, 7, 2, 7, 1, 1]
noncomputable def r44_24 := (⟨r_mk rfl (by simp only [R44_24, B44, code, Tryd.f44, dc, Poe]; exact rfl)⟩ : PLift (Goe E 44 R44_24 _))
noncomputable def N44_42 := cp B44 [2, 2, 2, 2, 2, 2, 2, 1, 2, 3, 2, 7, 2, 7, 2, 7, 2, 7, 1, 2]
noncomputable def N44_43 := cp B44 [2, 2, 2, 2, 2, 2, 2, 1, 2, 3, 2, 7, 2, 7, 2, 7, 2, 7, 1, 2, 7]
noncomputable def R44_25 := cp B44 [2, 2, 2, 2, 2, 2, 2, 1, 2, 3, 2, 7, 2, 7, 2, 7, 2, 7, 1, 2, 7]
noncomputable def r44_25 := (⟨r_mk rfl (by simp only [R44_25, B44, code, Tryd.f44, dc, Poe]; exact rfl)⟩ : PLift (Goe E 44 R44_25 _))
theorem n44_43 : Gqe E 44 N44_43 R44_25 := gq rfl
theorem n44_42 : Gqe E 44 N44_42 (.cond (.tmp 89) .skip N44_43) := gq rfl
theorem n44_41 : Gqe E 44 N44_41 (.seq R44_24 N44_42) := gq rfl
noncomputable def N44_44 := cp B44 [2, 2, 2, 2, 2, 2, 2, 1, 2, 3, 2, 7, 2, 7, 2, 7, 2, 7, 2]
noncomputable def N44_45 := cp B44 [2, 2, 2, 2, 2, 2, 2, 1, 2, 3, 2, 7, 2, 7, 2, 7, 2, 7, 2, 6]
noncomputable def R44_26 := cp B44 [2, 2, 2, 2, 2, 2, 2, 1, 2, 3, 2, 7, 2, 7, 2, 7, 2, 7, 2, 6, 1]
noncomputable def r44_26 := (⟨r_mk rfl (by simp only [R44_26, B44, code, Tryd.f44, dc, Poe]; exact rfl)⟩ : PLift (Goe E 44 R44_26 _))
theorem n44_45 : Gqe E 44 N44_45 (.seq R44_26 .ret) := gq rfl
noncomputable def N44_46 := cp B44 [2, 2, 2, 2, 2, 2, 2, 1, 2, 3, 2, 7, 2, 7, 2, 7, 2, 7, 2, 7]
noncomputable def N44_47 := cp B44 [2, 2, 2, 2, 2, 2, 2, 1, 2, 3, 2, 7, 2, 7, 2, 7, 2, 7, 2, 7, 1]
noncomputable def R44_27 := cp B44 [2, 2, 2, 2, 2, 2, 2, 1, 2, 3, 2, 7, 2, 7, 2, 7, 2, 7, 2, 7, 1, 1]
noncomputable def r44_27 := (⟨r_mk rfl (by simp only [R44_27, B44, code, Tryd.f44, dc, Poe]; exact rfl)⟩ : PLift (Goe E 44 R44_27 _))
noncomputable def N44_48 := cp B44 [2, 2, 2, 2, 2, 2, 2, 1, 2, 3, 2, 7, 2, 7, 2, 7, 2, 7, 2, 7, 1, 2]
noncomputable def N44_49 := cp B44 [2, 2, 2, 2, 2, 2, 2, 1, 2, 3, 2, 7, 2, 7, 2, 7, 2, 7, 2, 7, 1, 2, 7]
noncomputable def R44_28 := cp B44 [2, 2, 2, 2, 2, 2, 2, 1, 2, 3, 2, 7, 2, 7, 2, 7, 2, 7, 2, 7, 1, 2, 7]
noncomputable def r44_28 := (⟨r_mk rfl (by simp only [R44_28, B44, code, Tryd.f44, dc, Poe]; exact rfl)⟩ : PLift (Goe E 44 R44_28 _))
theorem n44_49 : Gqe E 44 N44_49 R44_28 := gq rfl
theorem n44_48 : Gqe E 44 N44_48 (.cond (.tmp 97) .skip N44_49) := gq rfl
theorem n44_47 : Gqe E 44 N44_47 (.seq R44_27 N44_48) := gq rfl
noncomputable def N44_50 := cp B44 [2, 2, 2, 2, 2, 2, 2, 1, 2, 3, 2, 7, 2, 7, 2, 7, 2, 7, 2, 7, 2]
noncomputable def N44_51 := cp B44 [2, 2, 2, 2, 2, 2, 2, 1, 2, 3, 2, 7, 2, 7, 2, 7, 2, 7, 2, 7, 2, 6]
noncomputable def R44_29 := cp B44 [2, 2, 2, 2, 2, 2, 2, 1, 2, 3, 2, 7, 2, 7, 2, 7, 2, 7, 2, 7, 2, 6, 1]
noncomputable def r44_29 := (⟨r_mk rfl (by simp only [R44_29, B44, code, Tryd.f44, dc, Poe]; exact rfl)⟩ : PLift (Goe E 44 R44_29 _))
noncomputable def N44_52 := cp B44 [2, 2, 2, 2, 2, 2, 2, 1, 2, 3, 2, 7, 2, 7, 2, 7, 2, 7, 2, 7, 2, 6, 2]
noncomputable def N44_53 := cp B44 [2, 2, 2, 2, 2, 2, 2, 1, 2, 3, 2, 7, 2, 7, 2, 7, 2, 7, 2, 7, 2, 6, 2, 1]
noncomputable def R44_30 := cp B44 [2, 2, 2, 2, 2, 2, 2, 1, 2, 3, 2, 7, 2, 7, 2, 7, 2, 7, 2, 7, 2, 6, 2, 1, 1]
noncomputable def r44_30 := (⟨r_mk rfl (by simp only [R44_30, B44, code, Tryd.f44, dc, Poe]; exact rfl)⟩ : PLift (Goe E 44 R44_30 _))
noncomputable def N44_54 := cp B44 [2, 2, 2, 2, 2, 2, 2, 1, 2, 3, 2, 7, 2, 7, 2, 7, 2, 7, 2, 7, 2, 6, 2, 1, 2]
noncomputable def N44_55 := cp B44 [2, 2, 2, 2, 2, 2, 2, 1, 2, 3, 2, 7, 2, 7, 2, 7, 2, 7, 2, 7, 2, 6, 2, 1, 2, 6]
noncomputable def R44_31 := cp B44 [2, 2, 2, 2, 2, 2, 2, 1, 2, 3, 2, 7, 2, 7, 2, 7, 2, 7, 2, 7, 2, 6, 2, 1, 2, 6]
noncomputable def r44_31 := (⟨r_mk rfl (by simp only [R44_31, B44, code, Tryd.f44, dc, Poe]; exact rfl)⟩ : PLift (Goe E 44 R44_31 _))
theorem n44_55 : Gqe E 44 N44_55 R44_31 := gq rfl
theorem n44_54 : Gqe E 44 N44_54 (.cond (.tmp 111) N44_55 .skip) := gq rfl
theorem n44_53 : Gqe E 44 N44_53 (.seq R44_30 N44_54) := gq rfl
noncomputable def N44_56 := cp B44 [2, 2, 2, 2, 2, 2, 2, 1, 2, 3, 2, 7, 2, 7, 2, 7, 2, 7, 2, 7, 2, 6, 2, 2]
noncomputable def R44_32 := cp B44 [2, 2, 2, 2, 2, 2, 2, 1, 2, 3, 2, 7, 2, 7, 2, 7, 2, 7, 2, 7, 2, 6, 2, 2, 1]
noncomputable def r44_32 := (⟨r_mk rfl (by simp only [R44_32, B44, code, Tryd.f44, dc, Poe]; exact rfl)⟩ : PLift (Goe E 44 R44_32 _))
theorem n44_56 : Gqe E 44 N44_56 (.seq R44_32 .ret) := gq rfl
theorem n44_52 : Gqe E 44 N44_52 (.seq N44_53 N44_56) := gq rfl
theorem n44_51 : Gqe E 44 N44_51 (.seq R44_29 N44_52) := gq rfl
theorem n44_50 : Gqe E 44 N44_50 (.cond (.tmp 97) N44_51 .skip) := gq rfl
theorem n44_46 : Gqe E 44 N44_46 (.seq N44_47 N44_50) := gq rfl
theorem n44_44 : Gqe E 44 N44_44 (.cond (.tmp 89) N44_45 N44_46) := gq rfl
theorem n44_40 : Gqe E 44 N44_40 (.seq N44_41 N44_44) := gq rfl
theorem n44_38 : Gqe E 44 N44_38 (.cond (.tmp 81) N44_39 N44_40) := gq rfl
theorem n44_37 : Gqe E 44 N44_37 (.seq R44_22 N44_38) := gq rfl
theorem n44_35 : Gqe E 44 N44_35 (.cond (.tmp 65) N44_36 N44_37) := gq rfl
theorem n44_29 : Gqe E 44 N44_29 (.seq N44_30 N44_35) := gq rfl
theorem n44_27 : Gqe E 44 N44_27 (.cond (.tmp 53) N44_28 N44_29) := gq rfl
theorem n44_23 : Gqe E 44 N44_23 (.seq N44_24 N44_27) := gq rfl
theorem n44_21 : Gqe E 44 N44_21 (.cond (.tmp 45) N44_22 N44_23) := gq rfl
theorem n44_20 : Gqe E 44 N44_20 (.seq R44_13 N44_21) := gq rfl
theorem n44_19 : Gqe E 44 N44_19 (.block 2 N44_20) := gq rfl
theorem n44_18 : Gqe E 44 N44_18 (.seq R44_12 N44_19) := gq rfl
noncomputable def N44_57 := cp B44 [2, 2, 2, 2, 2, 2, 2, 2]
noncomputable def R44_33 := cp B44 [2, 2, 2, 2, 2, 2, 2, 2, 1]
noncomputable def r44_33 := (⟨r_mk rfl (by simp only [R44_33, B44, code, Tryd.f44, dc, Poe]; exact rfl)⟩ : PLift (Goe E 44 R44_33 _))
theorem n44_57 : Gqe E 44 N44_57 (.seq R44_33 .ret) := gq rfl
theorem n44_17 : Gqe E 44 N44_17 (.seq N44_18 N44_57) := gq rfl
theorem n44_16 : Gqe E 44 N44_16 (.seq R44_11 N44_17) := gq rfl
theorem n44_15 : Gqe E 44 N44_15 (.seq R44_10 N44_16) := gq rfl
theorem n44_11 : Gqe E 44 N44_11 (.seq N44_12 N44_15) := gq rfl
theorem n44_10 : Gqe E 44 N44_10 (.seq R44_7 N44_11) := gq rfl
theorem n44_2 : Gqe E 44 N44_2 (.seq N44_3 N44_10) := gq rfl
theorem n44_1 : Gqe E 44 N44_1 (.seq R44_1 N44_2) := gq rfl
theorem n44_0 : Gqe E 44 N44_0 (.seq R44_0 N44_1) := gq rfl
theorem en_44 {x0 : AVal} {st : ASt} {R : AEnd → ASt → Prop} (h : ∀ g : Nat → AVal, g 0 = x0 → Gc E 44 N44_0 [] (RQ E Tryd.f44 R) (Sl 125 g) st) : ∃ r st', rw E 44 [x0] st = some (r, st') ∧ R r st' :=
  en_of (fn := Tryd.f44) (c := N44_0) rfl rfl rfl (Nat.le_of_ble_eq_true rfl) fun g hg => h g (hg 0 x0 rfl)
theorem rq_44 (R : AEnd → ASt → Prop) (g : Nat → AVal) (st : ASt) : RQ E Tryd.f44 R .ret (Sl 125 g) st = R (.returned (g 2)) st := by
  rw [rq_gen (.inl rfl), show (Tryd.f44).results.toList = [.tmp 2] from rfl]
  simp only [aresB, sl_get, Nat.reduceLT, ↓reduceIte, bindK_some, tup]
theorem o_leni_46 (mt : Bool) (ty : TypeId) (cs : Array Bool) (sz : Nat) (es : List AVal) (c : Cap) (st : ASt) : builtinA E.P mt .len #[46] ty cs [.islice sz es c] st = some (.val (.lit (.int .i64 es.length)) st) := rfl
theorem o_lens_46 (mt : Bool) (ty : TypeId) (cs : Array Bool) (s o l sz : Nat) (c : Option Nat) (st : ASt) : builtinA E.P mt .len #[46] ty cs [.slice s o l sz c] st = some (.val (.lit (.int .i64 l)) st) := rfl
theorem o_lenn_46 (mt : Bool) (ty : TypeId) (cs : Array Bool) (a : Option Addr) (st : ASt) : builtinA E.P mt .len #[46] ty cs [.lit (.slice a 0 0)] st = some (.val (.lit (.int .i64 0)) st) := len_nil rfl _ _ _ _ _
theorem o_ixi_46 (sz : Nat) (es : List AVal) (c : Cap) (k : IntKind) (i : Int) : indexA E.P 46 (.islice sz es c) (.lit (.int k i)) = if 0 ≤ i ∧ i < es.length ∧ some 4 = some sz then (es[i.toNat]?).map .iptr else none := rfl
theorem o_ixs_46 (s o l sz : Nat) (c : Option Nat) (k : IntKind) (i : Int) : indexA E.P 46 (.slice s o l sz c) (.lit (.int k i)) = if 0 ≤ i ∧ i < l then some (.ptr s (o + i.toNat * 4)) else none := rfl
theorem cf_53 (a : List AVal) (st : ASt) : callFuncA E.P 53 a st = some (.enter 53 a st) := rfl
theorem hint_44_20 : E.hint 44 20 = false := rfl
theorem o_bs_24_1 (ps : List (Nat × AVal)) (st : ASt) : buildSliceA E.P false 24 1 ps st = (setsE false 1 [(.lit (.string ⟨#[]⟩))] ps).map (fun es => (.islice 1 es .exact, st)) := bs_i rfl rfl rfl rfl (by decide) rfl ps st
theorem hint_44_21 : E.hint 44 21 = false := rfl
theorem slt_24 : SlT E.P 24 9 false 1 := ⟨rfl, rfl, ⟨_, _, rfl, rfl, by decide, rfl, rfl⟩, by decide⟩
theorem o_ldp_4 (st : ASt) (s o : Nat) : loadA E.P 4 st (.ptr s o) = (blkOf (st.heap s)).bind (fun cs => cs[o]?) := ld_one rfl rfl st s o
theorem o_ldi_4 (st : ASt) (v : AVal) : loadA E.P 4 st (.iptr v) = if v.isCell = true then some v else none := rfl
theorem o_sl_24_lh {es : List AVal} {c : Cap} {k k2 : IntKind} {l h : Int} (h0 : 0 ≤ l) (h1 : l ≤ h) (h2 : h ≤ es.length) : sliceA E.P 24 (.islice 1 es c) (some (.lit (.int k l))) (some (.lit (.int k2 h))) none = some (.islice 1 ((es.drop l.toNat).take (h.toNat - l.toNat)) (cutCap es.length h.toNat l.toNat c none)) := sl_lh rfl rfl h0 h1 h2
theorem o_sl_24_l {es : List AVal} {c : Cap} {k : IntKind} {l : Int} (h0 : 0 ≤ l) (h1 : l ≤ es.length) : sliceA E.P 24 (.islice 1 es c) (some (.lit (.int k l))) none none = some (.islice 1 (es.drop l.toNat) (cutCap es.length es.length l.toNat c none)) := sl_l rfl rfl h0 h1
theorem o_sl_24_h {es : List AVal} {c : Cap} {k : IntKind} {h : Int} (h0 : 0 ≤ h) (h1 : h ≤ es.length) : sliceA E.P 24 (.islice 1 es c) none (some (.lit (.int k h))) none = some (.islice 1 (es.take h.toNat) (cutCap es.length h.toNat 0 c none)) := sl_h rfl rfl h0 h1
theorem cf_39 (a : List AVal) (st : ASt) : callFuncA E.P 39 a st = some (.enter 39 a st) := rfl
theorem hint_44_38 : E.hint 44 38 = false := rfl
theorem o_bs_24_17 (ps : List (Nat × AVal)) (st : ASt) : buildSliceA E.P false 24 17 ps st = (setsE false 1 [(.lit (.string ⟨#[]⟩)), (.lit (.string ⟨#[]⟩)), (.lit (.string ⟨#[]⟩)), (.lit (.string ⟨#[]⟩)), (.lit (.string ⟨#[]⟩)), (.lit (.string ⟨#[]⟩)), (.lit (.string ⟨#[]⟩)), (.lit (.string ⟨#[]⟩)), (.lit (.string ⟨#[]⟩)), (.lit (.string ⟨#[]⟩)), (.lit (.string ⟨#[]⟩)), (.lit (.string ⟨#[]⟩)), (.lit (.string ⟨#[]⟩)), (.lit (.string ⟨#[]⟩)), (.lit (.string ⟨#[]⟩)), (.lit (.string ⟨#[]⟩)), (.lit (.string ⟨#[]⟩))] ps).map (fun es => (.islice 1 es .exact, st)) := bs_i rfl rfl rfl rfl (by decide) rfl ps st

/-! ### braidwork/braidworklaw04.expr -/
noncomputable def B53 : Code := code Tryd.f53
noncomputable def N53_0 := cp B53 []
noncomputable def R53_0 := cp B53 [1]
noncomputable def r53_0 := (⟨r_mk rfl (by simp only [R53_0, B53, code, Tryd.f53, dc, Poe]; exact rfl)⟩ : PLift (Goe E 53 R53_0 _))
noncomputable def N53_1 := cp B53 [2]
noncomputable def N53_2 := cp B53 [2, 1]
noncomputable def R53_1 := cp B53 [2, 1, 1]
noncomputable def r53_1 := (⟨r_mk rfl (by simp only [R53_1, B53, code, Tryd.f53, dc, Poe]; exact rfl)⟩ : PLift (Goe E 53 R53_1 _))
noncomputable def N53_3 := cp B53 [2, 1, 2]
noncomputable def N53_4 := cp B53 [2, 1, 2, 3]
noncomputable def R53_2 := cp B53 [2, 1, 2, 3, 1]
noncomputable def r53_2 := (⟨r_mk rfl (by simp only [R53_2, B53, code, Tryd.f53, dc, Poe]; exact rfl)⟩ : PLift (Goe E 53 R53_2 _))
noncomputable def N53_5 := cp B53 [2, 1, 2, 3, 2]
noncomputable def N53_6 := cp B53 [2, 1, 2, 3, 2, 6]
noncomputable def N53_7 := cp B53 [2, 1, 2, 3, 2, 6, 1]
noncomputable def R53_3 := cp B53 [2, 1, 2, 3, 2, 6, 1, 1]
noncomputable def r53_3 := (⟨r_mk rfl (by simp only [R53_3, B53, code, Tryd.f53, dc, Poe]; exact rfl)⟩ : PLift (Goe E 53 R53_3 _))
noncomputable def N53_8 := cp B53 [2, 1, 2, 3, 2, 6, 1, 2]
noncomputable def N53_9 := cp B53 [2, 1, 2, 3, 2, 6, 1, 2, 6]
noncomputable def R53_4 := cp B53 [2, 1, 2, 3, 2, 6, 1, 2, 6, 1]
noncomputable def r53_4 := (⟨r_mk rfl (by simp only [R53_4, B53, code, Tryd.f53, dc, Poe]; exact rfl)⟩ : PLift (Goe E 53 R53_4 _))
theorem n53_9 : Gqe E 53 N53_9 (.seq R53_4 .ret) := gq rfl
theorem n53_8 : Gqe E 53 N53_8 (.cond (.tmp 10) N53_9 .skip) := gq rfl
theorem n53_7 : Gqe E 53 N53_7 (.seq R53_3 N53_8) := gq rfl
noncomputable def N53_10 := cp B53 [2, 1, 2, 3, 2, 6, 2]
noncomputable def R53_5 := cp B53 [2, 1, 2, 3, 2, 6, 2, 1]
noncomputable def r53_5 := (⟨r_mk rfl (by simp only [R53_5, B53, code, Tryd.f53, dc, Poe]; exact rfl)⟩ : PLift (Goe E 53 R53_5 _))
theorem n53_10 : Gqe E 53 N53_10 (.seq R53_5 .ret) := gq rfl
theorem n53_6 : Gqe E 53 N53_6 (.seq N53_7 N53_10) := gq rfl
noncomputable def N53_11 := cp B53 [2, 1, 2, 3, 2, 7]
noncomputable def R53_6 := cp B53 [2, 1, 2, 3, 2, 7, 1]
noncomputable def r53_6 := (⟨r_mk rfl (by simp only [R53_6, B53, code, Tryd.f53, dc, Poe]; exact rfl)⟩ : PLift (Goe E 53 R53_6 _))
noncomputable def N53_12 := cp B53 [2, 1, 2, 3, 2, 7, 2]
noncomputable def N53_13 := cp B53 [2, 1, 2, 3, 2, 7, 2, 6]
noncomputable def R53_7 := cp B53 [2, 1, 2, 3, 2, 7, 2, 6, 1]
noncomputable def r53_7 := (⟨r_mk rfl (by simp only [R53_7, B53, code, Tryd.f53, dc, Poe]; exact rfl)⟩ : PLift (Goe E 53 R53_7 _))
theorem n53_13 : Gqe E 53 N53_13 (.seq R53_7 .ret) := gq rfl
noncomputable def N53_14 := cp B53 [2, 1, 2, 3, 2, 7, 2, 7]
noncomputable def R53_8 := cp B53 [2, 1, 2, 3, 2, 7, 2, 7, 1]
noncomputable def r53_8 := (⟨r_mk rfl (by simp only [R53_8, B53, code, Tryd.f53, dc, Poe]; exact rfl)⟩ : PLift (Goe E 53 R53_8 _))
noncomputable def N53_15 := cp B53 [2, 1, 2, 3, 2, 7, 2, 7, 2]
noncomputable def N53_16 := cp B53 [2, 1, 2, 3, 2, 7, 2, 7, 2, 6]
noncomputable def R53_9 := cp B53 [2, 1, 2, 3, 2, 7, 2, 7, 2, 6, 1]
noncomputable def r53_9 := (⟨r_mk rfl (by simp only [R53_9, B53, code, Tryd.f53, dc, Poe]; exact rfl)⟩ : PLift (Goe E 53 R53_9 _))
theorem n53_16 : Gqe E 53 N53_16 (.seq R53_9 .ret) := gq rfl
noncomputable def N53_17 := cp B53 [2, 1, 2, 3, 2, 7, 2, 7, 2, 7]
noncomputable def R53_10 := cp B53 [2, 1, 2, 3, 2, 7, 2, 7, 2, 7, 1]
noncomputable def r53_10 := (⟨r_mk rfl (by simp only [R53_10, B53, code, Tryd.f53, dc, Poe]; exact rfl)⟩ : PLift (Goe E 53 R53_10 _))
noncomputable def N53_18 := cp B53 [2, 1, 2, 3, 2, 7, 2, 7, 2, 7, 2]
noncomputable def N53_19 := cp B53 [2, 1, 2, 3, 2, 7, 2, 7, 2, 7, 2, 6]
noncomputable def R53_11 := cp B53 [2, 1, 2, 3, 2, 7, 2, 7, 2, 7, 2, 6, 1]
noncomputable def r53_11 := (⟨r_mk rfl (by simp only [R53_11, B53, code, Tryd.f53, dc, Poe]; exact rfl)⟩ : PLift (Goe E 53 R53_11 _))
theorem n53_19 : Gqe E 53 N53_19 (.seq R53_11 .ret) := gq rfl
noncomputable def N53_20 := cp B53 [2, 1, 2, 3, 2, 7, 2, 7, 2, 7, 2, 7]
noncomputable def R53_12 := cp B53 [2, 1, 2, 3, 2, 7, 2, 7, 2, 7, 2, 7, 1]
noncomputable def r53_12 := (⟨r_mk rfl (by simp only [R53_12, B53, code, Tryd.f53, dc, Poe]; exact rfl)⟩ : PLift (Goe E 53 R53_12 _))
noncomputable def N53_21 := cp B53 [2, 1, 2, 3, 2, 7, 2, 7, 2, 7, 2, 7, 2]
noncomputable def N53_22 := cp B53 [2, 1, 2, 3, 2, 7, 2, 7, 2, 7, 2, 7, 2, 6]
noncomputable def R53_13 := cp B53 [2, 1, 2, 3, 2, 7, 2, 7, 2, 7, 2, 7, 2, 6, 1]
noncomputable def r53_13 := (⟨r_mk rfl (by simp only [R53_13, B53, code, Tryd.f53, dc, Poe]; exact rfl)⟩ : PLift (Goe E 53 R53_13 _))
theorem n53_22 : Gqe E 53 N53_22 (.seq R53_13 .ret) := gq rfl
noncomputable def N53_23 := cp B53 [2, 1, 2, 3, 2, 7, 2, 7, 2, 7, 2, 7, 2, 7]
noncomputable def R53_14 := cp B53 [2, 1, 2, 3, 2, 7, 2, 7, 2, 7, 2, 7, 2, 7, 1]
noncomputable def r53_14 := (⟨r_mk rfl (by simp only [R53_14, B53, code, Tryd.f53, dc, Poe]; exact rfl)⟩ : PLift (Goe E 53 R53_14 _))
noncomputable def N53_24 := cp B53 [2, 1, 2, 3, 2, 7, 2, 7, 2, 7, 2, 7, 2, 7, 2]
noncomputable def N53_25 := cp B53 [2, 1, 2, 3, 2, 7, 2, 7, 2, 7, 2, 7, 2, 7, 2, 6]
noncomputable def R53_15 := cp B53 [2, 1, 2, 3, 2, 7, 2, 7, 2, 7, 2, 7, 2, 7, 2, 6, 1]
noncomputable def r53_15 := (⟨r_mk rfl (by simp only [R53_15, B53, code, Tryd.f53, dc, Poe]; exact rfl)⟩ : PLift (Goe E 53 R53_15 _))
theorem n53_25 : Gqe E 53 N53_25 (.seq R53_15 .ret) := gq rfl
theorem n53_24 : Gqe E 53 N53_24 (.cond (.tmp 53) N53_25 .skip) := gq rfl
theorem n53_23 : Gqe E 53 N53_23 (.seq R53_14 N53_24) := gq rfl
theorem n53_21 : Gqe E 53 N53_21 (.cond (.tmp 44) N53_22 N53_23) := gq rfl
theorem n53_20 : Gqe E 53 N53_20 (.seq R53_12 N53_21) := gq rfl
theorem n53_18 : Gqe E 53 N53_18 (.cond (.tmp 35) N53_19 N53_20) := gq rfl
theorem n53_17 : Gqe E 53 N53_17 (.seq R53_10 N53_18) := gq rfl
theorem n53_15 : Gqe E 53 N53_15 (.cond (.tmp 26) N53_16 N53_17) := gq rfl
theorem n53_14 : Gqe E 53 N53_14 (.seq R53_8 N53_15) := gq rfl
theorem n53_12 : Gqe E 53 N53_12 (.cond (.tmp 22) N53_13 N53_14) := gq rfl
theorem n53_11 : Gqe E 53 N53_11 (.seq R53_6 N53_12) := gq rfl
theorem n53_5 : Gqe E 53 N53_5 (.cond (.tmp 5) N53_6 N53_11) := gq rfl
theorem n53_4 : Gqe E 53 N53_4 (.seq R53_2 N53_5) := gq rfl
theorem n53_3 : Gqe E 53 N53_3 (.block 0 N53_4) := gq rfl
theorem n53_2 : Gqe E 53 N53_2 (.seq R53_1 N53_3) := gq rfl
noncomputable def N53_26 := cp B53 [2, 2]
noncomputable def R53_16 := cp B53 [2, 2, 1]
noncomputable def r53_16 := (⟨r_pl (p := [.one 0 [], .one 1 [], .one 2 [], .one 3 [], .one 7 [], .one 8 [], .one 11 [], .one 12 [], .one 13 [], .one 14 [], .one 4 [8, 12, 14], .one 5 [], .one 6 [], .one 9 [], .one 10 [], .one 15 [8], .one 16 [], .one 17 [], .one 18 []]) rfl (by kernel_rfl) (by kernel_rfl) (by simp only [R53_16, B53, code, Tryd.f53, dc, dpl, Ple]; exact rfl)⟩ : PLift (Gpe E 53 R53_16 _))
theorem n53_26 : Gqe E 53 N53_26 (.seq R53_16 .ret) := gq rfl
theorem n53_1 : Gqe E 53 N53_1 (.seq N53_2 N53_26) := gq rfl
theorem n53_0 : Gqe E 53 N53_0 (.seq R53_0 N53_1) := gq rfl
theorem en_53 {x0 : AVal} {st : ASt} {R : AEnd → ASt → Prop} (h : ∀ g : Nat → AVal, g 0 = x0 → Gc E 53 N53_0 [] (RQ E Tryd.f53 R) (Sl 80 g) st) : ∃ r st', rw E 53 [x0] st = some (r, st') ∧ R r st' :=
  en_of (fn := Tryd.f53) (c := N53_0) rfl rfl rfl (Nat.le_of_ble_eq_true rfl) fun g hg => h g (hg 0 x0 rfl)
theorem rq_53 (R : AEnd → ASt → Prop) (g : Nat → AVal) (st : ASt) : RQ E Tryd.f53 R .ret (Sl 80 g) st = R (.returned (g 2)) st := by
  rw [rq_gen (.inl rfl), show (Tryd.f53).results.toList = [.tmp 2] from rfl]
  simp only [aresB, sl_get, Nat.reduceLT, ↓reduceIte, bindK_some, tup]
theorem o_fap_48_0 (s o : Nat) : fieldA E.P 48 (.ptr s o) 0 = some (.ptr s (o + 0)) := rfl
theorem o_fai_48_0 (cs : List AVal) : fieldA E.P 48 (.iptr (.agg cs)) 0 = (cs[0]?).map .iptr := rfl
theorem o_fap_48_1 (s o : Nat) : fieldA E.P 48 (.ptr s o) 1 = some (.ptr s (o + 1)) := rfl
theorem o_fai_48_1 (cs : List AVal) : fieldA E.P 48 (.iptr (.agg cs)) 1 = (cs[1]?).map .iptr := rfl
theorem hint_53_14 : E.hint 53 14 = false := rfl
theorem hint_53_20 : E.hint 53 20 = false := rfl
theorem o_fap_48_2 (s o : Nat) : fieldA E.P 48 (.ptr s o) 2 = some (.ptr s (o + 2)) := rfl
theorem o_fai_48_2 (cs : List AVal) : fieldA E.P 48 (.iptr (.agg cs)) 2 = (cs[2]?).map .iptr := rfl
theorem o_fap_48_3 (s o : Nat) : fieldA E.P 48 (.ptr s o) 3 = some (.ptr s (o + 3)) := rfl
theorem o_fai_48_3 (cs : List AVal) : fieldA E.P 48 (.iptr (.agg cs)) 3 = (cs[3]?).map .iptr := rfl
end Go.Proofs.YtpgcbmmifmnfpaaDoorV
