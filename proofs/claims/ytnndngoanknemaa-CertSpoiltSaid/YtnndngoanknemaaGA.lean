/- What walks through these functions need: pieces of their code, single operations reckoned. No condition. -/
import Derived.Test.YtnndngoanknemaaEA
import Derived.Test.YtnndngoanknemaaAF
namespace Go.Proofs.YtnndngoanknemaaV
open Go Go.RowKit Go.Proofs.YtnndngoanknemaaA
set_option linter.unusedVariables false
set_option linter.unusedSimpArgs false
set_option maxRecDepth 100000

/-! ### braidwork/cert.Decode -/
noncomputable def C16 : Code := (code Try.f16)
noncomputable def S16_0 : Code := .seq ((code Try.f16).fst) (.seq ((code Try.f16).snd.fst) (.seq ((code Try.f16).snd.snd.fst.fst) (.seq ((code Try.f16).snd.snd.fst.snd) (.seq ((code Try.f16).snd.snd.snd.fst) (.seq ((code Try.f16).snd.snd.snd.snd.fst) (.seq ((code Try.f16).snd.snd.snd.snd.snd.fst) (.seq ((code Try.f16).snd.snd.snd.snd.snd.snd.fst) (.seq ((code Try.f16).snd.snd.snd.snd.snd.snd.snd.fst) (.seq ((code Try.f16).snd.snd.snd.snd.snd.snd.snd.snd.fst.fst) (.seq ((code Try.f16).snd.snd.snd.snd.snd.snd.snd.snd.fst.snd) (.seq ((code Try.f16).snd.snd.snd.snd.snd.snd.snd.snd.snd.fst) ((code Try.f16).snd.snd.snd.snd.snd.snd.snd.snd.snd.snd.fst.fst))))))))))))
noncomputable def S16_0_e := (⟨by simp only [S16_0, code, Try.f16, Option.getD_some, Code.fst, Code.snd, Code.bin, Code.lin, Code.sin, Code.yes, Code.no]; exact rfl⟩ : PLift (S16_0 = _))
noncomputable def L16_0 : Code := (code Try.f16).snd.snd.snd.snd.snd.snd.snd.snd.snd.snd.fst.snd.bin.lin
noncomputable def S16_1 : Code := .seq ((code Try.f16).snd.snd.snd.snd.snd.snd.snd.snd.snd.snd.fst.snd.bin.lin.fst.fst) (.seq ((code Try.f16).snd.snd.snd.snd.snd.snd.snd.snd.snd.snd.fst.snd.bin.lin.fst.snd) (.seq ((code Try.f16).snd.snd.snd.snd.snd.snd.snd.snd.snd.snd.fst.snd.bin.lin.snd.fst) ((code Try.f16).snd.snd.snd.snd.snd.snd.snd.snd.snd.snd.fst.snd.bin.lin.snd.snd)))
noncomputable def S16_1_e := (⟨by simp only [S16_1, code, Try.f16, Option.getD_some, Code.fst, Code.snd, Code.bin, Code.lin, Code.sin, Code.yes, Code.no]; exact rfl⟩ : PLift (S16_1 = _))
theorem L16_0_wp {ts : List AVal} {st : ASt} {Q : APost} (h : Wp E 16 S16_1 ts st Q) : Wp E 16 L16_0 ts st Q := by
  have e : ∀ n ts st, aexec E 16 (rw E) (drawB E 16) n L16_0 ts st = aexec E 16 (rw E) (drawB E 16) n (S16_1) ts st := by
    intro n ts st
    have e1 : L16_0 = (.seq (.seq (code Try.f16).snd.snd.snd.snd.snd.snd.snd.snd.snd.snd.fst.snd.bin.lin.fst.fst (code Try.f16).snd.snd.snd.snd.snd.snd.snd.snd.snd.snd.fst.snd.bin.lin.fst.snd) (.seq (code Try.f16).snd.snd.snd.snd.snd.snd.snd.snd.snd.snd.fst.snd.bin.lin.snd.fst (code Try.f16).snd.snd.snd.snd.snd.snd.snd.snd.snd.snd.fst.snd.bin.lin.snd.snd)) := rfl
    rw [e1]
    simp only [S16_1, aexec_seq, aseq_assoc]
  refine aw_congr e ?_
  exact h
noncomputable def rg16_19 : Code := (code Try.f16).snd.snd.snd.snd.snd.snd.snd.snd.snd.snd.snd.snd.fst.snd.yes.fst
noncomputable def rq16_19 : Code := (code Try.f16).snd.snd.snd.snd.snd.snd.snd.snd.snd.snd.snd.snd.fst.snd.yes.fst
theorem ex16_19 (call : ACall) (n : Nat) (ts : List AVal) (st : ASt) : aexec E 16 call (drawB E 16) n rg16_19 ts st = aops E 16 call rq16_19.ops rq16_19.ops.toList ts st := by
  have d : drawB E 16 rq16_19.ops = true := by kernel_rfl
  have e : rg16_19 = .region 19 rq16_19.ops true := rfl
  rw [e, aexec, d]; rfl
noncomputable def rq16_19_e := (⟨by simp only [rq16_19, code, Try.f16, Option.getD_some, Code.fst, Code.snd, Code.bin, Code.lin, Code.sin, Code.yes, Code.no, Code.ops]; exact rfl⟩ : PLift (rq16_19.ops = _))
noncomputable def S16_2 : Code := .seq ((code Try.f16).snd.snd.snd.snd.snd.snd.snd.snd.snd.snd.snd.fst.fst) (.seq ((code Try.f16).snd.snd.snd.snd.snd.snd.snd.snd.snd.snd.snd.fst.snd) (.seq ((code Try.f16).snd.snd.snd.snd.snd.snd.snd.snd.snd.snd.snd.snd.fst.fst) (.seq (.cond (.tmp 120) (.seq rg16_19 (code Try.f16).snd.snd.snd.snd.snd.snd.snd.snd.snd.snd.snd.snd.fst.snd.yes.snd) (code Try.f16).snd.snd.snd.snd.snd.snd.snd.snd.snd.snd.snd.snd.fst.snd.no) (.seq ((code Try.f16).snd.snd.snd.snd.snd.snd.snd.snd.snd.snd.snd.snd.snd.fst) ((code Try.f16).snd.snd.snd.snd.snd.snd.snd.snd.snd.snd.snd.snd.snd.snd)))))
noncomputable def S16_2_e := (⟨by simp only [S16_2, code, Try.f16, Option.getD_some, Code.fst, Code.snd, Code.bin, Code.lin, Code.sin, Code.yes, Code.no]; exact rfl⟩ : PLift (S16_2 = _))
theorem C16_wp {ts : List AVal} {st : ASt} {Q : APost} (h : Wp E 16 S16_0 ts st (Nx (fun ts st => Wp E 16 (.block 0 (.loop L16_0)) ts st (Nx (fun ts st => Wp E 16 S16_2 ts st Q) Q)) Q)) : Wp E 16 C16 ts st Q := by
  have e : ∀ n ts st, aexec E 16 (rw E) (drawB E 16) n C16 ts st = aexec E 16 (rw E) (drawB E 16) n (.seq S16_0 (.seq (.block 0 (.loop L16_0)) (S16_2))) ts st := by
    intro n ts st
    have e1 : C16 = (.seq (code Try.f16).fst (.seq (code Try.f16).snd.fst (.seq (.seq (code Try.f16).snd.snd.fst.fst (code Try.f16).snd.snd.fst.snd) (.seq (code Try.f16).snd.snd.snd.fst (.seq (code Try.f16).snd.snd.snd.snd.fst (.seq (code Try.f16).snd.snd.snd.snd.snd.fst (.seq (code Try.f16).snd.snd.snd.snd.snd.snd.fst (.seq (code Try.f16).snd.snd.snd.snd.snd.snd.snd.fst (.seq (.seq (code Try.f16).snd.snd.snd.snd.snd.snd.snd.snd.fst.fst (code Try.f16).snd.snd.snd.snd.snd.snd.snd.snd.fst.snd) (.seq (code Try.f16).snd.snd.snd.snd.snd.snd.snd.snd.snd.fst (.seq (.seq (code Try.f16).snd.snd.snd.snd.snd.snd.snd.snd.snd.snd.fst.fst (.block 0 (.loop L16_0))) (.seq (.seq (code Try.f16).snd.snd.snd.snd.snd.snd.snd.snd.snd.snd.snd.fst.fst (code Try.f16).snd.snd.snd.snd.snd.snd.snd.snd.snd.snd.snd.fst.snd) (.seq (.seq (code Try.f16).snd.snd.snd.snd.snd.snd.snd.snd.snd.snd.snd.snd.fst.fst (.cond (.tmp 120) (.seq rg16_19 (code Try.f16).snd.snd.snd.snd.snd.snd.snd.snd.snd.snd.snd.snd.fst.snd.yes.snd) (code Try.f16).snd.snd.snd.snd.snd.snd.snd.snd.snd.snd.snd.snd.fst.snd.no)) (.seq (code Try.f16).snd.snd.snd.snd.snd.snd.snd.snd.snd.snd.snd.snd.snd.fst (code Try.f16).snd.snd.snd.snd.snd.snd.snd.snd.snd.snd.snd.snd.snd.snd)))))))))))))) := rfl
    rw [e1]
    simp only [S16_0, S16_2, aexec_seq, aseq_assoc]
  refine aw_congr e ?_
  have h0 := h
  exact aw_seq (h0.mono fun e ts st hq => by cases e <;> first | exact hq | (have h1 := hq; exact aw_seq h1))
theorem ce_16 {x0 : AVal} {st : ASt} {r : AEnd × ASt} (h : ∀ g : Nat → AVal, g 0 = x0 → Wp E 16 C16 (Sl 131 g) st (fun e ts st => aend E Try.f16 (some (e, ts, st)) = some r)) : rw E 16 [x0] st = some r :=
  ce_of (fn := Try.f16) (c := C16) rfl rfl rfl (Nat.le_of_ble_eq_true rfl) fun g hg => h g (hg 0 x0 rfl)
theorem cx_16 {x0 : AVal} {st : ASt} {R : AEnd → ASt → Prop} (h : ∀ g : Nat → AVal, g 0 = x0 → Wp E 16 C16 (Sl 131 g) st (fun e ts st => ∃ r st', aend E Try.f16 (some (e, ts, st)) = some (r, st') ∧ R r st')) : ∃ r st', rw E 16 [x0] st = some (r, st') ∧ R r st' :=
  cx_of (fn := Try.f16) (c := C16) rfl rfl rfl (Nat.le_of_ble_eq_true rfl) fun g hg => h g (hg 0 x0 rfl)
theorem cf_27 (a : List AVal) (st : ASt) : callFuncA E.P 27 a st = some (.enter 27 a st) := rfl
theorem cf_28 (a : List AVal) (st : ASt) : callFuncA E.P 28 a st = some (.enter 28 a st) := rfl
theorem o_bd_64 (ps : List (Nat × AVal)) : buildA E.P 64 ps = (fillA (fun i => ([(0, 1), (1, 1), (2, 1)] : List (Nat × Nat))[i]?) [.lit (.pointer none), .lit (.int .i64 0), .lit (.int .i64 0)] ps).map .agg := rfl
theorem o_fap_64_0 (s o : Nat) : fieldA E.P 64 (.ptr s o) 0 = some (.ptr s (o + 0)) := rfl
theorem o_fai_64_0 (cs : List AVal) : fieldA E.P 64 (.iptr (.agg cs)) 0 = (cs[0]?).map .iptr := rfl
theorem o_ldp_61 (st : ASt) (s o : Nat) : loadA E.P 61 st (.ptr s o) = (blkOf (st.heap s)).bind (fun cs => cs[o]?) := ld_one rfl rfl st s o
theorem o_ldi_61 (st : ASt) (v : AVal) : loadA E.P 61 st (.iptr v) = if v.isCell = true then some v else none := rfl
theorem cf_29 (a : List AVal) (st : ASt) : callFuncA E.P 29 a st = some (.enter 29 a st) := rfl
theorem cf_30 (a : List AVal) (st : ASt) : callFuncA E.P 30 a st = some (.enter 30 a st) := rfl
theorem o_cv_32_22 (mt : Bool) (n : Int) (st : ASt) : convA E.P mt 32 22 (.lit (.int .u64 n)) st = some (.lit (.int .u32 (IntKind.u32.wrap n)), st) := c_int rfl rfl
theorem cf_31 (a : List AVal) (st : ASt) : callFuncA E.P 31 a st = some (.enter 31 a st) := rfl
theorem o_cv_32_3 (mt : Bool) (n : Int) (st : ASt) : convA E.P mt 32 3 (.lit (.int .u64 n)) st = some (.lit (.int .i64 (IntKind.i64.wrap n)), st) := c_int rfl rfl
theorem o_fap_64_2 (s o : Nat) : fieldA E.P 64 (.ptr s o) 2 = some (.ptr s (o + 2)) := rfl
theorem o_fai_64_2 (cs : List AVal) : fieldA E.P 64 (.iptr (.agg cs)) 2 = (cs[2]?).map .iptr := rfl
theorem o_ldp_40 (st : ASt) (s o : Nat) : loadA E.P 40 st (.ptr s o) = (blkOf (st.heap s)).bind (fun cs => cs[o]?) := ld_one rfl rfl st s o
theorem o_ldi_40 (st : ASt) (v : AVal) : loadA E.P 40 st (.iptr v) = if v.isCell = true then some v else none := rfl
theorem cf_32 (a : List AVal) (st : ASt) : callFuncA E.P 32 a st = some (.enter 32 a st) := rfl
theorem o_fap_64_1 (s o : Nat) : fieldA E.P 64 (.ptr s o) 1 = some (.ptr s (o + 1)) := rfl
theorem o_fai_64_1 (cs : List AVal) : fieldA E.P 64 (.iptr (.agg cs)) 1 = (cs[1]?).map .iptr := rfl
theorem o_st_3 (st : ASt) (s o : Nat) (v : AVal) : storeA E.P 3 st (.ptr s o) v = if v.isCell = true then (blkOf (st.heap s)).bind (fun cs => if o + 1 ≤ cs.length then some (st.set s (some (.cells (cs.set o v)))) else none) else storeU E.P 3 st (.ptr s o) v := st_one rfl st s o v
theorem o_st_40 (st : ASt) (s o : Nat) (v : AVal) : storeA E.P 40 st (.ptr s o) v = if v.isCell = true then (blkOf (st.heap s)).bind (fun cs => if o + 1 ≤ cs.length then some (st.set s (some (.cells (cs.set o v)))) else none) else storeU E.P 40 st (.ptr s o) v := st_one rfl st s o v
theorem o_bd_53 (ps : List (Nat × AVal)) : buildA E.P 53 ps = (fillA (fun i => ([(0, 1), (1, 1), (2, 1), (3, 1)] : List (Nat × Nat))[i]?) [.lit (.int .i64 0), .lit (.int .u64 0), .lit (.int .u64 0), .lit (.int .i64 0)] ps).map .agg := rfl
theorem hint_16_90 : E.hint 16 90 = false := rfl
theorem o_bs_26_1 (ps : List (Nat × AVal)) (st : ASt) : buildSliceA E.P false 26 1 ps st = (setsE true 4 [(.agg [.lit (.int .i64 0), .lit (.int .u64 0), .lit (.int .u64 0), .lit (.int .i64 0)])] ps).map (fun es => (.islice 4 es .exact, st)) := bs_i rfl rfl rfl rfl (by decide) rfl ps st
theorem hint_16_91 : E.hint 16 91 = false := rfl
theorem slt_26 : SlT E.P 26 53 true 4 := ⟨rfl, rfl, ⟨_, _, rfl, rfl, by decide, rfl, rfl⟩, by decide⟩
theorem o_ldp_3 (st : ASt) (s o : Nat) : loadA E.P 3 st (.ptr s o) = (blkOf (st.heap s)).bind (fun cs => cs[o]?) := ld_one rfl rfl st s o
theorem o_ldi_3 (st : ASt) (v : AVal) : loadA E.P 3 st (.iptr v) = if v.isCell = true then some v else none := rfl

/-! ### slices.Clone[[]byte,byte] -/
noncomputable def C17 : Code := (code Try.f17)
noncomputable def S17_0 : Code := .seq ((code Try.f17).fst) (.seq ((code Try.f17).snd.fst.fst) (.seq ((code Try.f17).snd.fst.snd) (.seq ((code Try.f17).snd.snd.fst) ((code Try.f17).snd.snd.snd))))
noncomputable def S17_0_e := (⟨by simp only [S17_0, code, Try.f17, Option.getD_some, Code.fst, Code.snd, Code.bin, Code.lin, Code.sin, Code.yes, Code.no]; exact rfl⟩ : PLift (S17_0 = _))
theorem C17_wp {ts : List AVal} {st : ASt} {Q : APost} (h : Wp E 17 S17_0 ts st Q) : Wp E 17 C17 ts st Q := by
  have e : ∀ n ts st, aexec E 17 (rw E) (drawB E 17) n C17 ts st = aexec E 17 (rw E) (drawB E 17) n (S17_0) ts st := by
    intro n ts st
    have e1 : C17 = (.seq (code Try.f17).fst (.seq (.seq (code Try.f17).snd.fst.fst (code Try.f17).snd.fst.snd) (.seq (code Try.f17).snd.snd.fst (code Try.f17).snd.snd.snd))) := rfl
    rw [e1]
    simp only [S17_0, aexec_seq, aseq_assoc]
  refine aw_congr e ?_
  exact h
theorem ce_17 {x0 : AVal} {st : ASt} {r : AEnd × ASt} (h : ∀ g : Nat → AVal, g 0 = x0 → Wp E 17 C17 (Sl 8 g) st (fun e ts st => aend E Try.f17 (some (e, ts, st)) = some r)) : rw E 17 [x0] st = some r :=
  ce_of (fn := Try.f17) (c := C17) rfl rfl rfl (Nat.le_of_ble_eq_true rfl) fun g hg => h g (hg 0 x0 rfl)
theorem cx_17 {x0 : AVal} {st : ASt} {R : AEnd → ASt → Prop} (h : ∀ g : Nat → AVal, g 0 = x0 → Wp E 17 C17 (Sl 8 g) st (fun e ts st => ∃ r st', aend E Try.f17 (some (e, ts, st)) = some (r, st') ∧ R r st')) : ∃ r st', rw E 17 [x0] st = some (r, st') ∧ R r st' :=
  cx_of (fn := Try.f17) (c := C17) rfl rfl rfl (Nat.le_of_ble_eq_true rfl) fun g hg => h g (hg 0 x0 rfl)
theorem hint_17_5 : E.hint 17 5 = false := rfl
theorem o_bs_28_0 (ps : List (Nat × AVal)) (st : ASt) : buildSliceA E.P false 28 0 ps st = (setsE false 1 [] ps).map (fun es => (.islice 1 es .exact, st)) := bs_i rfl rfl rfl rfl (by decide) rfl ps st
theorem hint_17_7 : E.hint 17 7 = true := rfl
theorem slt_28 : SlT E.P 28 5 false 1 := ⟨rfl, rfl, ⟨_, _, rfl, rfl, by decide, rfl, rfl⟩, by decide⟩

/-! ### braidwork/braidworklaw18.sealed -/
noncomputable def C19 : Code := (code Try.f19)
noncomputable def S19_0 : Code := .seq ((code Try.f19).fst) (.seq ((code Try.f19).snd.fst) (.seq ((code Try.f19).snd.snd.fst) ((code Try.f19).snd.snd.snd)))
noncomputable def S19_0_e := (⟨by simp only [S19_0, code, Try.f19, Option.getD_some, Code.fst, Code.snd, Code.bin, Code.lin, Code.sin, Code.yes, Code.no]; exact rfl⟩ : PLift (S19_0 = _))
theorem C19_wp {ts : List AVal} {st : ASt} {Q : APost} (h : Wp E 19 S19_0 ts st Q) : Wp E 19 C19 ts st Q := by
  have e : ∀ n ts st, aexec E 19 (rw E) (drawB E 19) n C19 ts st = aexec E 19 (rw E) (drawB E 19) n (S19_0) ts st := by
    intro n ts st
    have e1 : C19 = (.seq (code Try.f19).fst (.seq (code Try.f19).snd.fst (.seq (code Try.f19).snd.snd.fst (code Try.f19).snd.snd.snd))) := rfl
    rw [e1]
    simp only [S19_0, aexec_seq, aseq_assoc]
  refine aw_congr e ?_
  exact h
theorem ce_19 {x0 : AVal} {st : ASt} {r : AEnd × ASt} (h : ∀ g : Nat → AVal, g 0 = x0 → Wp E 19 C19 (Sl 24 g) st (fun e ts st => aend E Try.f19 (some (e, ts, st)) = some r)) : rw E 19 [x0] st = some r :=
  ce_of (fn := Try.f19) (c := C19) rfl rfl rfl (Nat.le_of_ble_eq_true rfl) fun g hg => h g (hg 0 x0 rfl)
theorem cx_19 {x0 : AVal} {st : ASt} {R : AEnd → ASt → Prop} (h : ∀ g : Nat → AVal, g 0 = x0 → Wp E 19 C19 (Sl 24 g) st (fun e ts st => ∃ r st', aend E Try.f19 (some (e, ts, st)) = some (r, st') ∧ R r st')) : ∃ r st', rw E 19 [x0] st = some (r, st') ∧ R r st' :=
  cx_of (fn := Try.f19) (c := C19) rfl rfl rfl (Nat.le_of_ble_eq_true rfl) fun g hg => h g (hg 0 x0 rfl)
theorem cf_34 (a : List AVal) (st : ASt) : callFuncA E.P 34 a st = some (.enter 34 a st) := rfl
theorem cf_17 (a : List AVal) (st : ASt) : callFuncA E.P 17 a st = some (.enter 17 a st) := rfl
theorem o_cv_22_5 (mt : Bool) (n : Int) (st : ASt) : convA E.P mt 22 5 (.lit (.int .u32 n)) st = some (.lit (.int .u8 (IntKind.u8.wrap n)), st) := c_int rfl rfl
theorem hint_19_22 : E.hint 19 22 = false := rfl
theorem o_bs_28_4 (ps : List (Nat × AVal)) (st : ASt) : buildSliceA E.P false 28 4 ps st = (setsE false 1 [(.lit (.int .u8 0)), (.lit (.int .u8 0)), (.lit (.int .u8 0)), (.lit (.int .u8 0))] ps).map (fun es => (.islice 1 es .exact, st)) := bs_i rfl rfl rfl rfl (by decide) rfl ps st
theorem hint_19_23 : E.hint 19 23 = false := rfl

/-! ### braidwork/braidworklaw18.Is -/
noncomputable def C20 : Code := (code Try.f20)
noncomputable def S20_0 : Code := .seq ((code Try.f20).fst) (.seq ((code Try.f20).snd.fst) (.seq ((code Try.f20).snd.snd.fst) (.seq ((code Try.f20).snd.snd.snd.fst) ((code Try.f20).snd.snd.snd.snd))))
noncomputable def S20_0_e := (⟨by simp only [S20_0, code, Try.f20, Option.getD_some, Code.fst, Code.snd, Code.bin, Code.lin, Code.sin, Code.yes, Code.no]; exact rfl⟩ : PLift (S20_0 = _))
theorem C20_wp {ts : List AVal} {st : ASt} {Q : APost} (h : Wp E 20 S20_0 ts st Q) : Wp E 20 C20 ts st Q := by
  have e : ∀ n ts st, aexec E 20 (rw E) (drawB E 20) n C20 ts st = aexec E 20 (rw E) (drawB E 20) n (S20_0) ts st := by
    intro n ts st
    have e1 : C20 = (.seq (code Try.f20).fst (.seq (code Try.f20).snd.fst (.seq (code Try.f20).snd.snd.fst (.seq (code Try.f20).snd.snd.snd.fst (code Try.f20).snd.snd.snd.snd)))) := rfl
    rw [e1]
    simp only [S20_0, aexec_seq, aseq_assoc]
  refine aw_congr e ?_
  exact h
theorem ce_20 {x0 : AVal} {st : ASt} {r : AEnd × ASt} (h : ∀ g : Nat → AVal, g 0 = x0 → Wp E 20 C20 (Sl 43 g) st (fun e ts st => aend E Try.f20 (some (e, ts, st)) = some r)) : rw E 20 [x0] st = some r :=
  ce_of (fn := Try.f20) (c := C20) rfl rfl rfl (Nat.le_of_ble_eq_true rfl) fun g hg => h g (hg 0 x0 rfl)
theorem cx_20 {x0 : AVal} {st : ASt} {R : AEnd → ASt → Prop} (h : ∀ g : Nat → AVal, g 0 = x0 → Wp E 20 C20 (Sl 43 g) st (fun e ts st => ∃ r st', aend E Try.f20 (some (e, ts, st)) = some (r, st') ∧ R r st')) : ∃ r st', rw E 20 [x0] st = some (r, st') ∧ R r st' :=
  cx_of (fn := Try.f20) (c := C20) rfl rfl rfl (Nat.le_of_ble_eq_true rfl) fun g hg => h g (hg 0 x0 rfl)
theorem cf_16 (a : List AVal) (st : ASt) : callFuncA E.P 16 a st = some (.enter 16 a st) := rfl
theorem cf_35 (a : List AVal) (st : ASt) : callFuncA E.P 35 a st = some (.enter 35 a st) := rfl
theorem cf_15 (a : List AVal) (st : ASt) : callFuncA E.P 15 a st = some (.enter 15 a st) := rfl

/-! ### braidwork/braidworklaw18.Reads -/
noncomputable def C35 : Code := (code Try.f35)
noncomputable def rg35_13 : Code := (code Try.f35).snd.snd.snd.snd.snd.snd.fst.fst
noncomputable def rq35_13 : Code := (code Try.f35).snd.snd.snd.snd.snd.snd.fst.fst
theorem ex35_13 (call : ACall) (n : Nat) (ts : List AVal) (st : ASt) : aexec E 35 call (drawB E 35) n rg35_13 ts st = aops E 35 call rq35_13.ops rq35_13.ops.toList ts st := by
  have d : drawB E 35 rq35_13.ops = true := by kernel_rfl
  have e : rg35_13 = .region 13 rq35_13.ops true := rfl
  rw [e, aexec, d]; rfl
noncomputable def rq35_13_e := (⟨by simp only [rq35_13, code, Try.f35, Option.getD_some, Code.fst, Code.snd, Code.bin, Code.lin, Code.sin, Code.yes, Code.no, Code.ops]; exact rfl⟩ : PLift (rq35_13.ops = _))
noncomputable def S35_0 : Code := .seq ((code Try.f35).fst) (.seq ((code Try.f35).snd.fst) (.seq ((code Try.f35).snd.snd.fst) (.seq ((code Try.f35).snd.snd.snd.fst) (.seq ((code Try.f35).snd.snd.snd.snd.fst) (.seq ((code Try.f35).snd.snd.snd.snd.snd.fst) (.seq (rg35_13) (.seq ((code Try.f35).snd.snd.snd.snd.snd.snd.fst.snd) (.seq ((code Try.f35).snd.snd.snd.snd.snd.snd.snd.fst) ((code Try.f35).snd.snd.snd.snd.snd.snd.snd.snd.fst.fst)))))))))
noncomputable def S35_0_e := (⟨by simp only [S35_0, code, Try.f35, Option.getD_some, Code.fst, Code.snd, Code.bin, Code.lin, Code.sin, Code.yes, Code.no]; exact rfl⟩ : PLift (S35_0 = _))
noncomputable def L35_0 : Code := (code Try.f35).snd.snd.snd.snd.snd.snd.snd.snd.fst.snd.bin.lin
noncomputable def S35_1 : Code := .seq ((code Try.f35).snd.snd.snd.snd.snd.snd.snd.snd.fst.snd.bin.lin.fst) (.seq ((code Try.f35).snd.snd.snd.snd.snd.snd.snd.snd.fst.snd.bin.lin.snd.fst) (.seq ((code Try.f35).snd.snd.snd.snd.snd.snd.snd.snd.fst.snd.bin.lin.snd.snd.fst) ((code Try.f35).snd.snd.snd.snd.snd.snd.snd.snd.fst.snd.bin.lin.snd.snd.snd)))
noncomputable def S35_1_e := (⟨by simp only [S35_1, code, Try.f35, Option.getD_some, Code.fst, Code.snd, Code.bin, Code.lin, Code.sin, Code.yes, Code.no]; exact rfl⟩ : PLift (S35_1 = _))
theorem L35_0_wp {ts : List AVal} {st : ASt} {Q : APost} (h : Wp E 35 S35_1 ts st Q) : Wp E 35 L35_0 ts st Q := by
  have e : ∀ n ts st, aexec E 35 (rw E) (drawB E 35) n L35_0 ts st = aexec E 35 (rw E) (drawB E 35) n (S35_1) ts st := by
    intro n ts st
    have e1 : L35_0 = (.seq (code Try.f35).snd.snd.snd.snd.snd.snd.snd.snd.fst.snd.bin.lin.fst (.seq (code Try.f35).snd.snd.snd.snd.snd.snd.snd.snd.fst.snd.bin.lin.snd.fst (.seq (code Try.f35).snd.snd.snd.snd.snd.snd.snd.snd.fst.snd.bin.lin.snd.snd.fst (code Try.f35).snd.snd.snd.snd.snd.snd.snd.snd.fst.snd.bin.lin.snd.snd.snd))) := rfl
    rw [e1]
    simp only [S35_1, aexec_seq, aseq_assoc]
  refine aw_congr e ?_
  exact h
noncomputable def rg35_25 : Code := (code Try.f35).snd.snd.snd.snd.snd.snd.snd.snd.snd.fst.bin.snd.yes.fst
noncomputable def rq35_25 : Code := (code Try.f35).snd.snd.snd.snd.snd.snd.snd.snd.snd.fst.bin.snd.yes.fst
theorem ex35_25 (call : ACall) (n : Nat) (ts : List AVal) (st : ASt) : aexec E 35 call (drawB E 35) n rg35_25 ts st = aops E 35 call rq35_25.ops rq35_25.ops.toList ts st := by
  have d : drawB E 35 rq35_25.ops = true := by kernel_rfl
  have e : rg35_25 = .region 25 rq35_25.ops true := rfl
  rw [e, aexec, d]; rfl
noncomputable def rq35_25_e := (⟨by simp only [rq35_25, code, Try.f35, Option.getD_some, Code.fst, Code.snd, Code.bin, Code.lin, Code.sin, Code.yes, Code.no, Code.ops]; exact rfl⟩ : PLift (rq35_25.ops = _))
noncomputable def rg35_26 : Code := (code Try.f35).snd.snd.snd.snd.snd.snd.snd.snd.snd.fst.bin.snd.no.fst
noncomputable def rq35_26 : Code := (code Try.f35).snd.snd.snd.snd.snd.snd.snd.snd.snd.fst.bin.snd.no.fst
theorem ex35_26 (call : ACall) (n : Nat) (ts : List AVal) (st : ASt) : aexec E 35 call (drawB E 35) n rg35_26 ts st = aops E 35 call rq35_26.ops rq35_26.ops.toList ts st := by
  have d : drawB E 35 rq35_26.ops = true := by kernel_rfl
  have e : rg35_26 = .region 26 rq35_26.ops true := rfl
  rw [e, aexec, d]; rfl
noncomputable def rq35_26_e := (⟨by simp only [rq35_26, code, Try.f35, Option.getD_some, Code.fst, Code.snd, Code.bin, Code.lin, Code.sin, Code.yes, Code.no, Code.ops]; exact rfl⟩ : PLift (rq35_26.ops = _))
noncomputable def rg35_27 : Code := (code Try.f35).snd.snd.snd.snd.snd.snd.snd.snd.snd.fst.bin.snd.no.snd.yes.fst
noncomputable def rq35_27 : Code := (code Try.f35).snd.snd.snd.snd.snd.snd.snd.snd.snd.fst.bin.snd.no.snd.yes.fst
theorem ex35_27 (call : ACall) (n : Nat) (ts : List AVal) (st : ASt) : aexec E 35 call (drawB E 35) n rg35_27 ts st = aops E 35 call rq35_27.ops rq35_27.ops.toList ts st := by
  have d : drawB E 35 rq35_27.ops = true := by kernel_rfl
  have e : rg35_27 = .region 27 rq35_27.ops true := rfl
  rw [e, aexec, d]; rfl
noncomputable def rq35_27_e := (⟨by simp only [rq35_27, code, Try.f35, Option.getD_some, Code.fst, Code.snd, Code.bin, Code.lin, Code.sin, Code.yes, Code.no, Code.ops]; exact rfl⟩ : PLift (rq35_27.ops = _))
noncomputable def S35_2 : Code := .seq (.block 3 (.seq (code Try.f35).snd.snd.snd.snd.snd.snd.snd.snd.snd.fst.bin.fst (.cond (.tmp 99) (.seq rg35_25 (code Try.f35).snd.snd.snd.snd.snd.snd.snd.snd.snd.fst.bin.snd.yes.snd) (.seq rg35_26 (.cond (.tmp 113) (.seq rg35_27 (code Try.f35).snd.snd.snd.snd.snd.snd.snd.snd.snd.fst.bin.snd.no.snd.yes.snd) (code Try.f35).snd.snd.snd.snd.snd.snd.snd.snd.snd.fst.bin.snd.no.snd.no))))) (.seq ((code Try.f35).snd.snd.snd.snd.snd.snd.snd.snd.snd.snd.fst) ((code Try.f35).snd.snd.snd.snd.snd.snd.snd.snd.snd.snd.snd))
noncomputable def S35_2_e := (⟨by simp only [S35_2, code, Try.f35, Option.getD_some, Code.fst, Code.snd, Code.bin, Code.lin, Code.sin, Code.yes, Code.no]; exact rfl⟩ : PLift (S35_2 = _))
theorem C35_wp {ts : List AVal} {st : ASt} {Q : APost} (h : Wp E 35 S35_0 ts st (Nx (fun ts st => Wp E 35 (.block 1 (.loop L35_0)) ts st (Nx (fun ts st => Wp E 35 S35_2 ts st Q) Q)) Q)) : Wp E 35 C35 ts st Q := by
  have e : ∀ n ts st, aexec E 35 (rw E) (drawB E 35) n C35 ts st = aexec E 35 (rw E) (drawB E 35) n (.seq S35_0 (.seq (.block 1 (.loop L35_0)) (S35_2))) ts st := by
    intro n ts st
    have e1 : C35 = (.seq (code Try.f35).fst (.seq (code Try.f35).snd.fst (.seq (code Try.f35).snd.snd.fst (.seq (code Try.f35).snd.snd.snd.fst (.seq (code Try.f35).snd.snd.snd.snd.fst (.seq (code Try.f35).snd.snd.snd.snd.snd.fst (.seq (.seq rg35_13 (code Try.f35).snd.snd.snd.snd.snd.snd.fst.snd) (.seq (code Try.f35).snd.snd.snd.snd.snd.snd.snd.fst (.seq (.seq (code Try.f35).snd.snd.snd.snd.snd.snd.snd.snd.fst.fst (.block 1 (.loop L35_0))) (.seq (.block 3 (.seq (code Try.f35).snd.snd.snd.snd.snd.snd.snd.snd.snd.fst.bin.fst (.cond (.tmp 99) (.seq rg35_25 (code Try.f35).snd.snd.snd.snd.snd.snd.snd.snd.snd.fst.bin.snd.yes.snd) (.seq rg35_26 (.cond (.tmp 113) (.seq rg35_27 (code Try.f35).snd.snd.snd.snd.snd.snd.snd.snd.snd.fst.bin.snd.no.snd.yes.snd) (code Try.f35).snd.snd.snd.snd.snd.snd.snd.snd.snd.fst.bin.snd.no.snd.no))))) (.seq (code Try.f35).snd.snd.snd.snd.snd.snd.snd.snd.snd.snd.fst (code Try.f35).snd.snd.snd.snd.snd.snd.snd.snd.snd.snd.snd))))))))))) := rfl
    rw [e1]
    simp only [S35_0, S35_2, aexec_seq, aseq_assoc]
  refine aw_congr e ?_
  have h0 := h
  exact aw_seq (h0.mono fun e ts st hq => by cases e <;> first | exact hq | (have h1 := hq; exact aw_seq h1))
theorem ce_35 {x0 : AVal} {st : ASt} {r : AEnd × ASt} (h : ∀ g : Nat → AVal, g 0 = x0 → Wp E 35 C35 (Sl 131 g) st (fun e ts st => aend E Try.f35 (some (e, ts, st)) = some r)) : rw E 35 [x0] st = some r :=
  ce_of (fn := Try.f35) (c := C35) rfl rfl rfl (Nat.le_of_ble_eq_true rfl) fun g hg => h g (hg 0 x0 rfl)
theorem cx_35 {x0 : AVal} {st : ASt} {R : AEnd → ASt → Prop} (h : ∀ g : Nat → AVal, g 0 = x0 → Wp E 35 C35 (Sl 131 g) st (fun e ts st => ∃ r st', aend E Try.f35 (some (e, ts, st)) = some (r, st') ∧ R r st')) : ∃ r st', rw E 35 [x0] st = some (r, st') ∧ R r st' :=
  cx_of (fn := Try.f35) (c := C35) rfl rfl rfl (Nat.le_of_ble_eq_true rfl) fun g hg => h g (hg 0 x0 rfl)
theorem o_leni_28 (mt : Bool) (ty : TypeId) (cs : Array Bool) (sz : Nat) (es : List AVal) (c : Cap) (st : ASt) : builtinA E.P mt .len #[28] ty cs [.islice sz es c] st = some (.val (.lit (.int .i64 es.length)) st) := rfl
theorem o_lens_28 (mt : Bool) (ty : TypeId) (cs : Array Bool) (s o l sz : Nat) (c : Option Nat) (st : ASt) : builtinA E.P mt .len #[28] ty cs [.slice s o l sz c] st = some (.val (.lit (.int .i64 l)) st) := rfl
theorem o_lenn_28 (mt : Bool) (ty : TypeId) (cs : Array Bool) (a : Option Addr) (st : ASt) : builtinA E.P mt .len #[28] ty cs [.lit (.slice a 0 0)] st = some (.val (.lit (.int .i64 0)) st) := len_nil rfl _ _ _ _ _
theorem o_sl_28_lh {es : List AVal} {c : Cap} {k k2 : IntKind} {l h : Int} (h0 : 0 ≤ l) (h1 : l ≤ h) (h2 : h ≤ es.length) : sliceA E.P 28 (.islice 1 es c) (some (.lit (.int k l))) (some (.lit (.int k2 h))) none = some (.islice 1 ((es.drop l.toNat).take (h.toNat - l.toNat)) (cutCap es.length h.toNat l.toNat c none)) := sl_lh rfl rfl h0 h1 h2
theorem o_sl_28_l {es : List AVal} {c : Cap} {k : IntKind} {l : Int} (h0 : 0 ≤ l) (h1 : l ≤ es.length) : sliceA E.P 28 (.islice 1 es c) (some (.lit (.int k l))) none none = some (.islice 1 (es.drop l.toNat) (cutCap es.length es.length l.toNat c none)) := sl_l rfl rfl h0 h1
theorem o_sl_28_h {es : List AVal} {c : Cap} {k : IntKind} {h : Int} (h0 : 0 ≤ h) (h1 : h ≤ es.length) : sliceA E.P 28 (.islice 1 es c) none (some (.lit (.int k h))) none = some (.islice 1 (es.take h.toNat) (cutCap es.length h.toNat 0 c none)) := sl_h rfl rfl h0 h1
theorem hint_35_25 : E.hint 35 25 = false := rfl
theorem o_eqs_9_neq (xo yo : Operand) (a b : ByteArray) : binA E.P .neq 9 xo yo (.lit (.string a)) (.lit (.string b)) = some (.lit (.bool (!(a.toList == b.toList)))) := rfl
theorem cf_19 (a : List AVal) (st : ASt) : callFuncA E.P 19 a st = some (.enter 19 a st) := rfl
theorem cf_14 (a : List AVal) (st : ASt) : callFuncA E.P 14 a st = some (.enter 14 a st) := rfl
theorem o_bd_85 (ps : List (Nat × AVal)) : buildA E.P 85 ps = (fillA (fun i => ([(0, 1), (1, 1), (2, 1), (3, 1)] : List (Nat × Nat))[i]?) [.lit (.slice none 0 0), .lit (.int .i64 0), .lit (.int .i64 0), .lit (.int .i64 0)] ps).map .agg := rfl
theorem cf_43 (a : List AVal) (st : ASt) : callFuncA E.P 43 a st = some (.enter 43 a st) := rfl
theorem o_fap_85_1 (s o : Nat) : fieldA E.P 85 (.ptr s o) 1 = some (.ptr s (o + 1)) := rfl
theorem o_fai_85_1 (cs : List AVal) : fieldA E.P 85 (.iptr (.agg cs)) 1 = (cs[1]?).map .iptr := rfl
theorem o_fap_85_3 (s o : Nat) : fieldA E.P 85 (.ptr s o) 3 = some (.ptr s (o + 3)) := rfl
theorem o_fai_85_3 (cs : List AVal) : fieldA E.P 85 (.iptr (.agg cs)) 3 = (cs[3]?).map .iptr := rfl
theorem o_fap_85_0 (s o : Nat) : fieldA E.P 85 (.ptr s o) 0 = some (.ptr s (o + 0)) := rfl
theorem o_fai_85_0 (cs : List AVal) : fieldA E.P 85 (.iptr (.agg cs)) 0 = (cs[0]?).map .iptr := rfl
theorem o_ldp_28 (st : ASt) (s o : Nat) : loadA E.P 28 st (.ptr s o) = (blkOf (st.heap s)).bind (fun cs => cs[o]?) := ld_one rfl rfl st s o
theorem o_ldi_28 (st : ASt) (v : AVal) : loadA E.P 28 st (.iptr v) = if v.isCell = true then some v else none := rfl
theorem o_cv_3_32 (mt : Bool) (n : Int) (st : ASt) : convA E.P mt 3 32 (.lit (.int .i64 n)) st = some (.lit (.int .u64 (IntKind.u64.wrap n)), st) := c_int rfl rfl
theorem o_al_53 (st : ASt) : allocA E.P 53 st = some (.ptr st.ctr 0, st.new (.cells [.lit (.int .i64 0), .lit (.int .u64 0), .lit (.int .u64 0), .lit (.int .i64 0)])) := rfl
theorem o_st_53 (st : ASt) (s o : Nat) (vs : List AVal) : storeA E.P 53 st (.ptr s o) (.agg vs) = (blkOf (st.heap s)).bind (fun cs => if vs.length = 4 ∧ o + vs.length ≤ cs.length ∧ vs.all AVal.isCell = true then some (st.set s (some (.cells (putL cs o vs)))) else none) := st_agg rfl st s o vs
theorem o_fap_53_1 (s o : Nat) : fieldA E.P 53 (.ptr s o) 1 = some (.ptr s (o + 1)) := rfl
theorem o_fai_53_1 (cs : List AVal) : fieldA E.P 53 (.iptr (.agg cs)) 1 = (cs[1]?).map .iptr := rfl
theorem o_st_32 (st : ASt) (s o : Nat) (v : AVal) : storeA E.P 32 st (.ptr s o) v = if v.isCell = true then (blkOf (st.heap s)).bind (fun cs => if o + 1 ≤ cs.length then some (st.set s (some (.cells (cs.set o v)))) else none) else storeU E.P 32 st (.ptr s o) v := st_one rfl st s o v
theorem o_fap_53_2 (s o : Nat) : fieldA E.P 53 (.ptr s o) 2 = some (.ptr s (o + 2)) := rfl
theorem o_fai_53_2 (cs : List AVal) : fieldA E.P 53 (.iptr (.agg cs)) 2 = (cs[2]?).map .iptr := rfl
theorem o_fap_53_3 (s o : Nat) : fieldA E.P 53 (.ptr s o) 3 = some (.ptr s (o + 3)) := rfl
theorem o_fai_53_3 (cs : List AVal) : fieldA E.P 53 (.iptr (.agg cs)) 3 = (cs[3]?).map .iptr := rfl
theorem o_ldp_53 (st : ASt) (s o : Nat) : loadA E.P 53 st (.ptr s o) = (blkOf (st.heap s)).bind (fun cs => if o + 4 ≤ cs.length then some (.agg ((cs.drop o).take 4)) else none) := ld_agg rfl rfl st s o
theorem o_ldi_53 (st : ASt) (cs : List AVal) : loadA E.P 53 st (.iptr (.agg cs)) = if cs.length = 4 then some (.agg cs) else none := rfl
theorem hint_35_96 : E.hint 35 96 = false := rfl
theorem hint_35_97 : E.hint 35 97 = false := rfl
theorem o_fap_85_2 (s o : Nat) : fieldA E.P 85 (.ptr s o) 2 = some (.ptr s (o + 2)) := rfl
theorem o_fai_85_2 (cs : List AVal) : fieldA E.P 85 (.iptr (.agg cs)) 2 = (cs[2]?).map .iptr := rfl

/-! ### (*braidwork/braidworklaw18.reader).num -/
noncomputable def C43 : Code := (code Try.f43)
noncomputable def S43_0 : Code := .seq ((code Try.f43).fst) (.seq ((code Try.f43).snd.fst.fst) (.seq ((code Try.f43).snd.fst.snd) (.seq ((code Try.f43).snd.snd.fst) ((code Try.f43).snd.snd.snd.fst.fst))))
noncomputable def S43_0_e := (⟨by simp only [S43_0, code, Try.f43, Option.getD_some, Code.fst, Code.snd, Code.bin, Code.lin, Code.sin, Code.yes, Code.no]; exact rfl⟩ : PLift (S43_0 = _))
noncomputable def L43_0 : Code := (code Try.f43).snd.snd.snd.fst.snd.bin.lin
noncomputable def rg43_7 : Code := (code Try.f43).snd.snd.snd.fst.snd.bin.lin.snd.fst.bin.fst
noncomputable def rq43_7 : Code := (code Try.f43).snd.snd.snd.fst.snd.bin.lin.snd.fst.bin.fst
theorem ex43_7 (call : ACall) (n : Nat) (ts : List AVal) (st : ASt) : aexec E 43 call (drawB E 43) n rg43_7 ts st = aops E 43 call rq43_7.ops rq43_7.ops.toList ts st := by
  have d : drawB E 43 rq43_7.ops = true := by kernel_rfl
  have e : rg43_7 = .region 7 rq43_7.ops true := rfl
  rw [e, aexec, d]; rfl
noncomputable def rq43_7_e := (⟨by simp only [rq43_7, code, Try.f43, Option.getD_some, Code.fst, Code.snd, Code.bin, Code.lin, Code.sin, Code.yes, Code.no, Code.ops]; exact rfl⟩ : PLift (rq43_7.ops = _))
noncomputable def S43_1 : Code := .seq ((code Try.f43).snd.snd.snd.fst.snd.bin.lin.fst.fst) (.seq ((code Try.f43).snd.snd.snd.fst.snd.bin.lin.fst.snd) (.seq (.block 1 (.seq rg43_7 (code Try.f43).snd.snd.snd.fst.snd.bin.lin.snd.fst.bin.snd)) ((code Try.f43).snd.snd.snd.fst.snd.bin.lin.snd.snd)))
noncomputable def S43_1_e := (⟨by simp only [S43_1, code, Try.f43, Option.getD_some, Code.fst, Code.snd, Code.bin, Code.lin, Code.sin, Code.yes, Code.no]; exact rfl⟩ : PLift (S43_1 = _))
theorem L43_0_wp {ts : List AVal} {st : ASt} {Q : APost} (h : Wp E 43 S43_1 ts st Q) : Wp E 43 L43_0 ts st Q := by
  have e : ∀ n ts st, aexec E 43 (rw E) (drawB E 43) n L43_0 ts st = aexec E 43 (rw E) (drawB E 43) n (S43_1) ts st := by
    intro n ts st
    have e1 : L43_0 = (.seq (.seq (code Try.f43).snd.snd.snd.fst.snd.bin.lin.fst.fst (code Try.f43).snd.snd.snd.fst.snd.bin.lin.fst.snd) (.seq (.block 1 (.seq rg43_7 (code Try.f43).snd.snd.snd.fst.snd.bin.lin.snd.fst.bin.snd)) (code Try.f43).snd.snd.snd.fst.snd.bin.lin.snd.snd)) := rfl
    rw [e1]
    simp only [S43_1, aexec_seq, aseq_assoc]
  refine aw_congr e ?_
  exact h
noncomputable def S43_2 : Code := .seq ((code Try.f43).snd.snd.snd.snd.fst) (.seq ((code Try.f43).snd.snd.snd.snd.snd.fst) ((code Try.f43).snd.snd.snd.snd.snd.snd))
noncomputable def S43_2_e := (⟨by simp only [S43_2, code, Try.f43, Option.getD_some, Code.fst, Code.snd, Code.bin, Code.lin, Code.sin, Code.yes, Code.no]; exact rfl⟩ : PLift (S43_2 = _))
theorem C43_wp {ts : List AVal} {st : ASt} {Q : APost} (h : Wp E 43 S43_0 ts st (Nx (fun ts st => Wp E 43 (.block 0 (.loop L43_0)) ts st (Nx (fun ts st => Wp E 43 S43_2 ts st Q) Q)) Q)) : Wp E 43 C43 ts st Q := by
  have e : ∀ n ts st, aexec E 43 (rw E) (drawB E 43) n C43 ts st = aexec E 43 (rw E) (drawB E 43) n (.seq S43_0 (.seq (.block 0 (.loop L43_0)) (S43_2))) ts st := by
    intro n ts st
    have e1 : C43 = (.seq (code Try.f43).fst (.seq (.seq (code Try.f43).snd.fst.fst (code Try.f43).snd.fst.snd) (.seq (code Try.f43).snd.snd.fst (.seq (.seq (code Try.f43).snd.snd.snd.fst.fst (.block 0 (.loop L43_0))) (.seq (code Try.f43).snd.snd.snd.snd.fst (.seq (code Try.f43).snd.snd.snd.snd.snd.fst (code Try.f43).snd.snd.snd.snd.snd.snd)))))) := rfl
    rw [e1]
    simp only [S43_0, S43_2, aexec_seq, aseq_assoc]
  refine aw_congr e ?_
  have h0 := h
  exact aw_seq (h0.mono fun e ts st hq => by cases e <;> first | exact hq | (have h1 := hq; exact aw_seq h1))
theorem ce_43 {x0 x1 : AVal} {st : ASt} {r : AEnd × ASt} (h : ∀ g : Nat → AVal, g 0 = x0 → g 1 = x1 → Wp E 43 C43 (Sl 103 g) st (fun e ts st => aend E Try.f43 (some (e, ts, st)) = some r)) : rw E 43 [x0, x1] st = some r :=
  ce_of (fn := Try.f43) (c := C43) rfl rfl rfl (Nat.le_of_ble_eq_true rfl) fun g hg => h g (hg 0 x0 rfl) (hg 1 x1 rfl)
theorem cx_43 {x0 x1 : AVal} {st : ASt} {R : AEnd → ASt → Prop} (h : ∀ g : Nat → AVal, g 0 = x0 → g 1 = x1 → Wp E 43 C43 (Sl 103 g) st (fun e ts st => ∃ r st', aend E Try.f43 (some (e, ts, st)) = some (r, st') ∧ R r st')) : ∃ r st', rw E 43 [x0, x1] st = some (r, st') ∧ R r st' :=
  cx_of (fn := Try.f43) (c := C43) rfl rfl rfl (Nat.le_of_ble_eq_true rfl) fun g hg => h g (hg 0 x0 rfl) (hg 1 x1 rfl)
theorem o_ixi_28 (sz : Nat) (es : List AVal) (c : Cap) (k : IntKind) (i : Int) : indexA E.P 28 (.islice sz es c) (.lit (.int k i)) = if 0 ≤ i ∧ i < es.length ∧ some 1 = some sz then (es[i.toNat]?).map .iptr else none := rfl
theorem o_ixs_28 (s o l sz : Nat) (c : Option Nat) (k : IntKind) (i : Int) : indexA E.P 28 (.slice s o l sz c) (.lit (.int k i)) = if 0 ≤ i ∧ i < l then some (.ptr s (o + i.toNat * 1)) else none := rfl
theorem o_ldp_5 (st : ASt) (s o : Nat) : loadA E.P 5 st (.ptr s o) = (blkOf (st.heap s)).bind (fun cs => cs[o]?) := ld_one rfl rfl st s o
theorem o_ldi_5 (st : ASt) (v : AVal) : loadA E.P 5 st (.iptr v) = if v.isCell = true then some v else none := rfl
theorem o_cv_5_32 (mt : Bool) (n : Int) (st : ASt) : convA E.P mt 5 32 (.lit (.int .u8 n)) st = some (.lit (.int .u64 (IntKind.u64.wrap n)), st) := c_int rfl rfl

/-! ### braidwork/braidworklaw18.Tells -/
noncomputable def C18 : Code := (code Try.f18)
noncomputable def S18_0 : Code := .seq ((code Try.f18).fst) (.seq ((code Try.f18).snd.fst) (.seq ((code Try.f18).snd.snd.fst) ((code Try.f18).snd.snd.snd.fst.fst)))
noncomputable def S18_0_e := (⟨by simp only [S18_0, code, Try.f18, Option.getD_some, Code.fst, Code.snd, Code.bin, Code.lin, Code.sin, Code.yes, Code.no]; exact rfl⟩ : PLift (S18_0 = _))
noncomputable def L18_0 : Code := (code Try.f18).snd.snd.snd.fst.snd.bin.lin
noncomputable def S18_1 : Code := .seq ((code Try.f18).snd.snd.snd.fst.snd.bin.lin.fst) ((code Try.f18).snd.snd.snd.fst.snd.bin.lin.snd.fst)
noncomputable def S18_1_e := (⟨by simp only [S18_1, code, Try.f18, Option.getD_some, Code.fst, Code.snd, Code.bin, Code.lin, Code.sin, Code.yes, Code.no]; exact rfl⟩ : PLift (S18_1 = _))
noncomputable def B18_1 : Code := (code Try.f18).snd.snd.snd.fst.snd.bin.lin.snd.snd.fst.bin
noncomputable def S18_2 : Code := .seq ((code Try.f18).snd.snd.snd.fst.snd.bin.lin.snd.snd.fst.bin.fst) ((code Try.f18).snd.snd.snd.fst.snd.bin.lin.snd.snd.fst.bin.snd.fst)
noncomputable def S18_2_e := (⟨by simp only [S18_2, code, Try.f18, Option.getD_some, Code.fst, Code.snd, Code.bin, Code.lin, Code.sin, Code.yes, Code.no]; exact rfl⟩ : PLift (S18_2 = _))
noncomputable def L18_2 : Code := (code Try.f18).snd.snd.snd.fst.snd.bin.lin.snd.snd.fst.bin.snd.snd.bin.lin
noncomputable def S18_3 : Code := .seq ((code Try.f18).snd.snd.snd.fst.snd.bin.lin.snd.snd.fst.bin.snd.snd.bin.lin.fst) (.seq ((code Try.f18).snd.snd.snd.fst.snd.bin.lin.snd.snd.fst.bin.snd.snd.bin.lin.snd.fst) (.seq ((code Try.f18).snd.snd.snd.fst.snd.bin.lin.snd.snd.fst.bin.snd.snd.bin.lin.snd.snd.fst) ((code Try.f18).snd.snd.snd.fst.snd.bin.lin.snd.snd.fst.bin.snd.snd.bin.lin.snd.snd.snd)))
noncomputable def S18_3_e := (⟨by simp only [S18_3, code, Try.f18, Option.getD_some, Code.fst, Code.snd, Code.bin, Code.lin, Code.sin, Code.yes, Code.no]; exact rfl⟩ : PLift (S18_3 = _))
theorem L18_2_wp {ts : List AVal} {st : ASt} {Q : APost} (h : Wp E 18 S18_3 ts st Q) : Wp E 18 L18_2 ts st Q := by
  have e : ∀ n ts st, aexec E 18 (rw E) (drawB E 18) n L18_2 ts st = aexec E 18 (rw E) (drawB E 18) n (S18_3) ts st := by
    intro n ts st
    have e1 : L18_2 = (.seq (code Try.f18).snd.snd.snd.fst.snd.bin.lin.snd.snd.fst.bin.snd.snd.bin.lin.fst (.seq (code Try.f18).snd.snd.snd.fst.snd.bin.lin.snd.snd.fst.bin.snd.snd.bin.lin.snd.fst (.seq (code Try.f18).snd.snd.snd.fst.snd.bin.lin.snd.snd.fst.bin.snd.snd.bin.lin.snd.snd.fst (code Try.f18).snd.snd.snd.fst.snd.bin.lin.snd.snd.fst.bin.snd.snd.bin.lin.snd.snd.snd))) := rfl
    rw [e1]
    simp only [S18_3, aexec_seq, aseq_assoc]
  refine aw_congr e ?_
  exact h
theorem B18_1_wp {ts : List AVal} {st : ASt} {Q : APost} (h : Wp E 18 S18_2 ts st (Nx (fun ts st => Wp E 18 (.block 2 (.loop L18_2)) ts st Q) Q)) : Wp E 18 B18_1 ts st Q := by
  have e : ∀ n ts st, aexec E 18 (rw E) (drawB E 18) n B18_1 ts st = aexec E 18 (rw E) (drawB E 18) n (.seq S18_2 ((.block 2 (.loop L18_2)))) ts st := by
    intro n ts st
    have e1 : B18_1 = (.seq (code Try.f18).snd.snd.snd.fst.snd.bin.lin.snd.snd.fst.bin.fst (.seq (code Try.f18).snd.snd.snd.fst.snd.bin.lin.snd.snd.fst.bin.snd.fst (.block 2 (.loop L18_2)))) := rfl
    rw [e1]
    simp only [S18_2, aexec_seq, aseq_assoc]
  refine aw_congr e ?_
  have h0 := h
  exact aw_seq h0
noncomputable def S18_4 : Code := (code Try.f18).snd.snd.snd.fst.snd.bin.lin.snd.snd.snd
noncomputable def S18_4_e := (⟨by simp only [S18_4, code, Try.f18, Option.getD_some, Code.fst, Code.snd, Code.bin, Code.lin, Code.sin, Code.yes, Code.no]; exact rfl⟩ : PLift (S18_4 = _))
theorem L18_0_wp {ts : List AVal} {st : ASt} {Q : APost} (h : Wp E 18 S18_1 ts st (Nx (fun ts st => Wp E 18 (.block 1 B18_1) ts st (Nx (fun ts st => Wp E 18 S18_4 ts st Q) Q)) Q)) : Wp E 18 L18_0 ts st Q := by
  have e : ∀ n ts st, aexec E 18 (rw E) (drawB E 18) n L18_0 ts st = aexec E 18 (rw E) (drawB E 18) n (.seq S18_1 (.seq (.block 1 B18_1) (S18_4))) ts st := by
    intro n ts st
    have e1 : L18_0 = (.seq (code Try.f18).snd.snd.snd.fst.snd.bin.lin.fst (.seq (code Try.f18).snd.snd.snd.fst.snd.bin.lin.snd.fst (.seq (.block 1 B18_1) (code Try.f18).snd.snd.snd.fst.snd.bin.lin.snd.snd.snd))) := rfl
    rw [e1]
    simp only [S18_1, S18_4, aexec_seq, aseq_assoc]
  refine aw_congr e ?_
  have h0 := h
  exact aw_seq (h0.mono fun e ts st hq => by cases e <;> first | exact hq | (have h1 := hq; exact aw_seq h1))
noncomputable def S18_5 : Code := .seq ((code Try.f18).snd.snd.snd.snd.fst) ((code Try.f18).snd.snd.snd.snd.snd)
noncomputable def S18_5_e := (⟨by simp only [S18_5, code, Try.f18, Option.getD_some, Code.fst, Code.snd, Code.bin, Code.lin, Code.sin, Code.yes, Code.no]; exact rfl⟩ : PLift (S18_5 = _))
theorem C18_wp {ts : List AVal} {st : ASt} {Q : APost} (h : Wp E 18 S18_0 ts st (Nx (fun ts st => Wp E 18 (.block 0 (.loop L18_0)) ts st (Nx (fun ts st => Wp E 18 S18_5 ts st Q) Q)) Q)) : Wp E 18 C18 ts st Q := by
  have e : ∀ n ts st, aexec E 18 (rw E) (drawB E 18) n C18 ts st = aexec E 18 (rw E) (drawB E 18) n (.seq S18_0 (.seq (.block 0 (.loop L18_0)) (S18_5))) ts st := by
    intro n ts st
    have e1 : C18 = (.seq (code Try.f18).fst (.seq (code Try.f18).snd.fst (.seq (code Try.f18).snd.snd.fst (.seq (.seq (code Try.f18).snd.snd.snd.fst.fst (.block 0 (.loop L18_0))) (.seq (code Try.f18).snd.snd.snd.snd.fst (code Try.f18).snd.snd.snd.snd.snd))))) := rfl
    rw [e1]
    simp only [S18_0, S18_5, aexec_seq, aseq_assoc]
  refine aw_congr e ?_
  have h0 := h
  exact aw_seq (h0.mono fun e ts st hq => by cases e <;> first | exact hq | (have h1 := hq; exact aw_seq h1))
theorem ce_18 {x0 x1 : AVal} {st : ASt} {r : AEnd × ASt} (h : ∀ g : Nat → AVal, g 0 = x0 → g 1 = x1 → Wp E 18 C18 (Sl 52 g) st (fun e ts st => aend E Try.f18 (some (e, ts, st)) = some r)) : rw E 18 [x0, x1] st = some r :=
  ce_of (fn := Try.f18) (c := C18) rfl rfl rfl (Nat.le_of_ble_eq_true rfl) fun g hg => h g (hg 0 x0 rfl) (hg 1 x1 rfl)
theorem cx_18 {x0 x1 : AVal} {st : ASt} {R : AEnd → ASt → Prop} (h : ∀ g : Nat → AVal, g 0 = x0 → g 1 = x1 → Wp E 18 C18 (Sl 52 g) st (fun e ts st => ∃ r st', aend E Try.f18 (some (e, ts, st)) = some (r, st') ∧ R r st')) : ∃ r st', rw E 18 [x0, x1] st = some (r, st') ∧ R r st' :=
  cx_of (fn := Try.f18) (c := C18) rfl rfl rfl (Nat.le_of_ble_eq_true rfl) fun g hg => h g (hg 0 x0 rfl) (hg 1 x1 rfl)
theorem hint_18_10 : E.hint 18 10 = true := rfl
theorem o_bsm_28_4 (ps : List (Nat × AVal)) (st : ASt) : buildSliceA E.P true 28 4 ps st = (setsE false 1 [(.lit (.int .u8 0)), (.lit (.int .u8 0)), (.lit (.int .u8 0)), (.lit (.int .u8 0))] ps).map (fun es => (.slice st.ctr 0 4 1 (some 4), st.new (.cells (flatE es)))) := bs_m rfl rfl rfl rfl (by decide) rfl ps st
theorem hint_18_11 : E.hint 18 11 = false := rfl
theorem o_cv_22_32 (mt : Bool) (n : Int) (st : ASt) : convA E.P mt 22 32 (.lit (.int .u32 n)) st = some (.lit (.int .u64 (IntKind.u64.wrap n)), st) := c_int rfl rfl
theorem cf_33 (a : List AVal) (st : ASt) : callFuncA E.P 33 a st = some (.enter 33 a st) := rfl
theorem hint_18_15 : E.hint 18 15 = false := rfl
theorem o_leni_26 (mt : Bool) (ty : TypeId) (cs : Array Bool) (sz : Nat) (es : List AVal) (c : Cap) (st : ASt) : builtinA E.P mt .len #[26] ty cs [.islice sz es c] st = some (.val (.lit (.int .i64 es.length)) st) := rfl
theorem o_lens_26 (mt : Bool) (ty : TypeId) (cs : Array Bool) (s o l sz : Nat) (c : Option Nat) (st : ASt) : builtinA E.P mt .len #[26] ty cs [.slice s o l sz c] st = some (.val (.lit (.int .i64 l)) st) := rfl
theorem o_lenn_26 (mt : Bool) (ty : TypeId) (cs : Array Bool) (a : Option Addr) (st : ASt) : builtinA E.P mt .len #[26] ty cs [.lit (.slice a 0 0)] st = some (.val (.lit (.int .i64 0)) st) := len_nil rfl _ _ _ _ _
theorem hint_18_21 : E.hint 18 21 = false := rfl
theorem o_ixi_26 (sz : Nat) (es : List AVal) (c : Cap) (k : IntKind) (i : Int) : indexA E.P 26 (.islice sz es c) (.lit (.int k i)) = if 0 ≤ i ∧ i < es.length ∧ some 4 = some sz then (es[i.toNat]?).map .iptr else none := rfl
theorem o_ixs_26 (s o l sz : Nat) (c : Option Nat) (k : IntKind) (i : Int) : indexA E.P 26 (.slice s o l sz c) (.lit (.int k i)) = if 0 ≤ i ∧ i < l then some (.ptr s (o + i.toNat * 4)) else none := rfl
theorem o_fap_53_0 (s o : Nat) : fieldA E.P 53 (.ptr s o) 0 = some (.ptr s (o + 0)) := rfl
theorem o_fai_53_0 (cs : List AVal) : fieldA E.P 53 (.iptr (.agg cs)) 0 = (cs[0]?).map .iptr := rfl
theorem o_ldp_32 (st : ASt) (s o : Nat) : loadA E.P 32 st (.ptr s o) = (blkOf (st.heap s)).bind (fun cs => cs[o]?) := ld_one rfl rfl st s o
theorem o_ldi_32 (st : ASt) (v : AVal) : loadA E.P 32 st (.iptr v) = if v.isCell = true then some v else none := rfl
theorem hint_18_38 : E.hint 18 38 = false := rfl
theorem o_bs_69_4 (ps : List (Nat × AVal)) (st : ASt) : buildSliceA E.P false 69 4 ps st = (setsE false 1 [(.lit (.int .u64 0)), (.lit (.int .u64 0)), (.lit (.int .u64 0)), (.lit (.int .u64 0))] ps).map (fun es => (.islice 1 es .exact, st)) := bs_i rfl rfl rfl rfl (by decide) rfl ps st
theorem o_leni_69 (mt : Bool) (ty : TypeId) (cs : Array Bool) (sz : Nat) (es : List AVal) (c : Cap) (st : ASt) : builtinA E.P mt .len #[69] ty cs [.islice sz es c] st = some (.val (.lit (.int .i64 es.length)) st) := rfl
theorem o_lens_69 (mt : Bool) (ty : TypeId) (cs : Array Bool) (s o l sz : Nat) (c : Option Nat) (st : ASt) : builtinA E.P mt .len #[69] ty cs [.slice s o l sz c] st = some (.val (.lit (.int .i64 l)) st) := rfl
theorem o_lenn_69 (mt : Bool) (ty : TypeId) (cs : Array Bool) (a : Option Addr) (st : ASt) : builtinA E.P mt .len #[69] ty cs [.lit (.slice a 0 0)] st = some (.val (.lit (.int .i64 0)) st) := len_nil rfl _ _ _ _ _
theorem o_ixi_69 (sz : Nat) (es : List AVal) (c : Cap) (k : IntKind) (i : Int) : indexA E.P 69 (.islice sz es c) (.lit (.int k i)) = if 0 ≤ i ∧ i < es.length ∧ some 1 = some sz then (es[i.toNat]?).map .iptr else none := rfl
theorem o_ixs_69 (s o l sz : Nat) (c : Option Nat) (k : IntKind) (i : Int) : indexA E.P 69 (.slice s o l sz c) (.lit (.int k i)) = if 0 ≤ i ∧ i < l then some (.ptr s (o + i.toNat * 1)) else none := rfl
theorem hint_18_47 : E.hint 18 47 = false := rfl

/-! ### slices.Concat[[]byte,byte] -/
noncomputable def C21 : Code := (code Try.f21)
noncomputable def S21_0 : Code := .seq ((code Try.f21).fst) (.seq ((code Try.f21).snd.fst) ((code Try.f21).snd.snd.fst.fst))
noncomputable def S21_0_e := (⟨by simp only [S21_0, code, Try.f21, Option.getD_some, Code.fst, Code.snd, Code.bin, Code.lin, Code.sin, Code.yes, Code.no]; exact rfl⟩ : PLift (S21_0 = _))
noncomputable def L21_0 : Code := (code Try.f21).snd.snd.fst.snd.bin.lin
noncomputable def S21_1 : Code := .seq ((code Try.f21).snd.snd.fst.snd.bin.lin.fst) (.seq ((code Try.f21).snd.snd.fst.snd.bin.lin.snd.fst) (.seq ((code Try.f21).snd.snd.fst.snd.bin.lin.snd.snd.fst) ((code Try.f21).snd.snd.fst.snd.bin.lin.snd.snd.snd)))
noncomputable def S21_1_e := (⟨by simp only [S21_1, code, Try.f21, Option.getD_some, Code.fst, Code.snd, Code.bin, Code.lin, Code.sin, Code.yes, Code.no]; exact rfl⟩ : PLift (S21_1 = _))
theorem L21_0_wp {ts : List AVal} {st : ASt} {Q : APost} (h : Wp E 21 S21_1 ts st Q) : Wp E 21 L21_0 ts st Q := by
  have e : ∀ n ts st, aexec E 21 (rw E) (drawB E 21) n L21_0 ts st = aexec E 21 (rw E) (drawB E 21) n (S21_1) ts st := by
    intro n ts st
    have e1 : L21_0 = (.seq (code Try.f21).snd.snd.fst.snd.bin.lin.fst (.seq (code Try.f21).snd.snd.fst.snd.bin.lin.snd.fst (.seq (code Try.f21).snd.snd.fst.snd.bin.lin.snd.snd.fst (code Try.f21).snd.snd.fst.snd.bin.lin.snd.snd.snd))) := rfl
    rw [e1]
    simp only [S21_1, aexec_seq, aseq_assoc]
  refine aw_congr e ?_
  exact h
noncomputable def S21_2 : Code := .seq ((code Try.f21).snd.snd.snd.fst) ((code Try.f21).snd.snd.snd.snd.fst.fst)
noncomputable def S21_2_e := (⟨by simp only [S21_2, code, Try.f21, Option.getD_some, Code.fst, Code.snd, Code.bin, Code.lin, Code.sin, Code.yes, Code.no]; exact rfl⟩ : PLift (S21_2 = _))
noncomputable def L21_1 : Code := (code Try.f21).snd.snd.snd.snd.fst.snd.bin.lin
noncomputable def S21_3 : Code := .seq ((code Try.f21).snd.snd.snd.snd.fst.snd.bin.lin.fst) (.seq ((code Try.f21).snd.snd.snd.snd.fst.snd.bin.lin.snd.fst) (.seq ((code Try.f21).snd.snd.snd.snd.fst.snd.bin.lin.snd.snd.fst) ((code Try.f21).snd.snd.snd.snd.fst.snd.bin.lin.snd.snd.snd)))
noncomputable def S21_3_e := (⟨by simp only [S21_3, code, Try.f21, Option.getD_some, Code.fst, Code.snd, Code.bin, Code.lin, Code.sin, Code.yes, Code.no]; exact rfl⟩ : PLift (S21_3 = _))
theorem L21_1_wp {ts : List AVal} {st : ASt} {Q : APost} (h : Wp E 21 S21_3 ts st Q) : Wp E 21 L21_1 ts st Q := by
  have e : ∀ n ts st, aexec E 21 (rw E) (drawB E 21) n L21_1 ts st = aexec E 21 (rw E) (drawB E 21) n (S21_3) ts st := by
    intro n ts st
    have e1 : L21_1 = (.seq (code Try.f21).snd.snd.snd.snd.fst.snd.bin.lin.fst (.seq (code Try.f21).snd.snd.snd.snd.fst.snd.bin.lin.snd.fst (.seq (code Try.f21).snd.snd.snd.snd.fst.snd.bin.lin.snd.snd.fst (code Try.f21).snd.snd.snd.snd.fst.snd.bin.lin.snd.snd.snd))) := rfl
    rw [e1]
    simp only [S21_3, aexec_seq, aseq_assoc]
  refine aw_congr e ?_
  exact h
noncomputable def S21_4 : Code := .seq ((code Try.f21).snd.snd.snd.snd.snd.fst) ((code Try.f21).snd.snd.snd.snd.snd.snd)
noncomputable def S21_4_e := (⟨by simp only [S21_4, code, Try.f21, Option.getD_some, Code.fst, Code.snd, Code.bin, Code.lin, Code.sin, Code.yes, Code.no]; exact rfl⟩ : PLift (S21_4 = _))
theorem C21_wp {ts : List AVal} {st : ASt} {Q : APost} (h : Wp E 21 S21_0 ts st (Nx (fun ts st => Wp E 21 (.block 0 (.loop L21_0)) ts st (Nx (fun ts st => Wp E 21 S21_2 ts st (Nx (fun ts st => Wp E 21 (.block 2 (.loop L21_1)) ts st (Nx (fun ts st => Wp E 21 S21_4 ts st Q) Q)) Q)) Q)) Q)) : Wp E 21 C21 ts st Q := by
  have e : ∀ n ts st, aexec E 21 (rw E) (drawB E 21) n C21 ts st = aexec E 21 (rw E) (drawB E 21) n (.seq S21_0 (.seq (.block 0 (.loop L21_0)) (.seq S21_2 (.seq (.block 2 (.loop L21_1)) (S21_4))))) ts st := by
    intro n ts st
    have e1 : C21 = (.seq (code Try.f21).fst (.seq (code Try.f21).snd.fst (.seq (.seq (code Try.f21).snd.snd.fst.fst (.block 0 (.loop L21_0))) (.seq (code Try.f21).snd.snd.snd.fst (.seq (.seq (code Try.f21).snd.snd.snd.snd.fst.fst (.block 2 (.loop L21_1))) (.seq (code Try.f21).snd.snd.snd.snd.snd.fst (code Try.f21).snd.snd.snd.snd.snd.snd)))))) := rfl
    rw [e1]
    simp only [S21_0, S21_2, S21_4, aexec_seq, aseq_assoc]
  refine aw_congr e ?_
  have h0 := h
  exact aw_seq (h0.mono fun e ts st hq => by cases e <;> first | exact hq | (have h1 := hq; exact aw_seq (h1.mono fun e ts st hq => by cases e <;> first | exact hq | (have h2 := hq; exact aw_seq (h2.mono fun e ts st hq => by cases e <;> first | exact hq | (have h3 := hq; exact aw_seq h3))))))
theorem ce_21 {x0 : AVal} {st : ASt} {r : AEnd × ASt} (h : ∀ g : Nat → AVal, g 0 = x0 → Wp E 21 C21 (Sl 36 g) st (fun e ts st => aend E Try.f21 (some (e, ts, st)) = some r)) : rw E 21 [x0] st = some r :=
  ce_of (fn := Try.f21) (c := C21) rfl rfl rfl (Nat.le_of_ble_eq_true rfl) fun g hg => h g (hg 0 x0 rfl)
theorem cx_21 {x0 : AVal} {st : ASt} {R : AEnd → ASt → Prop} (h : ∀ g : Nat → AVal, g 0 = x0 → Wp E 21 C21 (Sl 36 g) st (fun e ts st => ∃ r st', aend E Try.f21 (some (e, ts, st)) = some (r, st') ∧ R r st')) : ∃ r st', rw E 21 [x0] st = some (r, st') ∧ R r st' :=
  cx_of (fn := Try.f21) (c := C21) rfl rfl rfl (Nat.le_of_ble_eq_true rfl) fun g hg => h g (hg 0 x0 rfl)
theorem o_leni_70 (mt : Bool) (ty : TypeId) (cs : Array Bool) (sz : Nat) (es : List AVal) (c : Cap) (st : ASt) : builtinA E.P mt .len #[70] ty cs [.islice sz es c] st = some (.val (.lit (.int .i64 es.length)) st) := rfl
theorem o_lens_70 (mt : Bool) (ty : TypeId) (cs : Array Bool) (s o l sz : Nat) (c : Option Nat) (st : ASt) : builtinA E.P mt .len #[70] ty cs [.slice s o l sz c] st = some (.val (.lit (.int .i64 l)) st) := rfl
theorem o_lenn_70 (mt : Bool) (ty : TypeId) (cs : Array Bool) (a : Option Addr) (st : ASt) : builtinA E.P mt .len #[70] ty cs [.lit (.slice a 0 0)] st = some (.val (.lit (.int .i64 0)) st) := len_nil rfl _ _ _ _ _
theorem o_ixi_70 (sz : Nat) (es : List AVal) (c : Cap) (k : IntKind) (i : Int) : indexA E.P 70 (.islice sz es c) (.lit (.int k i)) = if 0 ≤ i ∧ i < es.length ∧ some 1 = some sz then (es[i.toNat]?).map .iptr else none := rfl
theorem o_ixs_70 (s o l sz : Nat) (c : Option Nat) (k : IntKind) (i : Int) : indexA E.P 70 (.slice s o l sz c) (.lit (.int k i)) = if 0 ≤ i ∧ i < l then some (.ptr s (o + i.toNat * 1)) else none := rfl
theorem cf_36 (a : List AVal) (st : ASt) : callFuncA E.P 36 a st = some (.enter 36 a st) := rfl
theorem hint_21_33 : E.hint 21 33 = false := rfl

/-! ### slices.Grow[[]byte,byte] -/
noncomputable def C36 : Code := (code Try.f36)
noncomputable def S36_0 : Code := .seq ((code Try.f36).fst) (.seq ((code Try.f36).snd.fst.fst) (.seq ((code Try.f36).snd.fst.snd) (.seq ((code Try.f36).snd.snd.fst.fst) (.seq ((code Try.f36).snd.snd.fst.snd.fst) (.seq ((code Try.f36).snd.snd.fst.snd.snd) (.seq ((code Try.f36).snd.snd.snd.fst) ((code Try.f36).snd.snd.snd.snd)))))))
noncomputable def S36_0_e := (⟨by simp only [S36_0, code, Try.f36, Option.getD_some, Code.fst, Code.snd, Code.bin, Code.lin, Code.sin, Code.yes, Code.no]; exact rfl⟩ : PLift (S36_0 = _))
theorem C36_wp {ts : List AVal} {st : ASt} {Q : APost} (h : Wp E 36 S36_0 ts st Q) : Wp E 36 C36 ts st Q := by
  have e : ∀ n ts st, aexec E 36 (rw E) (drawB E 36) n C36 ts st = aexec E 36 (rw E) (drawB E 36) n (S36_0) ts st := by
    intro n ts st
    have e1 : C36 = (.seq (code Try.f36).fst (.seq (.seq (code Try.f36).snd.fst.fst (code Try.f36).snd.fst.snd) (.seq (.seq (code Try.f36).snd.snd.fst.fst (.seq (code Try.f36).snd.snd.fst.snd.fst (code Try.f36).snd.snd.fst.snd.snd)) (.seq (code Try.f36).snd.snd.snd.fst (code Try.f36).snd.snd.snd.snd)))) := rfl
    rw [e1]
    simp only [S36_0, aexec_seq, aseq_assoc]
  refine aw_congr e ?_
  exact h
theorem ce_36 {x0 x1 : AVal} {st : ASt} {r : AEnd × ASt} (h : ∀ g : Nat → AVal, g 0 = x0 → g 1 = x1 → Wp E 36 C36 (Sl 27 g) st (fun e ts st => aend E Try.f36 (some (e, ts, st)) = some r)) : rw E 36 [x0, x1] st = some r :=
  ce_of (fn := Try.f36) (c := C36) rfl rfl rfl (Nat.le_of_ble_eq_true rfl) fun g hg => h g (hg 0 x0 rfl) (hg 1 x1 rfl)
theorem cx_36 {x0 x1 : AVal} {st : ASt} {R : AEnd → ASt → Prop} (h : ∀ g : Nat → AVal, g 0 = x0 → g 1 = x1 → Wp E 36 C36 (Sl 27 g) st (fun e ts st => ∃ r st', aend E Try.f36 (some (e, ts, st)) = some (r, st') ∧ R r st')) : ∃ r st', rw E 36 [x0, x1] st = some (r, st') ∧ R r st' :=
  cx_of (fn := Try.f36) (c := C36) rfl rfl rfl (Nat.le_of_ble_eq_true rfl) fun g hg => h g (hg 0 x0 rfl) (hg 1 x1 rfl)
theorem hint_36_22 : E.hint 36 22 = true := rfl

/-! ### braidwork/braidworklaw18.CertBack -/
noncomputable def C6 : Code := (code Try.f6)
noncomputable def S6_0 : Code := .seq ((code Try.f6).fst) (.seq ((code Try.f6).snd.fst.fst) (.seq ((code Try.f6).snd.fst.snd) (.seq ((code Try.f6).snd.snd.fst.fst) (.seq ((code Try.f6).snd.snd.fst.snd) (.seq ((code Try.f6).snd.snd.snd.fst) (.seq ((code Try.f6).snd.snd.snd.snd.fst) (.seq ((code Try.f6).snd.snd.snd.snd.snd.fst) (.seq ((code Try.f6).snd.snd.snd.snd.snd.snd.fst) ((code Try.f6).snd.snd.snd.snd.snd.snd.snd)))))))))
noncomputable def S6_0_e := (⟨by simp only [S6_0, code, Try.f6, Option.getD_some, Code.fst, Code.snd, Code.bin, Code.lin, Code.sin, Code.yes, Code.no]; exact rfl⟩ : PLift (S6_0 = _))
theorem C6_wp {ts : List AVal} {st : ASt} {Q : APost} (h : Wp E 6 S6_0 ts st Q) : Wp E 6 C6 ts st Q := by
  have e : ∀ n ts st, aexec E 6 (rw E) (drawB E 6) n C6 ts st = aexec E 6 (rw E) (drawB E 6) n (S6_0) ts st := by
    intro n ts st
    have e1 : C6 = (.seq (code Try.f6).fst (.seq (.seq (code Try.f6).snd.fst.fst (code Try.f6).snd.fst.snd) (.seq (.seq (code Try.f6).snd.snd.fst.fst (code Try.f6).snd.snd.fst.snd) (.seq (code Try.f6).snd.snd.snd.fst (.seq (code Try.f6).snd.snd.snd.snd.fst (.seq (code Try.f6).snd.snd.snd.snd.snd.fst (.seq (code Try.f6).snd.snd.snd.snd.snd.snd.fst (code Try.f6).snd.snd.snd.snd.snd.snd.snd))))))) := rfl
    rw [e1]
    simp only [S6_0, aexec_seq, aseq_assoc]
  refine aw_congr e ?_
  exact h
theorem ce_6 {x0 x1 : AVal} {st : ASt} {r : AEnd × ASt} (h : ∀ g : Nat → AVal, g 0 = x0 → g 1 = x1 → Wp E 6 C6 (Sl 51 g) st (fun e ts st => aend E Try.f6 (some (e, ts, st)) = some r)) : rw E 6 [x0, x1] st = some r :=
  ce_of (fn := Try.f6) (c := C6) rfl rfl rfl (Nat.le_of_ble_eq_true rfl) fun g hg => h g (hg 0 x0 rfl) (hg 1 x1 rfl)
theorem cx_6 {x0 x1 : AVal} {st : ASt} {R : AEnd → ASt → Prop} (h : ∀ g : Nat → AVal, g 0 = x0 → g 1 = x1 → Wp E 6 C6 (Sl 51 g) st (fun e ts st => ∃ r st', aend E Try.f6 (some (e, ts, st)) = some (r, st') ∧ R r st')) : ∃ r st', rw E 6 [x0, x1] st = some (r, st') ∧ R r st' :=
  cx_of (fn := Try.f6) (c := C6) rfl rfl rfl (Nat.le_of_ble_eq_true rfl) fun g hg => h g (hg 0 x0 rfl) (hg 1 x1 rfl)
theorem cf_9 (a : List AVal) (st : ASt) : callFuncA E.P 9 a st = some (.enter 9 a st) := rfl
theorem o_leni_23 (mt : Bool) (ty : TypeId) (cs : Array Bool) (sz : Nat) (es : List AVal) (c : Cap) (st : ASt) : builtinA E.P mt .len #[23] ty cs [.islice sz es c] st = some (.val (.lit (.int .i64 es.length)) st) := rfl
theorem o_lens_23 (mt : Bool) (ty : TypeId) (cs : Array Bool) (s o l sz : Nat) (c : Option Nat) (st : ASt) : builtinA E.P mt .len #[23] ty cs [.slice s o l sz c] st = some (.val (.lit (.int .i64 l)) st) := rfl
theorem o_lenn_23 (mt : Bool) (ty : TypeId) (cs : Array Bool) (a : Option Addr) (st : ASt) : builtinA E.P mt .len #[23] ty cs [.lit (.slice a 0 0)] st = some (.val (.lit (.int .i64 0)) st) := len_nil rfl _ _ _ _ _
theorem cf_10 (a : List AVal) (st : ASt) : callFuncA E.P 10 a st = some (.enter 10 a st) := rfl
theorem cf_12 (a : List AVal) (st : ASt) : callFuncA E.P 12 a st = some (.enter 12 a st) := rfl
theorem cf_18 (a : List AVal) (st : ASt) : callFuncA E.P 18 a st = some (.enter 18 a st) := rfl

/-! ### braidwork/braidworklaw18.CertDecodes -/
noncomputable def C7 : Code := (code Try.f7)
noncomputable def S7_0 : Code := .seq ((code Try.f7).fst) (.seq ((code Try.f7).snd.fst.fst) (.seq ((code Try.f7).snd.fst.snd) (.seq ((code Try.f7).snd.snd.fst.fst) (.seq ((code Try.f7).snd.snd.fst.snd) (.seq ((code Try.f7).snd.snd.snd.fst.fst) (.seq ((code Try.f7).snd.snd.snd.fst.snd) (.seq ((code Try.f7).snd.snd.snd.snd.fst.fst) (.seq ((code Try.f7).snd.snd.snd.snd.fst.snd) (.seq ((code Try.f7).snd.snd.snd.snd.snd.fst) ((code Try.f7).snd.snd.snd.snd.snd.snd))))))))))
noncomputable def S7_0_e := (⟨by simp only [S7_0, code, Try.f7, Option.getD_some, Code.fst, Code.snd, Code.bin, Code.lin, Code.sin, Code.yes, Code.no]; exact rfl⟩ : PLift (S7_0 = _))
theorem C7_wp {ts : List AVal} {st : ASt} {Q : APost} (h : Wp E 7 S7_0 ts st Q) : Wp E 7 C7 ts st Q := by
  have e : ∀ n ts st, aexec E 7 (rw E) (drawB E 7) n C7 ts st = aexec E 7 (rw E) (drawB E 7) n (S7_0) ts st := by
    intro n ts st
    have e1 : C7 = (.seq (code Try.f7).fst (.seq (.seq (code Try.f7).snd.fst.fst (code Try.f7).snd.fst.snd) (.seq (.seq (code Try.f7).snd.snd.fst.fst (code Try.f7).snd.snd.fst.snd) (.seq (.seq (code Try.f7).snd.snd.snd.fst.fst (code Try.f7).snd.snd.snd.fst.snd) (.seq (.seq (code Try.f7).snd.snd.snd.snd.fst.fst (code Try.f7).snd.snd.snd.snd.fst.snd) (.seq (code Try.f7).snd.snd.snd.snd.snd.fst (code Try.f7).snd.snd.snd.snd.snd.snd)))))) := rfl
    rw [e1]
    simp only [S7_0, aexec_seq, aseq_assoc]
  refine aw_congr e ?_
  exact h
theorem ce_7 {x0 x1 x2 : AVal} {st : ASt} {r : AEnd × ASt} (h : ∀ g : Nat → AVal, g 0 = x0 → g 1 = x1 → g 2 = x2 → Wp E 7 C7 (Sl 22 g) st (fun e ts st => aend E Try.f7 (some (e, ts, st)) = some r)) : rw E 7 [x0, x1, x2] st = some r :=
  ce_of (fn := Try.f7) (c := C7) rfl rfl rfl (Nat.le_of_ble_eq_true rfl) fun g hg => h g (hg 0 x0 rfl) (hg 1 x1 rfl) (hg 2 x2 rfl)
theorem cx_7 {x0 x1 x2 : AVal} {st : ASt} {R : AEnd → ASt → Prop} (h : ∀ g : Nat → AVal, g 0 = x0 → g 1 = x1 → g 2 = x2 → Wp E 7 C7 (Sl 22 g) st (fun e ts st => ∃ r st', aend E Try.f7 (some (e, ts, st)) = some (r, st') ∧ R r st')) : ∃ r st', rw E 7 [x0, x1, x2] st = some (r, st') ∧ R r st' :=
  cx_of (fn := Try.f7) (c := C7) rfl rfl rfl (Nat.le_of_ble_eq_true rfl) fun g hg => h g (hg 0 x0 rfl) (hg 1 x1 rfl) (hg 2 x2 rfl)
theorem hint_7_13 : E.hint 7 13 = true := rfl
theorem hint_7_14 : E.hint 7 14 = false := rfl
theorem hint_7_16 : E.hint 7 16 = false := rfl
theorem cf_20 (a : List AVal) (st : ASt) : callFuncA E.P 20 a st = some (.enter 20 a st) := rfl

/-! ### braidwork/braidworklaw18.CertSpoilt -/
noncomputable def C8 : Code := (code Try.f8)
noncomputable def rg8_9 : Code := (code Try.f8).snd.snd.snd.snd.snd.snd.fst
noncomputable def rq8_9 : Code := (code Try.f8).snd.snd.snd.snd.snd.snd.fst
theorem ex8_9 (call : ACall) (n : Nat) (ts : List AVal) (st : ASt) : aexec E 8 call (drawB E 8) n rg8_9 ts st = aops E 8 call rq8_9.ops rq8_9.ops.toList ts st := by
  have d : drawB E 8 rq8_9.ops = true := by kernel_rfl
  have e : rg8_9 = .region 9 rq8_9.ops true := rfl
  rw [e, aexec, d]; rfl
noncomputable def rq8_9_e := (⟨by simp only [rq8_9, code, Try.f8, Option.getD_some, Code.fst, Code.snd, Code.bin, Code.lin, Code.sin, Code.yes, Code.no, Code.ops]; exact rfl⟩ : PLift (rq8_9.ops = _))
noncomputable def S8_0 : Code := .seq ((code Try.f8).fst) (.seq ((code Try.f8).snd.fst.fst) (.seq ((code Try.f8).snd.fst.snd) (.seq ((code Try.f8).snd.snd.fst.fst) (.seq ((code Try.f8).snd.snd.fst.snd) (.seq ((code Try.f8).snd.snd.snd.fst) (.seq ((code Try.f8).snd.snd.snd.snd.fst.fst) (.seq ((code Try.f8).snd.snd.snd.snd.fst.snd) (.seq ((code Try.f8).snd.snd.snd.snd.snd.fst) (.seq (rg8_9) (.seq ((code Try.f8).snd.snd.snd.snd.snd.snd.snd.fst.fst) (.seq ((code Try.f8).snd.snd.snd.snd.snd.snd.snd.fst.snd) (.seq ((code Try.f8).snd.snd.snd.snd.snd.snd.snd.snd.fst) (.seq ((code Try.f8).snd.snd.snd.snd.snd.snd.snd.snd.snd.fst) ((code Try.f8).snd.snd.snd.snd.snd.snd.snd.snd.snd.snd))))))))))))))
noncomputable def S8_0_e := (⟨by simp only [S8_0, code, Try.f8, Option.getD_some, Code.fst, Code.snd, Code.bin, Code.lin, Code.sin, Code.yes, Code.no]; exact rfl⟩ : PLift (S8_0 = _))
theorem C8_wp {ts : List AVal} {st : ASt} {Q : APost} (h : Wp E 8 S8_0 ts st Q) : Wp E 8 C8 ts st Q := by
  have e : ∀ n ts st, aexec E 8 (rw E) (drawB E 8) n C8 ts st = aexec E 8 (rw E) (drawB E 8) n (S8_0) ts st := by
    intro n ts st
    have e1 : C8 = (.seq (code Try.f8).fst (.seq (.seq (code Try.f8).snd.fst.fst (code Try.f8).snd.fst.snd) (.seq (.seq (code Try.f8).snd.snd.fst.fst (code Try.f8).snd.snd.fst.snd) (.seq (code Try.f8).snd.snd.snd.fst (.seq (.seq (code Try.f8).snd.snd.snd.snd.fst.fst (code Try.f8).snd.snd.snd.snd.fst.snd) (.seq (code Try.f8).snd.snd.snd.snd.snd.fst (.seq rg8_9 (.seq (.seq (code Try.f8).snd.snd.snd.snd.snd.snd.snd.fst.fst (code Try.f8).snd.snd.snd.snd.snd.snd.snd.fst.snd) (.seq (code Try.f8).snd.snd.snd.snd.snd.snd.snd.snd.fst (.seq (code Try.f8).snd.snd.snd.snd.snd.snd.snd.snd.snd.fst (code Try.f8).snd.snd.snd.snd.snd.snd.snd.snd.snd.snd)))))))))) := rfl
    rw [e1]
    simp only [S8_0, aexec_seq, aseq_assoc]
  refine aw_congr e ?_
  exact h
theorem ce_8 {x0 x1 x2 x3 x4 x5 : AVal} {st : ASt} {r : AEnd × ASt} (h : ∀ g : Nat → AVal, g 0 = x0 → g 1 = x1 → g 2 = x2 → g 3 = x3 → g 4 = x4 → g 5 = x5 → Wp E 8 C8 (Sl 84 g) st (fun e ts st => aend E Try.f8 (some (e, ts, st)) = some r)) : rw E 8 [x0, x1, x2, x3, x4, x5] st = some r :=
  ce_of (fn := Try.f8) (c := C8) rfl rfl rfl (Nat.le_of_ble_eq_true rfl) fun g hg => h g (hg 0 x0 rfl) (hg 1 x1 rfl) (hg 2 x2 rfl) (hg 3 x3 rfl) (hg 4 x4 rfl) (hg 5 x5 rfl)
theorem cx_8 {x0 x1 x2 x3 x4 x5 : AVal} {st : ASt} {R : AEnd → ASt → Prop} (h : ∀ g : Nat → AVal, g 0 = x0 → g 1 = x1 → g 2 = x2 → g 3 = x3 → g 4 = x4 → g 5 = x5 → Wp E 8 C8 (Sl 84 g) st (fun e ts st => ∃ r st', aend E Try.f8 (some (e, ts, st)) = some (r, st') ∧ R r st')) : ∃ r st', rw E 8 [x0, x1, x2, x3, x4, x5] st = some (r, st') ∧ R r st' :=
  cx_of (fn := Try.f8) (c := C8) rfl rfl rfl (Nat.le_of_ble_eq_true rfl) fun g hg => h g (hg 0 x0 rfl) (hg 1 x1 rfl) (hg 2 x2 rfl) (hg 3 x3 rfl) (hg 4 x4 rfl) (hg 5 x5 rfl)
theorem o_cv_39_3 (mt : Bool) (n : Int) (st : ASt) : convA E.P mt 39 3 (.lit (.int .u16 n)) st = some (.lit (.int .i64 (IntKind.i64.wrap n)), st) := c_int rfl rfl
theorem o_cv_5_3 (mt : Bool) (n : Int) (st : ASt) : convA E.P mt 5 3 (.lit (.int .u8 n)) st = some (.lit (.int .i64 (IntKind.i64.wrap n)), st) := c_int rfl rfl
theorem hint_8_59 : E.hint 8 59 = false := rfl
theorem o_bs_70_3 (ps : List (Nat × AVal)) (st : ASt) : buildSliceA E.P false 70 3 ps st = (setsE false 1 [(.lit (.slice none 0 0)), (.lit (.slice none 0 0)), (.lit (.slice none 0 0))] ps).map (fun es => (.islice 1 es .exact, st)) := bs_i rfl rfl rfl rfl (by decide) rfl ps st
theorem cf_21 (a : List AVal) (st : ASt) : callFuncA E.P 21 a st = some (.enter 21 a st) := rfl

/-! ### braidwork/braidworklaw18.CertTurned -/
noncomputable def C5 : Code := (code Try.f5)
noncomputable def S5_0 : Code := .seq ((code Try.f5).fst) (.seq ((code Try.f5).snd.fst.fst) (.seq ((code Try.f5).snd.fst.snd) (.seq ((code Try.f5).snd.snd.fst.fst) (.seq ((code Try.f5).snd.snd.fst.snd) (.seq ((code Try.f5).snd.snd.snd.fst) (.seq ((code Try.f5).snd.snd.snd.snd.fst.fst) (.seq ((code Try.f5).snd.snd.snd.snd.fst.snd) (.seq ((code Try.f5).snd.snd.snd.snd.snd.fst) (.seq ((code Try.f5).snd.snd.snd.snd.snd.snd.fst) (.seq ((code Try.f5).snd.snd.snd.snd.snd.snd.snd.fst) (.seq ((code Try.f5).snd.snd.snd.snd.snd.snd.snd.snd.fst) (.seq ((code Try.f5).snd.snd.snd.snd.snd.snd.snd.snd.snd.fst) (.seq ((code Try.f5).snd.snd.snd.snd.snd.snd.snd.snd.snd.snd.fst) ((code Try.f5).snd.snd.snd.snd.snd.snd.snd.snd.snd.snd.snd))))))))))))))
noncomputable def S5_0_e := (⟨by simp only [S5_0, code, Try.f5, Option.getD_some, Code.fst, Code.snd, Code.bin, Code.lin, Code.sin, Code.yes, Code.no]; exact rfl⟩ : PLift (S5_0 = _))
theorem C5_wp {ts : List AVal} {st : ASt} {Q : APost} (h : Wp E 5 S5_0 ts st Q) : Wp E 5 C5 ts st Q := by
  have e : ∀ n ts st, aexec E 5 (rw E) (drawB E 5) n C5 ts st = aexec E 5 (rw E) (drawB E 5) n (S5_0) ts st := by
    intro n ts st
    have e1 : C5 = (.seq (code Try.f5).fst (.seq (.seq (code Try.f5).snd.fst.fst (code Try.f5).snd.fst.snd) (.seq (.seq (code Try.f5).snd.snd.fst.fst (code Try.f5).snd.snd.fst.snd) (.seq (code Try.f5).snd.snd.snd.fst (.seq (.seq (code Try.f5).snd.snd.snd.snd.fst.fst (code Try.f5).snd.snd.snd.snd.fst.snd) (.seq (code Try.f5).snd.snd.snd.snd.snd.fst (.seq (code Try.f5).snd.snd.snd.snd.snd.snd.fst (.seq (code Try.f5).snd.snd.snd.snd.snd.snd.snd.fst (.seq (code Try.f5).snd.snd.snd.snd.snd.snd.snd.snd.fst (.seq (code Try.f5).snd.snd.snd.snd.snd.snd.snd.snd.snd.fst (.seq (code Try.f5).snd.snd.snd.snd.snd.snd.snd.snd.snd.snd.fst (code Try.f5).snd.snd.snd.snd.snd.snd.snd.snd.snd.snd.snd))))))))))) := rfl
    rw [e1]
    simp only [S5_0, aexec_seq, aseq_assoc]
  refine aw_congr e ?_
  exact h
theorem ce_5 {x0 x1 x2 x3 x4 : AVal} {st : ASt} {r : AEnd × ASt} (h : ∀ g : Nat → AVal, g 0 = x0 → g 1 = x1 → g 2 = x2 → g 3 = x3 → g 4 = x4 → Wp E 5 C5 (Sl 97 g) st (fun e ts st => aend E Try.f5 (some (e, ts, st)) = some r)) : rw E 5 [x0, x1, x2, x3, x4] st = some r :=
  ce_of (fn := Try.f5) (c := C5) rfl rfl rfl (Nat.le_of_ble_eq_true rfl) fun g hg => h g (hg 0 x0 rfl) (hg 1 x1 rfl) (hg 2 x2 rfl) (hg 3 x3 rfl) (hg 4 x4 rfl)
theorem cx_5 {x0 x1 x2 x3 x4 : AVal} {st : ASt} {R : AEnd → ASt → Prop} (h : ∀ g : Nat → AVal, g 0 = x0 → g 1 = x1 → g 2 = x2 → g 3 = x3 → g 4 = x4 → Wp E 5 C5 (Sl 97 g) st (fun e ts st => ∃ r st', aend E Try.f5 (some (e, ts, st)) = some (r, st') ∧ R r st')) : ∃ r st', rw E 5 [x0, x1, x2, x3, x4] st = some (r, st') ∧ R r st' :=
  cx_of (fn := Try.f5) (c := C5) rfl rfl rfl (Nat.le_of_ble_eq_true rfl) fun g hg => h g (hg 0 x0 rfl) (hg 1 x1 rfl) (hg 2 x2 rfl) (hg 3 x3 rfl) (hg 4 x4 rfl)
theorem hint_5_60 : E.hint 5 60 = false := rfl
theorem o_st_5 (st : ASt) (s o : Nat) (v : AVal) : storeA E.P 5 st (.ptr s o) v = if v.isCell = true then (blkOf (st.heap s)).bind (fun cs => if o + 1 ≤ cs.length then some (st.set s (some (.cells (cs.set o v)))) else none) else storeU E.P 5 st (.ptr s o) v := st_one rfl st s o v
theorem o_eqb_4_eql (xo yo : Operand) (a b : Bool) : binA E.P .eql 4 xo yo (.lit (.bool a)) (.lit (.bool b)) = some (.lit (.bool (a == b))) := b_eqb rfl
end Go.Proofs.YtnndngoanknemaaV
