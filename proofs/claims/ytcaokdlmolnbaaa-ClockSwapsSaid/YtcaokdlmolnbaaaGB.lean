/- What walks through these functions need: pieces of their code, single operations reckoned. No condition. -/
import Derived.Test.YtcaokdlmolnbaaaEA
import Derived.Test.YtcaokdlmolnbaaaAF
namespace Go.Proofs.YtcaokdlmolnbaaaV
open Go Go.RowKit Go.Proofs.YtcaokdlmolnbaaaA
set_option linter.unusedVariables false
set_option linter.unusedSimpArgs false
set_option maxRecDepth 100000

/-! ### braidwork/event.New$1 -/
noncomputable def C32 : Code := (code Try.f32)
noncomputable def S32_0 : Code := .seq ((code Try.f32).fst) (.seq ((code Try.f32).snd.fst) ((code Try.f32).snd.snd))
noncomputable def S32_0_e := (⟨by simp only [S32_0, code, Try.f32, Option.getD_some, Code.fst, Code.snd, Code.bin, Code.lin, Code.sin, Code.yes, Code.no]; exact rfl⟩ : PLift (S32_0 = _))
theorem C32_wp {ts : List AVal} {st : ASt} {Q : APost} (h : Wp E 32 S32_0 ts st Q) : Wp E 32 C32 ts st Q := by
  have e : ∀ n ts st, aexec E 32 (rw E) (drawB E 32) n C32 ts st = aexec E 32 (rw E) (drawB E 32) n (S32_0) ts st := by
    intro n ts st
    have e1 : C32 = (.seq (code Try.f32).fst (.seq (code Try.f32).snd.fst (code Try.f32).snd.snd)) := rfl
    rw [e1] <;>
    simp only [S32_0, aexec_seq, aseq_assoc]
  refine aw_congr e ?_
  exact h
theorem ce_32 {x0 : AVal} {st : ASt} {r : AEnd × ASt} (h : ∀ g : Nat → AVal, g 0 = x0 → Wp E 32 C32 (Sl 9 g) st (fun e ts st => aend E Try.f32 (some (e, ts, st)) = some r)) : rw E 32 [x0] st = some r :=
  ce_of (fn := Try.f32) (c := C32) rfl rfl rfl (Nat.le_of_ble_eq_true rfl) fun g hg => h g (hg 0 x0 rfl)
theorem cx_32 {x0 : AVal} {st : ASt} {R : AEnd → ASt → Prop} (h : ∀ g : Nat → AVal, g 0 = x0 → Wp E 32 C32 (Sl 9 g) st (fun e ts st => ∃ r st', aend E Try.f32 (some (e, ts, st)) = some (r, st') ∧ R r st')) : ∃ r st', rw E 32 [x0] st = some (r, st') ∧ R r st' :=
  cx_of (fn := Try.f32) (c := C32) rfl rfl rfl (Nat.le_of_ble_eq_true rfl) fun g hg => h g (hg 0 x0 rfl)
theorem o_fap_40_0 (s o : Nat) : fieldA E.P 40 (.ptr s o) 0 = some (.ptr s (o + 0)) := rfl
theorem o_fai_40_0 (cs : List AVal) : fieldA E.P 40 (.iptr (.agg cs)) 0 = (cs[0]?).map .iptr := rfl
theorem o_ldp_3 (st : ASt) (s o : Nat) : loadA E.P 3 st (.ptr s o) = (blkOf (st.heap s)).bind (fun cs => cs[o]?) := ld_one rfl rfl st s o
theorem o_ldi_3 (st : ASt) (v : AVal) : loadA E.P 3 st (.iptr v) = if v.isCell = true then some v else none := rfl

/-! ### braidwork/event.New$2 -/
noncomputable def C34 : Code := (code Try.f34)
noncomputable def S34_0 : Code := .seq ((code Try.f34).fst) (.seq ((code Try.f34).snd.fst) ((code Try.f34).snd.snd))
noncomputable def S34_0_e := (⟨by simp only [S34_0, code, Try.f34, Option.getD_some, Code.fst, Code.snd, Code.bin, Code.lin, Code.sin, Code.yes, Code.no]; exact rfl⟩ : PLift (S34_0 = _))
theorem C34_wp {ts : List AVal} {st : ASt} {Q : APost} (h : Wp E 34 S34_0 ts st Q) : Wp E 34 C34 ts st Q := by
  have e : ∀ n ts st, aexec E 34 (rw E) (drawB E 34) n C34 ts st = aexec E 34 (rw E) (drawB E 34) n (S34_0) ts st := by
    intro n ts st
    have e1 : C34 = (.seq (code Try.f34).fst (.seq (code Try.f34).snd.fst (code Try.f34).snd.snd)) := rfl
    rw [e1] <;>
    simp only [S34_0, aexec_seq, aseq_assoc]
  refine aw_congr e ?_
  exact h
theorem ce_34 {x0 x1 : AVal} {st : ASt} {r : AEnd × ASt} (h : ∀ g : Nat → AVal, g 0 = x0 → g 1 = x1 → Wp E 34 C34 (Sl 10 g) st (fun e ts st => aend E Try.f34 (some (e, ts, st)) = some r)) : rw E 34 [x0, x1] st = some r :=
  ce_of (fn := Try.f34) (c := C34) rfl rfl rfl (Nat.le_of_ble_eq_true rfl) fun g hg => h g (hg 0 x0 rfl) (hg 1 x1 rfl)
theorem cx_34 {x0 x1 : AVal} {st : ASt} {R : AEnd → ASt → Prop} (h : ∀ g : Nat → AVal, g 0 = x0 → g 1 = x1 → Wp E 34 C34 (Sl 10 g) st (fun e ts st => ∃ r st', aend E Try.f34 (some (e, ts, st)) = some (r, st') ∧ R r st')) : ∃ r st', rw E 34 [x0, x1] st = some (r, st') ∧ R r st' :=
  cx_of (fn := Try.f34) (c := C34) rfl rfl rfl (Nat.le_of_ble_eq_true rfl) fun g hg => h g (hg 0 x0 rfl) (hg 1 x1 rfl)
theorem cf_35 (a : List AVal) (st : ASt) : callFuncA E.P 35 a st = some (.enter 35 a st) := rfl

/-! ### cmp.Compare[int] -/
noncomputable def C35 : Code := (code Try.f35)
noncomputable def S35_0 : Code := .seq ((code Try.f35).fst) (.seq ((code Try.f35).snd.fst) (.seq ((code Try.f35).snd.snd.fst) (.seq ((code Try.f35).snd.snd.snd.fst.fst) (.seq ((code Try.f35).snd.snd.snd.fst.snd) (.seq ((code Try.f35).snd.snd.snd.snd.fst.fst) (.seq ((code Try.f35).snd.snd.snd.snd.fst.snd) (.seq ((code Try.f35).snd.snd.snd.snd.snd.fst.fst) (.seq ((code Try.f35).snd.snd.snd.snd.snd.fst.snd) (.seq ((code Try.f35).snd.snd.snd.snd.snd.snd.fst.fst) (.seq ((code Try.f35).snd.snd.snd.snd.snd.snd.fst.snd) (.seq ((code Try.f35).snd.snd.snd.snd.snd.snd.snd.fst) ((code Try.f35).snd.snd.snd.snd.snd.snd.snd.snd))))))))))))
noncomputable def S35_0_e := (⟨by simp only [S35_0, code, Try.f35, Option.getD_some, Code.fst, Code.snd, Code.bin, Code.lin, Code.sin, Code.yes, Code.no]; exact rfl⟩ : PLift (S35_0 = _))
theorem C35_wp {ts : List AVal} {st : ASt} {Q : APost} (h : Wp E 35 S35_0 ts st Q) : Wp E 35 C35 ts st Q := by
  have e : ∀ n ts st, aexec E 35 (rw E) (drawB E 35) n C35 ts st = aexec E 35 (rw E) (drawB E 35) n (S35_0) ts st := by
    intro n ts st
    have e1 : C35 = (.seq (code Try.f35).fst (.seq (code Try.f35).snd.fst (.seq (code Try.f35).snd.snd.fst (.seq (.seq (code Try.f35).snd.snd.snd.fst.fst (code Try.f35).snd.snd.snd.fst.snd) (.seq (.seq (code Try.f35).snd.snd.snd.snd.fst.fst (code Try.f35).snd.snd.snd.snd.fst.snd) (.seq (.seq (code Try.f35).snd.snd.snd.snd.snd.fst.fst (code Try.f35).snd.snd.snd.snd.snd.fst.snd) (.seq (.seq (code Try.f35).snd.snd.snd.snd.snd.snd.fst.fst (code Try.f35).snd.snd.snd.snd.snd.snd.fst.snd) (.seq (code Try.f35).snd.snd.snd.snd.snd.snd.snd.fst (code Try.f35).snd.snd.snd.snd.snd.snd.snd.snd)))))))) := rfl
    rw [e1] <;>
    simp only [S35_0, aexec_seq, aseq_assoc]
  refine aw_congr e ?_
  exact h
theorem ce_35 {x0 x1 : AVal} {st : ASt} {r : AEnd × ASt} (h : ∀ g : Nat → AVal, g 0 = x0 → g 1 = x1 → Wp E 35 C35 (Sl 20 g) st (fun e ts st => aend E Try.f35 (some (e, ts, st)) = some r)) : rw E 35 [x0, x1] st = some r :=
  ce_of (fn := Try.f35) (c := C35) rfl rfl rfl (Nat.le_of_ble_eq_true rfl) fun g hg => h g (hg 0 x0 rfl) (hg 1 x1 rfl)
theorem cx_35 {x0 x1 : AVal} {st : ASt} {R : AEnd → ASt → Prop} (h : ∀ g : Nat → AVal, g 0 = x0 → g 1 = x1 → Wp E 35 C35 (Sl 20 g) st (fun e ts st => ∃ r st', aend E Try.f35 (some (e, ts, st)) = some (r, st') ∧ R r st')) : ∃ r st', rw E 35 [x0, x1] st = some (r, st') ∧ R r st' :=
  cx_of (fn := Try.f35) (c := C35) rfl rfl rfl (Nat.le_of_ble_eq_true rfl) fun g hg => h g (hg 0 x0 rfl) (hg 1 x1 rfl)
theorem cf_39 (a : List AVal) (st : ASt) : callFuncA E.P 39 a st = some (.enter 39 a st) := rfl

/-! ### cmp.isNaN[int] -/
noncomputable def C39 : Code := (code Try.f39)
noncomputable def S39_0 : Code := .seq ((code Try.f39).fst) (.seq ((code Try.f39).snd.fst) ((code Try.f39).snd.snd))
noncomputable def S39_0_e := (⟨by simp only [S39_0, code, Try.f39, Option.getD_some, Code.fst, Code.snd, Code.bin, Code.lin, Code.sin, Code.yes, Code.no]; exact rfl⟩ : PLift (S39_0 = _))
theorem C39_wp {ts : List AVal} {st : ASt} {Q : APost} (h : Wp E 39 S39_0 ts st Q) : Wp E 39 C39 ts st Q := by
  have e : ∀ n ts st, aexec E 39 (rw E) (drawB E 39) n C39 ts st = aexec E 39 (rw E) (drawB E 39) n (S39_0) ts st := by
    intro n ts st
    have e1 : C39 = (.seq (code Try.f39).fst (.seq (code Try.f39).snd.fst (code Try.f39).snd.snd)) := rfl
    rw [e1] <;>
    simp only [S39_0, aexec_seq, aseq_assoc]
  refine aw_congr e ?_
  exact h
theorem ce_39 {x0 : AVal} {st : ASt} {r : AEnd × ASt} (h : ∀ g : Nat → AVal, g 0 = x0 → Wp E 39 C39 (Sl 6 g) st (fun e ts st => aend E Try.f39 (some (e, ts, st)) = some r)) : rw E 39 [x0] st = some r :=
  ce_of (fn := Try.f39) (c := C39) rfl rfl rfl (Nat.le_of_ble_eq_true rfl) fun g hg => h g (hg 0 x0 rfl)
theorem cx_39 {x0 : AVal} {st : ASt} {R : AEnd → ASt → Prop} (h : ∀ g : Nat → AVal, g 0 = x0 → Wp E 39 C39 (Sl 6 g) st (fun e ts st => ∃ r st', aend E Try.f39 (some (e, ts, st)) = some (r, st') ∧ R r st')) : ∃ r st', rw E 39 [x0] st = some (r, st') ∧ R r st' :=
  cx_of (fn := Try.f39) (c := C39) rfl rfl rfl (Nat.le_of_ble_eq_true rfl) fun g hg => h g (hg 0 x0 rfl)

/-! ### slices.insertionSortCmpFunc[braidwork/event.Mark] -/
noncomputable def C40 : Code := (code Try.f40)
noncomputable def S40_0 : Code := (code Try.f40).fst
noncomputable def S40_0_e := (⟨by simp only [S40_0, code, Try.f40, Option.getD_some, Code.fst, Code.snd, Code.bin, Code.lin, Code.sin, Code.yes, Code.no]; exact rfl⟩ : PLift (S40_0 = _))
noncomputable def L40_0 : Code := (code Try.f40).snd.bin.lin
noncomputable def S40_1 : Code := .seq ((code Try.f40).snd.bin.lin.fst.fst) ((code Try.f40).snd.bin.lin.fst.snd)
noncomputable def S40_1_e := (⟨by simp only [S40_1, code, Try.f40, Option.getD_some, Code.fst, Code.snd, Code.bin, Code.lin, Code.sin, Code.yes, Code.no]; exact rfl⟩ : PLift (S40_1 = _))
noncomputable def B40_1 : Code := (code Try.f40).snd.bin.lin.snd.fst.bin
noncomputable def S40_2 : Code := (code Try.f40).snd.bin.lin.snd.fst.bin.fst
noncomputable def S40_2_e := (⟨by simp only [S40_2, code, Try.f40, Option.getD_some, Code.fst, Code.snd, Code.bin, Code.lin, Code.sin, Code.yes, Code.no]; exact rfl⟩ : PLift (S40_2 = _))
noncomputable def L40_2 : Code := (code Try.f40).snd.bin.lin.snd.fst.bin.snd.bin.lin
noncomputable def rg40_4 : Code := (code Try.f40).snd.bin.lin.snd.fst.bin.snd.bin.lin.fst.fst
noncomputable def rq40_4 : Code := (code Try.f40).snd.bin.lin.snd.fst.bin.snd.bin.lin.fst.fst
theorem ex40_4 (call : ACall) (n : Nat) (ts : List AVal) (st : ASt) : aexec E 40 call (drawB E 40) n rg40_4 ts st = aops E 40 call rq40_4.ops rq40_4.ops.toList ts st := by
  have d : drawB E 40 rq40_4.ops = true := by kernel_rfl
  have e : rg40_4 = .region 4 rq40_4.ops true := rfl
  rw [e, aexec, d]; rfl
noncomputable def rq40_4_e := (⟨by simp only [rq40_4, code, Try.f40, Option.getD_some, Code.fst, Code.snd, Code.bin, Code.lin, Code.sin, Code.yes, Code.no, Code.ops]; exact rfl⟩ : PLift (rq40_4.ops = _))
noncomputable def rg40_6 : Code := (code Try.f40).snd.bin.lin.snd.fst.bin.snd.bin.lin.snd.fst.bin
noncomputable def rq40_6 : Code := (code Try.f40).snd.bin.lin.snd.fst.bin.snd.bin.lin.snd.fst.bin
theorem ex40_6 (call : ACall) (n : Nat) (ts : List AVal) (st : ASt) : aexec E 40 call (drawB E 40) n rg40_6 ts st = aopsP E 40 call rq40_6.ops [.one 0 [], .one 1 [], .one 2 [], .one 3 [], .one 4 [], .one 5 [], .one 6 [], .one 7 [], .one 8 [], .one 9 [], .one 10 [], .one 11 [], .one 12 [], .one 13 [], .one 14 [], .one 15 [], .one 16 [], .one 17 []] ts st := by
  have d : drawB E 40 rq40_6.ops = false := by kernel_rfl
  have d2 : drawPlan E 40 rq40_6.ops = some [.one 0 [], .one 1 [], .one 2 [], .one 3 [], .one 4 [], .one 5 [], .one 6 [], .one 7 [], .one 8 [], .one 9 [], .one 10 [], .one 11 [], .one 12 [], .one 13 [], .one 14 [], .one 15 [], .one 16 [], .one 17 []] := by kernel_rfl
  have e : rg40_6 = .region 6 rq40_6.ops true := rfl
  rw [e, aexec, d, d2]; rfl
noncomputable def rq40_6_e := (⟨by simp only [rq40_6, code, Try.f40, Option.getD_some, Code.fst, Code.snd, Code.bin, Code.lin, Code.sin, Code.yes, Code.no, Code.ops]; exact rfl⟩ : PLift (rq40_6.ops = _))
noncomputable def S40_3 : Code := .seq (rg40_4) (.seq ((code Try.f40).snd.bin.lin.snd.fst.bin.snd.bin.lin.fst.snd) (.seq (.block 3 rg40_6) ((code Try.f40).snd.bin.lin.snd.fst.bin.snd.bin.lin.snd.snd)))
noncomputable def S40_3_e := (⟨by simp only [S40_3, code, Try.f40, Option.getD_some, Code.fst, Code.snd, Code.bin, Code.lin, Code.sin, Code.yes, Code.no]; exact rfl⟩ : PLift (S40_3 = _))
theorem L40_2_wp {ts : List AVal} {st : ASt} {Q : APost} (h : Wp E 40 S40_3 ts st Q) : Wp E 40 L40_2 ts st Q := by
  have e : ∀ n ts st, aexec E 40 (rw E) (drawB E 40) n L40_2 ts st = aexec E 40 (rw E) (drawB E 40) n (S40_3) ts st := by
    intro n ts st
    have e1 : L40_2 = (.seq (.seq rg40_4 (code Try.f40).snd.bin.lin.snd.fst.bin.snd.bin.lin.fst.snd) (.seq (.block 3 rg40_6) (code Try.f40).snd.bin.lin.snd.fst.bin.snd.bin.lin.snd.snd)) := rfl
    rw [e1] <;>
    simp only [S40_3, aexec_seq, aseq_assoc]
  refine aw_congr e ?_
  exact h
theorem B40_1_wp {ts : List AVal} {st : ASt} {Q : APost} (h : Wp E 40 S40_2 ts st (Nx (fun ts st => Wp E 40 (.block 2 (.loop L40_2)) ts st Q) Q)) : Wp E 40 B40_1 ts st Q := by
  have e : ∀ n ts st, aexec E 40 (rw E) (drawB E 40) n B40_1 ts st = aexec E 40 (rw E) (drawB E 40) n (.seq S40_2 ((.block 2 (.loop L40_2)))) ts st := by
    intro n ts st
    have e1 : B40_1 = (.seq (code Try.f40).snd.bin.lin.snd.fst.bin.fst (.block 2 (.loop L40_2))) := rfl
    rw [e1] <;>
    simp only [S40_2, aexec_seq, aseq_assoc]
  refine aw_congr e ?_
  have h0 := h
  exact aw_seq h0
noncomputable def S40_4 : Code := (code Try.f40).snd.bin.lin.snd.snd
noncomputable def S40_4_e := (⟨by simp only [S40_4, code, Try.f40, Option.getD_some, Code.fst, Code.snd, Code.bin, Code.lin, Code.sin, Code.yes, Code.no]; exact rfl⟩ : PLift (S40_4 = _))
theorem L40_0_wp {ts : List AVal} {st : ASt} {Q : APost} (h : Wp E 40 S40_1 ts st (Nx (fun ts st => Wp E 40 (.block 1 B40_1) ts st (Nx (fun ts st => Wp E 40 S40_4 ts st Q) Q)) Q)) : Wp E 40 L40_0 ts st Q := by
  have e : ∀ n ts st, aexec E 40 (rw E) (drawB E 40) n L40_0 ts st = aexec E 40 (rw E) (drawB E 40) n (.seq S40_1 (.seq (.block 1 B40_1) (S40_4))) ts st := by
    intro n ts st
    have e1 : L40_0 = (.seq (.seq (code Try.f40).snd.bin.lin.fst.fst (code Try.f40).snd.bin.lin.fst.snd) (.seq (.block 1 B40_1) (code Try.f40).snd.bin.lin.snd.snd)) := rfl
    rw [e1] <;>
    simp only [S40_1, S40_4, aexec_seq, aseq_assoc]
  refine aw_congr e ?_
  have h0 := h
  exact aw_seq (h0.mono fun e ts st hq => by cases e <;> first | exact hq | (have h1 := hq; exact aw_seq h1))
theorem C40_wp {ts : List AVal} {st : ASt} {Q : APost} (h : Wp E 40 S40_0 ts st (Nx (fun ts st => Wp E 40 (.block 0 (.loop L40_0)) ts st Q) Q)) : Wp E 40 C40 ts st Q := by
  have e : ∀ n ts st, aexec E 40 (rw E) (drawB E 40) n C40 ts st = aexec E 40 (rw E) (drawB E 40) n (.seq S40_0 ((.block 0 (.loop L40_0)))) ts st := by
    intro n ts st
    have e1 : C40 = (.seq (code Try.f40).fst (.block 0 (.loop L40_0))) := rfl
    rw [e1] <;>
    simp only [S40_0, aexec_seq, aseq_assoc]
  refine aw_congr e ?_
  have h0 := h
  exact aw_seq h0
theorem ce_40 {x0 x1 x2 x3 : AVal} {st : ASt} {r : AEnd × ASt} (h : ∀ g : Nat → AVal, g 0 = x0 → g 1 = x1 → g 2 = x2 → g 3 = x3 → Wp E 40 C40 (Sl 53 g) st (fun e ts st => aend E Try.f40 (some (e, ts, st)) = some r)) : rw E 40 [x0, x1, x2, x3] st = some r :=
  ce_of (fn := Try.f40) (c := C40) rfl rfl rfl (Nat.le_of_ble_eq_true rfl) fun g hg => h g (hg 0 x0 rfl) (hg 1 x1 rfl) (hg 2 x2 rfl) (hg 3 x3 rfl)
theorem cx_40 {x0 x1 x2 x3 : AVal} {st : ASt} {R : AEnd → ASt → Prop} (h : ∀ g : Nat → AVal, g 0 = x0 → g 1 = x1 → g 2 = x2 → g 3 = x3 → Wp E 40 C40 (Sl 53 g) st (fun e ts st => ∃ r st', aend E Try.f40 (some (e, ts, st)) = some (r, st') ∧ R r st')) : ∃ r st', rw E 40 [x0, x1, x2, x3] st = some (r, st') ∧ R r st' :=
  cx_of (fn := Try.f40) (c := C40) rfl rfl rfl (Nat.le_of_ble_eq_true rfl) fun g hg => h g (hg 0 x0 rfl) (hg 1 x1 rfl) (hg 2 x2 rfl) (hg 3 x3 rfl)
theorem o_ixi_29 (sz : Nat) (es : List AVal) (c : Cap) (k : IntKind) (i : Int) : indexA E.P 29 (.islice sz es c) (.lit (.int k i)) = if 0 ≤ i ∧ i < es.length ∧ some 2 = some sz then (es[i.toNat]?).map .iptr else none := rfl
theorem o_ixs_29 (s o l sz : Nat) (c : Option Nat) (k : IntKind) (i : Int) : indexA E.P 29 (.slice s o l sz c) (.lit (.int k i)) = if 0 ≤ i ∧ i < l then some (.ptr s (o + i.toNat * 2)) else none := rfl
theorem o_ldp_40 (st : ASt) (s o : Nat) : loadA E.P 40 st (.ptr s o) = (blkOf (st.heap s)).bind (fun cs => if o + 2 ≤ cs.length then some (.agg ((cs.drop o).take 2)) else none) := ld_agg rfl rfl st s o
theorem o_ldi_40 (st : ASt) (cs : List AVal) : loadA E.P 40 st (.iptr (.agg cs)) = if cs.length = 2 then some (.agg cs) else none := rfl
theorem o_st_40 (st : ASt) (s o : Nat) (vs : List AVal) : storeA E.P 40 st (.ptr s o) (.agg vs) = (blkOf (st.heap s)).bind (fun cs => if vs.length = 2 ∧ o + vs.length ≤ cs.length ∧ vs.all AVal.isCell = true then some (st.set s (some (.cells (putL cs o vs)))) else none) := st_agg rfl st s o vs

/-! ### slices.pdqsortCmpFunc[braidwork/event.Mark] -/
noncomputable def C37 : Code := (code Try.f37)
noncomputable def S37_0 : Code := .seq ((code Try.f37).fst) ((code Try.f37).snd.fst)
noncomputable def S37_0_e := (⟨by simp only [S37_0, code, Try.f37, Option.getD_some, Code.fst, Code.snd, Code.bin, Code.lin, Code.sin, Code.yes, Code.no]; exact rfl⟩ : PLift (S37_0 = _))
noncomputable def L37_0 : Code := (code Try.f37).snd.snd.bin.lin
noncomputable def rg37_17 : Code := (code Try.f37).snd.snd.bin.lin.bin.snd.snd.snd.snd.snd.snd.snd.fst.fst
noncomputable def rq37_17 : Code := (code Try.f37).snd.snd.bin.lin.bin.snd.snd.snd.snd.snd.snd.snd.fst.fst
theorem ex37_17 (call : ACall) (n : Nat) (ts : List AVal) (st : ASt) : aexec E 37 call (drawB E 37) n rg37_17 ts st = aops E 37 call rq37_17.ops rq37_17.ops.toList ts st := by
  have d : drawB E 37 rq37_17.ops = true := by kernel_rfl
  have e : rg37_17 = .region 17 rq37_17.ops true := rfl
  rw [e, aexec, d]; rfl
noncomputable def rq37_17_e := (⟨by simp only [rq37_17, code, Try.f37, Option.getD_some, Code.fst, Code.snd, Code.bin, Code.lin, Code.sin, Code.yes, Code.no, Code.ops]; exact rfl⟩ : PLift (rq37_17.ops = _))
noncomputable def S37_1 : Code := (.block 1 (.seq (code Try.f37).snd.snd.bin.lin.bin.fst (.seq (code Try.f37).snd.snd.bin.lin.bin.snd.fst (.seq (code Try.f37).snd.snd.bin.lin.bin.snd.snd.fst (.seq (code Try.f37).snd.snd.bin.lin.bin.snd.snd.snd.fst (.seq (code Try.f37).snd.snd.bin.lin.bin.snd.snd.snd.snd.fst (.seq (code Try.f37).snd.snd.bin.lin.bin.snd.snd.snd.snd.snd.fst (.seq (code Try.f37).snd.snd.bin.lin.bin.snd.snd.snd.snd.snd.snd.fst (.seq (.seq rg37_17 (code Try.f37).snd.snd.bin.lin.bin.snd.snd.snd.snd.snd.snd.snd.fst.snd) (code Try.f37).snd.snd.bin.lin.bin.snd.snd.snd.snd.snd.snd.snd.snd)))))))))
noncomputable def S37_1_e := (⟨by simp only [S37_1, code, Try.f37, Option.getD_some, Code.fst, Code.snd, Code.bin, Code.lin, Code.sin, Code.yes, Code.no]; exact rfl⟩ : PLift (S37_1 = _))
theorem L37_0_wp {ts : List AVal} {st : ASt} {Q : APost} (h : Wp E 37 S37_1 ts st Q) : Wp E 37 L37_0 ts st Q := by
  have e : ∀ n ts st, aexec E 37 (rw E) (drawB E 37) n L37_0 ts st = aexec E 37 (rw E) (drawB E 37) n (S37_1) ts st := by
    intro n ts st
    have e1 : L37_0 = (.block 1 (.seq (code Try.f37).snd.snd.bin.lin.bin.fst (.seq (code Try.f37).snd.snd.bin.lin.bin.snd.fst (.seq (code Try.f37).snd.snd.bin.lin.bin.snd.snd.fst (.seq (code Try.f37).snd.snd.bin.lin.bin.snd.snd.snd.fst (.seq (code Try.f37).snd.snd.bin.lin.bin.snd.snd.snd.snd.fst (.seq (code Try.f37).snd.snd.bin.lin.bin.snd.snd.snd.snd.snd.fst (.seq (code Try.f37).snd.snd.bin.lin.bin.snd.snd.snd.snd.snd.snd.fst (.seq (.seq rg37_17 (code Try.f37).snd.snd.bin.lin.bin.snd.snd.snd.snd.snd.snd.snd.fst.snd) (code Try.f37).snd.snd.bin.lin.bin.snd.snd.snd.snd.snd.snd.snd.snd))))))))) := rfl
    rw [e1] <;>
    simp only [S37_1, aexec_seq, aseq_assoc]
  refine aw_congr e ?_
  exact h
theorem C37_wp {ts : List AVal} {st : ASt} {Q : APost} (h : Wp E 37 S37_0 ts st (Nx (fun ts st => Wp E 37 (.block 0 (.loop L37_0)) ts st Q) Q)) : Wp E 37 C37 ts st Q := by
  have e : ∀ n ts st, aexec E 37 (rw E) (drawB E 37) n C37 ts st = aexec E 37 (rw E) (drawB E 37) n (.seq S37_0 ((.block 0 (.loop L37_0)))) ts st := by
    intro n ts st
    have e1 : C37 = (.seq (code Try.f37).fst (.seq (code Try.f37).snd.fst (.block 0 (.loop L37_0)))) := rfl
    rw [e1] <;>
    simp only [S37_0, aexec_seq, aseq_assoc]
  refine aw_congr e ?_
  have h0 := h
  exact aw_seq h0
theorem ce_37 {x0 x1 x2 x3 x4 : AVal} {st : ASt} {r : AEnd × ASt} (h : ∀ g : Nat → AVal, g 0 = x0 → g 1 = x1 → g 2 = x2 → g 3 = x3 → g 4 = x4 → Wp E 37 C37 (Sl 148 g) st (fun e ts st => aend E Try.f37 (some (e, ts, st)) = some r)) : rw E 37 [x0, x1, x2, x3, x4] st = some r :=
  ce_of (fn := Try.f37) (c := C37) rfl rfl rfl (Nat.le_of_ble_eq_true rfl) fun g hg => h g (hg 0 x0 rfl) (hg 1 x1 rfl) (hg 2 x2 rfl) (hg 3 x3 rfl) (hg 4 x4 rfl)
theorem cx_37 {x0 x1 x2 x3 x4 : AVal} {st : ASt} {R : AEnd → ASt → Prop} (h : ∀ g : Nat → AVal, g 0 = x0 → g 1 = x1 → g 2 = x2 → g 3 = x3 → g 4 = x4 → Wp E 37 C37 (Sl 148 g) st (fun e ts st => ∃ r st', aend E Try.f37 (some (e, ts, st)) = some (r, st') ∧ R r st')) : ∃ r st', rw E 37 [x0, x1, x2, x3, x4] st = some (r, st') ∧ R r st' :=
  cx_of (fn := Try.f37) (c := C37) rfl rfl rfl (Nat.le_of_ble_eq_true rfl) fun g hg => h g (hg 0 x0 rfl) (hg 1 x1 rfl) (hg 2 x2 rfl) (hg 3 x3 rfl) (hg 4 x4 rfl)
theorem cf_40 (a : List AVal) (st : ASt) : callFuncA E.P 40 a st = some (.enter 40 a st) := rfl
theorem cf_41 (a : List AVal) (st : ASt) : callFuncA E.P 41 a st = some (.enter 41 a st) := rfl
theorem cf_42 (a : List AVal) (st : ASt) : callFuncA E.P 42 a st = some (.enter 42 a st) := rfl
theorem cf_43 (a : List AVal) (st : ASt) : callFuncA E.P 43 a st = some (.enter 43 a st) := rfl
theorem cf_44 (a : List AVal) (st : ASt) : callFuncA E.P 44 a st = some (.enter 44 a st) := rfl
theorem cf_45 (a : List AVal) (st : ASt) : callFuncA E.P 45 a st = some (.enter 45 a st) := rfl
theorem cf_46 (a : List AVal) (st : ASt) : callFuncA E.P 46 a st = some (.enter 46 a st) := rfl
theorem cf_47 (a : List AVal) (st : ASt) : callFuncA E.P 47 a st = some (.enter 47 a st) := rfl
theorem cf_37 (a : List AVal) (st : ASt) : callFuncA E.P 37 a st = some (.enter 37 a st) := rfl

/-! ### slices.SortFunc[[]braidwork/event.Mark,braidwork/event.Mark] -/
noncomputable def C33 : Code := (code Try.f33)
noncomputable def S33_0 : Code := .seq ((code Try.f33).fst) ((code Try.f33).snd)
noncomputable def S33_0_e := (⟨by simp only [S33_0, code, Try.f33, Option.getD_some, Code.fst, Code.snd, Code.bin, Code.lin, Code.sin, Code.yes, Code.no]; exact rfl⟩ : PLift (S33_0 = _))
theorem C33_wp {ts : List AVal} {st : ASt} {Q : APost} (h : Wp E 33 S33_0 ts st Q) : Wp E 33 C33 ts st Q := by
  have e : ∀ n ts st, aexec E 33 (rw E) (drawB E 33) n C33 ts st = aexec E 33 (rw E) (drawB E 33) n (S33_0) ts st := by
    intro n ts st
    have e1 : C33 = (.seq (code Try.f33).fst (code Try.f33).snd) := rfl
    rw [e1] <;>
    simp only [S33_0, aexec_seq, aseq_assoc]
  refine aw_congr e ?_
  exact h
theorem ce_33 {x0 x1 : AVal} {st : ASt} {r : AEnd × ASt} (h : ∀ g : Nat → AVal, g 0 = x0 → g 1 = x1 → Wp E 33 C33 (Sl 14 g) st (fun e ts st => aend E Try.f33 (some (e, ts, st)) = some r)) : rw E 33 [x0, x1] st = some r :=
  ce_of (fn := Try.f33) (c := C33) rfl rfl rfl (Nat.le_of_ble_eq_true rfl) fun g hg => h g (hg 0 x0 rfl) (hg 1 x1 rfl)
theorem cx_33 {x0 x1 : AVal} {st : ASt} {R : AEnd → ASt → Prop} (h : ∀ g : Nat → AVal, g 0 = x0 → g 1 = x1 → Wp E 33 C33 (Sl 14 g) st (fun e ts st => ∃ r st', aend E Try.f33 (some (e, ts, st)) = some (r, st') ∧ R r st')) : ∃ r st', rw E 33 [x0, x1] st = some (r, st') ∧ R r st' :=
  cx_of (fn := Try.f33) (c := C33) rfl rfl rfl (Nat.le_of_ble_eq_true rfl) fun g hg => h g (hg 0 x0 rfl) (hg 1 x1 rfl)
theorem o_leni_29 (mt : Bool) (ty : TypeId) (cs : Array Bool) (sz : Nat) (es : List AVal) (c : Cap) (st : ASt) : builtinA E.P mt .len #[29] ty cs [.islice sz es c] st = some (.val (.lit (.int .i64 es.length)) st) := rfl
theorem o_lens_29 (mt : Bool) (ty : TypeId) (cs : Array Bool) (s o l sz : Nat) (c : Option Nat) (st : ASt) : builtinA E.P mt .len #[29] ty cs [.slice s o l sz c] st = some (.val (.lit (.int .i64 l)) st) := rfl
theorem o_lenn_29 (mt : Bool) (ty : TypeId) (cs : Array Bool) (a : Option Addr) (st : ASt) : builtinA E.P mt .len #[29] ty cs [.lit (.slice a 0 0)] st = some (.val (.lit (.int .i64 0)) st) := len_nil rfl _ _ _ _ _
theorem o_cv_3_72 (mt : Bool) (n : Int) (st : ASt) : convA E.P mt 3 72 (.lit (.int .i64 n)) st = some (.lit (.int .u64 (IntKind.u64.wrap n)), st) := c_int rfl rfl
theorem cf_38 (a : List AVal) (st : ASt) : callFuncA E.P 38 a st = some (.enter 38 a st) := rfl

/-! ### slices.IndexFunc[[]braidwork/event.Mark,braidwork/event.Mark] -/
noncomputable def C31 : Code := (code Try.f31)
noncomputable def S31_0 : Code := .seq ((code Try.f31).fst) ((code Try.f31).snd.fst.fst)
noncomputable def S31_0_e := (⟨by simp only [S31_0, code, Try.f31, Option.getD_some, Code.fst, Code.snd, Code.bin, Code.lin, Code.sin, Code.yes, Code.no]; exact rfl⟩ : PLift (S31_0 = _))
noncomputable def L31_0 : Code := (code Try.f31).snd.fst.snd.bin.lin
noncomputable def S31_1 : Code := .seq ((code Try.f31).snd.fst.snd.bin.lin.fst) (.seq ((code Try.f31).snd.fst.snd.bin.lin.snd.fst) (.seq ((code Try.f31).snd.fst.snd.bin.lin.snd.snd.fst) ((code Try.f31).snd.fst.snd.bin.lin.snd.snd.snd)))
noncomputable def S31_1_e := (⟨by simp only [S31_1, code, Try.f31, Option.getD_some, Code.fst, Code.snd, Code.bin, Code.lin, Code.sin, Code.yes, Code.no]; exact rfl⟩ : PLift (S31_1 = _))
theorem L31_0_wp {ts : List AVal} {st : ASt} {Q : APost} (h : Wp E 31 S31_1 ts st Q) : Wp E 31 L31_0 ts st Q := by
  have e : ∀ n ts st, aexec E 31 (rw E) (drawB E 31) n L31_0 ts st = aexec E 31 (rw E) (drawB E 31) n (S31_1) ts st := by
    intro n ts st
    have e1 : L31_0 = (.seq (code Try.f31).snd.fst.snd.bin.lin.fst (.seq (code Try.f31).snd.fst.snd.bin.lin.snd.fst (.seq (code Try.f31).snd.fst.snd.bin.lin.snd.snd.fst (code Try.f31).snd.fst.snd.bin.lin.snd.snd.snd))) := rfl
    rw [e1] <;>
    simp only [S31_1, aexec_seq, aseq_assoc]
  refine aw_congr e ?_
  exact h
noncomputable def S31_2 : Code := .seq ((code Try.f31).snd.snd.fst) ((code Try.f31).snd.snd.snd)
noncomputable def S31_2_e := (⟨by simp only [S31_2, code, Try.f31, Option.getD_some, Code.fst, Code.snd, Code.bin, Code.lin, Code.sin, Code.yes, Code.no]; exact rfl⟩ : PLift (S31_2 = _))
theorem C31_wp {ts : List AVal} {st : ASt} {Q : APost} (h : Wp E 31 S31_0 ts st (Nx (fun ts st => Wp E 31 (.block 0 (.loop L31_0)) ts st (Nx (fun ts st => Wp E 31 S31_2 ts st Q) Q)) Q)) : Wp E 31 C31 ts st Q := by
  have e : ∀ n ts st, aexec E 31 (rw E) (drawB E 31) n C31 ts st = aexec E 31 (rw E) (drawB E 31) n (.seq S31_0 (.seq (.block 0 (.loop L31_0)) (S31_2))) ts st := by
    intro n ts st
    have e1 : C31 = (.seq (code Try.f31).fst (.seq (.seq (code Try.f31).snd.fst.fst (.block 0 (.loop L31_0))) (.seq (code Try.f31).snd.snd.fst (code Try.f31).snd.snd.snd))) := rfl
    rw [e1] <;>
    simp only [S31_0, S31_2, aexec_seq, aseq_assoc]
  refine aw_congr e ?_
  have h0 := h
  exact aw_seq (h0.mono fun e ts st hq => by cases e <;> first | exact hq | (have h1 := hq; exact aw_seq h1))
theorem ce_31 {x0 x1 : AVal} {st : ASt} {r : AEnd × ASt} (h : ∀ g : Nat → AVal, g 0 = x0 → g 1 = x1 → Wp E 31 C31 (Sl 19 g) st (fun e ts st => aend E Try.f31 (some (e, ts, st)) = some r)) : rw E 31 [x0, x1] st = some r :=
  ce_of (fn := Try.f31) (c := C31) rfl rfl rfl (Nat.le_of_ble_eq_true rfl) fun g hg => h g (hg 0 x0 rfl) (hg 1 x1 rfl)
theorem cx_31 {x0 x1 : AVal} {st : ASt} {R : AEnd → ASt → Prop} (h : ∀ g : Nat → AVal, g 0 = x0 → g 1 = x1 → Wp E 31 C31 (Sl 19 g) st (fun e ts st => ∃ r st', aend E Try.f31 (some (e, ts, st)) = some (r, st') ∧ R r st')) : ∃ r st', rw E 31 [x0, x1] st = some (r, st') ∧ R r st' :=
  cx_of (fn := Try.f31) (c := C31) rfl rfl rfl (Nat.le_of_ble_eq_true rfl) fun g hg => h g (hg 0 x0 rfl) (hg 1 x1 rfl)

/-! ### math/bits.Len -/
noncomputable def C38 : Code := (code Try.f38)
noncomputable def S38_0 : Code := .seq ((code Try.f38).fst) (.seq ((code Try.f38).snd.fst) (.seq ((code Try.f38).snd.snd.fst) ((code Try.f38).snd.snd.snd)))
noncomputable def S38_0_e := (⟨by simp only [S38_0, code, Try.f38, Option.getD_some, Code.fst, Code.snd, Code.bin, Code.lin, Code.sin, Code.yes, Code.no]; exact rfl⟩ : PLift (S38_0 = _))
theorem C38_wp {ts : List AVal} {st : ASt} {Q : APost} (h : Wp E 38 S38_0 ts st Q) : Wp E 38 C38 ts st Q := by
  have e : ∀ n ts st, aexec E 38 (rw E) (drawB E 38) n C38 ts st = aexec E 38 (rw E) (drawB E 38) n (S38_0) ts st := by
    intro n ts st
    have e1 : C38 = (.seq (code Try.f38).fst (.seq (code Try.f38).snd.fst (.seq (code Try.f38).snd.snd.fst (code Try.f38).snd.snd.snd))) := rfl
    rw [e1] <;>
    simp only [S38_0, aexec_seq, aseq_assoc]
  refine aw_congr e ?_
  exact h
theorem ce_38 {x0 : AVal} {st : ASt} {r : AEnd × ASt} (h : ∀ g : Nat → AVal, g 0 = x0 → Wp E 38 C38 (Sl 8 g) st (fun e ts st => aend E Try.f38 (some (e, ts, st)) = some r)) : rw E 38 [x0] st = some r :=
  ce_of (fn := Try.f38) (c := C38) rfl rfl rfl (Nat.le_of_ble_eq_true rfl) fun g hg => h g (hg 0 x0 rfl)
theorem cx_38 {x0 : AVal} {st : ASt} {R : AEnd → ASt → Prop} (h : ∀ g : Nat → AVal, g 0 = x0 → Wp E 38 C38 (Sl 8 g) st (fun e ts st => ∃ r st', aend E Try.f38 (some (e, ts, st)) = some (r, st') ∧ R r st')) : ∃ r st', rw E 38 [x0] st = some (r, st') ∧ R r st' :=
  cx_of (fn := Try.f38) (c := C38) rfl rfl rfl (Nat.le_of_ble_eq_true rfl) fun g hg => h g (hg 0 x0 rfl)
theorem o_cv_72_83 (mt : Bool) (n : Int) (st : ASt) : convA E.P mt 72 83 (.lit (.int .u64 n)) st = some (.lit (.int .u32 (IntKind.u32.wrap n)), st) := c_int rfl rfl
theorem cf_48 (a : List AVal) (st : ASt) : callFuncA E.P 48 a st = some (.enter 48 a st) := rfl
theorem cf_49 (a : List AVal) (st : ASt) : callFuncA E.P 49 a st = some (.enter 49 a st) := rfl

/-! ### math/bits.Len64 -/
noncomputable def C49 : Code := (code Try.f49)
noncomputable def S49_0 : Code := .seq ((code Try.f49).fst) (.seq ((code Try.f49).snd.fst.fst) (.seq ((code Try.f49).snd.fst.snd) (.seq ((code Try.f49).snd.snd.fst.fst) (.seq ((code Try.f49).snd.snd.fst.snd) (.seq ((code Try.f49).snd.snd.snd.fst.fst) (.seq ((code Try.f49).snd.snd.snd.fst.snd) (.seq ((code Try.f49).snd.snd.snd.snd.fst) ((code Try.f49).snd.snd.snd.snd.snd))))))))
noncomputable def S49_0_e := (⟨by simp only [S49_0, code, Try.f49, Option.getD_some, Code.fst, Code.snd, Code.bin, Code.lin, Code.sin, Code.yes, Code.no]; exact rfl⟩ : PLift (S49_0 = _))
theorem C49_wp {ts : List AVal} {st : ASt} {Q : APost} (h : Wp E 49 S49_0 ts st Q) : Wp E 49 C49 ts st Q := by
  have e : ∀ n ts st, aexec E 49 (rw E) (drawB E 49) n C49 ts st = aexec E 49 (rw E) (drawB E 49) n (S49_0) ts st := by
    intro n ts st
    have e1 : C49 = (.seq (code Try.f49).fst (.seq (.seq (code Try.f49).snd.fst.fst (code Try.f49).snd.fst.snd) (.seq (.seq (code Try.f49).snd.snd.fst.fst (code Try.f49).snd.snd.fst.snd) (.seq (.seq (code Try.f49).snd.snd.snd.fst.fst (code Try.f49).snd.snd.snd.fst.snd) (.seq (code Try.f49).snd.snd.snd.snd.fst (code Try.f49).snd.snd.snd.snd.snd))))) := rfl
    rw [e1] <;>
    simp only [S49_0, aexec_seq, aseq_assoc]
  refine aw_congr e ?_
  exact h
theorem ce_49 {x0 : AVal} {st : ASt} {r : AEnd × ASt} (h : ∀ g : Nat → AVal, g 0 = x0 → Wp E 49 C49 (Sl 25 g) st (fun e ts st => aend E Try.f49 (some (e, ts, st)) = some r)) : rw E 49 [x0] st = some r :=
  ce_of (fn := Try.f49) (c := C49) rfl rfl rfl (Nat.le_of_ble_eq_true rfl) fun g hg => h g (hg 0 x0 rfl)
theorem cx_49 {x0 : AVal} {st : ASt} {R : AEnd → ASt → Prop} (h : ∀ g : Nat → AVal, g 0 = x0 → Wp E 49 C49 (Sl 25 g) st (fun e ts st => ∃ r st', aend E Try.f49 (some (e, ts, st)) = some (r, st') ∧ R r st')) : ∃ r st', rw E 49 [x0] st = some (r, st') ∧ R r st' :=
  cx_of (fn := Try.f49) (c := C49) rfl rfl rfl (Nat.le_of_ble_eq_true rfl) fun g hg => h g (hg 0 x0 rfl)
theorem o_cv_85_5 (mt : Bool) (n : Int) (st : ASt) : convA E.P mt 85 5 (.lit (.int .u64 n)) st = some (.lit (.int .u8 (IntKind.u8.wrap n)), st) := c_int rfl rfl
theorem o_cv_5_3 (mt : Bool) (n : Int) (st : ASt) : convA E.P mt 5 3 (.lit (.int .u8 n)) st = some (.lit (.int .i64 (IntKind.i64.wrap n)), st) := c_int rfl rfl

/-! ### math/bits.Len32 -/
noncomputable def C48 : Code := (code Try.f48)
noncomputable def S48_0 : Code := .seq ((code Try.f48).fst) (.seq ((code Try.f48).snd.fst.fst) (.seq ((code Try.f48).snd.fst.snd) (.seq ((code Try.f48).snd.snd.fst.fst) (.seq ((code Try.f48).snd.snd.fst.snd) (.seq ((code Try.f48).snd.snd.snd.fst) ((code Try.f48).snd.snd.snd.snd))))))
noncomputable def S48_0_e := (⟨by simp only [S48_0, code, Try.f48, Option.getD_some, Code.fst, Code.snd, Code.bin, Code.lin, Code.sin, Code.yes, Code.no]; exact rfl⟩ : PLift (S48_0 = _))
theorem C48_wp {ts : List AVal} {st : ASt} {Q : APost} (h : Wp E 48 S48_0 ts st Q) : Wp E 48 C48 ts st Q := by
  have e : ∀ n ts st, aexec E 48 (rw E) (drawB E 48) n C48 ts st = aexec E 48 (rw E) (drawB E 48) n (S48_0) ts st := by
    intro n ts st
    have e1 : C48 = (.seq (code Try.f48).fst (.seq (.seq (code Try.f48).snd.fst.fst (code Try.f48).snd.fst.snd) (.seq (.seq (code Try.f48).snd.snd.fst.fst (code Try.f48).snd.snd.fst.snd) (.seq (code Try.f48).snd.snd.snd.fst (code Try.f48).snd.snd.snd.snd)))) := rfl
    rw [e1] <;>
    simp only [S48_0, aexec_seq, aseq_assoc]
  refine aw_congr e ?_
  exact h
theorem ce_48 {x0 : AVal} {st : ASt} {r : AEnd × ASt} (h : ∀ g : Nat → AVal, g 0 = x0 → Wp E 48 C48 (Sl 19 g) st (fun e ts st => aend E Try.f48 (some (e, ts, st)) = some r)) : rw E 48 [x0] st = some r :=
  ce_of (fn := Try.f48) (c := C48) rfl rfl rfl (Nat.le_of_ble_eq_true rfl) fun g hg => h g (hg 0 x0 rfl)
theorem cx_48 {x0 : AVal} {st : ASt} {R : AEnd → ASt → Prop} (h : ∀ g : Nat → AVal, g 0 = x0 → Wp E 48 C48 (Sl 19 g) st (fun e ts st => ∃ r st', aend E Try.f48 (some (e, ts, st)) = some (r, st') ∧ R r st')) : ∃ r st', rw E 48 [x0] st = some (r, st') ∧ R r st' :=
  cx_of (fn := Try.f48) (c := C48) rfl rfl rfl (Nat.le_of_ble_eq_true rfl) fun g hg => h g (hg 0 x0 rfl)
theorem o_cv_83_5 (mt : Bool) (n : Int) (st : ASt) : convA E.P mt 83 5 (.lit (.int .u32 n)) st = some (.lit (.int .u8 (IntKind.u8.wrap n)), st) := c_int rfl rfl

/-! ### braidwork/event.New -/
noncomputable def C14 : Code := (code Try.f14)
noncomputable def S14_0 : Code := .seq ((code Try.f14).fst) (.seq ((code Try.f14).snd.fst) ((code Try.f14).snd.snd.fst.fst))
noncomputable def S14_0_e := (⟨by simp only [S14_0, code, Try.f14, Option.getD_some, Code.fst, Code.snd, Code.bin, Code.lin, Code.sin, Code.yes, Code.no]; exact rfl⟩ : PLift (S14_0 = _))
noncomputable def L14_0 : Code := (code Try.f14).snd.snd.fst.snd.bin.lin
noncomputable def S14_1 : Code := .seq ((code Try.f14).snd.snd.fst.snd.bin.lin.fst) (.seq ((code Try.f14).snd.snd.fst.snd.bin.lin.snd.fst) (.seq ((code Try.f14).snd.snd.fst.snd.bin.lin.snd.snd.fst) ((code Try.f14).snd.snd.fst.snd.bin.lin.snd.snd.snd)))
noncomputable def S14_1_e := (⟨by simp only [S14_1, code, Try.f14, Option.getD_some, Code.fst, Code.snd, Code.bin, Code.lin, Code.sin, Code.yes, Code.no]; exact rfl⟩ : PLift (S14_1 = _))
theorem L14_0_wp {ts : List AVal} {st : ASt} {Q : APost} (h : Wp E 14 S14_1 ts st Q) : Wp E 14 L14_0 ts st Q := by
  have e : ∀ n ts st, aexec E 14 (rw E) (drawB E 14) n L14_0 ts st = aexec E 14 (rw E) (drawB E 14) n (S14_1) ts st := by
    intro n ts st
    have e1 : L14_0 = (.seq (code Try.f14).snd.snd.fst.snd.bin.lin.fst (.seq (code Try.f14).snd.snd.fst.snd.bin.lin.snd.fst (.seq (code Try.f14).snd.snd.fst.snd.bin.lin.snd.snd.fst (code Try.f14).snd.snd.fst.snd.bin.lin.snd.snd.snd))) := rfl
    rw [e1] <;>
    simp only [S14_1, aexec_seq, aseq_assoc]
  refine aw_congr e ?_
  exact h
noncomputable def S14_2 : Code := .seq ((code Try.f14).snd.snd.snd.fst) (.seq ((code Try.f14).snd.snd.snd.snd.fst) ((code Try.f14).snd.snd.snd.snd.snd))
noncomputable def S14_2_e := (⟨by simp only [S14_2, code, Try.f14, Option.getD_some, Code.fst, Code.snd, Code.bin, Code.lin, Code.sin, Code.yes, Code.no]; exact rfl⟩ : PLift (S14_2 = _))
theorem C14_wp {ts : List AVal} {st : ASt} {Q : APost} (h : Wp E 14 S14_0 ts st (Nx (fun ts st => Wp E 14 (.block 0 (.loop L14_0)) ts st (Nx (fun ts st => Wp E 14 S14_2 ts st Q) Q)) Q)) : Wp E 14 C14 ts st Q := by
  have e : ∀ n ts st, aexec E 14 (rw E) (drawB E 14) n C14 ts st = aexec E 14 (rw E) (drawB E 14) n (.seq S14_0 (.seq (.block 0 (.loop L14_0)) (S14_2))) ts st := by
    intro n ts st
    have e1 : C14 = (.seq (code Try.f14).fst (.seq (code Try.f14).snd.fst (.seq (.seq (code Try.f14).snd.snd.fst.fst (.block 0 (.loop L14_0))) (.seq (code Try.f14).snd.snd.snd.fst (.seq (code Try.f14).snd.snd.snd.snd.fst (code Try.f14).snd.snd.snd.snd.snd))))) := rfl
    rw [e1] <;>
    simp only [S14_0, S14_2, aexec_seq, aseq_assoc]
  refine aw_congr e ?_
  have h0 := h
  exact aw_seq (h0.mono fun e ts st hq => by cases e <;> first | exact hq | (have h1 := hq; exact aw_seq h1))
theorem ce_14 {x0 x1 : AVal} {st : ASt} {r : AEnd × ASt} (h : ∀ g : Nat → AVal, g 0 = x0 → g 1 = x1 → Wp E 14 C14 (Sl 43 g) st (fun e ts st => aend E Try.f14 (some (e, ts, st)) = some r)) : rw E 14 [x0, x1] st = some r :=
  ce_of (fn := Try.f14) (c := C14) rfl rfl rfl (Nat.le_of_ble_eq_true rfl) fun g hg => h g (hg 0 x0 rfl) (hg 1 x1 rfl)
theorem cx_14 {x0 x1 : AVal} {st : ASt} {R : AEnd → ASt → Prop} (h : ∀ g : Nat → AVal, g 0 = x0 → g 1 = x1 → Wp E 14 C14 (Sl 43 g) st (fun e ts st => ∃ r st', aend E Try.f14 (some (e, ts, st)) = some (r, st') ∧ R r st')) : ∃ r st', rw E 14 [x0, x1] st = some (r, st') ∧ R r st' :=
  cx_of (fn := Try.f14) (c := C14) rfl rfl rfl (Nat.le_of_ble_eq_true rfl) fun g hg => h g (hg 0 x0 rfl) (hg 1 x1 rfl)
theorem o_al_31 (st : ASt) : allocA E.P 31 st = some (.ptr st.ctr 0, st.new (.cells [.lit (.int .i64 0), .lit (.slice none 0 0)])) := rfl
theorem o_al_40 (st : ASt) : allocA E.P 40 st = some (.ptr st.ctr 0, st.new (.cells [.lit (.int .i64 0), .lit (.bool false)])) := rfl
theorem cf_31 (a : List AVal) (st : ASt) : callFuncA E.P 31 a st = some (.enter 31 a st) := rfl
theorem hint_14_22 : E.hint 14 22 = false := rfl
theorem o_bs_29_1 (ps : List (Nat × AVal)) (st : ASt) : buildSliceA E.P false 29 1 ps st = (setsE true 2 [(.agg [.lit (.int .i64 0), .lit (.bool false)])] ps).map (fun es => (.islice 2 es .exact, st)) := bs_i rfl rfl rfl rfl (by decide) rfl ps st
theorem hint_14_23 : E.hint 14 23 = true := rfl
theorem slt_29 : SlT E.P 29 40 true 2 := ⟨rfl, rfl, ⟨_, _, rfl, rfl, by decide, rfl, rfl⟩, by decide⟩
theorem o_fap_40_1 (s o : Nat) : fieldA E.P 40 (.ptr s o) 1 = some (.ptr s (o + 1)) := rfl
theorem o_fai_40_1 (cs : List AVal) : fieldA E.P 40 (.iptr (.agg cs)) 1 = (cs[1]?).map .iptr := rfl
theorem o_ldp_4 (st : ASt) (s o : Nat) : loadA E.P 4 st (.ptr s o) = (blkOf (st.heap s)).bind (fun cs => cs[o]?) := ld_one rfl rfl st s o
theorem o_ldi_4 (st : ASt) (v : AVal) : loadA E.P 4 st (.iptr v) = if v.isCell = true then some v else none := rfl
theorem o_st_4 (st : ASt) (s o : Nat) (v : AVal) : storeA E.P 4 st (.ptr s o) v = if v.isCell = true then (blkOf (st.heap s)).bind (fun cs => if o + 1 ≤ cs.length then some (st.set s (some (.cells (cs.set o v)))) else none) else storeU E.P 4 st (.ptr s o) v := st_one rfl st s o v
theorem cf_33 (a : List AVal) (st : ASt) : callFuncA E.P 33 a st = some (.enter 33 a st) := rfl
theorem o_bd_31 (ps : List (Nat × AVal)) : buildA E.P 31 ps = (fillA (fun i => ([(0, 1), (1, 1)] : List (Nat × Nat))[i]?) [.lit (.int .i64 0), .lit (.slice none 0 0)] ps).map .agg := rfl
theorem o_st_31 (st : ASt) (s o : Nat) (vs : List AVal) : storeA E.P 31 st (.ptr s o) (.agg vs) = (blkOf (st.heap s)).bind (fun cs => if vs.length = 2 ∧ o + vs.length ≤ cs.length ∧ vs.all AVal.isCell = true then some (st.set s (some (.cells (putL cs o vs)))) else none) := st_agg rfl st s o vs

/-! ### braidwork/braidworklaw08.Marks -/
noncomputable def C15 : Code := (code Try.f15)
noncomputable def S15_0 : Code := .seq ((code Try.f15).fst) (.seq ((code Try.f15).snd.fst) ((code Try.f15).snd.snd.fst.fst))
noncomputable def S15_0_e := (⟨by simp only [S15_0, code, Try.f15, Option.getD_some, Code.fst, Code.snd, Code.bin, Code.lin, Code.sin, Code.yes, Code.no]; exact rfl⟩ : PLift (S15_0 = _))
noncomputable def L15_0 : Code := (code Try.f15).snd.snd.fst.snd.bin.lin
noncomputable def S15_1 : Code := .seq ((code Try.f15).snd.snd.fst.snd.bin.lin.fst) (.seq ((code Try.f15).snd.snd.fst.snd.bin.lin.snd.fst) (.seq ((code Try.f15).snd.snd.fst.snd.bin.lin.snd.snd.fst) ((code Try.f15).snd.snd.fst.snd.bin.lin.snd.snd.snd)))
noncomputable def S15_1_e := (⟨by simp only [S15_1, code, Try.f15, Option.getD_some, Code.fst, Code.snd, Code.bin, Code.lin, Code.sin, Code.yes, Code.no]; exact rfl⟩ : PLift (S15_1 = _))
theorem L15_0_wp {ts : List AVal} {st : ASt} {Q : APost} (h : Wp E 15 S15_1 ts st Q) : Wp E 15 L15_0 ts st Q := by
  have e : ∀ n ts st, aexec E 15 (rw E) (drawB E 15) n L15_0 ts st = aexec E 15 (rw E) (drawB E 15) n (S15_1) ts st := by
    intro n ts st
    have e1 : L15_0 = (.seq (code Try.f15).snd.snd.fst.snd.bin.lin.fst (.seq (code Try.f15).snd.snd.fst.snd.bin.lin.snd.fst (.seq (code Try.f15).snd.snd.fst.snd.bin.lin.snd.snd.fst (code Try.f15).snd.snd.fst.snd.bin.lin.snd.snd.snd))) := rfl
    rw [e1] <;>
    simp only [S15_1, aexec_seq, aseq_assoc]
  refine aw_congr e ?_
  exact h
noncomputable def S15_2 : Code := .seq ((code Try.f15).snd.snd.snd.fst) ((code Try.f15).snd.snd.snd.snd)
noncomputable def S15_2_e := (⟨by simp only [S15_2, code, Try.f15, Option.getD_some, Code.fst, Code.snd, Code.bin, Code.lin, Code.sin, Code.yes, Code.no]; exact rfl⟩ : PLift (S15_2 = _))
theorem C15_wp {ts : List AVal} {st : ASt} {Q : APost} (h : Wp E 15 S15_0 ts st (Nx (fun ts st => Wp E 15 (.block 0 (.loop L15_0)) ts st (Nx (fun ts st => Wp E 15 S15_2 ts st Q) Q)) Q)) : Wp E 15 C15 ts st Q := by
  have e : ∀ n ts st, aexec E 15 (rw E) (drawB E 15) n C15 ts st = aexec E 15 (rw E) (drawB E 15) n (.seq S15_0 (.seq (.block 0 (.loop L15_0)) (S15_2))) ts st := by
    intro n ts st
    have e1 : C15 = (.seq (code Try.f15).fst (.seq (code Try.f15).snd.fst (.seq (.seq (code Try.f15).snd.snd.fst.fst (.block 0 (.loop L15_0))) (.seq (code Try.f15).snd.snd.snd.fst (code Try.f15).snd.snd.snd.snd)))) := rfl
    rw [e1] <;>
    simp only [S15_0, S15_2, aexec_seq, aseq_assoc]
  refine aw_congr e ?_
  have h0 := h
  exact aw_seq (h0.mono fun e ts st hq => by cases e <;> first | exact hq | (have h1 := hq; exact aw_seq h1))
theorem ce_15 {x0 : AVal} {st : ASt} {r : AEnd × ASt} (h : ∀ g : Nat → AVal, g 0 = x0 → Wp E 15 C15 (Sl 23 g) st (fun e ts st => aend E Try.f15 (some (e, ts, st)) = some r)) : rw E 15 [x0] st = some r :=
  ce_of (fn := Try.f15) (c := C15) rfl rfl rfl (Nat.le_of_ble_eq_true rfl) fun g hg => h g (hg 0 x0 rfl)
theorem cx_15 {x0 : AVal} {st : ASt} {R : AEnd → ASt → Prop} (h : ∀ g : Nat → AVal, g 0 = x0 → Wp E 15 C15 (Sl 23 g) st (fun e ts st => ∃ r st', aend E Try.f15 (some (e, ts, st)) = some (r, st') ∧ R r st')) : ∃ r st', rw E 15 [x0] st = some (r, st') ∧ R r st' :=
  cx_of (fn := Try.f15) (c := C15) rfl rfl rfl (Nat.le_of_ble_eq_true rfl) fun g hg => h g (hg 0 x0 rfl)
theorem o_leni_22 (mt : Bool) (ty : TypeId) (cs : Array Bool) (sz : Nat) (es : List AVal) (c : Cap) (st : ASt) : builtinA E.P mt .len #[22] ty cs [.islice sz es c] st = some (.val (.lit (.int .i64 es.length)) st) := rfl
theorem o_lens_22 (mt : Bool) (ty : TypeId) (cs : Array Bool) (s o l sz : Nat) (c : Option Nat) (st : ASt) : builtinA E.P mt .len #[22] ty cs [.slice s o l sz c] st = some (.val (.lit (.int .i64 l)) st) := rfl
theorem o_lenn_22 (mt : Bool) (ty : TypeId) (cs : Array Bool) (a : Option Addr) (st : ASt) : builtinA E.P mt .len #[22] ty cs [.lit (.slice a 0 0)] st = some (.val (.lit (.int .i64 0)) st) := len_nil rfl _ _ _ _ _
theorem o_ixi_22 (sz : Nat) (es : List AVal) (c : Cap) (k : IntKind) (i : Int) : indexA E.P 22 (.islice sz es c) (.lit (.int k i)) = if 0 ≤ i ∧ i < es.length ∧ some 2 = some sz then (es[i.toNat]?).map .iptr else none := rfl
theorem o_ixs_22 (s o l sz : Nat) (c : Option Nat) (k : IntKind) (i : Int) : indexA E.P 22 (.slice s o l sz c) (.lit (.int k i)) = if 0 ≤ i ∧ i < l then some (.ptr s (o + i.toNat * 2)) else none := rfl
theorem o_ldp_26 (st : ASt) (s o : Nat) : loadA E.P 26 st (.ptr s o) = (blkOf (st.heap s)).bind (fun cs => if o + 2 ≤ cs.length then some (.agg ((cs.drop o).take 2)) else none) := ld_agg rfl rfl st s o
theorem o_ldi_26 (st : ASt) (cs : List AVal) : loadA E.P 26 st (.iptr (.agg cs)) = if cs.length = 2 then some (.agg cs) else none := rfl
theorem o_al_26 (st : ASt) : allocA E.P 26 st = some (.ptr st.ctr 0, st.new (.cells [.lit (.int .i8 0), .lit (.bool false)])) := rfl
theorem o_st_26 (st : ASt) (s o : Nat) (vs : List AVal) : storeA E.P 26 st (.ptr s o) (.agg vs) = (blkOf (st.heap s)).bind (fun cs => if vs.length = 2 ∧ o + vs.length ≤ cs.length ∧ vs.all AVal.isCell = true then some (st.set s (some (.cells (putL cs o vs)))) else none) := st_agg rfl st s o vs
theorem o_fap_26_0 (s o : Nat) : fieldA E.P 26 (.ptr s o) 0 = some (.ptr s (o + 0)) := rfl
theorem o_fai_26_0 (cs : List AVal) : fieldA E.P 26 (.iptr (.agg cs)) 0 = (cs[0]?).map .iptr := rfl
theorem o_ldp_24 (st : ASt) (s o : Nat) : loadA E.P 24 st (.ptr s o) = (blkOf (st.heap s)).bind (fun cs => cs[o]?) := ld_one rfl rfl st s o
theorem o_ldi_24 (st : ASt) (v : AVal) : loadA E.P 24 st (.iptr v) = if v.isCell = true then some v else none := rfl
theorem o_cv_24_3 (mt : Bool) (n : Int) (st : ASt) : convA E.P mt 24 3 (.lit (.int .i8 n)) st = some (.lit (.int .i64 (IntKind.i64.wrap n)), st) := c_int rfl rfl
theorem o_fap_26_1 (s o : Nat) : fieldA E.P 26 (.ptr s o) 1 = some (.ptr s (o + 1)) := rfl
theorem o_fai_26_1 (cs : List AVal) : fieldA E.P 26 (.iptr (.agg cs)) 1 = (cs[1]?).map .iptr := rfl
theorem o_bd_40 (ps : List (Nat × AVal)) : buildA E.P 40 ps = (fillA (fun i => ([(0, 1), (1, 1)] : List (Nat × Nat))[i]?) [.lit (.int .i64 0), .lit (.bool false)] ps).map .agg := rfl
theorem hint_15_19 : E.hint 15 19 = false := rfl
theorem hint_15_20 : E.hint 15 20 = false := rfl

/-! ### braidwork/event.Clash -/
noncomputable def C16 : Code := (code Try.f16)
noncomputable def S16_0 : Code := .seq ((code Try.f16).fst) ((code Try.f16).snd.fst.fst)
noncomputable def S16_0_e := (⟨by simp only [S16_0, code, Try.f16, Option.getD_some, Code.fst, Code.snd, Code.bin, Code.lin, Code.sin, Code.yes, Code.no]; exact rfl⟩ : PLift (S16_0 = _))
noncomputable def L16_0 : Code := (code Try.f16).snd.fst.snd.bin.lin
noncomputable def S16_1 : Code := .seq ((code Try.f16).snd.fst.snd.bin.lin.fst) ((code Try.f16).snd.fst.snd.bin.lin.snd.fst)
noncomputable def S16_1_e := (⟨by simp only [S16_1, code, Try.f16, Option.getD_some, Code.fst, Code.snd, Code.bin, Code.lin, Code.sin, Code.yes, Code.no]; exact rfl⟩ : PLift (S16_1 = _))
noncomputable def B16_1 : Code := (code Try.f16).snd.fst.snd.bin.lin.snd.snd.fst.bin
noncomputable def S16_2 : Code := .seq ((code Try.f16).snd.fst.snd.bin.lin.snd.snd.fst.bin.fst) ((code Try.f16).snd.fst.snd.bin.lin.snd.snd.fst.bin.snd.fst)
noncomputable def S16_2_e := (⟨by simp only [S16_2, code, Try.f16, Option.getD_some, Code.fst, Code.snd, Code.bin, Code.lin, Code.sin, Code.yes, Code.no]; exact rfl⟩ : PLift (S16_2 = _))
noncomputable def L16_2 : Code := (code Try.f16).snd.fst.snd.bin.lin.snd.snd.fst.bin.snd.snd.bin.lin
noncomputable def S16_3 : Code := .seq ((code Try.f16).snd.fst.snd.bin.lin.snd.snd.fst.bin.snd.snd.bin.lin.fst) (.seq ((code Try.f16).snd.fst.snd.bin.lin.snd.snd.fst.bin.snd.snd.bin.lin.snd.fst) (.seq ((code Try.f16).snd.fst.snd.bin.lin.snd.snd.fst.bin.snd.snd.bin.lin.snd.snd.fst) ((code Try.f16).snd.fst.snd.bin.lin.snd.snd.fst.bin.snd.snd.bin.lin.snd.snd.snd)))
noncomputable def S16_3_e := (⟨by simp only [S16_3, code, Try.f16, Option.getD_some, Code.fst, Code.snd, Code.bin, Code.lin, Code.sin, Code.yes, Code.no]; exact rfl⟩ : PLift (S16_3 = _))
theorem L16_2_wp {ts : List AVal} {st : ASt} {Q : APost} (h : Wp E 16 S16_3 ts st Q) : Wp E 16 L16_2 ts st Q := by
  have e : ∀ n ts st, aexec E 16 (rw E) (drawB E 16) n L16_2 ts st = aexec E 16 (rw E) (drawB E 16) n (S16_3) ts st := by
    intro n ts st
    have e1 : L16_2 = (.seq (code Try.f16).snd.fst.snd.bin.lin.snd.snd.fst.bin.snd.snd.bin.lin.fst (.seq (code Try.f16).snd.fst.snd.bin.lin.snd.snd.fst.bin.snd.snd.bin.lin.snd.fst (.seq (code Try.f16).snd.fst.snd.bin.lin.snd.snd.fst.bin.snd.snd.bin.lin.snd.snd.fst (code Try.f16).snd.fst.snd.bin.lin.snd.snd.fst.bin.snd.snd.bin.lin.snd.snd.snd))) := rfl
    rw [e1] <;>
    simp only [S16_3, aexec_seq, aseq_assoc]
  refine aw_congr e ?_
  exact h
theorem B16_1_wp {ts : List AVal} {st : ASt} {Q : APost} (h : Wp E 16 S16_2 ts st (Nx (fun ts st => Wp E 16 (.block 2 (.loop L16_2)) ts st Q) Q)) : Wp E 16 B16_1 ts st Q := by
  have e : ∀ n ts st, aexec E 16 (rw E) (drawB E 16) n B16_1 ts st = aexec E 16 (rw E) (drawB E 16) n (.seq S16_2 ((.block 2 (.loop L16_2)))) ts st := by
    intro n ts st
    have e1 : B16_1 = (.seq (code Try.f16).snd.fst.snd.bin.lin.snd.snd.fst.bin.fst (.seq (code Try.f16).snd.fst.snd.bin.lin.snd.snd.fst.bin.snd.fst (.block 2 (.loop L16_2)))) := rfl
    rw [e1] <;>
    simp only [S16_2, aexec_seq, aseq_assoc]
  refine aw_congr e ?_
  have h0 := h
  exact aw_seq h0
noncomputable def S16_4 : Code := (code Try.f16).snd.fst.snd.bin.lin.snd.snd.snd
noncomputable def S16_4_e := (⟨by simp only [S16_4, code, Try.f16, Option.getD_some, Code.fst, Code.snd, Code.bin, Code.lin, Code.sin, Code.yes, Code.no]; exact rfl⟩ : PLift (S16_4 = _))
theorem L16_0_wp {ts : List AVal} {st : ASt} {Q : APost} (h : Wp E 16 S16_1 ts st (Nx (fun ts st => Wp E 16 (.block 1 B16_1) ts st (Nx (fun ts st => Wp E 16 S16_4 ts st Q) Q)) Q)) : Wp E 16 L16_0 ts st Q := by
  have e : ∀ n ts st, aexec E 16 (rw E) (drawB E 16) n L16_0 ts st = aexec E 16 (rw E) (drawB E 16) n (.seq S16_1 (.seq (.block 1 B16_1) (S16_4))) ts st := by
    intro n ts st
    have e1 : L16_0 = (.seq (code Try.f16).snd.fst.snd.bin.lin.fst (.seq (code Try.f16).snd.fst.snd.bin.lin.snd.fst (.seq (.block 1 B16_1) (code Try.f16).snd.fst.snd.bin.lin.snd.snd.snd))) := rfl
    rw [e1] <;>
    simp only [S16_1, S16_4, aexec_seq, aseq_assoc]
  refine aw_congr e ?_
  have h0 := h
  exact aw_seq (h0.mono fun e ts st hq => by cases e <;> first | exact hq | (have h1 := hq; exact aw_seq h1))
noncomputable def S16_5 : Code := .seq ((code Try.f16).snd.snd.fst) ((code Try.f16).snd.snd.snd)
noncomputable def S16_5_e := (⟨by simp only [S16_5, code, Try.f16, Option.getD_some, Code.fst, Code.snd, Code.bin, Code.lin, Code.sin, Code.yes, Code.no]; exact rfl⟩ : PLift (S16_5 = _))
theorem C16_wp {ts : List AVal} {st : ASt} {Q : APost} (h : Wp E 16 S16_0 ts st (Nx (fun ts st => Wp E 16 (.block 0 (.loop L16_0)) ts st (Nx (fun ts st => Wp E 16 S16_5 ts st Q) Q)) Q)) : Wp E 16 C16 ts st Q := by
  have e : ∀ n ts st, aexec E 16 (rw E) (drawB E 16) n C16 ts st = aexec E 16 (rw E) (drawB E 16) n (.seq S16_0 (.seq (.block 0 (.loop L16_0)) (S16_5))) ts st := by
    intro n ts st
    have e1 : C16 = (.seq (code Try.f16).fst (.seq (.seq (code Try.f16).snd.fst.fst (.block 0 (.loop L16_0))) (.seq (code Try.f16).snd.snd.fst (code Try.f16).snd.snd.snd))) := rfl
    rw [e1] <;>
    simp only [S16_0, S16_5, aexec_seq, aseq_assoc]
  refine aw_congr e ?_
  have h0 := h
  exact aw_seq (h0.mono fun e ts st hq => by cases e <;> first | exact hq | (have h1 := hq; exact aw_seq h1))
theorem ce_16 {x0 x1 : AVal} {st : ASt} {r : AEnd × ASt} (h : ∀ g : Nat → AVal, g 0 = x0 → g 1 = x1 → Wp E 16 C16 (Sl 36 g) st (fun e ts st => aend E Try.f16 (some (e, ts, st)) = some r)) : rw E 16 [x0, x1] st = some r :=
  ce_of (fn := Try.f16) (c := C16) rfl rfl rfl (Nat.le_of_ble_eq_true rfl) fun g hg => h g (hg 0 x0 rfl) (hg 1 x1 rfl)
theorem cx_16 {x0 x1 : AVal} {st : ASt} {R : AEnd → ASt → Prop} (h : ∀ g : Nat → AVal, g 0 = x0 → g 1 = x1 → Wp E 16 C16 (Sl 36 g) st (fun e ts st => ∃ r st', aend E Try.f16 (some (e, ts, st)) = some (r, st') ∧ R r st')) : ∃ r st', rw E 16 [x0, x1] st = some (r, st') ∧ R r st' :=
  cx_of (fn := Try.f16) (c := C16) rfl rfl rfl (Nat.le_of_ble_eq_true rfl) fun g hg => h g (hg 0 x0 rfl) (hg 1 x1 rfl)

/-! ### braidwork/event.Depend -/
noncomputable def C17 : Code := (code Try.f17)
noncomputable def S17_0 : Code := .seq ((code Try.f17).fst) (.seq ((code Try.f17).snd.fst) ((code Try.f17).snd.snd))
noncomputable def S17_0_e := (⟨by simp only [S17_0, code, Try.f17, Option.getD_some, Code.fst, Code.snd, Code.bin, Code.lin, Code.sin, Code.yes, Code.no]; exact rfl⟩ : PLift (S17_0 = _))
theorem C17_wp {ts : List AVal} {st : ASt} {Q : APost} (h : Wp E 17 S17_0 ts st Q) : Wp E 17 C17 ts st Q := by
  have e : ∀ n ts st, aexec E 17 (rw E) (drawB E 17) n C17 ts st = aexec E 17 (rw E) (drawB E 17) n (S17_0) ts st := by
    intro n ts st
    have e1 : C17 = (.seq (code Try.f17).fst (.seq (code Try.f17).snd.fst (code Try.f17).snd.snd)) := rfl
    rw [e1] <;>
    simp only [S17_0, aexec_seq, aseq_assoc]
  refine aw_congr e ?_
  exact h
theorem ce_17 {x0 x1 : AVal} {st : ASt} {r : AEnd × ASt} (h : ∀ g : Nat → AVal, g 0 = x0 → g 1 = x1 → Wp E 17 C17 (Sl 17 g) st (fun e ts st => aend E Try.f17 (some (e, ts, st)) = some r)) : rw E 17 [x0, x1] st = some r :=
  ce_of (fn := Try.f17) (c := C17) rfl rfl rfl (Nat.le_of_ble_eq_true rfl) fun g hg => h g (hg 0 x0 rfl) (hg 1 x1 rfl)
theorem cx_17 {x0 x1 : AVal} {st : ASt} {R : AEnd → ASt → Prop} (h : ∀ g : Nat → AVal, g 0 = x0 → g 1 = x1 → Wp E 17 C17 (Sl 17 g) st (fun e ts st => ∃ r st', aend E Try.f17 (some (e, ts, st)) = some (r, st') ∧ R r st')) : ∃ r st', rw E 17 [x0, x1] st = some (r, st') ∧ R r st' :=
  cx_of (fn := Try.f17) (c := C17) rfl rfl rfl (Nat.le_of_ble_eq_true rfl) fun g hg => h g (hg 0 x0 rfl) (hg 1 x1 rfl)
theorem o_fap_31_0 (s o : Nat) : fieldA E.P 31 (.ptr s o) 0 = some (.ptr s (o + 0)) := rfl
theorem o_fai_31_0 (cs : List AVal) : fieldA E.P 31 (.iptr (.agg cs)) 0 = (cs[0]?).map .iptr := rfl
theorem o_fap_31_1 (s o : Nat) : fieldA E.P 31 (.ptr s o) 1 = some (.ptr s (o + 1)) := rfl
theorem o_fai_31_1 (cs : List AVal) : fieldA E.P 31 (.iptr (.agg cs)) 1 = (cs[1]?).map .iptr := rfl
theorem o_ldp_29 (st : ASt) (s o : Nat) : loadA E.P 29 st (.ptr s o) = (blkOf (st.heap s)).bind (fun cs => cs[o]?) := ld_one rfl rfl st s o
theorem o_ldi_29 (st : ASt) (v : AVal) : loadA E.P 29 st (.iptr v) = if v.isCell = true then some v else none := rfl
theorem cf_16 (a : List AVal) (st : ASt) : callFuncA E.P 16 a st = some (.enter 16 a st) := rfl

/-! ### braidwork/clock.New -/
noncomputable def C24 : Code := (code Try.f24)
noncomputable def S24_0 : Code := .seq ((code Try.f24).fst) (.seq ((code Try.f24).snd.fst) ((code Try.f24).snd.snd.fst.fst))
noncomputable def S24_0_e := (⟨by simp only [S24_0, code, Try.f24, Option.getD_some, Code.fst, Code.snd, Code.bin, Code.lin, Code.sin, Code.yes, Code.no]; exact rfl⟩ : PLift (S24_0 = _))
noncomputable def L24_0 : Code := (code Try.f24).snd.snd.fst.snd.bin.lin
noncomputable def S24_1 : Code := .seq ((code Try.f24).snd.snd.fst.snd.bin.lin.fst) (.seq ((code Try.f24).snd.snd.fst.snd.bin.lin.snd.fst) (.seq ((code Try.f24).snd.snd.fst.snd.bin.lin.snd.snd.fst) ((code Try.f24).snd.snd.fst.snd.bin.lin.snd.snd.snd)))
noncomputable def S24_1_e := (⟨by simp only [S24_1, code, Try.f24, Option.getD_some, Code.fst, Code.snd, Code.bin, Code.lin, Code.sin, Code.yes, Code.no]; exact rfl⟩ : PLift (S24_1 = _))
theorem L24_0_wp {ts : List AVal} {st : ASt} {Q : APost} (h : Wp E 24 S24_1 ts st Q) : Wp E 24 L24_0 ts st Q := by
  have e : ∀ n ts st, aexec E 24 (rw E) (drawB E 24) n L24_0 ts st = aexec E 24 (rw E) (drawB E 24) n (S24_1) ts st := by
    intro n ts st
    have e1 : L24_0 = (.seq (code Try.f24).snd.snd.fst.snd.bin.lin.fst (.seq (code Try.f24).snd.snd.fst.snd.bin.lin.snd.fst (.seq (code Try.f24).snd.snd.fst.snd.bin.lin.snd.snd.fst (code Try.f24).snd.snd.fst.snd.bin.lin.snd.snd.snd))) := rfl
    rw [e1] <;>
    simp only [S24_1, aexec_seq, aseq_assoc]
  refine aw_congr e ?_
  exact h
noncomputable def S24_2 : Code := .seq ((code Try.f24).snd.snd.snd.fst) (.seq ((code Try.f24).snd.snd.snd.snd.fst) ((code Try.f24).snd.snd.snd.snd.snd.fst.fst))
noncomputable def S24_2_e := (⟨by simp only [S24_2, code, Try.f24, Option.getD_some, Code.fst, Code.snd, Code.bin, Code.lin, Code.sin, Code.yes, Code.no]; exact rfl⟩ : PLift (S24_2 = _))
noncomputable def L24_1 : Code := (code Try.f24).snd.snd.snd.snd.snd.fst.snd.bin.lin
noncomputable def rg24_14 : Code := (code Try.f24).snd.snd.snd.snd.snd.fst.snd.bin.lin.snd.snd.fst.bin.snd.snd.yes.snd
noncomputable def rq24_14 : Code := (code Try.f24).snd.snd.snd.snd.snd.fst.snd.bin.lin.snd.snd.fst.bin.snd.snd.yes.snd
theorem ex24_14 (call : ACall) (n : Nat) (ts : List AVal) (st : ASt) : aexec E 24 call (drawB E 24) n rg24_14 ts st = aops E 24 call rq24_14.ops rq24_14.ops.toList ts st := by
  have d : drawB E 24 rq24_14.ops = true := by kernel_rfl
  have e : rg24_14 = .region 14 rq24_14.ops true := rfl
  rw [e, aexec, d]; rfl
noncomputable def rq24_14_e := (⟨by simp only [rq24_14, code, Try.f24, Option.getD_some, Code.fst, Code.snd, Code.bin, Code.lin, Code.sin, Code.yes, Code.no, Code.ops]; exact rfl⟩ : PLift (rq24_14.ops = _))
noncomputable def S24_3 : Code := .seq ((code Try.f24).snd.snd.snd.snd.snd.fst.snd.bin.lin.fst) (.seq ((code Try.f24).snd.snd.snd.snd.snd.fst.snd.bin.lin.snd.fst) (.seq (.block 3 (.seq (code Try.f24).snd.snd.snd.snd.snd.fst.snd.bin.lin.snd.snd.fst.bin.fst (.seq (code Try.f24).snd.snd.snd.snd.snd.fst.snd.bin.lin.snd.snd.fst.bin.snd.fst (.cond (.tmp 37) (.seq (code Try.f24).snd.snd.snd.snd.snd.fst.snd.bin.lin.snd.snd.fst.bin.snd.snd.yes.fst rg24_14) (code Try.f24).snd.snd.snd.snd.snd.fst.snd.bin.lin.snd.snd.fst.bin.snd.snd.no)))) ((code Try.f24).snd.snd.snd.snd.snd.fst.snd.bin.lin.snd.snd.snd)))
noncomputable def S24_3_e := (⟨by simp only [S24_3, code, Try.f24, Option.getD_some, Code.fst, Code.snd, Code.bin, Code.lin, Code.sin, Code.yes, Code.no]; exact rfl⟩ : PLift (S24_3 = _))
theorem L24_1_wp {ts : List AVal} {st : ASt} {Q : APost} (h : Wp E 24 S24_3 ts st Q) : Wp E 24 L24_1 ts st Q := by
  have e : ∀ n ts st, aexec E 24 (rw E) (drawB E 24) n L24_1 ts st = aexec E 24 (rw E) (drawB E 24) n (S24_3) ts st := by
    intro n ts st
    have e1 : L24_1 = (.seq (code Try.f24).snd.snd.snd.snd.snd.fst.snd.bin.lin.fst (.seq (code Try.f24).snd.snd.snd.snd.snd.fst.snd.bin.lin.snd.fst (.seq (.block 3 (.seq (code Try.f24).snd.snd.snd.snd.snd.fst.snd.bin.lin.snd.snd.fst.bin.fst (.seq (code Try.f24).snd.snd.snd.snd.snd.fst.snd.bin.lin.snd.snd.fst.bin.snd.fst (.cond (.tmp 37) (.seq (code Try.f24).snd.snd.snd.snd.snd.fst.snd.bin.lin.snd.snd.fst.bin.snd.snd.yes.fst rg24_14) (code Try.f24).snd.snd.snd.snd.snd.fst.snd.bin.lin.snd.snd.fst.bin.snd.snd.no)))) (code Try.f24).snd.snd.snd.snd.snd.fst.snd.bin.lin.snd.snd.snd))) := rfl
    rw [e1] <;>
    simp only [S24_3, aexec_seq, aseq_assoc]
  refine aw_congr e ?_
  exact h
noncomputable def S24_4 : Code := .seq ((code Try.f24).snd.snd.snd.snd.snd.snd.fst) ((code Try.f24).snd.snd.snd.snd.snd.snd.snd)
noncomputable def S24_4_e := (⟨by simp only [S24_4, code, Try.f24, Option.getD_some, Code.fst, Code.snd, Code.bin, Code.lin, Code.sin, Code.yes, Code.no]; exact rfl⟩ : PLift (S24_4 = _))
theorem C24_wp {ts : List AVal} {st : ASt} {Q : APost} (h : Wp E 24 S24_0 ts st (Nx (fun ts st => Wp E 24 (.block 0 (.loop L24_0)) ts st (Nx (fun ts st => Wp E 24 S24_2 ts st (Nx (fun ts st => Wp E 24 (.block 2 (.loop L24_1)) ts st (Nx (fun ts st => Wp E 24 S24_4 ts st Q) Q)) Q)) Q)) Q)) : Wp E 24 C24 ts st Q := by
  have e : ∀ n ts st, aexec E 24 (rw E) (drawB E 24) n C24 ts st = aexec E 24 (rw E) (drawB E 24) n (.seq S24_0 (.seq (.block 0 (.loop L24_0)) (.seq S24_2 (.seq (.block 2 (.loop L24_1)) (S24_4))))) ts st := by
    intro n ts st
    have e1 : C24 = (.seq (code Try.f24).fst (.seq (code Try.f24).snd.fst (.seq (.seq (code Try.f24).snd.snd.fst.fst (.block 0 (.loop L24_0))) (.seq (code Try.f24).snd.snd.snd.fst (.seq (code Try.f24).snd.snd.snd.snd.fst (.seq (.seq (code Try.f24).snd.snd.snd.snd.snd.fst.fst (.block 2 (.loop L24_1))) (.seq (code Try.f24).snd.snd.snd.snd.snd.snd.fst (code Try.f24).snd.snd.snd.snd.snd.snd.snd))))))) := rfl
    rw [e1] <;>
    simp only [S24_0, S24_2, S24_4, aexec_seq, aseq_assoc]
  refine aw_congr e ?_
  have h0 := h
  exact aw_seq (h0.mono fun e ts st hq => by cases e <;> first | exact hq | (have h1 := hq; exact aw_seq (h1.mono fun e ts st hq => by cases e <;> first | exact hq | (have h2 := hq; exact aw_seq (h2.mono fun e ts st hq => by cases e <;> first | exact hq | (have h3 := hq; exact aw_seq h3))))))
theorem ce_24 {x0 : AVal} {st : ASt} {r : AEnd × ASt} (h : ∀ g : Nat → AVal, g 0 = x0 → Wp E 24 C24 (Sl 62 g) st (fun e ts st => aend E Try.f24 (some (e, ts, st)) = some r)) : rw E 24 [x0] st = some r :=
  ce_of (fn := Try.f24) (c := C24) rfl rfl rfl (Nat.le_of_ble_eq_true rfl) fun g hg => h g (hg 0 x0 rfl)
theorem cx_24 {x0 : AVal} {st : ASt} {R : AEnd → ASt → Prop} (h : ∀ g : Nat → AVal, g 0 = x0 → Wp E 24 C24 (Sl 62 g) st (fun e ts st => ∃ r st', aend E Try.f24 (some (e, ts, st)) = some (r, st') ∧ R r st')) : ∃ r st', rw E 24 [x0] st = some (r, st') ∧ R r st' :=
  cx_of (fn := Try.f24) (c := C24) rfl rfl rfl (Nat.le_of_ble_eq_true rfl) fun g hg => h g (hg 0 x0 rfl)
theorem o_al_50 (st : ASt) : allocA E.P 50 st = some (.ptr st.ctr 0, st.new (.cells [.lit (.slice none 0 0), .lit (.slice none 0 0), .lit (.slice none 0 0)])) := rfl
theorem o_leni_45 (mt : Bool) (ty : TypeId) (cs : Array Bool) (sz : Nat) (es : List AVal) (c : Cap) (st : ASt) : builtinA E.P mt .len #[45] ty cs [.islice sz es c] st = some (.val (.lit (.int .i64 es.length)) st) := rfl
theorem o_lens_45 (mt : Bool) (ty : TypeId) (cs : Array Bool) (s o l sz : Nat) (c : Option Nat) (st : ASt) : builtinA E.P mt .len #[45] ty cs [.slice s o l sz c] st = some (.val (.lit (.int .i64 l)) st) := rfl
theorem o_lenn_45 (mt : Bool) (ty : TypeId) (cs : Array Bool) (a : Option Addr) (st : ASt) : builtinA E.P mt .len #[45] ty cs [.lit (.slice a 0 0)] st = some (.val (.lit (.int .i64 0)) st) := len_nil rfl _ _ _ _ _
theorem o_ixi_45 (sz : Nat) (es : List AVal) (c : Cap) (k : IntKind) (i : Int) : indexA E.P 45 (.islice sz es c) (.lit (.int k i)) = if 0 ≤ i ∧ i < es.length ∧ some 2 = some sz then (es[i.toNat]?).map .iptr else none := rfl
theorem o_ixs_45 (s o l sz : Nat) (c : Option Nat) (k : IntKind) (i : Int) : indexA E.P 45 (.slice s o l sz c) (.lit (.int k i)) = if 0 ≤ i ∧ i < l then some (.ptr s (o + i.toNat * 2)) else none := rfl
theorem o_ldp_31 (st : ASt) (s o : Nat) : loadA E.P 31 st (.ptr s o) = (blkOf (st.heap s)).bind (fun cs => if o + 2 ≤ cs.length then some (.agg ((cs.drop o).take 2)) else none) := ld_agg rfl rfl st s o
theorem o_ldi_31 (st : ASt) (cs : List AVal) : loadA E.P 31 st (.iptr (.agg cs)) = if cs.length = 2 then some (.agg cs) else none := rfl
theorem cf_30 (a : List AVal) (st : ASt) : callFuncA E.P 30 a st = some (.enter 30 a st) := rfl
theorem o_bd_50 (ps : List (Nat × AVal)) : buildA E.P 50 ps = (fillA (fun i => ([(0, 1), (1, 1), (2, 1)] : List (Nat × Nat))[i]?) [.lit (.slice none 0 0), .lit (.slice none 0 0), .lit (.slice none 0 0)] ps).map .agg := rfl
theorem o_st_50 (st : ASt) (s o : Nat) (vs : List AVal) : storeA E.P 50 st (.ptr s o) (.agg vs) = (blkOf (st.heap s)).bind (fun cs => if vs.length = 3 ∧ o + vs.length ≤ cs.length ∧ vs.all AVal.isCell = true then some (st.set s (some (.cells (putL cs o vs)))) else none) := st_agg rfl st s o vs
theorem o_ixi_48 (sz : Nat) (es : List AVal) (c : Cap) (k : IntKind) (i : Int) : indexA E.P 48 (.islice sz es c) (.lit (.int k i)) = if 0 ≤ i ∧ i < es.length ∧ some 1 = some sz then (es[i.toNat]?).map .iptr else none := rfl
theorem o_ixs_48 (s o l sz : Nat) (c : Option Nat) (k : IntKind) (i : Int) : indexA E.P 48 (.slice s o l sz c) (.lit (.int k i)) = if 0 ≤ i ∧ i < l then some (.ptr s (o + i.toNat * 1)) else none := rfl
theorem o_st_3 (st : ASt) (s o : Nat) (v : AVal) : storeA E.P 3 st (.ptr s o) v = if v.isCell = true then (blkOf (st.heap s)).bind (fun cs => if o + 1 ≤ cs.length then some (st.set s (some (.cells (cs.set o v)))) else none) else storeU E.P 3 st (.ptr s o) v := st_one rfl st s o v
theorem o_fap_50_2 (s o : Nat) : fieldA E.P 50 (.ptr s o) 2 = some (.ptr s (o + 2)) := rfl
theorem o_fai_50_2 (cs : List AVal) : fieldA E.P 50 (.iptr (.agg cs)) 2 = (cs[2]?).map .iptr := rfl
theorem o_ldp_48 (st : ASt) (s o : Nat) : loadA E.P 48 st (.ptr s o) = (blkOf (st.heap s)).bind (fun cs => cs[o]?) := ld_one rfl rfl st s o
theorem o_ldi_48 (st : ASt) (v : AVal) : loadA E.P 48 st (.iptr v) = if v.isCell = true then some v else none := rfl
theorem hint_24_52 : E.hint 24 52 = false := rfl
theorem o_bs_48_1 (ps : List (Nat × AVal)) (st : ASt) : buildSliceA E.P false 48 1 ps st = (setsE false 1 [(.lit (.int .i64 0))] ps).map (fun es => (.islice 1 es .exact, st)) := bs_i rfl rfl rfl rfl (by decide) rfl ps st
theorem hint_24_53 : E.hint 24 53 = false := rfl
theorem slt_48 : SlT E.P 48 3 false 1 := ⟨rfl, rfl, ⟨_, _, rfl, rfl, by decide, rfl, rfl⟩, by decide⟩
theorem o_st_48 (st : ASt) (s o : Nat) (v : AVal) : storeA E.P 48 st (.ptr s o) v = if v.isCell = true then (blkOf (st.heap s)).bind (fun cs => if o + 1 ≤ cs.length then some (st.set s (some (.cells (cs.set o v)))) else none) else storeU E.P 48 st (.ptr s o) v := st_one rfl st s o v
theorem hint_24_57 : E.hint 24 57 = false := rfl
theorem hint_24_58 : E.hint 24 58 = false := rfl
theorem o_ldp_50 (st : ASt) (s o : Nat) : loadA E.P 50 st (.ptr s o) = (blkOf (st.heap s)).bind (fun cs => if o + 3 ≤ cs.length then some (.agg ((cs.drop o).take 3)) else none) := ld_agg rfl rfl st s o
theorem o_ldi_50 (st : ASt) (cs : List AVal) : loadA E.P 50 st (.iptr (.agg cs)) = if cs.length = 3 then some (.agg cs) else none := rfl

/-! ### braidwork/clock.Clocks -/
noncomputable def C30 : Code := (code Try.f30)
noncomputable def S30_0 : Code := .seq ((code Try.f30).fst) (.seq ((code Try.f30).snd.fst) ((code Try.f30).snd.snd.fst.fst))
noncomputable def S30_0_e := (⟨by simp only [S30_0, code, Try.f30, Option.getD_some, Code.fst, Code.snd, Code.bin, Code.lin, Code.sin, Code.yes, Code.no]; exact rfl⟩ : PLift (S30_0 = _))
noncomputable def L30_0 : Code := (code Try.f30).snd.snd.fst.snd.bin.lin
noncomputable def S30_1 : Code := .seq ((code Try.f30).snd.snd.fst.snd.bin.lin.fst) ((code Try.f30).snd.snd.fst.snd.bin.lin.snd.fst)
noncomputable def S30_1_e := (⟨by simp only [S30_1, code, Try.f30, Option.getD_some, Code.fst, Code.snd, Code.bin, Code.lin, Code.sin, Code.yes, Code.no]; exact rfl⟩ : PLift (S30_1 = _))
noncomputable def B30_1 : Code := (code Try.f30).snd.snd.fst.snd.bin.lin.snd.snd.fst.bin
noncomputable def S30_2 : Code := .seq ((code Try.f30).snd.snd.fst.snd.bin.lin.snd.snd.fst.bin.fst) (.seq ((code Try.f30).snd.snd.fst.snd.bin.lin.snd.snd.fst.bin.snd.fst) ((code Try.f30).snd.snd.fst.snd.bin.lin.snd.snd.fst.bin.snd.snd.fst.fst))
noncomputable def S30_2_e := (⟨by simp only [S30_2, code, Try.f30, Option.getD_some, Code.fst, Code.snd, Code.bin, Code.lin, Code.sin, Code.yes, Code.no]; exact rfl⟩ : PLift (S30_2 = _))
noncomputable def L30_2 : Code := (code Try.f30).snd.snd.fst.snd.bin.lin.snd.snd.fst.bin.snd.snd.fst.snd.bin.lin
noncomputable def S30_3 : Code := .seq ((code Try.f30).snd.snd.fst.snd.bin.lin.snd.snd.fst.bin.snd.snd.fst.snd.bin.lin.fst) ((code Try.f30).snd.snd.fst.snd.bin.lin.snd.snd.fst.bin.snd.snd.fst.snd.bin.lin.snd.fst)
noncomputable def S30_3_e := (⟨by simp only [S30_3, code, Try.f30, Option.getD_some, Code.fst, Code.snd, Code.bin, Code.lin, Code.sin, Code.yes, Code.no]; exact rfl⟩ : PLift (S30_3 = _))
noncomputable def B30_3 : Code := (code Try.f30).snd.snd.fst.snd.bin.lin.snd.snd.fst.bin.snd.snd.fst.snd.bin.lin.snd.snd.fst.bin
noncomputable def rg30_9 : Code := (code Try.f30).snd.snd.fst.snd.bin.lin.snd.snd.fst.bin.snd.snd.fst.snd.bin.lin.snd.snd.fst.bin.snd.fst
noncomputable def rq30_9 : Code := (code Try.f30).snd.snd.fst.snd.bin.lin.snd.snd.fst.bin.snd.snd.fst.snd.bin.lin.snd.snd.fst.bin.snd.fst
theorem ex30_9 (call : ACall) (n : Nat) (ts : List AVal) (st : ASt) : aexec E 30 call (drawB E 30) n rg30_9 ts st = aops E 30 call rq30_9.ops rq30_9.ops.toList ts st := by
  have d : drawB E 30 rq30_9.ops = true := by kernel_rfl
  have e : rg30_9 = .region 9 rq30_9.ops true := rfl
  rw [e, aexec, d]; rfl
noncomputable def rq30_9_e := (⟨by simp only [rq30_9, code, Try.f30, Option.getD_some, Code.fst, Code.snd, Code.bin, Code.lin, Code.sin, Code.yes, Code.no, Code.ops]; exact rfl⟩ : PLift (rq30_9.ops = _))
noncomputable def S30_4 : Code := .seq ((code Try.f30).snd.snd.fst.snd.bin.lin.snd.snd.fst.bin.snd.snd.fst.snd.bin.lin.snd.snd.fst.bin.fst) (rg30_9)
noncomputable def S30_4_e := (⟨by simp only [S30_4, code, Try.f30, Option.getD_some, Code.fst, Code.snd, Code.bin, Code.lin, Code.sin, Code.yes, Code.no]; exact rfl⟩ : PLift (S30_4 = _))
noncomputable def Y30_4 : Code := (code Try.f30).snd.snd.fst.snd.bin.lin.snd.snd.fst.bin.snd.snd.fst.snd.bin.lin.snd.snd.fst.bin.snd.snd.yes
noncomputable def S30_5 : Code := (code Try.f30).snd.snd.fst.snd.bin.lin.snd.snd.fst.bin.snd.snd.fst.snd.bin.lin.snd.snd.fst.bin.snd.snd.yes.fst
noncomputable def S30_5_e := (⟨by simp only [S30_5, code, Try.f30, Option.getD_some, Code.fst, Code.snd, Code.bin, Code.lin, Code.sin, Code.yes, Code.no]; exact rfl⟩ : PLift (S30_5 = _))
noncomputable def L30_5 : Code := (code Try.f30).snd.snd.fst.snd.bin.lin.snd.snd.fst.bin.snd.snd.fst.snd.bin.lin.snd.snd.fst.bin.snd.snd.yes.snd.bin.lin
noncomputable def S30_6 : Code := .seq ((code Try.f30).snd.snd.fst.snd.bin.lin.snd.snd.fst.bin.snd.snd.fst.snd.bin.lin.snd.snd.fst.bin.snd.snd.yes.snd.bin.lin.fst) (.seq ((code Try.f30).snd.snd.fst.snd.bin.lin.snd.snd.fst.bin.snd.snd.fst.snd.bin.lin.snd.snd.fst.bin.snd.snd.yes.snd.bin.lin.snd.fst) (.seq ((code Try.f30).snd.snd.fst.snd.bin.lin.snd.snd.fst.bin.snd.snd.fst.snd.bin.lin.snd.snd.fst.bin.snd.snd.yes.snd.bin.lin.snd.snd.fst) ((code Try.f30).snd.snd.fst.snd.bin.lin.snd.snd.fst.bin.snd.snd.fst.snd.bin.lin.snd.snd.fst.bin.snd.snd.yes.snd.bin.lin.snd.snd.snd)))
noncomputable def S30_6_e := (⟨by simp only [S30_6, code, Try.f30, Option.getD_some, Code.fst, Code.snd, Code.bin, Code.lin, Code.sin, Code.yes, Code.no]; exact rfl⟩ : PLift (S30_6 = _))
theorem L30_5_wp {ts : List AVal} {st : ASt} {Q : APost} (h : Wp E 30 S30_6 ts st Q) : Wp E 30 L30_5 ts st Q := by
  have e : ∀ n ts st, aexec E 30 (rw E) (drawB E 30) n L30_5 ts st = aexec E 30 (rw E) (drawB E 30) n (S30_6) ts st := by
    intro n ts st
    have e1 : L30_5 = (.seq (code Try.f30).snd.snd.fst.snd.bin.lin.snd.snd.fst.bin.snd.snd.fst.snd.bin.lin.snd.snd.fst.bin.snd.snd.yes.snd.bin.lin.fst (.seq (code Try.f30).snd.snd.fst.snd.bin.lin.snd.snd.fst.bin.snd.snd.fst.snd.bin.lin.snd.snd.fst.bin.snd.snd.yes.snd.bin.lin.snd.fst (.seq (code Try.f30).snd.snd.fst.snd.bin.lin.snd.snd.fst.bin.snd.snd.fst.snd.bin.lin.snd.snd.fst.bin.snd.snd.yes.snd.bin.lin.snd.snd.fst (code Try.f30).snd.snd.fst.snd.bin.lin.snd.snd.fst.bin.snd.snd.fst.snd.bin.lin.snd.snd.fst.bin.snd.snd.yes.snd.bin.lin.snd.snd.snd))) := rfl
    rw [e1] <;>
    simp only [S30_6, aexec_seq, aseq_assoc]
  refine aw_congr e ?_
  exact h
theorem Y30_4_wp {ts : List AVal} {st : ASt} {Q : APost} (h : Wp E 30 S30_5 ts st (Nx (fun ts st => Wp E 30 (.block 4 (.loop L30_5)) ts st Q) Q)) : Wp E 30 Y30_4 ts st Q := by
  have e : ∀ n ts st, aexec E 30 (rw E) (drawB E 30) n Y30_4 ts st = aexec E 30 (rw E) (drawB E 30) n (.seq S30_5 ((.block 4 (.loop L30_5)))) ts st := by
    intro n ts st
    have e1 : Y30_4 = (.seq (code Try.f30).snd.snd.fst.snd.bin.lin.snd.snd.fst.bin.snd.snd.fst.snd.bin.lin.snd.snd.fst.bin.snd.snd.yes.fst (.block 4 (.loop L30_5))) := rfl
    rw [e1] <;>
    simp only [S30_5, aexec_seq, aseq_assoc]
  refine aw_congr e ?_
  have h0 := h
  exact aw_seq h0
noncomputable def N30_4 : Code := (code Try.f30).snd.snd.fst.snd.bin.lin.snd.snd.fst.bin.snd.snd.fst.snd.bin.lin.snd.snd.fst.bin.snd.snd.no
noncomputable def S30_7 : Code := (code Try.f30).snd.snd.fst.snd.bin.lin.snd.snd.fst.bin.snd.snd.fst.snd.bin.lin.snd.snd.fst.bin.snd.snd.no
noncomputable def S30_7_e := (⟨by simp only [S30_7, code, Try.f30, Option.getD_some, Code.fst, Code.snd, Code.bin, Code.lin, Code.sin, Code.yes, Code.no]; exact rfl⟩ : PLift (S30_7 = _))
theorem N30_4_wp {ts : List AVal} {st : ASt} {Q : APost} (h : Wp E 30 S30_7 ts st Q) : Wp E 30 N30_4 ts st Q := by
  have e : ∀ n ts st, aexec E 30 (rw E) (drawB E 30) n N30_4 ts st = aexec E 30 (rw E) (drawB E 30) n (S30_7) ts st := by
    intro n ts st
    have e1 : N30_4 = (code Try.f30).snd.snd.fst.snd.bin.lin.snd.snd.fst.bin.snd.snd.fst.snd.bin.lin.snd.snd.fst.bin.snd.snd.no := rfl
    rw [e1] <;>
    simp only [S30_7, aexec_seq, aseq_assoc]
  refine aw_congr e ?_
  exact h
theorem B30_3_wp {ts : List AVal} {st : ASt} {Q : APost} (h : Wp E 30 S30_4 ts st (Nx (fun ts st => Wp E 30 (.cond (.tmp 31) Y30_4 N30_4) ts st Q) Q)) : Wp E 30 B30_3 ts st Q := by
  have e : ∀ n ts st, aexec E 30 (rw E) (drawB E 30) n B30_3 ts st = aexec E 30 (rw E) (drawB E 30) n (.seq S30_4 ((.cond (.tmp 31) Y30_4 N30_4))) ts st := by
    intro n ts st
    have e1 : B30_3 = (.seq (code Try.f30).snd.snd.fst.snd.bin.lin.snd.snd.fst.bin.snd.snd.fst.snd.bin.lin.snd.snd.fst.bin.fst (.seq rg30_9 (.cond (.tmp 31) Y30_4 N30_4))) := rfl
    rw [e1] <;>
    simp only [S30_4, aexec_seq, aseq_assoc]
  refine aw_congr e ?_
  have h0 := h
  exact aw_seq h0
noncomputable def S30_8 : Code := (code Try.f30).snd.snd.fst.snd.bin.lin.snd.snd.fst.bin.snd.snd.fst.snd.bin.lin.snd.snd.snd
noncomputable def S30_8_e := (⟨by simp only [S30_8, code, Try.f30, Option.getD_some, Code.fst, Code.snd, Code.bin, Code.lin, Code.sin, Code.yes, Code.no]; exact rfl⟩ : PLift (S30_8 = _))
theorem L30_2_wp {ts : List AVal} {st : ASt} {Q : APost} (h : Wp E 30 S30_3 ts st (Nx (fun ts st => Wp E 30 (.block 3 B30_3) ts st (Nx (fun ts st => Wp E 30 S30_8 ts st Q) Q)) Q)) : Wp E 30 L30_2 ts st Q := by
  have e : ∀ n ts st, aexec E 30 (rw E) (drawB E 30) n L30_2 ts st = aexec E 30 (rw E) (drawB E 30) n (.seq S30_3 (.seq (.block 3 B30_3) (S30_8))) ts st := by
    intro n ts st
    have e1 : L30_2 = (.seq (code Try.f30).snd.snd.fst.snd.bin.lin.snd.snd.fst.bin.snd.snd.fst.snd.bin.lin.fst (.seq (code Try.f30).snd.snd.fst.snd.bin.lin.snd.snd.fst.bin.snd.snd.fst.snd.bin.lin.snd.fst (.seq (.block 3 B30_3) (code Try.f30).snd.snd.fst.snd.bin.lin.snd.snd.fst.bin.snd.snd.fst.snd.bin.lin.snd.snd.snd))) := rfl
    rw [e1] <;>
    simp only [S30_3, S30_8, aexec_seq, aseq_assoc]
  refine aw_congr e ?_
  have h0 := h
  exact aw_seq (h0.mono fun e ts st hq => by cases e <;> first | exact hq | (have h1 := hq; exact aw_seq h1))
noncomputable def S30_9 : Code := .seq ((code Try.f30).snd.snd.fst.snd.bin.lin.snd.snd.fst.bin.snd.snd.snd.fst.fst) (.seq ((code Try.f30).snd.snd.fst.snd.bin.lin.snd.snd.fst.bin.snd.snd.snd.fst.snd) ((code Try.f30).snd.snd.fst.snd.bin.lin.snd.snd.fst.bin.snd.snd.snd.snd))
noncomputable def S30_9_e := (⟨by simp only [S30_9, code, Try.f30, Option.getD_some, Code.fst, Code.snd, Code.bin, Code.lin, Code.sin, Code.yes, Code.no]; exact rfl⟩ : PLift (S30_9 = _))
theorem B30_1_wp {ts : List AVal} {st : ASt} {Q : APost} (h : Wp E 30 S30_2 ts st (Nx (fun ts st => Wp E 30 (.block 2 (.loop L30_2)) ts st (Nx (fun ts st => Wp E 30 S30_9 ts st Q) Q)) Q)) : Wp E 30 B30_1 ts st Q := by
  have e : ∀ n ts st, aexec E 30 (rw E) (drawB E 30) n B30_1 ts st = aexec E 30 (rw E) (drawB E 30) n (.seq S30_2 (.seq (.block 2 (.loop L30_2)) (S30_9))) ts st := by
    intro n ts st
    have e1 : B30_1 = (.seq (code Try.f30).snd.snd.fst.snd.bin.lin.snd.snd.fst.bin.fst (.seq (code Try.f30).snd.snd.fst.snd.bin.lin.snd.snd.fst.bin.snd.fst (.seq (.seq (code Try.f30).snd.snd.fst.snd.bin.lin.snd.snd.fst.bin.snd.snd.fst.fst (.block 2 (.loop L30_2))) (.seq (.seq (code Try.f30).snd.snd.fst.snd.bin.lin.snd.snd.fst.bin.snd.snd.snd.fst.fst (code Try.f30).snd.snd.fst.snd.bin.lin.snd.snd.fst.bin.snd.snd.snd.fst.snd) (code Try.f30).snd.snd.fst.snd.bin.lin.snd.snd.fst.bin.snd.snd.snd.snd)))) := rfl
    rw [e1] <;>
    simp only [S30_2, S30_9, aexec_seq, aseq_assoc]
  refine aw_congr e ?_
  have h0 := h
  exact aw_seq (h0.mono fun e ts st hq => by cases e <;> first | exact hq | (have h1 := hq; exact aw_seq h1))
noncomputable def S30_10 : Code := (code Try.f30).snd.snd.fst.snd.bin.lin.snd.snd.snd
noncomputable def S30_10_e := (⟨by simp only [S30_10, code, Try.f30, Option.getD_some, Code.fst, Code.snd, Code.bin, Code.lin, Code.sin, Code.yes, Code.no]; exact rfl⟩ : PLift (S30_10 = _))
theorem L30_0_wp {ts : List AVal} {st : ASt} {Q : APost} (h : Wp E 30 S30_1 ts st (Nx (fun ts st => Wp E 30 (.block 1 B30_1) ts st (Nx (fun ts st => Wp E 30 S30_10 ts st Q) Q)) Q)) : Wp E 30 L30_0 ts st Q := by
  have e : ∀ n ts st, aexec E 30 (rw E) (drawB E 30) n L30_0 ts st = aexec E 30 (rw E) (drawB E 30) n (.seq S30_1 (.seq (.block 1 B30_1) (S30_10))) ts st := by
    intro n ts st
    have e1 : L30_0 = (.seq (code Try.f30).snd.snd.fst.snd.bin.lin.fst (.seq (code Try.f30).snd.snd.fst.snd.bin.lin.snd.fst (.seq (.block 1 B30_1) (code Try.f30).snd.snd.fst.snd.bin.lin.snd.snd.snd))) := rfl
    rw [e1] <;>
    simp only [S30_1, S30_10, aexec_seq, aseq_assoc]
  refine aw_congr e ?_
  have h0 := h
  exact aw_seq (h0.mono fun e ts st hq => by cases e <;> first | exact hq | (have h1 := hq; exact aw_seq h1))
noncomputable def S30_11 : Code := .seq ((code Try.f30).snd.snd.snd.fst) ((code Try.f30).snd.snd.snd.snd)
noncomputable def S30_11_e := (⟨by simp only [S30_11, code, Try.f30, Option.getD_some, Code.fst, Code.snd, Code.bin, Code.lin, Code.sin, Code.yes, Code.no]; exact rfl⟩ : PLift (S30_11 = _))
theorem C30_wp {ts : List AVal} {st : ASt} {Q : APost} (h : Wp E 30 S30_0 ts st (Nx (fun ts st => Wp E 30 (.block 0 (.loop L30_0)) ts st (Nx (fun ts st => Wp E 30 S30_11 ts st Q) Q)) Q)) : Wp E 30 C30 ts st Q := by
  have e : ∀ n ts st, aexec E 30 (rw E) (drawB E 30) n C30 ts st = aexec E 30 (rw E) (drawB E 30) n (.seq S30_0 (.seq (.block 0 (.loop L30_0)) (S30_11))) ts st := by
    intro n ts st
    have e1 : C30 = (.seq (code Try.f30).fst (.seq (code Try.f30).snd.fst (.seq (.seq (code Try.f30).snd.snd.fst.fst (.block 0 (.loop L30_0))) (.seq (code Try.f30).snd.snd.snd.fst (code Try.f30).snd.snd.snd.snd)))) := rfl
    rw [e1] <;>
    simp only [S30_0, S30_11, aexec_seq, aseq_assoc]
  refine aw_congr e ?_
  have h0 := h
  exact aw_seq (h0.mono fun e ts st hq => by cases e <;> first | exact hq | (have h1 := hq; exact aw_seq h1))
theorem ce_30 {x0 x1 : AVal} {st : ASt} {r : AEnd × ASt} (h : ∀ g : Nat → AVal, g 0 = x0 → g 1 = x1 → Wp E 30 C30 (Sl 76 g) st (fun e ts st => aend E Try.f30 (some (e, ts, st)) = some r)) : rw E 30 [x0, x1] st = some r :=
  ce_of (fn := Try.f30) (c := C30) rfl rfl rfl (Nat.le_of_ble_eq_true rfl) fun g hg => h g (hg 0 x0 rfl) (hg 1 x1 rfl)
theorem cx_30 {x0 x1 : AVal} {st : ASt} {R : AEnd → ASt → Prop} (h : ∀ g : Nat → AVal, g 0 = x0 → g 1 = x1 → Wp E 30 C30 (Sl 76 g) st (fun e ts st => ∃ r st', aend E Try.f30 (some (e, ts, st)) = some (r, st') ∧ R r st')) : ∃ r st', rw E 30 [x0, x1] st = some (r, st') ∧ R r st' :=
  cx_of (fn := Try.f30) (c := C30) rfl rfl rfl (Nat.le_of_ble_eq_true rfl) fun g hg => h g (hg 0 x0 rfl) (hg 1 x1 rfl)
theorem cf_17 (a : List AVal) (st : ASt) : callFuncA E.P 17 a st = some (.enter 17 a st) := rfl
theorem o_ixi_47 (sz : Nat) (es : List AVal) (c : Cap) (k : IntKind) (i : Int) : indexA E.P 47 (.islice sz es c) (.lit (.int k i)) = if 0 ≤ i ∧ i < es.length ∧ some 1 = some sz then (es[i.toNat]?).map .iptr else none := rfl
theorem o_ixs_47 (s o l sz : Nat) (c : Option Nat) (k : IntKind) (i : Int) : indexA E.P 47 (.slice s o l sz c) (.lit (.int k i)) = if 0 ≤ i ∧ i < l then some (.ptr s (o + i.toNat * 1)) else none := rfl
theorem o_leni_48 (mt : Bool) (ty : TypeId) (cs : Array Bool) (sz : Nat) (es : List AVal) (c : Cap) (st : ASt) : builtinA E.P mt .len #[48] ty cs [.islice sz es c] st = some (.val (.lit (.int .i64 es.length)) st) := rfl
theorem o_lens_48 (mt : Bool) (ty : TypeId) (cs : Array Bool) (s o l sz : Nat) (c : Option Nat) (st : ASt) : builtinA E.P mt .len #[48] ty cs [.slice s o l sz c] st = some (.val (.lit (.int .i64 l)) st) := rfl
theorem o_lenn_48 (mt : Bool) (ty : TypeId) (cs : Array Bool) (a : Option Addr) (st : ASt) : builtinA E.P mt .len #[48] ty cs [.lit (.slice a 0 0)] st = some (.val (.lit (.int .i64 0)) st) := len_nil rfl _ _ _ _ _
theorem hint_30_72 : E.hint 30 72 = false := rfl
theorem o_bs_47_1 (ps : List (Nat × AVal)) (st : ASt) : buildSliceA E.P false 47 1 ps st = (setsE false 1 [(.lit (.slice none 0 0))] ps).map (fun es => (.islice 1 es .exact, st)) := bs_i rfl rfl rfl rfl (by decide) rfl ps st
theorem hint_30_73 : E.hint 30 73 = false := rfl
theorem slt_47 : SlT E.P 47 48 false 1 := ⟨rfl, rfl, ⟨_, _, rfl, rfl, by decide, rfl, rfl⟩, by decide⟩

/-! ### (braidwork/clock.Order).Before -/
noncomputable def C25 : Code := (code Try.f25)
noncomputable def rg25_3 : Code := (code Try.f25).snd.snd.fst
noncomputable def rq25_3 : Code := (code Try.f25).snd.snd.fst
theorem ex25_3 (call : ACall) (n : Nat) (ts : List AVal) (st : ASt) : aexec E 25 call (drawB E 25) n rg25_3 ts st = aops E 25 call rq25_3.ops rq25_3.ops.toList ts st := by
  have d : drawB E 25 rq25_3.ops = true := by kernel_rfl
  have e : rg25_3 = .region 3 rq25_3.ops true := rfl
  rw [e, aexec, d]; rfl
noncomputable def rq25_3_e := (⟨by simp only [rq25_3, code, Try.f25, Option.getD_some, Code.fst, Code.snd, Code.bin, Code.lin, Code.sin, Code.yes, Code.no, Code.ops]; exact rfl⟩ : PLift (rq25_3.ops = _))
noncomputable def S25_0 : Code := .seq ((code Try.f25).fst) (.seq ((code Try.f25).snd.fst.fst) (.seq ((code Try.f25).snd.fst.snd) (.seq (rg25_3) ((code Try.f25).snd.snd.snd))))
noncomputable def S25_0_e := (⟨by simp only [S25_0, code, Try.f25, Option.getD_some, Code.fst, Code.snd, Code.bin, Code.lin, Code.sin, Code.yes, Code.no]; exact rfl⟩ : PLift (S25_0 = _))
theorem C25_wp {ts : List AVal} {st : ASt} {Q : APost} (h : Wp E 25 S25_0 ts st Q) : Wp E 25 C25 ts st Q := by
  have e : ∀ n ts st, aexec E 25 (rw E) (drawB E 25) n C25 ts st = aexec E 25 (rw E) (drawB E 25) n (S25_0) ts st := by
    intro n ts st
    have e1 : C25 = (.seq (code Try.f25).fst (.seq (.seq (code Try.f25).snd.fst.fst (code Try.f25).snd.fst.snd) (.seq rg25_3 (code Try.f25).snd.snd.snd))) := rfl
    rw [e1] <;>
    simp only [S25_0, aexec_seq, aseq_assoc]
  refine aw_congr e ?_
  exact h
theorem ce_25 {x0 x1 x2 : AVal} {st : ASt} {r : AEnd × ASt} (h : ∀ g : Nat → AVal, g 0 = x0 → g 1 = x1 → g 2 = x2 → Wp E 25 C25 (Sl 49 g) st (fun e ts st => aend E Try.f25 (some (e, ts, st)) = some r)) : rw E 25 [x0, x1, x2] st = some r :=
  ce_of (fn := Try.f25) (c := C25) rfl rfl rfl (Nat.le_of_ble_eq_true rfl) fun g hg => h g (hg 0 x0 rfl) (hg 1 x1 rfl) (hg 2 x2 rfl)
theorem cx_25 {x0 x1 x2 : AVal} {st : ASt} {R : AEnd → ASt → Prop} (h : ∀ g : Nat → AVal, g 0 = x0 → g 1 = x1 → g 2 = x2 → Wp E 25 C25 (Sl 49 g) st (fun e ts st => ∃ r st', aend E Try.f25 (some (e, ts, st)) = some (r, st') ∧ R r st')) : ∃ r st', rw E 25 [x0, x1, x2] st = some (r, st') ∧ R r st' :=
  cx_of (fn := Try.f25) (c := C25) rfl rfl rfl (Nat.le_of_ble_eq_true rfl) fun g hg => h g (hg 0 x0 rfl) (hg 1 x1 rfl) (hg 2 x2 rfl)
theorem o_fap_50_0 (s o : Nat) : fieldA E.P 50 (.ptr s o) 0 = some (.ptr s (o + 0)) := rfl
theorem o_fai_50_0 (cs : List AVal) : fieldA E.P 50 (.iptr (.agg cs)) 0 = (cs[0]?).map .iptr := rfl
theorem o_ldp_45 (st : ASt) (s o : Nat) : loadA E.P 45 st (.ptr s o) = (blkOf (st.heap s)).bind (fun cs => cs[o]?) := ld_one rfl rfl st s o
theorem o_ldi_45 (st : ASt) (v : AVal) : loadA E.P 45 st (.iptr v) = if v.isCell = true then some v else none := rfl
theorem o_fap_50_1 (s o : Nat) : fieldA E.P 50 (.ptr s o) 1 = some (.ptr s (o + 1)) := rfl
theorem o_fai_50_1 (cs : List AVal) : fieldA E.P 50 (.iptr (.agg cs)) 1 = (cs[1]?).map .iptr := rfl
theorem o_ldp_47 (st : ASt) (s o : Nat) : loadA E.P 47 st (.ptr s o) = (blkOf (st.heap s)).bind (fun cs => cs[o]?) := ld_one rfl rfl st s o
theorem o_ldi_47 (st : ASt) (v : AVal) : loadA E.P 47 st (.iptr v) = if v.isCell = true then some v else none := rfl

/-! ### braidwork/braidworklaw11.Light -/
noncomputable def C22 : Code := (code Try.f22)
noncomputable def S22_0 : Code := .seq ((code Try.f22).fst) ((code Try.f22).snd.fst.fst)
noncomputable def S22_0_e := (⟨by simp only [S22_0, code, Try.f22, Option.getD_some, Code.fst, Code.snd, Code.bin, Code.lin, Code.sin, Code.yes, Code.no]; exact rfl⟩ : PLift (S22_0 = _))
noncomputable def L22_0 : Code := (code Try.f22).snd.fst.snd.bin.lin
noncomputable def S22_1 : Code := .seq ((code Try.f22).snd.fst.snd.bin.lin.fst) (.seq ((code Try.f22).snd.fst.snd.bin.lin.snd.fst) (.seq ((code Try.f22).snd.fst.snd.bin.lin.snd.snd.fst) ((code Try.f22).snd.fst.snd.bin.lin.snd.snd.snd)))
noncomputable def S22_1_e := (⟨by simp only [S22_1, code, Try.f22, Option.getD_some, Code.fst, Code.snd, Code.bin, Code.lin, Code.sin, Code.yes, Code.no]; exact rfl⟩ : PLift (S22_1 = _))
theorem L22_0_wp {ts : List AVal} {st : ASt} {Q : APost} (h : Wp E 22 S22_1 ts st Q) : Wp E 22 L22_0 ts st Q := by
  have e : ∀ n ts st, aexec E 22 (rw E) (drawB E 22) n L22_0 ts st = aexec E 22 (rw E) (drawB E 22) n (S22_1) ts st := by
    intro n ts st
    have e1 : L22_0 = (.seq (code Try.f22).snd.fst.snd.bin.lin.fst (.seq (code Try.f22).snd.fst.snd.bin.lin.snd.fst (.seq (code Try.f22).snd.fst.snd.bin.lin.snd.snd.fst (code Try.f22).snd.fst.snd.bin.lin.snd.snd.snd))) := rfl
    rw [e1] <;>
    simp only [S22_1, aexec_seq, aseq_assoc]
  refine aw_congr e ?_
  exact h
noncomputable def S22_2 : Code := .seq ((code Try.f22).snd.snd.fst) ((code Try.f22).snd.snd.snd)
noncomputable def S22_2_e := (⟨by simp only [S22_2, code, Try.f22, Option.getD_some, Code.fst, Code.snd, Code.bin, Code.lin, Code.sin, Code.yes, Code.no]; exact rfl⟩ : PLift (S22_2 = _))
theorem C22_wp {ts : List AVal} {st : ASt} {Q : APost} (h : Wp E 22 S22_0 ts st (Nx (fun ts st => Wp E 22 (.block 0 (.loop L22_0)) ts st (Nx (fun ts st => Wp E 22 S22_2 ts st Q) Q)) Q)) : Wp E 22 C22 ts st Q := by
  have e : ∀ n ts st, aexec E 22 (rw E) (drawB E 22) n C22 ts st = aexec E 22 (rw E) (drawB E 22) n (.seq S22_0 (.seq (.block 0 (.loop L22_0)) (S22_2))) ts st := by
    intro n ts st
    have e1 : C22 = (.seq (code Try.f22).fst (.seq (.seq (code Try.f22).snd.fst.fst (.block 0 (.loop L22_0))) (.seq (code Try.f22).snd.snd.fst (code Try.f22).snd.snd.snd))) := rfl
    rw [e1] <;>
    simp only [S22_0, S22_2, aexec_seq, aseq_assoc]
  refine aw_congr e ?_
  have h0 := h
  exact aw_seq (h0.mono fun e ts st hq => by cases e <;> first | exact hq | (have h1 := hq; exact aw_seq h1))
theorem ce_22 {x0 x1 : AVal} {st : ASt} {r : AEnd × ASt} (h : ∀ g : Nat → AVal, g 0 = x0 → g 1 = x1 → Wp E 22 C22 (Sl 22 g) st (fun e ts st => aend E Try.f22 (some (e, ts, st)) = some r)) : rw E 22 [x0, x1] st = some r :=
  ce_of (fn := Try.f22) (c := C22) rfl rfl rfl (Nat.le_of_ble_eq_true rfl) fun g hg => h g (hg 0 x0 rfl) (hg 1 x1 rfl)
theorem cx_22 {x0 x1 : AVal} {st : ASt} {R : AEnd → ASt → Prop} (h : ∀ g : Nat → AVal, g 0 = x0 → g 1 = x1 → Wp E 22 C22 (Sl 22 g) st (fun e ts st => ∃ r st', aend E Try.f22 (some (e, ts, st)) = some (r, st') ∧ R r st')) : ∃ r st', rw E 22 [x0, x1] st = some (r, st') ∧ R r st' :=
  cx_of (fn := Try.f22) (c := C22) rfl rfl rfl (Nat.le_of_ble_eq_true rfl) fun g hg => h g (hg 0 x0 rfl) (hg 1 x1 rfl)
theorem o_leni_43 (mt : Bool) (ty : TypeId) (cs : Array Bool) (sz : Nat) (es : List AVal) (c : Cap) (st : ASt) : builtinA E.P mt .len #[43] ty cs [.islice sz es c] st = some (.val (.lit (.int .i64 es.length)) st) := rfl
theorem o_lens_43 (mt : Bool) (ty : TypeId) (cs : Array Bool) (s o l sz : Nat) (c : Option Nat) (st : ASt) : builtinA E.P mt .len #[43] ty cs [.slice s o l sz c] st = some (.val (.lit (.int .i64 l)) st) := rfl
theorem o_lenn_43 (mt : Bool) (ty : TypeId) (cs : Array Bool) (a : Option Addr) (st : ASt) : builtinA E.P mt .len #[43] ty cs [.lit (.slice a 0 0)] st = some (.val (.lit (.int .i64 0)) st) := len_nil rfl _ _ _ _ _
theorem o_ixi_43 (sz : Nat) (es : List AVal) (c : Cap) (k : IntKind) (i : Int) : indexA E.P 43 (.islice sz es c) (.lit (.int k i)) = if 0 ≤ i ∧ i < es.length ∧ some 2 = some sz then (es[i.toNat]?).map .iptr else none := rfl
theorem o_ixs_43 (s o l sz : Nat) (c : Option Nat) (k : IntKind) (i : Int) : indexA E.P 43 (.slice s o l sz c) (.lit (.int k i)) = if 0 ≤ i ∧ i < l then some (.ptr s (o + i.toNat * 2)) else none := rfl
theorem o_ldp_68 (st : ASt) (s o : Nat) : loadA E.P 68 st (.ptr s o) = (blkOf (st.heap s)).bind (fun cs => if o + 2 ≤ cs.length then some (.agg ((cs.drop o).take 2)) else none) := ld_agg rfl rfl st s o
theorem o_ldi_68 (st : ASt) (cs : List AVal) : loadA E.P 68 st (.iptr (.agg cs)) = if cs.length = 2 then some (.agg cs) else none := rfl
theorem o_al_68 (st : ASt) : allocA E.P 68 st = some (.ptr st.ctr 0, st.new (.cells [.lit (.int .u8 0), .lit (.slice none 0 0)])) := rfl
theorem o_st_68 (st : ASt) (s o : Nat) (vs : List AVal) : storeA E.P 68 st (.ptr s o) (.agg vs) = (blkOf (st.heap s)).bind (fun cs => if vs.length = 2 ∧ o + vs.length ≤ cs.length ∧ vs.all AVal.isCell = true then some (st.set s (some (.cells (putL cs o vs)))) else none) := st_agg rfl st s o vs
theorem o_fap_68_1 (s o : Nat) : fieldA E.P 68 (.ptr s o) 1 = some (.ptr s (o + 1)) := rfl
theorem o_fai_68_1 (cs : List AVal) : fieldA E.P 68 (.iptr (.agg cs)) 1 = (cs[1]?).map .iptr := rfl
theorem o_ldp_22 (st : ASt) (s o : Nat) : loadA E.P 22 st (.ptr s o) = (blkOf (st.heap s)).bind (fun cs => cs[o]?) := ld_one rfl rfl st s o
theorem o_ldi_22 (st : ASt) (v : AVal) : loadA E.P 22 st (.iptr v) = if v.isCell = true then some v else none := rfl

/-! ### braidwork/braidworklaw11.Events -/
noncomputable def C23 : Code := (code Try.f23)
noncomputable def S23_0 : Code := .seq ((code Try.f23).fst) (.seq ((code Try.f23).snd.fst) ((code Try.f23).snd.snd.fst.fst))
noncomputable def S23_0_e := (⟨by simp only [S23_0, code, Try.f23, Option.getD_some, Code.fst, Code.snd, Code.bin, Code.lin, Code.sin, Code.yes, Code.no]; exact rfl⟩ : PLift (S23_0 = _))
noncomputable def L23_0 : Code := (code Try.f23).snd.snd.fst.snd.bin.lin
noncomputable def rg23_5 : Code := (code Try.f23).snd.snd.fst.snd.bin.lin.snd.snd.fst.bin.snd
noncomputable def rq23_5 : Code := (code Try.f23).snd.snd.fst.snd.bin.lin.snd.snd.fst.bin.snd
theorem ex23_5 (call : ACall) (n : Nat) (ts : List AVal) (st : ASt) : aexec E 23 call (drawB E 23) n rg23_5 ts st = aopsP E 23 call rq23_5.ops [.one 0 [], .one 1 [], .one 2 [], .one 3 [], .one 4 [], .one 5 [], .one 6 [], .one 7 [2, 4], .one 8 [], .one 9 [], .one 10 [], .one 11 []] ts st := by
  have d : drawB E 23 rq23_5.ops = false := by kernel_rfl
  have d2 : drawPlan E 23 rq23_5.ops = some [.one 0 [], .one 1 [], .one 2 [], .one 3 [], .one 4 [], .one 5 [], .one 6 [], .one 7 [2, 4], .one 8 [], .one 9 [], .one 10 [], .one 11 []] := by kernel_rfl
  have e : rg23_5 = .region 5 rq23_5.ops true := rfl
  rw [e, aexec, d, d2]; rfl
noncomputable def rq23_5_e := (⟨by simp only [rq23_5, code, Try.f23, Option.getD_some, Code.fst, Code.snd, Code.bin, Code.lin, Code.sin, Code.yes, Code.no, Code.ops]; exact rfl⟩ : PLift (rq23_5.ops = _))
noncomputable def S23_1 : Code := .seq ((code Try.f23).snd.snd.fst.snd.bin.lin.fst) (.seq ((code Try.f23).snd.snd.fst.snd.bin.lin.snd.fst) (.seq (.block 1 (.seq (code Try.f23).snd.snd.fst.snd.bin.lin.snd.snd.fst.bin.fst rg23_5)) ((code Try.f23).snd.snd.fst.snd.bin.lin.snd.snd.snd)))
noncomputable def S23_1_e := (⟨by simp only [S23_1, code, Try.f23, Option.getD_some, Code.fst, Code.snd, Code.bin, Code.lin, Code.sin, Code.yes, Code.no]; exact rfl⟩ : PLift (S23_1 = _))
theorem L23_0_wp {ts : List AVal} {st : ASt} {Q : APost} (h : Wp E 23 S23_1 ts st Q) : Wp E 23 L23_0 ts st Q := by
  have e : ∀ n ts st, aexec E 23 (rw E) (drawB E 23) n L23_0 ts st = aexec E 23 (rw E) (drawB E 23) n (S23_1) ts st := by
    intro n ts st
    have e1 : L23_0 = (.seq (code Try.f23).snd.snd.fst.snd.bin.lin.fst (.seq (code Try.f23).snd.snd.fst.snd.bin.lin.snd.fst (.seq (.block 1 (.seq (code Try.f23).snd.snd.fst.snd.bin.lin.snd.snd.fst.bin.fst rg23_5)) (code Try.f23).snd.snd.fst.snd.bin.lin.snd.snd.snd))) := rfl
    rw [e1] <;>
    simp only [S23_1, aexec_seq, aseq_assoc]
  refine aw_congr e ?_
  exact h
noncomputable def S23_2 : Code := .seq ((code Try.f23).snd.snd.snd.fst) ((code Try.f23).snd.snd.snd.snd)
noncomputable def S23_2_e := (⟨by simp only [S23_2, code, Try.f23, Option.getD_some, Code.fst, Code.snd, Code.bin, Code.lin, Code.sin, Code.yes, Code.no]; exact rfl⟩ : PLift (S23_2 = _))
theorem C23_wp {ts : List AVal} {st : ASt} {Q : APost} (h : Wp E 23 S23_0 ts st (Nx (fun ts st => Wp E 23 (.block 0 (.loop L23_0)) ts st (Nx (fun ts st => Wp E 23 S23_2 ts st Q) Q)) Q)) : Wp E 23 C23 ts st Q := by
  have e : ∀ n ts st, aexec E 23 (rw E) (drawB E 23) n C23 ts st = aexec E 23 (rw E) (drawB E 23) n (.seq S23_0 (.seq (.block 0 (.loop L23_0)) (S23_2))) ts st := by
    intro n ts st
    have e1 : C23 = (.seq (code Try.f23).fst (.seq (code Try.f23).snd.fst (.seq (.seq (code Try.f23).snd.snd.fst.fst (.block 0 (.loop L23_0))) (.seq (code Try.f23).snd.snd.snd.fst (code Try.f23).snd.snd.snd.snd)))) := rfl
    rw [e1] <;>
    simp only [S23_0, S23_2, aexec_seq, aseq_assoc]
  refine aw_congr e ?_
  have h0 := h
  exact aw_seq (h0.mono fun e ts st hq => by cases e <;> first | exact hq | (have h1 := hq; exact aw_seq h1))
theorem ce_23 {x0 : AVal} {st : ASt} {r : AEnd × ASt} (h : ∀ g : Nat → AVal, g 0 = x0 → Wp E 23 C23 (Sl 25 g) st (fun e ts st => aend E Try.f23 (some (e, ts, st)) = some r)) : rw E 23 [x0] st = some r :=
  ce_of (fn := Try.f23) (c := C23) rfl rfl rfl (Nat.le_of_ble_eq_true rfl) fun g hg => h g (hg 0 x0 rfl)
theorem cx_23 {x0 : AVal} {st : ASt} {R : AEnd → ASt → Prop} (h : ∀ g : Nat → AVal, g 0 = x0 → Wp E 23 C23 (Sl 25 g) st (fun e ts st => ∃ r st', aend E Try.f23 (some (e, ts, st)) = some (r, st') ∧ R r st')) : ∃ r st', rw E 23 [x0] st = some (r, st') ∧ R r st' :=
  cx_of (fn := Try.f23) (c := C23) rfl rfl rfl (Nat.le_of_ble_eq_true rfl) fun g hg => h g (hg 0 x0 rfl)
theorem o_fap_68_0 (s o : Nat) : fieldA E.P 68 (.ptr s o) 0 = some (.ptr s (o + 0)) := rfl
theorem o_fai_68_0 (cs : List AVal) : fieldA E.P 68 (.iptr (.agg cs)) 0 = (cs[0]?).map .iptr := rfl
theorem o_ldp_5 (st : ASt) (s o : Nat) : loadA E.P 5 st (.ptr s o) = (blkOf (st.heap s)).bind (fun cs => cs[o]?) := ld_one rfl rfl st s o
theorem o_ldi_5 (st : ASt) (v : AVal) : loadA E.P 5 st (.iptr v) = if v.isCell = true then some v else none := rfl
theorem cf_15 (a : List AVal) (st : ASt) : callFuncA E.P 15 a st = some (.enter 15 a st) := rfl
theorem cf_14 (a : List AVal) (st : ASt) : callFuncA E.P 14 a st = some (.enter 14 a st) := rfl
theorem hint_23_21 : E.hint 23 21 = false := rfl
theorem o_bs_45_1 (ps : List (Nat × AVal)) (st : ASt) : buildSliceA E.P false 45 1 ps st = (setsE true 2 [(.agg [.lit (.int .i64 0), .lit (.slice none 0 0)])] ps).map (fun es => (.islice 2 es .exact, st)) := bs_i rfl rfl rfl rfl (by decide) rfl ps st
theorem hint_23_22 : E.hint 23 22 = false := rfl
theorem slt_45 : SlT E.P 45 31 true 2 := ⟨rfl, rfl, ⟨_, _, rfl, rfl, by decide, rfl, rfl⟩, by decide⟩

/-! ### braidwork/braidworklaw11.Ahead -/
noncomputable def C28 : Code := (code Try.f28)
noncomputable def S28_0 : Code := .seq ((code Try.f28).fst) (.seq ((code Try.f28).snd.fst) ((code Try.f28).snd.snd.fst.fst))
noncomputable def S28_0_e := (⟨by simp only [S28_0, code, Try.f28, Option.getD_some, Code.fst, Code.snd, Code.bin, Code.lin, Code.sin, Code.yes, Code.no]; exact rfl⟩ : PLift (S28_0 = _))
noncomputable def L28_0 : Code := (code Try.f28).snd.snd.fst.snd.bin.lin
noncomputable def S28_1 : Code := .seq ((code Try.f28).snd.snd.fst.snd.bin.lin.fst) ((code Try.f28).snd.snd.fst.snd.bin.lin.snd.fst)
noncomputable def S28_1_e := (⟨by simp only [S28_1, code, Try.f28, Option.getD_some, Code.fst, Code.snd, Code.bin, Code.lin, Code.sin, Code.yes, Code.no]; exact rfl⟩ : PLift (S28_1 = _))
noncomputable def B28_1 : Code := (code Try.f28).snd.snd.fst.snd.bin.lin.snd.snd.fst.bin
noncomputable def S28_2 : Code := .seq ((code Try.f28).snd.snd.fst.snd.bin.lin.snd.snd.fst.bin.fst) ((code Try.f28).snd.snd.fst.snd.bin.lin.snd.snd.fst.bin.snd.fst)
noncomputable def S28_2_e := (⟨by simp only [S28_2, code, Try.f28, Option.getD_some, Code.fst, Code.snd, Code.bin, Code.lin, Code.sin, Code.yes, Code.no]; exact rfl⟩ : PLift (S28_2 = _))
noncomputable def L28_2 : Code := (code Try.f28).snd.snd.fst.snd.bin.lin.snd.snd.fst.bin.snd.snd.bin.lin
noncomputable def S28_3 : Code := .seq ((code Try.f28).snd.snd.fst.snd.bin.lin.snd.snd.fst.bin.snd.snd.bin.lin.fst) ((code Try.f28).snd.snd.fst.snd.bin.lin.snd.snd.fst.bin.snd.snd.bin.lin.snd.fst)
noncomputable def S28_3_e := (⟨by simp only [S28_3, code, Try.f28, Option.getD_some, Code.fst, Code.snd, Code.bin, Code.lin, Code.sin, Code.yes, Code.no]; exact rfl⟩ : PLift (S28_3 = _))
noncomputable def B28_3 : Code := (code Try.f28).snd.snd.fst.snd.bin.lin.snd.snd.fst.bin.snd.snd.bin.lin.snd.snd.fst.bin
noncomputable def rg28_8 : Code := (code Try.f28).snd.snd.fst.snd.bin.lin.snd.snd.fst.bin.snd.snd.bin.lin.snd.snd.fst.bin.snd.fst
noncomputable def rq28_8 : Code := (code Try.f28).snd.snd.fst.snd.bin.lin.snd.snd.fst.bin.snd.snd.bin.lin.snd.snd.fst.bin.snd.fst
theorem ex28_8 (call : ACall) (n : Nat) (ts : List AVal) (st : ASt) : aexec E 28 call (drawB E 28) n rg28_8 ts st = aops E 28 call rq28_8.ops rq28_8.ops.toList ts st := by
  have d : drawB E 28 rq28_8.ops = true := by kernel_rfl
  have e : rg28_8 = .region 8 rq28_8.ops true := rfl
  rw [e, aexec, d]; rfl
noncomputable def rq28_8_e := (⟨by simp only [rq28_8, code, Try.f28, Option.getD_some, Code.fst, Code.snd, Code.bin, Code.lin, Code.sin, Code.yes, Code.no, Code.ops]; exact rfl⟩ : PLift (rq28_8.ops = _))
noncomputable def S28_4 : Code := .seq ((code Try.f28).snd.snd.fst.snd.bin.lin.snd.snd.fst.bin.snd.snd.bin.lin.snd.snd.fst.bin.fst) (.seq (rg28_8) ((code Try.f28).snd.snd.fst.snd.bin.lin.snd.snd.fst.bin.snd.snd.bin.lin.snd.snd.fst.bin.snd.snd.fst.fst))
noncomputable def S28_4_e := (⟨by simp only [S28_4, code, Try.f28, Option.getD_some, Code.fst, Code.snd, Code.bin, Code.lin, Code.sin, Code.yes, Code.no]; exact rfl⟩ : PLift (S28_4 = _))
noncomputable def L28_4 : Code := (code Try.f28).snd.snd.fst.snd.bin.lin.snd.snd.fst.bin.snd.snd.bin.lin.snd.snd.fst.bin.snd.snd.fst.snd.bin.lin
noncomputable def rg28_12 : Code := (code Try.f28).snd.snd.fst.snd.bin.lin.snd.snd.fst.bin.snd.snd.bin.lin.snd.snd.fst.bin.snd.snd.fst.snd.bin.lin.snd.fst.bin.fst
noncomputable def rq28_12 : Code := (code Try.f28).snd.snd.fst.snd.bin.lin.snd.snd.fst.bin.snd.snd.bin.lin.snd.snd.fst.bin.snd.snd.fst.snd.bin.lin.snd.fst.bin.fst
theorem ex28_12 (call : ACall) (n : Nat) (ts : List AVal) (st : ASt) : aexec E 28 call (drawB E 28) n rg28_12 ts st = aops E 28 call rq28_12.ops rq28_12.ops.toList ts st := by
  have d : drawB E 28 rq28_12.ops = true := by kernel_rfl
  have e : rg28_12 = .region 12 rq28_12.ops true := rfl
  rw [e, aexec, d]; rfl
noncomputable def rq28_12_e := (⟨by simp only [rq28_12, code, Try.f28, Option.getD_some, Code.fst, Code.snd, Code.bin, Code.lin, Code.sin, Code.yes, Code.no, Code.ops]; exact rfl⟩ : PLift (rq28_12.ops = _))
noncomputable def S28_5 : Code := .seq ((code Try.f28).snd.snd.fst.snd.bin.lin.snd.snd.fst.bin.snd.snd.bin.lin.snd.snd.fst.bin.snd.snd.fst.snd.bin.lin.fst.fst) (.seq ((code Try.f28).snd.snd.fst.snd.bin.lin.snd.snd.fst.bin.snd.snd.bin.lin.snd.snd.fst.bin.snd.snd.fst.snd.bin.lin.fst.snd) (.seq (.block 5 (.seq rg28_12 (code Try.f28).snd.snd.fst.snd.bin.lin.snd.snd.fst.bin.snd.snd.bin.lin.snd.snd.fst.bin.snd.snd.fst.snd.bin.lin.snd.fst.bin.snd)) ((code Try.f28).snd.snd.fst.snd.bin.lin.snd.snd.fst.bin.snd.snd.bin.lin.snd.snd.fst.bin.snd.snd.fst.snd.bin.lin.snd.snd)))
noncomputable def S28_5_e := (⟨by simp only [S28_5, code, Try.f28, Option.getD_some, Code.fst, Code.snd, Code.bin, Code.lin, Code.sin, Code.yes, Code.no]; exact rfl⟩ : PLift (S28_5 = _))
theorem L28_4_wp {ts : List AVal} {st : ASt} {Q : APost} (h : Wp E 28 S28_5 ts st Q) : Wp E 28 L28_4 ts st Q := by
  have e : ∀ n ts st, aexec E 28 (rw E) (drawB E 28) n L28_4 ts st = aexec E 28 (rw E) (drawB E 28) n (S28_5) ts st := by
    intro n ts st
    have e1 : L28_4 = (.seq (.seq (code Try.f28).snd.snd.fst.snd.bin.lin.snd.snd.fst.bin.snd.snd.bin.lin.snd.snd.fst.bin.snd.snd.fst.snd.bin.lin.fst.fst (code Try.f28).snd.snd.fst.snd.bin.lin.snd.snd.fst.bin.snd.snd.bin.lin.snd.snd.fst.bin.snd.snd.fst.snd.bin.lin.fst.snd) (.seq (.block 5 (.seq rg28_12 (code Try.f28).snd.snd.fst.snd.bin.lin.snd.snd.fst.bin.snd.snd.bin.lin.snd.snd.fst.bin.snd.snd.fst.snd.bin.lin.snd.fst.bin.snd)) (code Try.f28).snd.snd.fst.snd.bin.lin.snd.snd.fst.bin.snd.snd.bin.lin.snd.snd.fst.bin.snd.snd.fst.snd.bin.lin.snd.snd)) := rfl
    rw [e1] <;>
    simp only [S28_5, aexec_seq, aseq_assoc]
  refine aw_congr e ?_
  exact h
noncomputable def S28_6 : Code := .seq ((code Try.f28).snd.snd.fst.snd.bin.lin.snd.snd.fst.bin.snd.snd.bin.lin.snd.snd.fst.bin.snd.snd.snd.fst) ((code Try.f28).snd.snd.fst.snd.bin.lin.snd.snd.fst.bin.snd.snd.bin.lin.snd.snd.fst.bin.snd.snd.snd.snd)
noncomputable def S28_6_e := (⟨by simp only [S28_6, code, Try.f28, Option.getD_some, Code.fst, Code.snd, Code.bin, Code.lin, Code.sin, Code.yes, Code.no]; exact rfl⟩ : PLift (S28_6 = _))
theorem B28_3_wp {ts : List AVal} {st : ASt} {Q : APost} (h : Wp E 28 S28_4 ts st (Nx (fun ts st => Wp E 28 (.block 4 (.loop L28_4)) ts st (Nx (fun ts st => Wp E 28 S28_6 ts st Q) Q)) Q)) : Wp E 28 B28_3 ts st Q := by
  have e : ∀ n ts st, aexec E 28 (rw E) (drawB E 28) n B28_3 ts st = aexec E 28 (rw E) (drawB E 28) n (.seq S28_4 (.seq (.block 4 (.loop L28_4)) (S28_6))) ts st := by
    intro n ts st
    have e1 : B28_3 = (.seq (code Try.f28).snd.snd.fst.snd.bin.lin.snd.snd.fst.bin.snd.snd.bin.lin.snd.snd.fst.bin.fst (.seq rg28_8 (.seq (.seq (code Try.f28).snd.snd.fst.snd.bin.lin.snd.snd.fst.bin.snd.snd.bin.lin.snd.snd.fst.bin.snd.snd.fst.fst (.block 4 (.loop L28_4))) (.seq (code Try.f28).snd.snd.fst.snd.bin.lin.snd.snd.fst.bin.snd.snd.bin.lin.snd.snd.fst.bin.snd.snd.snd.fst (code Try.f28).snd.snd.fst.snd.bin.lin.snd.snd.fst.bin.snd.snd.bin.lin.snd.snd.fst.bin.snd.snd.snd.snd)))) := rfl
    rw [e1] <;>
    simp only [S28_4, S28_6, aexec_seq, aseq_assoc]
  refine aw_congr e ?_
  have h0 := h
  exact aw_seq (h0.mono fun e ts st hq => by cases e <;> first | exact hq | (have h1 := hq; exact aw_seq h1))
noncomputable def S28_7 : Code := (code Try.f28).snd.snd.fst.snd.bin.lin.snd.snd.fst.bin.snd.snd.bin.lin.snd.snd.snd
noncomputable def S28_7_e := (⟨by simp only [S28_7, code, Try.f28, Option.getD_some, Code.fst, Code.snd, Code.bin, Code.lin, Code.sin, Code.yes, Code.no]; exact rfl⟩ : PLift (S28_7 = _))
theorem L28_2_wp {ts : List AVal} {st : ASt} {Q : APost} (h : Wp E 28 S28_3 ts st (Nx (fun ts st => Wp E 28 (.block 3 B28_3) ts st (Nx (fun ts st => Wp E 28 S28_7 ts st Q) Q)) Q)) : Wp E 28 L28_2 ts st Q := by
  have e : ∀ n ts st, aexec E 28 (rw E) (drawB E 28) n L28_2 ts st = aexec E 28 (rw E) (drawB E 28) n (.seq S28_3 (.seq (.block 3 B28_3) (S28_7))) ts st := by
    intro n ts st
    have e1 : L28_2 = (.seq (code Try.f28).snd.snd.fst.snd.bin.lin.snd.snd.fst.bin.snd.snd.bin.lin.fst (.seq (code Try.f28).snd.snd.fst.snd.bin.lin.snd.snd.fst.bin.snd.snd.bin.lin.snd.fst (.seq (.block 3 B28_3) (code Try.f28).snd.snd.fst.snd.bin.lin.snd.snd.fst.bin.snd.snd.bin.lin.snd.snd.snd))) := rfl
    rw [e1] <;>
    simp only [S28_3, S28_7, aexec_seq, aseq_assoc]
  refine aw_congr e ?_
  have h0 := h
  exact aw_seq (h0.mono fun e ts st hq => by cases e <;> first | exact hq | (have h1 := hq; exact aw_seq h1))
theorem B28_1_wp {ts : List AVal} {st : ASt} {Q : APost} (h : Wp E 28 S28_2 ts st (Nx (fun ts st => Wp E 28 (.block 2 (.loop L28_2)) ts st Q) Q)) : Wp E 28 B28_1 ts st Q := by
  have e : ∀ n ts st, aexec E 28 (rw E) (drawB E 28) n B28_1 ts st = aexec E 28 (rw E) (drawB E 28) n (.seq S28_2 ((.block 2 (.loop L28_2)))) ts st := by
    intro n ts st
    have e1 : B28_1 = (.seq (code Try.f28).snd.snd.fst.snd.bin.lin.snd.snd.fst.bin.fst (.seq (code Try.f28).snd.snd.fst.snd.bin.lin.snd.snd.fst.bin.snd.fst (.block 2 (.loop L28_2)))) := rfl
    rw [e1] <;>
    simp only [S28_2, aexec_seq, aseq_assoc]
  refine aw_congr e ?_
  have h0 := h
  exact aw_seq h0
noncomputable def S28_8 : Code := (code Try.f28).snd.snd.fst.snd.bin.lin.snd.snd.snd
noncomputable def S28_8_e := (⟨by simp only [S28_8, code, Try.f28, Option.getD_some, Code.fst, Code.snd, Code.bin, Code.lin, Code.sin, Code.yes, Code.no]; exact rfl⟩ : PLift (S28_8 = _))
theorem L28_0_wp {ts : List AVal} {st : ASt} {Q : APost} (h : Wp E 28 S28_1 ts st (Nx (fun ts st => Wp E 28 (.block 1 B28_1) ts st (Nx (fun ts st => Wp E 28 S28_8 ts st Q) Q)) Q)) : Wp E 28 L28_0 ts st Q := by
  have e : ∀ n ts st, aexec E 28 (rw E) (drawB E 28) n L28_0 ts st = aexec E 28 (rw E) (drawB E 28) n (.seq S28_1 (.seq (.block 1 B28_1) (S28_8))) ts st := by
    intro n ts st
    have e1 : L28_0 = (.seq (code Try.f28).snd.snd.fst.snd.bin.lin.fst (.seq (code Try.f28).snd.snd.fst.snd.bin.lin.snd.fst (.seq (.block 1 B28_1) (code Try.f28).snd.snd.fst.snd.bin.lin.snd.snd.snd))) := rfl
    rw [e1] <;>
    simp only [S28_1, S28_8, aexec_seq, aseq_assoc]
  refine aw_congr e ?_
  have h0 := h
  exact aw_seq (h0.mono fun e ts st hq => by cases e <;> first | exact hq | (have h1 := hq; exact aw_seq h1))
noncomputable def S28_9 : Code := .seq ((code Try.f28).snd.snd.snd.fst) ((code Try.f28).snd.snd.snd.snd)
noncomputable def S28_9_e := (⟨by simp only [S28_9, code, Try.f28, Option.getD_some, Code.fst, Code.snd, Code.bin, Code.lin, Code.sin, Code.yes, Code.no]; exact rfl⟩ : PLift (S28_9 = _))
theorem C28_wp {ts : List AVal} {st : ASt} {Q : APost} (h : Wp E 28 S28_0 ts st (Nx (fun ts st => Wp E 28 (.block 0 (.loop L28_0)) ts st (Nx (fun ts st => Wp E 28 S28_9 ts st Q) Q)) Q)) : Wp E 28 C28 ts st Q := by
  have e : ∀ n ts st, aexec E 28 (rw E) (drawB E 28) n C28 ts st = aexec E 28 (rw E) (drawB E 28) n (.seq S28_0 (.seq (.block 0 (.loop L28_0)) (S28_9))) ts st := by
    intro n ts st
    have e1 : C28 = (.seq (code Try.f28).fst (.seq (code Try.f28).snd.fst (.seq (.seq (code Try.f28).snd.snd.fst.fst (.block 0 (.loop L28_0))) (.seq (code Try.f28).snd.snd.snd.fst (code Try.f28).snd.snd.snd.snd)))) := rfl
    rw [e1] <;>
    simp only [S28_0, S28_9, aexec_seq, aseq_assoc]
  refine aw_congr e ?_
  have h0 := h
  exact aw_seq (h0.mono fun e ts st hq => by cases e <;> first | exact hq | (have h1 := hq; exact aw_seq h1))
theorem ce_28 {x0 : AVal} {st : ASt} {r : AEnd × ASt} (h : ∀ g : Nat → AVal, g 0 = x0 → Wp E 28 C28 (Sl 67 g) st (fun e ts st => aend E Try.f28 (some (e, ts, st)) = some r)) : rw E 28 [x0] st = some r :=
  ce_of (fn := Try.f28) (c := C28) rfl rfl rfl (Nat.le_of_ble_eq_true rfl) fun g hg => h g (hg 0 x0 rfl)
theorem cx_28 {x0 : AVal} {st : ASt} {R : AEnd → ASt → Prop} (h : ∀ g : Nat → AVal, g 0 = x0 → Wp E 28 C28 (Sl 67 g) st (fun e ts st => ∃ r st', aend E Try.f28 (some (e, ts, st)) = some (r, st') ∧ R r st')) : ∃ r st', rw E 28 [x0] st = some (r, st') ∧ R r st' :=
  cx_of (fn := Try.f28) (c := C28) rfl rfl rfl (Nat.le_of_ble_eq_true rfl) fun g hg => h g (hg 0 x0 rfl)
theorem cf_29 (a : List AVal) (st : ASt) : callFuncA E.P 29 a st = some (.enter 29 a st) := rfl
theorem hint_28_61 : E.hint 28 61 = false := rfl
theorem hint_28_62 : E.hint 28 62 = false := rfl

/-! ### slices.Contains[[]int,int] -/
noncomputable def C29 : Code := (code Try.f29)
noncomputable def S29_0 : Code := .seq ((code Try.f29).fst) (.seq ((code Try.f29).snd.fst) ((code Try.f29).snd.snd))
noncomputable def S29_0_e := (⟨by simp only [S29_0, code, Try.f29, Option.getD_some, Code.fst, Code.snd, Code.bin, Code.lin, Code.sin, Code.yes, Code.no]; exact rfl⟩ : PLift (S29_0 = _))
theorem C29_wp {ts : List AVal} {st : ASt} {Q : APost} (h : Wp E 29 S29_0 ts st Q) : Wp E 29 C29 ts st Q := by
  have e : ∀ n ts st, aexec E 29 (rw E) (drawB E 29) n C29 ts st = aexec E 29 (rw E) (drawB E 29) n (S29_0) ts st := by
    intro n ts st
    have e1 : C29 = (.seq (code Try.f29).fst (.seq (code Try.f29).snd.fst (code Try.f29).snd.snd)) := rfl
    rw [e1] <;>
    simp only [S29_0, aexec_seq, aseq_assoc]
  refine aw_congr e ?_
  exact h
theorem ce_29 {x0 x1 : AVal} {st : ASt} {r : AEnd × ASt} (h : ∀ g : Nat → AVal, g 0 = x0 → g 1 = x1 → Wp E 29 C29 (Sl 9 g) st (fun e ts st => aend E Try.f29 (some (e, ts, st)) = some r)) : rw E 29 [x0, x1] st = some r :=
  ce_of (fn := Try.f29) (c := C29) rfl rfl rfl (Nat.le_of_ble_eq_true rfl) fun g hg => h g (hg 0 x0 rfl) (hg 1 x1 rfl)
theorem cx_29 {x0 x1 : AVal} {st : ASt} {R : AEnd → ASt → Prop} (h : ∀ g : Nat → AVal, g 0 = x0 → g 1 = x1 → Wp E 29 C29 (Sl 9 g) st (fun e ts st => ∃ r st', aend E Try.f29 (some (e, ts, st)) = some (r, st') ∧ R r st')) : ∃ r st', rw E 29 [x0, x1] st = some (r, st') ∧ R r st' :=
  cx_of (fn := Try.f29) (c := C29) rfl rfl rfl (Nat.le_of_ble_eq_true rfl) fun g hg => h g (hg 0 x0 rfl) (hg 1 x1 rfl)
theorem cf_36 (a : List AVal) (st : ASt) : callFuncA E.P 36 a st = some (.enter 36 a st) := rfl

/-! ### slices.Index[[]int,int] -/
noncomputable def C36 : Code := (code Try.f36)
noncomputable def S36_0 : Code := .seq ((code Try.f36).fst) ((code Try.f36).snd.fst.fst)
noncomputable def S36_0_e := (⟨by simp only [S36_0, code, Try.f36, Option.getD_some, Code.fst, Code.snd, Code.bin, Code.lin, Code.sin, Code.yes, Code.no]; exact rfl⟩ : PLift (S36_0 = _))
noncomputable def L36_0 : Code := (code Try.f36).snd.fst.snd.bin.lin
noncomputable def S36_1 : Code := .seq ((code Try.f36).snd.fst.snd.bin.lin.fst) (.seq ((code Try.f36).snd.fst.snd.bin.lin.snd.fst) (.seq ((code Try.f36).snd.fst.snd.bin.lin.snd.snd.fst) ((code Try.f36).snd.fst.snd.bin.lin.snd.snd.snd)))
noncomputable def S36_1_e := (⟨by simp only [S36_1, code, Try.f36, Option.getD_some, Code.fst, Code.snd, Code.bin, Code.lin, Code.sin, Code.yes, Code.no]; exact rfl⟩ : PLift (S36_1 = _))
theorem L36_0_wp {ts : List AVal} {st : ASt} {Q : APost} (h : Wp E 36 S36_1 ts st Q) : Wp E 36 L36_0 ts st Q := by
  have e : ∀ n ts st, aexec E 36 (rw E) (drawB E 36) n L36_0 ts st = aexec E 36 (rw E) (drawB E 36) n (S36_1) ts st := by
    intro n ts st
    have e1 : L36_0 = (.seq (code Try.f36).snd.fst.snd.bin.lin.fst (.seq (code Try.f36).snd.fst.snd.bin.lin.snd.fst (.seq (code Try.f36).snd.fst.snd.bin.lin.snd.snd.fst (code Try.f36).snd.fst.snd.bin.lin.snd.snd.snd))) := rfl
    rw [e1] <;>
    simp only [S36_1, aexec_seq, aseq_assoc]
  refine aw_congr e ?_
  exact h
noncomputable def S36_2 : Code := .seq ((code Try.f36).snd.snd.fst) ((code Try.f36).snd.snd.snd)
noncomputable def S36_2_e := (⟨by simp only [S36_2, code, Try.f36, Option.getD_some, Code.fst, Code.snd, Code.bin, Code.lin, Code.sin, Code.yes, Code.no]; exact rfl⟩ : PLift (S36_2 = _))
theorem C36_wp {ts : List AVal} {st : ASt} {Q : APost} (h : Wp E 36 S36_0 ts st (Nx (fun ts st => Wp E 36 (.block 0 (.loop L36_0)) ts st (Nx (fun ts st => Wp E 36 S36_2 ts st Q) Q)) Q)) : Wp E 36 C36 ts st Q := by
  have e : ∀ n ts st, aexec E 36 (rw E) (drawB E 36) n C36 ts st = aexec E 36 (rw E) (drawB E 36) n (.seq S36_0 (.seq (.block 0 (.loop L36_0)) (S36_2))) ts st := by
    intro n ts st
    have e1 : C36 = (.seq (code Try.f36).fst (.seq (.seq (code Try.f36).snd.fst.fst (.block 0 (.loop L36_0))) (.seq (code Try.f36).snd.snd.fst (code Try.f36).snd.snd.snd))) := rfl
    rw [e1] <;>
    simp only [S36_0, S36_2, aexec_seq, aseq_assoc]
  refine aw_congr e ?_
  have h0 := h
  exact aw_seq (h0.mono fun e ts st hq => by cases e <;> first | exact hq | (have h1 := hq; exact aw_seq h1))
theorem ce_36 {x0 x1 : AVal} {st : ASt} {r : AEnd × ASt} (h : ∀ g : Nat → AVal, g 0 = x0 → g 1 = x1 → Wp E 36 C36 (Sl 19 g) st (fun e ts st => aend E Try.f36 (some (e, ts, st)) = some r)) : rw E 36 [x0, x1] st = some r :=
  ce_of (fn := Try.f36) (c := C36) rfl rfl rfl (Nat.le_of_ble_eq_true rfl) fun g hg => h g (hg 0 x0 rfl) (hg 1 x1 rfl)
theorem cx_36 {x0 x1 : AVal} {st : ASt} {R : AEnd → ASt → Prop} (h : ∀ g : Nat → AVal, g 0 = x0 → g 1 = x1 → Wp E 36 C36 (Sl 19 g) st (fun e ts st => ∃ r st', aend E Try.f36 (some (e, ts, st)) = some (r, st') ∧ R r st')) : ∃ r st', rw E 36 [x0, x1] st = some (r, st') ∧ R r st' :=
  cx_of (fn := Try.f36) (c := C36) rfl rfl rfl (Nat.le_of_ble_eq_true rfl) fun g hg => h g (hg 0 x0 rfl) (hg 1 x1 rfl)

/-! ### slices.Clone[[]braidwork/event.Event,braidwork/event.Event] -/
noncomputable def C26 : Code := (code Try.f26)
noncomputable def S26_0 : Code := .seq ((code Try.f26).fst) (.seq ((code Try.f26).snd.fst.fst) (.seq ((code Try.f26).snd.fst.snd) (.seq ((code Try.f26).snd.snd.fst) ((code Try.f26).snd.snd.snd))))
noncomputable def S26_0_e := (⟨by simp only [S26_0, code, Try.f26, Option.getD_some, Code.fst, Code.snd, Code.bin, Code.lin, Code.sin, Code.yes, Code.no]; exact rfl⟩ : PLift (S26_0 = _))
theorem C26_wp {ts : List AVal} {st : ASt} {Q : APost} (h : Wp E 26 S26_0 ts st Q) : Wp E 26 C26 ts st Q := by
  have e : ∀ n ts st, aexec E 26 (rw E) (drawB E 26) n C26 ts st = aexec E 26 (rw E) (drawB E 26) n (S26_0) ts st := by
    intro n ts st
    have e1 : C26 = (.seq (code Try.f26).fst (.seq (.seq (code Try.f26).snd.fst.fst (code Try.f26).snd.fst.snd) (.seq (code Try.f26).snd.snd.fst (code Try.f26).snd.snd.snd))) := rfl
    rw [e1] <;>
    simp only [S26_0, aexec_seq, aseq_assoc]
  refine aw_congr e ?_
  exact h
theorem ce_26 {x0 : AVal} {st : ASt} {r : AEnd × ASt} (h : ∀ g : Nat → AVal, g 0 = x0 → Wp E 26 C26 (Sl 8 g) st (fun e ts st => aend E Try.f26 (some (e, ts, st)) = some r)) : rw E 26 [x0] st = some r :=
  ce_of (fn := Try.f26) (c := C26) rfl rfl rfl (Nat.le_of_ble_eq_true rfl) fun g hg => h g (hg 0 x0 rfl)
theorem cx_26 {x0 : AVal} {st : ASt} {R : AEnd → ASt → Prop} (h : ∀ g : Nat → AVal, g 0 = x0 → Wp E 26 C26 (Sl 8 g) st (fun e ts st => ∃ r st', aend E Try.f26 (some (e, ts, st)) = some (r, st') ∧ R r st')) : ∃ r st', rw E 26 [x0] st = some (r, st') ∧ R r st' :=
  cx_of (fn := Try.f26) (c := C26) rfl rfl rfl (Nat.le_of_ble_eq_true rfl) fun g hg => h g (hg 0 x0 rfl)
theorem hint_26_5 : E.hint 26 5 = false := rfl
theorem o_bs_45_0 (ps : List (Nat × AVal)) (st : ASt) : buildSliceA E.P false 45 0 ps st = (setsE true 2 [] ps).map (fun es => (.islice 2 es .exact, st)) := bs_i rfl rfl rfl rfl (by decide) rfl ps st
theorem hint_26_7 : E.hint 26 7 = true := rfl

/-! ### braidwork/braidworklaw11.ClockSwaps$1 -/
noncomputable def C27 : Code := (code Try.f27)
noncomputable def S27_0 : Code := .seq ((code Try.f27).fst) (.seq ((code Try.f27).snd.fst.fst) (.seq ((code Try.f27).snd.fst.snd) (.seq ((code Try.f27).snd.snd.fst) ((code Try.f27).snd.snd.snd))))
noncomputable def S27_0_e := (⟨by simp only [S27_0, code, Try.f27, Option.getD_some, Code.fst, Code.snd, Code.bin, Code.lin, Code.sin, Code.yes, Code.no]; exact rfl⟩ : PLift (S27_0 = _))
theorem C27_wp {ts : List AVal} {st : ASt} {Q : APost} (h : Wp E 27 S27_0 ts st Q) : Wp E 27 C27 ts st Q := by
  have e : ∀ n ts st, aexec E 27 (rw E) (drawB E 27) n C27 ts st = aexec E 27 (rw E) (drawB E 27) n (S27_0) ts st := by
    intro n ts st
    have e1 : C27 = (.seq (code Try.f27).fst (.seq (.seq (code Try.f27).snd.fst.fst (code Try.f27).snd.fst.snd) (.seq (code Try.f27).snd.snd.fst (code Try.f27).snd.snd.snd))) := rfl
    rw [e1] <;>
    simp only [S27_0, aexec_seq, aseq_assoc]
  refine aw_congr e ?_
  exact h
theorem ce_27 {x0 : AVal} {st : ASt} {r : AEnd × ASt} (h : ∀ g : Nat → AVal, g 0 = x0 → Wp E 27 C27 (Sl 16 g) st (fun e ts st => aend E Try.f27 (some (e, ts, st)) = some r)) : rw E 27 [x0] st = some r :=
  ce_of (fn := Try.f27) (c := C27) rfl rfl rfl (Nat.le_of_ble_eq_true rfl) fun g hg => h g (hg 0 x0 rfl)
theorem cx_27 {x0 : AVal} {st : ASt} {R : AEnd → ASt → Prop} (h : ∀ g : Nat → AVal, g 0 = x0 → Wp E 27 C27 (Sl 16 g) st (fun e ts st => ∃ r st', aend E Try.f27 (some (e, ts, st)) = some (r, st') ∧ R r st')) : ∃ r st', rw E 27 [x0] st = some (r, st') ∧ R r st' :=
  cx_of (fn := Try.f27) (c := C27) rfl rfl rfl (Nat.le_of_ble_eq_true rfl) fun g hg => h g (hg 0 x0 rfl)

/-! ### braidwork/braidworklaw11.Awake -/
noncomputable def C21 : Code := (code Try.f21)
noncomputable def S21_0 : Code := .seq ((code Try.f21).fst) (.seq ((code Try.f21).snd.fst) (.seq ((code Try.f21).snd.snd.fst) ((code Try.f21).snd.snd.snd)))
noncomputable def S21_0_e := (⟨by simp only [S21_0, code, Try.f21, Option.getD_some, Code.fst, Code.snd, Code.bin, Code.lin, Code.sin, Code.yes, Code.no]; exact rfl⟩ : PLift (S21_0 = _))
theorem C21_wp {ts : List AVal} {st : ASt} {Q : APost} (h : Wp E 21 S21_0 ts st Q) : Wp E 21 C21 ts st Q := by
  have e : ∀ n ts st, aexec E 21 (rw E) (drawB E 21) n C21 ts st = aexec E 21 (rw E) (drawB E 21) n (S21_0) ts st := by
    intro n ts st
    have e1 : C21 = (.seq (code Try.f21).fst (.seq (code Try.f21).snd.fst (.seq (code Try.f21).snd.snd.fst (code Try.f21).snd.snd.snd))) := rfl
    rw [e1] <;>
    simp only [S21_0, aexec_seq, aseq_assoc]
  refine aw_congr e ?_
  exact h
theorem ce_21 {st : ASt} {r : AEnd × ASt} (h : ∀ g : Nat → AVal, Wp E 21 C21 (Sl 22 g) st (fun e ts st => aend E Try.f21 (some (e, ts, st)) = some r)) : rw E 21 [] st = some r :=
  ce_of (fn := Try.f21) (c := C21) rfl rfl rfl (Nat.le_of_ble_eq_true rfl) fun g hg => h g 
theorem cx_21 {st : ASt} {R : AEnd → ASt → Prop} (h : ∀ g : Nat → AVal, Wp E 21 C21 (Sl 22 g) st (fun e ts st => ∃ r st', aend E Try.f21 (some (e, ts, st)) = some (r, st') ∧ R r st')) : ∃ r st', rw E 21 [] st = some (r, st') ∧ R r st' :=
  cx_of (fn := Try.f21) (c := C21) rfl rfl rfl (Nat.le_of_ble_eq_true rfl) fun g hg => h g 
theorem hint_21_5 : E.hint 21 5 = false := rfl
theorem o_bs_45_3 (ps : List (Nat × AVal)) (st : ASt) : buildSliceA E.P false 45 3 ps st = (setsE true 2 [(.agg [.lit (.int .i64 0), .lit (.slice none 0 0)]), (.agg [.lit (.int .i64 0), .lit (.slice none 0 0)]), (.agg [.lit (.int .i64 0), .lit (.slice none 0 0)])] ps).map (fun es => (.islice 2 es .exact, st)) := bs_i rfl rfl rfl rfl (by decide) rfl ps st
theorem cf_24 (a : List AVal) (st : ASt) : callFuncA E.P 24 a st = some (.enter 24 a st) := rfl
theorem cf_25 (a : List AVal) (st : ASt) : callFuncA E.P 25 a st = some (.enter 25 a st) := rfl
theorem cf_12 (a : List AVal) (st : ASt) : callFuncA E.P 12 a st = some (.enter 12 a st) := rfl

/-! ### braidwork/braidworklaw11.ClockTrans -/
noncomputable def C8 : Code := (code Try.f8)
noncomputable def S8_0 : Code := .seq ((code Try.f8).fst) (.seq ((code Try.f8).snd.fst.fst) (.seq ((code Try.f8).snd.fst.snd) (.seq ((code Try.f8).snd.snd.fst.fst) (.seq ((code Try.f8).snd.snd.fst.snd) (.seq ((code Try.f8).snd.snd.snd.fst) (.seq ((code Try.f8).snd.snd.snd.snd.fst) ((code Try.f8).snd.snd.snd.snd.snd.fst.fst)))))))
noncomputable def S8_0_e := (⟨by simp only [S8_0, code, Try.f8, Option.getD_some, Code.fst, Code.snd, Code.bin, Code.lin, Code.sin, Code.yes, Code.no]; exact rfl⟩ : PLift (S8_0 = _))
noncomputable def L8_0 : Code := (code Try.f8).snd.snd.snd.snd.snd.fst.snd.bin.lin
noncomputable def S8_1 : Code := .seq ((code Try.f8).snd.snd.snd.snd.snd.fst.snd.bin.lin.fst) ((code Try.f8).snd.snd.snd.snd.snd.fst.snd.bin.lin.snd.fst)
noncomputable def S8_1_e := (⟨by simp only [S8_1, code, Try.f8, Option.getD_some, Code.fst, Code.snd, Code.bin, Code.lin, Code.sin, Code.yes, Code.no]; exact rfl⟩ : PLift (S8_1 = _))
noncomputable def B8_1 : Code := (code Try.f8).snd.snd.snd.snd.snd.fst.snd.bin.lin.snd.snd.fst.bin
noncomputable def S8_2 : Code := .seq ((code Try.f8).snd.snd.snd.snd.snd.fst.snd.bin.lin.snd.snd.fst.bin.fst) ((code Try.f8).snd.snd.snd.snd.snd.fst.snd.bin.lin.snd.snd.fst.bin.snd.fst)
noncomputable def S8_2_e := (⟨by simp only [S8_2, code, Try.f8, Option.getD_some, Code.fst, Code.snd, Code.bin, Code.lin, Code.sin, Code.yes, Code.no]; exact rfl⟩ : PLift (S8_2 = _))
noncomputable def L8_2 : Code := (code Try.f8).snd.snd.snd.snd.snd.fst.snd.bin.lin.snd.snd.fst.bin.snd.snd.bin.lin
noncomputable def S8_3 : Code := .seq ((code Try.f8).snd.snd.snd.snd.snd.fst.snd.bin.lin.snd.snd.fst.bin.snd.snd.bin.lin.fst) ((code Try.f8).snd.snd.snd.snd.snd.fst.snd.bin.lin.snd.snd.fst.bin.snd.snd.bin.lin.snd.fst)
noncomputable def S8_3_e := (⟨by simp only [S8_3, code, Try.f8, Option.getD_some, Code.fst, Code.snd, Code.bin, Code.lin, Code.sin, Code.yes, Code.no]; exact rfl⟩ : PLift (S8_3 = _))
noncomputable def B8_3 : Code := (code Try.f8).snd.snd.snd.snd.snd.fst.snd.bin.lin.snd.snd.fst.bin.snd.snd.bin.lin.snd.snd.fst.bin
noncomputable def rg8_13 : Code := (code Try.f8).snd.snd.snd.snd.snd.fst.snd.bin.lin.snd.snd.fst.bin.snd.snd.bin.lin.snd.snd.fst.bin.snd.fst.fst
noncomputable def rq8_13 : Code := (code Try.f8).snd.snd.snd.snd.snd.fst.snd.bin.lin.snd.snd.fst.bin.snd.snd.bin.lin.snd.snd.fst.bin.snd.fst.fst
theorem ex8_13 (call : ACall) (n : Nat) (ts : List AVal) (st : ASt) : aexec E 8 call (drawB E 8) n rg8_13 ts st = aops E 8 call rq8_13.ops rq8_13.ops.toList ts st := by
  have d : drawB E 8 rq8_13.ops = true := by kernel_rfl
  have e : rg8_13 = .region 13 rq8_13.ops true := rfl
  rw [e, aexec, d]; rfl
noncomputable def rq8_13_e := (⟨by simp only [rq8_13, code, Try.f8, Option.getD_some, Code.fst, Code.snd, Code.bin, Code.lin, Code.sin, Code.yes, Code.no, Code.ops]; exact rfl⟩ : PLift (rq8_13.ops = _))
noncomputable def S8_4 : Code := .seq ((code Try.f8).snd.snd.snd.snd.snd.fst.snd.bin.lin.snd.snd.fst.bin.snd.snd.bin.lin.snd.snd.fst.bin.fst) (.seq (rg8_13) (.seq ((code Try.f8).snd.snd.snd.snd.snd.fst.snd.bin.lin.snd.snd.fst.bin.snd.snd.bin.lin.snd.snd.fst.bin.snd.fst.snd) ((code Try.f8).snd.snd.snd.snd.snd.fst.snd.bin.lin.snd.snd.fst.bin.snd.snd.bin.lin.snd.snd.fst.bin.snd.snd.fst)))
noncomputable def S8_4_e := (⟨by simp only [S8_4, code, Try.f8, Option.getD_some, Code.fst, Code.snd, Code.bin, Code.lin, Code.sin, Code.yes, Code.no]; exact rfl⟩ : PLift (S8_4 = _))
noncomputable def L8_4 : Code := (code Try.f8).snd.snd.snd.snd.snd.fst.snd.bin.lin.snd.snd.fst.bin.snd.snd.bin.lin.snd.snd.fst.bin.snd.snd.snd.bin.lin
noncomputable def S8_5 : Code := .seq ((code Try.f8).snd.snd.snd.snd.snd.fst.snd.bin.lin.snd.snd.fst.bin.snd.snd.bin.lin.snd.snd.fst.bin.snd.snd.snd.bin.lin.fst) (.seq ((code Try.f8).snd.snd.snd.snd.snd.fst.snd.bin.lin.snd.snd.fst.bin.snd.snd.bin.lin.snd.snd.fst.bin.snd.snd.snd.bin.lin.snd.fst) (.seq ((code Try.f8).snd.snd.snd.snd.snd.fst.snd.bin.lin.snd.snd.fst.bin.snd.snd.bin.lin.snd.snd.fst.bin.snd.snd.snd.bin.lin.snd.snd.fst) ((code Try.f8).snd.snd.snd.snd.snd.fst.snd.bin.lin.snd.snd.fst.bin.snd.snd.bin.lin.snd.snd.fst.bin.snd.snd.snd.bin.lin.snd.snd.snd)))
noncomputable def S8_5_e := (⟨by simp only [S8_5, code, Try.f8, Option.getD_some, Code.fst, Code.snd, Code.bin, Code.lin, Code.sin, Code.yes, Code.no]; exact rfl⟩ : PLift (S8_5 = _))
theorem L8_4_wp {ts : List AVal} {st : ASt} {Q : APost} (h : Wp E 8 S8_5 ts st Q) : Wp E 8 L8_4 ts st Q := by
  have e : ∀ n ts st, aexec E 8 (rw E) (drawB E 8) n L8_4 ts st = aexec E 8 (rw E) (drawB E 8) n (S8_5) ts st := by
    intro n ts st
    have e1 : L8_4 = (.seq (code Try.f8).snd.snd.snd.snd.snd.fst.snd.bin.lin.snd.snd.fst.bin.snd.snd.bin.lin.snd.snd.fst.bin.snd.snd.snd.bin.lin.fst (.seq (code Try.f8).snd.snd.snd.snd.snd.fst.snd.bin.lin.snd.snd.fst.bin.snd.snd.bin.lin.snd.snd.fst.bin.snd.snd.snd.bin.lin.snd.fst (.seq (code Try.f8).snd.snd.snd.snd.snd.fst.snd.bin.lin.snd.snd.fst.bin.snd.snd.bin.lin.snd.snd.fst.bin.snd.snd.snd.bin.lin.snd.snd.fst (code Try.f8).snd.snd.snd.snd.snd.fst.snd.bin.lin.snd.snd.fst.bin.snd.snd.bin.lin.snd.snd.fst.bin.snd.snd.snd.bin.lin.snd.snd.snd))) := rfl
    rw [e1] <;>
    simp only [S8_5, aexec_seq, aseq_assoc]
  refine aw_congr e ?_
  exact h
theorem B8_3_wp {ts : List AVal} {st : ASt} {Q : APost} (h : Wp E 8 S8_4 ts st (Nx (fun ts st => Wp E 8 (.block 4 (.loop L8_4)) ts st Q) Q)) : Wp E 8 B8_3 ts st Q := by
  have e : ∀ n ts st, aexec E 8 (rw E) (drawB E 8) n B8_3 ts st = aexec E 8 (rw E) (drawB E 8) n (.seq S8_4 ((.block 4 (.loop L8_4)))) ts st := by
    intro n ts st
    have e1 : B8_3 = (.seq (code Try.f8).snd.snd.snd.snd.snd.fst.snd.bin.lin.snd.snd.fst.bin.snd.snd.bin.lin.snd.snd.fst.bin.fst (.seq (.seq rg8_13 (code Try.f8).snd.snd.snd.snd.snd.fst.snd.bin.lin.snd.snd.fst.bin.snd.snd.bin.lin.snd.snd.fst.bin.snd.fst.snd) (.seq (code Try.f8).snd.snd.snd.snd.snd.fst.snd.bin.lin.snd.snd.fst.bin.snd.snd.bin.lin.snd.snd.fst.bin.snd.snd.fst (.block 4 (.loop L8_4))))) := rfl
    rw [e1] <;>
    simp only [S8_4, aexec_seq, aseq_assoc]
  refine aw_congr e ?_
  have h0 := h
  exact aw_seq h0
noncomputable def S8_6 : Code := (code Try.f8).snd.snd.snd.snd.snd.fst.snd.bin.lin.snd.snd.fst.bin.snd.snd.bin.lin.snd.snd.snd
noncomputable def S8_6_e := (⟨by simp only [S8_6, code, Try.f8, Option.getD_some, Code.fst, Code.snd, Code.bin, Code.lin, Code.sin, Code.yes, Code.no]; exact rfl⟩ : PLift (S8_6 = _))
theorem L8_2_wp {ts : List AVal} {st : ASt} {Q : APost} (h : Wp E 8 S8_3 ts st (Nx (fun ts st => Wp E 8 (.block 3 B8_3) ts st (Nx (fun ts st => Wp E 8 S8_6 ts st Q) Q)) Q)) : Wp E 8 L8_2 ts st Q := by
  have e : ∀ n ts st, aexec E 8 (rw E) (drawB E 8) n L8_2 ts st = aexec E 8 (rw E) (drawB E 8) n (.seq S8_3 (.seq (.block 3 B8_3) (S8_6))) ts st := by
    intro n ts st
    have e1 : L8_2 = (.seq (code Try.f8).snd.snd.snd.snd.snd.fst.snd.bin.lin.snd.snd.fst.bin.snd.snd.bin.lin.fst (.seq (code Try.f8).snd.snd.snd.snd.snd.fst.snd.bin.lin.snd.snd.fst.bin.snd.snd.bin.lin.snd.fst (.seq (.block 3 B8_3) (code Try.f8).snd.snd.snd.snd.snd.fst.snd.bin.lin.snd.snd.fst.bin.snd.snd.bin.lin.snd.snd.snd))) := rfl
    rw [e1] <;>
    simp only [S8_3, S8_6, aexec_seq, aseq_assoc]
  refine aw_congr e ?_
  have h0 := h
  exact aw_seq (h0.mono fun e ts st hq => by cases e <;> first | exact hq | (have h1 := hq; exact aw_seq h1))
theorem B8_1_wp {ts : List AVal} {st : ASt} {Q : APost} (h : Wp E 8 S8_2 ts st (Nx (fun ts st => Wp E 8 (.block 2 (.loop L8_2)) ts st Q) Q)) : Wp E 8 B8_1 ts st Q := by
  have e : ∀ n ts st, aexec E 8 (rw E) (drawB E 8) n B8_1 ts st = aexec E 8 (rw E) (drawB E 8) n (.seq S8_2 ((.block 2 (.loop L8_2)))) ts st := by
    intro n ts st
    have e1 : B8_1 = (.seq (code Try.f8).snd.snd.snd.snd.snd.fst.snd.bin.lin.snd.snd.fst.bin.fst (.seq (code Try.f8).snd.snd.snd.snd.snd.fst.snd.bin.lin.snd.snd.fst.bin.snd.fst (.block 2 (.loop L8_2)))) := rfl
    rw [e1] <;>
    simp only [S8_2, aexec_seq, aseq_assoc]
  refine aw_congr e ?_
  have h0 := h
  exact aw_seq h0
noncomputable def S8_7 : Code := (code Try.f8).snd.snd.snd.snd.snd.fst.snd.bin.lin.snd.snd.snd
noncomputable def S8_7_e := (⟨by simp only [S8_7, code, Try.f8, Option.getD_some, Code.fst, Code.snd, Code.bin, Code.lin, Code.sin, Code.yes, Code.no]; exact rfl⟩ : PLift (S8_7 = _))
theorem L8_0_wp {ts : List AVal} {st : ASt} {Q : APost} (h : Wp E 8 S8_1 ts st (Nx (fun ts st => Wp E 8 (.block 1 B8_1) ts st (Nx (fun ts st => Wp E 8 S8_7 ts st Q) Q)) Q)) : Wp E 8 L8_0 ts st Q := by
  have e : ∀ n ts st, aexec E 8 (rw E) (drawB E 8) n L8_0 ts st = aexec E 8 (rw E) (drawB E 8) n (.seq S8_1 (.seq (.block 1 B8_1) (S8_7))) ts st := by
    intro n ts st
    have e1 : L8_0 = (.seq (code Try.f8).snd.snd.snd.snd.snd.fst.snd.bin.lin.fst (.seq (code Try.f8).snd.snd.snd.snd.snd.fst.snd.bin.lin.snd.fst (.seq (.block 1 B8_1) (code Try.f8).snd.snd.snd.snd.snd.fst.snd.bin.lin.snd.snd.snd))) := rfl
    rw [e1] <;>
    simp only [S8_1, S8_7, aexec_seq, aseq_assoc]
  refine aw_congr e ?_
  have h0 := h
  exact aw_seq (h0.mono fun e ts st hq => by cases e <;> first | exact hq | (have h1 := hq; exact aw_seq h1))
noncomputable def S8_8 : Code := .seq ((code Try.f8).snd.snd.snd.snd.snd.snd.fst) ((code Try.f8).snd.snd.snd.snd.snd.snd.snd)
noncomputable def S8_8_e := (⟨by simp only [S8_8, code, Try.f8, Option.getD_some, Code.fst, Code.snd, Code.bin, Code.lin, Code.sin, Code.yes, Code.no]; exact rfl⟩ : PLift (S8_8 = _))
theorem C8_wp {ts : List AVal} {st : ASt} {Q : APost} (h : Wp E 8 S8_0 ts st (Nx (fun ts st => Wp E 8 (.block 0 (.loop L8_0)) ts st (Nx (fun ts st => Wp E 8 S8_8 ts st Q) Q)) Q)) : Wp E 8 C8 ts st Q := by
  have e : ∀ n ts st, aexec E 8 (rw E) (drawB E 8) n C8 ts st = aexec E 8 (rw E) (drawB E 8) n (.seq S8_0 (.seq (.block 0 (.loop L8_0)) (S8_8))) ts st := by
    intro n ts st
    have e1 : C8 = (.seq (code Try.f8).fst (.seq (.seq (code Try.f8).snd.fst.fst (code Try.f8).snd.fst.snd) (.seq (.seq (code Try.f8).snd.snd.fst.fst (code Try.f8).snd.snd.fst.snd) (.seq (code Try.f8).snd.snd.snd.fst (.seq (code Try.f8).snd.snd.snd.snd.fst (.seq (.seq (code Try.f8).snd.snd.snd.snd.snd.fst.fst (.block 0 (.loop L8_0))) (.seq (code Try.f8).snd.snd.snd.snd.snd.snd.fst (code Try.f8).snd.snd.snd.snd.snd.snd.snd))))))) := rfl
    rw [e1] <;>
    simp only [S8_0, S8_8, aexec_seq, aseq_assoc]
  refine aw_congr e ?_
  have h0 := h
  exact aw_seq (h0.mono fun e ts st hq => by cases e <;> first | exact hq | (have h1 := hq; exact aw_seq h1))
theorem ce_8 {x0 : AVal} {st : ASt} {r : AEnd × ASt} (h : ∀ g : Nat → AVal, g 0 = x0 → Wp E 8 C8 (Sl 86 g) st (fun e ts st => aend E Try.f8 (some (e, ts, st)) = some r)) : rw E 8 [x0] st = some r :=
  ce_of (fn := Try.f8) (c := C8) rfl rfl rfl (Nat.le_of_ble_eq_true rfl) fun g hg => h g (hg 0 x0 rfl)
theorem cx_8 {x0 : AVal} {st : ASt} {R : AEnd → ASt → Prop} (h : ∀ g : Nat → AVal, g 0 = x0 → Wp E 8 C8 (Sl 86 g) st (fun e ts st => ∃ r st', aend E Try.f8 (some (e, ts, st)) = some (r, st') ∧ R r st')) : ∃ r st', rw E 8 [x0] st = some (r, st') ∧ R r st' :=
  cx_of (fn := Try.f8) (c := C8) rfl rfl rfl (Nat.le_of_ble_eq_true rfl) fun g hg => h g (hg 0 x0 rfl)
theorem cf_21 (a : List AVal) (st : ASt) : callFuncA E.P 21 a st = some (.enter 21 a st) := rfl
theorem cf_22 (a : List AVal) (st : ASt) : callFuncA E.P 22 a st = some (.enter 22 a st) := rfl
theorem cf_23 (a : List AVal) (st : ASt) : callFuncA E.P 23 a st = some (.enter 23 a st) := rfl

/-! ### braidwork/braidworklaw11.ClockSwaps -/
noncomputable def C9 : Code := (code Try.f9)
noncomputable def rg9_7 : Code := (code Try.f9).snd.snd.snd.snd.snd.fst.fst
noncomputable def rq9_7 : Code := (code Try.f9).snd.snd.snd.snd.snd.fst.fst
theorem ex9_7 (call : ACall) (n : Nat) (ts : List AVal) (st : ASt) : aexec E 9 call (drawB E 9) n rg9_7 ts st = aops E 9 call rq9_7.ops rq9_7.ops.toList ts st := by
  have d : drawB E 9 rq9_7.ops = true := by kernel_rfl
  have e : rg9_7 = .region 7 rq9_7.ops true := rfl
  rw [e, aexec, d]; rfl
noncomputable def rq9_7_e := (⟨by simp only [rq9_7, code, Try.f9, Option.getD_some, Code.fst, Code.snd, Code.bin, Code.lin, Code.sin, Code.yes, Code.no, Code.ops]; exact rfl⟩ : PLift (rq9_7.ops = _))
noncomputable def rg9_11 : Code := (code Try.f9).snd.snd.snd.snd.snd.snd.snd.fst
noncomputable def rq9_11 : Code := (code Try.f9).snd.snd.snd.snd.snd.snd.snd.fst
theorem ex9_11 (call : ACall) (n : Nat) (ts : List AVal) (st : ASt) : aexec E 9 call (drawB E 9) n rg9_11 ts st = aopsP E 9 call rq9_11.ops [.one 0 [], .one 1 [], .one 2 [], .one 3 [], .one 4 [], .one 5 [], .one 6 [], .one 7 [], .one 8 [], .one 9 [], .one 10 [], .one 11 [], .one 12 [], .one 13 [], .one 14 [], .one 15 [3], .one 16 [], .one 17 []] ts st := by
  have d : drawB E 9 rq9_11.ops = false := by kernel_rfl
  have d2 : drawPlan E 9 rq9_11.ops = some [.one 0 [], .one 1 [], .one 2 [], .one 3 [], .one 4 [], .one 5 [], .one 6 [], .one 7 [], .one 8 [], .one 9 [], .one 10 [], .one 11 [], .one 12 [], .one 13 [], .one 14 [], .one 15 [3], .one 16 [], .one 17 []] := by kernel_rfl
  have e : rg9_11 = .region 11 rq9_11.ops true := rfl
  rw [e, aexec, d, d2]; rfl
noncomputable def rq9_11_e := (⟨by simp only [rq9_11, code, Try.f9, Option.getD_some, Code.fst, Code.snd, Code.bin, Code.lin, Code.sin, Code.yes, Code.no, Code.ops]; exact rfl⟩ : PLift (rq9_11.ops = _))
noncomputable def S9_0 : Code := .seq ((code Try.f9).fst) (.seq ((code Try.f9).snd.fst.fst) (.seq ((code Try.f9).snd.fst.snd) (.seq ((code Try.f9).snd.snd.fst.fst) (.seq ((code Try.f9).snd.snd.fst.snd) (.seq ((code Try.f9).snd.snd.snd.fst) (.seq ((code Try.f9).snd.snd.snd.snd.fst) (.seq (rg9_7) (.seq ((code Try.f9).snd.snd.snd.snd.snd.fst.snd) (.seq ((code Try.f9).snd.snd.snd.snd.snd.snd.fst) (.seq (rg9_11) (.seq ((code Try.f9).snd.snd.snd.snd.snd.snd.snd.snd.fst) (.seq ((code Try.f9).snd.snd.snd.snd.snd.snd.snd.snd.snd.fst) ((code Try.f9).snd.snd.snd.snd.snd.snd.snd.snd.snd.snd.fst.fst)))))))))))))
noncomputable def S9_0_e := (⟨by simp only [S9_0, code, Try.f9, Option.getD_some, Code.fst, Code.snd, Code.bin, Code.lin, Code.sin, Code.yes, Code.no]; exact rfl⟩ : PLift (S9_0 = _))
noncomputable def L9_0 : Code := (code Try.f9).snd.snd.snd.snd.snd.snd.snd.snd.snd.snd.fst.snd.bin.lin
noncomputable def S9_1 : Code := .seq ((code Try.f9).snd.snd.snd.snd.snd.snd.snd.snd.snd.snd.fst.snd.bin.lin.fst) ((code Try.f9).snd.snd.snd.snd.snd.snd.snd.snd.snd.snd.fst.snd.bin.lin.snd.fst)
noncomputable def S9_1_e := (⟨by simp only [S9_1, code, Try.f9, Option.getD_some, Code.fst, Code.snd, Code.bin, Code.lin, Code.sin, Code.yes, Code.no]; exact rfl⟩ : PLift (S9_1 = _))
noncomputable def B9_1 : Code := (code Try.f9).snd.snd.snd.snd.snd.snd.snd.snd.snd.snd.fst.snd.bin.lin.snd.snd.fst.bin
noncomputable def S9_2 : Code := .seq ((code Try.f9).snd.snd.snd.snd.snd.snd.snd.snd.snd.snd.fst.snd.bin.lin.snd.snd.fst.bin.fst) ((code Try.f9).snd.snd.snd.snd.snd.snd.snd.snd.snd.snd.fst.snd.bin.lin.snd.snd.fst.bin.snd.fst)
noncomputable def S9_2_e := (⟨by simp only [S9_2, code, Try.f9, Option.getD_some, Code.fst, Code.snd, Code.bin, Code.lin, Code.sin, Code.yes, Code.no]; exact rfl⟩ : PLift (S9_2 = _))
noncomputable def L9_2 : Code := (code Try.f9).snd.snd.snd.snd.snd.snd.snd.snd.snd.snd.fst.snd.bin.lin.snd.snd.fst.bin.snd.snd.bin.lin
noncomputable def rg9_20 : Code := (code Try.f9).snd.snd.snd.snd.snd.snd.snd.snd.snd.snd.fst.snd.bin.lin.snd.snd.fst.bin.snd.snd.bin.lin.snd.snd.fst.bin.snd.fst
noncomputable def rq9_20 : Code := (code Try.f9).snd.snd.snd.snd.snd.snd.snd.snd.snd.snd.fst.snd.bin.lin.snd.snd.fst.bin.snd.snd.bin.lin.snd.snd.fst.bin.snd.fst
theorem ex9_20 (call : ACall) (n : Nat) (ts : List AVal) (st : ASt) : aexec E 9 call (drawB E 9) n rg9_20 ts st = aopsP E 9 call rq9_20.ops [.one 0 [], .one 1 [], .one 2 [], .one 4 [], .one 5 [], .one 6 [], .one 8 [], .one 9 [], .one 3 [4], .one 7 [4], .one 10 [4], .one 11 [], .one 12 []] ts st := by
  have d : drawB E 9 rq9_20.ops = false := by kernel_rfl
  have d2 : drawPlan E 9 rq9_20.ops = some [.one 0 [], .one 1 [], .one 2 [], .one 4 [], .one 5 [], .one 6 [], .one 8 [], .one 9 [], .one 3 [4], .one 7 [4], .one 10 [4], .one 11 [], .one 12 []] := by kernel_rfl
  have e : rg9_20 = .region 20 rq9_20.ops true := rfl
  rw [e, aexec, d, d2]; rfl
noncomputable def rq9_20_e := (⟨by simp only [rq9_20, code, Try.f9, Option.getD_some, Code.fst, Code.snd, Code.bin, Code.lin, Code.sin, Code.yes, Code.no, Code.ops]; exact rfl⟩ : PLift (rq9_20.ops = _))
noncomputable def S9_3 : Code := .seq ((code Try.f9).snd.snd.snd.snd.snd.snd.snd.snd.snd.snd.fst.snd.bin.lin.snd.snd.fst.bin.snd.snd.bin.lin.fst) (.seq ((code Try.f9).snd.snd.snd.snd.snd.snd.snd.snd.snd.snd.fst.snd.bin.lin.snd.snd.fst.bin.snd.snd.bin.lin.snd.fst) (.seq (.block 3 (.seq (code Try.f9).snd.snd.snd.snd.snd.snd.snd.snd.snd.snd.fst.snd.bin.lin.snd.snd.fst.bin.snd.snd.bin.lin.snd.snd.fst.bin.fst (.seq rg9_20 (code Try.f9).snd.snd.snd.snd.snd.snd.snd.snd.snd.snd.fst.snd.bin.lin.snd.snd.fst.bin.snd.snd.bin.lin.snd.snd.fst.bin.snd.snd))) ((code Try.f9).snd.snd.snd.snd.snd.snd.snd.snd.snd.snd.fst.snd.bin.lin.snd.snd.fst.bin.snd.snd.bin.lin.snd.snd.snd)))
noncomputable def S9_3_e := (⟨by simp only [S9_3, code, Try.f9, Option.getD_some, Code.fst, Code.snd, Code.bin, Code.lin, Code.sin, Code.yes, Code.no]; exact rfl⟩ : PLift (S9_3 = _))
theorem L9_2_wp {ts : List AVal} {st : ASt} {Q : APost} (h : Wp E 9 S9_3 ts st Q) : Wp E 9 L9_2 ts st Q := by
  have e : ∀ n ts st, aexec E 9 (rw E) (drawB E 9) n L9_2 ts st = aexec E 9 (rw E) (drawB E 9) n (S9_3) ts st := by
    intro n ts st
    have e1 : L9_2 = (.seq (code Try.f9).snd.snd.snd.snd.snd.snd.snd.snd.snd.snd.fst.snd.bin.lin.snd.snd.fst.bin.snd.snd.bin.lin.fst (.seq (code Try.f9).snd.snd.snd.snd.snd.snd.snd.snd.snd.snd.fst.snd.bin.lin.snd.snd.fst.bin.snd.snd.bin.lin.snd.fst (.seq (.block 3 (.seq (code Try.f9).snd.snd.snd.snd.snd.snd.snd.snd.snd.snd.fst.snd.bin.lin.snd.snd.fst.bin.snd.snd.bin.lin.snd.snd.fst.bin.fst (.seq rg9_20 (code Try.f9).snd.snd.snd.snd.snd.snd.snd.snd.snd.snd.fst.snd.bin.lin.snd.snd.fst.bin.snd.snd.bin.lin.snd.snd.fst.bin.snd.snd))) (code Try.f9).snd.snd.snd.snd.snd.snd.snd.snd.snd.snd.fst.snd.bin.lin.snd.snd.fst.bin.snd.snd.bin.lin.snd.snd.snd))) := rfl
    rw [e1] <;>
    simp only [S9_3, aexec_seq, aseq_assoc]
  refine aw_congr e ?_
  exact h
theorem B9_1_wp {ts : List AVal} {st : ASt} {Q : APost} (h : Wp E 9 S9_2 ts st (Nx (fun ts st => Wp E 9 (.block 2 (.loop L9_2)) ts st Q) Q)) : Wp E 9 B9_1 ts st Q := by
  have e : ∀ n ts st, aexec E 9 (rw E) (drawB E 9) n B9_1 ts st = aexec E 9 (rw E) (drawB E 9) n (.seq S9_2 ((.block 2 (.loop L9_2)))) ts st := by
    intro n ts st
    have e1 : B9_1 = (.seq (code Try.f9).snd.snd.snd.snd.snd.snd.snd.snd.snd.snd.fst.snd.bin.lin.snd.snd.fst.bin.fst (.seq (code Try.f9).snd.snd.snd.snd.snd.snd.snd.snd.snd.snd.fst.snd.bin.lin.snd.snd.fst.bin.snd.fst (.block 2 (.loop L9_2)))) := rfl
    rw [e1] <;>
    simp only [S9_2, aexec_seq, aseq_assoc]
  refine aw_congr e ?_
  have h0 := h
  exact aw_seq h0
noncomputable def S9_4 : Code := (code Try.f9).snd.snd.snd.snd.snd.snd.snd.snd.snd.snd.fst.snd.bin.lin.snd.snd.snd
noncomputable def S9_4_e := (⟨by simp only [S9_4, code, Try.f9, Option.getD_some, Code.fst, Code.snd, Code.bin, Code.lin, Code.sin, Code.yes, Code.no]; exact rfl⟩ : PLift (S9_4 = _))
theorem L9_0_wp {ts : List AVal} {st : ASt} {Q : APost} (h : Wp E 9 S9_1 ts st (Nx (fun ts st => Wp E 9 (.block 1 B9_1) ts st (Nx (fun ts st => Wp E 9 S9_4 ts st Q) Q)) Q)) : Wp E 9 L9_0 ts st Q := by
  have e : ∀ n ts st, aexec E 9 (rw E) (drawB E 9) n L9_0 ts st = aexec E 9 (rw E) (drawB E 9) n (.seq S9_1 (.seq (.block 1 B9_1) (S9_4))) ts st := by
    intro n ts st
    have e1 : L9_0 = (.seq (code Try.f9).snd.snd.snd.snd.snd.snd.snd.snd.snd.snd.fst.snd.bin.lin.fst (.seq (code Try.f9).snd.snd.snd.snd.snd.snd.snd.snd.snd.snd.fst.snd.bin.lin.snd.fst (.seq (.block 1 B9_1) (code Try.f9).snd.snd.snd.snd.snd.snd.snd.snd.snd.snd.fst.snd.bin.lin.snd.snd.snd))) := rfl
    rw [e1] <;>
    simp only [S9_1, S9_4, aexec_seq, aseq_assoc]
  refine aw_congr e ?_
  have h0 := h
  exact aw_seq (h0.mono fun e ts st hq => by cases e <;> first | exact hq | (have h1 := hq; exact aw_seq h1))
noncomputable def S9_5 : Code := .seq ((code Try.f9).snd.snd.snd.snd.snd.snd.snd.snd.snd.snd.snd.fst) ((code Try.f9).snd.snd.snd.snd.snd.snd.snd.snd.snd.snd.snd.snd)
noncomputable def S9_5_e := (⟨by simp only [S9_5, code, Try.f9, Option.getD_some, Code.fst, Code.snd, Code.bin, Code.lin, Code.sin, Code.yes, Code.no]; exact rfl⟩ : PLift (S9_5 = _))
theorem C9_wp {ts : List AVal} {st : ASt} {Q : APost} (h : Wp E 9 S9_0 ts st (Nx (fun ts st => Wp E 9 (.block 0 (.loop L9_0)) ts st (Nx (fun ts st => Wp E 9 S9_5 ts st Q) Q)) Q)) : Wp E 9 C9 ts st Q := by
  have e : ∀ n ts st, aexec E 9 (rw E) (drawB E 9) n C9 ts st = aexec E 9 (rw E) (drawB E 9) n (.seq S9_0 (.seq (.block 0 (.loop L9_0)) (S9_5))) ts st := by
    intro n ts st
    have e1 : C9 = (.seq (code Try.f9).fst (.seq (.seq (code Try.f9).snd.fst.fst (code Try.f9).snd.fst.snd) (.seq (.seq (code Try.f9).snd.snd.fst.fst (code Try.f9).snd.snd.fst.snd) (.seq (code Try.f9).snd.snd.snd.fst (.seq (code Try.f9).snd.snd.snd.snd.fst (.seq (.seq rg9_7 (code Try.f9).snd.snd.snd.snd.snd.fst.snd) (.seq (code Try.f9).snd.snd.snd.snd.snd.snd.fst (.seq rg9_11 (.seq (code Try.f9).snd.snd.snd.snd.snd.snd.snd.snd.fst (.seq (code Try.f9).snd.snd.snd.snd.snd.snd.snd.snd.snd.fst (.seq (.seq (code Try.f9).snd.snd.snd.snd.snd.snd.snd.snd.snd.snd.fst.fst (.block 0 (.loop L9_0))) (.seq (code Try.f9).snd.snd.snd.snd.snd.snd.snd.snd.snd.snd.snd.fst (code Try.f9).snd.snd.snd.snd.snd.snd.snd.snd.snd.snd.snd.snd)))))))))))) := rfl
    rw [e1] <;>
    simp only [S9_0, S9_5, aexec_seq, aseq_assoc]
  refine aw_congr e ?_
  have h0 := h
  exact aw_seq (h0.mono fun e ts st hq => by cases e <;> first | exact hq | (have h1 := hq; exact aw_seq h1))
theorem ce_9 {x0 x1 : AVal} {st : ASt} {r : AEnd × ASt} (h : ∀ g : Nat → AVal, g 0 = x0 → g 1 = x1 → Wp E 9 C9 (Sl 97 g) st (fun e ts st => aend E Try.f9 (some (e, ts, st)) = some r)) : rw E 9 [x0, x1] st = some r :=
  ce_of (fn := Try.f9) (c := C9) rfl rfl rfl (Nat.le_of_ble_eq_true rfl) fun g hg => h g (hg 0 x0 rfl) (hg 1 x1 rfl)
theorem cx_9 {x0 x1 : AVal} {st : ASt} {R : AEnd → ASt → Prop} (h : ∀ g : Nat → AVal, g 0 = x0 → g 1 = x1 → Wp E 9 C9 (Sl 97 g) st (fun e ts st => ∃ r st', aend E Try.f9 (some (e, ts, st)) = some (r, st') ∧ R r st')) : ∃ r st', rw E 9 [x0, x1] st = some (r, st') ∧ R r st' :=
  cx_of (fn := Try.f9) (c := C9) rfl rfl rfl (Nat.le_of_ble_eq_true rfl) fun g hg => h g (hg 0 x0 rfl) (hg 1 x1 rfl)
theorem o_al_3 (st : ASt) : allocA E.P 3 st = some (.ptr st.ctr 0, st.new (.cells [.lit (.int .i64 0)])) := rfl
theorem cf_26 (a : List AVal) (st : ASt) : callFuncA E.P 26 a st = some (.enter 26 a st) := rfl
theorem o_eqb_4_neq (xo yo : Operand) (a b : Bool) : binA E.P .neq 4 xo yo (.lit (.bool a)) (.lit (.bool b)) = some (.lit (.bool (a != b))) := b_neb rfl

/-! ### braidwork/braidworklaw11.ClockOrders -/
noncomputable def C10 : Code := (code Try.f10)
noncomputable def S10_0 : Code := .seq ((code Try.f10).fst) (.seq ((code Try.f10).snd.fst.fst) (.seq ((code Try.f10).snd.fst.snd) (.seq ((code Try.f10).snd.snd.fst.fst) (.seq ((code Try.f10).snd.snd.fst.snd) (.seq ((code Try.f10).snd.snd.snd.fst) (.seq ((code Try.f10).snd.snd.snd.snd.fst) ((code Try.f10).snd.snd.snd.snd.snd.fst.fst)))))))
noncomputable def S10_0_e := (⟨by simp only [S10_0, code, Try.f10, Option.getD_some, Code.fst, Code.snd, Code.bin, Code.lin, Code.sin, Code.yes, Code.no]; exact rfl⟩ : PLift (S10_0 = _))
noncomputable def L10_0 : Code := (code Try.f10).snd.snd.snd.snd.snd.fst.snd.bin.lin
noncomputable def S10_1 : Code := .seq ((code Try.f10).snd.snd.snd.snd.snd.fst.snd.bin.lin.fst) ((code Try.f10).snd.snd.snd.snd.snd.fst.snd.bin.lin.snd.fst)
noncomputable def S10_1_e := (⟨by simp only [S10_1, code, Try.f10, Option.getD_some, Code.fst, Code.snd, Code.bin, Code.lin, Code.sin, Code.yes, Code.no]; exact rfl⟩ : PLift (S10_1 = _))
noncomputable def B10_1 : Code := (code Try.f10).snd.snd.snd.snd.snd.fst.snd.bin.lin.snd.snd.fst.bin
noncomputable def S10_2 : Code := .seq ((code Try.f10).snd.snd.snd.snd.snd.fst.snd.bin.lin.snd.snd.fst.bin.fst) ((code Try.f10).snd.snd.snd.snd.snd.fst.snd.bin.lin.snd.snd.fst.bin.snd.fst)
noncomputable def S10_2_e := (⟨by simp only [S10_2, code, Try.f10, Option.getD_some, Code.fst, Code.snd, Code.bin, Code.lin, Code.sin, Code.yes, Code.no]; exact rfl⟩ : PLift (S10_2 = _))
noncomputable def L10_2 : Code := (code Try.f10).snd.snd.snd.snd.snd.fst.snd.bin.lin.snd.snd.fst.bin.snd.snd.bin.lin
noncomputable def rg10_13 : Code := (code Try.f10).snd.snd.snd.snd.snd.fst.snd.bin.lin.snd.snd.fst.bin.snd.snd.bin.lin.snd.snd.fst.bin.snd.fst
noncomputable def rq10_13 : Code := (code Try.f10).snd.snd.snd.snd.snd.fst.snd.bin.lin.snd.snd.fst.bin.snd.snd.bin.lin.snd.snd.fst.bin.snd.fst
theorem ex10_13 (call : ACall) (n : Nat) (ts : List AVal) (st : ASt) : aexec E 10 call (drawB E 10) n rg10_13 ts st = aopsP E 10 call rq10_13.ops [.one 0 [], .one 1 [], .one 2 [], .one 4 [], .one 5 [], .one 6 [], .one 7 [], .one 8 [], .one 3 [7], .one 9 [], .one 10 []] ts st := by
  have d : drawB E 10 rq10_13.ops = false := by kernel_rfl
  have d2 : drawPlan E 10 rq10_13.ops = some [.one 0 [], .one 1 [], .one 2 [], .one 4 [], .one 5 [], .one 6 [], .one 7 [], .one 8 [], .one 3 [7], .one 9 [], .one 10 []] := by kernel_rfl
  have e : rg10_13 = .region 13 rq10_13.ops true := rfl
  rw [e, aexec, d, d2]; rfl
noncomputable def rq10_13_e := (⟨by simp only [rq10_13, code, Try.f10, Option.getD_some, Code.fst, Code.snd, Code.bin, Code.lin, Code.sin, Code.yes, Code.no, Code.ops]; exact rfl⟩ : PLift (rq10_13.ops = _))
noncomputable def S10_3 : Code := .seq ((code Try.f10).snd.snd.snd.snd.snd.fst.snd.bin.lin.snd.snd.fst.bin.snd.snd.bin.lin.fst) (.seq ((code Try.f10).snd.snd.snd.snd.snd.fst.snd.bin.lin.snd.snd.fst.bin.snd.snd.bin.lin.snd.fst) (.seq (.block 3 (.seq (code Try.f10).snd.snd.snd.snd.snd.fst.snd.bin.lin.snd.snd.fst.bin.snd.snd.bin.lin.snd.snd.fst.bin.fst (.seq rg10_13 (code Try.f10).snd.snd.snd.snd.snd.fst.snd.bin.lin.snd.snd.fst.bin.snd.snd.bin.lin.snd.snd.fst.bin.snd.snd))) ((code Try.f10).snd.snd.snd.snd.snd.fst.snd.bin.lin.snd.snd.fst.bin.snd.snd.bin.lin.snd.snd.snd)))
noncomputable def S10_3_e := (⟨by simp only [S10_3, code, Try.f10, Option.getD_some, Code.fst, Code.snd, Code.bin, Code.lin, Code.sin, Code.yes, Code.no]; exact rfl⟩ : PLift (S10_3 = _))
theorem L10_2_wp {ts : List AVal} {st : ASt} {Q : APost} (h : Wp E 10 S10_3 ts st Q) : Wp E 10 L10_2 ts st Q := by
  have e : ∀ n ts st, aexec E 10 (rw E) (drawB E 10) n L10_2 ts st = aexec E 10 (rw E) (drawB E 10) n (S10_3) ts st := by
    intro n ts st
    have e1 : L10_2 = (.seq (code Try.f10).snd.snd.snd.snd.snd.fst.snd.bin.lin.snd.snd.fst.bin.snd.snd.bin.lin.fst (.seq (code Try.f10).snd.snd.snd.snd.snd.fst.snd.bin.lin.snd.snd.fst.bin.snd.snd.bin.lin.snd.fst (.seq (.block 3 (.seq (code Try.f10).snd.snd.snd.snd.snd.fst.snd.bin.lin.snd.snd.fst.bin.snd.snd.bin.lin.snd.snd.fst.bin.fst (.seq rg10_13 (code Try.f10).snd.snd.snd.snd.snd.fst.snd.bin.lin.snd.snd.fst.bin.snd.snd.bin.lin.snd.snd.fst.bin.snd.snd))) (code Try.f10).snd.snd.snd.snd.snd.fst.snd.bin.lin.snd.snd.fst.bin.snd.snd.bin.lin.snd.snd.snd))) := rfl
    rw [e1] <;>
    simp only [S10_3, aexec_seq, aseq_assoc]
  refine aw_congr e ?_
  exact h
theorem B10_1_wp {ts : List AVal} {st : ASt} {Q : APost} (h : Wp E 10 S10_2 ts st (Nx (fun ts st => Wp E 10 (.block 2 (.loop L10_2)) ts st Q) Q)) : Wp E 10 B10_1 ts st Q := by
  have e : ∀ n ts st, aexec E 10 (rw E) (drawB E 10) n B10_1 ts st = aexec E 10 (rw E) (drawB E 10) n (.seq S10_2 ((.block 2 (.loop L10_2)))) ts st := by
    intro n ts st
    have e1 : B10_1 = (.seq (code Try.f10).snd.snd.snd.snd.snd.fst.snd.bin.lin.snd.snd.fst.bin.fst (.seq (code Try.f10).snd.snd.snd.snd.snd.fst.snd.bin.lin.snd.snd.fst.bin.snd.fst (.block 2 (.loop L10_2)))) := rfl
    rw [e1] <;>
    simp only [S10_2, aexec_seq, aseq_assoc]
  refine aw_congr e ?_
  have h0 := h
  exact aw_seq h0
noncomputable def S10_4 : Code := (code Try.f10).snd.snd.snd.snd.snd.fst.snd.bin.lin.snd.snd.snd
noncomputable def S10_4_e := (⟨by simp only [S10_4, code, Try.f10, Option.getD_some, Code.fst, Code.snd, Code.bin, Code.lin, Code.sin, Code.yes, Code.no]; exact rfl⟩ : PLift (S10_4 = _))
theorem L10_0_wp {ts : List AVal} {st : ASt} {Q : APost} (h : Wp E 10 S10_1 ts st (Nx (fun ts st => Wp E 10 (.block 1 B10_1) ts st (Nx (fun ts st => Wp E 10 S10_4 ts st Q) Q)) Q)) : Wp E 10 L10_0 ts st Q := by
  have e : ∀ n ts st, aexec E 10 (rw E) (drawB E 10) n L10_0 ts st = aexec E 10 (rw E) (drawB E 10) n (.seq S10_1 (.seq (.block 1 B10_1) (S10_4))) ts st := by
    intro n ts st
    have e1 : L10_0 = (.seq (code Try.f10).snd.snd.snd.snd.snd.fst.snd.bin.lin.fst (.seq (code Try.f10).snd.snd.snd.snd.snd.fst.snd.bin.lin.snd.fst (.seq (.block 1 B10_1) (code Try.f10).snd.snd.snd.snd.snd.fst.snd.bin.lin.snd.snd.snd))) := rfl
    rw [e1] <;>
    simp only [S10_1, S10_4, aexec_seq, aseq_assoc]
  refine aw_congr e ?_
  have h0 := h
  exact aw_seq (h0.mono fun e ts st hq => by cases e <;> first | exact hq | (have h1 := hq; exact aw_seq h1))
noncomputable def S10_5 : Code := .seq ((code Try.f10).snd.snd.snd.snd.snd.snd.fst) ((code Try.f10).snd.snd.snd.snd.snd.snd.snd)
noncomputable def S10_5_e := (⟨by simp only [S10_5, code, Try.f10, Option.getD_some, Code.fst, Code.snd, Code.bin, Code.lin, Code.sin, Code.yes, Code.no]; exact rfl⟩ : PLift (S10_5 = _))
theorem C10_wp {ts : List AVal} {st : ASt} {Q : APost} (h : Wp E 10 S10_0 ts st (Nx (fun ts st => Wp E 10 (.block 0 (.loop L10_0)) ts st (Nx (fun ts st => Wp E 10 S10_5 ts st Q) Q)) Q)) : Wp E 10 C10 ts st Q := by
  have e : ∀ n ts st, aexec E 10 (rw E) (drawB E 10) n C10 ts st = aexec E 10 (rw E) (drawB E 10) n (.seq S10_0 (.seq (.block 0 (.loop L10_0)) (S10_5))) ts st := by
    intro n ts st
    have e1 : C10 = (.seq (code Try.f10).fst (.seq (.seq (code Try.f10).snd.fst.fst (code Try.f10).snd.fst.snd) (.seq (.seq (code Try.f10).snd.snd.fst.fst (code Try.f10).snd.snd.fst.snd) (.seq (code Try.f10).snd.snd.snd.fst (.seq (code Try.f10).snd.snd.snd.snd.fst (.seq (.seq (code Try.f10).snd.snd.snd.snd.snd.fst.fst (.block 0 (.loop L10_0))) (.seq (code Try.f10).snd.snd.snd.snd.snd.snd.fst (code Try.f10).snd.snd.snd.snd.snd.snd.snd))))))) := rfl
    rw [e1] <;>
    simp only [S10_0, S10_5, aexec_seq, aseq_assoc]
  refine aw_congr e ?_
  have h0 := h
  exact aw_seq (h0.mono fun e ts st hq => by cases e <;> first | exact hq | (have h1 := hq; exact aw_seq h1))
theorem ce_10 {x0 x1 x2 : AVal} {st : ASt} {r : AEnd × ASt} (h : ∀ g : Nat → AVal, g 0 = x0 → g 1 = x1 → g 2 = x2 → Wp E 10 C10 (Sl 66 g) st (fun e ts st => aend E Try.f10 (some (e, ts, st)) = some r)) : rw E 10 [x0, x1, x2] st = some r :=
  ce_of (fn := Try.f10) (c := C10) rfl rfl rfl (Nat.le_of_ble_eq_true rfl) fun g hg => h g (hg 0 x0 rfl) (hg 1 x1 rfl) (hg 2 x2 rfl)
theorem cx_10 {x0 x1 x2 : AVal} {st : ASt} {R : AEnd → ASt → Prop} (h : ∀ g : Nat → AVal, g 0 = x0 → g 1 = x1 → g 2 = x2 → Wp E 10 C10 (Sl 66 g) st (fun e ts st => ∃ r st', aend E Try.f10 (some (e, ts, st)) = some (r, st') ∧ R r st')) : ∃ r st', rw E 10 [x0, x1, x2] st = some (r, st') ∧ R r st' :=
  cx_of (fn := Try.f10) (c := C10) rfl rfl rfl (Nat.le_of_ble_eq_true rfl) fun g hg => h g (hg 0 x0 rfl) (hg 1 x1 rfl) (hg 2 x2 rfl)
theorem cf_28 (a : List AVal) (st : ASt) : callFuncA E.P 28 a st = some (.enter 28 a st) := rfl

/-! ### braidwork/braidworklaw11.ClockCounts -/
noncomputable def C11 : Code := (code Try.f11)
noncomputable def S11_0 : Code := .seq ((code Try.f11).fst) (.seq ((code Try.f11).snd.fst.fst) (.seq ((code Try.f11).snd.fst.snd) (.seq ((code Try.f11).snd.snd.fst.fst) (.seq ((code Try.f11).snd.snd.fst.snd) (.seq ((code Try.f11).snd.snd.snd.fst) (.seq ((code Try.f11).snd.snd.snd.snd.fst) (.seq ((code Try.f11).snd.snd.snd.snd.snd.fst.fst) (.seq ((code Try.f11).snd.snd.snd.snd.snd.fst.snd) ((code Try.f11).snd.snd.snd.snd.snd.snd.fst.fst)))))))))
noncomputable def S11_0_e := (⟨by simp only [S11_0, code, Try.f11, Option.getD_some, Code.fst, Code.snd, Code.bin, Code.lin, Code.sin, Code.yes, Code.no]; exact rfl⟩ : PLift (S11_0 = _))
noncomputable def L11_0 : Code := (code Try.f11).snd.snd.snd.snd.snd.snd.fst.snd.bin.lin
noncomputable def S11_1 : Code := .seq ((code Try.f11).snd.snd.snd.snd.snd.snd.fst.snd.bin.lin.fst) ((code Try.f11).snd.snd.snd.snd.snd.snd.fst.snd.bin.lin.snd.fst)
noncomputable def S11_1_e := (⟨by simp only [S11_1, code, Try.f11, Option.getD_some, Code.fst, Code.snd, Code.bin, Code.lin, Code.sin, Code.yes, Code.no]; exact rfl⟩ : PLift (S11_1 = _))
noncomputable def B11_1 : Code := (code Try.f11).snd.snd.snd.snd.snd.snd.fst.snd.bin.lin.snd.snd.fst.bin
noncomputable def S11_2 : Code := .seq ((code Try.f11).snd.snd.snd.snd.snd.snd.fst.snd.bin.lin.snd.snd.fst.bin.fst) (.seq ((code Try.f11).snd.snd.snd.snd.snd.snd.fst.snd.bin.lin.snd.snd.fst.bin.snd.fst.fst) (.seq ((code Try.f11).snd.snd.snd.snd.snd.snd.fst.snd.bin.lin.snd.snd.fst.bin.snd.fst.snd) (.seq ((code Try.f11).snd.snd.snd.snd.snd.snd.fst.snd.bin.lin.snd.snd.fst.bin.snd.snd.fst) (.seq ((code Try.f11).snd.snd.snd.snd.snd.snd.fst.snd.bin.lin.snd.snd.fst.bin.snd.snd.snd.fst) ((code Try.f11).snd.snd.snd.snd.snd.snd.fst.snd.bin.lin.snd.snd.fst.bin.snd.snd.snd.snd.fst.fst)))))
noncomputable def S11_2_e := (⟨by simp only [S11_2, code, Try.f11, Option.getD_some, Code.fst, Code.snd, Code.bin, Code.lin, Code.sin, Code.yes, Code.no]; exact rfl⟩ : PLift (S11_2 = _))
noncomputable def L11_2 : Code := (code Try.f11).snd.snd.snd.snd.snd.snd.fst.snd.bin.lin.snd.snd.fst.bin.snd.snd.snd.snd.fst.snd.bin.lin
noncomputable def S11_3 : Code := .seq ((code Try.f11).snd.snd.snd.snd.snd.snd.fst.snd.bin.lin.snd.snd.fst.bin.snd.snd.snd.snd.fst.snd.bin.lin.fst) (.seq ((code Try.f11).snd.snd.snd.snd.snd.snd.fst.snd.bin.lin.snd.snd.fst.bin.snd.snd.snd.snd.fst.snd.bin.lin.snd.fst) (.seq ((code Try.f11).snd.snd.snd.snd.snd.snd.fst.snd.bin.lin.snd.snd.fst.bin.snd.snd.snd.snd.fst.snd.bin.lin.snd.snd.fst) ((code Try.f11).snd.snd.snd.snd.snd.snd.fst.snd.bin.lin.snd.snd.fst.bin.snd.snd.snd.snd.fst.snd.bin.lin.snd.snd.snd)))
noncomputable def S11_3_e := (⟨by simp only [S11_3, code, Try.f11, Option.getD_some, Code.fst, Code.snd, Code.bin, Code.lin, Code.sin, Code.yes, Code.no]; exact rfl⟩ : PLift (S11_3 = _))
theorem L11_2_wp {ts : List AVal} {st : ASt} {Q : APost} (h : Wp E 11 S11_3 ts st Q) : Wp E 11 L11_2 ts st Q := by
  have e : ∀ n ts st, aexec E 11 (rw E) (drawB E 11) n L11_2 ts st = aexec E 11 (rw E) (drawB E 11) n (S11_3) ts st := by
    intro n ts st
    have e1 : L11_2 = (.seq (code Try.f11).snd.snd.snd.snd.snd.snd.fst.snd.bin.lin.snd.snd.fst.bin.snd.snd.snd.snd.fst.snd.bin.lin.fst (.seq (code Try.f11).snd.snd.snd.snd.snd.snd.fst.snd.bin.lin.snd.snd.fst.bin.snd.snd.snd.snd.fst.snd.bin.lin.snd.fst (.seq (code Try.f11).snd.snd.snd.snd.snd.snd.fst.snd.bin.lin.snd.snd.fst.bin.snd.snd.snd.snd.fst.snd.bin.lin.snd.snd.fst (code Try.f11).snd.snd.snd.snd.snd.snd.fst.snd.bin.lin.snd.snd.fst.bin.snd.snd.snd.snd.fst.snd.bin.lin.snd.snd.snd))) := rfl
    rw [e1] <;>
    simp only [S11_3, aexec_seq, aseq_assoc]
  refine aw_congr e ?_
  exact h
noncomputable def S11_4 : Code := (code Try.f11).snd.snd.snd.snd.snd.snd.fst.snd.bin.lin.snd.snd.fst.bin.snd.snd.snd.snd.snd.fst
noncomputable def S11_4_e := (⟨by simp only [S11_4, code, Try.f11, Option.getD_some, Code.fst, Code.snd, Code.bin, Code.lin, Code.sin, Code.yes, Code.no]; exact rfl⟩ : PLift (S11_4 = _))
noncomputable def L11_3 : Code := (code Try.f11).snd.snd.snd.snd.snd.snd.fst.snd.bin.lin.snd.snd.fst.bin.snd.snd.snd.snd.snd.snd.bin.lin
noncomputable def S11_5 : Code := .seq ((code Try.f11).snd.snd.snd.snd.snd.snd.fst.snd.bin.lin.snd.snd.fst.bin.snd.snd.snd.snd.snd.snd.bin.lin.fst) (.seq ((code Try.f11).snd.snd.snd.snd.snd.snd.fst.snd.bin.lin.snd.snd.fst.bin.snd.snd.snd.snd.snd.snd.bin.lin.snd.fst) (.seq ((code Try.f11).snd.snd.snd.snd.snd.snd.fst.snd.bin.lin.snd.snd.fst.bin.snd.snd.snd.snd.snd.snd.bin.lin.snd.snd.fst) ((code Try.f11).snd.snd.snd.snd.snd.snd.fst.snd.bin.lin.snd.snd.fst.bin.snd.snd.snd.snd.snd.snd.bin.lin.snd.snd.snd)))
noncomputable def S11_5_e := (⟨by simp only [S11_5, code, Try.f11, Option.getD_some, Code.fst, Code.snd, Code.bin, Code.lin, Code.sin, Code.yes, Code.no]; exact rfl⟩ : PLift (S11_5 = _))
theorem L11_3_wp {ts : List AVal} {st : ASt} {Q : APost} (h : Wp E 11 S11_5 ts st Q) : Wp E 11 L11_3 ts st Q := by
  have e : ∀ n ts st, aexec E 11 (rw E) (drawB E 11) n L11_3 ts st = aexec E 11 (rw E) (drawB E 11) n (S11_5) ts st := by
    intro n ts st
    have e1 : L11_3 = (.seq (code Try.f11).snd.snd.snd.snd.snd.snd.fst.snd.bin.lin.snd.snd.fst.bin.snd.snd.snd.snd.snd.snd.bin.lin.fst (.seq (code Try.f11).snd.snd.snd.snd.snd.snd.fst.snd.bin.lin.snd.snd.fst.bin.snd.snd.snd.snd.snd.snd.bin.lin.snd.fst (.seq (code Try.f11).snd.snd.snd.snd.snd.snd.fst.snd.bin.lin.snd.snd.fst.bin.snd.snd.snd.snd.snd.snd.bin.lin.snd.snd.fst (code Try.f11).snd.snd.snd.snd.snd.snd.fst.snd.bin.lin.snd.snd.fst.bin.snd.snd.snd.snd.snd.snd.bin.lin.snd.snd.snd))) := rfl
    rw [e1] <;>
    simp only [S11_5, aexec_seq, aseq_assoc]
  refine aw_congr e ?_
  exact h
theorem B11_1_wp {ts : List AVal} {st : ASt} {Q : APost} (h : Wp E 11 S11_2 ts st (Nx (fun ts st => Wp E 11 (.block 2 (.loop L11_2)) ts st (Nx (fun ts st => Wp E 11 S11_4 ts st (Nx (fun ts st => Wp E 11 (.block 4 (.loop L11_3)) ts st Q) Q)) Q)) Q)) : Wp E 11 B11_1 ts st Q := by
  have e : ∀ n ts st, aexec E 11 (rw E) (drawB E 11) n B11_1 ts st = aexec E 11 (rw E) (drawB E 11) n (.seq S11_2 (.seq (.block 2 (.loop L11_2)) (.seq S11_4 ((.block 4 (.loop L11_3)))))) ts st := by
    intro n ts st
    have e1 : B11_1 = (.seq (code Try.f11).snd.snd.snd.snd.snd.snd.fst.snd.bin.lin.snd.snd.fst.bin.fst (.seq (.seq (code Try.f11).snd.snd.snd.snd.snd.snd.fst.snd.bin.lin.snd.snd.fst.bin.snd.fst.fst (code Try.f11).snd.snd.snd.snd.snd.snd.fst.snd.bin.lin.snd.snd.fst.bin.snd.fst.snd) (.seq (code Try.f11).snd.snd.snd.snd.snd.snd.fst.snd.bin.lin.snd.snd.fst.bin.snd.snd.fst (.seq (code Try.f11).snd.snd.snd.snd.snd.snd.fst.snd.bin.lin.snd.snd.fst.bin.snd.snd.snd.fst (.seq (.seq (code Try.f11).snd.snd.snd.snd.snd.snd.fst.snd.bin.lin.snd.snd.fst.bin.snd.snd.snd.snd.fst.fst (.block 2 (.loop L11_2))) (.seq (code Try.f11).snd.snd.snd.snd.snd.snd.fst.snd.bin.lin.snd.snd.fst.bin.snd.snd.snd.snd.snd.fst (.block 4 (.loop L11_3)))))))) := rfl
    rw [e1] <;>
    simp only [S11_2, S11_4, aexec_seq, aseq_assoc]
  refine aw_congr e ?_
  have h0 := h
  exact aw_seq (h0.mono fun e ts st hq => by cases e <;> first | exact hq | (have h1 := hq; exact aw_seq (h1.mono fun e ts st hq => by cases e <;> first | exact hq | (have h2 := hq; exact aw_seq h2))))
noncomputable def S11_6 : Code := (code Try.f11).snd.snd.snd.snd.snd.snd.fst.snd.bin.lin.snd.snd.snd
noncomputable def S11_6_e := (⟨by simp only [S11_6, code, Try.f11, Option.getD_some, Code.fst, Code.snd, Code.bin, Code.lin, Code.sin, Code.yes, Code.no]; exact rfl⟩ : PLift (S11_6 = _))
theorem L11_0_wp {ts : List AVal} {st : ASt} {Q : APost} (h : Wp E 11 S11_1 ts st (Nx (fun ts st => Wp E 11 (.block 1 B11_1) ts st (Nx (fun ts st => Wp E 11 S11_6 ts st Q) Q)) Q)) : Wp E 11 L11_0 ts st Q := by
  have e : ∀ n ts st, aexec E 11 (rw E) (drawB E 11) n L11_0 ts st = aexec E 11 (rw E) (drawB E 11) n (.seq S11_1 (.seq (.block 1 B11_1) (S11_6))) ts st := by
    intro n ts st
    have e1 : L11_0 = (.seq (code Try.f11).snd.snd.snd.snd.snd.snd.fst.snd.bin.lin.fst (.seq (code Try.f11).snd.snd.snd.snd.snd.snd.fst.snd.bin.lin.snd.fst (.seq (.block 1 B11_1) (code Try.f11).snd.snd.snd.snd.snd.snd.fst.snd.bin.lin.snd.snd.snd))) := rfl
    rw [e1] <;>
    simp only [S11_1, S11_6, aexec_seq, aseq_assoc]
  refine aw_congr e ?_
  have h0 := h
  exact aw_seq (h0.mono fun e ts st hq => by cases e <;> first | exact hq | (have h1 := hq; exact aw_seq h1))
noncomputable def S11_7 : Code := .seq ((code Try.f11).snd.snd.snd.snd.snd.snd.snd.fst) ((code Try.f11).snd.snd.snd.snd.snd.snd.snd.snd)
noncomputable def S11_7_e := (⟨by simp only [S11_7, code, Try.f11, Option.getD_some, Code.fst, Code.snd, Code.bin, Code.lin, Code.sin, Code.yes, Code.no]; exact rfl⟩ : PLift (S11_7 = _))
theorem C11_wp {ts : List AVal} {st : ASt} {Q : APost} (h : Wp E 11 S11_0 ts st (Nx (fun ts st => Wp E 11 (.block 0 (.loop L11_0)) ts st (Nx (fun ts st => Wp E 11 S11_7 ts st Q) Q)) Q)) : Wp E 11 C11 ts st Q := by
  have e : ∀ n ts st, aexec E 11 (rw E) (drawB E 11) n C11 ts st = aexec E 11 (rw E) (drawB E 11) n (.seq S11_0 (.seq (.block 0 (.loop L11_0)) (S11_7))) ts st := by
    intro n ts st
    have e1 : C11 = (.seq (code Try.f11).fst (.seq (.seq (code Try.f11).snd.fst.fst (code Try.f11).snd.fst.snd) (.seq (.seq (code Try.f11).snd.snd.fst.fst (code Try.f11).snd.snd.fst.snd) (.seq (code Try.f11).snd.snd.snd.fst (.seq (code Try.f11).snd.snd.snd.snd.fst (.seq (.seq (code Try.f11).snd.snd.snd.snd.snd.fst.fst (code Try.f11).snd.snd.snd.snd.snd.fst.snd) (.seq (.seq (code Try.f11).snd.snd.snd.snd.snd.snd.fst.fst (.block 0 (.loop L11_0))) (.seq (code Try.f11).snd.snd.snd.snd.snd.snd.snd.fst (code Try.f11).snd.snd.snd.snd.snd.snd.snd.snd)))))))) := rfl
    rw [e1] <;>
    simp only [S11_0, S11_7, aexec_seq, aseq_assoc]
  refine aw_congr e ?_
  have h0 := h
  exact aw_seq (h0.mono fun e ts st hq => by cases e <;> first | exact hq | (have h1 := hq; exact aw_seq h1))
theorem ce_11 {x0 x1 : AVal} {st : ASt} {r : AEnd × ASt} (h : ∀ g : Nat → AVal, g 0 = x0 → g 1 = x1 → Wp E 11 C11 (Sl 107 g) st (fun e ts st => aend E Try.f11 (some (e, ts, st)) = some r)) : rw E 11 [x0, x1] st = some r :=
  ce_of (fn := Try.f11) (c := C11) rfl rfl rfl (Nat.le_of_ble_eq_true rfl) fun g hg => h g (hg 0 x0 rfl) (hg 1 x1 rfl)
theorem cx_11 {x0 x1 : AVal} {st : ASt} {R : AEnd → ASt → Prop} (h : ∀ g : Nat → AVal, g 0 = x0 → g 1 = x1 → Wp E 11 C11 (Sl 107 g) st (fun e ts st => ∃ r st', aend E Try.f11 (some (e, ts, st)) = some (r, st') ∧ R r st')) : ∃ r st', rw E 11 [x0, x1] st = some (r, st') ∧ R r st' :=
  cx_of (fn := Try.f11) (c := C11) rfl rfl rfl (Nat.le_of_ble_eq_true rfl) fun g hg => h g (hg 0 x0 rfl) (hg 1 x1 rfl)
theorem o_leni_47 (mt : Bool) (ty : TypeId) (cs : Array Bool) (sz : Nat) (es : List AVal) (c : Cap) (st : ASt) : builtinA E.P mt .len #[47] ty cs [.islice sz es c] st = some (.val (.lit (.int .i64 es.length)) st) := rfl
theorem o_lens_47 (mt : Bool) (ty : TypeId) (cs : Array Bool) (s o l sz : Nat) (c : Option Nat) (st : ASt) : builtinA E.P mt .len #[47] ty cs [.slice s o l sz c] st = some (.val (.lit (.int .i64 l)) st) := rfl
theorem o_lenn_47 (mt : Bool) (ty : TypeId) (cs : Array Bool) (a : Option Addr) (st : ASt) : builtinA E.P mt .len #[47] ty cs [.lit (.slice a 0 0)] st = some (.val (.lit (.int .i64 0)) st) := len_nil rfl _ _ _ _ _
end Go.Proofs.YtcaokdlmolnbaaaV
