/- What walks through these functions need: pieces of their code, single operations reckoned. No condition. -/
import Derived.Test.YtcaokdlmolnbaaaEA
import Derived.Test.YtcaokdlmolnbaaaAF
namespace Go.Proofs.YtcaokdlmolnbaaaV
open Go Go.RowKit Go.Proofs.YtcaokdlmolnbaaaA
set_option linter.unusedVariables false
set_option linter.unusedSimpArgs false
set_option maxRecDepth 100000

/-! ### braidwork/event.New$1 -/
noncomputable def C32 : Code := (code Try.f32)
noncomputable def S32_0 : Code := .seq ((code Try.f32).fst) (.seq ((code Try.f32).snd.fst) ((code Try.f32).snd.snd))
noncomputable def S32_0_e := (⟨by simp only [S32_0, code, Try.f32, Option.getD_some, Code.fst, Code.snd, Code.bin, Code.lin, Code.sin, Code.yes, Code.no]; exact rfl⟩ : PLift (S32_0 = _))
theorem C32_wp {ts : List AVal} {st : ASt} {Q : APost} (h : Wp E 32 S32_0 ts st Q) : Wp E 32 C32 ts st Q := by
  have e : ∀ n ts st, aexec E 32 (rw E) (drawB E 32) n C32 ts st = aexec E 32 (rw E) (drawB E 32) n (S32_0) ts st := by
    intro n ts st
    have e1 : C32 = (.seq (code Try.f32).fst (.seq (code Try.f32).snd.fst (code Try.f32).snd.snd)) := rfl
    rw [e1] <;>
    simp only [S32_0, aexec_seq, aseq_assoc]
  refine aw_congr e ?_
  exact h
theorem ce_32 {x0 : AVal} {st : ASt} {r : AEnd × ASt} (h : ∀ g : Nat → AVal, g 0 = x0 → Wp E 32 C32 (Sl 9 g) st (fun e ts st => aend E Try.f32 (some (e, ts, st)) = some r)) : rw E 32 [x0] st = some r :=
  ce_of (fn := Try.f32) (c := C32) rfl rfl rfl (Nat.le_of_ble_eq_true rfl) fun g hg => h g (hg 0 x0 rfl)
theorem cx_32 {x0 : AVal} {st : ASt} {R : AEnd → ASt → Prop} (h : ∀ g : Nat → AVal, g 0 = x0 → Wp E 32 C32 (Sl 9 g) st (fun e ts st => ∃ r st', aend E Try.f32 (some (e, ts, st)) = some (r, st') ∧ R r st')) : ∃ r st', rw E 32 [x0] st = some (r, st') ∧ R r st' :=
  cx_of (fn := Try.f32) (c := C32) rfl rfl rfl (Nat.le_of_ble_eq_true rfl) fun g hg => h g (hg 0 x0 rfl)
theorem o_fap_40_0 (s o : Nat) : fieldA E.P 40 (.ptr s o) 0 = some (.ptr s (o + 0)) := rfl
theorem o_fai_40_0 (cs : List AVal) : fieldA E.P 40 (.iptr (.agg cs)) 0 = (cs[0]?).map .iptr := rfl
theorem o_ldp_3 (st : ASt) (s o : Nat) : loadA E.P 3 st (.ptr s o) = (blkOf (st.heap s)).bind (fun cs => cs[o]?) := ld_one rfl rfl st s o
theorem o_ldi_3 (st : ASt) (v : AVal) : loadA E.P 3 st (.iptr v) = if v.isCell = true then some v else none := rfl

/-! ### braidwork/event.New$2 -/
noncomputable def C34 : Code := (code Try.f34)
noncomputable def S34_0 : Code := .seq ((code Try.f34).fst) (.seq ((code Try.f34).snd.fst) ((code Try.f34).snd.snd))
noncomputable def S34_0_e := (⟨by simp only [S34_0, code, Try.f34, Option.getD_some, Code.fst, Code.snd, Code.bin, Code.lin, Code.sin, Code.yes, Code.no]; exact rfl⟩ : PLift (S34_0 = _))
theorem C34_wp {ts : List AVal} {st : ASt} {Q : APost} (h : Wp E 34 S34_0 ts st Q) : Wp E 34 C34 ts st Q := by
  have e : ∀ n ts st, aexec E 34 (rw E) (drawB E 34) n C34 ts st = aexec E 34 (rw E) (drawB E 34) n (S34_0) ts st := by
    intro n ts st
    have e1 : C34 = (.seq (code Try.f34).fst (.seq (code Try.f34).snd.fst (code Try.f34).snd.snd)) := rfl
    rw [e1] <;>
    simp only [S34_0, aexec_seq, aseq_assoc]
  refine aw_congr e ?_
  exact h
theorem ce_34 {x0 x1 : AVal} {st : ASt} {r : AEnd × ASt} (h : ∀ g : Nat → AVal, g 0 = x0 → g 1 = x1 → Wp E 34 C34 (Sl 10 g) st (fun e ts st => aend E Try.f34 (some (e, ts, st)) = some r)) : rw E 34 [x0, x1] st = some r :=
  ce_of (fn := Try.f34) (c := C34) rfl rfl rfl (Nat.le_of_ble_eq_true rfl) fun g hg => h g (hg 0 x0 rfl) (hg 1 x1 rfl)
theorem cx_34 {x0 x1 : AVal} {st : ASt} {R : AEnd → ASt → Prop} (h : ∀ g : Nat → AVal, g 0 = x0 → g 1 = x1 → Wp E 34 C34 (Sl 10 g) st (fun e ts st => ∃ r st', aend E Try.f34 (some (e, ts, st)) = some (r, st') ∧ R r st')) : ∃ r st', rw E 34 [x0, x1] st = some (r, st') ∧ R r st' :=
  cx_of (fn := Try.f34) (c := C34) rfl rfl rfl (Nat.le_of_ble_eq_true rfl) fun g hg => h g (hg 0 x0 rfl) (hg 1 x1 rfl)
theorem cf_35 (a : List AVal) (st : ASt) : callFuncA E.P 35 a st = some (.enter 35 a st) := rfl

/-! ### cmp.Compare[int] -/
noncomputable def C35 : Code := (code Try.f35)
noncomputable def S35_0 : Code := .seq ((code Try.f35).fst) (.seq ((code Try.f35).snd.fst) (.seq ((code Try.f35).snd.snd.fst) (.seq ((code Try.f35).snd.snd.snd.fst.fst) (.seq ((code Try.f35).snd.snd.snd.fst.snd) (.seq ((code Try.f35).snd.snd.snd.snd.fst.fst) (.seq ((code Try.f35).snd.snd.snd.snd.fst.snd) (.seq ((code Try.f35).snd.snd.snd.snd.snd.fst.fst) (.seq ((code Try.f35).snd.snd.snd.snd.snd.fst.snd) (.seq ((code Try.f35).snd.snd.snd.snd.snd.snd.fst.fst) (.seq ((code Try.f35).snd.snd.snd.snd.snd.snd.fst.snd) (.seq ((code Try.f35).snd.snd.snd.snd.snd.snd.snd.fst) ((code Try.f35).snd.snd.snd.snd.snd.snd.snd.snd))))))))))))
noncomputable def S35_0_e := (⟨by simp only [S35_0, code, Try.f35, Option.getD_some, Code.fst, Code.snd, Code.bin, Code.lin, Code.sin, Code.yes, Code.no]; exact rfl⟩ : PLift (S35_0 = _))
theorem C35_wp {ts : List AVal} {st : ASt} {Q : APost} (h : Wp E 35 S35_0 ts st Q) : Wp E 35 C35 ts st Q := by
  have e : ∀ n ts st, aexec E 35 (rw E) (drawB E 35) n C35 ts st = aexec E 35 (rw E) (drawB E 35) n (S35_0) ts st := by
    intro n ts st
    have e1 : C35 = (.seq (code Try.f35).fst (.seq (code Try.f35).snd.fst (.seq (code Try.f35).snd.snd.fst (.seq (.seq (code Try.f35).snd.snd.snd.fst.fst (code Try.f35).snd.snd.snd.fst.snd) (.seq (.seq (code Try.f35).snd.snd.snd.snd.fst.fst (code Try.f35).snd.snd.snd.snd.fst.snd) (.seq (.seq (code Try.f35).snd.snd.snd.snd.snd.fst.fst (code Try.f35).snd.snd.snd.snd.snd.fst.snd) (.seq (.seq (code Try.f35).snd.snd.snd.snd.snd.snd.fst.fst (code Try.f35).snd.snd.snd.snd.snd.snd.fst.snd) (.seq (code Try.f35).snd.snd.snd.snd.snd.snd.snd.fst (code Try.f35).snd.snd.snd.snd.snd.snd.snd.snd)))))))) := rfl
    rw [e1] <;>
    simp only [S35_0, aexec_seq, aseq_assoc]
  refine aw_congr e ?_
  exact h
theorem ce_35 {x0 x1 : AVal} {st : ASt} {r : AEnd × ASt} (h : ∀ g : Nat → AVal, g 0 = x0 → g 1 = x1 → Wp E 35 C35 (Sl 20 g) st (fun e ts st => aend E Try.f35 (some (e, ts, st)) = some r)) : rw E 35 [x0, x1] st = some r :=
  ce_of (fn := Try.f35) (c := C35) rfl rfl rfl (Nat.le_of_ble_eq_true rfl) fun g hg => h g (hg 0 x0 rfl) (hg 1 x1 rfl)
theorem cx_35 {x0 x1 : AVal} {st : ASt} {R : AEnd → ASt → Prop} (h : ∀ g : Nat → AVal, g 0 = x0 → g 1 = x1 → Wp E 35 C35 (Sl 20 g) st (fun e ts st => ∃ r st', aend E Try.f35 (some (e, ts, st)) = some (r, st') ∧ R r st')) : ∃ r st', rw E 35 [x0, x1] st = some (r, st') ∧ R r st' :=
  cx_of (fn := Try.f35) (c := C35) rfl rfl rfl (Nat.le_of_ble_eq_true rfl) fun g hg => h g (hg 0 x0 rfl) (hg 1 x1 rfl)
theorem cf_39 (a : List AVal) (st : ASt) : callFuncA E.P 39 a st = some (.enter 39 a st) := rfl

/-! ### cmp.isNaN[int] -/
noncomputable def C39 : Code := (code Try.f39)
noncomputable def S39_0 : Code := .seq ((code Try.f39).fst) (.seq ((code Try.f39).snd.fst) ((code Try.f39).snd.snd))
noncomputable def S39_0_e := (⟨by simp only [S39_0, code, Try.f39, Option.getD_some, Code.fst, Code.snd, Code.bin, Code.lin, Code.sin, Code.yes, Code.no]; exact rfl⟩ : PLift (S39_0 = _))
theorem C39_wp {ts : List AVal} {st : ASt} {Q : APost} (h : Wp E 39 S39_0 ts st Q) : Wp E 39 C39 ts st Q := by
  have e : ∀ n ts st, aexec E 39 (rw E) (drawB E 39) n C39 ts st = aexec E 39 (rw E) (drawB E 39) n (S39_0) ts st := by
    intro n ts st
    have e1 : C39 = (.seq (code Try.f39).fst (.seq (code Try.f39).snd.fst (code Try.f39).snd.snd)) := rfl
    rw [e1] <;>
    simp only [S39_0, aexec_seq, aseq_assoc]
  refine aw_congr e ?_
  exact h
theorem ce_39 {x0 : AVal} {st : ASt} {r : AEnd × ASt} (h : ∀ g : Nat → AVal, g 0 = x0 → Wp E 39 C39 (Sl 6 g) st (fun e ts st => aend E Try.f39 (some (e, ts, st)) = some r)) : rw E 39 [x0] st = some r :=
  ce_of (fn := Try.f39) (c := C39) rfl rfl rfl (Nat.le_of_ble_eq_true rfl) fun g hg => h g (hg 0 x0 rfl)
theorem cx_39 {x0 : AVal} {st : ASt} {R : AEnd → ASt → Prop} (h : ∀ g : Nat → AVal, g 0 = x0 → Wp E 39 C39 (Sl 6 g) st (fun e ts st => ∃ r st', aend E Try.f39 (some (e, ts, st)) = some (r, st') ∧ R r st')) : ∃ r st', rw E 39 [x0] st = some (r, st') ∧ R r st' :=
  cx_of (fn := Try.f39) (c := C39) rfl rfl rfl (Nat.le_of_ble_eq_true rfl) fun g hg => h g (hg 0 x0 rfl)

/-! ### slices.insertionSortCmpFunc[braidwork/event.Mark] -/
noncomputable def C40 : Code := (code Try.f40)
noncomputable def S40_0 : Code := (code Try.f40).fst
noncomputable def S40_0_e := (⟨by simp only [S40_0, code, Try.f40, Option.getD_some, Code.fst, Code.snd, Code.bin, Code.lin, Code.sin, Code.yes, Code.no]; exact rfl⟩ : PLift (S40_0 = _))
noncomputable def L40_0 : Code := (code Try.f40).snd.bin.lin
noncomputable def S40_1 : Code := .seq ((code Try.f40).snd.bin.lin.fst.fst) ((code Try.f40).snd.bin.lin.fst.snd)
noncomputable def S40_1_e := (⟨by simp only [S40_1, code, Try.f40, Option.getD_some, Code.fst, Code.snd, Code.bin, Code.lin, Code.sin, Code.yes, Code.no]; exact rfl⟩ : PLift (S40_1 = _))
noncomputable def B40_1 : Code := (code Try.f40).snd.bin.lin.snd.fst.bin
noncomputable def S40_2 : Code := (code Try.f40).snd.bin.lin.snd.fst.bin.fst
noncomputable def S40_2_e := (⟨by simp only [S40_2, code, Try.f40, Option.getD_some, Code.fst, Code.snd, Code.bin, Code.lin, Code.sin, Code.yes, Code.no]; exact rfl⟩ : PLift (S40_2 = _))
noncomputable def L40_2 : Code := (code Try.f40).snd.bin.lin.snd.fst.bin.snd.bin.lin
noncomputable def rg40_4 : Code := (code Try.f40).snd.bin.lin.snd.fst.bin.snd.bin.lin.fst.fst
noncomputable def rq40_4 : Code := (code Try.f40).snd.bin.lin.snd.fst.bin.snd.bin.lin.fst.fst
theorem ex40_4 (call : ACall) (n : Nat) (ts : List AVal) (st : ASt) : aexec E 40 call (drawB E 40) n rg40_4 ts st = aops E 40 call rq40_4.ops rq40_4.ops.toList ts st := by
  have d : drawB E 40 rq40_4.ops = true := by kernel_rfl
  have e : rg40_4 = .region 4 rq40_4.ops true := rfl
  rw [e, aexec, d]; rfl
noncomputable def rq40_4_e := (⟨by simp only [rq40_4, code, Try.f40, Option.getD_some, Code.fst, Code.snd, Code.bin, Code.lin, Code.sin, Code.yes, Code.no, Code.ops]; exact rfl⟩ : PLift (rq40_4.ops = _))
noncomputable def rg40_6 : Code := (code Try.f40).snd.bin.lin.snd.fst.bin.snd.bin.lin.snd.fst.bin
noncomputable def rq40_6 : Code := (code Try.f40).snd.bin.lin.snd.fst.bin.snd.bin.lin.snd.fst.bin
theorem ex40_6 (call : ACall) (n : Nat) (ts : List AVal) (st : ASt) : aexec E 40 call (drawB E 40) n rg40_6 ts st = aopsP E 40 call rq40_6.ops [.one 0 [], .one 1 [], .one 2 [], .one 3 [], .one 4 [], .one 5 [], .one 6 [], .one 7 [], .one 8 [], .one 9 [], .one 10 [], .one 11 [], .one 12 [], .one 13 [], .one 14 [], .one 15 [], .one 16 [], .one 17 []] ts st := by
  have d : drawB E 40 rq40_6.ops = false := by kernel_rfl
  have d2 : drawPlan E 40 rq40_6.ops = some [.one 0 [], .one 1 [], .one 2 [], .one 3 [], .one 4 [], .one 5 [], .one 6 [], .one 7 [], .one 8 [], .one 9 [], .one 10 [], .one 11 [], .one 12 [], .one 13 [], .one 14 [], .one 15 [], .one 16 [], .one 17 []] := by kernel_rfl
  have e : rg40_6 = .region 6 rq40_6.ops true := rfl
  rw [e, aexec, d, d2]; rfl
noncomputable def rq40_6_e := (⟨by simp only [rq40_6, code, Try.f40, Option.getD_some, Code.fst, Code.snd, Code.bin, Code.lin, Code.sin, Code.yes, Code.no, Code.ops]; exact rfl⟩ : PLift (rq40_6.ops = _))
noncomputable def S40_3 : Code := .seq (rg40_4) (.seq ((code Try.f40).snd.bin.lin.snd.fst.bin.snd.bin.lin.fst.snd) (.seq (.block 3 rg40_6) ((code Try.f40).snd.bin.lin.snd.fst.bin.snd.bin.lin.snd.snd)))
noncomputable def S40_3_e := (⟨by simp only [S40_3, code, Try.f40, Option.getD_some, Code.fst, Code.snd, Code.bin, Code.lin, Code.sin, Code.yes, Code.no]; exact rfl⟩ : PLift (S40_3 = _))
theorem L40_2_wp {ts : List AVal} {st : ASt} {Q : APost} (h : Wp E 40 S40_3 ts st Q) : Wp E 40 L40_2 ts st Q := by
  have e : ∀ n ts st, aexec E 40 (rw E) (drawB E 40) n L40_2 ts st = aexec E 40 (rw E) (drawB E 40) n (S40_3) ts st := by
    intro n ts st
    have e1 : L40_2 = (.seq (.seq rg40_4 (code Try.f40).snd.bin.lin.snd.fst.bin.snd.bin.lin.fst.snd) (.seq (.block 3 rg40_6) (code Try.f40).snd.bin.lin.snd.fst.bin.snd.bin.lin.snd.snd)) := rfl
    rw [e1] <;>
    simp only [S40_3, aexec_seq, aseq_assoc]
  refine aw_congr e ?_
  exact h
theorem B40_1_wp {ts : List AVal} {st : ASt} {Q : APost} (h : Wp E 40 S40_2 ts st (Nx (fun ts st => Wp E 40 (.block 2 (.loop L40_2)) ts st Q) Q)) : Wp E 40 B40_1 ts st Q := by
  have e : ∀ n ts st, aexec E 40 (rw E) (drawB E 40) n B40_1 ts st = aexec E 40 (rw E) (drawB E 40) n (.seq S40_2 ((.block 2 (.loop L40_2)))) ts st := by
    intro n ts st
    have e1 : B40_1 = (.seq (code Try.f40).snd.bin.lin.snd.fst.bin.fst (.block 2 (.loop L40_2))) := rfl
    rw [e1] <;>
    simp only [S40_2, aexec_seq, aseq_assoc]
  refine aw_congr e ?_
  have h0 := h
  exact aw_seq h0
noncomputable def S40_4 : Code := (code Try.f40).snd.bin.lin.snd.snd
noncomputable def S40_4_e := (⟨by simp only [S40_4, code, Try.f40, Option.getD_some, Code.fst, Code.snd, Code.bin, Code.lin, Code.sin, Code.yes, Code.no]; exact rfl⟩ : PLift (S40_4 = _))
theorem L40_0_wp {ts : List AVal} {st : ASt} {Q : APost} (h : Wp E 40 S40_1 ts st (Nx (fun ts st => Wp E 40 (.block 1 B40_1) ts st (Nx (fun ts st => Wp E 40 S40_4 ts st Q) Q)) Q)) : Wp E 40 L40_0 ts st Q := by
  have e : ∀ n ts st, aexec E 40 (rw E) (drawB E 40) n L40_0 ts st = aexec E 40 (rw E) (drawB E 40) n (.seq S40_1 (.seq (.block 1 B40_1) (S40_4))) ts st := by
    intro n ts st
    have e1 : L40_0 = (.seq (.seq (code Try.f40).snd.bin.lin.fst.fst (code Try.f40).snd.bin.lin.fst.snd) (.seq (.block 1 B40_1) (code Try.f40).snd.bin.lin.snd.snd)) := rfl
    rw [e1] <;>
    simp only [S40_1, S40_4, aexec_seq, aseq_assoc]
  refine aw_congr e ?_
  have h0 := h
  exact aw_seq (h0.mono fun e ts st hq => by cases e <;> first | exact hq | (have h1 := hq; exact aw_seq h1))
theorem C40_wp {ts : List AVal} {st : ASt} {Q : APost} (h : Wp E 40 S40_0 ts st (Nx (fun ts st => Wp E 40 (.block 0 (.loop L40_0)) ts st Q) Q)) : Wp E 40 C40 ts st Q := by
  have e : ∀ n ts st, aexec E 40 (rw E) (drawB E 40) n C40 ts st = aexec E 40 (rw E) (drawB E 40) n (.seq S40_0 ((.block 0 (.loop L40_0)))) ts st := by
    intro n ts st
    have e1 : C40 = (.seq (code Try.f40).fst (.block 0 (.loop L40_0))) := rfl
    rw [e1] <;>
    simp only [S40_0, aexec_seq, aseq_assoc]
  refine aw_congr e ?_
  have h0 := h
  exact aw_seq h0
theorem ce_40 {x0 x1 x2 x3 : AVal} {st : ASt} {r : AEnd × ASt} (h : ∀ g : Nat → AVal, g 0 = x0 → g 1 = x1 → g 2 = x2 → g 3 = x3 → Wp E 40 C40 (Sl 53 g) st (fun e ts st => aend E Try.f40 (some (e, ts, st)) = some r)) : rw E 40 [x0, x1, x2, x3] st = some r :=
  ce_of (fn := Try.f40) (c := C40) rfl rfl rfl (Nat.le_of_ble_eq_true rfl) fun g hg => h g (hg 0 x0 rfl) (hg 1 x1 rfl) (hg 2 x2 rfl) (hg 3 x3 rfl)
theorem cx_40 {x0 x1 x2 x3 : AVal} {st : ASt} {R : AEnd → ASt → Prop} (h : ∀ g : Nat → AVal, g 0 = x0 → g 1 = x1 → g 2 = x2 → g 3 = x3 → Wp E 40 C40 (Sl 53 g) st (fun e ts st => ∃ r st', aend E Try.f40 (some (e, ts, st)) = some (r, st') ∧ R r st')) : ∃ r st', rw E 40 [x0, x1, x2, x3] st = some (r, st') ∧ R r st' :=
  cx_of (fn := Try.f40) (c := C40) rfl rfl rfl (Nat.le_of_ble_eq_true rfl) fun g hg => h g (hg 0 x0 rfl) (hg 1 x1 rfl) (hg 2 x2 rfl) (hg 3 x3 rfl)
theorem o_ixi_29 (sz : Nat) (es : List AVal) (c : Cap) (k : IntKind) (i : Int) : indexA E.P 29 (.islice sz es c) (.lit (.int k i)) = if 0 ≤ i ∧ i < es.length ∧ some 2 = some sz then (es[i.toNat]?).map .iptr else none := rfl
theorem o_ixs_29 (s o l sz : Nat) (c : Option Nat) (k : IntKind) (i : Int) : indexA E.P 29 (.slice s o l sz c) (.lit (.int k i)) = if 0 ≤ i ∧ i < l then some (.ptr s (o + i.toNat * 2)) else none := rfl
theorem o_ldp_40 (st : ASt) (s o : Nat) : loadA E.P 40 st (.ptr s o) = (blkOf (st.heap s)).bind (fun cs => if o + 2 ≤ cs.length then some (.agg ((cs.drop o).take 2)) else none) := ld_agg rfl rfl st s o
theorem o_ldi_40 (st : ASt) (cs : List AVal) : loadA E.P 40 st (.iptr (.agg cs)) = if cs.length = 2 then some (.agg cs) else none := rfl
theorem o_st_40 (st : ASt) (s o : Nat) (vs : List AVal) : storeA E.P 40 st (.ptr s o) (.agg vs) = (blkOf (st.heap s)).bind (fun cs => if vs.length = 2 ∧ o + vs.length ≤ cs.length ∧ vs.all AVal.isCell = true then some (st.set s (some (.cells (putL cs o vs)))) else none) := st_agg rfl st s o vs

/-! ### slices.siftDownCmpFunc[braidwork/event.Mark] -/
noncomputable def C50 : Code := (code Try.f50)
noncomputable def S50_0 : Code := (code Try.f50).fst
noncomputable def S50_0_e := (⟨by simp only [S50_0, code, Try.f50, Option.getD_some, Code.fst, Code.snd, Code.bin, Code.lin, Code.sin, Code.yes, Code.no]; exact rfl⟩ : PLift (S50_0 = _))
noncomputable def L50_0 : Code := (code Try.f50).snd.bin.lin
noncomputable def rg50_3 : Code := (code Try.f50).snd.bin.lin.bin.snd.snd.fst.fst
noncomputable def rq50_3 : Code := (code Try.f50).snd.bin.lin.bin.snd.snd.fst.fst
theorem ex50_3 (call : ACall) (n : Nat) (ts : List AVal) (st : ASt) : aexec E 50 call (drawB E 50) n rg50_3 ts st = aops E 50 call rq50_3.ops rq50_3.ops.toList ts st := by
  have d : drawB E 50 rq50_3.ops = true := by kernel_rfl
  have e : rg50_3 = .region 3 rq50_3.ops true := rfl
  rw [e, aexec, d]; rfl
noncomputable def rq50_3_e := (⟨by simp only [rq50_3, code, Try.f50, Option.getD_some, Code.fst, Code.snd, Code.bin, Code.lin, Code.sin, Code.yes, Code.no, Code.ops]; exact rfl⟩ : PLift (rq50_3.ops = _))
noncomputable def rg50_5 : Code := (code Try.f50).snd.bin.lin.bin.snd.snd.snd.fst.fst
noncomputable def rq50_5 : Code := (code Try.f50).snd.bin.lin.bin.snd.snd.snd.fst.fst
theorem ex50_5 (call : ACall) (n : Nat) (ts : List AVal) (st : ASt) : aexec E 50 call (drawB E 50) n rg50_5 ts st = aops E 50 call rq50_5.ops rq50_5.ops.toList ts st := by
  have d : drawB E 50 rq50_5.ops = true := by kernel_rfl
  have e : rg50_5 = .region 5 rq50_5.ops true := rfl
  rw [e, aexec, d]; rfl
noncomputable def rq50_5_e := (⟨by simp only [rq50_5, code, Try.f50, Option.getD_some, Code.fst, Code.snd, Code.bin, Code.lin, Code.sin, Code.yes, Code.no, Code.ops]; exact rfl⟩ : PLift (rq50_5.ops = _))
noncomputable def rg50_6 : Code := (code Try.f50).snd.bin.lin.bin.snd.snd.snd.snd.fst
noncomputable def rq50_6 : Code := (code Try.f50).snd.bin.lin.bin.snd.snd.snd.snd.fst
theorem ex50_6 (call : ACall) (n : Nat) (ts : List AVal) (st : ASt) : aexec E 50 call (drawB E 50) n rg50_6 ts st = aopsP E 50 call rq50_6.ops [.one 0 [], .one 1 [], .one 2 [], .one 3 [], .one 4 [], .one 5 [], .one 6 [], .one 7 [], .one 8 [], .one 9 [], .one 10 [], .one 11 [], .one 12 [], .one 13 [], .one 14 [], .one 15 [], .one 16 [], .one 17 [], .one 18 [], .one 19 [], .one 20 [], .one 21 [], .one 22 [], .one 23 []] ts st := by
  have d : drawB E 50 rq50_6.ops = false := by kernel_rfl
  have d2 : drawPlan E 50 rq50_6.ops = some [.one 0 [], .one 1 [], .one 2 [], .one 3 [], .one 4 [], .one 5 [], .one 6 [], .one 7 [], .one 8 [], .one 9 [], .one 10 [], .one 11 [], .one 12 [], .one 13 [], .one 14 [], .one 15 [], .one 16 [], .one 17 [], .one 18 [], .one 19 [], .one 20 [], .one 21 [], .one 22 [], .one 23 []] := by kernel_rfl
  have e : rg50_6 = .region 6 rq50_6.ops true := rfl
  rw [e, aexec, d, d2]; rfl
noncomputable def rq50_6_e := (⟨by simp only [rq50_6, code, Try.f50, Option.getD_some, Code.fst, Code.snd, Code.bin, Code.lin, Code.sin, Code.yes, Code.no, Code.ops]; exact rfl⟩ : PLift (rq50_6.ops = _))
noncomputable def S50_1 : Code := (.block 1 (.seq (code Try.f50).snd.bin.lin.bin.fst (.seq (code Try.f50).snd.bin.lin.bin.snd.fst (.seq (.seq rg50_3 (code Try.f50).snd.bin.lin.bin.snd.snd.fst.snd) (.seq (.seq rg50_5 (code Try.f50).snd.bin.lin.bin.snd.snd.snd.fst.snd) (.seq rg50_6 (code Try.f50).snd.bin.lin.bin.snd.snd.snd.snd.snd))))))
noncomputable def S50_1_e := (⟨by simp only [S50_1, code, Try.f50, Option.getD_some, Code.fst, Code.snd, Code.bin, Code.lin, Code.sin, Code.yes, Code.no]; exact rfl⟩ : PLift (S50_1 = _))
theorem L50_0_wp {ts : List AVal} {st : ASt} {Q : APost} (h : Wp E 50 S50_1 ts st Q) : Wp E 50 L50_0 ts st Q := by
  have e : ∀ n ts st, aexec E 50 (rw E) (drawB E 50) n L50_0 ts st = aexec E 50 (rw E) (drawB E 50) n (S50_1) ts st := by
    intro n ts st
    have e1 : L50_0 = (.block 1 (.seq (code Try.f50).snd.bin.lin.bin.fst (.seq (code Try.f50).snd.bin.lin.bin.snd.fst (.seq (.seq rg50_3 (code Try.f50).snd.bin.lin.bin.snd.snd.fst.snd) (.seq (.seq rg50_5 (code Try.f50).snd.bin.lin.bin.snd.snd.snd.fst.snd) (.seq rg50_6 (code Try.f50).snd.bin.lin.bin.snd.snd.snd.snd.snd)))))) := rfl
    rw [e1] <;>
    simp only [S50_1, aexec_seq, aseq_assoc]
  refine aw_congr e ?_
  exact h
theorem C50_wp {ts : List AVal} {st : ASt} {Q : APost} (h : Wp E 50 S50_0 ts st (Nx (fun ts st => Wp E 50 (.block 0 (.loop L50_0)) ts st Q) Q)) : Wp E 50 C50 ts st Q := by
  have e : ∀ n ts st, aexec E 50 (rw E) (drawB E 50) n C50 ts st = aexec E 50 (rw E) (drawB E 50) n (.seq S50_0 ((.block 0 (.loop L50_0)))) ts st := by
    intro n ts st
    have e1 : C50 = (.seq (code Try.f50).fst (.block 0 (.loop L50_0))) := rfl
    rw [e1] <;>
    simp only [S50_0, aexec_seq, aseq_assoc]
  refine aw_congr e ?_
  have h0 := h
  exact aw_seq h0
theorem ce_50 {x0 x1 x2 x3 x4 : AVal} {st : ASt} {r : AEnd × ASt} (h : ∀ g : Nat → AVal, g 0 = x0 → g 1 = x1 → g 2 = x2 → g 3 = x3 → g 4 = x4 → Wp E 50 C50 (Sl 82 g) st (fun e ts st => aend E Try.f50 (some (e, ts, st)) = some r)) : rw E 50 [x0, x1, x2, x3, x4] st = some r :=
  ce_of (fn := Try.f50) (c := C50) rfl rfl rfl (Nat.le_of_ble_eq_true rfl) fun g hg => h g (hg 0 x0 rfl) (hg 1 x1 rfl) (hg 2 x2 rfl) (hg 3 x3 rfl) (hg 4 x4 rfl)
theorem cx_50 {x0 x1 x2 x3 x4 : AVal} {st : ASt} {R : AEnd → ASt → Prop} (h : ∀ g : Nat → AVal, g 0 = x0 → g 1 = x1 → g 2 = x2 → g 3 = x3 → g 4 = x4 → Wp E 50 C50 (Sl 82 g) st (fun e ts st => ∃ r st', aend E Try.f50 (some (e, ts, st)) = some (r, st') ∧ R r st')) : ∃ r st', rw E 50 [x0, x1, x2, x3, x4] st = some (r, st') ∧ R r st' :=
  cx_of (fn := Try.f50) (c := C50) rfl rfl rfl (Nat.le_of_ble_eq_true rfl) fun g hg => h g (hg 0 x0 rfl) (hg 1 x1 rfl) (hg 2 x2 rfl) (hg 3 x3 rfl) (hg 4 x4 rfl)

/-! ### slices.heapSortCmpFunc[braidwork/event.Mark] -/
noncomputable def C41 : Code := (code Try.f41)
noncomputable def S41_0 : Code := .seq ((code Try.f41).fst) (.seq ((code Try.f41).snd.fst) (.seq ((code Try.f41).snd.snd.fst) ((code Try.f41).snd.snd.snd.fst.fst)))
noncomputable def S41_0_e := (⟨by simp only [S41_0, code, Try.f41, Option.getD_some, Code.fst, Code.snd, Code.bin, Code.lin, Code.sin, Code.yes, Code.no]; exact rfl⟩ : PLift (S41_0 = _))
noncomputable def L41_0 : Code := (code Try.f41).snd.snd.snd.fst.snd.bin.lin
noncomputable def S41_1 : Code := .seq ((code Try.f41).snd.snd.snd.fst.snd.bin.lin.fst.fst) (.seq ((code Try.f41).snd.snd.snd.fst.snd.bin.lin.fst.snd) (.seq ((code Try.f41).snd.snd.snd.fst.snd.bin.lin.snd.fst) ((code Try.f41).snd.snd.snd.fst.snd.bin.lin.snd.snd)))
noncomputable def S41_1_e := (⟨by simp only [S41_1, code, Try.f41, Option.getD_some, Code.fst, Code.snd, Code.bin, Code.lin, Code.sin, Code.yes, Code.no]; exact rfl⟩ : PLift (S41_1 = _))
theorem L41_0_wp {ts : List AVal} {st : ASt} {Q : APost} (h : Wp E 41 S41_1 ts st Q) : Wp E 41 L41_0 ts st Q := by
  have e : ∀ n ts st, aexec E 41 (rw E) (drawB E 41) n L41_0 ts st = aexec E 41 (rw E) (drawB E 41) n (S41_1) ts st := by
    intro n ts st
    have e1 : L41_0 = (.seq (.seq (code Try.f41).snd.snd.snd.fst.snd.bin.lin.fst.fst (code Try.f41).snd.snd.snd.fst.snd.bin.lin.fst.snd) (.seq (code Try.f41).snd.snd.snd.fst.snd.bin.lin.snd.fst (code Try.f41).snd.snd.snd.fst.snd.bin.lin.snd.snd)) := rfl
    rw [e1] <;>
    simp only [S41_1, aexec_seq, aseq_assoc]
  refine aw_congr e ?_
  exact h
noncomputable def S41_2 : Code := (code Try.f41).snd.snd.snd.snd.fst
noncomputable def S41_2_e := (⟨by simp only [S41_2, code, Try.f41, Option.getD_some, Code.fst, Code.snd, Code.bin, Code.lin, Code.sin, Code.yes, Code.no]; exact rfl⟩ : PLift (S41_2 = _))
noncomputable def L41_1 : Code := (code Try.f41).snd.snd.snd.snd.snd.bin.lin
noncomputable def rg41_10 : Code := (code Try.f41).snd.snd.snd.snd.snd.bin.lin.snd.fst.bin.fst
noncomputable def rq41_10 : Code := (code Try.f41).snd.snd.snd.snd.snd.bin.lin.snd.fst.bin.fst
theorem ex41_10 (call : ACall) (n : Nat) (ts : List AVal) (st : ASt) : aexec E 41 call (drawB E 41) n rg41_10 ts st = aopsP E 41 call rq41_10.ops [.one 0 [], .one 1 [], .one 2 [], .one 3 [], .one 4 [], .one 5 [], .one 6 [], .one 7 [], .one 8 [], .one 9 [], .one 10 [], .one 11 [], .one 12 [], .one 13 [], .one 14 [], .one 15 [], .one 16 [], .one 17 [], .one 18 [], .one 19 []] ts st := by
  have d : drawB E 41 rq41_10.ops = false := by kernel_rfl
  have d2 : drawPlan E 41 rq41_10.ops = some [.one 0 [], .one 1 [], .one 2 [], .one 3 [], .one 4 [], .one 5 [], .one 6 [], .one 7 [], .one 8 [], .one 9 [], .one 10 [], .one 11 [], .one 12 [], .one 13 [], .one 14 [], .one 15 [], .one 16 [], .one 17 [], .one 18 [], .one 19 []] := by kernel_rfl
  have e : rg41_10 = .region 10 rq41_10.ops true := rfl
  rw [e, aexec, d, d2]; rfl
noncomputable def rq41_10_e := (⟨by simp only [rq41_10, code, Try.f41, Option.getD_some, Code.fst, Code.snd, Code.bin, Code.lin, Code.sin, Code.yes, Code.no, Code.ops]; exact rfl⟩ : PLift (rq41_10.ops = _))
noncomputable def S41_3 : Code := .seq ((code Try.f41).snd.snd.snd.snd.snd.bin.lin.fst.fst) (.seq ((code Try.f41).snd.snd.snd.snd.snd.bin.lin.fst.snd) (.seq (.block 3 (.seq rg41_10 (code Try.f41).snd.snd.snd.snd.snd.bin.lin.snd.fst.bin.snd)) ((code Try.f41).snd.snd.snd.snd.snd.bin.lin.snd.snd)))
noncomputable def S41_3_e := (⟨by simp only [S41_3, code, Try.f41, Option.getD_some, Code.fst, Code.snd, Code.bin, Code.lin, Code.sin, Code.yes, Code.no]; exact rfl⟩ : PLift (S41_3 = _))
theorem L41_1_wp {ts : List AVal} {st : ASt} {Q : APost} (h : Wp E 41 S41_3 ts st Q) : Wp E 41 L41_1 ts st Q := by
  have e : ∀ n ts st, aexec E 41 (rw E) (drawB E 41) n L41_1 ts st = aexec E 41 (rw E) (drawB E 41) n (S41_3) ts st := by
    intro n ts st
    have e1 : L41_1 = (.seq (.seq (code Try.f41).snd.snd.snd.snd.snd.bin.lin.fst.fst (code Try.f41).snd.snd.snd.snd.snd.bin.lin.fst.snd) (.seq (.block 3 (.seq rg41_10 (code Try.f41).snd.snd.snd.snd.snd.bin.lin.snd.fst.bin.snd)) (code Try.f41).snd.snd.snd.snd.snd.bin.lin.snd.snd)) := rfl
    rw [e1] <;>
    simp only [S41_3, aexec_seq, aseq_assoc]
  refine aw_congr e ?_
  exact h
theorem C41_wp {ts : List AVal} {st : ASt} {Q : APost} (h : Wp E 41 S41_0 ts st (Nx (fun ts st => Wp E 41 (.block 0 (.loop L41_0)) ts st (Nx (fun ts st => Wp E 41 S41_2 ts st (Nx (fun ts st => Wp E 41 (.block 2 (.loop L41_1)) ts st Q) Q)) Q)) Q)) : Wp E 41 C41 ts st Q := by
  have e : ∀ n ts st, aexec E 41 (rw E) (drawB E 41) n C41 ts st = aexec E 41 (rw E) (drawB E 41) n (.seq S41_0 (.seq (.block 0 (.loop L41_0)) (.seq S41_2 ((.block 2 (.loop L41_1)))))) ts st := by
    intro n ts st
    have e1 : C41 = (.seq (code Try.f41).fst (.seq (code Try.f41).snd.fst (.seq (code Try.f41).snd.snd.fst (.seq (.seq (code Try.f41).snd.snd.snd.fst.fst (.block 0 (.loop L41_0))) (.seq (code Try.f41).snd.snd.snd.snd.fst (.block 2 (.loop L41_1))))))) := rfl
    rw [e1] <;>
    simp only [S41_0, S41_2, aexec_seq, aseq_assoc]
  refine aw_congr e ?_
  have h0 := h
  exact aw_seq (h0.mono fun e ts st hq => by cases e <;> first | exact hq | (have h1 := hq; exact aw_seq (h1.mono fun e ts st hq => by cases e <;> first | exact hq | (have h2 := hq; exact aw_seq h2))))
theorem ce_41 {x0 x1 x2 x3 : AVal} {st : ASt} {r : AEnd × ASt} (h : ∀ g : Nat → AVal, g 0 = x0 → g 1 = x1 → g 2 = x2 → g 3 = x3 → Wp E 41 C41 (Sl 60 g) st (fun e ts st => aend E Try.f41 (some (e, ts, st)) = some r)) : rw E 41 [x0, x1, x2, x3] st = some r :=
  ce_of (fn := Try.f41) (c := C41) rfl rfl rfl (Nat.le_of_ble_eq_true rfl) fun g hg => h g (hg 0 x0 rfl) (hg 1 x1 rfl) (hg 2 x2 rfl) (hg 3 x3 rfl)
theorem cx_41 {x0 x1 x2 x3 : AVal} {st : ASt} {R : AEnd → ASt → Prop} (h : ∀ g : Nat → AVal, g 0 = x0 → g 1 = x1 → g 2 = x2 → g 3 = x3 → Wp E 41 C41 (Sl 60 g) st (fun e ts st => ∃ r st', aend E Try.f41 (some (e, ts, st)) = some (r, st') ∧ R r st')) : ∃ r st', rw E 41 [x0, x1, x2, x3] st = some (r, st') ∧ R r st' :=
  cx_of (fn := Try.f41) (c := C41) rfl rfl rfl (Nat.le_of_ble_eq_true rfl) fun g hg => h g (hg 0 x0 rfl) (hg 1 x1 rfl) (hg 2 x2 rfl) (hg 3 x3 rfl)
theorem cf_50 (a : List AVal) (st : ASt) : callFuncA E.P 50 a st = some (.enter 50 a st) := rfl

/-! ### slices.breakPatternsCmpFunc[braidwork/event.Mark] -/
noncomputable def C42 : Code := (code Try.f42)
noncomputable def S42_0 : Code := .seq ((code Try.f42).fst) ((code Try.f42).snd.fst)
noncomputable def S42_0_e := (⟨by simp only [S42_0, code, Try.f42, Option.getD_some, Code.fst, Code.snd, Code.bin, Code.lin, Code.sin, Code.yes, Code.no]; exact rfl⟩ : PLift (S42_0 = _))
noncomputable def Y42_0 : Code := (code Try.f42).snd.snd.yes
noncomputable def S42_1 : Code := .seq ((code Try.f42).snd.snd.yes.fst) (.seq ((code Try.f42).snd.snd.yes.snd.fst) ((code Try.f42).snd.snd.yes.snd.snd.fst))
noncomputable def S42_1_e := (⟨by simp only [S42_1, code, Try.f42, Option.getD_some, Code.fst, Code.snd, Code.bin, Code.lin, Code.sin, Code.yes, Code.no]; exact rfl⟩ : PLift (S42_1 = _))
noncomputable def L42_1 : Code := (code Try.f42).snd.snd.yes.snd.snd.snd.bin.lin
noncomputable def rg42_10 : Code := (code Try.f42).snd.snd.yes.snd.snd.snd.bin.lin.snd.fst.bin.snd.snd
noncomputable def rq42_10 : Code := (code Try.f42).snd.snd.yes.snd.snd.snd.bin.lin.snd.fst.bin.snd.snd
theorem ex42_10 (call : ACall) (n : Nat) (ts : List AVal) (st : ASt) : aexec E 42 call (drawB E 42) n rg42_10 ts st = aopsP E 42 call rq42_10.ops [.one 0 [], .one 1 [], .one 2 [], .one 3 [], .one 4 [], .one 5 [], .one 6 [], .one 7 [], .one 8 [], .one 9 [], .one 10 [], .one 11 [], .one 12 [], .one 13 [], .one 14 [], .one 15 [], .one 16 [], .one 17 [], .one 18 [], .one 19 []] ts st := by
  have d : drawB E 42 rq42_10.ops = false := by kernel_rfl
  have d2 : drawPlan E 42 rq42_10.ops = some [.one 0 [], .one 1 [], .one 2 [], .one 3 [], .one 4 [], .one 5 [], .one 6 [], .one 7 [], .one 8 [], .one 9 [], .one 10 [], .one 11 [], .one 12 [], .one 13 [], .one 14 [], .one 15 [], .one 16 [], .one 17 [], .one 18 [], .one 19 []] := by kernel_rfl
  have e : rg42_10 = .region 10 rq42_10.ops true := rfl
  rw [e, aexec, d, d2]; rfl
noncomputable def rq42_10_e := (⟨by simp only [rq42_10, code, Try.f42, Option.getD_some, Code.fst, Code.snd, Code.bin, Code.lin, Code.sin, Code.yes, Code.no, Code.ops]; exact rfl⟩ : PLift (rq42_10.ops = _))
noncomputable def S42_2 : Code := .seq ((code Try.f42).snd.snd.yes.snd.snd.snd.bin.lin.fst.fst) (.seq ((code Try.f42).snd.snd.yes.snd.snd.snd.bin.lin.fst.snd) (.seq (.block 1 (.seq (code Try.f42).snd.snd.yes.snd.snd.snd.bin.lin.snd.fst.bin.fst (.seq (code Try.f42).snd.snd.yes.snd.snd.snd.bin.lin.snd.fst.bin.snd.fst rg42_10))) ((code Try.f42).snd.snd.yes.snd.snd.snd.bin.lin.snd.snd)))
noncomputable def S42_2_e := (⟨by simp only [S42_2, code, Try.f42, Option.getD_some, Code.fst, Code.snd, Code.bin, Code.lin, Code.sin, Code.yes, Code.no]; exact rfl⟩ : PLift (S42_2 = _))
theorem L42_1_wp {ts : List AVal} {st : ASt} {Q : APost} (h : Wp E 42 S42_2 ts st Q) : Wp E 42 L42_1 ts st Q := by
  have e : ∀ n ts st, aexec E 42 (rw E) (drawB E 42) n L42_1 ts st = aexec E 42 (rw E) (drawB E 42) n (S42_2) ts st := by
    intro n ts st
    have e1 : L42_1 = (.seq (.seq (code Try.f42).snd.snd.yes.snd.snd.snd.bin.lin.fst.fst (code Try.f42).snd.snd.yes.snd.snd.snd.bin.lin.fst.snd) (.seq (.block 1 (.seq (code Try.f42).snd.snd.yes.snd.snd.snd.bin.lin.snd.fst.bin.fst (.seq (code Try.f42).snd.snd.yes.snd.snd.snd.bin.lin.snd.fst.bin.snd.fst rg42_10))) (code Try.f42).snd.snd.yes.snd.snd.snd.bin.lin.snd.snd)) := rfl
    rw [e1] <;>
    simp only [S42_2, aexec_seq, aseq_assoc]
  refine aw_congr e ?_
  exact h
theorem Y42_0_wp {ts : List AVal} {st : ASt} {Q : APost} (h : Wp E 42 S42_1 ts st (Nx (fun ts st => Wp E 42 (.block 0 (.loop L42_1)) ts st Q) Q)) : Wp E 42 Y42_0 ts st Q := by
  have e : ∀ n ts st, aexec E 42 (rw E) (drawB E 42) n Y42_0 ts st = aexec E 42 (rw E) (drawB E 42) n (.seq S42_1 ((.block 0 (.loop L42_1)))) ts st := by
    intro n ts st
    have e1 : Y42_0 = (.seq (code Try.f42).snd.snd.yes.fst (.seq (code Try.f42).snd.snd.yes.snd.fst (.seq (code Try.f42).snd.snd.yes.snd.snd.fst (.block 0 (.loop L42_1))))) := rfl
    rw [e1] <;>
    simp only [S42_1, aexec_seq, aseq_assoc]
  refine aw_congr e ?_
  have h0 := h
  exact aw_seq h0
noncomputable def N42_0 : Code := (code Try.f42).snd.snd.no
noncomputable def S42_3 : Code := (code Try.f42).snd.snd.no
noncomputable def S42_3_e := (⟨by simp only [S42_3, code, Try.f42, Option.getD_some, Code.fst, Code.snd, Code.bin, Code.lin, Code.sin, Code.yes, Code.no]; exact rfl⟩ : PLift (S42_3 = _))
theorem N42_0_wp {ts : List AVal} {st : ASt} {Q : APost} (h : Wp E 42 S42_3 ts st Q) : Wp E 42 N42_0 ts st Q := by
  have e : ∀ n ts st, aexec E 42 (rw E) (drawB E 42) n N42_0 ts st = aexec E 42 (rw E) (drawB E 42) n (S42_3) ts st := by
    intro n ts st
    have e1 : N42_0 = (code Try.f42).snd.snd.no := rfl
    rw [e1] <;>
    simp only [S42_3, aexec_seq, aseq_assoc]
  refine aw_congr e ?_
  exact h
theorem C42_wp {ts : List AVal} {st : ASt} {Q : APost} (h : Wp E 42 S42_0 ts st (Nx (fun ts st => Wp E 42 (.cond (.tmp 17) Y42_0 N42_0) ts st Q) Q)) : Wp E 42 C42 ts st Q := by
  have e : ∀ n ts st, aexec E 42 (rw E) (drawB E 42) n C42 ts st = aexec E 42 (rw E) (drawB E 42) n (.seq S42_0 ((.cond (.tmp 17) Y42_0 N42_0))) ts st := by
    intro n ts st
    have e1 : C42 = (.seq (code Try.f42).fst (.seq (code Try.f42).snd.fst (.cond (.tmp 17) Y42_0 N42_0))) := rfl
    rw [e1] <;>
    simp only [S42_0, aexec_seq, aseq_assoc]
  refine aw_congr e ?_
  have h0 := h
  exact aw_seq h0
theorem ce_42 {x0 x1 x2 x3 : AVal} {st : ASt} {r : AEnd × ASt} (h : ∀ g : Nat → AVal, g 0 = x0 → g 1 = x1 → g 2 = x2 → g 3 = x3 → Wp E 42 C42 (Sl 67 g) st (fun e ts st => aend E Try.f42 (some (e, ts, st)) = some r)) : rw E 42 [x0, x1, x2, x3] st = some r :=
  ce_of (fn := Try.f42) (c := C42) rfl rfl rfl (Nat.le_of_ble_eq_true rfl) fun g hg => h g (hg 0 x0 rfl) (hg 1 x1 rfl) (hg 2 x2 rfl) (hg 3 x3 rfl)
theorem cx_42 {x0 x1 x2 x3 : AVal} {st : ASt} {R : AEnd → ASt → Prop} (h : ∀ g : Nat → AVal, g 0 = x0 → g 1 = x1 → g 2 = x2 → g 3 = x3 → Wp E 42 C42 (Sl 67 g) st (fun e ts st => ∃ r st', aend E Try.f42 (some (e, ts, st)) = some (r, st') ∧ R r st')) : ∃ r st', rw E 42 [x0, x1, x2, x3] st = some (r, st') ∧ R r st' :=
  cx_of (fn := Try.f42) (c := C42) rfl rfl rfl (Nat.le_of_ble_eq_true rfl) fun g hg => h g (hg 0 x0 rfl) (hg 1 x1 rfl) (hg 2 x2 rfl) (hg 3 x3 rfl)
theorem o_cv_3_86 (mt : Bool) (n : Int) (st : ASt) : convA E.P mt 3 86 (.lit (.int .i64 n)) st = some (.lit (.int .u64 (IntKind.u64.wrap n)), st) := c_int rfl rfl
theorem o_al_86 (st : ASt) : allocA E.P 86 st = some (.ptr st.ctr 0, st.new (.cells [.lit (.int .u64 0)])) := rfl
theorem o_st_86 (st : ASt) (s o : Nat) (v : AVal) : storeA E.P 86 st (.ptr s o) v = if v.isCell = true then (blkOf (st.heap s)).bind (fun cs => if o + 1 ≤ cs.length then some (st.set s (some (.cells (cs.set o v)))) else none) else storeU E.P 86 st (.ptr s o) v := st_one rfl st s o v
theorem cf_51 (a : List AVal) (st : ASt) : callFuncA E.P 51 a st = some (.enter 51 a st) := rfl
theorem cf_52 (a : List AVal) (st : ASt) : callFuncA E.P 52 a st = some (.enter 52 a st) := rfl
theorem o_cv_72_3 (mt : Bool) (n : Int) (st : ASt) : convA E.P mt 72 3 (.lit (.int .u64 n)) st = some (.lit (.int .i64 (IntKind.i64.wrap n)), st) := c_int rfl rfl

/-! ### slices.choosePivotCmpFunc[braidwork/event.Mark] -/
noncomputable def C43 : Code := (code Try.f43)
noncomputable def S43_0 : Code := .seq ((code Try.f43).fst) (.seq ((code Try.f43).snd.fst) (.seq ((code Try.f43).snd.snd.fst) (.seq ((code Try.f43).snd.snd.snd.fst) (.seq ((code Try.f43).snd.snd.snd.snd.fst) (.seq ((code Try.f43).snd.snd.snd.snd.snd.fst) (.seq ((code Try.f43).snd.snd.snd.snd.snd.snd.fst.fst) (.seq ((code Try.f43).snd.snd.snd.snd.snd.snd.fst.snd) (.seq ((code Try.f43).snd.snd.snd.snd.snd.snd.snd.fst) ((code Try.f43).snd.snd.snd.snd.snd.snd.snd.snd)))))))))
noncomputable def S43_0_e := (⟨by simp only [S43_0, code, Try.f43, Option.getD_some, Code.fst, Code.snd, Code.bin, Code.lin, Code.sin, Code.yes, Code.no]; exact rfl⟩ : PLift (S43_0 = _))
theorem C43_wp {ts : List AVal} {st : ASt} {Q : APost} (h : Wp E 43 S43_0 ts st Q) : Wp E 43 C43 ts st Q := by
  have e : ∀ n ts st, aexec E 43 (rw E) (drawB E 43) n C43 ts st = aexec E 43 (rw E) (drawB E 43) n (S43_0) ts st := by
    intro n ts st
    have e1 : C43 = (.seq (code Try.f43).fst (.seq (code Try.f43).snd.fst (.seq (code Try.f43).snd.snd.fst (.seq (code Try.f43).snd.snd.snd.fst (.seq (code Try.f43).snd.snd.snd.snd.fst (.seq (code Try.f43).snd.snd.snd.snd.snd.fst (.seq (.seq (code Try.f43).snd.snd.snd.snd.snd.snd.fst.fst (code Try.f43).snd.snd.snd.snd.snd.snd.fst.snd) (.seq (code Try.f43).snd.snd.snd.snd.snd.snd.snd.fst (code Try.f43).snd.snd.snd.snd.snd.snd.snd.snd)))))))) := rfl
    rw [e1] <;>
    simp only [S43_0, aexec_seq, aseq_assoc]
  refine aw_congr e ?_
  exact h
theorem ce_43 {x0 x1 x2 x3 : AVal} {st : ASt} {r : AEnd × ASt} (h : ∀ g : Nat → AVal, g 0 = x0 → g 1 = x1 → g 2 = x2 → g 3 = x3 → Wp E 43 C43 (Sl 63 g) st (fun e ts st => aend E Try.f43 (some (e, ts, st)) = some r)) : rw E 43 [x0, x1, x2, x3] st = some r :=
  ce_of (fn := Try.f43) (c := C43) rfl rfl rfl (Nat.le_of_ble_eq_true rfl) fun g hg => h g (hg 0 x0 rfl) (hg 1 x1 rfl) (hg 2 x2 rfl) (hg 3 x3 rfl)
theorem cx_43 {x0 x1 x2 x3 : AVal} {st : ASt} {R : AEnd → ASt → Prop} (h : ∀ g : Nat → AVal, g 0 = x0 → g 1 = x1 → g 2 = x2 → g 3 = x3 → Wp E 43 C43 (Sl 63 g) st (fun e ts st => ∃ r st', aend E Try.f43 (some (e, ts, st)) = some (r, st') ∧ R r st')) : ∃ r st', rw E 43 [x0, x1, x2, x3] st = some (r, st') ∧ R r st' :=
  cx_of (fn := Try.f43) (c := C43) rfl rfl rfl (Nat.le_of_ble_eq_true rfl) fun g hg => h g (hg 0 x0 rfl) (hg 1 x1 rfl) (hg 2 x2 rfl) (hg 3 x3 rfl)
theorem o_al_3 (st : ASt) : allocA E.P 3 st = some (.ptr st.ctr 0, st.new (.cells [.lit (.int .i64 0)])) := rfl
theorem cf_53 (a : List AVal) (st : ASt) : callFuncA E.P 53 a st = some (.enter 53 a st) := rfl
theorem cf_54 (a : List AVal) (st : ASt) : callFuncA E.P 54 a st = some (.enter 54 a st) := rfl

/-! ### slices.reverseRangeCmpFunc[braidwork/event.Mark] -/
noncomputable def C44 : Code := (code Try.f44)
noncomputable def S44_0 : Code := .seq ((code Try.f44).fst) ((code Try.f44).snd.fst)
noncomputable def S44_0_e := (⟨by simp only [S44_0, code, Try.f44, Option.getD_some, Code.fst, Code.snd, Code.bin, Code.lin, Code.sin, Code.yes, Code.no]; exact rfl⟩ : PLift (S44_0 = _))
noncomputable def L44_0 : Code := (code Try.f44).snd.snd.bin.lin
noncomputable def rg44_3 : Code := (code Try.f44).snd.snd.bin.lin.snd.bin.fst
noncomputable def rq44_3 : Code := (code Try.f44).snd.snd.bin.lin.snd.bin.fst
theorem ex44_3 (call : ACall) (n : Nat) (ts : List AVal) (st : ASt) : aexec E 44 call (drawB E 44) n rg44_3 ts st = aopsP E 44 call rq44_3.ops [.one 0 [], .one 1 [], .one 2 [], .one 3 [], .one 4 [], .one 5 [], .one 6 [], .one 7 [], .one 8 [], .one 9 [], .one 10 [], .one 11 [], .one 12 [], .one 13 [], .one 14 [], .one 15 []] ts st := by
  have d : drawB E 44 rq44_3.ops = false := by kernel_rfl
  have d2 : drawPlan E 44 rq44_3.ops = some [.one 0 [], .one 1 [], .one 2 [], .one 3 [], .one 4 [], .one 5 [], .one 6 [], .one 7 [], .one 8 [], .one 9 [], .one 10 [], .one 11 [], .one 12 [], .one 13 [], .one 14 [], .one 15 []] := by kernel_rfl
  have e : rg44_3 = .region 3 rq44_3.ops true := rfl
  rw [e, aexec, d, d2]; rfl
noncomputable def rq44_3_e := (⟨by simp only [rq44_3, code, Try.f44, Option.getD_some, Code.fst, Code.snd, Code.bin, Code.lin, Code.sin, Code.yes, Code.no, Code.ops]; exact rfl⟩ : PLift (rq44_3.ops = _))
noncomputable def S44_1 : Code := .seq ((code Try.f44).snd.snd.bin.lin.fst.fst) (.seq ((code Try.f44).snd.snd.bin.lin.fst.snd) (.block 1 (.seq rg44_3 (code Try.f44).snd.snd.bin.lin.snd.bin.snd)))
noncomputable def S44_1_e := (⟨by simp only [S44_1, code, Try.f44, Option.getD_some, Code.fst, Code.snd, Code.bin, Code.lin, Code.sin, Code.yes, Code.no]; exact rfl⟩ : PLift (S44_1 = _))
theorem L44_0_wp {ts : List AVal} {st : ASt} {Q : APost} (h : Wp E 44 S44_1 ts st Q) : Wp E 44 L44_0 ts st Q := by
  have e : ∀ n ts st, aexec E 44 (rw E) (drawB E 44) n L44_0 ts st = aexec E 44 (rw E) (drawB E 44) n (S44_1) ts st := by
    intro n ts st
    have e1 : L44_0 = (.seq (.seq (code Try.f44).snd.snd.bin.lin.fst.fst (code Try.f44).snd.snd.bin.lin.fst.snd) (.block 1 (.seq rg44_3 (code Try.f44).snd.snd.bin.lin.snd.bin.snd))) := rfl
    rw [e1] <;>
    simp only [S44_1, aexec_seq, aseq_assoc]
  refine aw_congr e ?_
  exact h
theorem C44_wp {ts : List AVal} {st : ASt} {Q : APost} (h : Wp E 44 S44_0 ts st (Nx (fun ts st => Wp E 44 (.block 0 (.loop L44_0)) ts st Q) Q)) : Wp E 44 C44 ts st Q := by
  have e : ∀ n ts st, aexec E 44 (rw E) (drawB E 44) n C44 ts st = aexec E 44 (rw E) (drawB E 44) n (.seq S44_0 ((.block 0 (.loop L44_0)))) ts st := by
    intro n ts st
    have e1 : C44 = (.seq (code Try.f44).fst (.seq (code Try.f44).snd.fst (.block 0 (.loop L44_0)))) := rfl
    rw [e1] <;>
    simp only [S44_0, aexec_seq, aseq_assoc]
  refine aw_congr e ?_
  have h0 := h
  exact aw_seq h0
theorem ce_44 {x0 x1 x2 x3 : AVal} {st : ASt} {r : AEnd × ASt} (h : ∀ g : Nat → AVal, g 0 = x0 → g 1 = x1 → g 2 = x2 → g 3 = x3 → Wp E 44 C44 (Sl 34 g) st (fun e ts st => aend E Try.f44 (some (e, ts, st)) = some r)) : rw E 44 [x0, x1, x2, x3] st = some r :=
  ce_of (fn := Try.f44) (c := C44) rfl rfl rfl (Nat.le_of_ble_eq_true rfl) fun g hg => h g (hg 0 x0 rfl) (hg 1 x1 rfl) (hg 2 x2 rfl) (hg 3 x3 rfl)
theorem cx_44 {x0 x1 x2 x3 : AVal} {st : ASt} {R : AEnd → ASt → Prop} (h : ∀ g : Nat → AVal, g 0 = x0 → g 1 = x1 → g 2 = x2 → g 3 = x3 → Wp E 44 C44 (Sl 34 g) st (fun e ts st => ∃ r st', aend E Try.f44 (some (e, ts, st)) = some (r, st') ∧ R r st')) : ∃ r st', rw E 44 [x0, x1, x2, x3] st = some (r, st') ∧ R r st' :=
  cx_of (fn := Try.f44) (c := C44) rfl rfl rfl (Nat.le_of_ble_eq_true rfl) fun g hg => h g (hg 0 x0 rfl) (hg 1 x1 rfl) (hg 2 x2 rfl) (hg 3 x3 rfl)

/-! ### slices.partialInsertionSortCmpFunc[braidwork/event.Mark] -/
noncomputable def C45 : Code := (code Try.f45)
noncomputable def S45_0 : Code := .seq ((code Try.f45).fst) (.seq ((code Try.f45).snd.fst) ((code Try.f45).snd.snd.fst.fst))
noncomputable def S45_0_e := (⟨by simp only [S45_0, code, Try.f45, Option.getD_some, Code.fst, Code.snd, Code.bin, Code.lin, Code.sin, Code.yes, Code.no]; exact rfl⟩ : PLift (S45_0 = _))
noncomputable def L45_0 : Code := (code Try.f45).snd.snd.fst.snd.bin.lin
noncomputable def S45_1 : Code := .seq ((code Try.f45).snd.snd.fst.snd.bin.lin.fst.fst) ((code Try.f45).snd.snd.fst.snd.bin.lin.fst.snd)
noncomputable def S45_1_e := (⟨by simp only [S45_1, code, Try.f45, Option.getD_some, Code.fst, Code.snd, Code.bin, Code.lin, Code.sin, Code.yes, Code.no]; exact rfl⟩ : PLift (S45_1 = _))
noncomputable def B45_1 : Code := (code Try.f45).snd.snd.fst.snd.bin.lin.snd.fst.bin
noncomputable def L45_2 : Code := (code Try.f45).snd.snd.fst.snd.bin.lin.snd.fst.bin.fst.bin.lin
noncomputable def rg45_5 : Code := (code Try.f45).snd.snd.fst.snd.bin.lin.snd.fst.bin.fst.bin.lin.fst.fst
noncomputable def rq45_5 : Code := (code Try.f45).snd.snd.fst.snd.bin.lin.snd.fst.bin.fst.bin.lin.fst.fst
theorem ex45_5 (call : ACall) (n : Nat) (ts : List AVal) (st : ASt) : aexec E 45 call (drawB E 45) n rg45_5 ts st = aops E 45 call rq45_5.ops rq45_5.ops.toList ts st := by
  have d : drawB E 45 rq45_5.ops = true := by kernel_rfl
  have e : rg45_5 = .region 5 rq45_5.ops true := rfl
  rw [e, aexec, d]; rfl
noncomputable def rq45_5_e := (⟨by simp only [rq45_5, code, Try.f45, Option.getD_some, Code.fst, Code.snd, Code.bin, Code.lin, Code.sin, Code.yes, Code.no, Code.ops]; exact rfl⟩ : PLift (rq45_5.ops = _))
noncomputable def S45_2 : Code := .seq (rg45_5) (.seq ((code Try.f45).snd.snd.fst.snd.bin.lin.snd.fst.bin.fst.bin.lin.fst.snd) ((code Try.f45).snd.snd.fst.snd.bin.lin.snd.fst.bin.fst.bin.lin.snd))
noncomputable def S45_2_e := (⟨by simp only [S45_2, code, Try.f45, Option.getD_some, Code.fst, Code.snd, Code.bin, Code.lin, Code.sin, Code.yes, Code.no]; exact rfl⟩ : PLift (S45_2 = _))
theorem L45_2_wp {ts : List AVal} {st : ASt} {Q : APost} (h : Wp E 45 S45_2 ts st Q) : Wp E 45 L45_2 ts st Q := by
  have e : ∀ n ts st, aexec E 45 (rw E) (drawB E 45) n L45_2 ts st = aexec E 45 (rw E) (drawB E 45) n (S45_2) ts st := by
    intro n ts st
    have e1 : L45_2 = (.seq (.seq rg45_5 (code Try.f45).snd.snd.fst.snd.bin.lin.snd.fst.bin.fst.bin.lin.fst.snd) (code Try.f45).snd.snd.fst.snd.bin.lin.snd.fst.bin.fst.bin.lin.snd) := rfl
    rw [e1] <;>
    simp only [S45_2, aexec_seq, aseq_assoc]
  refine aw_congr e ?_
  exact h
noncomputable def rg45_11 : Code := (code Try.f45).snd.snd.fst.snd.bin.lin.snd.fst.bin.snd.snd.snd.fst
noncomputable def rq45_11 : Code := (code Try.f45).snd.snd.fst.snd.bin.lin.snd.fst.bin.snd.snd.snd.fst
theorem ex45_11 (call : ACall) (n : Nat) (ts : List AVal) (st : ASt) : aexec E 45 call (drawB E 45) n rg45_11 ts st = aopsP E 45 call rq45_11.ops [.one 0 [], .one 1 [], .one 2 [], .one 3 [], .one 4 [], .one 5 [], .one 6 [], .one 7 [], .one 8 [], .one 9 [], .one 10 [], .one 11 [], .one 12 [], .one 13 [], .one 14 [], .one 15 [], .one 16 [], .one 17 []] ts st := by
  have d : drawB E 45 rq45_11.ops = false := by kernel_rfl
  have d2 : drawPlan E 45 rq45_11.ops = some [.one 0 [], .one 1 [], .one 2 [], .one 3 [], .one 4 [], .one 5 [], .one 6 [], .one 7 [], .one 8 [], .one 9 [], .one 10 [], .one 11 [], .one 12 [], .one 13 [], .one 14 [], .one 15 [], .one 16 [], .one 17 []] := by kernel_rfl
  have e : rg45_11 = .region 11 rq45_11.ops true := rfl
  rw [e, aexec, d, d2]; rfl
noncomputable def rq45_11_e := (⟨by simp only [rq45_11, code, Try.f45, Option.getD_some, Code.fst, Code.snd, Code.bin, Code.lin, Code.sin, Code.yes, Code.no, Code.ops]; exact rfl⟩ : PLift (rq45_11.ops = _))
noncomputable def S45_3 : Code := .seq ((code Try.f45).snd.snd.fst.snd.bin.lin.snd.fst.bin.snd.fst.fst) (.seq ((code Try.f45).snd.snd.fst.snd.bin.lin.snd.fst.bin.snd.fst.snd) (.seq ((code Try.f45).snd.snd.fst.snd.bin.lin.snd.fst.bin.snd.snd.fst.fst) (.seq ((code Try.f45).snd.snd.fst.snd.bin.lin.snd.fst.bin.snd.snd.fst.snd) (.seq (rg45_11) ((code Try.f45).snd.snd.fst.snd.bin.lin.snd.fst.bin.snd.snd.snd.snd.fst.fst)))))
noncomputable def S45_3_e := (⟨by simp only [S45_3, code, Try.f45, Option.getD_some, Code.fst, Code.snd, Code.bin, Code.lin, Code.sin, Code.yes, Code.no]; exact rfl⟩ : PLift (S45_3 = _))
noncomputable def Y45_3 : Code := (code Try.f45).snd.snd.fst.snd.bin.lin.snd.fst.bin.snd.snd.snd.snd.fst.snd.yes
noncomputable def S45_4 : Code := (code Try.f45).snd.snd.fst.snd.bin.lin.snd.fst.bin.snd.snd.snd.snd.fst.snd.yes.fst
noncomputable def S45_4_e := (⟨by simp only [S45_4, code, Try.f45, Option.getD_some, Code.fst, Code.snd, Code.bin, Code.lin, Code.sin, Code.yes, Code.no]; exact rfl⟩ : PLift (S45_4 = _))
noncomputable def L45_4 : Code := (code Try.f45).snd.snd.fst.snd.bin.lin.snd.fst.bin.snd.snd.snd.snd.fst.snd.yes.snd.bin.lin
noncomputable def rg45_16 : Code := (code Try.f45).snd.snd.fst.snd.bin.lin.snd.fst.bin.snd.snd.snd.snd.fst.snd.yes.snd.bin.lin.snd.fst.bin.fst.fst
noncomputable def rq45_16 : Code := (code Try.f45).snd.snd.fst.snd.bin.lin.snd.fst.bin.snd.snd.snd.snd.fst.snd.yes.snd.bin.lin.snd.fst.bin.fst.fst
theorem ex45_16 (call : ACall) (n : Nat) (ts : List AVal) (st : ASt) : aexec E 45 call (drawB E 45) n rg45_16 ts st = aops E 45 call rq45_16.ops rq45_16.ops.toList ts st := by
  have d : drawB E 45 rq45_16.ops = true := by kernel_rfl
  have e : rg45_16 = .region 16 rq45_16.ops true := rfl
  rw [e, aexec, d]; rfl
noncomputable def rq45_16_e := (⟨by simp only [rq45_16, code, Try.f45, Option.getD_some, Code.fst, Code.snd, Code.bin, Code.lin, Code.sin, Code.yes, Code.no, Code.ops]; exact rfl⟩ : PLift (rq45_16.ops = _))
noncomputable def rg45_17 : Code := (code Try.f45).snd.snd.fst.snd.bin.lin.snd.fst.bin.snd.snd.snd.snd.fst.snd.yes.snd.bin.lin.snd.fst.bin.snd
noncomputable def rq45_17 : Code := (code Try.f45).snd.snd.fst.snd.bin.lin.snd.fst.bin.snd.snd.snd.snd.fst.snd.yes.snd.bin.lin.snd.fst.bin.snd
theorem ex45_17 (call : ACall) (n : Nat) (ts : List AVal) (st : ASt) : aexec E 45 call (drawB E 45) n rg45_17 ts st = aopsP E 45 call rq45_17.ops [.one 0 [], .one 1 [], .one 2 [], .one 3 [], .one 4 [], .one 5 [], .one 6 [], .one 7 [], .one 8 [], .one 9 [], .one 10 [], .one 11 [], .one 12 [], .one 13 [], .one 14 [], .one 15 [], .one 16 [], .one 17 []] ts st := by
  have d : drawB E 45 rq45_17.ops = false := by kernel_rfl
  have d2 : drawPlan E 45 rq45_17.ops = some [.one 0 [], .one 1 [], .one 2 [], .one 3 [], .one 4 [], .one 5 [], .one 6 [], .one 7 [], .one 8 [], .one 9 [], .one 10 [], .one 11 [], .one 12 [], .one 13 [], .one 14 [], .one 15 [], .one 16 [], .one 17 []] := by kernel_rfl
  have e : rg45_17 = .region 17 rq45_17.ops true := rfl
  rw [e, aexec, d, d2]; rfl
noncomputable def rq45_17_e := (⟨by simp only [rq45_17, code, Try.f45, Option.getD_some, Code.fst, Code.snd, Code.bin, Code.lin, Code.sin, Code.yes, Code.no, Code.ops]; exact rfl⟩ : PLift (rq45_17.ops = _))
noncomputable def S45_5 : Code := .seq ((code Try.f45).snd.snd.fst.snd.bin.lin.snd.fst.bin.snd.snd.snd.snd.fst.snd.yes.snd.bin.lin.fst.fst) (.seq ((code Try.f45).snd.snd.fst.snd.bin.lin.snd.fst.bin.snd.snd.snd.snd.fst.snd.yes.snd.bin.lin.fst.snd) (.seq (.block 5 (.seq (.seq rg45_16 (code Try.f45).snd.snd.fst.snd.bin.lin.snd.fst.bin.snd.snd.snd.snd.fst.snd.yes.snd.bin.lin.snd.fst.bin.fst.snd) rg45_17)) ((code Try.f45).snd.snd.fst.snd.bin.lin.snd.fst.bin.snd.snd.snd.snd.fst.snd.yes.snd.bin.lin.snd.snd)))
noncomputable def S45_5_e := (⟨by simp only [S45_5, code, Try.f45, Option.getD_some, Code.fst, Code.snd, Code.bin, Code.lin, Code.sin, Code.yes, Code.no]; exact rfl⟩ : PLift (S45_5 = _))
theorem L45_4_wp {ts : List AVal} {st : ASt} {Q : APost} (h : Wp E 45 S45_5 ts st Q) : Wp E 45 L45_4 ts st Q := by
  have e : ∀ n ts st, aexec E 45 (rw E) (drawB E 45) n L45_4 ts st = aexec E 45 (rw E) (drawB E 45) n (S45_5) ts st := by
    intro n ts st
    have e1 : L45_4 = (.seq (.seq (code Try.f45).snd.snd.fst.snd.bin.lin.snd.fst.bin.snd.snd.snd.snd.fst.snd.yes.snd.bin.lin.fst.fst (code Try.f45).snd.snd.fst.snd.bin.lin.snd.fst.bin.snd.snd.snd.snd.fst.snd.yes.snd.bin.lin.fst.snd) (.seq (.block 5 (.seq (.seq rg45_16 (code Try.f45).snd.snd.fst.snd.bin.lin.snd.fst.bin.snd.snd.snd.snd.fst.snd.yes.snd.bin.lin.snd.fst.bin.fst.snd) rg45_17)) (code Try.f45).snd.snd.fst.snd.bin.lin.snd.fst.bin.snd.snd.snd.snd.fst.snd.yes.snd.bin.lin.snd.snd)) := rfl
    rw [e1] <;>
    simp only [S45_5, aexec_seq, aseq_assoc]
  refine aw_congr e ?_
  exact h
theorem Y45_3_wp {ts : List AVal} {st : ASt} {Q : APost} (h : Wp E 45 S45_4 ts st (Nx (fun ts st => Wp E 45 (.block 4 (.loop L45_4)) ts st Q) Q)) : Wp E 45 Y45_3 ts st Q := by
  have e : ∀ n ts st, aexec E 45 (rw E) (drawB E 45) n Y45_3 ts st = aexec E 45 (rw E) (drawB E 45) n (.seq S45_4 ((.block 4 (.loop L45_4)))) ts st := by
    intro n ts st
    have e1 : Y45_3 = (.seq (code Try.f45).snd.snd.fst.snd.bin.lin.snd.fst.bin.snd.snd.snd.snd.fst.snd.yes.fst (.block 4 (.loop L45_4))) := rfl
    rw [e1] <;>
    simp only [S45_4, aexec_seq, aseq_assoc]
  refine aw_congr e ?_
  have h0 := h
  exact aw_seq h0
noncomputable def N45_3 : Code := (code Try.f45).snd.snd.fst.snd.bin.lin.snd.fst.bin.snd.snd.snd.snd.fst.snd.no
noncomputable def S45_6 : Code := (code Try.f45).snd.snd.fst.snd.bin.lin.snd.fst.bin.snd.snd.snd.snd.fst.snd.no
noncomputable def S45_6_e := (⟨by simp only [S45_6, code, Try.f45, Option.getD_some, Code.fst, Code.snd, Code.bin, Code.lin, Code.sin, Code.yes, Code.no]; exact rfl⟩ : PLift (S45_6 = _))
theorem N45_3_wp {ts : List AVal} {st : ASt} {Q : APost} (h : Wp E 45 S45_6 ts st Q) : Wp E 45 N45_3 ts st Q := by
  have e : ∀ n ts st, aexec E 45 (rw E) (drawB E 45) n N45_3 ts st = aexec E 45 (rw E) (drawB E 45) n (S45_6) ts st := by
    intro n ts st
    have e1 : N45_3 = (code Try.f45).snd.snd.fst.snd.bin.lin.snd.fst.bin.snd.snd.snd.snd.fst.snd.no := rfl
    rw [e1] <;>
    simp only [S45_6, aexec_seq, aseq_assoc]
  refine aw_congr e ?_
  exact h
noncomputable def S45_7 : Code := (code Try.f45).snd.snd.fst.snd.bin.lin.snd.fst.bin.snd.snd.snd.snd.snd.fst
noncomputable def S45_7_e := (⟨by simp only [S45_7, code, Try.f45, Option.getD_some, Code.fst, Code.snd, Code.bin, Code.lin, Code.sin, Code.yes, Code.no]; exact rfl⟩ : PLift (S45_7 = _))
noncomputable def Y45_5 : Code := (code Try.f45).snd.snd.fst.snd.bin.lin.snd.fst.bin.snd.snd.snd.snd.snd.snd.yes
noncomputable def S45_8 : Code := (code Try.f45).snd.snd.fst.snd.bin.lin.snd.fst.bin.snd.snd.snd.snd.snd.snd.yes.fst
noncomputable def S45_8_e := (⟨by simp only [S45_8, code, Try.f45, Option.getD_some, Code.fst, Code.snd, Code.bin, Code.lin, Code.sin, Code.yes, Code.no]; exact rfl⟩ : PLift (S45_8 = _))
noncomputable def L45_6 : Code := (code Try.f45).snd.snd.fst.snd.bin.lin.snd.fst.bin.snd.snd.snd.snd.snd.snd.yes.snd.bin.lin
noncomputable def rg45_22 : Code := (code Try.f45).snd.snd.fst.snd.bin.lin.snd.fst.bin.snd.snd.snd.snd.snd.snd.yes.snd.bin.lin.snd.fst.bin.fst.fst
noncomputable def rq45_22 : Code := (code Try.f45).snd.snd.fst.snd.bin.lin.snd.fst.bin.snd.snd.snd.snd.snd.snd.yes.snd.bin.lin.snd.fst.bin.fst.fst
theorem ex45_22 (call : ACall) (n : Nat) (ts : List AVal) (st : ASt) : aexec E 45 call (drawB E 45) n rg45_22 ts st = aops E 45 call rq45_22.ops rq45_22.ops.toList ts st := by
  have d : drawB E 45 rq45_22.ops = true := by kernel_rfl
  have e : rg45_22 = .region 22 rq45_22.ops true := rfl
  rw [e, aexec, d]; rfl
noncomputable def rq45_22_e := (⟨by simp only [rq45_22, code, Try.f45, Option.getD_some, Code.fst, Code.snd, Code.bin, Code.lin, Code.sin, Code.yes, Code.no, Code.ops]; exact rfl⟩ : PLift (rq45_22.ops = _))
noncomputable def rg45_23 : Code := (code Try.f45).snd.snd.fst.snd.bin.lin.snd.fst.bin.snd.snd.snd.snd.snd.snd.yes.snd.bin.lin.snd.fst.bin.snd
noncomputable def rq45_23 : Code := (code Try.f45).snd.snd.fst.snd.bin.lin.snd.fst.bin.snd.snd.snd.snd.snd.snd.yes.snd.bin.lin.snd.fst.bin.snd
theorem ex45_23 (call : ACall) (n : Nat) (ts : List AVal) (st : ASt) : aexec E 45 call (drawB E 45) n rg45_23 ts st = aopsP E 45 call rq45_23.ops [.one 0 [], .one 1 [], .one 2 [], .one 3 [], .one 4 [], .one 5 [], .one 6 [], .one 7 [], .one 8 [], .one 9 [], .one 10 [], .one 11 [], .one 12 [], .one 13 [], .one 14 [], .one 15 [], .one 16 [], .one 17 []] ts st := by
  have d : drawB E 45 rq45_23.ops = false := by kernel_rfl
  have d2 : drawPlan E 45 rq45_23.ops = some [.one 0 [], .one 1 [], .one 2 [], .one 3 [], .one 4 [], .one 5 [], .one 6 [], .one 7 [], .one 8 [], .one 9 [], .one 10 [], .one 11 [], .one 12 [], .one 13 [], .one 14 [], .one 15 [], .one 16 [], .one 17 []] := by kernel_rfl
  have e : rg45_23 = .region 23 rq45_23.ops true := rfl
  rw [e, aexec, d, d2]; rfl
noncomputable def rq45_23_e := (⟨by simp only [rq45_23, code, Try.f45, Option.getD_some, Code.fst, Code.snd, Code.bin, Code.lin, Code.sin, Code.yes, Code.no, Code.ops]; exact rfl⟩ : PLift (rq45_23.ops = _))
noncomputable def S45_9 : Code := .seq ((code Try.f45).snd.snd.fst.snd.bin.lin.snd.fst.bin.snd.snd.snd.snd.snd.snd.yes.snd.bin.lin.fst.fst) (.seq ((code Try.f45).snd.snd.fst.snd.bin.lin.snd.fst.bin.snd.snd.snd.snd.snd.snd.yes.snd.bin.lin.fst.snd) (.seq (.block 7 (.seq (.seq rg45_22 (code Try.f45).snd.snd.fst.snd.bin.lin.snd.fst.bin.snd.snd.snd.snd.snd.snd.yes.snd.bin.lin.snd.fst.bin.fst.snd) rg45_23)) ((code Try.f45).snd.snd.fst.snd.bin.lin.snd.fst.bin.snd.snd.snd.snd.snd.snd.yes.snd.bin.lin.snd.snd)))
noncomputable def S45_9_e := (⟨by simp only [S45_9, code, Try.f45, Option.getD_some, Code.fst, Code.snd, Code.bin, Code.lin, Code.sin, Code.yes, Code.no]; exact rfl⟩ : PLift (S45_9 = _))
theorem L45_6_wp {ts : List AVal} {st : ASt} {Q : APost} (h : Wp E 45 S45_9 ts st Q) : Wp E 45 L45_6 ts st Q := by
  have e : ∀ n ts st, aexec E 45 (rw E) (drawB E 45) n L45_6 ts st = aexec E 45 (rw E) (drawB E 45) n (S45_9) ts st := by
    intro n ts st
    have e1 : L45_6 = (.seq (.seq (code Try.f45).snd.snd.fst.snd.bin.lin.snd.fst.bin.snd.snd.snd.snd.snd.snd.yes.snd.bin.lin.fst.fst (code Try.f45).snd.snd.fst.snd.bin.lin.snd.fst.bin.snd.snd.snd.snd.snd.snd.yes.snd.bin.lin.fst.snd) (.seq (.block 7 (.seq (.seq rg45_22 (code Try.f45).snd.snd.fst.snd.bin.lin.snd.fst.bin.snd.snd.snd.snd.snd.snd.yes.snd.bin.lin.snd.fst.bin.fst.snd) rg45_23)) (code Try.f45).snd.snd.fst.snd.bin.lin.snd.fst.bin.snd.snd.snd.snd.snd.snd.yes.snd.bin.lin.snd.snd)) := rfl
    rw [e1] <;>
    simp only [S45_9, aexec_seq, aseq_assoc]
  refine aw_congr e ?_
  exact h
theorem Y45_5_wp {ts : List AVal} {st : ASt} {Q : APost} (h : Wp E 45 S45_8 ts st (Nx (fun ts st => Wp E 45 (.block 6 (.loop L45_6)) ts st Q) Q)) : Wp E 45 Y45_5 ts st Q := by
  have e : ∀ n ts st, aexec E 45 (rw E) (drawB E 45) n Y45_5 ts st = aexec E 45 (rw E) (drawB E 45) n (.seq S45_8 ((.block 6 (.loop L45_6)))) ts st := by
    intro n ts st
    have e1 : Y45_5 = (.seq (code Try.f45).snd.snd.fst.snd.bin.lin.snd.fst.bin.snd.snd.snd.snd.snd.snd.yes.fst (.block 6 (.loop L45_6))) := rfl
    rw [e1] <;>
    simp only [S45_8, aexec_seq, aseq_assoc]
  refine aw_congr e ?_
  have h0 := h
  exact aw_seq h0
noncomputable def N45_5 : Code := (code Try.f45).snd.snd.fst.snd.bin.lin.snd.fst.bin.snd.snd.snd.snd.snd.snd.no
noncomputable def S45_10 : Code := (code Try.f45).snd.snd.fst.snd.bin.lin.snd.fst.bin.snd.snd.snd.snd.snd.snd.no
noncomputable def S45_10_e := (⟨by simp only [S45_10, code, Try.f45, Option.getD_some, Code.fst, Code.snd, Code.bin, Code.lin, Code.sin, Code.yes, Code.no]; exact rfl⟩ : PLift (S45_10 = _))
theorem N45_5_wp {ts : List AVal} {st : ASt} {Q : APost} (h : Wp E 45 S45_10 ts st Q) : Wp E 45 N45_5 ts st Q := by
  have e : ∀ n ts st, aexec E 45 (rw E) (drawB E 45) n N45_5 ts st = aexec E 45 (rw E) (drawB E 45) n (S45_10) ts st := by
    intro n ts st
    have e1 : N45_5 = (code Try.f45).snd.snd.fst.snd.bin.lin.snd.fst.bin.snd.snd.snd.snd.snd.snd.no := rfl
    rw [e1] <;>
    simp only [S45_10, aexec_seq, aseq_assoc]
  refine aw_congr e ?_
  exact h
theorem B45_1_wp {ts : List AVal} {st : ASt} {Q : APost} (h : Wp E 45 (.block 2 (.loop L45_2)) ts st (Nx (fun ts st => Wp E 45 S45_3 ts st (Nx (fun ts st => Wp E 45 (.cond (.tmp 65) Y45_3 N45_3) ts st (Nx (fun ts st => Wp E 45 S45_7 ts st (Nx (fun ts st => Wp E 45 (.cond (.tmp 104) Y45_5 N45_5) ts st Q) Q)) Q)) Q)) Q)) : Wp E 45 B45_1 ts st Q := by
  have e : ∀ n ts st, aexec E 45 (rw E) (drawB E 45) n B45_1 ts st = aexec E 45 (rw E) (drawB E 45) n (.seq (.block 2 (.loop L45_2)) (.seq S45_3 (.seq (.cond (.tmp 65) Y45_3 N45_3) (.seq S45_7 ((.cond (.tmp 104) Y45_5 N45_5)))))) ts st := by
    intro n ts st
    have e1 : B45_1 = (.seq (.block 2 (.loop L45_2)) (.seq (.seq (code Try.f45).snd.snd.fst.snd.bin.lin.snd.fst.bin.snd.fst.fst (code Try.f45).snd.snd.fst.snd.bin.lin.snd.fst.bin.snd.fst.snd) (.seq (.seq (code Try.f45).snd.snd.fst.snd.bin.lin.snd.fst.bin.snd.snd.fst.fst (code Try.f45).snd.snd.fst.snd.bin.lin.snd.fst.bin.snd.snd.fst.snd) (.seq rg45_11 (.seq (.seq (code Try.f45).snd.snd.fst.snd.bin.lin.snd.fst.bin.snd.snd.snd.snd.fst.fst (.cond (.tmp 65) Y45_3 N45_3)) (.seq (code Try.f45).snd.snd.fst.snd.bin.lin.snd.fst.bin.snd.snd.snd.snd.snd.fst (.cond (.tmp 104) Y45_5 N45_5))))))) := rfl
    rw [e1] <;>
    simp only [S45_3, S45_7, aexec_seq, aseq_assoc]
  refine aw_congr e ?_
  have h0 := h
  exact aw_seq (h0.mono fun e ts st hq => by cases e <;> first | exact hq | (have h1 := hq; exact aw_seq (h1.mono fun e ts st hq => by cases e <;> first | exact hq | (have h2 := hq; exact aw_seq (h2.mono fun e ts st hq => by cases e <;> first | exact hq | (have h3 := hq; exact aw_seq h3))))))
noncomputable def S45_11 : Code := (code Try.f45).snd.snd.fst.snd.bin.lin.snd.snd
noncomputable def S45_11_e := (⟨by simp only [S45_11, code, Try.f45, Option.getD_some, Code.fst, Code.snd, Code.bin, Code.lin, Code.sin, Code.yes, Code.no]; exact rfl⟩ : PLift (S45_11 = _))
theorem L45_0_wp {ts : List AVal} {st : ASt} {Q : APost} (h : Wp E 45 S45_1 ts st (Nx (fun ts st => Wp E 45 (.block 1 B45_1) ts st (Nx (fun ts st => Wp E 45 S45_11 ts st Q) Q)) Q)) : Wp E 45 L45_0 ts st Q := by
  have e : ∀ n ts st, aexec E 45 (rw E) (drawB E 45) n L45_0 ts st = aexec E 45 (rw E) (drawB E 45) n (.seq S45_1 (.seq (.block 1 B45_1) (S45_11))) ts st := by
    intro n ts st
    have e1 : L45_0 = (.seq (.seq (code Try.f45).snd.snd.fst.snd.bin.lin.fst.fst (code Try.f45).snd.snd.fst.snd.bin.lin.fst.snd) (.seq (.block 1 B45_1) (code Try.f45).snd.snd.fst.snd.bin.lin.snd.snd)) := rfl
    rw [e1] <;>
    simp only [S45_1, S45_11, aexec_seq, aseq_assoc]
  refine aw_congr e ?_
  have h0 := h
  exact aw_seq (h0.mono fun e ts st hq => by cases e <;> first | exact hq | (have h1 := hq; exact aw_seq h1))
noncomputable def S45_12 : Code := .seq ((code Try.f45).snd.snd.snd.fst) ((code Try.f45).snd.snd.snd.snd)
noncomputable def S45_12_e := (⟨by simp only [S45_12, code, Try.f45, Option.getD_some, Code.fst, Code.snd, Code.bin, Code.lin, Code.sin, Code.yes, Code.no]; exact rfl⟩ : PLift (S45_12 = _))
theorem C45_wp {ts : List AVal} {st : ASt} {Q : APost} (h : Wp E 45 S45_0 ts st (Nx (fun ts st => Wp E 45 (.block 0 (.loop L45_0)) ts st (Nx (fun ts st => Wp E 45 S45_12 ts st Q) Q)) Q)) : Wp E 45 C45 ts st Q := by
  have e : ∀ n ts st, aexec E 45 (rw E) (drawB E 45) n C45 ts st = aexec E 45 (rw E) (drawB E 45) n (.seq S45_0 (.seq (.block 0 (.loop L45_0)) (S45_12))) ts st := by
    intro n ts st
    have e1 : C45 = (.seq (code Try.f45).fst (.seq (code Try.f45).snd.fst (.seq (.seq (code Try.f45).snd.snd.fst.fst (.block 0 (.loop L45_0))) (.seq (code Try.f45).snd.snd.snd.fst (code Try.f45).snd.snd.snd.snd)))) := rfl
    rw [e1] <;>
    simp only [S45_0, S45_12, aexec_seq, aseq_assoc]
  refine aw_congr e ?_
  have h0 := h
  exact aw_seq (h0.mono fun e ts st hq => by cases e <;> first | exact hq | (have h1 := hq; exact aw_seq h1))
theorem ce_45 {x0 x1 x2 x3 : AVal} {st : ASt} {r : AEnd × ASt} (h : ∀ g : Nat → AVal, g 0 = x0 → g 1 = x1 → g 2 = x2 → g 3 = x3 → Wp E 45 C45 (Sl 141 g) st (fun e ts st => aend E Try.f45 (some (e, ts, st)) = some r)) : rw E 45 [x0, x1, x2, x3] st = some r :=
  ce_of (fn := Try.f45) (c := C45) rfl rfl rfl (Nat.le_of_ble_eq_true rfl) fun g hg => h g (hg 0 x0 rfl) (hg 1 x1 rfl) (hg 2 x2 rfl) (hg 3 x3 rfl)
theorem cx_45 {x0 x1 x2 x3 : AVal} {st : ASt} {R : AEnd → ASt → Prop} (h : ∀ g : Nat → AVal, g 0 = x0 → g 1 = x1 → g 2 = x2 → g 3 = x3 → Wp E 45 C45 (Sl 141 g) st (fun e ts st => ∃ r st', aend E Try.f45 (some (e, ts, st)) = some (r, st') ∧ R r st')) : ∃ r st', rw E 45 [x0, x1, x2, x3] st = some (r, st') ∧ R r st' :=
  cx_of (fn := Try.f45) (c := C45) rfl rfl rfl (Nat.le_of_ble_eq_true rfl) fun g hg => h g (hg 0 x0 rfl) (hg 1 x1 rfl) (hg 2 x2 rfl) (hg 3 x3 rfl)

/-! ### slices.partitionCmpFunc[braidwork/event.Mark] -/
noncomputable def C47 : Code := (code Try.f47)
noncomputable def rg47_1 : Code := (code Try.f47).snd.fst
noncomputable def rq47_1 : Code := (code Try.f47).snd.fst
theorem ex47_1 (call : ACall) (n : Nat) (ts : List AVal) (st : ASt) : aexec E 47 call (drawB E 47) n rg47_1 ts st = aopsP E 47 call rq47_1.ops [.one 0 [], .one 1 [], .one 2 [], .one 3 [], .one 4 [], .one 5 [], .one 6 [], .one 7 [], .one 8 [], .one 9 [], .one 10 [], .one 11 [], .one 12 [], .one 13 [], .one 14 [], .one 15 []] ts st := by
  have d : drawB E 47 rq47_1.ops = false := by kernel_rfl
  have d2 : drawPlan E 47 rq47_1.ops = some [.one 0 [], .one 1 [], .one 2 [], .one 3 [], .one 4 [], .one 5 [], .one 6 [], .one 7 [], .one 8 [], .one 9 [], .one 10 [], .one 11 [], .one 12 [], .one 13 [], .one 14 [], .one 15 []] := by kernel_rfl
  have e : rg47_1 = .region 1 rq47_1.ops true := rfl
  rw [e, aexec, d, d2]; rfl
noncomputable def rq47_1_e := (⟨by simp only [rq47_1, code, Try.f47, Option.getD_some, Code.fst, Code.snd, Code.bin, Code.lin, Code.sin, Code.yes, Code.no, Code.ops]; exact rfl⟩ : PLift (rq47_1.ops = _))
noncomputable def S47_0 : Code := .seq ((code Try.f47).fst) (.seq (rg47_1) ((code Try.f47).snd.snd.fst))
noncomputable def S47_0_e := (⟨by simp only [S47_0, code, Try.f47, Option.getD_some, Code.fst, Code.snd, Code.bin, Code.lin, Code.sin, Code.yes, Code.no]; exact rfl⟩ : PLift (S47_0 = _))
noncomputable def L47_0 : Code := (code Try.f47).snd.snd.snd.fst.bin.lin
noncomputable def rg47_3 : Code := (code Try.f47).snd.snd.snd.fst.bin.lin.fst.fst
noncomputable def rq47_3 : Code := (code Try.f47).snd.snd.snd.fst.bin.lin.fst.fst
theorem ex47_3 (call : ACall) (n : Nat) (ts : List AVal) (st : ASt) : aexec E 47 call (drawB E 47) n rg47_3 ts st = aops E 47 call rq47_3.ops rq47_3.ops.toList ts st := by
  have d : drawB E 47 rq47_3.ops = true := by kernel_rfl
  have e : rg47_3 = .region 3 rq47_3.ops true := rfl
  rw [e, aexec, d]; rfl
noncomputable def rq47_3_e := (⟨by simp only [rq47_3, code, Try.f47, Option.getD_some, Code.fst, Code.snd, Code.bin, Code.lin, Code.sin, Code.yes, Code.no, Code.ops]; exact rfl⟩ : PLift (rq47_3.ops = _))
noncomputable def S47_1 : Code := .seq (rg47_3) (.seq ((code Try.f47).snd.snd.snd.fst.bin.lin.fst.snd) ((code Try.f47).snd.snd.snd.fst.bin.lin.snd))
noncomputable def S47_1_e := (⟨by simp only [S47_1, code, Try.f47, Option.getD_some, Code.fst, Code.snd, Code.bin, Code.lin, Code.sin, Code.yes, Code.no]; exact rfl⟩ : PLift (S47_1 = _))
theorem L47_0_wp {ts : List AVal} {st : ASt} {Q : APost} (h : Wp E 47 S47_1 ts st Q) : Wp E 47 L47_0 ts st Q := by
  have e : ∀ n ts st, aexec E 47 (rw E) (drawB E 47) n L47_0 ts st = aexec E 47 (rw E) (drawB E 47) n (S47_1) ts st := by
    intro n ts st
    have e1 : L47_0 = (.seq (.seq rg47_3 (code Try.f47).snd.snd.snd.fst.bin.lin.fst.snd) (code Try.f47).snd.snd.snd.fst.bin.lin.snd) := rfl
    rw [e1] <;>
    simp only [S47_1, aexec_seq, aseq_assoc]
  refine aw_congr e ?_
  exact h
noncomputable def L47_1 : Code := (code Try.f47).snd.snd.snd.snd.fst.bin.lin
noncomputable def rg47_5 : Code := (code Try.f47).snd.snd.snd.snd.fst.bin.lin.fst.fst
noncomputable def rq47_5 : Code := (code Try.f47).snd.snd.snd.snd.fst.bin.lin.fst.fst
theorem ex47_5 (call : ACall) (n : Nat) (ts : List AVal) (st : ASt) : aexec E 47 call (drawB E 47) n rg47_5 ts st = aops E 47 call rq47_5.ops rq47_5.ops.toList ts st := by
  have d : drawB E 47 rq47_5.ops = true := by kernel_rfl
  have e : rg47_5 = .region 5 rq47_5.ops true := rfl
  rw [e, aexec, d]; rfl
noncomputable def rq47_5_e := (⟨by simp only [rq47_5, code, Try.f47, Option.getD_some, Code.fst, Code.snd, Code.bin, Code.lin, Code.sin, Code.yes, Code.no, Code.ops]; exact rfl⟩ : PLift (rq47_5.ops = _))
noncomputable def S47_2 : Code := .seq (rg47_5) (.seq ((code Try.f47).snd.snd.snd.snd.fst.bin.lin.fst.snd) ((code Try.f47).snd.snd.snd.snd.fst.bin.lin.snd))
noncomputable def S47_2_e := (⟨by simp only [S47_2, code, Try.f47, Option.getD_some, Code.fst, Code.snd, Code.bin, Code.lin, Code.sin, Code.yes, Code.no]; exact rfl⟩ : PLift (S47_2 = _))
theorem L47_1_wp {ts : List AVal} {st : ASt} {Q : APost} (h : Wp E 47 S47_2 ts st Q) : Wp E 47 L47_1 ts st Q := by
  have e : ∀ n ts st, aexec E 47 (rw E) (drawB E 47) n L47_1 ts st = aexec E 47 (rw E) (drawB E 47) n (S47_2) ts st := by
    intro n ts st
    have e1 : L47_1 = (.seq (.seq rg47_5 (code Try.f47).snd.snd.snd.snd.fst.bin.lin.fst.snd) (code Try.f47).snd.snd.snd.snd.fst.bin.lin.snd) := rfl
    rw [e1] <;>
    simp only [S47_2, aexec_seq, aseq_assoc]
  refine aw_congr e ?_
  exact h
noncomputable def rg47_8 : Code := (code Try.f47).snd.snd.snd.snd.snd.fst.snd.yes.fst
noncomputable def rq47_8 : Code := (code Try.f47).snd.snd.snd.snd.snd.fst.snd.yes.fst
theorem ex47_8 (call : ACall) (n : Nat) (ts : List AVal) (st : ASt) : aexec E 47 call (drawB E 47) n rg47_8 ts st = aopsP E 47 call rq47_8.ops [.one 0 [], .one 1 [], .one 2 [], .one 3 [], .one 4 [], .one 5 [], .one 6 [], .one 7 [], .one 8 [], .one 9 [], .one 10 [], .one 11 [], .one 12 [], .one 13 [], .one 14 [], .one 15 []] ts st := by
  have d : drawB E 47 rq47_8.ops = false := by kernel_rfl
  have d2 : drawPlan E 47 rq47_8.ops = some [.one 0 [], .one 1 [], .one 2 [], .one 3 [], .one 4 [], .one 5 [], .one 6 [], .one 7 [], .one 8 [], .one 9 [], .one 10 [], .one 11 [], .one 12 [], .one 13 [], .one 14 [], .one 15 []] := by kernel_rfl
  have e : rg47_8 = .region 8 rq47_8.ops true := rfl
  rw [e, aexec, d, d2]; rfl
noncomputable def rq47_8_e := (⟨by simp only [rq47_8, code, Try.f47, Option.getD_some, Code.fst, Code.snd, Code.bin, Code.lin, Code.sin, Code.yes, Code.no, Code.ops]; exact rfl⟩ : PLift (rq47_8.ops = _))
noncomputable def rg47_10 : Code := (code Try.f47).snd.snd.snd.snd.snd.snd.fst
noncomputable def rq47_10 : Code := (code Try.f47).snd.snd.snd.snd.snd.snd.fst
theorem ex47_10 (call : ACall) (n : Nat) (ts : List AVal) (st : ASt) : aexec E 47 call (drawB E 47) n rg47_10 ts st = aopsP E 47 call rq47_10.ops [.one 0 [], .one 1 [], .one 2 [], .one 3 [], .one 4 [], .one 5 [], .one 6 [], .one 7 [], .one 8 [], .one 9 [], .one 10 [], .one 11 [], .one 12 [], .one 13 [], .one 14 [], .one 15 []] ts st := by
  have d : drawB E 47 rq47_10.ops = false := by kernel_rfl
  have d2 : drawPlan E 47 rq47_10.ops = some [.one 0 [], .one 1 [], .one 2 [], .one 3 [], .one 4 [], .one 5 [], .one 6 [], .one 7 [], .one 8 [], .one 9 [], .one 10 [], .one 11 [], .one 12 [], .one 13 [], .one 14 [], .one 15 []] := by kernel_rfl
  have e : rg47_10 = .region 10 rq47_10.ops true := rfl
  rw [e, aexec, d, d2]; rfl
noncomputable def rq47_10_e := (⟨by simp only [rq47_10, code, Try.f47, Option.getD_some, Code.fst, Code.snd, Code.bin, Code.lin, Code.sin, Code.yes, Code.no, Code.ops]; exact rfl⟩ : PLift (rq47_10.ops = _))
noncomputable def S47_3 : Code := .seq ((code Try.f47).snd.snd.snd.snd.snd.fst.fst) (.seq (.cond (.tmp 71) (.seq rg47_8 (code Try.f47).snd.snd.snd.snd.snd.fst.snd.yes.snd) (code Try.f47).snd.snd.snd.snd.snd.fst.snd.no) (.seq (rg47_10) (.seq ((code Try.f47).snd.snd.snd.snd.snd.snd.snd.fst) ((code Try.f47).snd.snd.snd.snd.snd.snd.snd.snd.fst))))
noncomputable def S47_3_e := (⟨by simp only [S47_3, code, Try.f47, Option.getD_some, Code.fst, Code.snd, Code.bin, Code.lin, Code.sin, Code.yes, Code.no]; exact rfl⟩ : PLift (S47_3 = _))
noncomputable def L47_2 : Code := (code Try.f47).snd.snd.snd.snd.snd.snd.snd.snd.snd.fst.bin.lin
noncomputable def B47_3 : Code := (code Try.f47).snd.snd.snd.snd.snd.snd.snd.snd.snd.fst.bin.lin.bin
noncomputable def L47_4 : Code := (code Try.f47).snd.snd.snd.snd.snd.snd.snd.snd.snd.fst.bin.lin.bin.fst.bin.lin
noncomputable def rg47_13 : Code := (code Try.f47).snd.snd.snd.snd.snd.snd.snd.snd.snd.fst.bin.lin.bin.fst.bin.lin.fst.fst
noncomputable def rq47_13 : Code := (code Try.f47).snd.snd.snd.snd.snd.snd.snd.snd.snd.fst.bin.lin.bin.fst.bin.lin.fst.fst
theorem ex47_13 (call : ACall) (n : Nat) (ts : List AVal) (st : ASt) : aexec E 47 call (drawB E 47) n rg47_13 ts st = aops E 47 call rq47_13.ops rq47_13.ops.toList ts st := by
  have d : drawB E 47 rq47_13.ops = true := by kernel_rfl
  have e : rg47_13 = .region 13 rq47_13.ops true := rfl
  rw [e, aexec, d]; rfl
noncomputable def rq47_13_e := (⟨by simp only [rq47_13, code, Try.f47, Option.getD_some, Code.fst, Code.snd, Code.bin, Code.lin, Code.sin, Code.yes, Code.no, Code.ops]; exact rfl⟩ : PLift (rq47_13.ops = _))
noncomputable def S47_4 : Code := .seq (rg47_13) (.seq ((code Try.f47).snd.snd.snd.snd.snd.snd.snd.snd.snd.fst.bin.lin.bin.fst.bin.lin.fst.snd) ((code Try.f47).snd.snd.snd.snd.snd.snd.snd.snd.snd.fst.bin.lin.bin.fst.bin.lin.snd))
noncomputable def S47_4_e := (⟨by simp only [S47_4, code, Try.f47, Option.getD_some, Code.fst, Code.snd, Code.bin, Code.lin, Code.sin, Code.yes, Code.no]; exact rfl⟩ : PLift (S47_4 = _))
theorem L47_4_wp {ts : List AVal} {st : ASt} {Q : APost} (h : Wp E 47 S47_4 ts st Q) : Wp E 47 L47_4 ts st Q := by
  have e : ∀ n ts st, aexec E 47 (rw E) (drawB E 47) n L47_4 ts st = aexec E 47 (rw E) (drawB E 47) n (S47_4) ts st := by
    intro n ts st
    have e1 : L47_4 = (.seq (.seq rg47_13 (code Try.f47).snd.snd.snd.snd.snd.snd.snd.snd.snd.fst.bin.lin.bin.fst.bin.lin.fst.snd) (code Try.f47).snd.snd.snd.snd.snd.snd.snd.snd.snd.fst.bin.lin.bin.fst.bin.lin.snd) := rfl
    rw [e1] <;>
    simp only [S47_4, aexec_seq, aseq_assoc]
  refine aw_congr e ?_
  exact h
noncomputable def L47_5 : Code := (code Try.f47).snd.snd.snd.snd.snd.snd.snd.snd.snd.fst.bin.lin.bin.snd.fst.bin.lin
noncomputable def rg47_15 : Code := (code Try.f47).snd.snd.snd.snd.snd.snd.snd.snd.snd.fst.bin.lin.bin.snd.fst.bin.lin.fst.fst
noncomputable def rq47_15 : Code := (code Try.f47).snd.snd.snd.snd.snd.snd.snd.snd.snd.fst.bin.lin.bin.snd.fst.bin.lin.fst.fst
theorem ex47_15 (call : ACall) (n : Nat) (ts : List AVal) (st : ASt) : aexec E 47 call (drawB E 47) n rg47_15 ts st = aops E 47 call rq47_15.ops rq47_15.ops.toList ts st := by
  have d : drawB E 47 rq47_15.ops = true := by kernel_rfl
  have e : rg47_15 = .region 15 rq47_15.ops true := rfl
  rw [e, aexec, d]; rfl
noncomputable def rq47_15_e := (⟨by simp only [rq47_15, code, Try.f47, Option.getD_some, Code.fst, Code.snd, Code.bin, Code.lin, Code.sin, Code.yes, Code.no, Code.ops]; exact rfl⟩ : PLift (rq47_15.ops = _))
noncomputable def S47_5 : Code := .seq (rg47_15) (.seq ((code Try.f47).snd.snd.snd.snd.snd.snd.snd.snd.snd.fst.bin.lin.bin.snd.fst.bin.lin.fst.snd) ((code Try.f47).snd.snd.snd.snd.snd.snd.snd.snd.snd.fst.bin.lin.bin.snd.fst.bin.lin.snd))
noncomputable def S47_5_e := (⟨by simp only [S47_5, code, Try.f47, Option.getD_some, Code.fst, Code.snd, Code.bin, Code.lin, Code.sin, Code.yes, Code.no]; exact rfl⟩ : PLift (S47_5 = _))
theorem L47_5_wp {ts : List AVal} {st : ASt} {Q : APost} (h : Wp E 47 S47_5 ts st Q) : Wp E 47 L47_5 ts st Q := by
  have e : ∀ n ts st, aexec E 47 (rw E) (drawB E 47) n L47_5 ts st = aexec E 47 (rw E) (drawB E 47) n (S47_5) ts st := by
    intro n ts st
    have e1 : L47_5 = (.seq (.seq rg47_15 (code Try.f47).snd.snd.snd.snd.snd.snd.snd.snd.snd.fst.bin.lin.bin.snd.fst.bin.lin.fst.snd) (code Try.f47).snd.snd.snd.snd.snd.snd.snd.snd.snd.fst.bin.lin.bin.snd.fst.bin.lin.snd) := rfl
    rw [e1] <;>
    simp only [S47_5, aexec_seq, aseq_assoc]
  refine aw_congr e ?_
  exact h
noncomputable def rg47_18 : Code := (code Try.f47).snd.snd.snd.snd.snd.snd.snd.snd.snd.fst.bin.lin.bin.snd.snd.snd.fst
noncomputable def rq47_18 : Code := (code Try.f47).snd.snd.snd.snd.snd.snd.snd.snd.snd.fst.bin.lin.bin.snd.snd.snd.fst
theorem ex47_18 (call : ACall) (n : Nat) (ts : List AVal) (st : ASt) : aexec E 47 call (drawB E 47) n rg47_18 ts st = aopsP E 47 call rq47_18.ops [.one 0 [], .one 1 [], .one 2 [], .one 3 [], .one 4 [], .one 5 [], .one 6 [], .one 7 [], .one 8 [], .one 9 [], .one 10 [], .one 11 [], .one 12 [], .one 13 [], .one 14 [], .one 15 []] ts st := by
  have d : drawB E 47 rq47_18.ops = false := by kernel_rfl
  have d2 : drawPlan E 47 rq47_18.ops = some [.one 0 [], .one 1 [], .one 2 [], .one 3 [], .one 4 [], .one 5 [], .one 6 [], .one 7 [], .one 8 [], .one 9 [], .one 10 [], .one 11 [], .one 12 [], .one 13 [], .one 14 [], .one 15 []] := by kernel_rfl
  have e : rg47_18 = .region 18 rq47_18.ops true := rfl
  rw [e, aexec, d, d2]; rfl
noncomputable def rq47_18_e := (⟨by simp only [rq47_18, code, Try.f47, Option.getD_some, Code.fst, Code.snd, Code.bin, Code.lin, Code.sin, Code.yes, Code.no, Code.ops]; exact rfl⟩ : PLift (rq47_18.ops = _))
noncomputable def S47_6 : Code := .seq ((code Try.f47).snd.snd.snd.snd.snd.snd.snd.snd.snd.fst.bin.lin.bin.snd.snd.fst.fst) (.seq ((code Try.f47).snd.snd.snd.snd.snd.snd.snd.snd.snd.fst.bin.lin.bin.snd.snd.fst.snd) (.seq (rg47_18) (.seq ((code Try.f47).snd.snd.snd.snd.snd.snd.snd.snd.snd.fst.bin.lin.bin.snd.snd.snd.snd.fst) ((code Try.f47).snd.snd.snd.snd.snd.snd.snd.snd.snd.fst.bin.lin.bin.snd.snd.snd.snd.snd))))
noncomputable def S47_6_e := (⟨by simp only [S47_6, code, Try.f47, Option.getD_some, Code.fst, Code.snd, Code.bin, Code.lin, Code.sin, Code.yes, Code.no]; exact rfl⟩ : PLift (S47_6 = _))
theorem B47_3_wp {ts : List AVal} {st : ASt} {Q : APost} (h : Wp E 47 (.block 6 (.loop L47_4)) ts st (Nx (fun ts st => Wp E 47 (.block 8 (.loop L47_5)) ts st (Nx (fun ts st => Wp E 47 S47_6 ts st Q) Q)) Q)) : Wp E 47 B47_3 ts st Q := by
  have e : ∀ n ts st, aexec E 47 (rw E) (drawB E 47) n B47_3 ts st = aexec E 47 (rw E) (drawB E 47) n (.seq (.block 6 (.loop L47_4)) (.seq (.block 8 (.loop L47_5)) (S47_6))) ts st := by
    intro n ts st
    have e1 : B47_3 = (.seq (.block 6 (.loop L47_4)) (.seq (.block 8 (.loop L47_5)) (.seq (.seq (code Try.f47).snd.snd.snd.snd.snd.snd.snd.snd.snd.fst.bin.lin.bin.snd.snd.fst.fst (code Try.f47).snd.snd.snd.snd.snd.snd.snd.snd.snd.fst.bin.lin.bin.snd.snd.fst.snd) (.seq rg47_18 (.seq (code Try.f47).snd.snd.snd.snd.snd.snd.snd.snd.snd.fst.bin.lin.bin.snd.snd.snd.snd.fst (code Try.f47).snd.snd.snd.snd.snd.snd.snd.snd.snd.fst.bin.lin.bin.snd.snd.snd.snd.snd))))) := rfl
    rw [e1] <;>
    simp only [S47_6, aexec_seq, aseq_assoc]
  refine aw_congr e ?_
  have h0 := h
  exact aw_seq (h0.mono fun e ts st hq => by cases e <;> first | exact hq | (have h1 := hq; exact aw_seq h1))
theorem L47_2_wp {ts : List AVal} {st : ASt} {Q : APost} (h : Wp E 47 (.block 5 B47_3) ts st Q) : Wp E 47 L47_2 ts st Q := by
  have e : ∀ n ts st, aexec E 47 (rw E) (drawB E 47) n L47_2 ts st = aexec E 47 (rw E) (drawB E 47) n ((.block 5 B47_3)) ts st := by
    intro n ts st
    have e1 : L47_2 = (.block 5 B47_3) := rfl
    rw [e1] <;>
    simp only [aexec_seq, aseq_assoc]
  refine aw_congr e ?_
  exact h
noncomputable def rg47_21 : Code := (code Try.f47).snd.snd.snd.snd.snd.snd.snd.snd.snd.snd.fst
noncomputable def rq47_21 : Code := (code Try.f47).snd.snd.snd.snd.snd.snd.snd.snd.snd.snd.fst
theorem ex47_21 (call : ACall) (n : Nat) (ts : List AVal) (st : ASt) : aexec E 47 call (drawB E 47) n rg47_21 ts st = aopsP E 47 call rq47_21.ops [.one 0 [], .one 1 [], .one 2 [], .one 3 [], .one 4 [], .one 5 [], .one 6 [], .one 7 [], .one 8 [], .one 9 [], .one 10 [], .one 11 [], .one 12 [], .one 13 [], .one 14 [], .one 15 []] ts st := by
  have d : drawB E 47 rq47_21.ops = false := by kernel_rfl
  have d2 : drawPlan E 47 rq47_21.ops = some [.one 0 [], .one 1 [], .one 2 [], .one 3 [], .one 4 [], .one 5 [], .one 6 [], .one 7 [], .one 8 [], .one 9 [], .one 10 [], .one 11 [], .one 12 [], .one 13 [], .one 14 [], .one 15 []] := by kernel_rfl
  have e : rg47_21 = .region 21 rq47_21.ops true := rfl
  rw [e, aexec, d, d2]; rfl
noncomputable def rq47_21_e := (⟨by simp only [rq47_21, code, Try.f47, Option.getD_some, Code.fst, Code.snd, Code.bin, Code.lin, Code.sin, Code.yes, Code.no, Code.ops]; exact rfl⟩ : PLift (rq47_21.ops = _))
noncomputable def S47_7 : Code := .seq (rg47_21) (.seq ((code Try.f47).snd.snd.snd.snd.snd.snd.snd.snd.snd.snd.snd.fst) ((code Try.f47).snd.snd.snd.snd.snd.snd.snd.snd.snd.snd.snd.snd))
noncomputable def S47_7_e := (⟨by simp only [S47_7, code, Try.f47, Option.getD_some, Code.fst, Code.snd, Code.bin, Code.lin, Code.sin, Code.yes, Code.no]; exact rfl⟩ : PLift (S47_7 = _))
theorem C47_wp {ts : List AVal} {st : ASt} {Q : APost} (h : Wp E 47 S47_0 ts st (Nx (fun ts st => Wp E 47 (.block 0 (.loop L47_0)) ts st (Nx (fun ts st => Wp E 47 (.block 2 (.loop L47_1)) ts st (Nx (fun ts st => Wp E 47 S47_3 ts st (Nx (fun ts st => Wp E 47 (.block 4 (.loop L47_2)) ts st (Nx (fun ts st => Wp E 47 S47_7 ts st Q) Q)) Q)) Q)) Q)) Q)) : Wp E 47 C47 ts st Q := by
  have e : ∀ n ts st, aexec E 47 (rw E) (drawB E 47) n C47 ts st = aexec E 47 (rw E) (drawB E 47) n (.seq S47_0 (.seq (.block 0 (.loop L47_0)) (.seq (.block 2 (.loop L47_1)) (.seq S47_3 (.seq (.block 4 (.loop L47_2)) (S47_7)))))) ts st := by
    intro n ts st
    have e1 : C47 = (.seq (code Try.f47).fst (.seq rg47_1 (.seq (code Try.f47).snd.snd.fst (.seq (.block 0 (.loop L47_0)) (.seq (.block 2 (.loop L47_1)) (.seq (.seq (code Try.f47).snd.snd.snd.snd.snd.fst.fst (.cond (.tmp 71) (.seq rg47_8 (code Try.f47).snd.snd.snd.snd.snd.fst.snd.yes.snd) (code Try.f47).snd.snd.snd.snd.snd.fst.snd.no)) (.seq rg47_10 (.seq (code Try.f47).snd.snd.snd.snd.snd.snd.snd.fst (.seq (code Try.f47).snd.snd.snd.snd.snd.snd.snd.snd.fst (.seq (.block 4 (.loop L47_2)) (.seq rg47_21 (.seq (code Try.f47).snd.snd.snd.snd.snd.snd.snd.snd.snd.snd.snd.fst (code Try.f47).snd.snd.snd.snd.snd.snd.snd.snd.snd.snd.snd.snd)))))))))))) := rfl
    rw [e1] <;>
    simp only [S47_0, S47_3, S47_7, aexec_seq, aseq_assoc]
  refine aw_congr e ?_
  have h0 := h
  exact aw_seq (h0.mono fun e ts st hq => by cases e <;> first | exact hq | (have h1 := hq; exact aw_seq (h1.mono fun e ts st hq => by cases e <;> first | exact hq | (have h2 := hq; exact aw_seq (h2.mono fun e ts st hq => by cases e <;> first | exact hq | (have h3 := hq; exact aw_seq (h3.mono fun e ts st hq => by cases e <;> first | exact hq | (have h4 := hq; exact aw_seq h4))))))))
theorem ce_47 {x0 x1 x2 x3 x4 : AVal} {st : ASt} {r : AEnd × ASt} (h : ∀ g : Nat → AVal, g 0 = x0 → g 1 = x1 → g 2 = x2 → g 3 = x3 → g 4 = x4 → Wp E 47 C47 (Sl 178 g) st (fun e ts st => aend E Try.f47 (some (e, ts, st)) = some r)) : rw E 47 [x0, x1, x2, x3, x4] st = some r :=
  ce_of (fn := Try.f47) (c := C47) rfl rfl rfl (Nat.le_of_ble_eq_true rfl) fun g hg => h g (hg 0 x0 rfl) (hg 1 x1 rfl) (hg 2 x2 rfl) (hg 3 x3 rfl) (hg 4 x4 rfl)
theorem cx_47 {x0 x1 x2 x3 x4 : AVal} {st : ASt} {R : AEnd → ASt → Prop} (h : ∀ g : Nat → AVal, g 0 = x0 → g 1 = x1 → g 2 = x2 → g 3 = x3 → g 4 = x4 → Wp E 47 C47 (Sl 178 g) st (fun e ts st => ∃ r st', aend E Try.f47 (some (e, ts, st)) = some (r, st') ∧ R r st')) : ∃ r st', rw E 47 [x0, x1, x2, x3, x4] st = some (r, st') ∧ R r st' :=
  cx_of (fn := Try.f47) (c := C47) rfl rfl rfl (Nat.le_of_ble_eq_true rfl) fun g hg => h g (hg 0 x0 rfl) (hg 1 x1 rfl) (hg 2 x2 rfl) (hg 3 x3 rfl) (hg 4 x4 rfl)

/-! ### slices.pdqsortCmpFunc[braidwork/event.Mark] -/
noncomputable def C37 : Code := (code Try.f37)
noncomputable def S37_0 : Code := .seq ((code Try.f37).fst) ((code Try.f37).snd.fst)
noncomputable def S37_0_e := (⟨by simp only [S37_0, code, Try.f37, Option.getD_some, Code.fst, Code.snd, Code.bin, Code.lin, Code.sin, Code.yes, Code.no]; exact rfl⟩ : PLift (S37_0 = _))
noncomputable def L37_0 : Code := (code Try.f37).snd.snd.bin.lin
noncomputable def rg37_17 : Code := (code Try.f37).snd.snd.bin.lin.bin.snd.snd.snd.snd.snd.snd.snd.fst.fst
noncomputable def rq37_17 : Code := (code Try.f37).snd.snd.bin.lin.bin.snd.snd.snd.snd.snd.snd.snd.fst.fst
theorem ex37_17 (call : ACall) (n : Nat) (ts : List AVal) (st : ASt) : aexec E 37 call (drawB E 37) n rg37_17 ts st = aops E 37 call rq37_17.ops rq37_17.ops.toList ts st := by
  have d : drawB E 37 rq37_17.ops = true := by kernel_rfl
  have e : rg37_17 = .region 17 rq37_17.ops true := rfl
  rw [e, aexec, d]; rfl
noncomputable def rq37_17_e := (⟨by simp only [rq37_17, code, Try.f37, Option.getD_some, Code.fst, Code.snd, Code.bin, Code.lin, Code.sin, Code.yes, Code.no, Code.ops]; exact rfl⟩ : PLift (rq37_17.ops = _))
noncomputable def S37_1 : Code := (.block 1 (.seq (code Try.f37).snd.snd.bin.lin.bin.fst (.seq (code Try.f37).snd.snd.bin.lin.bin.snd.fst (.seq (code Try.f37).snd.snd.bin.lin.bin.snd.snd.fst (.seq (code Try.f37).snd.snd.bin.lin.bin.snd.snd.snd.fst (.seq (code Try.f37).snd.snd.bin.lin.bin.snd.snd.snd.snd.fst (.seq (code Try.f37).snd.snd.bin.lin.bin.snd.snd.snd.snd.snd.fst (.seq (code Try.f37).snd.snd.bin.lin.bin.snd.snd.snd.snd.snd.snd.fst (.seq (.seq rg37_17 (code Try.f37).snd.snd.bin.lin.bin.snd.snd.snd.snd.snd.snd.snd.fst.snd) (code Try.f37).snd.snd.bin.lin.bin.snd.snd.snd.snd.snd.snd.snd.snd)))))))))
noncomputable def S37_1_e := (⟨by simp only [S37_1, code, Try.f37, Option.getD_some, Code.fst, Code.snd, Code.bin, Code.lin, Code.sin, Code.yes, Code.no]; exact rfl⟩ : PLift (S37_1 = _))
theorem L37_0_wp {ts : List AVal} {st : ASt} {Q : APost} (h : Wp E 37 S37_1 ts st Q) : Wp E 37 L37_0 ts st Q := by
  have e : ∀ n ts st, aexec E 37 (rw E) (drawB E 37) n L37_0 ts st = aexec E 37 (rw E) (drawB E 37) n (S37_1) ts st := by
    intro n ts st
    have e1 : L37_0 = (.block 1 (.seq (code Try.f37).snd.snd.bin.lin.bin.fst (.seq (code Try.f37).snd.snd.bin.lin.bin.snd.fst (.seq (code Try.f37).snd.snd.bin.lin.bin.snd.snd.fst (.seq (code Try.f37).snd.snd.bin.lin.bin.snd.snd.snd.fst (.seq (code Try.f37).snd.snd.bin.lin.bin.snd.snd.snd.snd.fst (.seq (code Try.f37).snd.snd.bin.lin.bin.snd.snd.snd.snd.snd.fst (.seq (code Try.f37).snd.snd.bin.lin.bin.snd.snd.snd.snd.snd.snd.fst (.seq (.seq rg37_17 (code Try.f37).snd.snd.bin.lin.bin.snd.snd.snd.snd.snd.snd.snd.fst.snd) (code Try.f37).snd.snd.bin.lin.bin.snd.snd.snd.snd.snd.snd.snd.snd))))))))) := rfl
    rw [e1] <;>
    simp only [S37_1, aexec_seq, aseq_assoc]
  refine aw_congr e ?_
  exact h
theorem C37_wp {ts : List AVal} {st : ASt} {Q : APost} (h : Wp E 37 S37_0 ts st (Nx (fun ts st => Wp E 37 (.block 0 (.loop L37_0)) ts st Q) Q)) : Wp E 37 C37 ts st Q := by
  have e : ∀ n ts st, aexec E 37 (rw E) (drawB E 37) n C37 ts st = aexec E 37 (rw E) (drawB E 37) n (.seq S37_0 ((.block 0 (.loop L37_0)))) ts st := by
    intro n ts st
    have e1 : C37 = (.seq (code Try.f37).fst (.seq (code Try.f37).snd.fst (.block 0 (.loop L37_0)))) := rfl
    rw [e1] <;>
    simp only [S37_0, aexec_seq, aseq_assoc]
  refine aw_congr e ?_
  have h0 := h
  exact aw_seq h0
theorem ce_37 {x0 x1 x2 x3 x4 : AVal} {st : ASt} {r : AEnd × ASt} (h : ∀ g : Nat → AVal, g 0 = x0 → g 1 = x1 → g 2 = x2 → g 3 = x3 → g 4 = x4 → Wp E 37 C37 (Sl 148 g) st (fun e ts st => aend E Try.f37 (some (e, ts, st)) = some r)) : rw E 37 [x0, x1, x2, x3, x4] st = some r :=
  ce_of (fn := Try.f37) (c := C37) rfl rfl rfl (Nat.le_of_ble_eq_true rfl) fun g hg => h g (hg 0 x0 rfl) (hg 1 x1 rfl) (hg 2 x2 rfl) (hg 3 x3 rfl) (hg 4 x4 rfl)
theorem cx_37 {x0 x1 x2 x3 x4 : AVal} {st : ASt} {R : AEnd → ASt → Prop} (h : ∀ g : Nat → AVal, g 0 = x0 → g 1 = x1 → g 2 = x2 → g 3 = x3 → g 4 = x4 → Wp E 37 C37 (Sl 148 g) st (fun e ts st => ∃ r st', aend E Try.f37 (some (e, ts, st)) = some (r, st') ∧ R r st')) : ∃ r st', rw E 37 [x0, x1, x2, x3, x4] st = some (r, st') ∧ R r st' :=
  cx_of (fn := Try.f37) (c := C37) rfl rfl rfl (Nat.le_of_ble_eq_true rfl) fun g hg => h g (hg 0 x0 rfl) (hg 1 x1 rfl) (hg 2 x2 rfl) (hg 3 x3 rfl) (hg 4 x4 rfl)
theorem cf_40 (a : List AVal) (st : ASt) : callFuncA E.P 40 a st = some (.enter 40 a st) := rfl
theorem cf_41 (a : List AVal) (st : ASt) : callFuncA E.P 41 a st = some (.enter 41 a st) := rfl
theorem cf_42 (a : List AVal) (st : ASt) : callFuncA E.P 42 a st = some (.enter 42 a st) := rfl
theorem cf_43 (a : List AVal) (st : ASt) : callFuncA E.P 43 a st = some (.enter 43 a st) := rfl
theorem cf_44 (a : List AVal) (st : ASt) : callFuncA E.P 44 a st = some (.enter 44 a st) := rfl
theorem cf_45 (a : List AVal) (st : ASt) : callFuncA E.P 45 a st = some (.enter 45 a st) := rfl
theorem cf_46 (a : List AVal) (st : ASt) : callFuncA E.P 46 a st = some (.enter 46 a st) := rfl
theorem cf_47 (a : List AVal) (st : ASt) : callFuncA E.P 47 a st = some (.enter 47 a st) := rfl
theorem cf_37 (a : List AVal) (st : ASt) : callFuncA E.P 37 a st = some (.enter 37 a st) := rfl

/-! ### slices.SortFunc[[]braidwork/event.Mark,braidwork/event.Mark] -/
noncomputable def C33 : Code := (code Try.f33)
noncomputable def S33_0 : Code := .seq ((code Try.f33).fst) ((code Try.f33).snd)
noncomputable def S33_0_e := (⟨by simp only [S33_0, code, Try.f33, Option.getD_some, Code.fst, Code.snd, Code.bin, Code.lin, Code.sin, Code.yes, Code.no]; exact rfl⟩ : PLift (S33_0 = _))
theorem C33_wp {ts : List AVal} {st : ASt} {Q : APost} (h : Wp E 33 S33_0 ts st Q) : Wp E 33 C33 ts st Q := by
  have e : ∀ n ts st, aexec E 33 (rw E) (drawB E 33) n C33 ts st = aexec E 33 (rw E) (drawB E 33) n (S33_0) ts st := by
    intro n ts st
    have e1 : C33 = (.seq (code Try.f33).fst (code Try.f33).snd) := rfl
    rw [e1] <;>
    simp only [S33_0, aexec_seq, aseq_assoc]
  refine aw_congr e ?_
  exact h
theorem ce_33 {x0 x1 : AVal} {st : ASt} {r : AEnd × ASt} (h : ∀ g : Nat → AVal, g 0 = x0 → g 1 = x1 → Wp E 33 C33 (Sl 14 g) st (fun e ts st => aend E Try.f33 (some (e, ts, st)) = some r)) : rw E 33 [x0, x1] st = some r :=
  ce_of (fn := Try.f33) (c := C33) rfl rfl rfl (Nat.le_of_ble_eq_true rfl) fun g hg => h g (hg 0 x0 rfl) (hg 1 x1 rfl)
theorem cx_33 {x0 x1 : AVal} {st : ASt} {R : AEnd → ASt → Prop} (h : ∀ g : Nat → AVal, g 0 = x0 → g 1 = x1 → Wp E 33 C33 (Sl 14 g) st (fun e ts st => ∃ r st', aend E Try.f33 (some (e, ts, st)) = some (r, st') ∧ R r st')) : ∃ r st', rw E 33 [x0, x1] st = some (r, st') ∧ R r st' :=
  cx_of (fn := Try.f33) (c := C33) rfl rfl rfl (Nat.le_of_ble_eq_true rfl) fun g hg => h g (hg 0 x0 rfl) (hg 1 x1 rfl)
theorem o_leni_29 (mt : Bool) (ty : TypeId) (cs : Array Bool) (sz : Nat) (es : List AVal) (c : Cap) (st : ASt) : builtinA E.P mt .len #[29] ty cs [.islice sz es c] st = some (.val (.lit (.int .i64 es.length)) st) := rfl
theorem o_lens_29 (mt : Bool) (ty : TypeId) (cs : Array Bool) (s o l sz : Nat) (c : Option Nat) (st : ASt) : builtinA E.P mt .len #[29] ty cs [.slice s o l sz c] st = some (.val (.lit (.int .i64 l)) st) := rfl
theorem o_lenn_29 (mt : Bool) (ty : TypeId) (cs : Array Bool) (a : Option Addr) (st : ASt) : builtinA E.P mt .len #[29] ty cs [.lit (.slice a 0 0)] st = some (.val (.lit (.int .i64 0)) st) := len_nil rfl _ _ _ _ _
theorem o_cv_3_72 (mt : Bool) (n : Int) (st : ASt) : convA E.P mt 3 72 (.lit (.int .i64 n)) st = some (.lit (.int .u64 (IntKind.u64.wrap n)), st) := c_int rfl rfl
theorem cf_38 (a : List AVal) (st : ASt) : callFuncA E.P 38 a st = some (.enter 38 a st) := rfl

/-! ### slices.IndexFunc[[]braidwork/event.Mark,braidwork/event.Mark] -/
noncomputable def C31 : Code := (code Try.f31)
noncomputable def S31_0 : Code := .seq ((code Try.f31).fst) ((code Try.f31).snd.fst.fst)
noncomputable def S31_0_e := (⟨by simp only [S31_0, code, Try.f31, Option.getD_some, Code.fst, Code.snd, Code.bin, Code.lin, Code.sin, Code.yes, Code.no]; exact rfl⟩ : PLift (S31_0 = _))
noncomputable def L31_0 : Code := (code Try.f31).snd.fst.snd.bin.lin
noncomputable def S31_1 : Code := .seq ((code Try.f31).snd.fst.snd.bin.lin.fst) (.seq ((code Try.f31).snd.fst.snd.bin.lin.snd.fst) (.seq ((code Try.f31).snd.fst.snd.bin.lin.snd.snd.fst) ((code Try.f31).snd.fst.snd.bin.lin.snd.snd.snd)))
noncomputable def S31_1_e := (⟨by simp only [S31_1, code, Try.f31, Option.getD_some, Code.fst, Code.snd, Code.bin, Code.lin, Code.sin, Code.yes, Code.no]; exact rfl⟩ : PLift (S31_1 = _))
theorem L31_0_wp {ts : List AVal} {st : ASt} {Q : APost} (h : Wp E 31 S31_1 ts st Q) : Wp E 31 L31_0 ts st Q := by
  have e : ∀ n ts st, aexec E 31 (rw E) (drawB E 31) n L31_0 ts st = aexec E 31 (rw E) (drawB E 31) n (S31_1) ts st := by
    intro n ts st
    have e1 : L31_0 = (.seq (code Try.f31).snd.fst.snd.bin.lin.fst (.seq (code Try.f31).snd.fst.snd.bin.lin.snd.fst (.seq (code Try.f31).snd.fst.snd.bin.lin.snd.snd.fst (code Try.f31).snd.fst.snd.bin.lin.snd.snd.snd))) := rfl
    rw [e1] <;>
    simp only [S31_1, aexec_seq, aseq_assoc]
  refine aw_congr e ?_
  exact h
noncomputable def S31_2 : Code := .seq ((code Try.f31).snd.snd.fst) ((code Try.f31).snd.snd.snd)
noncomputable def S31_2_e := (⟨by simp only [S31_2, code, Try.f31, Option.getD_some, Code.fst, Code.snd, Code.bin, Code.lin, Code.sin, Code.yes, Code.no]; exact rfl⟩ : PLift (S31_2 = _))
theorem C31_wp {ts : List AVal} {st : ASt} {Q : APost} (h : Wp E 31 S31_0 ts st (Nx (fun ts st => Wp E 31 (.block 0 (.loop L31_0)) ts st (Nx (fun ts st => Wp E 31 S31_2 ts st Q) Q)) Q)) : Wp E 31 C31 ts st Q := by
  have e : ∀ n ts st, aexec E 31 (rw E) (drawB E 31) n C31 ts st = aexec E 31 (rw E) (drawB E 31) n (.seq S31_0 (.seq (.block 0 (.loop L31_0)) (S31_2))) ts st := by
    intro n ts st
    have e1 : C31 = (.seq (code Try.f31).fst (.seq (.seq (code Try.f31).snd.fst.fst (.block 0 (.loop L31_0))) (.seq (code Try.f31).snd.snd.fst (code Try.f31).snd.snd.snd))) := rfl
    rw [e1] <;>
    simp only [S31_0, S31_2, aexec_seq, aseq_assoc]
  refine aw_congr e ?_
  have h0 := h
  exact aw_seq (h0.mono fun e ts st hq => by cases e <;> first | exact hq | (have h1 := hq; exact aw_seq h1))
theorem ce_31 {x0 x1 : AVal} {st : ASt} {r : AEnd × ASt} (h : ∀ g : Nat → AVal, g 0 = x0 → g 1 = x1 → Wp E 31 C31 (Sl 19 g) st (fun e ts st => aend E Try.f31 (some (e, ts, st)) = some r)) : rw E 31 [x0, x1] st = some r :=
  ce_of (fn := Try.f31) (c := C31) rfl rfl rfl (Nat.le_of_ble_eq_true rfl) fun g hg => h g (hg 0 x0 rfl) (hg 1 x1 rfl)
theorem cx_31 {x0 x1 : AVal} {st : ASt} {R : AEnd → ASt → Prop} (h : ∀ g : Nat → AVal, g 0 = x0 → g 1 = x1 → Wp E 31 C31 (Sl 19 g) st (fun e ts st => ∃ r st', aend E Try.f31 (some (e, ts, st)) = some (r, st') ∧ R r st')) : ∃ r st', rw E 31 [x0, x1] st = some (r, st') ∧ R r st' :=
  cx_of (fn := Try.f31) (c := C31) rfl rfl rfl (Nat.le_of_ble_eq_true rfl) fun g hg => h g (hg 0 x0 rfl) (hg 1 x1 rfl)

/-! ### slices.nextPowerOfTwo -/
noncomputable def C51 : Code := (code Try.f51)
noncomputable def S51_0 : Code := .seq ((code Try.f51).fst) (.seq ((code Try.f51).snd.fst) ((code Try.f51).snd.snd))
noncomputable def S51_0_e := (⟨by simp only [S51_0, code, Try.f51, Option.getD_some, Code.fst, Code.snd, Code.bin, Code.lin, Code.sin, Code.yes, Code.no]; exact rfl⟩ : PLift (S51_0 = _))
theorem C51_wp {ts : List AVal} {st : ASt} {Q : APost} (h : Wp E 51 S51_0 ts st Q) : Wp E 51 C51 ts st Q := by
  have e : ∀ n ts st, aexec E 51 (rw E) (drawB E 51) n C51 ts st = aexec E 51 (rw E) (drawB E 51) n (S51_0) ts st := by
    intro n ts st
    have e1 : C51 = (.seq (code Try.f51).fst (.seq (code Try.f51).snd.fst (code Try.f51).snd.snd)) := rfl
    rw [e1] <;>
    simp only [S51_0, aexec_seq, aseq_assoc]
  refine aw_congr e ?_
  exact h
theorem ce_51 {x0 : AVal} {st : ASt} {r : AEnd × ASt} (h : ∀ g : Nat → AVal, g 0 = x0 → Wp E 51 C51 (Sl 7 g) st (fun e ts st => aend E Try.f51 (some (e, ts, st)) = some r)) : rw E 51 [x0] st = some r :=
  ce_of (fn := Try.f51) (c := C51) rfl rfl rfl (Nat.le_of_ble_eq_true rfl) fun g hg => h g (hg 0 x0 rfl)
theorem cx_51 {x0 : AVal} {st : ASt} {R : AEnd → ASt → Prop} (h : ∀ g : Nat → AVal, g 0 = x0 → Wp E 51 C51 (Sl 7 g) st (fun e ts st => ∃ r st', aend E Try.f51 (some (e, ts, st)) = some (r, st') ∧ R r st')) : ∃ r st', rw E 51 [x0] st = some (r, st') ∧ R r st' :=
  cx_of (fn := Try.f51) (c := C51) rfl rfl rfl (Nat.le_of_ble_eq_true rfl) fun g hg => h g (hg 0 x0 rfl)

/-! ### (*slices.xorshift).Next -/
noncomputable def C52 : Code := (code Try.f52)
noncomputable def rg52_1 : Code := (code Try.f52).snd.fst
noncomputable def rq52_1 : Code := (code Try.f52).snd.fst
theorem ex52_1 (call : ACall) (n : Nat) (ts : List AVal) (st : ASt) : aexec E 52 call (drawB E 52) n rg52_1 ts st = aops E 52 call rq52_1.ops rq52_1.ops.toList ts st := by
  have d : drawB E 52 rq52_1.ops = true := by kernel_rfl
  have e : rg52_1 = .region 1 rq52_1.ops true := rfl
  rw [e, aexec, d]; rfl
noncomputable def rq52_1_e := (⟨by simp only [rq52_1, code, Try.f52, Option.getD_some, Code.fst, Code.snd, Code.bin, Code.lin, Code.sin, Code.yes, Code.no, Code.ops]; exact rfl⟩ : PLift (rq52_1.ops = _))
noncomputable def rg52_2 : Code := (code Try.f52).snd.snd.fst
noncomputable def rq52_2 : Code := (code Try.f52).snd.snd.fst
theorem ex52_2 (call : ACall) (n : Nat) (ts : List AVal) (st : ASt) : aexec E 52 call (drawB E 52) n rg52_2 ts st = aops E 52 call rq52_2.ops rq52_2.ops.toList ts st := by
  have d : drawB E 52 rq52_2.ops = true := by kernel_rfl
  have e : rg52_2 = .region 2 rq52_2.ops true := rfl
  rw [e, aexec, d]; rfl
noncomputable def rq52_2_e := (⟨by simp only [rq52_2, code, Try.f52, Option.getD_some, Code.fst, Code.snd, Code.bin, Code.lin, Code.sin, Code.yes, Code.no, Code.ops]; exact rfl⟩ : PLift (rq52_2.ops = _))
noncomputable def rg52_3 : Code := (code Try.f52).snd.snd.snd.fst
noncomputable def rq52_3 : Code := (code Try.f52).snd.snd.snd.fst
theorem ex52_3 (call : ACall) (n : Nat) (ts : List AVal) (st : ASt) : aexec E 52 call (drawB E 52) n rg52_3 ts st = aops E 52 call rq52_3.ops rq52_3.ops.toList ts st := by
  have d : drawB E 52 rq52_3.ops = true := by kernel_rfl
  have e : rg52_3 = .region 3 rq52_3.ops true := rfl
  rw [e, aexec, d]; rfl
noncomputable def rq52_3_e := (⟨by simp only [rq52_3, code, Try.f52, Option.getD_some, Code.fst, Code.snd, Code.bin, Code.lin, Code.sin, Code.yes, Code.no, Code.ops]; exact rfl⟩ : PLift (rq52_3.ops = _))
noncomputable def S52_0 : Code := .seq ((code Try.f52).fst) (.seq (rg52_1) (.seq (rg52_2) (.seq (rg52_3) (.seq ((code Try.f52).snd.snd.snd.snd.fst) ((code Try.f52).snd.snd.snd.snd.snd)))))
noncomputable def S52_0_e := (⟨by simp only [S52_0, code, Try.f52, Option.getD_some, Code.fst, Code.snd, Code.bin, Code.lin, Code.sin, Code.yes, Code.no]; exact rfl⟩ : PLift (S52_0 = _))
theorem C52_wp {ts : List AVal} {st : ASt} {Q : APost} (h : Wp E 52 S52_0 ts st Q) : Wp E 52 C52 ts st Q := by
  have e : ∀ n ts st, aexec E 52 (rw E) (drawB E 52) n C52 ts st = aexec E 52 (rw E) (drawB E 52) n (S52_0) ts st := by
    intro n ts st
    have e1 : C52 = (.seq (code Try.f52).fst (.seq rg52_1 (.seq rg52_2 (.seq rg52_3 (.seq (code Try.f52).snd.snd.snd.snd.fst (code Try.f52).snd.snd.snd.snd.snd))))) := rfl
    rw [e1] <;>
    simp only [S52_0, aexec_seq, aseq_assoc]
  refine aw_congr e ?_
  exact h
theorem ce_52 {x0 : AVal} {st : ASt} {r : AEnd × ASt} (h : ∀ g : Nat → AVal, g 0 = x0 → Wp E 52 C52 (Sl 33 g) st (fun e ts st => aend E Try.f52 (some (e, ts, st)) = some r)) : rw E 52 [x0] st = some r :=
  ce_of (fn := Try.f52) (c := C52) rfl rfl rfl (Nat.le_of_ble_eq_true rfl) fun g hg => h g (hg 0 x0 rfl)
theorem cx_52 {x0 : AVal} {st : ASt} {R : AEnd → ASt → Prop} (h : ∀ g : Nat → AVal, g 0 = x0 → Wp E 52 C52 (Sl 33 g) st (fun e ts st => ∃ r st', aend E Try.f52 (some (e, ts, st)) = some (r, st') ∧ R r st')) : ∃ r st', rw E 52 [x0] st = some (r, st') ∧ R r st' :=
  cx_of (fn := Try.f52) (c := C52) rfl rfl rfl (Nat.le_of_ble_eq_true rfl) fun g hg => h g (hg 0 x0 rfl)
theorem o_ldp_86 (st : ASt) (s o : Nat) : loadA E.P 86 st (.ptr s o) = (blkOf (st.heap s)).bind (fun cs => cs[o]?) := ld_one rfl rfl st s o
theorem o_ldi_86 (st : ASt) (v : AVal) : loadA E.P 86 st (.iptr v) = if v.isCell = true then some v else none := rfl

/-! ### slices.medianAdjacentCmpFunc[braidwork/event.Mark] -/
noncomputable def C53 : Code := (code Try.f53)
noncomputable def S53_0 : Code := .seq ((code Try.f53).fst) (.seq ((code Try.f53).snd.fst) ((code Try.f53).snd.snd))
noncomputable def S53_0_e := (⟨by simp only [S53_0, code, Try.f53, Option.getD_some, Code.fst, Code.snd, Code.bin, Code.lin, Code.sin, Code.yes, Code.no]; exact rfl⟩ : PLift (S53_0 = _))
theorem C53_wp {ts : List AVal} {st : ASt} {Q : APost} (h : Wp E 53 S53_0 ts st Q) : Wp E 53 C53 ts st Q := by
  have e : ∀ n ts st, aexec E 53 (rw E) (drawB E 53) n C53 ts st = aexec E 53 (rw E) (drawB E 53) n (S53_0) ts st := by
    intro n ts st
    have e1 : C53 = (.seq (code Try.f53).fst (.seq (code Try.f53).snd.fst (code Try.f53).snd.snd)) := rfl
    rw [e1] <;>
    simp only [S53_0, aexec_seq, aseq_assoc]
  refine aw_congr e ?_
  exact h
theorem ce_53 {x0 x1 x2 x3 : AVal} {st : ASt} {r : AEnd × ASt} (h : ∀ g : Nat → AVal, g 0 = x0 → g 1 = x1 → g 2 = x2 → g 3 = x3 → Wp E 53 C53 (Sl 18 g) st (fun e ts st => aend E Try.f53 (some (e, ts, st)) = some r)) : rw E 53 [x0, x1, x2, x3] st = some r :=
  ce_of (fn := Try.f53) (c := C53) rfl rfl rfl (Nat.le_of_ble_eq_true rfl) fun g hg => h g (hg 0 x0 rfl) (hg 1 x1 rfl) (hg 2 x2 rfl) (hg 3 x3 rfl)
theorem cx_53 {x0 x1 x2 x3 : AVal} {st : ASt} {R : AEnd → ASt → Prop} (h : ∀ g : Nat → AVal, g 0 = x0 → g 1 = x1 → g 2 = x2 → g 3 = x3 → Wp E 53 C53 (Sl 18 g) st (fun e ts st => ∃ r st', aend E Try.f53 (some (e, ts, st)) = some (r, st') ∧ R r st')) : ∃ r st', rw E 53 [x0, x1, x2, x3] st = some (r, st') ∧ R r st' :=
  cx_of (fn := Try.f53) (c := C53) rfl rfl rfl (Nat.le_of_ble_eq_true rfl) fun g hg => h g (hg 0 x0 rfl) (hg 1 x1 rfl) (hg 2 x2 rfl) (hg 3 x3 rfl)

/-! ### slices.medianCmpFunc[braidwork/event.Mark] -/
noncomputable def C54 : Code := (code Try.f54)
noncomputable def S54_0 : Code := .seq ((code Try.f54).fst) (.seq ((code Try.f54).snd.fst) (.seq ((code Try.f54).snd.snd.fst) (.seq ((code Try.f54).snd.snd.snd.fst) (.seq ((code Try.f54).snd.snd.snd.snd.fst) ((code Try.f54).snd.snd.snd.snd.snd)))))
noncomputable def S54_0_e := (⟨by simp only [S54_0, code, Try.f54, Option.getD_some, Code.fst, Code.snd, Code.bin, Code.lin, Code.sin, Code.yes, Code.no]; exact rfl⟩ : PLift (S54_0 = _))
theorem C54_wp {ts : List AVal} {st : ASt} {Q : APost} (h : Wp E 54 S54_0 ts st Q) : Wp E 54 C54 ts st Q := by
  have e : ∀ n ts st, aexec E 54 (rw E) (drawB E 54) n C54 ts st = aexec E 54 (rw E) (drawB E 54) n (S54_0) ts st := by
    intro n ts st
    have e1 : C54 = (.seq (code Try.f54).fst (.seq (code Try.f54).snd.fst (.seq (code Try.f54).snd.snd.fst (.seq (code Try.f54).snd.snd.snd.fst (.seq (code Try.f54).snd.snd.snd.snd.fst (code Try.f54).snd.snd.snd.snd.snd))))) := rfl
    rw [e1] <;>
    simp only [S54_0, aexec_seq, aseq_assoc]
  refine aw_congr e ?_
  exact h
theorem ce_54 {x0 x1 x2 x3 x4 x5 : AVal} {st : ASt} {r : AEnd × ASt} (h : ∀ g : Nat → AVal, g 0 = x0 → g 1 = x1 → g 2 = x2 → g 3 = x3 → g 4 = x4 → g 5 = x5 → Wp E 54 C54 (Sl 41 g) st (fun e ts st => aend E Try.f54 (some (e, ts, st)) = some r)) : rw E 54 [x0, x1, x2, x3, x4, x5] st = some r :=
  ce_of (fn := Try.f54) (c := C54) rfl rfl rfl (Nat.le_of_ble_eq_true rfl) fun g hg => h g (hg 0 x0 rfl) (hg 1 x1 rfl) (hg 2 x2 rfl) (hg 3 x3 rfl) (hg 4 x4 rfl) (hg 5 x5 rfl)
theorem cx_54 {x0 x1 x2 x3 x4 x5 : AVal} {st : ASt} {R : AEnd → ASt → Prop} (h : ∀ g : Nat → AVal, g 0 = x0 → g 1 = x1 → g 2 = x2 → g 3 = x3 → g 4 = x4 → g 5 = x5 → Wp E 54 C54 (Sl 41 g) st (fun e ts st => ∃ r st', aend E Try.f54 (some (e, ts, st)) = some (r, st') ∧ R r st')) : ∃ r st', rw E 54 [x0, x1, x2, x3, x4, x5] st = some (r, st') ∧ R r st' :=
  cx_of (fn := Try.f54) (c := C54) rfl rfl rfl (Nat.le_of_ble_eq_true rfl) fun g hg => h g (hg 0 x0 rfl) (hg 1 x1 rfl) (hg 2 x2 rfl) (hg 3 x3 rfl) (hg 4 x4 rfl) (hg 5 x5 rfl)
theorem cf_55 (a : List AVal) (st : ASt) : callFuncA E.P 55 a st = some (.enter 55 a st) := rfl

/-! ### slices.order2CmpFunc[braidwork/event.Mark] -/
noncomputable def C55 : Code := (code Try.f55)
noncomputable def rg55_1 : Code := (code Try.f55).snd.fst.fst
noncomputable def rq55_1 : Code := (code Try.f55).snd.fst.fst
theorem ex55_1 (call : ACall) (n : Nat) (ts : List AVal) (st : ASt) : aexec E 55 call (drawB E 55) n rg55_1 ts st = aops E 55 call rq55_1.ops rq55_1.ops.toList ts st := by
  have d : drawB E 55 rq55_1.ops = true := by kernel_rfl
  have e : rg55_1 = .region 1 rq55_1.ops true := rfl
  rw [e, aexec, d]; rfl
noncomputable def rq55_1_e := (⟨by simp only [rq55_1, code, Try.f55, Option.getD_some, Code.fst, Code.snd, Code.bin, Code.lin, Code.sin, Code.yes, Code.no, Code.ops]; exact rfl⟩ : PLift (rq55_1.ops = _))
noncomputable def S55_0 : Code := .seq ((code Try.f55).fst) (.seq (rg55_1) (.seq ((code Try.f55).snd.fst.snd) (.seq ((code Try.f55).snd.snd.fst) ((code Try.f55).snd.snd.snd))))
noncomputable def S55_0_e := (⟨by simp only [S55_0, code, Try.f55, Option.getD_some, Code.fst, Code.snd, Code.bin, Code.lin, Code.sin, Code.yes, Code.no]; exact rfl⟩ : PLift (S55_0 = _))
theorem C55_wp {ts : List AVal} {st : ASt} {Q : APost} (h : Wp E 55 S55_0 ts st Q) : Wp E 55 C55 ts st Q := by
  have e : ∀ n ts st, aexec E 55 (rw E) (drawB E 55) n C55 ts st = aexec E 55 (rw E) (drawB E 55) n (S55_0) ts st := by
    intro n ts st
    have e1 : C55 = (.seq (code Try.f55).fst (.seq (.seq rg55_1 (code Try.f55).snd.fst.snd) (.seq (code Try.f55).snd.snd.fst (code Try.f55).snd.snd.snd))) := rfl
    rw [e1] <;>
    simp only [S55_0, aexec_seq, aseq_assoc]
  refine aw_congr e ?_
  exact h
theorem ce_55 {x0 x1 x2 x3 x4 : AVal} {st : ASt} {r : AEnd × ASt} (h : ∀ g : Nat → AVal, g 0 = x0 → g 1 = x1 → g 2 = x2 → g 3 = x3 → g 4 = x4 → Wp E 55 C55 (Sl 32 g) st (fun e ts st => aend E Try.f55 (some (e, ts, st)) = some r)) : rw E 55 [x0, x1, x2, x3, x4] st = some r :=
  ce_of (fn := Try.f55) (c := C55) rfl rfl rfl (Nat.le_of_ble_eq_true rfl) fun g hg => h g (hg 0 x0 rfl) (hg 1 x1 rfl) (hg 2 x2 rfl) (hg 3 x3 rfl) (hg 4 x4 rfl)
theorem cx_55 {x0 x1 x2 x3 x4 : AVal} {st : ASt} {R : AEnd → ASt → Prop} (h : ∀ g : Nat → AVal, g 0 = x0 → g 1 = x1 → g 2 = x2 → g 3 = x3 → g 4 = x4 → Wp E 55 C55 (Sl 32 g) st (fun e ts st => ∃ r st', aend E Try.f55 (some (e, ts, st)) = some (r, st') ∧ R r st')) : ∃ r st', rw E 55 [x0, x1, x2, x3, x4] st = some (r, st') ∧ R r st' :=
  cx_of (fn := Try.f55) (c := C55) rfl rfl rfl (Nat.le_of_ble_eq_true rfl) fun g hg => h g (hg 0 x0 rfl) (hg 1 x1 rfl) (hg 2 x2 rfl) (hg 3 x3 rfl) (hg 4 x4 rfl)
theorem o_st_3 (st : ASt) (s o : Nat) (v : AVal) : storeA E.P 3 st (.ptr s o) v = if v.isCell = true then (blkOf (st.heap s)).bind (fun cs => if o + 1 ≤ cs.length then some (st.set s (some (.cells (cs.set o v)))) else none) else storeU E.P 3 st (.ptr s o) v := st_one rfl st s o v

/-! ### math/bits.Len -/
noncomputable def C38 : Code := (code Try.f38)
noncomputable def S38_0 : Code := .seq ((code Try.f38).fst) (.seq ((code Try.f38).snd.fst) (.seq ((code Try.f38).snd.snd.fst) ((code Try.f38).snd.snd.snd)))
noncomputable def S38_0_e := (⟨by simp only [S38_0, code, Try.f38, Option.getD_some, Code.fst, Code.snd, Code.bin, Code.lin, Code.sin, Code.yes, Code.no]; exact rfl⟩ : PLift (S38_0 = _))
theorem C38_wp {ts : List AVal} {st : ASt} {Q : APost} (h : Wp E 38 S38_0 ts st Q) : Wp E 38 C38 ts st Q := by
  have e : ∀ n ts st, aexec E 38 (rw E) (drawB E 38) n C38 ts st = aexec E 38 (rw E) (drawB E 38) n (S38_0) ts st := by
    intro n ts st
    have e1 : C38 = (.seq (code Try.f38).fst (.seq (code Try.f38).snd.fst (.seq (code Try.f38).snd.snd.fst (code Try.f38).snd.snd.snd))) := rfl
    rw [e1] <;>
    simp only [S38_0, aexec_seq, aseq_assoc]
  refine aw_congr e ?_
  exact h
theorem ce_38 {x0 : AVal} {st : ASt} {r : AEnd × ASt} (h : ∀ g : Nat → AVal, g 0 = x0 → Wp E 38 C38 (Sl 8 g) st (fun e ts st => aend E Try.f38 (some (e, ts, st)) = some r)) : rw E 38 [x0] st = some r :=
  ce_of (fn := Try.f38) (c := C38) rfl rfl rfl (Nat.le_of_ble_eq_true rfl) fun g hg => h g (hg 0 x0 rfl)
theorem cx_38 {x0 : AVal} {st : ASt} {R : AEnd → ASt → Prop} (h : ∀ g : Nat → AVal, g 0 = x0 → Wp E 38 C38 (Sl 8 g) st (fun e ts st => ∃ r st', aend E Try.f38 (some (e, ts, st)) = some (r, st') ∧ R r st')) : ∃ r st', rw E 38 [x0] st = some (r, st') ∧ R r st' :=
  cx_of (fn := Try.f38) (c := C38) rfl rfl rfl (Nat.le_of_ble_eq_true rfl) fun g hg => h g (hg 0 x0 rfl)
theorem o_cv_72_83 (mt : Bool) (n : Int) (st : ASt) : convA E.P mt 72 83 (.lit (.int .u64 n)) st = some (.lit (.int .u32 (IntKind.u32.wrap n)), st) := c_int rfl rfl
theorem cf_48 (a : List AVal) (st : ASt) : callFuncA E.P 48 a st = some (.enter 48 a st) := rfl
theorem cf_49 (a : List AVal) (st : ASt) : callFuncA E.P 49 a st = some (.enter 49 a st) := rfl

/-! ### math/bits.Len64 -/
noncomputable def C49 : Code := (code Try.f49)
noncomputable def S49_0 : Code := .seq ((code Try.f49).fst) (.seq ((code Try.f49).snd.fst.fst) (.seq ((code Try.f49).snd.fst.snd) (.seq ((code Try.f49).snd.snd.fst.fst) (.seq ((code Try.f49).snd.snd.fst.snd) (.seq ((code Try.f49).snd.snd.snd.fst.fst) (.seq ((code Try.f49).snd.snd.snd.fst.snd) (.seq ((code Try.f49).snd.snd.snd.snd.fst) ((code Try.f49).snd.snd.snd.snd.snd))))))))
noncomputable def S49_0_e := (⟨by simp only [S49_0, code, Try.f49, Option.getD_some, Code.fst, Code.snd, Code.bin, Code.lin, Code.sin, Code.yes, Code.no]; exact rfl⟩ : PLift (S49_0 = _))
theorem C49_wp {ts : List AVal} {st : ASt} {Q : APost} (h : Wp E 49 S49_0 ts st Q) : Wp E 49 C49 ts st Q := by
  have e : ∀ n ts st, aexec E 49 (rw E) (drawB E 49) n C49 ts st = aexec E 49 (rw E) (drawB E 49) n (S49_0) ts st := by
    intro n ts st
    have e1 : C49 = (.seq (code Try.f49).fst (.seq (.seq (code Try.f49).snd.fst.fst (code Try.f49).snd.fst.snd) (.seq (.seq (code Try.f49).snd.snd.fst.fst (code Try.f49).snd.snd.fst.snd) (.seq (.seq (code Try.f49).snd.snd.snd.fst.fst (code Try.f49).snd.snd.snd.fst.snd) (.seq (code Try.f49).snd.snd.snd.snd.fst (code Try.f49).snd.snd.snd.snd.snd))))) := rfl
    rw [e1] <;>
    simp only [S49_0, aexec_seq, aseq_assoc]
  refine aw_congr e ?_
  exact h
theorem ce_49 {x0 : AVal} {st : ASt} {r : AEnd × ASt} (h : ∀ g : Nat → AVal, g 0 = x0 → Wp E 49 C49 (Sl 25 g) st (fun e ts st => aend E Try.f49 (some (e, ts, st)) = some r)) : rw E 49 [x0] st = some r :=
  ce_of (fn := Try.f49) (c := C49) rfl rfl rfl (Nat.le_of_ble_eq_true rfl) fun g hg => h g (hg 0 x0 rfl)
theorem cx_49 {x0 : AVal} {st : ASt} {R : AEnd → ASt → Prop} (h : ∀ g : Nat → AVal, g 0 = x0 → Wp E 49 C49 (Sl 25 g) st (fun e ts st => ∃ r st', aend E Try.f49 (some (e, ts, st)) = some (r, st') ∧ R r st')) : ∃ r st', rw E 49 [x0] st = some (r, st') ∧ R r st' :=
  cx_of (fn := Try.f49) (c := C49) rfl rfl rfl (Nat.le_of_ble_eq_true rfl) fun g hg => h g (hg 0 x0 rfl)
theorem o_cv_85_5 (mt : Bool) (n : Int) (st : ASt) : convA E.P mt 85 5 (.lit (.int .u64 n)) st = some (.lit (.int .u8 (IntKind.u8.wrap n)), st) := c_int rfl rfl
theorem o_cv_5_3 (mt : Bool) (n : Int) (st : ASt) : convA E.P mt 5 3 (.lit (.int .u8 n)) st = some (.lit (.int .i64 (IntKind.i64.wrap n)), st) := c_int rfl rfl

/-! ### math/bits.Len32 -/
noncomputable def C48 : Code := (code Try.f48)
noncomputable def S48_0 : Code := .seq ((code Try.f48).fst) (.seq ((code Try.f48).snd.fst.fst) (.seq ((code Try.f48).snd.fst.snd) (.seq ((code Try.f48).snd.snd.fst.fst) (.seq ((code Try.f48).snd.snd.fst.snd) (.seq ((code Try.f48).snd.snd.snd.fst) ((code Try.f48).snd.snd.snd.snd))))))
noncomputable def S48_0_e := (⟨by simp only [S48_0, code, Try.f48, Option.getD_some, Code.fst, Code.snd, Code.bin, Code.lin, Code.sin, Code.yes, Code.no]; exact rfl⟩ : PLift (S48_0 = _))
theorem C48_wp {ts : List AVal} {st : ASt} {Q : APost} (h : Wp E 48 S48_0 ts st Q) : Wp E 48 C48 ts st Q := by
  have e : ∀ n ts st, aexec E 48 (rw E) (drawB E 48) n C48 ts st = aexec E 48 (rw E) (drawB E 48) n (S48_0) ts st := by
    intro n ts st
    have e1 : C48 = (.seq (code Try.f48).fst (.seq (.seq (code Try.f48).snd.fst.fst (code Try.f48).snd.fst.snd) (.seq (.seq (code Try.f48).snd.snd.fst.fst (code Try.f48).snd.snd.fst.snd) (.seq (code Try.f48).snd.snd.snd.fst (code Try.f48).snd.snd.snd.snd)))) := rfl
    rw [e1] <;>
    simp only [S48_0, aexec_seq, aseq_assoc]
  refine aw_congr e ?_
  exact h
theorem ce_48 {x0 : AVal} {st : ASt} {r : AEnd × ASt} (h : ∀ g : Nat → AVal, g 0 = x0 → Wp E 48 C48 (Sl 19 g) st (fun e ts st => aend E Try.f48 (some (e, ts, st)) = some r)) : rw E 48 [x0] st = some r :=
  ce_of (fn := Try.f48) (c := C48) rfl rfl rfl (Nat.le_of_ble_eq_true rfl) fun g hg => h g (hg 0 x0 rfl)
theorem cx_48 {x0 : AVal} {st : ASt} {R : AEnd → ASt → Prop} (h : ∀ g : Nat → AVal, g 0 = x0 → Wp E 48 C48 (Sl 19 g) st (fun e ts st => ∃ r st', aend E Try.f48 (some (e, ts, st)) = some (r, st') ∧ R r st')) : ∃ r st', rw E 48 [x0] st = some (r, st') ∧ R r st' :=
  cx_of (fn := Try.f48) (c := C48) rfl rfl rfl (Nat.le_of_ble_eq_true rfl) fun g hg => h g (hg 0 x0 rfl)
theorem o_cv_83_5 (mt : Bool) (n : Int) (st : ASt) : convA E.P mt 83 5 (.lit (.int .u32 n)) st = some (.lit (.int .u8 (IntKind.u8.wrap n)), st) := c_int rfl rfl

/-! ### braidwork/event.New -/
noncomputable def C14 : Code := (code Try.f14)
noncomputable def S14_0 : Code := .seq ((code Try.f14).fst) (.seq ((code Try.f14).snd.fst) ((code Try.f14).snd.snd.fst.fst))
noncomputable def S14_0_e := (⟨by simp only [S14_0, code, Try.f14, Option.getD_some, Code.fst, Code.snd, Code.bin, Code.lin, Code.sin, Code.yes, Code.no]; exact rfl⟩ : PLift (S14_0 = _))
noncomputable def L14_0 : Code := (code Try.f14).snd.snd.fst.snd.bin.lin
noncomputable def S14_1 : Code := .seq ((code Try.f14).snd.snd.fst.snd.bin.lin.fst) (.seq ((code Try.f14).snd.snd.fst.snd.bin.lin.snd.fst) (.seq ((code Try.f14).snd.snd.fst.snd.bin.lin.snd.snd.fst) ((code Try.f14).snd.snd.fst.snd.bin.lin.snd.snd.snd)))
noncomputable def S14_1_e := (⟨by simp only [S14_1, code, Try.f14, Option.getD_some, Code.fst, Code.snd, Code.bin, Code.lin, Code.sin, Code.yes, Code.no]; exact rfl⟩ : PLift (S14_1 = _))
theorem L14_0_wp {ts : List AVal} {st : ASt} {Q : APost} (h : Wp E 14 S14_1 ts st Q) : Wp E 14 L14_0 ts st Q := by
  have e : ∀ n ts st, aexec E 14 (rw E) (drawB E 14) n L14_0 ts st = aexec E 14 (rw E) (drawB E 14) n (S14_1) ts st := by
    intro n ts st
    have e1 : L14_0 = (.seq (code Try.f14).snd.snd.fst.snd.bin.lin.fst (.seq (code Try.f14).snd.snd.fst.snd.bin.lin.snd.fst (.seq (code Try.f14).snd.snd.fst.snd.bin.lin.snd.snd.fst (code Try.f14).snd.snd.fst.snd.bin.lin.snd.snd.snd))) := rfl
    rw [e1] <;>
    simp only [S14_1, aexec_seq, aseq_assoc]
  refine aw_congr e ?_
  exact h
noncomputable def S14_2 : Code := .seq ((code Try.f14).snd.snd.snd.fst) (.seq ((code Try.f14).snd.snd.snd.snd.fst) ((code Try.f14).snd.snd.snd.snd.snd))
noncomputable def S14_2_e := (⟨by simp only [S14_2, code, Try.f14, Option.getD_some, Code.fst, Code.snd, Code.bin, Code.lin, Code.sin, Code.yes, Code.no]; exact rfl⟩ : PLift (S14_2 = _))
theorem C14_wp {ts : List AVal} {st : ASt} {Q : APost} (h : Wp E 14 S14_0 ts st (Nx (fun ts st => Wp E 14 (.block 0 (.loop L14_0)) ts st (Nx (fun ts st => Wp E 14 S14_2 ts st Q) Q)) Q)) : Wp E 14 C14 ts st Q := by
  have e : ∀ n ts st, aexec E 14 (rw E) (drawB E 14) n C14 ts st = aexec E 14 (rw E) (drawB E 14) n (.seq S14_0 (.seq (.block 0 (.loop L14_0)) (S14_2))) ts st := by
    intro n ts st
    have e1 : C14 = (.seq (code Try.f14).fst (.seq (code Try.f14).snd.fst (.seq (.seq (code Try.f14).snd.snd.fst.fst (.block 0 (.loop L14_0))) (.seq (code Try.f14).snd.snd.snd.fst (.seq (code Try.f14).snd.snd.snd.snd.fst (code Try.f14).snd.snd.snd.snd.snd))))) := rfl
    rw [e1] <;>
    simp only [S14_0, S14_2, aexec_seq, aseq_assoc]
  refine aw_congr e ?_
  have h0 := h
  exact aw_seq (h0.mono fun e ts st hq => by cases e <;> first | exact hq | (have h1 := hq; exact aw_seq h1))
theorem ce_14 {x0 x1 : AVal} {st : ASt} {r : AEnd × ASt} (h : ∀ g : Nat → AVal, g 0 = x0 → g 1 = x1 → Wp E 14 C14 (Sl 43 g) st (fun e ts st => aend E Try.f14 (some (e, ts, st)) = some r)) : rw E 14 [x0, x1] st = some r :=
  ce_of (fn := Try.f14) (c := C14) rfl rfl rfl (Nat.le_of_ble_eq_true rfl) fun g hg => h g (hg 0 x0 rfl) (hg 1 x1 rfl)
theorem cx_14 {x0 x1 : AVal} {st : ASt} {R : AEnd → ASt → Prop} (h : ∀ g : Nat → AVal, g 0 = x0 → g 1 = x1 → Wp E 14 C14 (Sl 43 g) st (fun e ts st => ∃ r st', aend E Try.f14 (some (e, ts, st)) = some (r, st') ∧ R r st')) : ∃ r st', rw E 14 [x0, x1] st = some (r, st') ∧ R r st' :=
  cx_of (fn := Try.f14) (c := C14) rfl rfl rfl (Nat.le_of_ble_eq_true rfl) fun g hg => h g (hg 0 x0 rfl) (hg 1 x1 rfl)
theorem o_al_31 (st : ASt) : allocA E.P 31 st = some (.ptr st.ctr 0, st.new (.cells [.lit (.int .i64 0), .lit (.slice none 0 0)])) := rfl
theorem o_al_40 (st : ASt) : allocA E.P 40 st = some (.ptr st.ctr 0, st.new (.cells [.lit (.int .i64 0), .lit (.bool false)])) := rfl
theorem cf_31 (a : List AVal) (st : ASt) : callFuncA E.P 31 a st = some (.enter 31 a st) := rfl
theorem hint_14_22 : E.hint 14 22 = false := rfl
theorem o_bs_29_1 (ps : List (Nat × AVal)) (st : ASt) : buildSliceA E.P false 29 1 ps st = (setsE true 2 [(.agg [.lit (.int .i64 0), .lit (.bool false)])] ps).map (fun es => (.islice 2 es .exact, st)) := bs_i rfl rfl rfl rfl (by decide) rfl ps st
theorem hint_14_23 : E.hint 14 23 = true := rfl
theorem slt_29 : SlT E.P 29 40 true 2 := ⟨rfl, rfl, ⟨_, _, rfl, rfl, by decide, rfl, rfl⟩, by decide⟩
theorem o_fap_40_1 (s o : Nat) : fieldA E.P 40 (.ptr s o) 1 = some (.ptr s (o + 1)) := rfl
theorem o_fai_40_1 (cs : List AVal) : fieldA E.P 40 (.iptr (.agg cs)) 1 = (cs[1]?).map .iptr := rfl
theorem o_ldp_4 (st : ASt) (s o : Nat) : loadA E.P 4 st (.ptr s o) = (blkOf (st.heap s)).bind (fun cs => cs[o]?) := ld_one rfl rfl st s o
theorem o_ldi_4 (st : ASt) (v : AVal) : loadA E.P 4 st (.iptr v) = if v.isCell = true then some v else none := rfl
theorem o_st_4 (st : ASt) (s o : Nat) (v : AVal) : storeA E.P 4 st (.ptr s o) v = if v.isCell = true then (blkOf (st.heap s)).bind (fun cs => if o + 1 ≤ cs.length then some (st.set s (some (.cells (cs.set o v)))) else none) else storeU E.P 4 st (.ptr s o) v := st_one rfl st s o v
theorem cf_33 (a : List AVal) (st : ASt) : callFuncA E.P 33 a st = some (.enter 33 a st) := rfl
theorem o_bd_31 (ps : List (Nat × AVal)) : buildA E.P 31 ps = (fillA (fun i => ([(0, 1), (1, 1)] : List (Nat × Nat))[i]?) [.lit (.int .i64 0), .lit (.slice none 0 0)] ps).map .agg := rfl
theorem o_st_31 (st : ASt) (s o : Nat) (vs : List AVal) : storeA E.P 31 st (.ptr s o) (.agg vs) = (blkOf (st.heap s)).bind (fun cs => if vs.length = 2 ∧ o + vs.length ≤ cs.length ∧ vs.all AVal.isCell = true then some (st.set s (some (.cells (putL cs o vs)))) else none) := st_agg rfl st s o vs

/-! ### braidwork/braidworklaw08.Marks -/
noncomputable def C15 : Code := (code Try.f15)
noncomputable def S15_0 : Code := .seq ((code Try.f15).fst) (.seq ((code Try.f15).snd.fst) ((code Try.f15).snd.snd.fst.fst))
noncomputable def S15_0_e := (⟨by simp only [S15_0, code, Try.f15, Option.getD_some, Code.fst, Code.snd, Code.bin, Code.lin, Code.sin, Code.yes, Code.no]; exact rfl⟩ : PLift (S15_0 = _))
noncomputable def L15_0 : Code := (code Try.f15).snd.snd.fst.snd.bin.lin
noncomputable def S15_1 : Code := .seq ((code Try.f15).snd.snd.fst.snd.bin.lin.fst) (.seq ((code Try.f15).snd.snd.fst.snd.bin.lin.snd.fst) (.seq ((code Try.f15).snd.snd.fst.snd.bin.lin.snd.snd.fst) ((code Try.f15).snd.snd.fst.snd.bin.lin.snd.snd.snd)))
noncomputable def S15_1_e := (⟨by simp only [S15_1, code, Try.f15, Option.getD_some, Code.fst, Code.snd, Code.bin, Code.lin, Code.sin, Code.yes, Code.no]; exact rfl⟩ : PLift (S15_1 = _))
theorem L15_0_wp {ts : List AVal} {st : ASt} {Q : APost} (h : Wp E 15 S15_1 ts st Q) : Wp E 15 L15_0 ts st Q := by
  have e : ∀ n ts st, aexec E 15 (rw E) (drawB E 15) n L15_0 ts st = aexec E 15 (rw E) (drawB E 15) n (S15_1) ts st := by
    intro n ts st
    have e1 : L15_0 = (.seq (code Try.f15).snd.snd.fst.snd.bin.lin.fst (.seq (code Try.f15).snd.snd.fst.snd.bin.lin.snd.fst (.seq (code Try.f15).snd.snd.fst.snd.bin.lin.snd.snd.fst (code Try.f15).snd.snd.fst.snd.bin.lin.snd.snd.snd))) := rfl
    rw [e1] <;>
    simp only [S15_1, aexec_seq, aseq_assoc]
  refine aw_congr e ?_
  exact h
noncomputable def S15_2 : Code := .seq ((code Try.f15).snd.snd.snd.fst) ((code Try.f15).snd.snd.snd.snd)
noncomputable def S15_2_e := (⟨by simp only [S15_2, code, Try.f15, Option.getD_some, Code.fst, Code.snd, Code.bin, Code.lin, Code.sin, Code.yes, Code.no]; exact rfl⟩ : PLift (S15_2 = _))
theorem C15_wp {ts : List AVal} {st : ASt} {Q : APost} (h : Wp E 15 S15_0 ts st (Nx (fun ts st => Wp E 15 (.block 0 (.loop L15_0)) ts st (Nx (fun ts st => Wp E 15 S15_2 ts st Q) Q)) Q)) : Wp E 15 C15 ts st Q := by
  have e : ∀ n ts st, aexec E 15 (rw E) (drawB E 15) n C15 ts st = aexec E 15 (rw E) (drawB E 15) n (.seq S15_0 (.seq (.block 0 (.loop L15_0)) (S15_2))) ts st := by
    intro n ts st
    have e1 : C15 = (.seq (code Try.f15).fst (.seq (code Try.f15).snd.fst (.seq (.seq (code Try.f15).snd.snd.fst.fst (.block 0 (.loop L15_0))) (.seq (code Try.f15).snd.snd.snd.fst (code Try.f15).snd.snd.snd.snd)))) := rfl
    rw [e1] <;>
    simp only [S15_0, S15_2, aexec_seq, aseq_assoc]
  refine aw_congr e ?_
  have h0 := h
  exact aw_seq (h0.mono fun e ts st hq => by cases e <;> first | exact hq | (have h1 := hq; exact aw_seq h1))
theorem ce_15 {x0 : AVal} {st : ASt} {r : AEnd × ASt} (h : ∀ g : Nat → AVal, g 0 = x0 → Wp E 15 C15 (Sl 23 g) st (fun e ts st => aend E Try.f15 (some (e, ts, st)) = some r)) : rw E 15 [x0] st = some r :=
  ce_of (fn := Try.f15) (c := C15) rfl rfl rfl (Nat.le_of_ble_eq_true rfl) fun g hg => h g (hg 0 x0 rfl)
theorem cx_15 {x0 : AVal} {st : ASt} {R : AEnd → ASt → Prop} (h : ∀ g : Nat → AVal, g 0 = x0 → Wp E 15 C15 (Sl 23 g) st (fun e ts st => ∃ r st', aend E Try.f15 (some (e, ts, st)) = some (r, st') ∧ R r st')) : ∃ r st', rw E 15 [x0] st = some (r, st') ∧ R r st' :=
  cx_of (fn := Try.f15) (c := C15) rfl rfl rfl (Nat.le_of_ble_eq_true rfl) fun g hg => h g (hg 0 x0 rfl)
theorem o_leni_22 (mt : Bool) (ty : TypeId) (cs : Array Bool) (sz : Nat) (es : List AVal) (c : Cap) (st : ASt) : builtinA E.P mt .len #[22] ty cs [.islice sz es c] st = some (.val (.lit (.int .i64 es.length)) st) := rfl
theorem o_lens_22 (mt : Bool) (ty : TypeId) (cs : Array Bool) (s o l sz : Nat) (c : Option Nat) (st : ASt) : builtinA E.P mt .len #[22] ty cs [.slice s o l sz c] st = some (.val (.lit (.int .i64 l)) st) := rfl
theorem o_lenn_22 (mt : Bool) (ty : TypeId) (cs : Array Bool) (a : Option Addr) (st : ASt) : builtinA E.P mt .len #[22] ty cs [.lit (.slice a 0 0)] st = some (.val (.lit (.int .i64 0)) st) := len_nil rfl _ _ _ _ _
theorem o_ixi_22 (sz : Nat) (es : List AVal) (c : Cap) (k : IntKind) (i : Int) : indexA E.P 22 (.islice sz es c) (.lit (.int k i)) = if 0 ≤ i ∧ i < es.length ∧ some 2 = some sz then (es[i.toNat]?).map .iptr else none := rfl
theorem o_ixs_22 (s o l sz : Nat) (c : Option Nat) (k : IntKind) (i : Int) : indexA E.P 22 (.slice s o l sz c) (.lit (.int k i)) = if 0 ≤ i ∧ i < l then some (.ptr s (o + i.toNat * 2)) else none := rfl
theorem o_ldp_26 (st : ASt) (s o : Nat) : loadA E.P 26 st (.ptr s o) = (blkOf (st.heap s)).bind (fun cs => if o + 2 ≤ cs.length then some (.agg ((cs.drop o).take 2)) else none) := ld_agg rfl rfl st s o
theorem o_ldi_26 (st : ASt) (cs : List AVal) : loadA E.P 26 st (.iptr (.agg cs)) = if cs.length = 2 then some (.agg cs) else none := rfl
theorem o_al_26 (st : ASt) : allocA E.P 26 st = some (.ptr st.ctr 0, st.new (.cells [.lit (.int .i8 0), .lit (.bool false)])) := rfl
theorem o_st_26 (st : ASt) (s o : Nat) (vs : List AVal) : storeA E.P 26 st (.ptr s o) (.agg vs) = (blkOf (st.heap s)).bind (fun cs => if vs.length = 2 ∧ o + vs.length ≤ cs.length ∧ vs.all AVal.isCell = true then some (st.set s (some (.cells (putL cs o vs)))) else none) := st_agg rfl st s o vs
theorem o_fap_26_0 (s o : Nat) : fieldA E.P 26 (.ptr s o) 0 = some (.ptr s (o + 0)) := rfl
theorem o_fai_26_0 (cs : List AVal) : fieldA E.P 26 (.iptr (.agg cs)) 0 = (cs[0]?).map .iptr := rfl
theorem o_ldp_24 (st : ASt) (s o : Nat) : loadA E.P 24 st (.ptr s o) = (blkOf (st.heap s)).bind (fun cs => cs[o]?) := ld_one rfl rfl st s o
theorem o_ldi_24 (st : ASt) (v : AVal) : loadA E.P 24 st (.iptr v) = if v.isCell = true then some v else none := rfl
theorem o_cv_24_3 (mt : Bool) (n : Int) (st : ASt) : convA E.P mt 24 3 (.lit (.int .i8 n)) st = some (.lit (.int .i64 (IntKind.i64.wrap n)), st) := c_int rfl rfl
theorem o_fap_26_1 (s o : Nat) : fieldA E.P 26 (.ptr s o) 1 = some (.ptr s (o + 1)) := rfl
theorem o_fai_26_1 (cs : List AVal) : fieldA E.P 26 (.iptr (.agg cs)) 1 = (cs[1]?).map .iptr := rfl
theorem o_bd_40 (ps : List (Nat × AVal)) : buildA E.P 40 ps = (fillA (fun i => ([(0, 1), (1, 1)] : List (Nat × Nat))[i]?) [.lit (.int .i64 0), .lit (.bool false)] ps).map .agg := rfl
theorem hint_15_19 : E.hint 15 19 = false := rfl
theorem hint_15_20 : E.hint 15 20 = false := rfl

/-! ### braidwork/event.Clash -/
noncomputable def C16 : Code := (code Try.f16)
noncomputable def S16_0 : Code := .seq ((code Try.f16).fst) ((code Try.f16).snd.fst.fst)
noncomputable def S16_0_e := (⟨by simp only [S16_0, code, Try.f16, Option.getD_some, Code.fst, Code.snd, Code.bin, Code.lin, Code.sin, Code.yes, Code.no]; exact rfl⟩ : PLift (S16_0 = _))
noncomputable def L16_0 : Code := (code Try.f16).snd.fst.snd.bin.lin
noncomputable def S16_1 : Code := .seq ((code Try.f16).snd.fst.snd.bin.lin.fst) ((code Try.f16).snd.fst.snd.bin.lin.snd.fst)
noncomputable def S16_1_e := (⟨by simp only [S16_1, code, Try.f16, Option.getD_some, Code.fst, Code.snd, Code.bin, Code.lin, Code.sin, Code.yes, Code.no]; exact rfl⟩ : PLift (S16_1 = _))
noncomputable def B16_1 : Code := (code Try.f16).snd.fst.snd.bin.lin.snd.snd.fst.bin
noncomputable def S16_2 : Code := .seq ((code Try.f16).snd.fst.snd.bin.lin.snd.snd.fst.bin.fst) ((code Try.f16).snd.fst.snd.bin.lin.snd.snd.fst.bin.snd.fst)
noncomputable def S16_2_e := (⟨by simp only [S16_2, code, Try.f16, Option.getD_some, Code.fst, Code.snd, Code.bin, Code.lin, Code.sin, Code.yes, Code.no]; exact rfl⟩ : PLift (S16_2 = _))
noncomputable def L16_2 : Code := (code Try.f16).snd.fst.snd.bin.lin.snd.snd.fst.bin.snd.snd.bin.lin
noncomputable def S16_3 : Code := .seq ((code Try.f16).snd.fst.snd.bin.lin.snd.snd.fst.bin.snd.snd.bin.lin.fst) (.seq ((code Try.f16).snd.fst.snd.bin.lin.snd.snd.fst.bin.snd.snd.bin.lin.snd.fst) (.seq ((code Try.f16).snd.fst.snd.bin.lin.snd.snd.fst.bin.snd.snd.bin.lin.snd.snd.fst) ((code Try.f16).snd.fst.snd.bin.lin.snd.snd.fst.bin.snd.snd.bin.lin.snd.snd.snd)))
noncomputable def S16_3_e := (⟨by simp only [S16_3, code, Try.f16, Option.getD_some, Code.fst, Code.snd, Code.bin, Code.lin, Code.sin, Code.yes, Code.no]; exact rfl⟩ : PLift (S16_3 = _))
theorem L16_2_wp {ts : List AVal} {st : ASt} {Q : APost} (h : Wp E 16 S16_3 ts st Q) : Wp E 16 L16_2 ts st Q := by
  have e : ∀ n ts st, aexec E 16 (rw E) (drawB E 16) n L16_2 ts st = aexec E 16 (rw E) (drawB E 16) n (S16_3) ts st := by
    intro n ts st
    have e1 : L16_2 = (.seq (code Try.f16).snd.fst.snd.bin.lin.snd.snd.fst.bin.snd.snd.bin.lin.fst (.seq (code Try.f16).snd.fst.snd.bin.lin.snd.snd.fst.bin.snd.snd.bin.lin.snd.fst (.seq (code Try.f16).snd.fst.snd.bin.lin.snd.snd.fst.bin.snd.snd.bin.lin.snd.snd.fst (code Try.f16).snd.fst.snd.bin.lin.snd.snd.fst.bin.snd.snd.bin.lin.snd.snd.snd))) := rfl
    rw [e1] <;>
    simp only [S16_3, aexec_seq, aseq_assoc]
  refine aw_congr e ?_
  exact h
theorem B16_1_wp {ts : List AVal} {st : ASt} {Q : APost} (h : Wp E 16 S16_2 ts st (Nx (fun ts st => Wp E 16 (.block 2 (.loop L16_2)) ts st Q) Q)) : Wp E 16 B16_1 ts st Q := by
  have e : ∀ n ts st, aexec E 16 (rw E) (drawB E 16) n B16_1 ts st = aexec E 16 (rw E) (drawB E 16) n (.seq S16_2 ((.block 2 (.loop L16_2)))) ts st := by
    intro n ts st
    have e1 : B16_1 = (.seq (code Try.f16).snd.fst.snd.bin.lin.snd.snd.fst.bin.fst (.seq (code Try.f16).snd.fst.snd.bin.lin.snd.snd.fst.bin.snd.fst (.block 2 (.loop L16_2)))) := rfl
    rw [e1] <;>
    simp only [S16_2, aexec_seq, aseq_assoc]
  refine aw_congr e ?_
  have h0 := h
  exact aw_seq h0
noncomputable def S16_4 : Code := (code Try.f16).snd.fst.snd.bin.lin.snd.snd.snd
noncomputable def S16_4_e := (⟨by simp only [S16_4, code, Try.f16, Option.getD_some, Code.fst, Code.snd, Code.bin, Code.lin, Code.sin, Code.yes, Code.no]; exact rfl⟩ : PLift (S16_4 = _))
theorem L16_0_wp {ts : List AVal} {st : ASt} {Q : APost} (h : Wp E 16 S16_1 ts st (Nx (fun ts st => Wp E 16 (.block 1 B16_1) ts st (Nx (fun ts st => Wp E 16 S16_4 ts st Q) Q)) Q)) : Wp E 16 L16_0 ts st Q := by
  have e : ∀ n ts st, aexec E 16 (rw E) (drawB E 16) n L16_0 ts st = aexec E 16 (rw E) (drawB E 16) n (.seq S16_1 (.seq (.block 1 B16_1) (S16_4))) ts st := by
    intro n ts st
    have e1 : L16_0 = (.seq (code Try.f16).snd.fst.snd.bin.lin.fst (.seq (code Try.f16).snd.fst.snd.bin.lin.snd.fst (.seq (.block 1 B16_1) (code Try.f16).snd.fst.snd.bin.lin.snd.snd.snd))) := rfl
    rw [e1] <;>
    simp only [S16_1, S16_4, aexec_seq, aseq_assoc]
  refine aw_congr e ?_
  have h0 := h
  exact aw_seq (h0.mono fun e ts st hq => by cases e <;> first | exact hq | (have h1 := hq; exact aw_seq h1))
noncomputable def S16_5 : Code := .seq ((code Try.f16).snd.snd.fst) ((code Try.f16).snd.snd.snd)
noncomputable def S16_5_e := (⟨by simp only [S16_5, code, Try.f16, Option.getD_some, Code.fst, Code.snd, Code.bin, Code.lin, Code.sin, Code.yes, Code.no]; exact rfl⟩ : PLift (S16_5 = _))
theorem C16_wp {ts : List AVal} {st : ASt} {Q : APost} (h : Wp E 16 S16_0 ts st (Nx (fun ts st => Wp E 16 (.block 0 (.loop L16_0)) ts st (Nx (fun ts st => Wp E 16 S16_5 ts st Q) Q)) Q)) : Wp E 16 C16 ts st Q := by
  have e : ∀ n ts st, aexec E 16 (rw E) (drawB E 16) n C16 ts st = aexec E 16 (rw E) (drawB E 16) n (.seq S16_0 (.seq (.block 0 (.loop L16_0)) (S16_5))) ts st := by
    intro n ts st
    have e1 : C16 = (.seq (code Try.f16).fst (.seq (.seq (code Try.f16).snd.fst.fst (.block 0 (.loop L16_0))) (.seq (code Try.f16).snd.snd.fst (code Try.f16).snd.snd.snd))) := rfl
    rw [e1] <;>
    simp only [S16_0, S16_5, aexec_seq, aseq_assoc]
  refine aw_congr e ?_
  have h0 := h
  exact aw_seq (h0.mono fun e ts st hq => by cases e <;> first | exact hq | (have h1 := hq; exact aw_seq h1))
theorem ce_16 {x0 x1 : AVal} {st : ASt} {r : AEnd × ASt} (h : ∀ g : Nat → AVal, g 0 = x0 → g 1 = x1 → Wp E 16 C16 (Sl 36 g) st (fun e ts st => aend E Try.f16 (some (e, ts, st)) = some r)) : rw E 16 [x0, x1] st = some r :=
  ce_of (fn := Try.f16) (c := C16) rfl rfl rfl (Nat.le_of_ble_eq_true rfl) fun g hg => h g (hg 0 x0 rfl) (hg 1 x1 rfl)
theorem cx_16 {x0 x1 : AVal} {st : ASt} {R : AEnd → ASt → Prop} (h : ∀ g : Nat → AVal, g 0 = x0 → g 1 = x1 → Wp E 16 C16 (Sl 36 g) st (fun e ts st => ∃ r st', aend E Try.f16 (some (e, ts, st)) = some (r, st') ∧ R r st')) : ∃ r st', rw E 16 [x0, x1] st = some (r, st') ∧ R r st' :=
  cx_of (fn := Try.f16) (c := C16) rfl rfl rfl (Nat.le_of_ble_eq_true rfl) fun g hg => h g (hg 0 x0 rfl) (hg 1 x1 rfl)

/-! ### braidwork/event.Depend -/
noncomputable def C17 : Code := (code Try.f17)
noncomputable def S17_0 : Code := .seq ((code Try.f17).fst) (.seq ((code Try.f17).snd.fst) ((code Try.f17).snd.snd))
noncomputable def S17_0_e := (⟨by simp only [S17_0, code, Try.f17, Option.getD_some, Code.fst, Code.snd, Code.bin, Code.lin, Code.sin, Code.yes, Code.no]; exact rfl⟩ : PLift (S17_0 = _))
theorem C17_wp {ts : List AVal} {st : ASt} {Q : APost} (h : Wp E 17 S17_0 ts st Q) : Wp E 17 C17 ts st Q := by
  have e : ∀ n ts st, aexec E 17 (rw E) (drawB E 17) n C17 ts st = aexec E 17 (rw E) (drawB E 17) n (S17_0) ts st := by
    intro n ts st
    have e1 : C17 = (.seq (code Try.f17).fst (.seq (code Try.f17).snd.fst (code Try.f17).snd.snd)) := rfl
    rw [e1] <;>
    simp only [S17_0, aexec_seq, aseq_assoc]
  refine aw_congr e ?_
  exact h
theorem ce_17 {x0 x1 : AVal} {st : ASt} {r : AEnd × ASt} (h : ∀ g : Nat → AVal, g 0 = x0 → g 1 = x1 → Wp E 17 C17 (Sl 17 g) st (fun e ts st => aend E Try.f17 (some (e, ts, st)) = some r)) : rw E 17 [x0, x1] st = some r :=
  ce_of (fn := Try.f17) (c := C17) rfl rfl rfl (Nat.le_of_ble_eq_true rfl) fun g hg => h g (hg 0 x0 rfl) (hg 1 x1 rfl)
theorem cx_17 {x0 x1 : AVal} {st : ASt} {R : AEnd → ASt → Prop} (h : ∀ g : Nat → AVal, g 0 = x0 → g 1 = x1 → Wp E 17 C17 (Sl 17 g) st (fun e ts st => ∃ r st', aend E Try.f17 (some (e, ts, st)) = some (r, st') ∧ R r st')) : ∃ r st', rw E 17 [x0, x1] st = some (r, st') ∧ R r st' :=
  cx_of (fn := Try.f17) (c := C17) rfl rfl rfl (Nat.le_of_ble_eq_true rfl) fun g hg => h g (hg 0 x0 rfl) (hg 1 x1 rfl)
theorem o_fap_31_0 (s o : Nat) : fieldA E.P 31 (.ptr s o) 0 = some (.ptr s (o + 0)) := rfl
theorem o_fai_31_0 (cs : List AVal) : fieldA E.P 31 (.iptr (.agg cs)) 0 = (cs[0]?).map .iptr := rfl
theorem o_fap_31_1 (s o : Nat) : fieldA E.P 31 (.ptr s o) 1 = some (.ptr s (o + 1)) := rfl
theorem o_fai_31_1 (cs : List AVal) : fieldA E.P 31 (.iptr (.agg cs)) 1 = (cs[1]?).map .iptr := rfl
theorem o_ldp_29 (st : ASt) (s o : Nat) : loadA E.P 29 st (.ptr s o) = (blkOf (st.heap s)).bind (fun cs => cs[o]?) := ld_one rfl rfl st s o
theorem o_ldi_29 (st : ASt) (v : AVal) : loadA E.P 29 st (.iptr v) = if v.isCell = true then some v else none := rfl
theorem cf_16 (a : List AVal) (st : ASt) : callFuncA E.P 16 a st = some (.enter 16 a st) := rfl

/-! ### braidwork/event.Same -/
noncomputable def C20 : Code := (code Try.f20)
noncomputable def S20_0 : Code := .seq ((code Try.f20).fst) (.seq ((code Try.f20).snd.fst) ((code Try.f20).snd.snd))
noncomputable def S20_0_e := (⟨by simp only [S20_0, code, Try.f20, Option.getD_some, Code.fst, Code.snd, Code.bin, Code.lin, Code.sin, Code.yes, Code.no]; exact rfl⟩ : PLift (S20_0 = _))
theorem C20_wp {ts : List AVal} {st : ASt} {Q : APost} (h : Wp E 20 S20_0 ts st Q) : Wp E 20 C20 ts st Q := by
  have e : ∀ n ts st, aexec E 20 (rw E) (drawB E 20) n C20 ts st = aexec E 20 (rw E) (drawB E 20) n (S20_0) ts st := by
    intro n ts st
    have e1 : C20 = (.seq (code Try.f20).fst (.seq (code Try.f20).snd.fst (code Try.f20).snd.snd)) := rfl
    rw [e1] <;>
    simp only [S20_0, aexec_seq, aseq_assoc]
  refine aw_congr e ?_
  exact h
theorem ce_20 {x0 x1 : AVal} {st : ASt} {r : AEnd × ASt} (h : ∀ g : Nat → AVal, g 0 = x0 → g 1 = x1 → Wp E 20 C20 (Sl 17 g) st (fun e ts st => aend E Try.f20 (some (e, ts, st)) = some r)) : rw E 20 [x0, x1] st = some r :=
  ce_of (fn := Try.f20) (c := C20) rfl rfl rfl (Nat.le_of_ble_eq_true rfl) fun g hg => h g (hg 0 x0 rfl) (hg 1 x1 rfl)
theorem cx_20 {x0 x1 : AVal} {st : ASt} {R : AEnd → ASt → Prop} (h : ∀ g : Nat → AVal, g 0 = x0 → g 1 = x1 → Wp E 20 C20 (Sl 17 g) st (fun e ts st => ∃ r st', aend E Try.f20 (some (e, ts, st)) = some (r, st') ∧ R r st')) : ∃ r st', rw E 20 [x0, x1] st = some (r, st') ∧ R r st' :=
  cx_of (fn := Try.f20) (c := C20) rfl rfl rfl (Nat.le_of_ble_eq_true rfl) fun g hg => h g (hg 0 x0 rfl) (hg 1 x1 rfl)
theorem cf_19 (a : List AVal) (st : ASt) : callFuncA E.P 19 a st = some (.enter 19 a st) := rfl

/-! ### braidwork/braidworklaw08.touches -/
noncomputable def C13 : Code := (code Try.f13)
noncomputable def S13_0 : Code := .seq ((code Try.f13).fst) ((code Try.f13).snd.fst.fst)
noncomputable def S13_0_e := (⟨by simp only [S13_0, code, Try.f13, Option.getD_some, Code.fst, Code.snd, Code.bin, Code.lin, Code.sin, Code.yes, Code.no]; exact rfl⟩ : PLift (S13_0 = _))
noncomputable def L13_0 : Code := (code Try.f13).snd.fst.snd.bin.lin
noncomputable def rg13_5 : Code := (code Try.f13).snd.fst.snd.bin.lin.snd.snd.fst.bin.snd.snd.yes
noncomputable def rq13_5 : Code := (code Try.f13).snd.fst.snd.bin.lin.snd.snd.fst.bin.snd.snd.yes
theorem ex13_5 (call : ACall) (n : Nat) (ts : List AVal) (st : ASt) : aexec E 13 call (drawB E 13) n rg13_5 ts st = aops E 13 call rq13_5.ops rq13_5.ops.toList ts st := by
  have d : drawB E 13 rq13_5.ops = true := by kernel_rfl
  have e : rg13_5 = .region 5 rq13_5.ops true := rfl
  rw [e, aexec, d]; rfl
noncomputable def rq13_5_e := (⟨by simp only [rq13_5, code, Try.f13, Option.getD_some, Code.fst, Code.snd, Code.bin, Code.lin, Code.sin, Code.yes, Code.no, Code.ops]; exact rfl⟩ : PLift (rq13_5.ops = _))
noncomputable def S13_1 : Code := .seq ((code Try.f13).snd.fst.snd.bin.lin.fst) (.seq ((code Try.f13).snd.fst.snd.bin.lin.snd.fst) (.seq (.block 1 (.seq (code Try.f13).snd.fst.snd.bin.lin.snd.snd.fst.bin.fst (.seq (code Try.f13).snd.fst.snd.bin.lin.snd.snd.fst.bin.snd.fst (.cond (.tmp 17) rg13_5 (code Try.f13).snd.fst.snd.bin.lin.snd.snd.fst.bin.snd.snd.no)))) ((code Try.f13).snd.fst.snd.bin.lin.snd.snd.snd)))
noncomputable def S13_1_e := (⟨by simp only [S13_1, code, Try.f13, Option.getD_some, Code.fst, Code.snd, Code.bin, Code.lin, Code.sin, Code.yes, Code.no]; exact rfl⟩ : PLift (S13_1 = _))
theorem L13_0_wp {ts : List AVal} {st : ASt} {Q : APost} (h : Wp E 13 S13_1 ts st Q) : Wp E 13 L13_0 ts st Q := by
  have e : ∀ n ts st, aexec E 13 (rw E) (drawB E 13) n L13_0 ts st = aexec E 13 (rw E) (drawB E 13) n (S13_1) ts st := by
    intro n ts st
    have e1 : L13_0 = (.seq (code Try.f13).snd.fst.snd.bin.lin.fst (.seq (code Try.f13).snd.fst.snd.bin.lin.snd.fst (.seq (.block 1 (.seq (code Try.f13).snd.fst.snd.bin.lin.snd.snd.fst.bin.fst (.seq (code Try.f13).snd.fst.snd.bin.lin.snd.snd.fst.bin.snd.fst (.cond (.tmp 17) rg13_5 (code Try.f13).snd.fst.snd.bin.lin.snd.snd.fst.bin.snd.snd.no)))) (code Try.f13).snd.fst.snd.bin.lin.snd.snd.snd))) := rfl
    rw [e1] <;>
    simp only [S13_1, aexec_seq, aseq_assoc]
  refine aw_congr e ?_
  exact h
noncomputable def S13_2 : Code := .seq ((code Try.f13).snd.snd.fst) ((code Try.f13).snd.snd.snd)
noncomputable def S13_2_e := (⟨by simp only [S13_2, code, Try.f13, Option.getD_some, Code.fst, Code.snd, Code.bin, Code.lin, Code.sin, Code.yes, Code.no]; exact rfl⟩ : PLift (S13_2 = _))
theorem C13_wp {ts : List AVal} {st : ASt} {Q : APost} (h : Wp E 13 S13_0 ts st (Nx (fun ts st => Wp E 13 (.block 0 (.loop L13_0)) ts st (Nx (fun ts st => Wp E 13 S13_2 ts st Q) Q)) Q)) : Wp E 13 C13 ts st Q := by
  have e : ∀ n ts st, aexec E 13 (rw E) (drawB E 13) n C13 ts st = aexec E 13 (rw E) (drawB E 13) n (.seq S13_0 (.seq (.block 0 (.loop L13_0)) (S13_2))) ts st := by
    intro n ts st
    have e1 : C13 = (.seq (code Try.f13).fst (.seq (.seq (code Try.f13).snd.fst.fst (.block 0 (.loop L13_0))) (.seq (code Try.f13).snd.snd.fst (code Try.f13).snd.snd.snd))) := rfl
    rw [e1] <;>
    simp only [S13_0, S13_2, aexec_seq, aseq_assoc]
  refine aw_congr e ?_
  have h0 := h
  exact aw_seq (h0.mono fun e ts st hq => by cases e <;> first | exact hq | (have h1 := hq; exact aw_seq h1))
theorem ce_13 {x0 x1 : AVal} {st : ASt} {r : AEnd × ASt} (h : ∀ g : Nat → AVal, g 0 = x0 → g 1 = x1 → Wp E 13 C13 (Sl 26 g) st (fun e ts st => aend E Try.f13 (some (e, ts, st)) = some r)) : rw E 13 [x0, x1] st = some r :=
  ce_of (fn := Try.f13) (c := C13) rfl rfl rfl (Nat.le_of_ble_eq_true rfl) fun g hg => h g (hg 0 x0 rfl) (hg 1 x1 rfl)
theorem cx_13 {x0 x1 : AVal} {st : ASt} {R : AEnd → ASt → Prop} (h : ∀ g : Nat → AVal, g 0 = x0 → g 1 = x1 → Wp E 13 C13 (Sl 26 g) st (fun e ts st => ∃ r st', aend E Try.f13 (some (e, ts, st)) = some (r, st') ∧ R r st')) : ∃ r st', rw E 13 [x0, x1] st = some (r, st') ∧ R r st' :=
  cx_of (fn := Try.f13) (c := C13) rfl rfl rfl (Nat.le_of_ble_eq_true rfl) fun g hg => h g (hg 0 x0 rfl) (hg 1 x1 rfl)

/-! ### slices.Equal[[]braidwork/event.Mark,braidwork/event.Mark] -/
noncomputable def C19 : Code := (code Try.f19)
noncomputable def S19_0 : Code := .seq ((code Try.f19).fst) (.seq ((code Try.f19).snd.fst.fst) (.seq ((code Try.f19).snd.fst.snd) ((code Try.f19).snd.snd.fst.fst)))
noncomputable def S19_0_e := (⟨by simp only [S19_0, code, Try.f19, Option.getD_some, Code.fst, Code.snd, Code.bin, Code.lin, Code.sin, Code.yes, Code.no]; exact rfl⟩ : PLift (S19_0 = _))
noncomputable def L19_0 : Code := (code Try.f19).snd.snd.fst.snd.bin.lin
noncomputable def rg19_6 : Code := (code Try.f19).snd.snd.fst.snd.bin.lin.snd.snd.fst.bin.snd.fst
noncomputable def rq19_6 : Code := (code Try.f19).snd.snd.fst.snd.bin.lin.snd.snd.fst.bin.snd.fst
theorem ex19_6 (call : ACall) (n : Nat) (ts : List AVal) (st : ASt) : aexec E 19 call (drawB E 19) n rg19_6 ts st = aops E 19 call rq19_6.ops rq19_6.ops.toList ts st := by
  have d : drawB E 19 rq19_6.ops = true := by kernel_rfl
  have e : rg19_6 = .region 6 rq19_6.ops true := rfl
  rw [e, aexec, d]; rfl
noncomputable def rq19_6_e := (⟨by simp only [rq19_6, code, Try.f19, Option.getD_some, Code.fst, Code.snd, Code.bin, Code.lin, Code.sin, Code.yes, Code.no, Code.ops]; exact rfl⟩ : PLift (rq19_6.ops = _))
noncomputable def S19_1 : Code := .seq ((code Try.f19).snd.snd.fst.snd.bin.lin.fst) (.seq ((code Try.f19).snd.snd.fst.snd.bin.lin.snd.fst) (.seq (.block 1 (.seq (code Try.f19).snd.snd.fst.snd.bin.lin.snd.snd.fst.bin.fst (.seq rg19_6 (code Try.f19).snd.snd.fst.snd.bin.lin.snd.snd.fst.bin.snd.snd))) ((code Try.f19).snd.snd.fst.snd.bin.lin.snd.snd.snd)))
noncomputable def S19_1_e := (⟨by simp only [S19_1, code, Try.f19, Option.getD_some, Code.fst, Code.snd, Code.bin, Code.lin, Code.sin, Code.yes, Code.no]; exact rfl⟩ : PLift (S19_1 = _))
theorem L19_0_wp {ts : List AVal} {st : ASt} {Q : APost} (h : Wp E 19 S19_1 ts st Q) : Wp E 19 L19_0 ts st Q := by
  have e : ∀ n ts st, aexec E 19 (rw E) (drawB E 19) n L19_0 ts st = aexec E 19 (rw E) (drawB E 19) n (S19_1) ts st := by
    intro n ts st
    have e1 : L19_0 = (.seq (code Try.f19).snd.snd.fst.snd.bin.lin.fst (.seq (code Try.f19).snd.snd.fst.snd.bin.lin.snd.fst (.seq (.block 1 (.seq (code Try.f19).snd.snd.fst.snd.bin.lin.snd.snd.fst.bin.fst (.seq rg19_6 (code Try.f19).snd.snd.fst.snd.bin.lin.snd.snd.fst.bin.snd.snd))) (code Try.f19).snd.snd.fst.snd.bin.lin.snd.snd.snd))) := rfl
    rw [e1] <;>
    simp only [S19_1, aexec_seq, aseq_assoc]
  refine aw_congr e ?_
  exact h
noncomputable def S19_2 : Code := .seq ((code Try.f19).snd.snd.snd.fst) ((code Try.f19).snd.snd.snd.snd)
noncomputable def S19_2_e := (⟨by simp only [S19_2, code, Try.f19, Option.getD_some, Code.fst, Code.snd, Code.bin, Code.lin, Code.sin, Code.yes, Code.no]; exact rfl⟩ : PLift (S19_2 = _))
theorem C19_wp {ts : List AVal} {st : ASt} {Q : APost} (h : Wp E 19 S19_0 ts st (Nx (fun ts st => Wp E 19 (.block 0 (.loop L19_0)) ts st (Nx (fun ts st => Wp E 19 S19_2 ts st Q) Q)) Q)) : Wp E 19 C19 ts st Q := by
  have e : ∀ n ts st, aexec E 19 (rw E) (drawB E 19) n C19 ts st = aexec E 19 (rw E) (drawB E 19) n (.seq S19_0 (.seq (.block 0 (.loop L19_0)) (S19_2))) ts st := by
    intro n ts st
    have e1 : C19 = (.seq (code Try.f19).fst (.seq (.seq (code Try.f19).snd.fst.fst (code Try.f19).snd.fst.snd) (.seq (.seq (code Try.f19).snd.snd.fst.fst (.block 0 (.loop L19_0))) (.seq (code Try.f19).snd.snd.snd.fst (code Try.f19).snd.snd.snd.snd)))) := rfl
    rw [e1] <;>
    simp only [S19_0, S19_2, aexec_seq, aseq_assoc]
  refine aw_congr e ?_
  have h0 := h
  exact aw_seq (h0.mono fun e ts st hq => by cases e <;> first | exact hq | (have h1 := hq; exact aw_seq h1))
theorem ce_19 {x0 x1 : AVal} {st : ASt} {r : AEnd × ASt} (h : ∀ g : Nat → AVal, g 0 = x0 → g 1 = x1 → Wp E 19 C19 (Sl 26 g) st (fun e ts st => aend E Try.f19 (some (e, ts, st)) = some r)) : rw E 19 [x0, x1] st = some r :=
  ce_of (fn := Try.f19) (c := C19) rfl rfl rfl (Nat.le_of_ble_eq_true rfl) fun g hg => h g (hg 0 x0 rfl) (hg 1 x1 rfl)
theorem cx_19 {x0 x1 : AVal} {st : ASt} {R : AEnd → ASt → Prop} (h : ∀ g : Nat → AVal, g 0 = x0 → g 1 = x1 → Wp E 19 C19 (Sl 26 g) st (fun e ts st => ∃ r st', aend E Try.f19 (some (e, ts, st)) = some (r, st') ∧ R r st')) : ∃ r st', rw E 19 [x0, x1] st = some (r, st') ∧ R r st' :=
  cx_of (fn := Try.f19) (c := C19) rfl rfl rfl (Nat.le_of_ble_eq_true rfl) fun g hg => h g (hg 0 x0 rfl) (hg 1 x1 rfl)

/-! ### slices.Clone[[]braidwork/braidworklaw08.Touch,braidwork/braidworklaw08.Touch] -/
noncomputable def C18 : Code := (code Try.f18)
noncomputable def S18_0 : Code := .seq ((code Try.f18).fst) (.seq ((code Try.f18).snd.fst.fst) (.seq ((code Try.f18).snd.fst.snd) (.seq ((code Try.f18).snd.snd.fst) ((code Try.f18).snd.snd.snd))))
noncomputable def S18_0_e := (⟨by simp only [S18_0, code, Try.f18, Option.getD_some, Code.fst, Code.snd, Code.bin, Code.lin, Code.sin, Code.yes, Code.no]; exact rfl⟩ : PLift (S18_0 = _))
theorem C18_wp {ts : List AVal} {st : ASt} {Q : APost} (h : Wp E 18 S18_0 ts st Q) : Wp E 18 C18 ts st Q := by
  have e : ∀ n ts st, aexec E 18 (rw E) (drawB E 18) n C18 ts st = aexec E 18 (rw E) (drawB E 18) n (S18_0) ts st := by
    intro n ts st
    have e1 : C18 = (.seq (code Try.f18).fst (.seq (.seq (code Try.f18).snd.fst.fst (code Try.f18).snd.fst.snd) (.seq (code Try.f18).snd.snd.fst (code Try.f18).snd.snd.snd))) := rfl
    rw [e1] <;>
    simp only [S18_0, aexec_seq, aseq_assoc]
  refine aw_congr e ?_
  exact h
theorem ce_18 {x0 : AVal} {st : ASt} {r : AEnd × ASt} (h : ∀ g : Nat → AVal, g 0 = x0 → Wp E 18 C18 (Sl 8 g) st (fun e ts st => aend E Try.f18 (some (e, ts, st)) = some r)) : rw E 18 [x0] st = some r :=
  ce_of (fn := Try.f18) (c := C18) rfl rfl rfl (Nat.le_of_ble_eq_true rfl) fun g hg => h g (hg 0 x0 rfl)
theorem cx_18 {x0 : AVal} {st : ASt} {R : AEnd → ASt → Prop} (h : ∀ g : Nat → AVal, g 0 = x0 → Wp E 18 C18 (Sl 8 g) st (fun e ts st => ∃ r st', aend E Try.f18 (some (e, ts, st)) = some (r, st') ∧ R r st')) : ∃ r st', rw E 18 [x0] st = some (r, st') ∧ R r st' :=
  cx_of (fn := Try.f18) (c := C18) rfl rfl rfl (Nat.le_of_ble_eq_true rfl) fun g hg => h g (hg 0 x0 rfl)
theorem hint_18_5 : E.hint 18 5 = false := rfl
theorem o_bs_22_0 (ps : List (Nat × AVal)) (st : ASt) : buildSliceA E.P false 22 0 ps st = (setsE true 2 [] ps).map (fun es => (.islice 2 es .exact, st)) := bs_i rfl rfl rfl rfl (by decide) rfl ps st
theorem hint_18_7 : E.hint 18 7 = false := rfl
theorem slt_22 : SlT E.P 22 26 true 2 := ⟨rfl, rfl, ⟨_, _, rfl, rfl, by decide, rfl, rfl⟩, by decide⟩

/-! ### braidwork/braidworklaw08.EventNews -/
noncomputable def C5 : Code := (code Try.f5)
noncomputable def S5_0 : Code := .seq ((code Try.f5).fst) (.seq ((code Try.f5).snd.fst.fst) (.seq ((code Try.f5).snd.fst.snd) (.seq ((code Try.f5).snd.snd.fst.fst) (.seq ((code Try.f5).snd.snd.fst.snd) (.seq ((code Try.f5).snd.snd.snd.fst) (.seq ((code Try.f5).snd.snd.snd.snd.fst) ((code Try.f5).snd.snd.snd.snd.snd.fst.fst)))))))
noncomputable def S5_0_e := (⟨by simp only [S5_0, code, Try.f5, Option.getD_some, Code.fst, Code.snd, Code.bin, Code.lin, Code.sin, Code.yes, Code.no]; exact rfl⟩ : PLift (S5_0 = _))
noncomputable def L5_0 : Code := (code Try.f5).snd.snd.snd.snd.snd.fst.snd.bin.lin
noncomputable def S5_1 : Code := .seq ((code Try.f5).snd.snd.snd.snd.snd.fst.snd.bin.lin.fst.fst) (.seq ((code Try.f5).snd.snd.snd.snd.snd.fst.snd.bin.lin.fst.snd) (.seq ((code Try.f5).snd.snd.snd.snd.snd.fst.snd.bin.lin.snd.fst) ((code Try.f5).snd.snd.snd.snd.snd.fst.snd.bin.lin.snd.snd)))
noncomputable def S5_1_e := (⟨by simp only [S5_1, code, Try.f5, Option.getD_some, Code.fst, Code.snd, Code.bin, Code.lin, Code.sin, Code.yes, Code.no]; exact rfl⟩ : PLift (S5_1 = _))
theorem L5_0_wp {ts : List AVal} {st : ASt} {Q : APost} (h : Wp E 5 S5_1 ts st Q) : Wp E 5 L5_0 ts st Q := by
  have e : ∀ n ts st, aexec E 5 (rw E) (drawB E 5) n L5_0 ts st = aexec E 5 (rw E) (drawB E 5) n (S5_1) ts st := by
    intro n ts st
    have e1 : L5_0 = (.seq (.seq (code Try.f5).snd.snd.snd.snd.snd.fst.snd.bin.lin.fst.fst (code Try.f5).snd.snd.snd.snd.snd.fst.snd.bin.lin.fst.snd) (.seq (code Try.f5).snd.snd.snd.snd.snd.fst.snd.bin.lin.snd.fst (code Try.f5).snd.snd.snd.snd.snd.fst.snd.bin.lin.snd.snd)) := rfl
    rw [e1] <;>
    simp only [S5_1, aexec_seq, aseq_assoc]
  refine aw_congr e ?_
  exact h
noncomputable def S5_2 : Code := .seq ((code Try.f5).snd.snd.snd.snd.snd.snd.fst) ((code Try.f5).snd.snd.snd.snd.snd.snd.snd)
noncomputable def S5_2_e := (⟨by simp only [S5_2, code, Try.f5, Option.getD_some, Code.fst, Code.snd, Code.bin, Code.lin, Code.sin, Code.yes, Code.no]; exact rfl⟩ : PLift (S5_2 = _))
theorem C5_wp {ts : List AVal} {st : ASt} {Q : APost} (h : Wp E 5 S5_0 ts st (Nx (fun ts st => Wp E 5 (.block 0 (.loop L5_0)) ts st (Nx (fun ts st => Wp E 5 S5_2 ts st Q) Q)) Q)) : Wp E 5 C5 ts st Q := by
  have e : ∀ n ts st, aexec E 5 (rw E) (drawB E 5) n C5 ts st = aexec E 5 (rw E) (drawB E 5) n (.seq S5_0 (.seq (.block 0 (.loop L5_0)) (S5_2))) ts st := by
    intro n ts st
    have e1 : C5 = (.seq (code Try.f5).fst (.seq (.seq (code Try.f5).snd.fst.fst (code Try.f5).snd.fst.snd) (.seq (.seq (code Try.f5).snd.snd.fst.fst (code Try.f5).snd.snd.fst.snd) (.seq (code Try.f5).snd.snd.snd.fst (.seq (code Try.f5).snd.snd.snd.snd.fst (.seq (.seq (code Try.f5).snd.snd.snd.snd.snd.fst.fst (.block 0 (.loop L5_0))) (.seq (code Try.f5).snd.snd.snd.snd.snd.snd.fst (code Try.f5).snd.snd.snd.snd.snd.snd.snd))))))) := rfl
    rw [e1] <;>
    simp only [S5_0, S5_2, aexec_seq, aseq_assoc]
  refine aw_congr e ?_
  have h0 := h
  exact aw_seq (h0.mono fun e ts st hq => by cases e <;> first | exact hq | (have h1 := hq; exact aw_seq h1))
theorem ce_5 {x0 x1 : AVal} {st : ASt} {r : AEnd × ASt} (h : ∀ g : Nat → AVal, g 0 = x0 → g 1 = x1 → Wp E 5 C5 (Sl 47 g) st (fun e ts st => aend E Try.f5 (some (e, ts, st)) = some r)) : rw E 5 [x0, x1] st = some r :=
  ce_of (fn := Try.f5) (c := C5) rfl rfl rfl (Nat.le_of_ble_eq_true rfl) fun g hg => h g (hg 0 x0 rfl) (hg 1 x1 rfl)
theorem cx_5 {x0 x1 : AVal} {st : ASt} {R : AEnd → ASt → Prop} (h : ∀ g : Nat → AVal, g 0 = x0 → g 1 = x1 → Wp E 5 C5 (Sl 47 g) st (fun e ts st => ∃ r st', aend E Try.f5 (some (e, ts, st)) = some (r, st') ∧ R r st')) : ∃ r st', rw E 5 [x0, x1] st = some (r, st') ∧ R r st' :=
  cx_of (fn := Try.f5) (c := C5) rfl rfl rfl (Nat.le_of_ble_eq_true rfl) fun g hg => h g (hg 0 x0 rfl) (hg 1 x1 rfl)
theorem cf_12 (a : List AVal) (st : ASt) : callFuncA E.P 12 a st = some (.enter 12 a st) := rfl
theorem cf_15 (a : List AVal) (st : ASt) : callFuncA E.P 15 a st = some (.enter 15 a st) := rfl
theorem cf_14 (a : List AVal) (st : ASt) : callFuncA E.P 14 a st = some (.enter 14 a st) := rfl
theorem o_cv_3_24 (mt : Bool) (n : Int) (st : ASt) : convA E.P mt 3 24 (.lit (.int .i64 n)) st = some (.lit (.int .i8 (IntKind.i8.wrap n)), st) := c_int rfl rfl
theorem cf_13 (a : List AVal) (st : ASt) : callFuncA E.P 13 a st = some (.enter 13 a st) := rfl
theorem hint_5_35 : E.hint 5 35 = false := rfl
theorem hint_5_36 : E.hint 5 36 = false := rfl

/-! ### braidwork/braidworklaw08.EventMore -/
noncomputable def C4 : Code := (code Try.f4)
noncomputable def S4_0 : Code := .seq ((code Try.f4).fst) (.seq ((code Try.f4).snd.fst.fst) (.seq ((code Try.f4).snd.fst.snd) (.seq ((code Try.f4).snd.snd.fst.fst) (.seq ((code Try.f4).snd.snd.fst.snd) (.seq ((code Try.f4).snd.snd.snd.fst) ((code Try.f4).snd.snd.snd.snd))))))
noncomputable def S4_0_e := (⟨by simp only [S4_0, code, Try.f4, Option.getD_some, Code.fst, Code.snd, Code.bin, Code.lin, Code.sin, Code.yes, Code.no]; exact rfl⟩ : PLift (S4_0 = _))
theorem C4_wp {ts : List AVal} {st : ASt} {Q : APost} (h : Wp E 4 S4_0 ts st Q) : Wp E 4 C4 ts st Q := by
  have e : ∀ n ts st, aexec E 4 (rw E) (drawB E 4) n C4 ts st = aexec E 4 (rw E) (drawB E 4) n (S4_0) ts st := by
    intro n ts st
    have e1 : C4 = (.seq (code Try.f4).fst (.seq (.seq (code Try.f4).snd.fst.fst (code Try.f4).snd.fst.snd) (.seq (.seq (code Try.f4).snd.snd.fst.fst (code Try.f4).snd.snd.fst.snd) (.seq (code Try.f4).snd.snd.snd.fst (code Try.f4).snd.snd.snd.snd)))) := rfl
    rw [e1] <;>
    simp only [S4_0, aexec_seq, aseq_assoc]
  refine aw_congr e ?_
  exact h
theorem ce_4 {x0 x1 x2 : AVal} {st : ASt} {r : AEnd × ASt} (h : ∀ g : Nat → AVal, g 0 = x0 → g 1 = x1 → g 2 = x2 → Wp E 4 C4 (Sl 40 g) st (fun e ts st => aend E Try.f4 (some (e, ts, st)) = some r)) : rw E 4 [x0, x1, x2] st = some r :=
  ce_of (fn := Try.f4) (c := C4) rfl rfl rfl (Nat.le_of_ble_eq_true rfl) fun g hg => h g (hg 0 x0 rfl) (hg 1 x1 rfl) (hg 2 x2 rfl)
theorem cx_4 {x0 x1 x2 : AVal} {st : ASt} {R : AEnd → ASt → Prop} (h : ∀ g : Nat → AVal, g 0 = x0 → g 1 = x1 → g 2 = x2 → Wp E 4 C4 (Sl 40 g) st (fun e ts st => ∃ r st', aend E Try.f4 (some (e, ts, st)) = some (r, st') ∧ R r st')) : ∃ r st', rw E 4 [x0, x1, x2] st = some (r, st') ∧ R r st' :=
  cx_of (fn := Try.f4) (c := C4) rfl rfl rfl (Nat.le_of_ble_eq_true rfl) fun g hg => h g (hg 0 x0 rfl) (hg 1 x1 rfl) (hg 2 x2 rfl)
theorem cf_18 (a : List AVal) (st : ASt) : callFuncA E.P 18 a st = some (.enter 18 a st) := rfl
theorem hint_4_32 : E.hint 4 32 = false := rfl
theorem o_fv_31_1 (cs : List AVal) : fieldV E.P 31 (.agg cs) 1 = cs[1]? := rfl

/-! ### braidwork/braidworklaw08.EventClashes -/
noncomputable def C3 : Code := (code Try.f3)
noncomputable def S3_0 : Code := .seq ((code Try.f3).fst) (.seq ((code Try.f3).snd.fst.fst) (.seq ((code Try.f3).snd.fst.snd) (.seq ((code Try.f3).snd.snd.fst.fst) (.seq ((code Try.f3).snd.snd.fst.snd) (.seq ((code Try.f3).snd.snd.snd.fst) ((code Try.f3).snd.snd.snd.snd.fst.fst))))))
noncomputable def S3_0_e := (⟨by simp only [S3_0, code, Try.f3, Option.getD_some, Code.fst, Code.snd, Code.bin, Code.lin, Code.sin, Code.yes, Code.no]; exact rfl⟩ : PLift (S3_0 = _))
noncomputable def L3_0 : Code := (code Try.f3).snd.snd.snd.snd.fst.snd.bin.lin
noncomputable def S3_1 : Code := .seq ((code Try.f3).snd.snd.snd.snd.fst.snd.bin.lin.fst) (.seq ((code Try.f3).snd.snd.snd.snd.fst.snd.bin.lin.snd.fst) (.seq ((code Try.f3).snd.snd.snd.snd.fst.snd.bin.lin.snd.snd.fst) ((code Try.f3).snd.snd.snd.snd.fst.snd.bin.lin.snd.snd.snd)))
noncomputable def S3_1_e := (⟨by simp only [S3_1, code, Try.f3, Option.getD_some, Code.fst, Code.snd, Code.bin, Code.lin, Code.sin, Code.yes, Code.no]; exact rfl⟩ : PLift (S3_1 = _))
theorem L3_0_wp {ts : List AVal} {st : ASt} {Q : APost} (h : Wp E 3 S3_1 ts st Q) : Wp E 3 L3_0 ts st Q := by
  have e : ∀ n ts st, aexec E 3 (rw E) (drawB E 3) n L3_0 ts st = aexec E 3 (rw E) (drawB E 3) n (S3_1) ts st := by
    intro n ts st
    have e1 : L3_0 = (.seq (code Try.f3).snd.snd.snd.snd.fst.snd.bin.lin.fst (.seq (code Try.f3).snd.snd.snd.snd.fst.snd.bin.lin.snd.fst (.seq (code Try.f3).snd.snd.snd.snd.fst.snd.bin.lin.snd.snd.fst (code Try.f3).snd.snd.snd.snd.fst.snd.bin.lin.snd.snd.snd))) := rfl
    rw [e1] <;>
    simp only [S3_1, aexec_seq, aseq_assoc]
  refine aw_congr e ?_
  exact h
noncomputable def S3_2 : Code := .seq ((code Try.f3).snd.snd.snd.snd.snd.fst) (.seq ((code Try.f3).snd.snd.snd.snd.snd.snd.fst) ((code Try.f3).snd.snd.snd.snd.snd.snd.snd))
noncomputable def S3_2_e := (⟨by simp only [S3_2, code, Try.f3, Option.getD_some, Code.fst, Code.snd, Code.bin, Code.lin, Code.sin, Code.yes, Code.no]; exact rfl⟩ : PLift (S3_2 = _))
theorem C3_wp {ts : List AVal} {st : ASt} {Q : APost} (h : Wp E 3 S3_0 ts st (Nx (fun ts st => Wp E 3 (.block 0 (.loop L3_0)) ts st (Nx (fun ts st => Wp E 3 S3_2 ts st Q) Q)) Q)) : Wp E 3 C3 ts st Q := by
  have e : ∀ n ts st, aexec E 3 (rw E) (drawB E 3) n C3 ts st = aexec E 3 (rw E) (drawB E 3) n (.seq S3_0 (.seq (.block 0 (.loop L3_0)) (S3_2))) ts st := by
    intro n ts st
    have e1 : C3 = (.seq (code Try.f3).fst (.seq (.seq (code Try.f3).snd.fst.fst (code Try.f3).snd.fst.snd) (.seq (.seq (code Try.f3).snd.snd.fst.fst (code Try.f3).snd.snd.fst.snd) (.seq (code Try.f3).snd.snd.snd.fst (.seq (.seq (code Try.f3).snd.snd.snd.snd.fst.fst (.block 0 (.loop L3_0))) (.seq (code Try.f3).snd.snd.snd.snd.snd.fst (.seq (code Try.f3).snd.snd.snd.snd.snd.snd.fst (code Try.f3).snd.snd.snd.snd.snd.snd.snd))))))) := rfl
    rw [e1] <;>
    simp only [S3_0, S3_2, aexec_seq, aseq_assoc]
  refine aw_congr e ?_
  have h0 := h
  exact aw_seq (h0.mono fun e ts st hq => by cases e <;> first | exact hq | (have h1 := hq; exact aw_seq h1))
theorem ce_3 {x0 x1 x2 x3 : AVal} {st : ASt} {r : AEnd × ASt} (h : ∀ g : Nat → AVal, g 0 = x0 → g 1 = x1 → g 2 = x2 → g 3 = x3 → Wp E 3 C3 (Sl 101 g) st (fun e ts st => aend E Try.f3 (some (e, ts, st)) = some r)) : rw E 3 [x0, x1, x2, x3] st = some r :=
  ce_of (fn := Try.f3) (c := C3) rfl rfl rfl (Nat.le_of_ble_eq_true rfl) fun g hg => h g (hg 0 x0 rfl) (hg 1 x1 rfl) (hg 2 x2 rfl) (hg 3 x3 rfl)
theorem cx_3 {x0 x1 x2 x3 : AVal} {st : ASt} {R : AEnd → ASt → Prop} (h : ∀ g : Nat → AVal, g 0 = x0 → g 1 = x1 → g 2 = x2 → g 3 = x3 → Wp E 3 C3 (Sl 101 g) st (fun e ts st => ∃ r st', aend E Try.f3 (some (e, ts, st)) = some (r, st') ∧ R r st')) : ∃ r st', rw E 3 [x0, x1, x2, x3] st = some (r, st') ∧ R r st' :=
  cx_of (fn := Try.f3) (c := C3) rfl rfl rfl (Nat.le_of_ble_eq_true rfl) fun g hg => h g (hg 0 x0 rfl) (hg 1 x1 rfl) (hg 2 x2 rfl) (hg 3 x3 rfl)
theorem o_eqb_4_eql (xo yo : Operand) (a b : Bool) : binA E.P .eql 4 xo yo (.lit (.bool a)) (.lit (.bool b)) = some (.lit (.bool (a == b))) := b_eqb rfl
theorem o_ldp_31 (st : ASt) (s o : Nat) : loadA E.P 31 st (.ptr s o) = (blkOf (st.heap s)).bind (fun cs => if o + 2 ≤ cs.length then some (.agg ((cs.drop o).take 2)) else none) := ld_agg rfl rfl st s o
theorem o_ldi_31 (st : ASt) (cs : List AVal) : loadA E.P 31 st (.iptr (.agg cs)) = if cs.length = 2 then some (.agg cs) else none := rfl
theorem cf_17 (a : List AVal) (st : ASt) : callFuncA E.P 17 a st = some (.enter 17 a st) := rfl

/-! ### braidwork/braidworklaw08.EventSames -/
noncomputable def C6 : Code := (code Try.f6)
noncomputable def S6_0 : Code := .seq ((code Try.f6).fst) (.seq ((code Try.f6).snd.fst.fst) (.seq ((code Try.f6).snd.fst.snd) (.seq ((code Try.f6).snd.snd.fst.fst) (.seq ((code Try.f6).snd.snd.fst.snd) (.seq ((code Try.f6).snd.snd.snd.fst) (.seq ((code Try.f6).snd.snd.snd.snd.fst) ((code Try.f6).snd.snd.snd.snd.snd.fst.fst)))))))
noncomputable def S6_0_e := (⟨by simp only [S6_0, code, Try.f6, Option.getD_some, Code.fst, Code.snd, Code.bin, Code.lin, Code.sin, Code.yes, Code.no]; exact rfl⟩ : PLift (S6_0 = _))
noncomputable def L6_0 : Code := (code Try.f6).snd.snd.snd.snd.snd.fst.snd.bin.lin
noncomputable def S6_1 : Code := .seq ((code Try.f6).snd.snd.snd.snd.snd.fst.snd.bin.lin.fst.fst) (.seq ((code Try.f6).snd.snd.snd.snd.snd.fst.snd.bin.lin.fst.snd) (.seq ((code Try.f6).snd.snd.snd.snd.snd.fst.snd.bin.lin.snd.fst) ((code Try.f6).snd.snd.snd.snd.snd.fst.snd.bin.lin.snd.snd)))
noncomputable def S6_1_e := (⟨by simp only [S6_1, code, Try.f6, Option.getD_some, Code.fst, Code.snd, Code.bin, Code.lin, Code.sin, Code.yes, Code.no]; exact rfl⟩ : PLift (S6_1 = _))
theorem L6_0_wp {ts : List AVal} {st : ASt} {Q : APost} (h : Wp E 6 S6_1 ts st Q) : Wp E 6 L6_0 ts st Q := by
  have e : ∀ n ts st, aexec E 6 (rw E) (drawB E 6) n L6_0 ts st = aexec E 6 (rw E) (drawB E 6) n (S6_1) ts st := by
    intro n ts st
    have e1 : L6_0 = (.seq (.seq (code Try.f6).snd.snd.snd.snd.snd.fst.snd.bin.lin.fst.fst (code Try.f6).snd.snd.snd.snd.snd.fst.snd.bin.lin.fst.snd) (.seq (code Try.f6).snd.snd.snd.snd.snd.fst.snd.bin.lin.snd.fst (code Try.f6).snd.snd.snd.snd.snd.fst.snd.bin.lin.snd.snd)) := rfl
    rw [e1] <;>
    simp only [S6_1, aexec_seq, aseq_assoc]
  refine aw_congr e ?_
  exact h
noncomputable def rg6_13 : Code := (code Try.f6).snd.snd.snd.snd.snd.snd.fst
noncomputable def rq6_13 : Code := (code Try.f6).snd.snd.snd.snd.snd.snd.fst
theorem ex6_13 (call : ACall) (n : Nat) (ts : List AVal) (st : ASt) : aexec E 6 call (drawB E 6) n rg6_13 ts st = aopsP E 6 call rq6_13.ops [.one 0 [], .one 1 [], .one 3 [], .one 2 [], .one 4 [], .one 5 [], .one 6 [], .one 7 [], .one 8 [], .one 9 [], .one 11 [], .one 10 [6, 8], .one 12 [6, 8], .one 13 [6, 8], .one 14 [6], .one 15 [], .one 16 [], .one 17 []] ts st := by
  have d : drawB E 6 rq6_13.ops = false := by kernel_rfl
  have d2 : drawPlan E 6 rq6_13.ops = some [.one 0 [], .one 1 [], .one 3 [], .one 2 [], .one 4 [], .one 5 [], .one 6 [], .one 7 [], .one 8 [], .one 9 [], .one 11 [], .one 10 [6, 8], .one 12 [6, 8], .one 13 [6, 8], .one 14 [6], .one 15 [], .one 16 [], .one 17 []] := by kernel_rfl
  have e : rg6_13 = .region 13 rq6_13.ops true := rfl
  rw [e, aexec, d, d2]; rfl
noncomputable def rq6_13_e := (⟨by simp only [rq6_13, code, Try.f6, Option.getD_some, Code.fst, Code.snd, Code.bin, Code.lin, Code.sin, Code.yes, Code.no, Code.ops]; exact rfl⟩ : PLift (rq6_13.ops = _))
noncomputable def S6_2 : Code := .seq (rg6_13) ((code Try.f6).snd.snd.snd.snd.snd.snd.snd)
noncomputable def S6_2_e := (⟨by simp only [S6_2, code, Try.f6, Option.getD_some, Code.fst, Code.snd, Code.bin, Code.lin, Code.sin, Code.yes, Code.no]; exact rfl⟩ : PLift (S6_2 = _))
theorem C6_wp {ts : List AVal} {st : ASt} {Q : APost} (h : Wp E 6 S6_0 ts st (Nx (fun ts st => Wp E 6 (.block 0 (.loop L6_0)) ts st (Nx (fun ts st => Wp E 6 S6_2 ts st Q) Q)) Q)) : Wp E 6 C6 ts st Q := by
  have e : ∀ n ts st, aexec E 6 (rw E) (drawB E 6) n C6 ts st = aexec E 6 (rw E) (drawB E 6) n (.seq S6_0 (.seq (.block 0 (.loop L6_0)) (S6_2))) ts st := by
    intro n ts st
    have e1 : C6 = (.seq (code Try.f6).fst (.seq (.seq (code Try.f6).snd.fst.fst (code Try.f6).snd.fst.snd) (.seq (.seq (code Try.f6).snd.snd.fst.fst (code Try.f6).snd.snd.fst.snd) (.seq (code Try.f6).snd.snd.snd.fst (.seq (code Try.f6).snd.snd.snd.snd.fst (.seq (.seq (code Try.f6).snd.snd.snd.snd.snd.fst.fst (.block 0 (.loop L6_0))) (.seq rg6_13 (code Try.f6).snd.snd.snd.snd.snd.snd.snd))))))) := rfl
    rw [e1] <;>
    simp only [S6_0, S6_2, aexec_seq, aseq_assoc]
  refine aw_congr e ?_
  have h0 := h
  exact aw_seq (h0.mono fun e ts st hq => by cases e <;> first | exact hq | (have h1 := hq; exact aw_seq h1))
theorem ce_6 {x0 x1 x2 x3 : AVal} {st : ASt} {r : AEnd × ASt} (h : ∀ g : Nat → AVal, g 0 = x0 → g 1 = x1 → g 2 = x2 → g 3 = x3 → Wp E 6 C6 (Sl 86 g) st (fun e ts st => aend E Try.f6 (some (e, ts, st)) = some r)) : rw E 6 [x0, x1, x2, x3] st = some r :=
  ce_of (fn := Try.f6) (c := C6) rfl rfl rfl (Nat.le_of_ble_eq_true rfl) fun g hg => h g (hg 0 x0 rfl) (hg 1 x1 rfl) (hg 2 x2 rfl) (hg 3 x3 rfl)
theorem cx_6 {x0 x1 x2 x3 : AVal} {st : ASt} {R : AEnd → ASt → Prop} (h : ∀ g : Nat → AVal, g 0 = x0 → g 1 = x1 → g 2 = x2 → g 3 = x3 → Wp E 6 C6 (Sl 86 g) st (fun e ts st => ∃ r st', aend E Try.f6 (some (e, ts, st)) = some (r, st') ∧ R r st')) : ∃ r st', rw E 6 [x0, x1, x2, x3] st = some (r, st') ∧ R r st' :=
  cx_of (fn := Try.f6) (c := C6) rfl rfl rfl (Nat.le_of_ble_eq_true rfl) fun g hg => h g (hg 0 x0 rfl) (hg 1 x1 rfl) (hg 2 x2 rfl) (hg 3 x3 rfl)
theorem cf_20 (a : List AVal) (st : ASt) : callFuncA E.P 20 a st = some (.enter 20 a st) := rfl
theorem hint_6_81 : E.hint 6 81 = false := rfl

/-! ### braidwork/braidworklaw08.EventTurns -/
noncomputable def C7 : Code := (code Try.f7)
noncomputable def rg7_6 : Code := (code Try.f7).snd.snd.snd.snd.fst
noncomputable def rq7_6 : Code := (code Try.f7).snd.snd.snd.snd.fst
theorem ex7_6 (call : ACall) (n : Nat) (ts : List AVal) (st : ASt) : aexec E 7 call (drawB E 7) n rg7_6 ts st = aopsP E 7 call rq7_6.ops [.one 0 [], .one 1 [], .one 2 [], .one 4 [], .one 5 [], .one 6 [], .one 3 [6], .one 7 [], .one 8 []] ts st := by
  have d : drawB E 7 rq7_6.ops = false := by kernel_rfl
  have d2 : drawPlan E 7 rq7_6.ops = some [.one 0 [], .one 1 [], .one 2 [], .one 4 [], .one 5 [], .one 6 [], .one 3 [6], .one 7 [], .one 8 []] := by kernel_rfl
  have e : rg7_6 = .region 6 rq7_6.ops true := rfl
  rw [e, aexec, d, d2]; rfl
noncomputable def rq7_6_e := (⟨by simp only [rq7_6, code, Try.f7, Option.getD_some, Code.fst, Code.snd, Code.bin, Code.lin, Code.sin, Code.yes, Code.no, Code.ops]; exact rfl⟩ : PLift (rq7_6.ops = _))
noncomputable def S7_0 : Code := .seq ((code Try.f7).fst) (.seq ((code Try.f7).snd.fst.fst) (.seq ((code Try.f7).snd.fst.snd) (.seq ((code Try.f7).snd.snd.fst.fst) (.seq ((code Try.f7).snd.snd.fst.snd) (.seq ((code Try.f7).snd.snd.snd.fst) (.seq (rg7_6) (.seq ((code Try.f7).snd.snd.snd.snd.snd.fst) ((code Try.f7).snd.snd.snd.snd.snd.snd))))))))
noncomputable def S7_0_e := (⟨by simp only [S7_0, code, Try.f7, Option.getD_some, Code.fst, Code.snd, Code.bin, Code.lin, Code.sin, Code.yes, Code.no]; exact rfl⟩ : PLift (S7_0 = _))
theorem C7_wp {ts : List AVal} {st : ASt} {Q : APost} (h : Wp E 7 S7_0 ts st Q) : Wp E 7 C7 ts st Q := by
  have e : ∀ n ts st, aexec E 7 (rw E) (drawB E 7) n C7 ts st = aexec E 7 (rw E) (drawB E 7) n (S7_0) ts st := by
    intro n ts st
    have e1 : C7 = (.seq (code Try.f7).fst (.seq (.seq (code Try.f7).snd.fst.fst (code Try.f7).snd.fst.snd) (.seq (.seq (code Try.f7).snd.snd.fst.fst (code Try.f7).snd.snd.fst.snd) (.seq (code Try.f7).snd.snd.snd.fst (.seq rg7_6 (.seq (code Try.f7).snd.snd.snd.snd.snd.fst (code Try.f7).snd.snd.snd.snd.snd.snd)))))) := rfl
    rw [e1] <;>
    simp only [S7_0, aexec_seq, aseq_assoc]
  refine aw_congr e ?_
  exact h
theorem ce_7 {x0 x1 : AVal} {st : ASt} {r : AEnd × ASt} (h : ∀ g : Nat → AVal, g 0 = x0 → g 1 = x1 → Wp E 7 C7 (Sl 37 g) st (fun e ts st => aend E Try.f7 (some (e, ts, st)) = some r)) : rw E 7 [x0, x1] st = some r :=
  ce_of (fn := Try.f7) (c := C7) rfl rfl rfl (Nat.le_of_ble_eq_true rfl) fun g hg => h g (hg 0 x0 rfl) (hg 1 x1 rfl)
theorem cx_7 {x0 x1 : AVal} {st : ASt} {R : AEnd → ASt → Prop} (h : ∀ g : Nat → AVal, g 0 = x0 → g 1 = x1 → Wp E 7 C7 (Sl 37 g) st (fun e ts st => ∃ r st', aend E Try.f7 (some (e, ts, st)) = some (r, st') ∧ R r st')) : ∃ r st', rw E 7 [x0, x1] st = some (r, st') ∧ R r st' :=
  cx_of (fn := Try.f7) (c := C7) rfl rfl rfl (Nat.le_of_ble_eq_true rfl) fun g hg => h g (hg 0 x0 rfl) (hg 1 x1 rfl)
theorem o_sl_22_lh {es : List AVal} {c : Cap} {k k2 : IntKind} {l h : Int} (h0 : 0 ≤ l) (h1 : l ≤ h) (h2 : h ≤ es.length) : sliceA E.P 22 (.islice 2 es c) (some (.lit (.int k l))) (some (.lit (.int k2 h))) none = some (.islice 2 ((es.drop l.toNat).take (h.toNat - l.toNat)) (cutCap es.length h.toNat l.toNat c none)) := sl_lh rfl rfl h0 h1 h2
theorem o_sl_22_l {es : List AVal} {c : Cap} {k : IntKind} {l : Int} (h0 : 0 ≤ l) (h1 : l ≤ es.length) : sliceA E.P 22 (.islice 2 es c) (some (.lit (.int k l))) none none = some (.islice 2 (es.drop l.toNat) (cutCap es.length es.length l.toNat c none)) := sl_l rfl rfl h0 h1
theorem o_sl_22_h {es : List AVal} {c : Cap} {k : IntKind} {h : Int} (h0 : 0 ≤ h) (h1 : h ≤ es.length) : sliceA E.P 22 (.islice 2 es c) none (some (.lit (.int k h))) none = some (.islice 2 (es.take h.toNat) (cutCap es.length h.toNat 0 c none)) := sl_h rfl rfl h0 h1
theorem hint_7_29 : E.hint 7 29 = false := rfl

/-! ### braidwork/braidworklaw08.Awake -/
noncomputable def C12 : Code := (code Try.f12)
noncomputable def S12_0 : Code := .seq ((code Try.f12).fst) (.seq ((code Try.f12).snd.fst) (.seq ((code Try.f12).snd.snd.fst) ((code Try.f12).snd.snd.snd)))
noncomputable def S12_0_e := (⟨by simp only [S12_0, code, Try.f12, Option.getD_some, Code.fst, Code.snd, Code.bin, Code.lin, Code.sin, Code.yes, Code.no]; exact rfl⟩ : PLift (S12_0 = _))
theorem C12_wp {ts : List AVal} {st : ASt} {Q : APost} (h : Wp E 12 S12_0 ts st Q) : Wp E 12 C12 ts st Q := by
  have e : ∀ n ts st, aexec E 12 (rw E) (drawB E 12) n C12 ts st = aexec E 12 (rw E) (drawB E 12) n (S12_0) ts st := by
    intro n ts st
    have e1 : C12 = (.seq (code Try.f12).fst (.seq (code Try.f12).snd.fst (.seq (code Try.f12).snd.snd.fst (code Try.f12).snd.snd.snd))) := rfl
    rw [e1] <;>
    simp only [S12_0, aexec_seq, aseq_assoc]
  refine aw_congr e ?_
  exact h
theorem ce_12 {st : ASt} {r : AEnd × ASt} (h : ∀ g : Nat → AVal, Wp E 12 C12 (Sl 28 g) st (fun e ts st => aend E Try.f12 (some (e, ts, st)) = some r)) : rw E 12 [] st = some r :=
  ce_of (fn := Try.f12) (c := C12) rfl rfl rfl (Nat.le_of_ble_eq_true rfl) fun g hg => h g 
theorem cx_12 {st : ASt} {R : AEnd → ASt → Prop} (h : ∀ g : Nat → AVal, Wp E 12 C12 (Sl 28 g) st (fun e ts st => ∃ r st', aend E Try.f12 (some (e, ts, st)) = some (r, st') ∧ R r st')) : ∃ r st', rw E 12 [] st = some (r, st') ∧ R r st' :=
  cx_of (fn := Try.f12) (c := C12) rfl rfl rfl (Nat.le_of_ble_eq_true rfl) fun g hg => h g 
theorem hint_12_4 : E.hint 12 4 = false := rfl
theorem hint_12_7 : E.hint 12 7 = false := rfl
theorem hint_12_25 : E.hint 12 25 = false := rfl

/-! ### braidwork/clock.New -/
noncomputable def C24 : Code := (code Try.f24)
noncomputable def S24_0 : Code := .seq ((code Try.f24).fst) (.seq ((code Try.f24).snd.fst) ((code Try.f24).snd.snd.fst.fst))
noncomputable def S24_0_e := (⟨by simp only [S24_0, code, Try.f24, Option.getD_some, Code.fst, Code.snd, Code.bin, Code.lin, Code.sin, Code.yes, Code.no]; exact rfl⟩ : PLift (S24_0 = _))
noncomputable def L24_0 : Code := (code Try.f24).snd.snd.fst.snd.bin.lin
noncomputable def S24_1 : Code := .seq ((code Try.f24).snd.snd.fst.snd.bin.lin.fst) (.seq ((code Try.f24).snd.snd.fst.snd.bin.lin.snd.fst) (.seq ((code Try.f24).snd.snd.fst.snd.bin.lin.snd.snd.fst) ((code Try.f24).snd.snd.fst.snd.bin.lin.snd.snd.snd)))
noncomputable def S24_1_e := (⟨by simp only [S24_1, code, Try.f24, Option.getD_some, Code.fst, Code.snd, Code.bin, Code.lin, Code.sin, Code.yes, Code.no]; exact rfl⟩ : PLift (S24_1 = _))
theorem L24_0_wp {ts : List AVal} {st : ASt} {Q : APost} (h : Wp E 24 S24_1 ts st Q) : Wp E 24 L24_0 ts st Q := by
  have e : ∀ n ts st, aexec E 24 (rw E) (drawB E 24) n L24_0 ts st = aexec E 24 (rw E) (drawB E 24) n (S24_1) ts st := by
    intro n ts st
    have e1 : L24_0 = (.seq (code Try.f24).snd.snd.fst.snd.bin.lin.fst (.seq (code Try.f24).snd.snd.fst.snd.bin.lin.snd.fst (.seq (code Try.f24).snd.snd.fst.snd.bin.lin.snd.snd.fst (code Try.f24).snd.snd.fst.snd.bin.lin.snd.snd.snd))) := rfl
    rw [e1] <;>
    simp only [S24_1, aexec_seq, aseq_assoc]
  refine aw_congr e ?_
  exact h
noncomputable def S24_2 : Code := .seq ((code Try.f24).snd.snd.snd.fst) (.seq ((code Try.f24).snd.snd.snd.snd.fst) ((code Try.f24).snd.snd.snd.snd.snd.fst.fst))
noncomputable def S24_2_e := (⟨by simp only [S24_2, code, Try.f24, Option.getD_some, Code.fst, Code.snd, Code.bin, Code.lin, Code.sin, Code.yes, Code.no]; exact rfl⟩ : PLift (S24_2 = _))
noncomputable def L24_1 : Code := (code Try.f24).snd.snd.snd.snd.snd.fst.snd.bin.lin
noncomputable def rg24_14 : Code := (code Try.f24).snd.snd.snd.snd.snd.fst.snd.bin.lin.snd.snd.fst.bin.snd.snd.yes.snd
noncomputable def rq24_14 : Code := (code Try.f24).snd.snd.snd.snd.snd.fst.snd.bin.lin.snd.snd.fst.bin.snd.snd.yes.snd
theorem ex24_14 (call : ACall) (n : Nat) (ts : List AVal) (st : ASt) : aexec E 24 call (drawB E 24) n rg24_14 ts st = aops E 24 call rq24_14.ops rq24_14.ops.toList ts st := by
  have d : drawB E 24 rq24_14.ops = true := by kernel_rfl
  have e : rg24_14 = .region 14 rq24_14.ops true := rfl
  rw [e, aexec, d]; rfl
noncomputable def rq24_14_e := (⟨by simp only [rq24_14, code, Try.f24, Option.getD_some, Code.fst, Code.snd, Code.bin, Code.lin, Code.sin, Code.yes, Code.no, Code.ops]; exact rfl⟩ : PLift (rq24_14.ops = _))
noncomputable def S24_3 : Code := .seq ((code Try.f24).snd.snd.snd.snd.snd.fst.snd.bin.lin.fst) (.seq ((code Try.f24).snd.snd.snd.snd.snd.fst.snd.bin.lin.snd.fst) (.seq (.block 3 (.seq (code Try.f24).snd.snd.snd.snd.snd.fst.snd.bin.lin.snd.snd.fst.bin.fst (.seq (code Try.f24).snd.snd.snd.snd.snd.fst.snd.bin.lin.snd.snd.fst.bin.snd.fst (.cond (.tmp 37) (.seq (code Try.f24).snd.snd.snd.snd.snd.fst.snd.bin.lin.snd.snd.fst.bin.snd.snd.yes.fst rg24_14) (code Try.f24).snd.snd.snd.snd.snd.fst.snd.bin.lin.snd.snd.fst.bin.snd.snd.no)))) ((code Try.f24).snd.snd.snd.snd.snd.fst.snd.bin.lin.snd.snd.snd)))
noncomputable def S24_3_e := (⟨by simp only [S24_3, code, Try.f24, Option.getD_some, Code.fst, Code.snd, Code.bin, Code.lin, Code.sin, Code.yes, Code.no]; exact rfl⟩ : PLift (S24_3 = _))
theorem L24_1_wp {ts : List AVal} {st : ASt} {Q : APost} (h : Wp E 24 S24_3 ts st Q) : Wp E 24 L24_1 ts st Q := by
  have e : ∀ n ts st, aexec E 24 (rw E) (drawB E 24) n L24_1 ts st = aexec E 24 (rw E) (drawB E 24) n (S24_3) ts st := by
    intro n ts st
    have e1 : L24_1 = (.seq (code Try.f24).snd.snd.snd.snd.snd.fst.snd.bin.lin.fst (.seq (code Try.f24).snd.snd.snd.snd.snd.fst.snd.bin.lin.snd.fst (.seq (.block 3 (.seq (code Try.f24).snd.snd.snd.snd.snd.fst.snd.bin.lin.snd.snd.fst.bin.fst (.seq (code Try.f24).snd.snd.snd.snd.snd.fst.snd.bin.lin.snd.snd.fst.bin.snd.fst (.cond (.tmp 37) (.seq (code Try.f24).snd.snd.snd.snd.snd.fst.snd.bin.lin.snd.snd.fst.bin.snd.snd.yes.fst rg24_14) (code Try.f24).snd.snd.snd.snd.snd.fst.snd.bin.lin.snd.snd.fst.bin.snd.snd.no)))) (code Try.f24).snd.snd.snd.snd.snd.fst.snd.bin.lin.snd.snd.snd))) := rfl
    rw [e1] <;>
    simp only [S24_3, aexec_seq, aseq_assoc]
  refine aw_congr e ?_
  exact h
noncomputable def S24_4 : Code := .seq ((code Try.f24).snd.snd.snd.snd.snd.snd.fst) ((code Try.f24).snd.snd.snd.snd.snd.snd.snd)
noncomputable def S24_4_e := (⟨by simp only [S24_4, code, Try.f24, Option.getD_some, Code.fst, Code.snd, Code.bin, Code.lin, Code.sin, Code.yes, Code.no]; exact rfl⟩ : PLift (S24_4 = _))
theorem C24_wp {ts : List AVal} {st : ASt} {Q : APost} (h : Wp E 24 S24_0 ts st (Nx (fun ts st => Wp E 24 (.block 0 (.loop L24_0)) ts st (Nx (fun ts st => Wp E 24 S24_2 ts st (Nx (fun ts st => Wp E 24 (.block 2 (.loop L24_1)) ts st (Nx (fun ts st => Wp E 24 S24_4 ts st Q) Q)) Q)) Q)) Q)) : Wp E 24 C24 ts st Q := by
  have e : ∀ n ts st, aexec E 24 (rw E) (drawB E 24) n C24 ts st = aexec E 24 (rw E) (drawB E 24) n (.seq S24_0 (.seq (.block 0 (.loop L24_0)) (.seq S24_2 (.seq (.block 2 (.loop L24_1)) (S24_4))))) ts st := by
    intro n ts st
    have e1 : C24 = (.seq (code Try.f24).fst (.seq (code Try.f24).snd.fst (.seq (.seq (code Try.f24).snd.snd.fst.fst (.block 0 (.loop L24_0))) (.seq (code Try.f24).snd.snd.snd.fst (.seq (code Try.f24).snd.snd.snd.snd.fst (.seq (.seq (code Try.f24).snd.snd.snd.snd.snd.fst.fst (.block 2 (.loop L24_1))) (.seq (code Try.f24).snd.snd.snd.snd.snd.snd.fst (code Try.f24).snd.snd.snd.snd.snd.snd.snd))))))) := rfl
    rw [e1] <;>
    simp only [S24_0, S24_2, S24_4, aexec_seq, aseq_assoc]
  refine aw_congr e ?_
  have h0 := h
  exact aw_seq (h0.mono fun e ts st hq => by cases e <;> first | exact hq | (have h1 := hq; exact aw_seq (h1.mono fun e ts st hq => by cases e <;> first | exact hq | (have h2 := hq; exact aw_seq (h2.mono fun e ts st hq => by cases e <;> first | exact hq | (have h3 := hq; exact aw_seq h3))))))
theorem ce_24 {x0 : AVal} {st : ASt} {r : AEnd × ASt} (h : ∀ g : Nat → AVal, g 0 = x0 → Wp E 24 C24 (Sl 62 g) st (fun e ts st => aend E Try.f24 (some (e, ts, st)) = some r)) : rw E 24 [x0] st = some r :=
  ce_of (fn := Try.f24) (c := C24) rfl rfl rfl (Nat.le_of_ble_eq_true rfl) fun g hg => h g (hg 0 x0 rfl)
theorem cx_24 {x0 : AVal} {st : ASt} {R : AEnd → ASt → Prop} (h : ∀ g : Nat → AVal, g 0 = x0 → Wp E 24 C24 (Sl 62 g) st (fun e ts st => ∃ r st', aend E Try.f24 (some (e, ts, st)) = some (r, st') ∧ R r st')) : ∃ r st', rw E 24 [x0] st = some (r, st') ∧ R r st' :=
  cx_of (fn := Try.f24) (c := C24) rfl rfl rfl (Nat.le_of_ble_eq_true rfl) fun g hg => h g (hg 0 x0 rfl)
theorem o_al_50 (st : ASt) : allocA E.P 50 st = some (.ptr st.ctr 0, st.new (.cells [.lit (.slice none 0 0), .lit (.slice none 0 0), .lit (.slice none 0 0)])) := rfl
theorem o_leni_45 (mt : Bool) (ty : TypeId) (cs : Array Bool) (sz : Nat) (es : List AVal) (c : Cap) (st : ASt) : builtinA E.P mt .len #[45] ty cs [.islice sz es c] st = some (.val (.lit (.int .i64 es.length)) st) := rfl
theorem o_lens_45 (mt : Bool) (ty : TypeId) (cs : Array Bool) (s o l sz : Nat) (c : Option Nat) (st : ASt) : builtinA E.P mt .len #[45] ty cs [.slice s o l sz c] st = some (.val (.lit (.int .i64 l)) st) := rfl
theorem o_lenn_45 (mt : Bool) (ty : TypeId) (cs : Array Bool) (a : Option Addr) (st : ASt) : builtinA E.P mt .len #[45] ty cs [.lit (.slice a 0 0)] st = some (.val (.lit (.int .i64 0)) st) := len_nil rfl _ _ _ _ _
theorem o_ixi_45 (sz : Nat) (es : List AVal) (c : Cap) (k : IntKind) (i : Int) : indexA E.P 45 (.islice sz es c) (.lit (.int k i)) = if 0 ≤ i ∧ i < es.length ∧ some 2 = some sz then (es[i.toNat]?).map .iptr else none := rfl
theorem o_ixs_45 (s o l sz : Nat) (c : Option Nat) (k : IntKind) (i : Int) : indexA E.P 45 (.slice s o l sz c) (.lit (.int k i)) = if 0 ≤ i ∧ i < l then some (.ptr s (o + i.toNat * 2)) else none := rfl
theorem cf_30 (a : List AVal) (st : ASt) : callFuncA E.P 30 a st = some (.enter 30 a st) := rfl
theorem o_bd_50 (ps : List (Nat × AVal)) : buildA E.P 50 ps = (fillA (fun i => ([(0, 1), (1, 1), (2, 1)] : List (Nat × Nat))[i]?) [.lit (.slice none 0 0), .lit (.slice none 0 0), .lit (.slice none 0 0)] ps).map .agg := rfl
theorem o_st_50 (st : ASt) (s o : Nat) (vs : List AVal) : storeA E.P 50 st (.ptr s o) (.agg vs) = (blkOf (st.heap s)).bind (fun cs => if vs.length = 3 ∧ o + vs.length ≤ cs.length ∧ vs.all AVal.isCell = true then some (st.set s (some (.cells (putL cs o vs)))) else none) := st_agg rfl st s o vs
theorem o_ixi_48 (sz : Nat) (es : List AVal) (c : Cap) (k : IntKind) (i : Int) : indexA E.P 48 (.islice sz es c) (.lit (.int k i)) = if 0 ≤ i ∧ i < es.length ∧ some 1 = some sz then (es[i.toNat]?).map .iptr else none := rfl
theorem o_ixs_48 (s o l sz : Nat) (c : Option Nat) (k : IntKind) (i : Int) : indexA E.P 48 (.slice s o l sz c) (.lit (.int k i)) = if 0 ≤ i ∧ i < l then some (.ptr s (o + i.toNat * 1)) else none := rfl
theorem o_fap_50_2 (s o : Nat) : fieldA E.P 50 (.ptr s o) 2 = some (.ptr s (o + 2)) := rfl
theorem o_fai_50_2 (cs : List AVal) : fieldA E.P 50 (.iptr (.agg cs)) 2 = (cs[2]?).map .iptr := rfl
theorem o_ldp_48 (st : ASt) (s o : Nat) : loadA E.P 48 st (.ptr s o) = (blkOf (st.heap s)).bind (fun cs => cs[o]?) := ld_one rfl rfl st s o
theorem o_ldi_48 (st : ASt) (v : AVal) : loadA E.P 48 st (.iptr v) = if v.isCell = true then some v else none := rfl
theorem hint_24_52 : E.hint 24 52 = false := rfl
theorem o_bs_48_1 (ps : List (Nat × AVal)) (st : ASt) : buildSliceA E.P false 48 1 ps st = (setsE false 1 [(.lit (.int .i64 0))] ps).map (fun es => (.islice 1 es .exact, st)) := bs_i rfl rfl rfl rfl (by decide) rfl ps st
theorem hint_24_53 : E.hint 24 53 = false := rfl
theorem slt_48 : SlT E.P 48 3 false 1 := ⟨rfl, rfl, ⟨_, _, rfl, rfl, by decide, rfl, rfl⟩, by decide⟩
theorem o_st_48 (st : ASt) (s o : Nat) (v : AVal) : storeA E.P 48 st (.ptr s o) v = if v.isCell = true then (blkOf (st.heap s)).bind (fun cs => if o + 1 ≤ cs.length then some (st.set s (some (.cells (cs.set o v)))) else none) else storeU E.P 48 st (.ptr s o) v := st_one rfl st s o v
theorem hint_24_57 : E.hint 24 57 = false := rfl
theorem hint_24_58 : E.hint 24 58 = false := rfl
theorem o_ldp_50 (st : ASt) (s o : Nat) : loadA E.P 50 st (.ptr s o) = (blkOf (st.heap s)).bind (fun cs => if o + 3 ≤ cs.length then some (.agg ((cs.drop o).take 3)) else none) := ld_agg rfl rfl st s o
theorem o_ldi_50 (st : ASt) (cs : List AVal) : loadA E.P 50 st (.iptr (.agg cs)) = if cs.length = 3 then some (.agg cs) else none := rfl

/-! ### braidwork/clock.Clocks -/
noncomputable def C30 : Code := (code Try.f30)
noncomputable def S30_0 : Code := .seq ((code Try.f30).fst) (.seq ((code Try.f30).snd.fst) ((code Try.f30).snd.snd.fst.fst))
noncomputable def S30_0_e := (⟨by simp only [S30_0, code, Try.f30, Option.getD_some, Code.fst, Code.snd, Code.bin, Code.lin, Code.sin, Code.yes, Code.no]; exact rfl⟩ : PLift (S30_0 = _))
noncomputable def L30_0 : Code := (code Try.f30).snd.snd.fst.snd.bin.lin
noncomputable def S30_1 : Code := .seq ((code Try.f30).snd.snd.fst.snd.bin.lin.fst) ((code Try.f30).snd.snd.fst.snd.bin.lin.snd.fst)
noncomputable def S30_1_e := (⟨by simp only [S30_1, code, Try.f30, Option.getD_some, Code.fst, Code.snd, Code.bin, Code.lin, Code.sin, Code.yes, Code.no]; exact rfl⟩ : PLift (S30_1 = _))
noncomputable def B30_1 : Code := (code Try.f30).snd.snd.fst.snd.bin.lin.snd.snd.fst.bin
noncomputable def S30_2 : Code := .seq ((code Try.f30).snd.snd.fst.snd.bin.lin.snd.snd.fst.bin.fst) (.seq ((code Try.f30).snd.snd.fst.snd.bin.lin.snd.snd.fst.bin.snd.fst) ((code Try.f30).snd.snd.fst.snd.bin.lin.snd.snd.fst.bin.snd.snd.fst.fst))
noncomputable def S30_2_e := (⟨by simp only [S30_2, code, Try.f30, Option.getD_some, Code.fst, Code.snd, Code.bin, Code.lin, Code.sin, Code.yes, Code.no]; exact rfl⟩ : PLift (S30_2 = _))
noncomputable def L30_2 : Code := (code Try.f30).snd.snd.fst.snd.bin.lin.snd.snd.fst.bin.snd.snd.fst.snd.bin.lin
noncomputable def S30_3 : Code := .seq ((code Try.f30).snd.snd.fst.snd.bin.lin.snd.snd.fst.bin.snd.snd.fst.snd.bin.lin.fst) ((code Try.f30).snd.snd.fst.snd.bin.lin.snd.snd.fst.bin.snd.snd.fst.snd.bin.lin.snd.fst)
noncomputable def S30_3_e := (⟨by simp only [S30_3, code, Try.f30, Option.getD_some, Code.fst, Code.snd, Code.bin, Code.lin, Code.sin, Code.yes, Code.no]; exact rfl⟩ : PLift (S30_3 = _))
noncomputable def B30_3 : Code := (code Try.f30).snd.snd.fst.snd.bin.lin.snd.snd.fst.bin.snd.snd.fst.snd.bin.lin.snd.snd.fst.bin
noncomputable def rg30_9 : Code := (code Try.f30).snd.snd.fst.snd.bin.lin.snd.snd.fst.bin.snd.snd.fst.snd.bin.lin.snd.snd.fst.bin.snd.fst
noncomputable def rq30_9 : Code := (code Try.f30).snd.snd.fst.snd.bin.lin.snd.snd.fst.bin.snd.snd.fst.snd.bin.lin.snd.snd.fst.bin.snd.fst
theorem ex30_9 (call : ACall) (n : Nat) (ts : List AVal) (st : ASt) : aexec E 30 call (drawB E 30) n rg30_9 ts st = aops E 30 call rq30_9.ops rq30_9.ops.toList ts st := by
  have d : drawB E 30 rq30_9.ops = true := by kernel_rfl
  have e : rg30_9 = .region 9 rq30_9.ops true := rfl
  rw [e, aexec, d]; rfl
noncomputable def rq30_9_e := (⟨by simp only [rq30_9, code, Try.f30, Option.getD_some, Code.fst, Code.snd, Code.bin, Code.lin, Code.sin, Code.yes, Code.no, Code.ops]; exact rfl⟩ : PLift (rq30_9.ops = _))
noncomputable def S30_4 : Code := .seq ((code Try.f30).snd.snd.fst.snd.bin.lin.snd.snd.fst.bin.snd.snd.fst.snd.bin.lin.snd.snd.fst.bin.fst) (rg30_9)
noncomputable def S30_4_e := (⟨by simp only [S30_4, code, Try.f30, Option.getD_some, Code.fst, Code.snd, Code.bin, Code.lin, Code.sin, Code.yes, Code.no]; exact rfl⟩ : PLift (S30_4 = _))
noncomputable def Y30_4 : Code := (code Try.f30).snd.snd.fst.snd.bin.lin.snd.snd.fst.bin.snd.snd.fst.snd.bin.lin.snd.snd.fst.bin.snd.snd.yes
noncomputable def S30_5 : Code := (code Try.f30).snd.snd.fst.snd.bin.lin.snd.snd.fst.bin.snd.snd.fst.snd.bin.lin.snd.snd.fst.bin.snd.snd.yes.fst
noncomputable def S30_5_e := (⟨by simp only [S30_5, code, Try.f30, Option.getD_some, Code.fst, Code.snd, Code.bin, Code.lin, Code.sin, Code.yes, Code.no]; exact rfl⟩ : PLift (S30_5 = _))
noncomputable def L30_5 : Code := (code Try.f30).snd.snd.fst.snd.bin.lin.snd.snd.fst.bin.snd.snd.fst.snd.bin.lin.snd.snd.fst.bin.snd.snd.yes.snd.bin.lin
noncomputable def S30_6 : Code := .seq ((code Try.f30).snd.snd.fst.snd.bin.lin.snd.snd.fst.bin.snd.snd.fst.snd.bin.lin.snd.snd.fst.bin.snd.snd.yes.snd.bin.lin.fst) (.seq ((code Try.f30).snd.snd.fst.snd.bin.lin.snd.snd.fst.bin.snd.snd.fst.snd.bin.lin.snd.snd.fst.bin.snd.snd.yes.snd.bin.lin.snd.fst) (.seq ((code Try.f30).snd.snd.fst.snd.bin.lin.snd.snd.fst.bin.snd.snd.fst.snd.bin.lin.snd.snd.fst.bin.snd.snd.yes.snd.bin.lin.snd.snd.fst) ((code Try.f30).snd.snd.fst.snd.bin.lin.snd.snd.fst.bin.snd.snd.fst.snd.bin.lin.snd.snd.fst.bin.snd.snd.yes.snd.bin.lin.snd.snd.snd)))
noncomputable def S30_6_e := (⟨by simp only [S30_6, code, Try.f30, Option.getD_some, Code.fst, Code.snd, Code.bin, Code.lin, Code.sin, Code.yes, Code.no]; exact rfl⟩ : PLift (S30_6 = _))
theorem L30_5_wp {ts : List AVal} {st : ASt} {Q : APost} (h : Wp E 30 S30_6 ts st Q) : Wp E 30 L30_5 ts st Q := by
  have e : ∀ n ts st, aexec E 30 (rw E) (drawB E 30) n L30_5 ts st = aexec E 30 (rw E) (drawB E 30) n (S30_6) ts st := by
    intro n ts st
    have e1 : L30_5 = (.seq (code Try.f30).snd.snd.fst.snd.bin.lin.snd.snd.fst.bin.snd.snd.fst.snd.bin.lin.snd.snd.fst.bin.snd.snd.yes.snd.bin.lin.fst (.seq (code Try.f30).snd.snd.fst.snd.bin.lin.snd.snd.fst.bin.snd.snd.fst.snd.bin.lin.snd.snd.fst.bin.snd.snd.yes.snd.bin.lin.snd.fst (.seq (code Try.f30).snd.snd.fst.snd.bin.lin.snd.snd.fst.bin.snd.snd.fst.snd.bin.lin.snd.snd.fst.bin.snd.snd.yes.snd.bin.lin.snd.snd.fst (code Try.f30).snd.snd.fst.snd.bin.lin.snd.snd.fst.bin.snd.snd.fst.snd.bin.lin.snd.snd.fst.bin.snd.snd.yes.snd.bin.lin.snd.snd.snd))) := rfl
    rw [e1] <;>
    simp only [S30_6, aexec_seq, aseq_assoc]
  refine aw_congr e ?_
  exact h
theorem Y30_4_wp {ts : List AVal} {st : ASt} {Q : APost} (h : Wp E 30 S30_5 ts st (Nx (fun ts st => Wp E 30 (.block 4 (.loop L30_5)) ts st Q) Q)) : Wp E 30 Y30_4 ts st Q := by
  have e : ∀ n ts st, aexec E 30 (rw E) (drawB E 30) n Y30_4 ts st = aexec E 30 (rw E) (drawB E 30) n (.seq S30_5 ((.block 4 (.loop L30_5)))) ts st := by
    intro n ts st
    have e1 : Y30_4 = (.seq (code Try.f30).snd.snd.fst.snd.bin.lin.snd.snd.fst.bin.snd.snd.fst.snd.bin.lin.snd.snd.fst.bin.snd.snd.yes.fst (.block 4 (.loop L30_5))) := rfl
    rw [e1] <;>
    simp only [S30_5, aexec_seq, aseq_assoc]
  refine aw_congr e ?_
  have h0 := h
  exact aw_seq h0
noncomputable def N30_4 : Code := (code Try.f30).snd.snd.fst.snd.bin.lin.snd.snd.fst.bin.snd.snd.fst.snd.bin.lin.snd.snd.fst.bin.snd.snd.no
noncomputable def S30_7 : Code := (code Try.f30).snd.snd.fst.snd.bin.lin.snd.snd.fst.bin.snd.snd.fst.snd.bin.lin.snd.snd.fst.bin.snd.snd.no
noncomputable def S30_7_e := (⟨by simp only [S30_7, code, Try.f30, Option.getD_some, Code.fst, Code.snd, Code.bin, Code.lin, Code.sin, Code.yes, Code.no]; exact rfl⟩ : PLift (S30_7 = _))
theorem N30_4_wp {ts : List AVal} {st : ASt} {Q : APost} (h : Wp E 30 S30_7 ts st Q) : Wp E 30 N30_4 ts st Q := by
  have e : ∀ n ts st, aexec E 30 (rw E) (drawB E 30) n N30_4 ts st = aexec E 30 (rw E) (drawB E 30) n (S30_7) ts st := by
    intro n ts st
    have e1 : N30_4 = (code Try.f30).snd.snd.fst.snd.bin.lin.snd.snd.fst.bin.snd.snd.fst.snd.bin.lin.snd.snd.fst.bin.snd.snd.no := rfl
    rw [e1] <;>
    simp only [S30_7, aexec_seq, aseq_assoc]
  refine aw_congr e ?_
  exact h
theorem B30_3_wp {ts : List AVal} {st : ASt} {Q : APost} (h : Wp E 30 S30_4 ts st (Nx (fun ts st => Wp E 30 (.cond (.tmp 31) Y30_4 N30_4) ts st Q) Q)) : Wp E 30 B30_3 ts st Q := by
  have e : ∀ n ts st, aexec E 30 (rw E) (drawB E 30) n B30_3 ts st = aexec E 30 (rw E) (drawB E 30) n (.seq S30_4 ((.cond (.tmp 31) Y30_4 N30_4))) ts st := by
    intro n ts st
    have e1 : B30_3 = (.seq (code Try.f30).snd.snd.fst.snd.bin.lin.snd.snd.fst.bin.snd.snd.fst.snd.bin.lin.snd.snd.fst.bin.fst (.seq rg30_9 (.cond (.tmp 31) Y30_4 N30_4))) := rfl
    rw [e1] <;>
    simp only [S30_4, aexec_seq, aseq_assoc]
  refine aw_congr e ?_
  have h0 := h
  exact aw_seq h0
noncomputable def S30_8 : Code := (code Try.f30).snd.snd.fst.snd.bin.lin.snd.snd.fst.bin.snd.snd.fst.snd.bin.lin.snd.snd.snd
noncomputable def S30_8_e := (⟨by simp only [S30_8, code, Try.f30, Option.getD_some, Code.fst, Code.snd, Code.bin, Code.lin, Code.sin, Code.yes, Code.no]; exact rfl⟩ : PLift (S30_8 = _))
theorem L30_2_wp {ts : List AVal} {st : ASt} {Q : APost} (h : Wp E 30 S30_3 ts st (Nx (fun ts st => Wp E 30 (.block 3 B30_3) ts st (Nx (fun ts st => Wp E 30 S30_8 ts st Q) Q)) Q)) : Wp E 30 L30_2 ts st Q := by
  have e : ∀ n ts st, aexec E 30 (rw E) (drawB E 30) n L30_2 ts st = aexec E 30 (rw E) (drawB E 30) n (.seq S30_3 (.seq (.block 3 B30_3) (S30_8))) ts st := by
    intro n ts st
    have e1 : L30_2 = (.seq (code Try.f30).snd.snd.fst.snd.bin.lin.snd.snd.fst.bin.snd.snd.fst.snd.bin.lin.fst (.seq (code Try.f30).snd.snd.fst.snd.bin.lin.snd.snd.fst.bin.snd.snd.fst.snd.bin.lin.snd.fst (.seq (.block 3 B30_3) (code Try.f30).snd.snd.fst.snd.bin.lin.snd.snd.fst.bin.snd.snd.fst.snd.bin.lin.snd.snd.snd))) := rfl
    rw [e1] <;>
    simp only [S30_3, S30_8, aexec_seq, aseq_assoc]
  refine aw_congr e ?_
  have h0 := h
  exact aw_seq (h0.mono fun e ts st hq => by cases e <;> first | exact hq | (have h1 := hq; exact aw_seq h1))
noncomputable def S30_9 : Code := .seq ((code Try.f30).snd.snd.fst.snd.bin.lin.snd.snd.fst.bin.snd.snd.snd.fst.fst) (.seq ((code Try.f30).snd.snd.fst.snd.bin.lin.snd.snd.fst.bin.snd.snd.snd.fst.snd) ((code Try.f30).snd.snd.fst.snd.bin.lin.snd.snd.fst.bin.snd.snd.snd.snd))
noncomputable def S30_9_e := (⟨by simp only [S30_9, code, Try.f30, Option.getD_some, Code.fst, Code.snd, Code.bin, Code.lin, Code.sin, Code.yes, Code.no]; exact rfl⟩ : PLift (S30_9 = _))
theorem B30_1_wp {ts : List AVal} {st : ASt} {Q : APost} (h : Wp E 30 S30_2 ts st (Nx (fun ts st => Wp E 30 (.block 2 (.loop L30_2)) ts st (Nx (fun ts st => Wp E 30 S30_9 ts st Q) Q)) Q)) : Wp E 30 B30_1 ts st Q := by
  have e : ∀ n ts st, aexec E 30 (rw E) (drawB E 30) n B30_1 ts st = aexec E 30 (rw E) (drawB E 30) n (.seq S30_2 (.seq (.block 2 (.loop L30_2)) (S30_9))) ts st := by
    intro n ts st
    have e1 : B30_1 = (.seq (code Try.f30).snd.snd.fst.snd.bin.lin.snd.snd.fst.bin.fst (.seq (code Try.f30).snd.snd.fst.snd.bin.lin.snd.snd.fst.bin.snd.fst (.seq (.seq (code Try.f30).snd.snd.fst.snd.bin.lin.snd.snd.fst.bin.snd.snd.fst.fst (.block 2 (.loop L30_2))) (.seq (.seq (code Try.f30).snd.snd.fst.snd.bin.lin.snd.snd.fst.bin.snd.snd.snd.fst.fst (code Try.f30).snd.snd.fst.snd.bin.lin.snd.snd.fst.bin.snd.snd.snd.fst.snd) (code Try.f30).snd.snd.fst.snd.bin.lin.snd.snd.fst.bin.snd.snd.snd.snd)))) := rfl
    rw [e1] <;>
    simp only [S30_2, S30_9, aexec_seq, aseq_assoc]
  refine aw_congr e ?_
  have h0 := h
  exact aw_seq (h0.mono fun e ts st hq => by cases e <;> first | exact hq | (have h1 := hq; exact aw_seq h1))
noncomputable def S30_10 : Code := (code Try.f30).snd.snd.fst.snd.bin.lin.snd.snd.snd
noncomputable def S30_10_e := (⟨by simp only [S30_10, code, Try.f30, Option.getD_some, Code.fst, Code.snd, Code.bin, Code.lin, Code.sin, Code.yes, Code.no]; exact rfl⟩ : PLift (S30_10 = _))
theorem L30_0_wp {ts : List AVal} {st : ASt} {Q : APost} (h : Wp E 30 S30_1 ts st (Nx (fun ts st => Wp E 30 (.block 1 B30_1) ts st (Nx (fun ts st => Wp E 30 S30_10 ts st Q) Q)) Q)) : Wp E 30 L30_0 ts st Q := by
  have e : ∀ n ts st, aexec E 30 (rw E) (drawB E 30) n L30_0 ts st = aexec E 30 (rw E) (drawB E 30) n (.seq S30_1 (.seq (.block 1 B30_1) (S30_10))) ts st := by
    intro n ts st
    have e1 : L30_0 = (.seq (code Try.f30).snd.snd.fst.snd.bin.lin.fst (.seq (code Try.f30).snd.snd.fst.snd.bin.lin.snd.fst (.seq (.block 1 B30_1) (code Try.f30).snd.snd.fst.snd.bin.lin.snd.snd.snd))) := rfl
    rw [e1] <;>
    simp only [S30_1, S30_10, aexec_seq, aseq_assoc]
  refine aw_congr e ?_
  have h0 := h
  exact aw_seq (h0.mono fun e ts st hq => by cases e <;> first | exact hq | (have h1 := hq; exact aw_seq h1))
noncomputable def S30_11 : Code := .seq ((code Try.f30).snd.snd.snd.fst) ((code Try.f30).snd.snd.snd.snd)
noncomputable def S30_11_e := (⟨by simp only [S30_11, code, Try.f30, Option.getD_some, Code.fst, Code.snd, Code.bin, Code.lin, Code.sin, Code.yes, Code.no]; exact rfl⟩ : PLift (S30_11 = _))
theorem C30_wp {ts : List AVal} {st : ASt} {Q : APost} (h : Wp E 30 S30_0 ts st (Nx (fun ts st => Wp E 30 (.block 0 (.loop L30_0)) ts st (Nx (fun ts st => Wp E 30 S30_11 ts st Q) Q)) Q)) : Wp E 30 C30 ts st Q := by
  have e : ∀ n ts st, aexec E 30 (rw E) (drawB E 30) n C30 ts st = aexec E 30 (rw E) (drawB E 30) n (.seq S30_0 (.seq (.block 0 (.loop L30_0)) (S30_11))) ts st := by
    intro n ts st
    have e1 : C30 = (.seq (code Try.f30).fst (.seq (code Try.f30).snd.fst (.seq (.seq (code Try.f30).snd.snd.fst.fst (.block 0 (.loop L30_0))) (.seq (code Try.f30).snd.snd.snd.fst (code Try.f30).snd.snd.snd.snd)))) := rfl
    rw [e1] <;>
    simp only [S30_0, S30_11, aexec_seq, aseq_assoc]
  refine aw_congr e ?_
  have h0 := h
  exact aw_seq (h0.mono fun e ts st hq => by cases e <;> first | exact hq | (have h1 := hq; exact aw_seq h1))
theorem ce_30 {x0 x1 : AVal} {st : ASt} {r : AEnd × ASt} (h : ∀ g : Nat → AVal, g 0 = x0 → g 1 = x1 → Wp E 30 C30 (Sl 76 g) st (fun e ts st => aend E Try.f30 (some (e, ts, st)) = some r)) : rw E 30 [x0, x1] st = some r :=
  ce_of (fn := Try.f30) (c := C30) rfl rfl rfl (Nat.le_of_ble_eq_true rfl) fun g hg => h g (hg 0 x0 rfl) (hg 1 x1 rfl)
theorem cx_30 {x0 x1 : AVal} {st : ASt} {R : AEnd → ASt → Prop} (h : ∀ g : Nat → AVal, g 0 = x0 → g 1 = x1 → Wp E 30 C30 (Sl 76 g) st (fun e ts st => ∃ r st', aend E Try.f30 (some (e, ts, st)) = some (r, st') ∧ R r st')) : ∃ r st', rw E 30 [x0, x1] st = some (r, st') ∧ R r st' :=
  cx_of (fn := Try.f30) (c := C30) rfl rfl rfl (Nat.le_of_ble_eq_true rfl) fun g hg => h g (hg 0 x0 rfl) (hg 1 x1 rfl)
theorem o_ixi_47 (sz : Nat) (es : List AVal) (c : Cap) (k : IntKind) (i : Int) : indexA E.P 47 (.islice sz es c) (.lit (.int k i)) = if 0 ≤ i ∧ i < es.length ∧ some 1 = some sz then (es[i.toNat]?).map .iptr else none := rfl
theorem o_ixs_47 (s o l sz : Nat) (c : Option Nat) (k : IntKind) (i : Int) : indexA E.P 47 (.slice s o l sz c) (.lit (.int k i)) = if 0 ≤ i ∧ i < l then some (.ptr s (o + i.toNat * 1)) else none := rfl
theorem o_leni_48 (mt : Bool) (ty : TypeId) (cs : Array Bool) (sz : Nat) (es : List AVal) (c : Cap) (st : ASt) : builtinA E.P mt .len #[48] ty cs [.islice sz es c] st = some (.val (.lit (.int .i64 es.length)) st) := rfl
theorem o_lens_48 (mt : Bool) (ty : TypeId) (cs : Array Bool) (s o l sz : Nat) (c : Option Nat) (st : ASt) : builtinA E.P mt .len #[48] ty cs [.slice s o l sz c] st = some (.val (.lit (.int .i64 l)) st) := rfl
theorem o_lenn_48 (mt : Bool) (ty : TypeId) (cs : Array Bool) (a : Option Addr) (st : ASt) : builtinA E.P mt .len #[48] ty cs [.lit (.slice a 0 0)] st = some (.val (.lit (.int .i64 0)) st) := len_nil rfl _ _ _ _ _
theorem hint_30_72 : E.hint 30 72 = false := rfl
theorem o_bs_47_1 (ps : List (Nat × AVal)) (st : ASt) : buildSliceA E.P false 47 1 ps st = (setsE false 1 [(.lit (.slice none 0 0))] ps).map (fun es => (.islice 1 es .exact, st)) := bs_i rfl rfl rfl rfl (by decide) rfl ps st
theorem hint_30_73 : E.hint 30 73 = false := rfl
theorem slt_47 : SlT E.P 47 48 false 1 := ⟨rfl, rfl, ⟨_, _, rfl, rfl, by decide, rfl, rfl⟩, by decide⟩

/-! ### (braidwork/clock.Order).Before -/
noncomputable def C25 : Code := (code Try.f25)
noncomputable def rg25_3 : Code := (code Try.f25).snd.snd.fst
noncomputable def rq25_3 : Code := (code Try.f25).snd.snd.fst
theorem ex25_3 (call : ACall) (n : Nat) (ts : List AVal) (st : ASt) : aexec E 25 call (drawB E 25) n rg25_3 ts st = aops E 25 call rq25_3.ops rq25_3.ops.toList ts st := by
  have d : drawB E 25 rq25_3.ops = true := by kernel_rfl
  have e : rg25_3 = .region 3 rq25_3.ops true := rfl
  rw [e, aexec, d]; rfl
noncomputable def rq25_3_e := (⟨by simp only [rq25_3, code, Try.f25, Option.getD_some, Code.fst, Code.snd, Code.bin, Code.lin, Code.sin, Code.yes, Code.no, Code.ops]; exact rfl⟩ : PLift (rq25_3.ops = _))
noncomputable def S25_0 : Code := .seq ((code Try.f25).fst) (.seq ((code Try.f25).snd.fst.fst) (.seq ((code Try.f25).snd.fst.snd) (.seq (rg25_3) ((code Try.f25).snd.snd.snd))))
noncomputable def S25_0_e := (⟨by simp only [S25_0, code, Try.f25, Option.getD_some, Code.fst, Code.snd, Code.bin, Code.lin, Code.sin, Code.yes, Code.no]; exact rfl⟩ : PLift (S25_0 = _))
theorem C25_wp {ts : List AVal} {st : ASt} {Q : APost} (h : Wp E 25 S25_0 ts st Q) : Wp E 25 C25 ts st Q := by
  have e : ∀ n ts st, aexec E 25 (rw E) (drawB E 25) n C25 ts st = aexec E 25 (rw E) (drawB E 25) n (S25_0) ts st := by
    intro n ts st
    have e1 : C25 = (.seq (code Try.f25).fst (.seq (.seq (code Try.f25).snd.fst.fst (code Try.f25).snd.fst.snd) (.seq rg25_3 (code Try.f25).snd.snd.snd))) := rfl
    rw [e1] <;>
    simp only [S25_0, aexec_seq, aseq_assoc]
  refine aw_congr e ?_
  exact h
theorem ce_25 {x0 x1 x2 : AVal} {st : ASt} {r : AEnd × ASt} (h : ∀ g : Nat → AVal, g 0 = x0 → g 1 = x1 → g 2 = x2 → Wp E 25 C25 (Sl 49 g) st (fun e ts st => aend E Try.f25 (some (e, ts, st)) = some r)) : rw E 25 [x0, x1, x2] st = some r :=
  ce_of (fn := Try.f25) (c := C25) rfl rfl rfl (Nat.le_of_ble_eq_true rfl) fun g hg => h g (hg 0 x0 rfl) (hg 1 x1 rfl) (hg 2 x2 rfl)
theorem cx_25 {x0 x1 x2 : AVal} {st : ASt} {R : AEnd → ASt → Prop} (h : ∀ g : Nat → AVal, g 0 = x0 → g 1 = x1 → g 2 = x2 → Wp E 25 C25 (Sl 49 g) st (fun e ts st => ∃ r st', aend E Try.f25 (some (e, ts, st)) = some (r, st') ∧ R r st')) : ∃ r st', rw E 25 [x0, x1, x2] st = some (r, st') ∧ R r st' :=
  cx_of (fn := Try.f25) (c := C25) rfl rfl rfl (Nat.le_of_ble_eq_true rfl) fun g hg => h g (hg 0 x0 rfl) (hg 1 x1 rfl) (hg 2 x2 rfl)
theorem o_fap_50_0 (s o : Nat) : fieldA E.P 50 (.ptr s o) 0 = some (.ptr s (o + 0)) := rfl
theorem o_fai_50_0 (cs : List AVal) : fieldA E.P 50 (.iptr (.agg cs)) 0 = (cs[0]?).map .iptr := rfl
theorem o_ldp_45 (st : ASt) (s o : Nat) : loadA E.P 45 st (.ptr s o) = (blkOf (st.heap s)).bind (fun cs => cs[o]?) := ld_one rfl rfl st s o
theorem o_ldi_45 (st : ASt) (v : AVal) : loadA E.P 45 st (.iptr v) = if v.isCell = true then some v else none := rfl
theorem o_fap_50_1 (s o : Nat) : fieldA E.P 50 (.ptr s o) 1 = some (.ptr s (o + 1)) := rfl
theorem o_fai_50_1 (cs : List AVal) : fieldA E.P 50 (.iptr (.agg cs)) 1 = (cs[1]?).map .iptr := rfl
theorem o_ldp_47 (st : ASt) (s o : Nat) : loadA E.P 47 st (.ptr s o) = (blkOf (st.heap s)).bind (fun cs => cs[o]?) := ld_one rfl rfl st s o
theorem o_ldi_47 (st : ASt) (v : AVal) : loadA E.P 47 st (.iptr v) = if v.isCell = true then some v else none := rfl

/-! ### braidwork/braidworklaw11.Light -/
noncomputable def C22 : Code := (code Try.f22)
noncomputable def S22_0 : Code := .seq ((code Try.f22).fst) ((code Try.f22).snd.fst.fst)
noncomputable def S22_0_e := (⟨by simp only [S22_0, code, Try.f22, Option.getD_some, Code.fst, Code.snd, Code.bin, Code.lin, Code.sin, Code.yes, Code.no]; exact rfl⟩ : PLift (S22_0 = _))
noncomputable def L22_0 : Code := (code Try.f22).snd.fst.snd.bin.lin
noncomputable def S22_1 : Code := .seq ((code Try.f22).snd.fst.snd.bin.lin.fst) (.seq ((code Try.f22).snd.fst.snd.bin.lin.snd.fst) (.seq ((code Try.f22).snd.fst.snd.bin.lin.snd.snd.fst) ((code Try.f22).snd.fst.snd.bin.lin.snd.snd.snd)))
noncomputable def S22_1_e := (⟨by simp only [S22_1, code, Try.f22, Option.getD_some, Code.fst, Code.snd, Code.bin, Code.lin, Code.sin, Code.yes, Code.no]; exact rfl⟩ : PLift (S22_1 = _))
theorem L22_0_wp {ts : List AVal} {st : ASt} {Q : APost} (h : Wp E 22 S22_1 ts st Q) : Wp E 22 L22_0 ts st Q := by
  have e : ∀ n ts st, aexec E 22 (rw E) (drawB E 22) n L22_0 ts st = aexec E 22 (rw E) (drawB E 22) n (S22_1) ts st := by
    intro n ts st
    have e1 : L22_0 = (.seq (code Try.f22).snd.fst.snd.bin.lin.fst (.seq (code Try.f22).snd.fst.snd.bin.lin.snd.fst (.seq (code Try.f22).snd.fst.snd.bin.lin.snd.snd.fst (code Try.f22).snd.fst.snd.bin.lin.snd.snd.snd))) := rfl
    rw [e1] <;>
    simp only [S22_1, aexec_seq, aseq_assoc]
  refine aw_congr e ?_
  exact h
noncomputable def S22_2 : Code := .seq ((code Try.f22).snd.snd.fst) ((code Try.f22).snd.snd.snd)
noncomputable def S22_2_e := (⟨by simp only [S22_2, code, Try.f22, Option.getD_some, Code.fst, Code.snd, Code.bin, Code.lin, Code.sin, Code.yes, Code.no]; exact rfl⟩ : PLift (S22_2 = _))
theorem C22_wp {ts : List AVal} {st : ASt} {Q : APost} (h : Wp E 22 S22_0 ts st (Nx (fun ts st => Wp E 22 (.block 0 (.loop L22_0)) ts st (Nx (fun ts st => Wp E 22 S22_2 ts st Q) Q)) Q)) : Wp E 22 C22 ts st Q := by
  have e : ∀ n ts st, aexec E 22 (rw E) (drawB E 22) n C22 ts st = aexec E 22 (rw E) (drawB E 22) n (.seq S22_0 (.seq (.block 0 (.loop L22_0)) (S22_2))) ts st := by
    intro n ts st
    have e1 : C22 = (.seq (code Try.f22).fst (.seq (.seq (code Try.f22).snd.fst.fst (.block 0 (.loop L22_0))) (.seq (code Try.f22).snd.snd.fst (code Try.f22).snd.snd.snd))) := rfl
    rw [e1] <;>
    simp only [S22_0, S22_2, aexec_seq, aseq_assoc]
  refine aw_congr e ?_
  have h0 := h
  exact aw_seq (h0.mono fun e ts st hq => by cases e <;> first | exact hq | (have h1 := hq; exact aw_seq h1))
theorem ce_22 {x0 x1 : AVal} {st : ASt} {r : AEnd × ASt} (h : ∀ g : Nat → AVal, g 0 = x0 → g 1 = x1 → Wp E 22 C22 (Sl 22 g) st (fun e ts st => aend E Try.f22 (some (e, ts, st)) = some r)) : rw E 22 [x0, x1] st = some r :=
  ce_of (fn := Try.f22) (c := C22) rfl rfl rfl (Nat.le_of_ble_eq_true rfl) fun g hg => h g (hg 0 x0 rfl) (hg 1 x1 rfl)
theorem cx_22 {x0 x1 : AVal} {st : ASt} {R : AEnd → ASt → Prop} (h : ∀ g : Nat → AVal, g 0 = x0 → g 1 = x1 → Wp E 22 C22 (Sl 22 g) st (fun e ts st => ∃ r st', aend E Try.f22 (some (e, ts, st)) = some (r, st') ∧ R r st')) : ∃ r st', rw E 22 [x0, x1] st = some (r, st') ∧ R r st' :=
  cx_of (fn := Try.f22) (c := C22) rfl rfl rfl (Nat.le_of_ble_eq_true rfl) fun g hg => h g (hg 0 x0 rfl) (hg 1 x1 rfl)
theorem o_leni_43 (mt : Bool) (ty : TypeId) (cs : Array Bool) (sz : Nat) (es : List AVal) (c : Cap) (st : ASt) : builtinA E.P mt .len #[43] ty cs [.islice sz es c] st = some (.val (.lit (.int .i64 es.length)) st) := rfl
theorem o_lens_43 (mt : Bool) (ty : TypeId) (cs : Array Bool) (s o l sz : Nat) (c : Option Nat) (st : ASt) : builtinA E.P mt .len #[43] ty cs [.slice s o l sz c] st = some (.val (.lit (.int .i64 l)) st) := rfl
theorem o_lenn_43 (mt : Bool) (ty : TypeId) (cs : Array Bool) (a : Option Addr) (st : ASt) : builtinA E.P mt .len #[43] ty cs [.lit (.slice a 0 0)] st = some (.val (.lit (.int .i64 0)) st) := len_nil rfl _ _ _ _ _
theorem o_ixi_43 (sz : Nat) (es : List AVal) (c : Cap) (k : IntKind) (i : Int) : indexA E.P 43 (.islice sz es c) (.lit (.int k i)) = if 0 ≤ i ∧ i < es.length ∧ some 2 = some sz then (es[i.toNat]?).map .iptr else none := rfl
theorem o_ixs_43 (s o l sz : Nat) (c : Option Nat) (k : IntKind) (i : Int) : indexA E.P 43 (.slice s o l sz c) (.lit (.int k i)) = if 0 ≤ i ∧ i < l then some (.ptr s (o + i.toNat * 2)) else none := rfl
theorem o_ldp_68 (st : ASt) (s o : Nat) : loadA E.P 68 st (.ptr s o) = (blkOf (st.heap s)).bind (fun cs => if o + 2 ≤ cs.length then some (.agg ((cs.drop o).take 2)) else none) := ld_agg rfl rfl st s o
theorem o_ldi_68 (st : ASt) (cs : List AVal) : loadA E.P 68 st (.iptr (.agg cs)) = if cs.length = 2 then some (.agg cs) else none := rfl
theorem o_al_68 (st : ASt) : allocA E.P 68 st = some (.ptr st.ctr 0, st.new (.cells [.lit (.int .u8 0), .lit (.slice none 0 0)])) := rfl
theorem o_st_68 (st : ASt) (s o : Nat) (vs : List AVal) : storeA E.P 68 st (.ptr s o) (.agg vs) = (blkOf (st.heap s)).bind (fun cs => if vs.length = 2 ∧ o + vs.length ≤ cs.length ∧ vs.all AVal.isCell = true then some (st.set s (some (.cells (putL cs o vs)))) else none) := st_agg rfl st s o vs
theorem o_fap_68_1 (s o : Nat) : fieldA E.P 68 (.ptr s o) 1 = some (.ptr s (o + 1)) := rfl
theorem o_fai_68_1 (cs : List AVal) : fieldA E.P 68 (.iptr (.agg cs)) 1 = (cs[1]?).map .iptr := rfl
theorem o_ldp_22 (st : ASt) (s o : Nat) : loadA E.P 22 st (.ptr s o) = (blkOf (st.heap s)).bind (fun cs => cs[o]?) := ld_one rfl rfl st s o
theorem o_ldi_22 (st : ASt) (v : AVal) : loadA E.P 22 st (.iptr v) = if v.isCell = true then some v else none := rfl

/-! ### braidwork/braidworklaw11.Events -/
noncomputable def C23 : Code := (code Try.f23)
noncomputable def S23_0 : Code := .seq ((code Try.f23).fst) (.seq ((code Try.f23).snd.fst) ((code Try.f23).snd.snd.fst.fst))
noncomputable def S23_0_e := (⟨by simp only [S23_0, code, Try.f23, Option.getD_some, Code.fst, Code.snd, Code.bin, Code.lin, Code.sin, Code.yes, Code.no]; exact rfl⟩ : PLift (S23_0 = _))
noncomputable def L23_0 : Code := (code Try.f23).snd.snd.fst.snd.bin.lin
noncomputable def rg23_5 : Code := (code Try.f23).snd.snd.fst.snd.bin.lin.snd.snd.fst.bin.snd
noncomputable def rq23_5 : Code := (code Try.f23).snd.snd.fst.snd.bin.lin.snd.snd.fst.bin.snd
theorem ex23_5 (call : ACall) (n : Nat) (ts : List AVal) (st : ASt) : aexec E 23 call (drawB E 23) n rg23_5 ts st = aopsP E 23 call rq23_5.ops [.one 0 [], .one 1 [], .one 2 [], .one 3 [], .one 4 [], .one 5 [], .one 6 [], .one 7 [2, 4], .one 8 [], .one 9 [], .one 10 [], .one 11 []] ts st := by
  have d : drawB E 23 rq23_5.ops = false := by kernel_rfl
  have d2 : drawPlan E 23 rq23_5.ops = some [.one 0 [], .one 1 [], .one 2 [], .one 3 [], .one 4 [], .one 5 [], .one 6 [], .one 7 [2, 4], .one 8 [], .one 9 [], .one 10 [], .one 11 []] := by kernel_rfl
  have e : rg23_5 = .region 5 rq23_5.ops true := rfl
  rw [e, aexec, d, d2]; rfl
noncomputable def rq23_5_e := (⟨by simp only [rq23_5, code, Try.f23, Option.getD_some, Code.fst, Code.snd, Code.bin, Code.lin, Code.sin, Code.yes, Code.no, Code.ops]; exact rfl⟩ : PLift (rq23_5.ops = _))
noncomputable def S23_1 : Code := .seq ((code Try.f23).snd.snd.fst.snd.bin.lin.fst) (.seq ((code Try.f23).snd.snd.fst.snd.bin.lin.snd.fst) (.seq (.block 1 (.seq (code Try.f23).snd.snd.fst.snd.bin.lin.snd.snd.fst.bin.fst rg23_5)) ((code Try.f23).snd.snd.fst.snd.bin.lin.snd.snd.snd)))
noncomputable def S23_1_e := (⟨by simp only [S23_1, code, Try.f23, Option.getD_some, Code.fst, Code.snd, Code.bin, Code.lin, Code.sin, Code.yes, Code.no]; exact rfl⟩ : PLift (S23_1 = _))
theorem L23_0_wp {ts : List AVal} {st : ASt} {Q : APost} (h : Wp E 23 S23_1 ts st Q) : Wp E 23 L23_0 ts st Q := by
  have e : ∀ n ts st, aexec E 23 (rw E) (drawB E 23) n L23_0 ts st = aexec E 23 (rw E) (drawB E 23) n (S23_1) ts st := by
    intro n ts st
    have e1 : L23_0 = (.seq (code Try.f23).snd.snd.fst.snd.bin.lin.fst (.seq (code Try.f23).snd.snd.fst.snd.bin.lin.snd.fst (.seq (.block 1 (.seq (code Try.f23).snd.snd.fst.snd.bin.lin.snd.snd.fst.bin.fst rg23_5)) (code Try.f23).snd.snd.fst.snd.bin.lin.snd.snd.snd))) := rfl
    rw [e1] <;>
    simp only [S23_1, aexec_seq, aseq_assoc]
  refine aw_congr e ?_
  exact h
noncomputable def S23_2 : Code := .seq ((code Try.f23).snd.snd.snd.fst) ((code Try.f23).snd.snd.snd.snd)
noncomputable def S23_2_e := (⟨by simp only [S23_2, code, Try.f23, Option.getD_some, Code.fst, Code.snd, Code.bin, Code.lin, Code.sin, Code.yes, Code.no]; exact rfl⟩ : PLift (S23_2 = _))
theorem C23_wp {ts : List AVal} {st : ASt} {Q : APost} (h : Wp E 23 S23_0 ts st (Nx (fun ts st => Wp E 23 (.block 0 (.loop L23_0)) ts st (Nx (fun ts st => Wp E 23 S23_2 ts st Q) Q)) Q)) : Wp E 23 C23 ts st Q := by
  have e : ∀ n ts st, aexec E 23 (rw E) (drawB E 23) n C23 ts st = aexec E 23 (rw E) (drawB E 23) n (.seq S23_0 (.seq (.block 0 (.loop L23_0)) (S23_2))) ts st := by
    intro n ts st
    have e1 : C23 = (.seq (code Try.f23).fst (.seq (code Try.f23).snd.fst (.seq (.seq (code Try.f23).snd.snd.fst.fst (.block 0 (.loop L23_0))) (.seq (code Try.f23).snd.snd.snd.fst (code Try.f23).snd.snd.snd.snd)))) := rfl
    rw [e1] <;>
    simp only [S23_0, S23_2, aexec_seq, aseq_assoc]
  refine aw_congr e ?_
  have h0 := h
  exact aw_seq (h0.mono fun e ts st hq => by cases e <;> first | exact hq | (have h1 := hq; exact aw_seq h1))
theorem ce_23 {x0 : AVal} {st : ASt} {r : AEnd × ASt} (h : ∀ g : Nat → AVal, g 0 = x0 → Wp E 23 C23 (Sl 25 g) st (fun e ts st => aend E Try.f23 (some (e, ts, st)) = some r)) : rw E 23 [x0] st = some r :=
  ce_of (fn := Try.f23) (c := C23) rfl rfl rfl (Nat.le_of_ble_eq_true rfl) fun g hg => h g (hg 0 x0 rfl)
theorem cx_23 {x0 : AVal} {st : ASt} {R : AEnd → ASt → Prop} (h : ∀ g : Nat → AVal, g 0 = x0 → Wp E 23 C23 (Sl 25 g) st (fun e ts st => ∃ r st', aend E Try.f23 (some (e, ts, st)) = some (r, st') ∧ R r st')) : ∃ r st', rw E 23 [x0] st = some (r, st') ∧ R r st' :=
  cx_of (fn := Try.f23) (c := C23) rfl rfl rfl (Nat.le_of_ble_eq_true rfl) fun g hg => h g (hg 0 x0 rfl)
theorem o_fap_68_0 (s o : Nat) : fieldA E.P 68 (.ptr s o) 0 = some (.ptr s (o + 0)) := rfl
theorem o_fai_68_0 (cs : List AVal) : fieldA E.P 68 (.iptr (.agg cs)) 0 = (cs[0]?).map .iptr := rfl
theorem o_ldp_5 (st : ASt) (s o : Nat) : loadA E.P 5 st (.ptr s o) = (blkOf (st.heap s)).bind (fun cs => cs[o]?) := ld_one rfl rfl st s o
theorem o_ldi_5 (st : ASt) (v : AVal) : loadA E.P 5 st (.iptr v) = if v.isCell = true then some v else none := rfl
theorem hint_23_21 : E.hint 23 21 = false := rfl
theorem o_bs_45_1 (ps : List (Nat × AVal)) (st : ASt) : buildSliceA E.P false 45 1 ps st = (setsE true 2 [(.agg [.lit (.int .i64 0), .lit (.slice none 0 0)])] ps).map (fun es => (.islice 2 es .exact, st)) := bs_i rfl rfl rfl rfl (by decide) rfl ps st
theorem hint_23_22 : E.hint 23 22 = false := rfl
theorem slt_45 : SlT E.P 45 31 true 2 := ⟨rfl, rfl, ⟨_, _, rfl, rfl, by decide, rfl, rfl⟩, by decide⟩

/-! ### braidwork/braidworklaw11.Ahead -/
noncomputable def C28 : Code := (code Try.f28)
noncomputable def S28_0 : Code := .seq ((code Try.f28).fst) (.seq ((code Try.f28).snd.fst) ((code Try.f28).snd.snd.fst.fst))
noncomputable def S28_0_e := (⟨by simp only [S28_0, code, Try.f28, Option.getD_some, Code.fst, Code.snd, Code.bin, Code.lin, Code.sin, Code.yes, Code.no]; exact rfl⟩ : PLift (S28_0 = _))
noncomputable def L28_0 : Code := (code Try.f28).snd.snd.fst.snd.bin.lin
noncomputable def S28_1 : Code := .seq ((code Try.f28).snd.snd.fst.snd.bin.lin.fst) ((code Try.f28).snd.snd.fst.snd.bin.lin.snd.fst)
noncomputable def S28_1_e := (⟨by simp only [S28_1, code, Try.f28, Option.getD_some, Code.fst, Code.snd, Code.bin, Code.lin, Code.sin, Code.yes, Code.no]; exact rfl⟩ : PLift (S28_1 = _))
noncomputable def B28_1 : Code := (code Try.f28).snd.snd.fst.snd.bin.lin.snd.snd.fst.bin
noncomputable def S28_2 : Code := .seq ((code Try.f28).snd.snd.fst.snd.bin.lin.snd.snd.fst.bin.fst) ((code Try.f28).snd.snd.fst.snd.bin.lin.snd.snd.fst.bin.snd.fst)
noncomputable def S28_2_e := (⟨by simp only [S28_2, code, Try.f28, Option.getD_some, Code.fst, Code.snd, Code.bin, Code.lin, Code.sin, Code.yes, Code.no]; exact rfl⟩ : PLift (S28_2 = _))
noncomputable def L28_2 : Code := (code Try.f28).snd.snd.fst.snd.bin.lin.snd.snd.fst.bin.snd.snd.bin.lin
noncomputable def S28_3 : Code := .seq ((code Try.f28).snd.snd.fst.snd.bin.lin.snd.snd.fst.bin.snd.snd.bin.lin.fst) ((code Try.f28).snd.snd.fst.snd.bin.lin.snd.snd.fst.bin.snd.snd.bin.lin.snd.fst)
noncomputable def S28_3_e := (⟨by simp only [S28_3, code, Try.f28, Option.getD_some, Code.fst, Code.snd, Code.bin, Code.lin, Code.sin, Code.yes, Code.no]; exact rfl⟩ : PLift (S28_3 = _))
noncomputable def B28_3 : Code := (code Try.f28).snd.snd.fst.snd.bin.lin.snd.snd.fst.bin.snd.snd.bin.lin.snd.snd.fst.bin
noncomputable def rg28_8 : Code := (code Try.f28).snd.snd.fst.snd.bin.lin.snd.snd.fst.bin.snd.snd.bin.lin.snd.snd.fst.bin.snd.fst
noncomputable def rq28_8 : Code := (code Try.f28).snd.snd.fst.snd.bin.lin.snd.snd.fst.bin.snd.snd.bin.lin.snd.snd.fst.bin.snd.fst
theorem ex28_8 (call : ACall) (n : Nat) (ts : List AVal) (st : ASt) : aexec E 28 call (drawB E 28) n rg28_8 ts st = aops E 28 call rq28_8.ops rq28_8.ops.toList ts st := by
  have d : drawB E 28 rq28_8.ops = true := by kernel_rfl
  have e : rg28_8 = .region 8 rq28_8.ops true := rfl
  rw [e, aexec, d]; rfl
noncomputable def rq28_8_e := (⟨by simp only [rq28_8, code, Try.f28, Option.getD_some, Code.fst, Code.snd, Code.bin, Code.lin, Code.sin, Code.yes, Code.no, Code.ops]; exact rfl⟩ : PLift (rq28_8.ops = _))
noncomputable def S28_4 : Code := .seq ((code Try.f28).snd.snd.fst.snd.bin.lin.snd.snd.fst.bin.snd.snd.bin.lin.snd.snd.fst.bin.fst) (.seq (rg28_8) ((code Try.f28).snd.snd.fst.snd.bin.lin.snd.snd.fst.bin.snd.snd.bin.lin.snd.snd.fst.bin.snd.snd.fst.fst))
noncomputable def S28_4_e := (⟨by simp only [S28_4, code, Try.f28, Option.getD_some, Code.fst, Code.snd, Code.bin, Code.lin, Code.sin, Code.yes, Code.no]; exact rfl⟩ : PLift (S28_4 = _))
noncomputable def L28_4 : Code := (code Try.f28).snd.snd.fst.snd.bin.lin.snd.snd.fst.bin.snd.snd.bin.lin.snd.snd.fst.bin.snd.snd.fst.snd.bin.lin
noncomputable def rg28_12 : Code := (code Try.f28).snd.snd.fst.snd.bin.lin.snd.snd.fst.bin.snd.snd.bin.lin.snd.snd.fst.bin.snd.snd.fst.snd.bin.lin.snd.fst.bin.fst
noncomputable def rq28_12 : Code := (code Try.f28).snd.snd.fst.snd.bin.lin.snd.snd.fst.bin.snd.snd.bin.lin.snd.snd.fst.bin.snd.snd.fst.snd.bin.lin.snd.fst.bin.fst
theorem ex28_12 (call : ACall) (n : Nat) (ts : List AVal) (st : ASt) : aexec E 28 call (drawB E 28) n rg28_12 ts st = aops E 28 call rq28_12.ops rq28_12.ops.toList ts st := by
  have d : drawB E 28 rq28_12.ops = true := by kernel_rfl
  have e : rg28_12 = .region 12 rq28_12.ops true := rfl
  rw [e, aexec, d]; rfl
noncomputable def rq28_12_e := (⟨by simp only [rq28_12, code, Try.f28, Option.getD_some, Code.fst, Code.snd, Code.bin, Code.lin, Code.sin, Code.yes, Code.no, Code.ops]; exact rfl⟩ : PLift (rq28_12.ops = _))
noncomputable def S28_5 : Code := .seq ((code Try.f28).snd.snd.fst.snd.bin.lin.snd.snd.fst.bin.snd.snd.bin.lin.snd.snd.fst.bin.snd.snd.fst.snd.bin.lin.fst.fst) (.seq ((code Try.f28).snd.snd.fst.snd.bin.lin.snd.snd.fst.bin.snd.snd.bin.lin.snd.snd.fst.bin.snd.snd.fst.snd.bin.lin.fst.snd) (.seq (.block 5 (.seq rg28_12 (code Try.f28).snd.snd.fst.snd.bin.lin.snd.snd.fst.bin.snd.snd.bin.lin.snd.snd.fst.bin.snd.snd.fst.snd.bin.lin.snd.fst.bin.snd)) ((code Try.f28).snd.snd.fst.snd.bin.lin.snd.snd.fst.bin.snd.snd.bin.lin.snd.snd.fst.bin.snd.snd.fst.snd.bin.lin.snd.snd)))
noncomputable def S28_5_e := (⟨by simp only [S28_5, code, Try.f28, Option.getD_some, Code.fst, Code.snd, Code.bin, Code.lin, Code.sin, Code.yes, Code.no]; exact rfl⟩ : PLift (S28_5 = _))
theorem L28_4_wp {ts : List AVal} {st : ASt} {Q : APost} (h : Wp E 28 S28_5 ts st Q) : Wp E 28 L28_4 ts st Q := by
  have e : ∀ n ts st, aexec E 28 (rw E) (drawB E 28) n L28_4 ts st = aexec E 28 (rw E) (drawB E 28) n (S28_5) ts st := by
    intro n ts st
    have e1 : L28_4 = (.seq (.seq (code Try.f28).snd.snd.fst.snd.bin.lin.snd.snd.fst.bin.snd.snd.bin.lin.snd.snd.fst.bin.snd.snd.fst.snd.bin.lin.fst.fst (code Try.f28).snd.snd.fst.snd.bin.lin.snd.snd.fst.bin.snd.snd.bin.lin.snd.snd.fst.bin.snd.snd.fst.snd.bin.lin.fst.snd) (.seq (.block 5 (.seq rg28_12 (code Try.f28).snd.snd.fst.snd.bin.lin.snd.snd.fst.bin.snd.snd.bin.lin.snd.snd.fst.bin.snd.snd.fst.snd.bin.lin.snd.fst.bin.snd)) (code Try.f28).snd.snd.fst.snd.bin.lin.snd.snd.fst.bin.snd.snd.bin.lin.snd.snd.fst.bin.snd.snd.fst.snd.bin.lin.snd.snd)) := rfl
    rw [e1] <;>
    simp only [S28_5, aexec_seq, aseq_assoc]
  refine aw_congr e ?_
  exact h
noncomputable def S28_6 : Code := .seq ((code Try.f28).snd.snd.fst.snd.bin.lin.snd.snd.fst.bin.snd.snd.bin.lin.snd.snd.fst.bin.snd.snd.snd.fst) ((code Try.f28).snd.snd.fst.snd.bin.lin.snd.snd.fst.bin.snd.snd.bin.lin.snd.snd.fst.bin.snd.snd.snd.snd)
noncomputable def S28_6_e := (⟨by simp only [S28_6, code, Try.f28, Option.getD_some, Code.fst, Code.snd, Code.bin, Code.lin, Code.sin, Code.yes, Code.no]; exact rfl⟩ : PLift (S28_6 = _))
theorem B28_3_wp {ts : List AVal} {st : ASt} {Q : APost} (h : Wp E 28 S28_4 ts st (Nx (fun ts st => Wp E 28 (.block 4 (.loop L28_4)) ts st (Nx (fun ts st => Wp E 28 S28_6 ts st Q) Q)) Q)) : Wp E 28 B28_3 ts st Q := by
  have e : ∀ n ts st, aexec E 28 (rw E) (drawB E 28) n B28_3 ts st = aexec E 28 (rw E) (drawB E 28) n (.seq S28_4 (.seq (.block 4 (.loop L28_4)) (S28_6))) ts st := by
    intro n ts st
    have e1 : B28_3 = (.seq (code Try.f28).snd.snd.fst.snd.bin.lin.snd.snd.fst.bin.snd.snd.bin.lin.snd.snd.fst.bin.fst (.seq rg28_8 (.seq (.seq (code Try.f28).snd.snd.fst.snd.bin.lin.snd.snd.fst.bin.snd.snd.bin.lin.snd.snd.fst.bin.snd.snd.fst.fst (.block 4 (.loop L28_4))) (.seq (code Try.f28).snd.snd.fst.snd.bin.lin.snd.snd.fst.bin.snd.snd.bin.lin.snd.snd.fst.bin.snd.snd.snd.fst (code Try.f28).snd.snd.fst.snd.bin.lin.snd.snd.fst.bin.snd.snd.bin.lin.snd.snd.fst.bin.snd.snd.snd.snd)))) := rfl
    rw [e1] <;>
    simp only [S28_4, S28_6, aexec_seq, aseq_assoc]
  refine aw_congr e ?_
  have h0 := h
  exact aw_seq (h0.mono fun e ts st hq => by cases e <;> first | exact hq | (have h1 := hq; exact aw_seq h1))
noncomputable def S28_7 : Code := (code Try.f28).snd.snd.fst.snd.bin.lin.snd.snd.fst.bin.snd.snd.bin.lin.snd.snd.snd
noncomputable def S28_7_e := (⟨by simp only [S28_7, code, Try.f28, Option.getD_some, Code.fst, Code.snd, Code.bin, Code.lin, Code.sin, Code.yes, Code.no]; exact rfl⟩ : PLift (S28_7 = _))
theorem L28_2_wp {ts : List AVal} {st : ASt} {Q : APost} (h : Wp E 28 S28_3 ts st (Nx (fun ts st => Wp E 28 (.block 3 B28_3) ts st (Nx (fun ts st => Wp E 28 S28_7 ts st Q) Q)) Q)) : Wp E 28 L28_2 ts st Q := by
  have e : ∀ n ts st, aexec E 28 (rw E) (drawB E 28) n L28_2 ts st = aexec E 28 (rw E) (drawB E 28) n (.seq S28_3 (.seq (.block 3 B28_3) (S28_7))) ts st := by
    intro n ts st
    have e1 : L28_2 = (.seq (code Try.f28).snd.snd.fst.snd.bin.lin.snd.snd.fst.bin.snd.snd.bin.lin.fst (.seq (code Try.f28).snd.snd.fst.snd.bin.lin.snd.snd.fst.bin.snd.snd.bin.lin.snd.fst (.seq (.block 3 B28_3) (code Try.f28).snd.snd.fst.snd.bin.lin.snd.snd.fst.bin.snd.snd.bin.lin.snd.snd.snd))) := rfl
    rw [e1] <;>
    simp only [S28_3, S28_7, aexec_seq, aseq_assoc]
  refine aw_congr e ?_
  have h0 := h
  exact aw_seq (h0.mono fun e ts st hq => by cases e <;> first | exact hq | (have h1 := hq; exact aw_seq h1))
theorem B28_1_wp {ts : List AVal} {st : ASt} {Q : APost} (h : Wp E 28 S28_2 ts st (Nx (fun ts st => Wp E 28 (.block 2 (.loop L28_2)) ts st Q) Q)) : Wp E 28 B28_1 ts st Q := by
  have e : ∀ n ts st, aexec E 28 (rw E) (drawB E 28) n B28_1 ts st = aexec E 28 (rw E) (drawB E 28) n (.seq S28_2 ((.block 2 (.loop L28_2)))) ts st := by
    intro n ts st
    have e1 : B28_1 = (.seq (code Try.f28).snd.snd.fst.snd.bin.lin.snd.snd.fst.bin.fst (.seq (code Try.f28).snd.snd.fst.snd.bin.lin.snd.snd.fst.bin.snd.fst (.block 2 (.loop L28_2)))) := rfl
    rw [e1] <;>
    simp only [S28_2, aexec_seq, aseq_assoc]
  refine aw_congr e ?_
  have h0 := h
  exact aw_seq h0
noncomputable def S28_8 : Code := (code Try.f28).snd.snd.fst.snd.bin.lin.snd.snd.snd
noncomputable def S28_8_e := (⟨by simp only [S28_8, code, Try.f28, Option.getD_some, Code.fst, Code.snd, Code.bin, Code.lin, Code.sin, Code.yes, Code.no]; exact rfl⟩ : PLift (S28_8 = _))
theorem L28_0_wp {ts : List AVal} {st : ASt} {Q : APost} (h : Wp E 28 S28_1 ts st (Nx (fun ts st => Wp E 28 (.block 1 B28_1) ts st (Nx (fun ts st => Wp E 28 S28_8 ts st Q) Q)) Q)) : Wp E 28 L28_0 ts st Q := by
  have e : ∀ n ts st, aexec E 28 (rw E) (drawB E 28) n L28_0 ts st = aexec E 28 (rw E) (drawB E 28) n (.seq S28_1 (.seq (.block 1 B28_1) (S28_8))) ts st := by
    intro n ts st
    have e1 : L28_0 = (.seq (code Try.f28).snd.snd.fst.snd.bin.lin.fst (.seq (code Try.f28).snd.snd.fst.snd.bin.lin.snd.fst (.seq (.block 1 B28_1) (code Try.f28).snd.snd.fst.snd.bin.lin.snd.snd.snd))) := rfl
    rw [e1] <;>
    simp only [S28_1, S28_8, aexec_seq, aseq_assoc]
  refine aw_congr e ?_
  have h0 := h
  exact aw_seq (h0.mono fun e ts st hq => by cases e <;> first | exact hq | (have h1 := hq; exact aw_seq h1))
noncomputable def S28_9 : Code := .seq ((code Try.f28).snd.snd.snd.fst) ((code Try.f28).snd.snd.snd.snd)
noncomputable def S28_9_e := (⟨by simp only [S28_9, code, Try.f28, Option.getD_some, Code.fst, Code.snd, Code.bin, Code.lin, Code.sin, Code.yes, Code.no]; exact rfl⟩ : PLift (S28_9 = _))
theorem C28_wp {ts : List AVal} {st : ASt} {Q : APost} (h : Wp E 28 S28_0 ts st (Nx (fun ts st => Wp E 28 (.block 0 (.loop L28_0)) ts st (Nx (fun ts st => Wp E 28 S28_9 ts st Q) Q)) Q)) : Wp E 28 C28 ts st Q := by
  have e : ∀ n ts st, aexec E 28 (rw E) (drawB E 28) n C28 ts st = aexec E 28 (rw E) (drawB E 28) n (.seq S28_0 (.seq (.block 0 (.loop L28_0)) (S28_9))) ts st := by
    intro n ts st
    have e1 : C28 = (.seq (code Try.f28).fst (.seq (code Try.f28).snd.fst (.seq (.seq (code Try.f28).snd.snd.fst.fst (.block 0 (.loop L28_0))) (.seq (code Try.f28).snd.snd.snd.fst (code Try.f28).snd.snd.snd.snd)))) := rfl
    rw [e1] <;>
    simp only [S28_0, S28_9, aexec_seq, aseq_assoc]
  refine aw_congr e ?_
  have h0 := h
  exact aw_seq (h0.mono fun e ts st hq => by cases e <;> first | exact hq | (have h1 := hq; exact aw_seq h1))
theorem ce_28 {x0 : AVal} {st : ASt} {r : AEnd × ASt} (h : ∀ g : Nat → AVal, g 0 = x0 → Wp E 28 C28 (Sl 67 g) st (fun e ts st => aend E Try.f28 (some (e, ts, st)) = some r)) : rw E 28 [x0] st = some r :=
  ce_of (fn := Try.f28) (c := C28) rfl rfl rfl (Nat.le_of_ble_eq_true rfl) fun g hg => h g (hg 0 x0 rfl)
theorem cx_28 {x0 : AVal} {st : ASt} {R : AEnd → ASt → Prop} (h : ∀ g : Nat → AVal, g 0 = x0 → Wp E 28 C28 (Sl 67 g) st (fun e ts st => ∃ r st', aend E Try.f28 (some (e, ts, st)) = some (r, st') ∧ R r st')) : ∃ r st', rw E 28 [x0] st = some (r, st') ∧ R r st' :=
  cx_of (fn := Try.f28) (c := C28) rfl rfl rfl (Nat.le_of_ble_eq_true rfl) fun g hg => h g (hg 0 x0 rfl)
theorem cf_29 (a : List AVal) (st : ASt) : callFuncA E.P 29 a st = some (.enter 29 a st) := rfl
theorem hint_28_61 : E.hint 28 61 = false := rfl
theorem hint_28_62 : E.hint 28 62 = false := rfl

/-! ### slices.Contains[[]int,int] -/
noncomputable def C29 : Code := (code Try.f29)
noncomputable def S29_0 : Code := .seq ((code Try.f29).fst) (.seq ((code Try.f29).snd.fst) ((code Try.f29).snd.snd))
noncomputable def S29_0_e := (⟨by simp only [S29_0, code, Try.f29, Option.getD_some, Code.fst, Code.snd, Code.bin, Code.lin, Code.sin, Code.yes, Code.no]; exact rfl⟩ : PLift (S29_0 = _))
theorem C29_wp {ts : List AVal} {st : ASt} {Q : APost} (h : Wp E 29 S29_0 ts st Q) : Wp E 29 C29 ts st Q := by
  have e : ∀ n ts st, aexec E 29 (rw E) (drawB E 29) n C29 ts st = aexec E 29 (rw E) (drawB E 29) n (S29_0) ts st := by
    intro n ts st
    have e1 : C29 = (.seq (code Try.f29).fst (.seq (code Try.f29).snd.fst (code Try.f29).snd.snd)) := rfl
    rw [e1] <;>
    simp only [S29_0, aexec_seq, aseq_assoc]
  refine aw_congr e ?_
  exact h
theorem ce_29 {x0 x1 : AVal} {st : ASt} {r : AEnd × ASt} (h : ∀ g : Nat → AVal, g 0 = x0 → g 1 = x1 → Wp E 29 C29 (Sl 9 g) st (fun e ts st => aend E Try.f29 (some (e, ts, st)) = some r)) : rw E 29 [x0, x1] st = some r :=
  ce_of (fn := Try.f29) (c := C29) rfl rfl rfl (Nat.le_of_ble_eq_true rfl) fun g hg => h g (hg 0 x0 rfl) (hg 1 x1 rfl)
theorem cx_29 {x0 x1 : AVal} {st : ASt} {R : AEnd → ASt → Prop} (h : ∀ g : Nat → AVal, g 0 = x0 → g 1 = x1 → Wp E 29 C29 (Sl 9 g) st (fun e ts st => ∃ r st', aend E Try.f29 (some (e, ts, st)) = some (r, st') ∧ R r st')) : ∃ r st', rw E 29 [x0, x1] st = some (r, st') ∧ R r st' :=
  cx_of (fn := Try.f29) (c := C29) rfl rfl rfl (Nat.le_of_ble_eq_true rfl) fun g hg => h g (hg 0 x0 rfl) (hg 1 x1 rfl)
theorem cf_36 (a : List AVal) (st : ASt) : callFuncA E.P 36 a st = some (.enter 36 a st) := rfl

/-! ### slices.Index[[]int,int] -/
noncomputable def C36 : Code := (code Try.f36)
noncomputable def S36_0 : Code := .seq ((code Try.f36).fst) ((code Try.f36).snd.fst.fst)
noncomputable def S36_0_e := (⟨by simp only [S36_0, code, Try.f36, Option.getD_some, Code.fst, Code.snd, Code.bin, Code.lin, Code.sin, Code.yes, Code.no]; exact rfl⟩ : PLift (S36_0 = _))
noncomputable def L36_0 : Code := (code Try.f36).snd.fst.snd.bin.lin
noncomputable def S36_1 : Code := .seq ((code Try.f36).snd.fst.snd.bin.lin.fst) (.seq ((code Try.f36).snd.fst.snd.bin.lin.snd.fst) (.seq ((code Try.f36).snd.fst.snd.bin.lin.snd.snd.fst) ((code Try.f36).snd.fst.snd.bin.lin.snd.snd.snd)))
noncomputable def S36_1_e := (⟨by simp only [S36_1, code, Try.f36, Option.getD_some, Code.fst, Code.snd, Code.bin, Code.lin, Code.sin, Code.yes, Code.no]; exact rfl⟩ : PLift (S36_1 = _))
theorem L36_0_wp {ts : List AVal} {st : ASt} {Q : APost} (h : Wp E 36 S36_1 ts st Q) : Wp E 36 L36_0 ts st Q := by
  have e : ∀ n ts st, aexec E 36 (rw E) (drawB E 36) n L36_0 ts st = aexec E 36 (rw E) (drawB E 36) n (S36_1) ts st := by
    intro n ts st
    have e1 : L36_0 = (.seq (code Try.f36).snd.fst.snd.bin.lin.fst (.seq (code Try.f36).snd.fst.snd.bin.lin.snd.fst (.seq (code Try.f36).snd.fst.snd.bin.lin.snd.snd.fst (code Try.f36).snd.fst.snd.bin.lin.snd.snd.snd))) := rfl
    rw [e1] <;>
    simp only [S36_1, aexec_seq, aseq_assoc]
  refine aw_congr e ?_
  exact h
noncomputable def S36_2 : Code := .seq ((code Try.f36).snd.snd.fst) ((code Try.f36).snd.snd.snd)
noncomputable def S36_2_e := (⟨by simp only [S36_2, code, Try.f36, Option.getD_some, Code.fst, Code.snd, Code.bin, Code.lin, Code.sin, Code.yes, Code.no]; exact rfl⟩ : PLift (S36_2 = _))
theorem C36_wp {ts : List AVal} {st : ASt} {Q : APost} (h : Wp E 36 S36_0 ts st (Nx (fun ts st => Wp E 36 (.block 0 (.loop L36_0)) ts st (Nx (fun ts st => Wp E 36 S36_2 ts st Q) Q)) Q)) : Wp E 36 C36 ts st Q := by
  have e : ∀ n ts st, aexec E 36 (rw E) (drawB E 36) n C36 ts st = aexec E 36 (rw E) (drawB E 36) n (.seq S36_0 (.seq (.block 0 (.loop L36_0)) (S36_2))) ts st := by
    intro n ts st
    have e1 : C36 = (.seq (code Try.f36).fst (.seq (.seq (code Try.f36).snd.fst.fst (.block 0 (.loop L36_0))) (.seq (code Try.f36).snd.snd.fst (code Try.f36).snd.snd.snd))) := rfl
    rw [e1] <;>
    simp only [S36_0, S36_2, aexec_seq, aseq_assoc]
  refine aw_congr e ?_
  have h0 := h
  exact aw_seq (h0.mono fun e ts st hq => by cases e <;> first | exact hq | (have h1 := hq; exact aw_seq h1))
theorem ce_36 {x0 x1 : AVal} {st : ASt} {r : AEnd × ASt} (h : ∀ g : Nat → AVal, g 0 = x0 → g 1 = x1 → Wp E 36 C36 (Sl 19 g) st (fun e ts st => aend E Try.f36 (some (e, ts, st)) = some r)) : rw E 36 [x0, x1] st = some r :=
  ce_of (fn := Try.f36) (c := C36) rfl rfl rfl (Nat.le_of_ble_eq_true rfl) fun g hg => h g (hg 0 x0 rfl) (hg 1 x1 rfl)
theorem cx_36 {x0 x1 : AVal} {st : ASt} {R : AEnd → ASt → Prop} (h : ∀ g : Nat → AVal, g 0 = x0 → g 1 = x1 → Wp E 36 C36 (Sl 19 g) st (fun e ts st => ∃ r st', aend E Try.f36 (some (e, ts, st)) = some (r, st') ∧ R r st')) : ∃ r st', rw E 36 [x0, x1] st = some (r, st') ∧ R r st' :=
  cx_of (fn := Try.f36) (c := C36) rfl rfl rfl (Nat.le_of_ble_eq_true rfl) fun g hg => h g (hg 0 x0 rfl) (hg 1 x1 rfl)

/-! ### slices.Clone[[]braidwork/event.Event,braidwork/event.Event] -/
noncomputable def C26 : Code := (code Try.f26)
noncomputable def S26_0 : Code := .seq ((code Try.f26).fst) (.seq ((code Try.f26).snd.fst.fst) (.seq ((code Try.f26).snd.fst.snd) (.seq ((code Try.f26).snd.snd.fst) ((code Try.f26).snd.snd.snd))))
noncomputable def S26_0_e := (⟨by simp only [S26_0, code, Try.f26, Option.getD_some, Code.fst, Code.snd, Code.bin, Code.lin, Code.sin, Code.yes, Code.no]; exact rfl⟩ : PLift (S26_0 = _))
theorem C26_wp {ts : List AVal} {st : ASt} {Q : APost} (h : Wp E 26 S26_0 ts st Q) : Wp E 26 C26 ts st Q := by
  have e : ∀ n ts st, aexec E 26 (rw E) (drawB E 26) n C26 ts st = aexec E 26 (rw E) (drawB E 26) n (S26_0) ts st := by
    intro n ts st
    have e1 : C26 = (.seq (code Try.f26).fst (.seq (.seq (code Try.f26).snd.fst.fst (code Try.f26).snd.fst.snd) (.seq (code Try.f26).snd.snd.fst (code Try.f26).snd.snd.snd))) := rfl
    rw [e1] <;>
    simp only [S26_0, aexec_seq, aseq_assoc]
  refine aw_congr e ?_
  exact h
theorem ce_26 {x0 : AVal} {st : ASt} {r : AEnd × ASt} (h : ∀ g : Nat → AVal, g 0 = x0 → Wp E 26 C26 (Sl 8 g) st (fun e ts st => aend E Try.f26 (some (e, ts, st)) = some r)) : rw E 26 [x0] st = some r :=
  ce_of (fn := Try.f26) (c := C26) rfl rfl rfl (Nat.le_of_ble_eq_true rfl) fun g hg => h g (hg 0 x0 rfl)
theorem cx_26 {x0 : AVal} {st : ASt} {R : AEnd → ASt → Prop} (h : ∀ g : Nat → AVal, g 0 = x0 → Wp E 26 C26 (Sl 8 g) st (fun e ts st => ∃ r st', aend E Try.f26 (some (e, ts, st)) = some (r, st') ∧ R r st')) : ∃ r st', rw E 26 [x0] st = some (r, st') ∧ R r st' :=
  cx_of (fn := Try.f26) (c := C26) rfl rfl rfl (Nat.le_of_ble_eq_true rfl) fun g hg => h g (hg 0 x0 rfl)
theorem hint_26_5 : E.hint 26 5 = false := rfl
theorem o_bs_45_0 (ps : List (Nat × AVal)) (st : ASt) : buildSliceA E.P false 45 0 ps st = (setsE true 2 [] ps).map (fun es => (.islice 2 es .exact, st)) := bs_i rfl rfl rfl rfl (by decide) rfl ps st
theorem hint_26_7 : E.hint 26 7 = true := rfl

/-! ### braidwork/braidworklaw11.ClockSwaps$1 -/
noncomputable def C27 : Code := (code Try.f27)
noncomputable def S27_0 : Code := .seq ((code Try.f27).fst) (.seq ((code Try.f27).snd.fst.fst) (.seq ((code Try.f27).snd.fst.snd) (.seq ((code Try.f27).snd.snd.fst) ((code Try.f27).snd.snd.snd))))
noncomputable def S27_0_e := (⟨by simp only [S27_0, code, Try.f27, Option.getD_some, Code.fst, Code.snd, Code.bin, Code.lin, Code.sin, Code.yes, Code.no]; exact rfl⟩ : PLift (S27_0 = _))
theorem C27_wp {ts : List AVal} {st : ASt} {Q : APost} (h : Wp E 27 S27_0 ts st Q) : Wp E 27 C27 ts st Q := by
  have e : ∀ n ts st, aexec E 27 (rw E) (drawB E 27) n C27 ts st = aexec E 27 (rw E) (drawB E 27) n (S27_0) ts st := by
    intro n ts st
    have e1 : C27 = (.seq (code Try.f27).fst (.seq (.seq (code Try.f27).snd.fst.fst (code Try.f27).snd.fst.snd) (.seq (code Try.f27).snd.snd.fst (code Try.f27).snd.snd.snd))) := rfl
    rw [e1] <;>
    simp only [S27_0, aexec_seq, aseq_assoc]
  refine aw_congr e ?_
  exact h
theorem ce_27 {x0 : AVal} {st : ASt} {r : AEnd × ASt} (h : ∀ g : Nat → AVal, g 0 = x0 → Wp E 27 C27 (Sl 16 g) st (fun e ts st => aend E Try.f27 (some (e, ts, st)) = some r)) : rw E 27 [x0] st = some r :=
  ce_of (fn := Try.f27) (c := C27) rfl rfl rfl (Nat.le_of_ble_eq_true rfl) fun g hg => h g (hg 0 x0 rfl)
theorem cx_27 {x0 : AVal} {st : ASt} {R : AEnd → ASt → Prop} (h : ∀ g : Nat → AVal, g 0 = x0 → Wp E 27 C27 (Sl 16 g) st (fun e ts st => ∃ r st', aend E Try.f27 (some (e, ts, st)) = some (r, st') ∧ R r st')) : ∃ r st', rw E 27 [x0] st = some (r, st') ∧ R r st' :=
  cx_of (fn := Try.f27) (c := C27) rfl rfl rfl (Nat.le_of_ble_eq_true rfl) fun g hg => h g (hg 0 x0 rfl)

/-! ### braidwork/braidworklaw11.Awake -/
noncomputable def C21 : Code := (code Try.f21)
noncomputable def S21_0 : Code := .seq ((code Try.f21).fst) (.seq ((code Try.f21).snd.fst) (.seq ((code Try.f21).snd.snd.fst) ((code Try.f21).snd.snd.snd)))
noncomputable def S21_0_e := (⟨by simp only [S21_0, code, Try.f21, Option.getD_some, Code.fst, Code.snd, Code.bin, Code.lin, Code.sin, Code.yes, Code.no]; exact rfl⟩ : PLift (S21_0 = _))
theorem C21_wp {ts : List AVal} {st : ASt} {Q : APost} (h : Wp E 21 S21_0 ts st Q) : Wp E 21 C21 ts st Q := by
  have e : ∀ n ts st, aexec E 21 (rw E) (drawB E 21) n C21 ts st = aexec E 21 (rw E) (drawB E 21) n (S21_0) ts st := by
    intro n ts st
    have e1 : C21 = (.seq (code Try.f21).fst (.seq (code Try.f21).snd.fst (.seq (code Try.f21).snd.snd.fst (code Try.f21).snd.snd.snd))) := rfl
    rw [e1] <;>
    simp only [S21_0, aexec_seq, aseq_assoc]
  refine aw_congr e ?_
  exact h
theorem ce_21 {st : ASt} {r : AEnd × ASt} (h : ∀ g : Nat → AVal, Wp E 21 C21 (Sl 22 g) st (fun e ts st => aend E Try.f21 (some (e, ts, st)) = some r)) : rw E 21 [] st = some r :=
  ce_of (fn := Try.f21) (c := C21) rfl rfl rfl (Nat.le_of_ble_eq_true rfl) fun g hg => h g 
theorem cx_21 {st : ASt} {R : AEnd → ASt → Prop} (h : ∀ g : Nat → AVal, Wp E 21 C21 (Sl 22 g) st (fun e ts st => ∃ r st', aend E Try.f21 (some (e, ts, st)) = some (r, st') ∧ R r st')) : ∃ r st', rw E 21 [] st = some (r, st') ∧ R r st' :=
  cx_of (fn := Try.f21) (c := C21) rfl rfl rfl (Nat.le_of_ble_eq_true rfl) fun g hg => h g 
theorem hint_21_5 : E.hint 21 5 = false := rfl
theorem o_bs_45_3 (ps : List (Nat × AVal)) (st : ASt) : buildSliceA E.P false 45 3 ps st = (setsE true 2 [(.agg [.lit (.int .i64 0), .lit (.slice none 0 0)]), (.agg [.lit (.int .i64 0), .lit (.slice none 0 0)]), (.agg [.lit (.int .i64 0), .lit (.slice none 0 0)])] ps).map (fun es => (.islice 2 es .exact, st)) := bs_i rfl rfl rfl rfl (by decide) rfl ps st
theorem cf_24 (a : List AVal) (st : ASt) : callFuncA E.P 24 a st = some (.enter 24 a st) := rfl
theorem cf_25 (a : List AVal) (st : ASt) : callFuncA E.P 25 a st = some (.enter 25 a st) := rfl

/-! ### braidwork/braidworklaw11.ClockTrans -/
noncomputable def C8 : Code := (code Try.f8)
noncomputable def S8_0 : Code := .seq ((code Try.f8).fst) (.seq ((code Try.f8).snd.fst.fst) (.seq ((code Try.f8).snd.fst.snd) (.seq ((code Try.f8).snd.snd.fst.fst) (.seq ((code Try.f8).snd.snd.fst.snd) (.seq ((code Try.f8).snd.snd.snd.fst) (.seq ((code Try.f8).snd.snd.snd.snd.fst) ((code Try.f8).snd.snd.snd.snd.snd.fst.fst)))))))
noncomputable def S8_0_e := (⟨by simp only [S8_0, code, Try.f8, Option.getD_some, Code.fst, Code.snd, Code.bin, Code.lin, Code.sin, Code.yes, Code.no]; exact rfl⟩ : PLift (S8_0 = _))
noncomputable def L8_0 : Code := (code Try.f8).snd.snd.snd.snd.snd.fst.snd.bin.lin
noncomputable def S8_1 : Code := .seq ((code Try.f8).snd.snd.snd.snd.snd.fst.snd.bin.lin.fst) ((code Try.f8).snd.snd.snd.snd.snd.fst.snd.bin.lin.snd.fst)
noncomputable def S8_1_e := (⟨by simp only [S8_1, code, Try.f8, Option.getD_some, Code.fst, Code.snd, Code.bin, Code.lin, Code.sin, Code.yes, Code.no]; exact rfl⟩ : PLift (S8_1 = _))
noncomputable def B8_1 : Code := (code Try.f8).snd.snd.snd.snd.snd.fst.snd.bin.lin.snd.snd.fst.bin
noncomputable def S8_2 : Code := .seq ((code Try.f8).snd.snd.snd.snd.snd.fst.snd.bin.lin.snd.snd.fst.bin.fst) ((code Try.f8).snd.snd.snd.snd.snd.fst.snd.bin.lin.snd.snd.fst.bin.snd.fst)
noncomputable def S8_2_e := (⟨by simp only [S8_2, code, Try.f8, Option.getD_some, Code.fst, Code.snd, Code.bin, Code.lin, Code.sin, Code.yes, Code.no]; exact rfl⟩ : PLift (S8_2 = _))
noncomputable def L8_2 : Code := (code Try.f8).snd.snd.snd.snd.snd.fst.snd.bin.lin.snd.snd.fst.bin.snd.snd.bin.lin
noncomputable def S8_3 : Code := .seq ((code Try.f8).snd.snd.snd.snd.snd.fst.snd.bin.lin.snd.snd.fst.bin.snd.snd.bin.lin.fst) ((code Try.f8).snd.snd.snd.snd.snd.fst.snd.bin.lin.snd.snd.fst.bin.snd.snd.bin.lin.snd.fst)
noncomputable def S8_3_e := (⟨by simp only [S8_3, code, Try.f8, Option.getD_some, Code.fst, Code.snd, Code.bin, Code.lin, Code.sin, Code.yes, Code.no]; exact rfl⟩ : PLift (S8_3 = _))
noncomputable def B8_3 : Code := (code Try.f8).snd.snd.snd.snd.snd.fst.snd.bin.lin.snd.snd.fst.bin.snd.snd.bin.lin.snd.snd.fst.bin
noncomputable def rg8_13 : Code := (code Try.f8).snd.snd.snd.snd.snd.fst.snd.bin.lin.snd.snd.fst.bin.snd.snd.bin.lin.snd.snd.fst.bin.snd.fst.fst
noncomputable def rq8_13 : Code := (code Try.f8).snd.snd.snd.snd.snd.fst.snd.bin.lin.snd.snd.fst.bin.snd.snd.bin.lin.snd.snd.fst.bin.snd.fst.fst
theorem ex8_13 (call : ACall) (n : Nat) (ts : List AVal) (st : ASt) : aexec E 8 call (drawB E 8) n rg8_13 ts st = aops E 8 call rq8_13.ops rq8_13.ops.toList ts st := by
  have d : drawB E 8 rq8_13.ops = true := by kernel_rfl
  have e : rg8_13 = .region 13 rq8_13.ops true := rfl
  rw [e, aexec, d]; rfl
noncomputable def rq8_13_e := (⟨by simp only [rq8_13, code, Try.f8, Option.getD_some, Code.fst, Code.snd, Code.bin, Code.lin, Code.sin, Code.yes, Code.no, Code.ops]; exact rfl⟩ : PLift (rq8_13.ops = _))
noncomputable def S8_4 : Code := .seq ((code Try.f8).snd.snd.snd.snd.snd.fst.snd.bin.lin.snd.snd.fst.bin.snd.snd.bin.lin.snd.snd.fst.bin.fst) (.seq (rg8_13) (.seq ((code Try.f8).snd.snd.snd.snd.snd.fst.snd.bin.lin.snd.snd.fst.bin.snd.snd.bin.lin.snd.snd.fst.bin.snd.fst.snd) ((code Try.f8).snd.snd.snd.snd.snd.fst.snd.bin.lin.snd.snd.fst.bin.snd.snd.bin.lin.snd.snd.fst.bin.snd.snd.fst)))
noncomputable def S8_4_e := (⟨by simp only [S8_4, code, Try.f8, Option.getD_some, Code.fst, Code.snd, Code.bin, Code.lin, Code.sin, Code.yes, Code.no]; exact rfl⟩ : PLift (S8_4 = _))
noncomputable def L8_4 : Code := (code Try.f8).snd.snd.snd.snd.snd.fst.snd.bin.lin.snd.snd.fst.bin.snd.snd.bin.lin.snd.snd.fst.bin.snd.snd.snd.bin.lin
noncomputable def S8_5 : Code := .seq ((code Try.f8).snd.snd.snd.snd.snd.fst.snd.bin.lin.snd.snd.fst.bin.snd.snd.bin.lin.snd.snd.fst.bin.snd.snd.snd.bin.lin.fst) (.seq ((code Try.f8).snd.snd.snd.snd.snd.fst.snd.bin.lin.snd.snd.fst.bin.snd.snd.bin.lin.snd.snd.fst.bin.snd.snd.snd.bin.lin.snd.fst) (.seq ((code Try.f8).snd.snd.snd.snd.snd.fst.snd.bin.lin.snd.snd.fst.bin.snd.snd.bin.lin.snd.snd.fst.bin.snd.snd.snd.bin.lin.snd.snd.fst) ((code Try.f8).snd.snd.snd.snd.snd.fst.snd.bin.lin.snd.snd.fst.bin.snd.snd.bin.lin.snd.snd.fst.bin.snd.snd.snd.bin.lin.snd.snd.snd)))
noncomputable def S8_5_e := (⟨by simp only [S8_5, code, Try.f8, Option.getD_some, Code.fst, Code.snd, Code.bin, Code.lin, Code.sin, Code.yes, Code.no]; exact rfl⟩ : PLift (S8_5 = _))
theorem L8_4_wp {ts : List AVal} {st : ASt} {Q : APost} (h : Wp E 8 S8_5 ts st Q) : Wp E 8 L8_4 ts st Q := by
  have e : ∀ n ts st, aexec E 8 (rw E) (drawB E 8) n L8_4 ts st = aexec E 8 (rw E) (drawB E 8) n (S8_5) ts st := by
    intro n ts st
    have e1 : L8_4 = (.seq (code Try.f8).snd.snd.snd.snd.snd.fst.snd.bin.lin.snd.snd.fst.bin.snd.snd.bin.lin.snd.snd.fst.bin.snd.snd.snd.bin.lin.fst (.seq (code Try.f8).snd.snd.snd.snd.snd.fst.snd.bin.lin.snd.snd.fst.bin.snd.snd.bin.lin.snd.snd.fst.bin.snd.snd.snd.bin.lin.snd.fst (.seq (code Try.f8).snd.snd.snd.snd.snd.fst.snd.bin.lin.snd.snd.fst.bin.snd.snd.bin.lin.snd.snd.fst.bin.snd.snd.snd.bin.lin.snd.snd.fst (code Try.f8).snd.snd.snd.snd.snd.fst.snd.bin.lin.snd.snd.fst.bin.snd.snd.bin.lin.snd.snd.fst.bin.snd.snd.snd.bin.lin.snd.snd.snd))) := rfl
    rw [e1] <;>
    simp only [S8_5, aexec_seq, aseq_assoc]
  refine aw_congr e ?_
  exact h
theorem B8_3_wp {ts : List AVal} {st : ASt} {Q : APost} (h : Wp E 8 S8_4 ts st (Nx (fun ts st => Wp E 8 (.block 4 (.loop L8_4)) ts st Q) Q)) : Wp E 8 B8_3 ts st Q := by
  have e : ∀ n ts st, aexec E 8 (rw E) (drawB E 8) n B8_3 ts st = aexec E 8 (rw E) (drawB E 8) n (.seq S8_4 ((.block 4 (.loop L8_4)))) ts st := by
    intro n ts st
    have e1 : B8_3 = (.seq (code Try.f8).snd.snd.snd.snd.snd.fst.snd.bin.lin.snd.snd.fst.bin.snd.snd.bin.lin.snd.snd.fst.bin.fst (.seq (.seq rg8_13 (code Try.f8).snd.snd.snd.snd.snd.fst.snd.bin.lin.snd.snd.fst.bin.snd.snd.bin.lin.snd.snd.fst.bin.snd.fst.snd) (.seq (code Try.f8).snd.snd.snd.snd.snd.fst.snd.bin.lin.snd.snd.fst.bin.snd.snd.bin.lin.snd.snd.fst.bin.snd.snd.fst (.block 4 (.loop L8_4))))) := rfl
    rw [e1] <;>
    simp only [S8_4, aexec_seq, aseq_assoc]
  refine aw_congr e ?_
  have h0 := h
  exact aw_seq h0
noncomputable def S8_6 : Code := (code Try.f8).snd.snd.snd.snd.snd.fst.snd.bin.lin.snd.snd.fst.bin.snd.snd.bin.lin.snd.snd.snd
noncomputable def S8_6_e := (⟨by simp only [S8_6, code, Try.f8, Option.getD_some, Code.fst, Code.snd, Code.bin, Code.lin, Code.sin, Code.yes, Code.no]; exact rfl⟩ : PLift (S8_6 = _))
theorem L8_2_wp {ts : List AVal} {st : ASt} {Q : APost} (h : Wp E 8 S8_3 ts st (Nx (fun ts st => Wp E 8 (.block 3 B8_3) ts st (Nx (fun ts st => Wp E 8 S8_6 ts st Q) Q)) Q)) : Wp E 8 L8_2 ts st Q := by
  have e : ∀ n ts st, aexec E 8 (rw E) (drawB E 8) n L8_2 ts st = aexec E 8 (rw E) (drawB E 8) n (.seq S8_3 (.seq (.block 3 B8_3) (S8_6))) ts st := by
    intro n ts st
    have e1 : L8_2 = (.seq (code Try.f8).snd.snd.snd.snd.snd.fst.snd.bin.lin.snd.snd.fst.bin.snd.snd.bin.lin.fst (.seq (code Try.f8).snd.snd.snd.snd.snd.fst.snd.bin.lin.snd.snd.fst.bin.snd.snd.bin.lin.snd.fst (.seq (.block 3 B8_3) (code Try.f8).snd.snd.snd.snd.snd.fst.snd.bin.lin.snd.snd.fst.bin.snd.snd.bin.lin.snd.snd.snd))) := rfl
    rw [e1] <;>
    simp only [S8_3, S8_6, aexec_seq, aseq_assoc]
  refine aw_congr e ?_
  have h0 := h
  exact aw_seq (h0.mono fun e ts st hq => by cases e <;> first | exact hq | (have h1 := hq; exact aw_seq h1))
theorem B8_1_wp {ts : List AVal} {st : ASt} {Q : APost} (h : Wp E 8 S8_2 ts st (Nx (fun ts st => Wp E 8 (.block 2 (.loop L8_2)) ts st Q) Q)) : Wp E 8 B8_1 ts st Q := by
  have e : ∀ n ts st, aexec E 8 (rw E) (drawB E 8) n B8_1 ts st = aexec E 8 (rw E) (drawB E 8) n (.seq S8_2 ((.block 2 (.loop L8_2)))) ts st := by
    intro n ts st
    have e1 : B8_1 = (.seq (code Try.f8).snd.snd.snd.snd.snd.fst.snd.bin.lin.snd.snd.fst.bin.fst (.seq (code Try.f8).snd.snd.snd.snd.snd.fst.snd.bin.lin.snd.snd.fst.bin.snd.fst (.block 2 (.loop L8_2)))) := rfl
    rw [e1] <;>
    simp only [S8_2, aexec_seq, aseq_assoc]
  refine aw_congr e ?_
  have h0 := h
  exact aw_seq h0
noncomputable def S8_7 : Code := (code Try.f8).snd.snd.snd.snd.snd.fst.snd.bin.lin.snd.snd.snd
noncomputable def S8_7_e := (⟨by simp only [S8_7, code, Try.f8, Option.getD_some, Code.fst, Code.snd, Code.bin, Code.lin, Code.sin, Code.yes, Code.no]; exact rfl⟩ : PLift (S8_7 = _))
theorem L8_0_wp {ts : List AVal} {st : ASt} {Q : APost} (h : Wp E 8 S8_1 ts st (Nx (fun ts st => Wp E 8 (.block 1 B8_1) ts st (Nx (fun ts st => Wp E 8 S8_7 ts st Q) Q)) Q)) : Wp E 8 L8_0 ts st Q := by
  have e : ∀ n ts st, aexec E 8 (rw E) (drawB E 8) n L8_0 ts st = aexec E 8 (rw E) (drawB E 8) n (.seq S8_1 (.seq (.block 1 B8_1) (S8_7))) ts st := by
    intro n ts st
    have e1 : L8_0 = (.seq (code Try.f8).snd.snd.snd.snd.snd.fst.snd.bin.lin.fst (.seq (code Try.f8).snd.snd.snd.snd.snd.fst.snd.bin.lin.snd.fst (.seq (.block 1 B8_1) (code Try.f8).snd.snd.snd.snd.snd.fst.snd.bin.lin.snd.snd.snd))) := rfl
    rw [e1] <;>
    simp only [S8_1, S8_7, aexec_seq, aseq_assoc]
  refine aw_congr e ?_
  have h0 := h
  exact aw_seq (h0.mono fun e ts st hq => by cases e <;> first | exact hq | (have h1 := hq; exact aw_seq h1))
noncomputable def S8_8 : Code := .seq ((code Try.f8).snd.snd.snd.snd.snd.snd.fst) ((code Try.f8).snd.snd.snd.snd.snd.snd.snd)
noncomputable def S8_8_e := (⟨by simp only [S8_8, code, Try.f8, Option.getD_some, Code.fst, Code.snd, Code.bin, Code.lin, Code.sin, Code.yes, Code.no]; exact rfl⟩ : PLift (S8_8 = _))
theorem C8_wp {ts : List AVal} {st : ASt} {Q : APost} (h : Wp E 8 S8_0 ts st (Nx (fun ts st => Wp E 8 (.block 0 (.loop L8_0)) ts st (Nx (fun ts st => Wp E 8 S8_8 ts st Q) Q)) Q)) : Wp E 8 C8 ts st Q := by
  have e : ∀ n ts st, aexec E 8 (rw E) (drawB E 8) n C8 ts st = aexec E 8 (rw E) (drawB E 8) n (.seq S8_0 (.seq (.block 0 (.loop L8_0)) (S8_8))) ts st := by
    intro n ts st
    have e1 : C8 = (.seq (code Try.f8).fst (.seq (.seq (code Try.f8).snd.fst.fst (code Try.f8).snd.fst.snd) (.seq (.seq (code Try.f8).snd.snd.fst.fst (code Try.f8).snd.snd.fst.snd) (.seq (code Try.f8).snd.snd.snd.fst (.seq (code Try.f8).snd.snd.snd.snd.fst (.seq (.seq (code Try.f8).snd.snd.snd.snd.snd.fst.fst (.block 0 (.loop L8_0))) (.seq (code Try.f8).snd.snd.snd.snd.snd.snd.fst (code Try.f8).snd.snd.snd.snd.snd.snd.snd))))))) := rfl
    rw [e1] <;>
    simp only [S8_0, S8_8, aexec_seq, aseq_assoc]
  refine aw_congr e ?_
  have h0 := h
  exact aw_seq (h0.mono fun e ts st hq => by cases e <;> first | exact hq | (have h1 := hq; exact aw_seq h1))
theorem ce_8 {x0 : AVal} {st : ASt} {r : AEnd × ASt} (h : ∀ g : Nat → AVal, g 0 = x0 → Wp E 8 C8 (Sl 86 g) st (fun e ts st => aend E Try.f8 (some (e, ts, st)) = some r)) : rw E 8 [x0] st = some r :=
  ce_of (fn := Try.f8) (c := C8) rfl rfl rfl (Nat.le_of_ble_eq_true rfl) fun g hg => h g (hg 0 x0 rfl)
theorem cx_8 {x0 : AVal} {st : ASt} {R : AEnd → ASt → Prop} (h : ∀ g : Nat → AVal, g 0 = x0 → Wp E 8 C8 (Sl 86 g) st (fun e ts st => ∃ r st', aend E Try.f8 (some (e, ts, st)) = some (r, st') ∧ R r st')) : ∃ r st', rw E 8 [x0] st = some (r, st') ∧ R r st' :=
  cx_of (fn := Try.f8) (c := C8) rfl rfl rfl (Nat.le_of_ble_eq_true rfl) fun g hg => h g (hg 0 x0 rfl)
theorem cf_21 (a : List AVal) (st : ASt) : callFuncA E.P 21 a st = some (.enter 21 a st) := rfl
theorem cf_22 (a : List AVal) (st : ASt) : callFuncA E.P 22 a st = some (.enter 22 a st) := rfl
theorem cf_23 (a : List AVal) (st : ASt) : callFuncA E.P 23 a st = some (.enter 23 a st) := rfl

/-! ### braidwork/braidworklaw11.ClockSwaps -/
noncomputable def C9 : Code := (code Try.f9)
noncomputable def rg9_7 : Code := (code Try.f9).snd.snd.snd.snd.snd.fst.fst
noncomputable def rq9_7 : Code := (code Try.f9).snd.snd.snd.snd.snd.fst.fst
theorem ex9_7 (call : ACall) (n : Nat) (ts : List AVal) (st : ASt) : aexec E 9 call (drawB E 9) n rg9_7 ts st = aops E 9 call rq9_7.ops rq9_7.ops.toList ts st := by
  have d : drawB E 9 rq9_7.ops = true := by kernel_rfl
  have e : rg9_7 = .region 7 rq9_7.ops true := rfl
  rw [e, aexec, d]; rfl
noncomputable def rq9_7_e := (⟨by simp only [rq9_7, code, Try.f9, Option.getD_some, Code.fst, Code.snd, Code.bin, Code.lin, Code.sin, Code.yes, Code.no, Code.ops]; exact rfl⟩ : PLift (rq9_7.ops = _))
noncomputable def rg9_11 : Code := (code Try.f9).snd.snd.snd.snd.snd.snd.snd.fst
noncomputable def rq9_11 : Code := (code Try.f9).snd.snd.snd.snd.snd.snd.snd.fst
theorem ex9_11 (call : ACall) (n : Nat) (ts : List AVal) (st : ASt) : aexec E 9 call (drawB E 9) n rg9_11 ts st = aopsP E 9 call rq9_11.ops [.one 0 [], .one 1 [], .one 2 [], .one 3 [], .one 4 [], .one 5 [], .one 6 [], .one 7 [], .one 8 [], .one 9 [], .one 10 [], .one 11 [], .one 12 [], .one 13 [], .one 14 [], .one 15 [3], .one 16 [], .one 17 []] ts st := by
  have d : drawB E 9 rq9_11.ops = false := by kernel_rfl
  have d2 : drawPlan E 9 rq9_11.ops = some [.one 0 [], .one 1 [], .one 2 [], .one 3 [], .one 4 [], .one 5 [], .one 6 [], .one 7 [], .one 8 [], .one 9 [], .one 10 [], .one 11 [], .one 12 [], .one 13 [], .one 14 [], .one 15 [3], .one 16 [], .one 17 []] := by kernel_rfl
  have e : rg9_11 = .region 11 rq9_11.ops true := rfl
  rw [e, aexec, d, d2]; rfl
noncomputable def rq9_11_e := (⟨by simp only [rq9_11, code, Try.f9, Option.getD_some, Code.fst, Code.snd, Code.bin, Code.lin, Code.sin, Code.yes, Code.no, Code.ops]; exact rfl⟩ : PLift (rq9_11.ops = _))
noncomputable def S9_0 : Code := .seq ((code Try.f9).fst) (.seq ((code Try.f9).snd.fst.fst) (.seq ((code Try.f9).snd.fst.snd) (.seq ((code Try.f9).snd.snd.fst.fst) (.seq ((code Try.f9).snd.snd.fst.snd) (.seq ((code Try.f9).snd.snd.snd.fst) (.seq ((code Try.f9).snd.snd.snd.snd.fst) (.seq (rg9_7) (.seq ((code Try.f9).snd.snd.snd.snd.snd.fst.snd) (.seq ((code Try.f9).snd.snd.snd.snd.snd.snd.fst) (.seq (rg9_11) (.seq ((code Try.f9).snd.snd.snd.snd.snd.snd.snd.snd.fst) (.seq ((code Try.f9).snd.snd.snd.snd.snd.snd.snd.snd.snd.fst) ((code Try.f9).snd.snd.snd.snd.snd.snd.snd.snd.snd.snd.fst.fst)))))))))))))
noncomputable def S9_0_e := (⟨by simp only [S9_0, code, Try.f9, Option.getD_some, Code.fst, Code.snd, Code.bin, Code.lin, Code.sin, Code.yes, Code.no]; exact rfl⟩ : PLift (S9_0 = _))
noncomputable def L9_0 : Code := (code Try.f9).snd.snd.snd.snd.snd.snd.snd.snd.snd.snd.fst.snd.bin.lin
noncomputable def S9_1 : Code := .seq ((code Try.f9).snd.snd.snd.snd.snd.snd.snd.snd.snd.snd.fst.snd.bin.lin.fst) ((code Try.f9).snd.snd.snd.snd.snd.snd.snd.snd.snd.snd.fst.snd.bin.lin.snd.fst)
noncomputable def S9_1_e := (⟨by simp only [S9_1, code, Try.f9, Option.getD_some, Code.fst, Code.snd, Code.bin, Code.lin, Code.sin, Code.yes, Code.no]; exact rfl⟩ : PLift (S9_1 = _))
noncomputable def B9_1 : Code := (code Try.f9).snd.snd.snd.snd.snd.snd.snd.snd.snd.snd.fst.snd.bin.lin.snd.snd.fst.bin
noncomputable def S9_2 : Code := .seq ((code Try.f9).snd.snd.snd.snd.snd.snd.snd.snd.snd.snd.fst.snd.bin.lin.snd.snd.fst.bin.fst) ((code Try.f9).snd.snd.snd.snd.snd.snd.snd.snd.snd.snd.fst.snd.bin.lin.snd.snd.fst.bin.snd.fst)
noncomputable def S9_2_e := (⟨by simp only [S9_2, code, Try.f9, Option.getD_some, Code.fst, Code.snd, Code.bin, Code.lin, Code.sin, Code.yes, Code.no]; exact rfl⟩ : PLift (S9_2 = _))
noncomputable def L9_2 : Code := (code Try.f9).snd.snd.snd.snd.snd.snd.snd.snd.snd.snd.fst.snd.bin.lin.snd.snd.fst.bin.snd.snd.bin.lin
noncomputable def rg9_20 : Code := (code Try.f9).snd.snd.snd.snd.snd.snd.snd.snd.snd.snd.fst.snd.bin.lin.snd.snd.fst.bin.snd.snd.bin.lin.snd.snd.fst.bin.snd.fst
noncomputable def rq9_20 : Code := (code Try.f9).snd.snd.snd.snd.snd.snd.snd.snd.snd.snd.fst.snd.bin.lin.snd.snd.fst.bin.snd.snd.bin.lin.snd.snd.fst.bin.snd.fst
theorem ex9_20 (call : ACall) (n : Nat) (ts : List AVal) (st : ASt) : aexec E 9 call (drawB E 9) n rg9_20 ts st = aopsP E 9 call rq9_20.ops [.one 0 [], .one 1 [], .one 2 [], .one 4 [], .one 5 [], .one 6 [], .one 8 [], .one 9 [], .one 3 [4], .one 7 [4], .one 10 [4], .one 11 [], .one 12 []] ts st := by
  have d : drawB E 9 rq9_20.ops = false := by kernel_rfl
  have d2 : drawPlan E 9 rq9_20.ops = some [.one 0 [], .one 1 [], .one 2 [], .one 4 [], .one 5 [], .one 6 [], .one 8 [], .one 9 [], .one 3 [4], .one 7 [4], .one 10 [4], .one 11 [], .one 12 []] := by kernel_rfl
  have e : rg9_20 = .region 20 rq9_20.ops true := rfl
  rw [e, aexec, d, d2]; rfl
noncomputable def rq9_20_e := (⟨by simp only [rq9_20, code, Try.f9, Option.getD_some, Code.fst, Code.snd, Code.bin, Code.lin, Code.sin, Code.yes, Code.no, Code.ops]; exact rfl⟩ : PLift (rq9_20.ops = _))
noncomputable def S9_3 : Code := .seq ((code Try.f9).snd.snd.snd.snd.snd.snd.snd.snd.snd.snd.fst.snd.bin.lin.snd.snd.fst.bin.snd.snd.bin.lin.fst) (.seq ((code Try.f9).snd.snd.snd.snd.snd.snd.snd.snd.snd.snd.fst.snd.bin.lin.snd.snd.fst.bin.snd.snd.bin.lin.snd.fst) (.seq (.block 3 (.seq (code Try.f9).snd.snd.snd.snd.snd.snd.snd.snd.snd.snd.fst.snd.bin.lin.snd.snd.fst.bin.snd.snd.bin.lin.snd.snd.fst.bin.fst (.seq rg9_20 (code Try.f9).snd.snd.snd.snd.snd.snd.snd.snd.snd.snd.fst.snd.bin.lin.snd.snd.fst.bin.snd.snd.bin.lin.snd.snd.fst.bin.snd.snd))) ((code Try.f9).snd.snd.snd.snd.snd.snd.snd.snd.snd.snd.fst.snd.bin.lin.snd.snd.fst.bin.snd.snd.bin.lin.snd.snd.snd)))
noncomputable def S9_3_e := (⟨by simp only [S9_3, code, Try.f9, Option.getD_some, Code.fst, Code.snd, Code.bin, Code.lin, Code.sin, Code.yes, Code.no]; exact rfl⟩ : PLift (S9_3 = _))
theorem L9_2_wp {ts : List AVal} {st : ASt} {Q : APost} (h : Wp E 9 S9_3 ts st Q) : Wp E 9 L9_2 ts st Q := by
  have e : ∀ n ts st, aexec E 9 (rw E) (drawB E 9) n L9_2 ts st = aexec E 9 (rw E) (drawB E 9) n (S9_3) ts st := by
    intro n ts st
    have e1 : L9_2 = (.seq (code Try.f9).snd.snd.snd.snd.snd.snd.snd.snd.snd.snd.fst.snd.bin.lin.snd.snd.fst.bin.snd.snd.bin.lin.fst (.seq (code Try.f9).snd.snd.snd.snd.snd.snd.snd.snd.snd.snd.fst.snd.bin.lin.snd.snd.fst.bin.snd.snd.bin.lin.snd.fst (.seq (.block 3 (.seq (code Try.f9).snd.snd.snd.snd.snd.snd.snd.snd.snd.snd.fst.snd.bin.lin.snd.snd.fst.bin.snd.snd.bin.lin.snd.snd.fst.bin.fst (.seq rg9_20 (code Try.f9).snd.snd.snd.snd.snd.snd.snd.snd.snd.snd.fst.snd.bin.lin.snd.snd.fst.bin.snd.snd.bin.lin.snd.snd.fst.bin.snd.snd))) (code Try.f9).snd.snd.snd.snd.snd.snd.snd.snd.snd.snd.fst.snd.bin.lin.snd.snd.fst.bin.snd.snd.bin.lin.snd.snd.snd))) := rfl
    rw [e1] <;>
    simp only [S9_3, aexec_seq, aseq_assoc]
  refine aw_congr e ?_
  exact h
theorem B9_1_wp {ts : List AVal} {st : ASt} {Q : APost} (h : Wp E 9 S9_2 ts st (Nx (fun ts st => Wp E 9 (.block 2 (.loop L9_2)) ts st Q) Q)) : Wp E 9 B9_1 ts st Q := by
  have e : ∀ n ts st, aexec E 9 (rw E) (drawB E 9) n B9_1 ts st = aexec E 9 (rw E) (drawB E 9) n (.seq S9_2 ((.block 2 (.loop L9_2)))) ts st := by
    intro n ts st
    have e1 : B9_1 = (.seq (code Try.f9).snd.snd.snd.snd.snd.snd.snd.snd.snd.snd.fst.snd.bin.lin.snd.snd.fst.bin.fst (.seq (code Try.f9).snd.snd.snd.snd.snd.snd.snd.snd.snd.snd.fst.snd.bin.lin.snd.snd.fst.bin.snd.fst (.block 2 (.loop L9_2)))) := rfl
    rw [e1] <;>
    simp only [S9_2, aexec_seq, aseq_assoc]
  refine aw_congr e ?_
  have h0 := h
  exact aw_seq h0
noncomputable def S9_4 : Code := (code Try.f9).snd.snd.snd.snd.snd.snd.snd.snd.snd.snd.fst.snd.bin.lin.snd.snd.snd
noncomputable def S9_4_e := (⟨by simp only [S9_4, code, Try.f9, Option.getD_some, Code.fst, Code.snd, Code.bin, Code.lin, Code.sin, Code.yes, Code.no]; exact rfl⟩ : PLift (S9_4 = _))
theorem L9_0_wp {ts : List AVal} {st : ASt} {Q : APost} (h : Wp E 9 S9_1 ts st (Nx (fun ts st => Wp E 9 (.block 1 B9_1) ts st (Nx (fun ts st => Wp E 9 S9_4 ts st Q) Q)) Q)) : Wp E 9 L9_0 ts st Q := by
  have e : ∀ n ts st, aexec E 9 (rw E) (drawB E 9) n L9_0 ts st = aexec E 9 (rw E) (drawB E 9) n (.seq S9_1 (.seq (.block 1 B9_1) (S9_4))) ts st := by
    intro n ts st
    have e1 : L9_0 = (.seq (code Try.f9).snd.snd.snd.snd.snd.snd.snd.snd.snd.snd.fst.snd.bin.lin.fst (.seq (code Try.f9).snd.snd.snd.snd.snd.snd.snd.snd.snd.snd.fst.snd.bin.lin.snd.fst (.seq (.block 1 B9_1) (code Try.f9).snd.snd.snd.snd.snd.snd.snd.snd.snd.snd.fst.snd.bin.lin.snd.snd.snd))) := rfl
    rw [e1] <;>
    simp only [S9_1, S9_4, aexec_seq, aseq_assoc]
  refine aw_congr e ?_
  have h0 := h
  exact aw_seq (h0.mono fun e ts st hq => by cases e <;> first | exact hq | (have h1 := hq; exact aw_seq h1))
noncomputable def S9_5 : Code := .seq ((code Try.f9).snd.snd.snd.snd.snd.snd.snd.snd.snd.snd.snd.fst) ((code Try.f9).snd.snd.snd.snd.snd.snd.snd.snd.snd.snd.snd.snd)
noncomputable def S9_5_e := (⟨by simp only [S9_5, code, Try.f9, Option.getD_some, Code.fst, Code.snd, Code.bin, Code.lin, Code.sin, Code.yes, Code.no]; exact rfl⟩ : PLift (S9_5 = _))
theorem C9_wp {ts : List AVal} {st : ASt} {Q : APost} (h : Wp E 9 S9_0 ts st (Nx (fun ts st => Wp E 9 (.block 0 (.loop L9_0)) ts st (Nx (fun ts st => Wp E 9 S9_5 ts st Q) Q)) Q)) : Wp E 9 C9 ts st Q := by
  have e : ∀ n ts st, aexec E 9 (rw E) (drawB E 9) n C9 ts st = aexec E 9 (rw E) (drawB E 9) n (.seq S9_0 (.seq (.block 0 (.loop L9_0)) (S9_5))) ts st := by
    intro n ts st
    have e1 : C9 = (.seq (code Try.f9).fst (.seq (.seq (code Try.f9).snd.fst.fst (code Try.f9).snd.fst.snd) (.seq (.seq (code Try.f9).snd.snd.fst.fst (code Try.f9).snd.snd.fst.snd) (.seq (code Try.f9).snd.snd.snd.fst (.seq (code Try.f9).snd.snd.snd.snd.fst (.seq (.seq rg9_7 (code Try.f9).snd.snd.snd.snd.snd.fst.snd) (.seq (code Try.f9).snd.snd.snd.snd.snd.snd.fst (.seq rg9_11 (.seq (code Try.f9).snd.snd.snd.snd.snd.snd.snd.snd.fst (.seq (code Try.f9).snd.snd.snd.snd.snd.snd.snd.snd.snd.fst (.seq (.seq (code Try.f9).snd.snd.snd.snd.snd.snd.snd.snd.snd.snd.fst.fst (.block 0 (.loop L9_0))) (.seq (code Try.f9).snd.snd.snd.snd.snd.snd.snd.snd.snd.snd.snd.fst (code Try.f9).snd.snd.snd.snd.snd.snd.snd.snd.snd.snd.snd.snd)))))))))))) := rfl
    rw [e1] <;>
    simp only [S9_0, S9_5, aexec_seq, aseq_assoc]
  refine aw_congr e ?_
  have h0 := h
  exact aw_seq (h0.mono fun e ts st hq => by cases e <;> first | exact hq | (have h1 := hq; exact aw_seq h1))
theorem ce_9 {x0 x1 : AVal} {st : ASt} {r : AEnd × ASt} (h : ∀ g : Nat → AVal, g 0 = x0 → g 1 = x1 → Wp E 9 C9 (Sl 97 g) st (fun e ts st => aend E Try.f9 (some (e, ts, st)) = some r)) : rw E 9 [x0, x1] st = some r :=
  ce_of (fn := Try.f9) (c := C9) rfl rfl rfl (Nat.le_of_ble_eq_true rfl) fun g hg => h g (hg 0 x0 rfl) (hg 1 x1 rfl)
theorem cx_9 {x0 x1 : AVal} {st : ASt} {R : AEnd → ASt → Prop} (h : ∀ g : Nat → AVal, g 0 = x0 → g 1 = x1 → Wp E 9 C9 (Sl 97 g) st (fun e ts st => ∃ r st', aend E Try.f9 (some (e, ts, st)) = some (r, st') ∧ R r st')) : ∃ r st', rw E 9 [x0, x1] st = some (r, st') ∧ R r st' :=
  cx_of (fn := Try.f9) (c := C9) rfl rfl rfl (Nat.le_of_ble_eq_true rfl) fun g hg => h g (hg 0 x0 rfl) (hg 1 x1 rfl)
theorem cf_26 (a : List AVal) (st : ASt) : callFuncA E.P 26 a st = some (.enter 26 a st) := rfl
theorem o_eqb_4_neq (xo yo : Operand) (a b : Bool) : binA E.P .neq 4 xo yo (.lit (.bool a)) (.lit (.bool b)) = some (.lit (.bool (a != b))) := b_neb rfl

/-! ### braidwork/braidworklaw11.ClockOrders -/
noncomputable def C10 : Code := (code Try.f10)
noncomputable def S10_0 : Code := .seq ((code Try.f10).fst) (.seq ((code Try.f10).snd.fst.fst) (.seq ((code Try.f10).snd.fst.snd) (.seq ((code Try.f10).snd.snd.fst.fst) (.seq ((code Try.f10).snd.snd.fst.snd) (.seq ((code Try.f10).snd.snd.snd.fst) (.seq ((code Try.f10).snd.snd.snd.snd.fst) ((code Try.f10).snd.snd.snd.snd.snd.fst.fst)))))))
noncomputable def S10_0_e := (⟨by simp only [S10_0, code, Try.f10, Option.getD_some, Code.fst, Code.snd, Code.bin, Code.lin, Code.sin, Code.yes, Code.no]; exact rfl⟩ : PLift (S10_0 = _))
noncomputable def L10_0 : Code := (code Try.f10).snd.snd.snd.snd.snd.fst.snd.bin.lin
noncomputable def S10_1 : Code := .seq ((code Try.f10).snd.snd.snd.snd.snd.fst.snd.bin.lin.fst) ((code Try.f10).snd.snd.snd.snd.snd.fst.snd.bin.lin.snd.fst)
noncomputable def S10_1_e := (⟨by simp only [S10_1, code, Try.f10, Option.getD_some, Code.fst, Code.snd, Code.bin, Code.lin, Code.sin, Code.yes, Code.no]; exact rfl⟩ : PLift (S10_1 = _))
noncomputable def B10_1 : Code := (code Try.f10).snd.snd.snd.snd.snd.fst.snd.bin.lin.snd.snd.fst.bin
noncomputable def S10_2 : Code := .seq ((code Try.f10).snd.snd.snd.snd.snd.fst.snd.bin.lin.snd.snd.fst.bin.fst) ((code Try.f10).snd.snd.snd.snd.snd.fst.snd.bin.lin.snd.snd.fst.bin.snd.fst)
noncomputable def S10_2_e := (⟨by simp only [S10_2, code, Try.f10, Option.getD_some, Code.fst, Code.snd, Code.bin, Code.lin, Code.sin, Code.yes, Code.no]; exact rfl⟩ : PLift (S10_2 = _))
noncomputable def L10_2 : Code := (code Try.f10).snd.snd.snd.snd.snd.fst.snd.bin.lin.snd.snd.fst.bin.snd.snd.bin.lin
noncomputable def rg10_13 : Code := (code Try.f10).snd.snd.snd.snd.snd.fst.snd.bin.lin.snd.snd.fst.bin.snd.snd.bin.lin.snd.snd.fst.bin.snd.fst
noncomputable def rq10_13 : Code := (code Try.f10).snd.snd.snd.snd.snd.fst.snd.bin.lin.snd.snd.fst.bin.snd.snd.bin.lin.snd.snd.fst.bin.snd.fst
theorem ex10_13 (call : ACall) (n : Nat) (ts : List AVal) (st : ASt) : aexec E 10 call (drawB E 10) n rg10_13 ts st = aopsP E 10 call rq10_13.ops [.one 0 [], .one 1 [], .one 2 [], .one 4 [], .one 5 [], .one 6 [], .one 7 [], .one 8 [], .one 3 [7], .one 9 [], .one 10 []] ts st := by
  have d : drawB E 10 rq10_13.ops = false := by kernel_rfl
  have d2 : drawPlan E 10 rq10_13.ops = some [.one 0 [], .one 1 [], .one 2 [], .one 4 [], .one 5 [], .one 6 [], .one 7 [], .one 8 [], .one 3 [7], .one 9 [], .one 10 []] := by kernel_rfl
  have e : rg10_13 = .region 13 rq10_13.ops true := rfl
  rw [e, aexec, d, d2]; rfl
noncomputable def rq10_13_e := (⟨by simp only [rq10_13, code, Try.f10, Option.getD_some, Code.fst, Code.snd, Code.bin, Code.lin, Code.sin, Code.yes, Code.no, Code.ops]; exact rfl⟩ : PLift (rq10_13.ops = _))
noncomputable def S10_3 : Code := .seq ((code Try.f10).snd.snd.snd.snd.snd.fst.snd.bin.lin.snd.snd.fst.bin.snd.snd.bin.lin.fst) (.seq ((code Try.f10).snd.snd.snd.snd.snd.fst.snd.bin.lin.snd.snd.fst.bin.snd.snd.bin.lin.snd.fst) (.seq (.block 3 (.seq (code Try.f10).snd.snd.snd.snd.snd.fst.snd.bin.lin.snd.snd.fst.bin.snd.snd.bin.lin.snd.snd.fst.bin.fst (.seq rg10_13 (code Try.f10).snd.snd.snd.snd.snd.fst.snd.bin.lin.snd.snd.fst.bin.snd.snd.bin.lin.snd.snd.fst.bin.snd.snd))) ((code Try.f10).snd.snd.snd.snd.snd.fst.snd.bin.lin.snd.snd.fst.bin.snd.snd.bin.lin.snd.snd.snd)))
noncomputable def S10_3_e := (⟨by simp only [S10_3, code, Try.f10, Option.getD_some, Code.fst, Code.snd, Code.bin, Code.lin, Code.sin, Code.yes, Code.no]; exact rfl⟩ : PLift (S10_3 = _))
theorem L10_2_wp {ts : List AVal} {st : ASt} {Q : APost} (h : Wp E 10 S10_3 ts st Q) : Wp E 10 L10_2 ts st Q := by
  have e : ∀ n ts st, aexec E 10 (rw E) (drawB E 10) n L10_2 ts st = aexec E 10 (rw E) (drawB E 10) n (S10_3) ts st := by
    intro n ts st
    have e1 : L10_2 = (.seq (code Try.f10).snd.snd.snd.snd.snd.fst.snd.bin.lin.snd.snd.fst.bin.snd.snd.bin.lin.fst (.seq (code Try.f10).snd.snd.snd.snd.snd.fst.snd.bin.lin.snd.snd.fst.bin.snd.snd.bin.lin.snd.fst (.seq (.block 3 (.seq (code Try.f10).snd.snd.snd.snd.snd.fst.snd.bin.lin.snd.snd.fst.bin.snd.snd.bin.lin.snd.snd.fst.bin.fst (.seq rg10_13 (code Try.f10).snd.snd.snd.snd.snd.fst.snd.bin.lin.snd.snd.fst.bin.snd.snd.bin.lin.snd.snd.fst.bin.snd.snd))) (code Try.f10).snd.snd.snd.snd.snd.fst.snd.bin.lin.snd.snd.fst.bin.snd.snd.bin.lin.snd.snd.snd))) := rfl
    rw [e1] <;>
    simp only [S10_3, aexec_seq, aseq_assoc]
  refine aw_congr e ?_
  exact h
theorem B10_1_wp {ts : List AVal} {st : ASt} {Q : APost} (h : Wp E 10 S10_2 ts st (Nx (fun ts st => Wp E 10 (.block 2 (.loop L10_2)) ts st Q) Q)) : Wp E 10 B10_1 ts st Q := by
  have e : ∀ n ts st, aexec E 10 (rw E) (drawB E 10) n B10_1 ts st = aexec E 10 (rw E) (drawB E 10) n (.seq S10_2 ((.block 2 (.loop L10_2)))) ts st := by
    intro n ts st
    have e1 : B10_1 = (.seq (code Try.f10).snd.snd.snd.snd.snd.fst.snd.bin.lin.snd.snd.fst.bin.fst (.seq (code Try.f10).snd.snd.snd.snd.snd.fst.snd.bin.lin.snd.snd.fst.bin.snd.fst (.block 2 (.loop L10_2)))) := rfl
    rw [e1] <;>
    simp only [S10_2, aexec_seq, aseq_assoc]
  refine aw_congr e ?_
  have h0 := h
  exact aw_seq h0
noncomputable def S10_4 : Code := (code Try.f10).snd.snd.snd.snd.snd.fst.snd.bin.lin.snd.snd.snd
noncomputable def S10_4_e := (⟨by simp only [S10_4, code, Try.f10, Option.getD_some, Code.fst, Code.snd, Code.bin, Code.lin, Code.sin, Code.yes, Code.no]; exact rfl⟩ : PLift (S10_4 = _))
theorem L10_0_wp {ts : List AVal} {st : ASt} {Q : APost} (h : Wp E 10 S10_1 ts st (Nx (fun ts st => Wp E 10 (.block 1 B10_1) ts st (Nx (fun ts st => Wp E 10 S10_4 ts st Q) Q)) Q)) : Wp E 10 L10_0 ts st Q := by
  have e : ∀ n ts st, aexec E 10 (rw E) (drawB E 10) n L10_0 ts st = aexec E 10 (rw E) (drawB E 10) n (.seq S10_1 (.seq (.block 1 B10_1) (S10_4))) ts st := by
    intro n ts st
    have e1 : L10_0 = (.seq (code Try.f10).snd.snd.snd.snd.snd.fst.snd.bin.lin.fst (.seq (code Try.f10).snd.snd.snd.snd.snd.fst.snd.bin.lin.snd.fst (.seq (.block 1 B10_1) (code Try.f10).snd.snd.snd.snd.snd.fst.snd.bin.lin.snd.snd.snd))) := rfl
    rw [e1] <;>
    simp only [S10_1, S10_4, aexec_seq, aseq_assoc]
  refine aw_congr e ?_
  have h0 := h
  exact aw_seq (h0.mono fun e ts st hq => by cases e <;> first | exact hq | (have h1 := hq; exact aw_seq h1))
noncomputable def S10_5 : Code := .seq ((code Try.f10).snd.snd.snd.snd.snd.snd.fst) ((code Try.f10).snd.snd.snd.snd.snd.snd.snd)
noncomputable def S10_5_e := (⟨by simp only [S10_5, code, Try.f10, Option.getD_some, Code.fst, Code.snd, Code.bin, Code.lin, Code.sin, Code.yes, Code.no]; exact rfl⟩ : PLift (S10_5 = _))
theorem C10_wp {ts : List AVal} {st : ASt} {Q : APost} (h : Wp E 10 S10_0 ts st (Nx (fun ts st => Wp E 10 (.block 0 (.loop L10_0)) ts st (Nx (fun ts st => Wp E 10 S10_5 ts st Q) Q)) Q)) : Wp E 10 C10 ts st Q := by
  have e : ∀ n ts st, aexec E 10 (rw E) (drawB E 10) n C10 ts st = aexec E 10 (rw E) (drawB E 10) n (.seq S10_0 (.seq (.block 0 (.loop L10_0)) (S10_5))) ts st := by
    intro n ts st
    have e1 : C10 = (.seq (code Try.f10).fst (.seq (.seq (code Try.f10).snd.fst.fst (code Try.f10).snd.fst.snd) (.seq (.seq (code Try.f10).snd.snd.fst.fst (code Try.f10).snd.snd.fst.snd) (.seq (code Try.f10).snd.snd.snd.fst (.seq (code Try.f10).snd.snd.snd.snd.fst (.seq (.seq (code Try.f10).snd.snd.snd.snd.snd.fst.fst (.block 0 (.loop L10_0))) (.seq (code Try.f10).snd.snd.snd.snd.snd.snd.fst (code Try.f10).snd.snd.snd.snd.snd.snd.snd))))))) := rfl
    rw [e1] <;>
    simp only [S10_0, S10_5, aexec_seq, aseq_assoc]
  refine aw_congr e ?_
  have h0 := h
  exact aw_seq (h0.mono fun e ts st hq => by cases e <;> first | exact hq | (have h1 := hq; exact aw_seq h1))
theorem ce_10 {x0 x1 x2 : AVal} {st : ASt} {r : AEnd × ASt} (h : ∀ g : Nat → AVal, g 0 = x0 → g 1 = x1 → g 2 = x2 → Wp E 10 C10 (Sl 66 g) st (fun e ts st => aend E Try.f10 (some (e, ts, st)) = some r)) : rw E 10 [x0, x1, x2] st = some r :=
  ce_of (fn := Try.f10) (c := C10) rfl rfl rfl (Nat.le_of_ble_eq_true rfl) fun g hg => h g (hg 0 x0 rfl) (hg 1 x1 rfl) (hg 2 x2 rfl)
theorem cx_10 {x0 x1 x2 : AVal} {st : ASt} {R : AEnd → ASt → Prop} (h : ∀ g : Nat → AVal, g 0 = x0 → g 1 = x1 → g 2 = x2 → Wp E 10 C10 (Sl 66 g) st (fun e ts st => ∃ r st', aend E Try.f10 (some (e, ts, st)) = some (r, st') ∧ R r st')) : ∃ r st', rw E 10 [x0, x1, x2] st = some (r, st') ∧ R r st' :=
  cx_of (fn := Try.f10) (c := C10) rfl rfl rfl (Nat.le_of_ble_eq_true rfl) fun g hg => h g (hg 0 x0 rfl) (hg 1 x1 rfl) (hg 2 x2 rfl)
theorem cf_28 (a : List AVal) (st : ASt) : callFuncA E.P 28 a st = some (.enter 28 a st) := rfl

/-! ### braidwork/braidworklaw11.ClockCounts -/
noncomputable def C11 : Code := (code Try.f11)
noncomputable def S11_0 : Code := .seq ((code Try.f11).fst) (.seq ((code Try.f11).snd.fst.fst) (.seq ((code Try.f11).snd.fst.snd) (.seq ((code Try.f11).snd.snd.fst.fst) (.seq ((code Try.f11).snd.snd.fst.snd) (.seq ((code Try.f11).snd.snd.snd.fst) (.seq ((code Try.f11).snd.snd.snd.snd.fst) (.seq ((code Try.f11).snd.snd.snd.snd.snd.fst.fst) (.seq ((code Try.f11).snd.snd.snd.snd.snd.fst.snd) ((code Try.f11).snd.snd.snd.snd.snd.snd.fst.fst)))))))))
noncomputable def S11_0_e := (⟨by simp only [S11_0, code, Try.f11, Option.getD_some, Code.fst, Code.snd, Code.bin, Code.lin, Code.sin, Code.yes, Code.no]; exact rfl⟩ : PLift (S11_0 = _))
noncomputable def L11_0 : Code := (code Try.f11).snd.snd.snd.snd.snd.snd.fst.snd.bin.lin
noncomputable def S11_1 : Code := .seq ((code Try.f11).snd.snd.snd.snd.snd.snd.fst.snd.bin.lin.fst) ((code Try.f11).snd.snd.snd.snd.snd.snd.fst.snd.bin.lin.snd.fst)
noncomputable def S11_1_e := (⟨by simp only [S11_1, code, Try.f11, Option.getD_some, Code.fst, Code.snd, Code.bin, Code.lin, Code.sin, Code.yes, Code.no]; exact rfl⟩ : PLift (S11_1 = _))
noncomputable def B11_1 : Code := (code Try.f11).snd.snd.snd.snd.snd.snd.fst.snd.bin.lin.snd.snd.fst.bin
noncomputable def S11_2 : Code := .seq ((code Try.f11).snd.snd.snd.snd.snd.snd.fst.snd.bin.lin.snd.snd.fst.bin.fst) (.seq ((code Try.f11).snd.snd.snd.snd.snd.snd.fst.snd.bin.lin.snd.snd.fst.bin.snd.fst.fst) (.seq ((code Try.f11).snd.snd.snd.snd.snd.snd.fst.snd.bin.lin.snd.snd.fst.bin.snd.fst.snd) (.seq ((code Try.f11).snd.snd.snd.snd.snd.snd.fst.snd.bin.lin.snd.snd.fst.bin.snd.snd.fst) (.seq ((code Try.f11).snd.snd.snd.snd.snd.snd.fst.snd.bin.lin.snd.snd.fst.bin.snd.snd.snd.fst) ((code Try.f11).snd.snd.snd.snd.snd.snd.fst.snd.bin.lin.snd.snd.fst.bin.snd.snd.snd.snd.fst.fst)))))
noncomputable def S11_2_e := (⟨by simp only [S11_2, code, Try.f11, Option.getD_some, Code.fst, Code.snd, Code.bin, Code.lin, Code.sin, Code.yes, Code.no]; exact rfl⟩ : PLift (S11_2 = _))
noncomputable def L11_2 : Code := (code Try.f11).snd.snd.snd.snd.snd.snd.fst.snd.bin.lin.snd.snd.fst.bin.snd.snd.snd.snd.fst.snd.bin.lin
noncomputable def S11_3 : Code := .seq ((code Try.f11).snd.snd.snd.snd.snd.snd.fst.snd.bin.lin.snd.snd.fst.bin.snd.snd.snd.snd.fst.snd.bin.lin.fst) (.seq ((code Try.f11).snd.snd.snd.snd.snd.snd.fst.snd.bin.lin.snd.snd.fst.bin.snd.snd.snd.snd.fst.snd.bin.lin.snd.fst) (.seq ((code Try.f11).snd.snd.snd.snd.snd.snd.fst.snd.bin.lin.snd.snd.fst.bin.snd.snd.snd.snd.fst.snd.bin.lin.snd.snd.fst) ((code Try.f11).snd.snd.snd.snd.snd.snd.fst.snd.bin.lin.snd.snd.fst.bin.snd.snd.snd.snd.fst.snd.bin.lin.snd.snd.snd)))
noncomputable def S11_3_e := (⟨by simp only [S11_3, code, Try.f11, Option.getD_some, Code.fst, Code.snd, Code.bin, Code.lin, Code.sin, Code.yes, Code.no]; exact rfl⟩ : PLift (S11_3 = _))
theorem L11_2_wp {ts : List AVal} {st : ASt} {Q : APost} (h : Wp E 11 S11_3 ts st Q) : Wp E 11 L11_2 ts st Q := by
  have e : ∀ n ts st, aexec E 11 (rw E) (drawB E 11) n L11_2 ts st = aexec E 11 (rw E) (drawB E 11) n (S11_3) ts st := by
    intro n ts st
    have e1 : L11_2 = (.seq (code Try.f11).snd.snd.snd.snd.snd.snd.fst.snd.bin.lin.snd.snd.fst.bin.snd.snd.snd.snd.fst.snd.bin.lin.fst (.seq (code Try.f11).snd.snd.snd.snd.snd.snd.fst.snd.bin.lin.snd.snd.fst.bin.snd.snd.snd.snd.fst.snd.bin.lin.snd.fst (.seq (code Try.f11).snd.snd.snd.snd.snd.snd.fst.snd.bin.lin.snd.snd.fst.bin.snd.snd.snd.snd.fst.snd.bin.lin.snd.snd.fst (code Try.f11).snd.snd.snd.snd.snd.snd.fst.snd.bin.lin.snd.snd.fst.bin.snd.snd.snd.snd.fst.snd.bin.lin.snd.snd.snd))) := rfl
    rw [e1] <;>
    simp only [S11_3, aexec_seq, aseq_assoc]
  refine aw_congr e ?_
  exact h
noncomputable def S11_4 : Code := (code Try.f11).snd.snd.snd.snd.snd.snd.fst.snd.bin.lin.snd.snd.fst.bin.snd.snd.snd.snd.snd.fst
noncomputable def S11_4_e := (⟨by simp only [S11_4, code, Try.f11, Option.getD_some, Code.fst, Code.snd, Code.bin, Code.lin, Code.sin, Code.yes, Code.no]; exact rfl⟩ : PLift (S11_4 = _))
noncomputable def L11_3 : Code := (code Try.f11).snd.snd.snd.snd.snd.snd.fst.snd.bin.lin.snd.snd.fst.bin.snd.snd.snd.snd.snd.snd.bin.lin
noncomputable def S11_5 : Code := .seq ((code Try.f11).snd.snd.snd.snd.snd.snd.fst.snd.bin.lin.snd.snd.fst.bin.snd.snd.snd.snd.snd.snd.bin.lin.fst) (.seq ((code Try.f11).snd.snd.snd.snd.snd.snd.fst.snd.bin.lin.snd.snd.fst.bin.snd.snd.snd.snd.snd.snd.bin.lin.snd.fst) (.seq ((code Try.f11).snd.snd.snd.snd.snd.snd.fst.snd.bin.lin.snd.snd.fst.bin.snd.snd.snd.snd.snd.snd.bin.lin.snd.snd.fst) ((code Try.f11).snd.snd.snd.snd.snd.snd.fst.snd.bin.lin.snd.snd.fst.bin.snd.snd.snd.snd.snd.snd.bin.lin.snd.snd.snd)))
noncomputable def S11_5_e := (⟨by simp only [S11_5, code, Try.f11, Option.getD_some, Code.fst, Code.snd, Code.bin, Code.lin, Code.sin, Code.yes, Code.no]; exact rfl⟩ : PLift (S11_5 = _))
theorem L11_3_wp {ts : List AVal} {st : ASt} {Q : APost} (h : Wp E 11 S11_5 ts st Q) : Wp E 11 L11_3 ts st Q := by
  have e : ∀ n ts st, aexec E 11 (rw E) (drawB E 11) n L11_3 ts st = aexec E 11 (rw E) (drawB E 11) n (S11_5) ts st := by
    intro n ts st
    have e1 : L11_3 = (.seq (code Try.f11).snd.snd.snd.snd.snd.snd.fst.snd.bin.lin.snd.snd.fst.bin.snd.snd.snd.snd.snd.snd.bin.lin.fst (.seq (code Try.f11).snd.snd.snd.snd.snd.snd.fst.snd.bin.lin.snd.snd.fst.bin.snd.snd.snd.snd.snd.snd.bin.lin.snd.fst (.seq (code Try.f11).snd.snd.snd.snd.snd.snd.fst.snd.bin.lin.snd.snd.fst.bin.snd.snd.snd.snd.snd.snd.bin.lin.snd.snd.fst (code Try.f11).snd.snd.snd.snd.snd.snd.fst.snd.bin.lin.snd.snd.fst.bin.snd.snd.snd.snd.snd.snd.bin.lin.snd.snd.snd))) := rfl
    rw [e1] <;>
    simp only [S11_5, aexec_seq, aseq_assoc]
  refine aw_congr e ?_
  exact h
theorem B11_1_wp {ts : List AVal} {st : ASt} {Q : APost} (h : Wp E 11 S11_2 ts st (Nx (fun ts st => Wp E 11 (.block 2 (.loop L11_2)) ts st (Nx (fun ts st => Wp E 11 S11_4 ts st (Nx (fun ts st => Wp E 11 (.block 4 (.loop L11_3)) ts st Q) Q)) Q)) Q)) : Wp E 11 B11_1 ts st Q := by
  have e : ∀ n ts st, aexec E 11 (rw E) (drawB E 11) n B11_1 ts st = aexec E 11 (rw E) (drawB E 11) n (.seq S11_2 (.seq (.block 2 (.loop L11_2)) (.seq S11_4 ((.block 4 (.loop L11_3)))))) ts st := by
    intro n ts st
    have e1 : B11_1 = (.seq (code Try.f11).snd.snd.snd.snd.snd.snd.fst.snd.bin.lin.snd.snd.fst.bin.fst (.seq (.seq (code Try.f11).snd.snd.snd.snd.snd.snd.fst.snd.bin.lin.snd.snd.fst.bin.snd.fst.fst (code Try.f11).snd.snd.snd.snd.snd.snd.fst.snd.bin.lin.snd.snd.fst.bin.snd.fst.snd) (.seq (code Try.f11).snd.snd.snd.snd.snd.snd.fst.snd.bin.lin.snd.snd.fst.bin.snd.snd.fst (.seq (code Try.f11).snd.snd.snd.snd.snd.snd.fst.snd.bin.lin.snd.snd.fst.bin.snd.snd.snd.fst (.seq (.seq (code Try.f11).snd.snd.snd.snd.snd.snd.fst.snd.bin.lin.snd.snd.fst.bin.snd.snd.snd.snd.fst.fst (.block 2 (.loop L11_2))) (.seq (code Try.f11).snd.snd.snd.snd.snd.snd.fst.snd.bin.lin.snd.snd.fst.bin.snd.snd.snd.snd.snd.fst (.block 4 (.loop L11_3)))))))) := rfl
    rw [e1] <;>
    simp only [S11_2, S11_4, aexec_seq, aseq_assoc]
  refine aw_congr e ?_
  have h0 := h
  exact aw_seq (h0.mono fun e ts st hq => by cases e <;> first | exact hq | (have h1 := hq; exact aw_seq (h1.mono fun e ts st hq => by cases e <;> first | exact hq | (have h2 := hq; exact aw_seq h2))))
noncomputable def S11_6 : Code := (code Try.f11).snd.snd.snd.snd.snd.snd.fst.snd.bin.lin.snd.snd.snd
noncomputable def S11_6_e := (⟨by simp only [S11_6, code, Try.f11, Option.getD_some, Code.fst, Code.snd, Code.bin, Code.lin, Code.sin, Code.yes, Code.no]; exact rfl⟩ : PLift (S11_6 = _))
theorem L11_0_wp {ts : List AVal} {st : ASt} {Q : APost} (h : Wp E 11 S11_1 ts st (Nx (fun ts st => Wp E 11 (.block 1 B11_1) ts st (Nx (fun ts st => Wp E 11 S11_6 ts st Q) Q)) Q)) : Wp E 11 L11_0 ts st Q := by
  have e : ∀ n ts st, aexec E 11 (rw E) (drawB E 11) n L11_0 ts st = aexec E 11 (rw E) (drawB E 11) n (.seq S11_1 (.seq (.block 1 B11_1) (S11_6))) ts st := by
    intro n ts st
    have e1 : L11_0 = (.seq (code Try.f11).snd.snd.snd.snd.snd.snd.fst.snd.bin.lin.fst (.seq (code Try.f11).snd.snd.snd.snd.snd.snd.fst.snd.bin.lin.snd.fst (.seq (.block 1 B11_1) (code Try.f11).snd.snd.snd.snd.snd.snd.fst.snd.bin.lin.snd.snd.snd))) := rfl
    rw [e1] <;>
    simp only [S11_1, S11_6, aexec_seq, aseq_assoc]
  refine aw_congr e ?_
  have h0 := h
  exact aw_seq (h0.mono fun e ts st hq => by cases e <;> first | exact hq | (have h1 := hq; exact aw_seq h1))
noncomputable def S11_7 : Code := .seq ((code Try.f11).snd.snd.snd.snd.snd.snd.snd.fst) ((code Try.f11).snd.snd.snd.snd.snd.snd.snd.snd)
noncomputable def S11_7_e := (⟨by simp only [S11_7, code, Try.f11, Option.getD_some, Code.fst, Code.snd, Code.bin, Code.lin, Code.sin, Code.yes, Code.no]; exact rfl⟩ : PLift (S11_7 = _))
theorem C11_wp {ts : List AVal} {st : ASt} {Q : APost} (h : Wp E 11 S11_0 ts st (Nx (fun ts st => Wp E 11 (.block 0 (.loop L11_0)) ts st (Nx (fun ts st => Wp E 11 S11_7 ts st Q) Q)) Q)) : Wp E 11 C11 ts st Q := by
  have e : ∀ n ts st, aexec E 11 (rw E) (drawB E 11) n C11 ts st = aexec E 11 (rw E) (drawB E 11) n (.seq S11_0 (.seq (.block 0 (.loop L11_0)) (S11_7))) ts st := by
    intro n ts st
    have e1 : C11 = (.seq (code Try.f11).fst (.seq (.seq (code Try.f11).snd.fst.fst (code Try.f11).snd.fst.snd) (.seq (.seq (code Try.f11).snd.snd.fst.fst (code Try.f11).snd.snd.fst.snd) (.seq (code Try.f11).snd.snd.snd.fst (.seq (code Try.f11).snd.snd.snd.snd.fst (.seq (.seq (code Try.f11).snd.snd.snd.snd.snd.fst.fst (code Try.f11).snd.snd.snd.snd.snd.fst.snd) (.seq (.seq (code Try.f11).snd.snd.snd.snd.snd.snd.fst.fst (.block 0 (.loop L11_0))) (.seq (code Try.f11).snd.snd.snd.snd.snd.snd.snd.fst (code Try.f11).snd.snd.snd.snd.snd.snd.snd.snd)))))))) := rfl
    rw [e1] <;>
    simp only [S11_0, S11_7, aexec_seq, aseq_assoc]
  refine aw_congr e ?_
  have h0 := h
  exact aw_seq (h0.mono fun e ts st hq => by cases e <;> first | exact hq | (have h1 := hq; exact aw_seq h1))
theorem ce_11 {x0 x1 : AVal} {st : ASt} {r : AEnd × ASt} (h : ∀ g : Nat → AVal, g 0 = x0 → g 1 = x1 → Wp E 11 C11 (Sl 107 g) st (fun e ts st => aend E Try.f11 (some (e, ts, st)) = some r)) : rw E 11 [x0, x1] st = some r :=
  ce_of (fn := Try.f11) (c := C11) rfl rfl rfl (Nat.le_of_ble_eq_true rfl) fun g hg => h g (hg 0 x0 rfl) (hg 1 x1 rfl)
theorem cx_11 {x0 x1 : AVal} {st : ASt} {R : AEnd → ASt → Prop} (h : ∀ g : Nat → AVal, g 0 = x0 → g 1 = x1 → Wp E 11 C11 (Sl 107 g) st (fun e ts st => ∃ r st', aend E Try.f11 (some (e, ts, st)) = some (r, st') ∧ R r st')) : ∃ r st', rw E 11 [x0, x1] st = some (r, st') ∧ R r st' :=
  cx_of (fn := Try.f11) (c := C11) rfl rfl rfl (Nat.le_of_ble_eq_true rfl) fun g hg => h g (hg 0 x0 rfl) (hg 1 x1 rfl)
theorem o_leni_47 (mt : Bool) (ty : TypeId) (cs : Array Bool) (sz : Nat) (es : List AVal) (c : Cap) (st : ASt) : builtinA E.P mt .len #[47] ty cs [.islice sz es c] st = some (.val (.lit (.int .i64 es.length)) st) := rfl
theorem o_lens_47 (mt : Bool) (ty : TypeId) (cs : Array Bool) (s o l sz : Nat) (c : Option Nat) (st : ASt) : builtinA E.P mt .len #[47] ty cs [.slice s o l sz c] st = some (.val (.lit (.int .i64 l)) st) := rfl
theorem o_lenn_47 (mt : Bool) (ty : TypeId) (cs : Array Bool) (a : Option Addr) (st : ASt) : builtinA E.P mt .len #[47] ty cs [.lit (.slice a 0 0)] st = some (.val (.lit (.int .i64 0)) st) := len_nil rfl _ _ _ _ _
end Go.Proofs.YtcaokdlmolnbaaaV
