/- What walks through these functions need: pieces of their code, single operations reckoned. No condition. -/
import Derived.Test.YtingncadiolajaaDoorEA
import Derived.Test.YtingncadiolajaaDoorAF
import Derived.Test.YtingncadiolajaaDoorST
namespace Go.Proofs.YtingncadiolajaaDoorV
open Go Go.RowKit Go.Proofs.YtingncadiolajaaDoorA
set_option linter.unusedVariables false
set_option linter.unusedSimpArgs false
set_option maxRecDepth 100000

/-! ### math.Abs -/
noncomputable def C33 : Code := (code Tryd.f33)
noncomputable def S33_0 : Code := .seq ((code Tryd.f33).fst) (.seq ((code Tryd.f33).snd.fst) ((code Tryd.f33).snd.snd))
noncomputable def S33_0_e := (⟨by simp only [S33_0, code, Tryd.f33, Option.getD_some, Code.fst, Code.snd, Code.bin, Code.lin, Code.sin, Code.yes, Code.no]; exact rfl⟩ : PLift (S33_0 = _))
theorem C33_wp {ts : List AVal} {st : ASt} {Q : APost} (h : Wp E 33 S33_0 ts st Q) : Wp E 33 C33 ts st Q := by
  have e : ∀ n ts st, aexec E 33 (rw E) (drawB E 33) n C33 ts st = aexec E 33 (rw E) (drawB E 33) n (S33_0) ts st := by
    intro n ts st
    have e1 : C33 = (.seq (code Tryd.f33).fst (.seq (code Tryd.f33).snd.fst (code Tryd.f33).snd.snd)) := rfl
    rw [e1]
    simp only [S33_0, aexec_seq, aseq_assoc]
  refine aw_congr e ?_
  exact h
theorem ce_33 {x0 : AVal} {st : ASt} {r : AEnd × ASt} (h : ∀ g : Nat → AVal, g 0 = x0 → Wp E 33 C33 (Sl 7 g) st (fun e ts st => aend E Tryd.f33 (some (e, ts, st)) = some r)) : rw E 33 [x0] st = some r :=
  ce_of (fn := Tryd.f33) (c := C33) rfl rfl rfl (Nat.le_of_ble_eq_true rfl) fun g hg => h g (hg 0 x0 rfl)
theorem cx_33 {x0 : AVal} {st : ASt} {R : AEnd → ASt → Prop} (h : ∀ g : Nat → AVal, g 0 = x0 → Wp E 33 C33 (Sl 7 g) st (fun e ts st => ∃ r st', aend E Tryd.f33 (some (e, ts, st)) = some (r, st') ∧ R r st')) : ∃ r st', rw E 33 [x0] st = some (r, st') ∧ R r st' :=
  cx_of (fn := Tryd.f33) (c := C33) rfl rfl rfl (Nat.le_of_ble_eq_true rfl) fun g hg => h g (hg 0 x0 rfl)

/-! ### math.Trunc -/
noncomputable def C34 : Code := (code Tryd.f34)
noncomputable def S34_0 : Code := .seq ((code Tryd.f34).fst) (.seq ((code Tryd.f34).snd.fst) (.seq ((code Tryd.f34).snd.snd.fst) ((code Tryd.f34).snd.snd.snd)))
noncomputable def S34_0_e := (⟨by simp only [S34_0, code, Tryd.f34, Option.getD_some, Code.fst, Code.snd, Code.bin, Code.lin, Code.sin, Code.yes, Code.no]; exact rfl⟩ : PLift (S34_0 = _))
theorem C34_wp {ts : List AVal} {st : ASt} {Q : APost} (h : Wp E 34 S34_0 ts st Q) : Wp E 34 C34 ts st Q := by
  have e : ∀ n ts st, aexec E 34 (rw E) (drawB E 34) n C34 ts st = aexec E 34 (rw E) (drawB E 34) n (S34_0) ts st := by
    intro n ts st
    have e1 : C34 = (.seq (code Tryd.f34).fst (.seq (code Tryd.f34).snd.fst (.seq (code Tryd.f34).snd.snd.fst (code Tryd.f34).snd.snd.snd))) := rfl
    rw [e1]
    simp only [S34_0, aexec_seq, aseq_assoc]
  refine aw_congr e ?_
  exact h
theorem ce_34 {x0 : AVal} {st : ASt} {r : AEnd × ASt} (h : ∀ g : Nat → AVal, g 0 = x0 → Wp E 34 C34 (Sl 7 g) st (fun e ts st => aend E Tryd.f34 (some (e, ts, st)) = some r)) : rw E 34 [x0] st = some r :=
  ce_of (fn := Tryd.f34) (c := C34) rfl rfl rfl (Nat.le_of_ble_eq_true rfl) fun g hg => h g (hg 0 x0 rfl)
theorem cx_34 {x0 : AVal} {st : ASt} {R : AEnd → ASt → Prop} (h : ∀ g : Nat → AVal, g 0 = x0 → Wp E 34 C34 (Sl 7 g) st (fun e ts st => ∃ r st', aend E Tryd.f34 (some (e, ts, st)) = some (r, st') ∧ R r st')) : ∃ r st', rw E 34 [x0] st = some (r, st') ∧ R r st' :=
  cx_of (fn := Tryd.f34) (c := C34) rfl rfl rfl (Nat.le_of_ble_eq_true rfl) fun g hg => h g (hg 0 x0 rfl)
theorem cf_39 (a : List AVal) (st : ASt) : callFuncA E.P 39 a st = some (.enter 39 a st) := rfl

/-! ### braidwork/gauss.part -/
noncomputable def C28 : Code := (code Tryd.f28)
noncomputable def S28_0 : Code := .seq ((code Tryd.f28).fst) (.seq ((code Tryd.f28).snd.fst) ((code Tryd.f28).snd.snd))
noncomputable def S28_0_e := (⟨by simp only [S28_0, code, Tryd.f28, Option.getD_some, Code.fst, Code.snd, Code.bin, Code.lin, Code.sin, Code.yes, Code.no]; exact rfl⟩ : PLift (S28_0 = _))
theorem C28_wp {ts : List AVal} {st : ASt} {Q : APost} (h : Wp E 28 S28_0 ts st Q) : Wp E 28 C28 ts st Q := by
  have e : ∀ n ts st, aexec E 28 (rw E) (drawB E 28) n C28 ts st = aexec E 28 (rw E) (drawB E 28) n (S28_0) ts st := by
    intro n ts st
    have e1 : C28 = (.seq (code Tryd.f28).fst (.seq (code Tryd.f28).snd.fst (code Tryd.f28).snd.snd)) := rfl
    rw [e1]
    simp only [S28_0, aexec_seq, aseq_assoc]
  refine aw_congr e ?_
  exact h
theorem ce_28 {x0 : AVal} {st : ASt} {r : AEnd × ASt} (h : ∀ g : Nat → AVal, g 0 = x0 → Wp E 28 C28 (Sl 12 g) st (fun e ts st => aend E Tryd.f28 (some (e, ts, st)) = some r)) : rw E 28 [x0] st = some r :=
  ce_of (fn := Tryd.f28) (c := C28) rfl rfl rfl (Nat.le_of_ble_eq_true rfl) fun g hg => h g (hg 0 x0 rfl)
theorem cx_28 {x0 : AVal} {st : ASt} {R : AEnd → ASt → Prop} (h : ∀ g : Nat → AVal, g 0 = x0 → Wp E 28 C28 (Sl 12 g) st (fun e ts st => ∃ r st', aend E Tryd.f28 (some (e, ts, st)) = some (r, st') ∧ R r st')) : ∃ r st', rw E 28 [x0] st = some (r, st') ∧ R r st' :=
  cx_of (fn := Tryd.f28) (c := C28) rfl rfl rfl (Nat.le_of_ble_eq_true rfl) fun g hg => h g (hg 0 x0 rfl)
theorem cf_33 (a : List AVal) (st : ASt) : callFuncA E.P 33 a st = some (.enter 33 a st) := rfl
theorem cf_34 (a : List AVal) (st : ASt) : callFuncA E.P 34 a st = some (.enter 34 a st) := rfl

/-! ### braidwork/gauss.Fits -/
noncomputable def C21 : Code := (code Tryd.f21)
noncomputable def S21_0 : Code := .seq ((code Tryd.f21).fst) (.seq ((code Tryd.f21).snd.fst) ((code Tryd.f21).snd.snd))
noncomputable def S21_0_e := (⟨by simp only [S21_0, code, Tryd.f21, Option.getD_some, Code.fst, Code.snd, Code.bin, Code.lin, Code.sin, Code.yes, Code.no]; exact rfl⟩ : PLift (S21_0 = _))
theorem C21_wp {ts : List AVal} {st : ASt} {Q : APost} (h : Wp E 21 S21_0 ts st Q) : Wp E 21 C21 ts st Q := by
  have e : ∀ n ts st, aexec E 21 (rw E) (drawB E 21) n C21 ts st = aexec E 21 (rw E) (drawB E 21) n (S21_0) ts st := by
    intro n ts st
    have e1 : C21 = (.seq (code Tryd.f21).fst (.seq (code Tryd.f21).snd.fst (code Tryd.f21).snd.snd)) := rfl
    rw [e1]
    simp only [S21_0, aexec_seq, aseq_assoc]
  refine aw_congr e ?_
  exact h
theorem ce_21 {x0 : AVal} {st : ASt} {r : AEnd × ASt} (h : ∀ g : Nat → AVal, g 0 = x0 → Wp E 21 C21 (Sl 11 g) st (fun e ts st => aend E Tryd.f21 (some (e, ts, st)) = some r)) : rw E 21 [x0] st = some r :=
  ce_of (fn := Tryd.f21) (c := C21) rfl rfl rfl (Nat.le_of_ble_eq_true rfl) fun g hg => h g (hg 0 x0 rfl)
theorem cx_21 {x0 : AVal} {st : ASt} {R : AEnd → ASt → Prop} (h : ∀ g : Nat → AVal, g 0 = x0 → Wp E 21 C21 (Sl 11 g) st (fun e ts st => ∃ r st', aend E Tryd.f21 (some (e, ts, st)) = some (r, st') ∧ R r st')) : ∃ r st', rw E 21 [x0] st = some (r, st') ∧ R r st' :=
  cx_of (fn := Tryd.f21) (c := C21) rfl rfl rfl (Nat.le_of_ble_eq_true rfl) fun g hg => h g (hg 0 x0 rfl)
theorem cf_28 (a : List AVal) (st : ASt) : callFuncA E.P 28 a st = some (.enter 28 a st) := rfl

/-! ### braidwork/gauss.fit -/
noncomputable def C25 : Code := (code Tryd.f25)
noncomputable def S25_0 : Code := .seq ((code Tryd.f25).fst) (.seq ((code Tryd.f25).snd.fst.fst) (.seq ((code Tryd.f25).snd.fst.snd) (.seq ((code Tryd.f25).snd.snd.fst) ((code Tryd.f25).snd.snd.snd))))
noncomputable def S25_0_e := (⟨by simp only [S25_0, code, Tryd.f25, Option.getD_some, Code.fst, Code.snd, Code.bin, Code.lin, Code.sin, Code.yes, Code.no]; exact rfl⟩ : PLift (S25_0 = _))
theorem C25_wp {ts : List AVal} {st : ASt} {Q : APost} (h : Wp E 25 S25_0 ts st Q) : Wp E 25 C25 ts st Q := by
  have e : ∀ n ts st, aexec E 25 (rw E) (drawB E 25) n C25 ts st = aexec E 25 (rw E) (drawB E 25) n (S25_0) ts st := by
    intro n ts st
    have e1 : C25 = (.seq (code Tryd.f25).fst (.seq (.seq (code Tryd.f25).snd.fst.fst (code Tryd.f25).snd.fst.snd) (.seq (code Tryd.f25).snd.snd.fst (code Tryd.f25).snd.snd.snd))) := rfl
    rw [e1]
    simp only [S25_0, aexec_seq, aseq_assoc]
  refine aw_congr e ?_
  exact h
theorem ce_25 {x0 : AVal} {st : ASt} {r : AEnd × ASt} (h : ∀ g : Nat → AVal, g 0 = x0 → Wp E 25 C25 (Sl 14 g) st (fun e ts st => aend E Tryd.f25 (some (e, ts, st)) = some r)) : rw E 25 [x0] st = some r :=
  ce_of (fn := Tryd.f25) (c := C25) rfl rfl rfl (Nat.le_of_ble_eq_true rfl) fun g hg => h g (hg 0 x0 rfl)
theorem cx_25 {x0 : AVal} {st : ASt} {R : AEnd → ASt → Prop} (h : ∀ g : Nat → AVal, g 0 = x0 → Wp E 25 C25 (Sl 14 g) st (fun e ts st => ∃ r st', aend E Tryd.f25 (some (e, ts, st)) = some (r, st') ∧ R r st')) : ∃ r st', rw E 25 [x0] st = some (r, st') ∧ R r st' :=
  cx_of (fn := Tryd.f25) (c := C25) rfl rfl rfl (Nat.le_of_ble_eq_true rfl) fun g hg => h g (hg 0 x0 rfl)
theorem cf_21 (a : List AVal) (st : ASt) : callFuncA E.P 21 a st = some (.enter 21 a st) := rfl

/-! ### braidwork/gauss.both -/
noncomputable def C24 : Code := (code Tryd.f24)
noncomputable def S24_0 : Code := .seq ((code Tryd.f24).fst) (.seq ((code Tryd.f24).snd.fst) ((code Tryd.f24).snd.snd))
noncomputable def S24_0_e := (⟨by simp only [S24_0, code, Tryd.f24, Option.getD_some, Code.fst, Code.snd, Code.bin, Code.lin, Code.sin, Code.yes, Code.no]; exact rfl⟩ : PLift (S24_0 = _))
theorem C24_wp {ts : List AVal} {st : ASt} {Q : APost} (h : Wp E 24 S24_0 ts st Q) : Wp E 24 C24 ts st Q := by
  have e : ∀ n ts st, aexec E 24 (rw E) (drawB E 24) n C24 ts st = aexec E 24 (rw E) (drawB E 24) n (S24_0) ts st := by
    intro n ts st
    have e1 : C24 = (.seq (code Tryd.f24).fst (.seq (code Tryd.f24).snd.fst (code Tryd.f24).snd.snd)) := rfl
    rw [e1]
    simp only [S24_0, aexec_seq, aseq_assoc]
  refine aw_congr e ?_
  exact h
theorem ce_24 {x0 x1 : AVal} {st : ASt} {r : AEnd × ASt} (h : ∀ g : Nat → AVal, g 0 = x0 → g 1 = x1 → Wp E 24 C24 (Sl 11 g) st (fun e ts st => aend E Tryd.f24 (some (e, ts, st)) = some r)) : rw E 24 [x0, x1] st = some r :=
  ce_of (fn := Tryd.f24) (c := C24) rfl rfl rfl (Nat.le_of_ble_eq_true rfl) fun g hg => h g (hg 0 x0 rfl) (hg 1 x1 rfl)
theorem cx_24 {x0 x1 : AVal} {st : ASt} {R : AEnd → ASt → Prop} (h : ∀ g : Nat → AVal, g 0 = x0 → g 1 = x1 → Wp E 24 C24 (Sl 11 g) st (fun e ts st => ∃ r st', aend E Tryd.f24 (some (e, ts, st)) = some (r, st') ∧ R r st')) : ∃ r st', rw E 24 [x0, x1] st = some (r, st') ∧ R r st' :=
  cx_of (fn := Tryd.f24) (c := C24) rfl rfl rfl (Nat.le_of_ble_eq_true rfl) fun g hg => h g (hg 0 x0 rfl) (hg 1 x1 rfl)

/-! ### braidwork/gauss.Add -/
noncomputable def C17 : Code := (code Tryd.f17)
noncomputable def S17_0 : Code := .seq ((code Tryd.f17).fst) (.seq ((code Tryd.f17).snd.fst.fst) (.seq ((code Tryd.f17).snd.fst.snd) (.seq ((code Tryd.f17).snd.snd.fst) ((code Tryd.f17).snd.snd.snd))))
noncomputable def S17_0_e := (⟨by simp only [S17_0, code, Tryd.f17, Option.getD_some, Code.fst, Code.snd, Code.bin, Code.lin, Code.sin, Code.yes, Code.no]; exact rfl⟩ : PLift (S17_0 = _))
theorem C17_wp {ts : List AVal} {st : ASt} {Q : APost} (h : Wp E 17 S17_0 ts st Q) : Wp E 17 C17 ts st Q := by
  have e : ∀ n ts st, aexec E 17 (rw E) (drawB E 17) n C17 ts st = aexec E 17 (rw E) (drawB E 17) n (S17_0) ts st := by
    intro n ts st
    have e1 : C17 = (.seq (code Tryd.f17).fst (.seq (.seq (code Tryd.f17).snd.fst.fst (code Tryd.f17).snd.fst.snd) (.seq (code Tryd.f17).snd.snd.fst (code Tryd.f17).snd.snd.snd))) := rfl
    rw [e1]
    simp only [S17_0, aexec_seq, aseq_assoc]
  refine aw_congr e ?_
  exact h
theorem ce_17 {x0 x1 : AVal} {st : ASt} {r : AEnd × ASt} (h : ∀ g : Nat → AVal, g 0 = x0 → g 1 = x1 → Wp E 17 C17 (Sl 16 g) st (fun e ts st => aend E Tryd.f17 (some (e, ts, st)) = some r)) : rw E 17 [x0, x1] st = some r :=
  ce_of (fn := Tryd.f17) (c := C17) rfl rfl rfl (Nat.le_of_ble_eq_true rfl) fun g hg => h g (hg 0 x0 rfl) (hg 1 x1 rfl)
theorem cx_17 {x0 x1 : AVal} {st : ASt} {R : AEnd → ASt → Prop} (h : ∀ g : Nat → AVal, g 0 = x0 → g 1 = x1 → Wp E 17 C17 (Sl 16 g) st (fun e ts st => ∃ r st', aend E Tryd.f17 (some (e, ts, st)) = some (r, st') ∧ R r st')) : ∃ r st', rw E 17 [x0, x1] st = some (r, st') ∧ R r st' :=
  cx_of (fn := Tryd.f17) (c := C17) rfl rfl rfl (Nat.le_of_ble_eq_true rfl) fun g hg => h g (hg 0 x0 rfl) (hg 1 x1 rfl)
theorem cf_24 (a : List AVal) (st : ASt) : callFuncA E.P 24 a st = some (.enter 24 a st) := rfl
theorem cf_25 (a : List AVal) (st : ASt) : callFuncA E.P 25 a st = some (.enter 25 a st) := rfl

/-! ### braidwork/gauss.Sub -/
noncomputable def C22 : Code := (code Tryd.f22)
noncomputable def S22_0 : Code := .seq ((code Tryd.f22).fst) (.seq ((code Tryd.f22).snd.fst.fst) (.seq ((code Tryd.f22).snd.fst.snd) (.seq ((code Tryd.f22).snd.snd.fst) ((code Tryd.f22).snd.snd.snd))))
noncomputable def S22_0_e := (⟨by simp only [S22_0, code, Tryd.f22, Option.getD_some, Code.fst, Code.snd, Code.bin, Code.lin, Code.sin, Code.yes, Code.no]; exact rfl⟩ : PLift (S22_0 = _))
theorem C22_wp {ts : List AVal} {st : ASt} {Q : APost} (h : Wp E 22 S22_0 ts st Q) : Wp E 22 C22 ts st Q := by
  have e : ∀ n ts st, aexec E 22 (rw E) (drawB E 22) n C22 ts st = aexec E 22 (rw E) (drawB E 22) n (S22_0) ts st := by
    intro n ts st
    have e1 : C22 = (.seq (code Tryd.f22).fst (.seq (.seq (code Tryd.f22).snd.fst.fst (code Tryd.f22).snd.fst.snd) (.seq (code Tryd.f22).snd.snd.fst (code Tryd.f22).snd.snd.snd))) := rfl
    rw [e1]
    simp only [S22_0, aexec_seq, aseq_assoc]
  refine aw_congr e ?_
  exact h
theorem ce_22 {x0 x1 : AVal} {st : ASt} {r : AEnd × ASt} (h : ∀ g : Nat → AVal, g 0 = x0 → g 1 = x1 → Wp E 22 C22 (Sl 16 g) st (fun e ts st => aend E Tryd.f22 (some (e, ts, st)) = some r)) : rw E 22 [x0, x1] st = some r :=
  ce_of (fn := Tryd.f22) (c := C22) rfl rfl rfl (Nat.le_of_ble_eq_true rfl) fun g hg => h g (hg 0 x0 rfl) (hg 1 x1 rfl)
theorem cx_22 {x0 x1 : AVal} {st : ASt} {R : AEnd → ASt → Prop} (h : ∀ g : Nat → AVal, g 0 = x0 → g 1 = x1 → Wp E 22 C22 (Sl 16 g) st (fun e ts st => ∃ r st', aend E Tryd.f22 (some (e, ts, st)) = some (r, st') ∧ R r st')) : ∃ r st', rw E 22 [x0, x1] st = some (r, st') ∧ R r st' :=
  cx_of (fn := Tryd.f22) (c := C22) rfl rfl rfl (Nat.le_of_ble_eq_true rfl) fun g hg => h g (hg 0 x0 rfl) (hg 1 x1 rfl)

/-! ### braidwork/gauss.Mul -/
noncomputable def C13 : Code := (code Tryd.f13)
noncomputable def S13_0 : Code := .seq ((code Tryd.f13).fst) (.seq ((code Tryd.f13).snd.fst.fst) (.seq ((code Tryd.f13).snd.fst.snd) (.seq ((code Tryd.f13).snd.snd.fst) ((code Tryd.f13).snd.snd.snd))))
noncomputable def S13_0_e := (⟨by simp only [S13_0, code, Tryd.f13, Option.getD_some, Code.fst, Code.snd, Code.bin, Code.lin, Code.sin, Code.yes, Code.no]; exact rfl⟩ : PLift (S13_0 = _))
theorem C13_wp {ts : List AVal} {st : ASt} {Q : APost} (h : Wp E 13 S13_0 ts st Q) : Wp E 13 C13 ts st Q := by
  have e : ∀ n ts st, aexec E 13 (rw E) (drawB E 13) n C13 ts st = aexec E 13 (rw E) (drawB E 13) n (S13_0) ts st := by
    intro n ts st
    have e1 : C13 = (.seq (code Tryd.f13).fst (.seq (.seq (code Tryd.f13).snd.fst.fst (code Tryd.f13).snd.fst.snd) (.seq (code Tryd.f13).snd.snd.fst (code Tryd.f13).snd.snd.snd))) := rfl
    rw [e1]
    simp only [S13_0, aexec_seq, aseq_assoc]
  refine aw_congr e ?_
  exact h
theorem ce_13 {x0 x1 : AVal} {st : ASt} {r : AEnd × ASt} (h : ∀ g : Nat → AVal, g 0 = x0 → g 1 = x1 → Wp E 13 C13 (Sl 16 g) st (fun e ts st => aend E Tryd.f13 (some (e, ts, st)) = some r)) : rw E 13 [x0, x1] st = some r :=
  ce_of (fn := Tryd.f13) (c := C13) rfl rfl rfl (Nat.le_of_ble_eq_true rfl) fun g hg => h g (hg 0 x0 rfl) (hg 1 x1 rfl)
theorem cx_13 {x0 x1 : AVal} {st : ASt} {R : AEnd → ASt → Prop} (h : ∀ g : Nat → AVal, g 0 = x0 → g 1 = x1 → Wp E 13 C13 (Sl 16 g) st (fun e ts st => ∃ r st', aend E Tryd.f13 (some (e, ts, st)) = some (r, st') ∧ R r st')) : ∃ r st', rw E 13 [x0, x1] st = some (r, st') ∧ R r st' :=
  cx_of (fn := Tryd.f13) (c := C13) rfl rfl rfl (Nat.le_of_ble_eq_true rfl) fun g hg => h g (hg 0 x0 rfl) (hg 1 x1 rfl)

/-! ### braidwork/gauss.Conj -/
noncomputable def C15 : Code := (code Tryd.f15)
noncomputable def S15_0 : Code := .seq ((code Tryd.f15).fst) (.seq ((code Tryd.f15).snd.fst) ((code Tryd.f15).snd.snd))
noncomputable def S15_0_e := (⟨by simp only [S15_0, code, Tryd.f15, Option.getD_some, Code.fst, Code.snd, Code.bin, Code.lin, Code.sin, Code.yes, Code.no]; exact rfl⟩ : PLift (S15_0 = _))
theorem C15_wp {ts : List AVal} {st : ASt} {Q : APost} (h : Wp E 15 S15_0 ts st Q) : Wp E 15 C15 ts st Q := by
  have e : ∀ n ts st, aexec E 15 (rw E) (drawB E 15) n C15 ts st = aexec E 15 (rw E) (drawB E 15) n (S15_0) ts st := by
    intro n ts st
    have e1 : C15 = (.seq (code Tryd.f15).fst (.seq (code Tryd.f15).snd.fst (code Tryd.f15).snd.snd)) := rfl
    rw [e1]
    simp only [S15_0, aexec_seq, aseq_assoc]
  refine aw_congr e ?_
  exact h
theorem ce_15 {x0 : AVal} {st : ASt} {r : AEnd × ASt} (h : ∀ g : Nat → AVal, g 0 = x0 → Wp E 15 C15 (Sl 13 g) st (fun e ts st => aend E Tryd.f15 (some (e, ts, st)) = some r)) : rw E 15 [x0] st = some r :=
  ce_of (fn := Tryd.f15) (c := C15) rfl rfl rfl (Nat.le_of_ble_eq_true rfl) fun g hg => h g (hg 0 x0 rfl)
theorem cx_15 {x0 : AVal} {st : ASt} {R : AEnd → ASt → Prop} (h : ∀ g : Nat → AVal, g 0 = x0 → Wp E 15 C15 (Sl 13 g) st (fun e ts st => ∃ r st', aend E Tryd.f15 (some (e, ts, st)) = some (r, st') ∧ R r st')) : ∃ r st', rw E 15 [x0] st = some (r, st') ∧ R r st' :=
  cx_of (fn := Tryd.f15) (c := C15) rfl rfl rfl (Nat.le_of_ble_eq_true rfl) fun g hg => h g (hg 0 x0 rfl)

/-! ### braidwork/gauss.Norm -/
noncomputable def C14 : Code := (code Tryd.f14)
noncomputable def S14_0 : Code := .seq ((code Tryd.f14).fst) (.seq ((code Tryd.f14).snd.fst.fst) (.seq ((code Tryd.f14).snd.fst.snd) (.seq ((code Tryd.f14).snd.snd.fst) ((code Tryd.f14).snd.snd.snd))))
noncomputable def S14_0_e := (⟨by simp only [S14_0, code, Tryd.f14, Option.getD_some, Code.fst, Code.snd, Code.bin, Code.lin, Code.sin, Code.yes, Code.no]; exact rfl⟩ : PLift (S14_0 = _))
theorem C14_wp {ts : List AVal} {st : ASt} {Q : APost} (h : Wp E 14 S14_0 ts st Q) : Wp E 14 C14 ts st Q := by
  have e : ∀ n ts st, aexec E 14 (rw E) (drawB E 14) n C14 ts st = aexec E 14 (rw E) (drawB E 14) n (S14_0) ts st := by
    intro n ts st
    have e1 : C14 = (.seq (code Tryd.f14).fst (.seq (.seq (code Tryd.f14).snd.fst.fst (code Tryd.f14).snd.fst.snd) (.seq (code Tryd.f14).snd.snd.fst (code Tryd.f14).snd.snd.snd))) := rfl
    rw [e1]
    simp only [S14_0, aexec_seq, aseq_assoc]
  refine aw_congr e ?_
  exact h
theorem ce_14 {x0 : AVal} {st : ASt} {r : AEnd × ASt} (h : ∀ g : Nat → AVal, g 0 = x0 → Wp E 14 C14 (Sl 22 g) st (fun e ts st => aend E Tryd.f14 (some (e, ts, st)) = some r)) : rw E 14 [x0] st = some r :=
  ce_of (fn := Tryd.f14) (c := C14) rfl rfl rfl (Nat.le_of_ble_eq_true rfl) fun g hg => h g (hg 0 x0 rfl)
theorem cx_14 {x0 : AVal} {st : ASt} {R : AEnd → ASt → Prop} (h : ∀ g : Nat → AVal, g 0 = x0 → Wp E 14 C14 (Sl 22 g) st (fun e ts st => ∃ r st', aend E Tryd.f14 (some (e, ts, st)) = some (r, st') ∧ R r st')) : ∃ r st', rw E 14 [x0] st = some (r, st') ∧ R r st' :=
  cx_of (fn := Tryd.f14) (c := C14) rfl rfl rfl (Nat.le_of_ble_eq_true rfl) fun g hg => h g (hg 0 x0 rfl)

/-! ### braidwork/gauss.Less -/
noncomputable def C11 : Code := (code Tryd.f11)
noncomputable def S11_0 : Code := .seq ((code Tryd.f11).fst) (.seq ((code Tryd.f11).snd.fst.fst) (.seq ((code Tryd.f11).snd.fst.snd) (.seq ((code Tryd.f11).snd.snd.fst) ((code Tryd.f11).snd.snd.snd))))
noncomputable def S11_0_e := (⟨by simp only [S11_0, code, Tryd.f11, Option.getD_some, Code.fst, Code.snd, Code.bin, Code.lin, Code.sin, Code.yes, Code.no]; exact rfl⟩ : PLift (S11_0 = _))
theorem C11_wp {ts : List AVal} {st : ASt} {Q : APost} (h : Wp E 11 S11_0 ts st Q) : Wp E 11 C11 ts st Q := by
  have e : ∀ n ts st, aexec E 11 (rw E) (drawB E 11) n C11 ts st = aexec E 11 (rw E) (drawB E 11) n (S11_0) ts st := by
    intro n ts st
    have e1 : C11 = (.seq (code Tryd.f11).fst (.seq (.seq (code Tryd.f11).snd.fst.fst (code Tryd.f11).snd.fst.snd) (.seq (code Tryd.f11).snd.snd.fst (code Tryd.f11).snd.snd.snd))) := rfl
    rw [e1]
    simp only [S11_0, aexec_seq, aseq_assoc]
  refine aw_congr e ?_
  exact h
theorem ce_11 {x0 x1 : AVal} {st : ASt} {r : AEnd × ASt} (h : ∀ g : Nat → AVal, g 0 = x0 → g 1 = x1 → Wp E 11 C11 (Sl 20 g) st (fun e ts st => aend E Tryd.f11 (some (e, ts, st)) = some r)) : rw E 11 [x0, x1] st = some r :=
  ce_of (fn := Tryd.f11) (c := C11) rfl rfl rfl (Nat.le_of_ble_eq_true rfl) fun g hg => h g (hg 0 x0 rfl) (hg 1 x1 rfl)
theorem cx_11 {x0 x1 : AVal} {st : ASt} {R : AEnd → ASt → Prop} (h : ∀ g : Nat → AVal, g 0 = x0 → g 1 = x1 → Wp E 11 C11 (Sl 20 g) st (fun e ts st => ∃ r st', aend E Tryd.f11 (some (e, ts, st)) = some (r, st') ∧ R r st')) : ∃ r st', rw E 11 [x0, x1] st = some (r, st') ∧ R r st' :=
  cx_of (fn := Tryd.f11) (c := C11) rfl rfl rfl (Nat.le_of_ble_eq_true rfl) fun g hg => h g (hg 0 x0 rfl) (hg 1 x1 rfl)

/-! ### braidwork/gauss.Truth -/
noncomputable def C16 : Code := (code Tryd.f16)
noncomputable def S16_0 : Code := .seq ((code Tryd.f16).fst) (.seq ((code Tryd.f16).snd.fst.fst) (.seq ((code Tryd.f16).snd.fst.snd) (.seq ((code Tryd.f16).snd.snd.fst) ((code Tryd.f16).snd.snd.snd))))
noncomputable def S16_0_e := (⟨by simp only [S16_0, code, Tryd.f16, Option.getD_some, Code.fst, Code.snd, Code.bin, Code.lin, Code.sin, Code.yes, Code.no]; exact rfl⟩ : PLift (S16_0 = _))
theorem C16_wp {ts : List AVal} {st : ASt} {Q : APost} (h : Wp E 16 S16_0 ts st Q) : Wp E 16 C16 ts st Q := by
  have e : ∀ n ts st, aexec E 16 (rw E) (drawB E 16) n C16 ts st = aexec E 16 (rw E) (drawB E 16) n (S16_0) ts st := by
    intro n ts st
    have e1 : C16 = (.seq (code Tryd.f16).fst (.seq (.seq (code Tryd.f16).snd.fst.fst (code Tryd.f16).snd.fst.snd) (.seq (code Tryd.f16).snd.snd.fst (code Tryd.f16).snd.snd.snd))) := rfl
    rw [e1]
    simp only [S16_0, aexec_seq, aseq_assoc]
  refine aw_congr e ?_
  exact h
theorem ce_16 {x0 : AVal} {st : ASt} {r : AEnd × ASt} (h : ∀ g : Nat → AVal, g 0 = x0 → Wp E 16 C16 (Sl 4 g) st (fun e ts st => aend E Tryd.f16 (some (e, ts, st)) = some r)) : rw E 16 [x0] st = some r :=
  ce_of (fn := Tryd.f16) (c := C16) rfl rfl rfl (Nat.le_of_ble_eq_true rfl) fun g hg => h g (hg 0 x0 rfl)
theorem cx_16 {x0 : AVal} {st : ASt} {R : AEnd → ASt → Prop} (h : ∀ g : Nat → AVal, g 0 = x0 → Wp E 16 C16 (Sl 4 g) st (fun e ts st => ∃ r st', aend E Tryd.f16 (some (e, ts, st)) = some (r, st') ∧ R r st')) : ∃ r st', rw E 16 [x0] st = some (r, st') ∧ R r st' :=
  cx_of (fn := Tryd.f16) (c := C16) rfl rfl rfl (Nat.le_of_ble_eq_true rfl) fun g hg => h g (hg 0 x0 rfl)

/-! ### braidwork/gauss.Text -/
noncomputable def C23 : Code := (code Tryd.f23)
noncomputable def S23_0 : Code := .seq ((code Tryd.f23).fst) (.seq ((code Tryd.f23).snd.fst) (.seq ((code Tryd.f23).snd.snd.fst) ((code Tryd.f23).snd.snd.snd)))
noncomputable def S23_0_e := (⟨by simp only [S23_0, code, Tryd.f23, Option.getD_some, Code.fst, Code.snd, Code.bin, Code.lin, Code.sin, Code.yes, Code.no]; exact rfl⟩ : PLift (S23_0 = _))
theorem C23_wp {ts : List AVal} {st : ASt} {Q : APost} (h : Wp E 23 S23_0 ts st Q) : Wp E 23 C23 ts st Q := by
  have e : ∀ n ts st, aexec E 23 (rw E) (drawB E 23) n C23 ts st = aexec E 23 (rw E) (drawB E 23) n (S23_0) ts st := by
    intro n ts st
    have e1 : C23 = (.seq (code Tryd.f23).fst (.seq (code Tryd.f23).snd.fst (.seq (code Tryd.f23).snd.snd.fst (code Tryd.f23).snd.snd.snd))) := rfl
    rw [e1]
    simp only [S23_0, aexec_seq, aseq_assoc]
  refine aw_congr e ?_
  exact h
theorem ce_23 {x0 : AVal} {st : ASt} {r : AEnd × ASt} (h : ∀ g : Nat → AVal, g 0 = x0 → Wp E 23 C23 (Sl 43 g) st (fun e ts st => aend E Tryd.f23 (some (e, ts, st)) = some r)) : rw E 23 [x0] st = some r :=
  ce_of (fn := Tryd.f23) (c := C23) rfl rfl rfl (Nat.le_of_ble_eq_true rfl) fun g hg => h g (hg 0 x0 rfl)
theorem cx_23 {x0 : AVal} {st : ASt} {R : AEnd → ASt → Prop} (h : ∀ g : Nat → AVal, g 0 = x0 → Wp E 23 C23 (Sl 43 g) st (fun e ts st => ∃ r st', aend E Tryd.f23 (some (e, ts, st)) = some (r, st') ∧ R r st')) : ∃ r st', rw E 23 [x0] st = some (r, st') ∧ R r st' :=
  cx_of (fn := Tryd.f23) (c := C23) rfl rfl rfl (Nat.le_of_ble_eq_true rfl) fun g hg => h g (hg 0 x0 rfl)
theorem cf_29 (a : List AVal) (st : ASt) : callFuncA E.P 29 a st = some (.enter 29 a st) := rfl

/-! ### braidwork/gauss.digits -/
noncomputable def C29 : Code := (code Tryd.f29)
noncomputable def S29_0 : Code := .seq ((code Tryd.f29).fst) (.seq ((code Tryd.f29).snd.fst) ((code Tryd.f29).snd.snd))
noncomputable def S29_0_e := (⟨by simp only [S29_0, code, Tryd.f29, Option.getD_some, Code.fst, Code.snd, Code.bin, Code.lin, Code.sin, Code.yes, Code.no]; exact rfl⟩ : PLift (S29_0 = _))
theorem C29_wp {ts : List AVal} {st : ASt} {Q : APost} (h : Wp E 29 S29_0 ts st Q) : Wp E 29 C29 ts st Q := by
  have e : ∀ n ts st, aexec E 29 (rw E) (drawB E 29) n C29 ts st = aexec E 29 (rw E) (drawB E 29) n (S29_0) ts st := by
    intro n ts st
    have e1 : C29 = (.seq (code Tryd.f29).fst (.seq (code Tryd.f29).snd.fst (code Tryd.f29).snd.snd)) := rfl
    rw [e1]
    simp only [S29_0, aexec_seq, aseq_assoc]
  refine aw_congr e ?_
  exact h
theorem ce_29 {x0 : AVal} {st : ASt} {r : AEnd × ASt} (h : ∀ g : Nat → AVal, g 0 = x0 → Wp E 29 C29 (Sl 6 g) st (fun e ts st => aend E Tryd.f29 (some (e, ts, st)) = some r)) : rw E 29 [x0] st = some r :=
  ce_of (fn := Tryd.f29) (c := C29) rfl rfl rfl (Nat.le_of_ble_eq_true rfl) fun g hg => h g (hg 0 x0 rfl)
theorem cx_29 {x0 : AVal} {st : ASt} {R : AEnd → ASt → Prop} (h : ∀ g : Nat → AVal, g 0 = x0 → Wp E 29 C29 (Sl 6 g) st (fun e ts st => ∃ r st', aend E Tryd.f29 (some (e, ts, st)) = some (r, st') ∧ R r st')) : ∃ r st', rw E 29 [x0] st = some (r, st') ∧ R r st' :=
  cx_of (fn := Tryd.f29) (c := C29) rfl rfl rfl (Nat.le_of_ble_eq_true rfl) fun g hg => h g (hg 0 x0 rfl)
theorem hint_29_4 : E.hint 29 4 = false := rfl
theorem cf_35 (a : List AVal) (st : ASt) : callFuncA E.P 35 a st = some (.enter 35 a st) := rfl

/-! ### braidwork/braidworklaw02.Awake -/
noncomputable def C9 : Code := (code Tryd.f9)
noncomputable def S9_0 : Code := .seq ((code Tryd.f9).fst) (.seq ((code Tryd.f9).snd.fst) (.seq ((code Tryd.f9).snd.snd.fst) ((code Tryd.f9).snd.snd.snd)))
noncomputable def S9_0_e := (⟨by simp only [S9_0, code, Tryd.f9, Option.getD_some, Code.fst, Code.snd, Code.bin, Code.lin, Code.sin, Code.yes, Code.no]; exact rfl⟩ : PLift (S9_0 = _))
theorem C9_wp {ts : List AVal} {st : ASt} {Q : APost} (h : Wp E 9 S9_0 ts st Q) : Wp E 9 C9 ts st Q := by
  have e : ∀ n ts st, aexec E 9 (rw E) (drawB E 9) n C9 ts st = aexec E 9 (rw E) (drawB E 9) n (S9_0) ts st := by
    intro n ts st
    have e1 : C9 = (.seq (code Tryd.f9).fst (.seq (code Tryd.f9).snd.fst (.seq (code Tryd.f9).snd.snd.fst (code Tryd.f9).snd.snd.snd))) := rfl
    rw [e1]
    simp only [S9_0, aexec_seq, aseq_assoc]
  refine aw_congr e ?_
  exact h
theorem ce_9 {st : ASt} {r : AEnd × ASt} (h : ∀ g : Nat → AVal, Wp E 9 C9 (Sl 20 g) st (fun e ts st => aend E Tryd.f9 (some (e, ts, st)) = some r)) : rw E 9 [] st = some r :=
  ce_of (fn := Tryd.f9) (c := C9) rfl rfl rfl (Nat.le_of_ble_eq_true rfl) fun g hg => h g 
theorem cx_9 {st : ASt} {R : AEnd → ASt → Prop} (h : ∀ g : Nat → AVal, Wp E 9 C9 (Sl 20 g) st (fun e ts st => ∃ r st', aend E Tryd.f9 (some (e, ts, st)) = some (r, st') ∧ R r st')) : ∃ r st', rw E 9 [] st = some (r, st') ∧ R r st' :=
  cx_of (fn := Tryd.f9) (c := C9) rfl rfl rfl (Nat.le_of_ble_eq_true rfl) fun g hg => h g 
theorem cf_14 (a : List AVal) (st : ASt) : callFuncA E.P 14 a st = some (.enter 14 a st) := rfl
theorem cf_23 (a : List AVal) (st : ASt) : callFuncA E.P 23 a st = some (.enter 23 a st) := rfl

/-! ### braidwork/braidworklaw02.small -/
noncomputable def C10 : Code := (code Tryd.f10)
noncomputable def S10_0 : Code := .seq ((code Tryd.f10).fst) (.seq ((code Tryd.f10).snd.fst) ((code Tryd.f10).snd.snd))
noncomputable def S10_0_e := (⟨by simp only [S10_0, code, Tryd.f10, Option.getD_some, Code.fst, Code.snd, Code.bin, Code.lin, Code.sin, Code.yes, Code.no]; exact rfl⟩ : PLift (S10_0 = _))
theorem C10_wp {ts : List AVal} {st : ASt} {Q : APost} (h : Wp E 10 S10_0 ts st Q) : Wp E 10 C10 ts st Q := by
  have e : ∀ n ts st, aexec E 10 (rw E) (drawB E 10) n C10 ts st = aexec E 10 (rw E) (drawB E 10) n (S10_0) ts st := by
    intro n ts st
    have e1 : C10 = (.seq (code Tryd.f10).fst (.seq (code Tryd.f10).snd.fst (code Tryd.f10).snd.snd)) := rfl
    rw [e1]
    simp only [S10_0, aexec_seq, aseq_assoc]
  refine aw_congr e ?_
  exact h
theorem ce_10 {x0 : AVal} {st : ASt} {r : AEnd × ASt} (h : ∀ g : Nat → AVal, g 0 = x0 → Wp E 10 C10 (Sl 12 g) st (fun e ts st => aend E Tryd.f10 (some (e, ts, st)) = some r)) : rw E 10 [x0] st = some r :=
  ce_of (fn := Tryd.f10) (c := C10) rfl rfl rfl (Nat.le_of_ble_eq_true rfl) fun g hg => h g (hg 0 x0 rfl)
theorem cx_10 {x0 : AVal} {st : ASt} {R : AEnd → ASt → Prop} (h : ∀ g : Nat → AVal, g 0 = x0 → Wp E 10 C10 (Sl 12 g) st (fun e ts st => ∃ r st', aend E Tryd.f10 (some (e, ts, st)) = some (r, st') ∧ R r st')) : ∃ r st', rw E 10 [x0] st = some (r, st') ∧ R r st' :=
  cx_of (fn := Tryd.f10) (c := C10) rfl rfl rfl (Nat.le_of_ble_eq_true rfl) fun g hg => h g (hg 0 x0 rfl)
theorem o_fap_23_0 (s o : Nat) : fieldA E.P 23 (.ptr s o) 0 = some (.ptr s (o + 0)) := rfl
theorem o_fai_23_0 (cs : List AVal) : fieldA E.P 23 (.iptr (.agg cs)) 0 = (cs[0]?).map .iptr := rfl
theorem o_ldp_21 (st : ASt) (s o : Nat) : loadA E.P 21 st (.ptr s o) = (blkOf (st.heap s)).bind (fun cs => cs[o]?) := ld_one rfl rfl st s o
theorem o_ldi_21 (st : ASt) (v : AVal) : loadA E.P 21 st (.iptr v) = if v.isCell = true then some v else none := rfl
theorem o_cv_21_2 (mt : Bool) (n : Int) (st : ASt) : convA E.P mt 21 2 (.lit (.int .i32 n)) st = some (.lit (.int .i64 (IntKind.i64.wrap n)), st) := c_int rfl rfl
theorem o_fap_23_1 (s o : Nat) : fieldA E.P 23 (.ptr s o) 1 = some (.ptr s (o + 1)) := rfl
theorem o_fai_23_1 (cs : List AVal) : fieldA E.P 23 (.iptr (.agg cs)) 1 = (cs[1]?).map .iptr := rfl
theorem cf_12 (a : List AVal) (st : ASt) : callFuncA E.P 12 a st = some (.enter 12 a st) := rfl

/-! ### braidwork/braidworklaw02.number -/
noncomputable def C12 : Code := (code Tryd.f12)
noncomputable def S12_0 : Code := .seq ((code Tryd.f12).fst) (.seq ((code Tryd.f12).snd.fst) ((code Tryd.f12).snd.snd))
noncomputable def S12_0_e := (⟨by simp only [S12_0, code, Tryd.f12, Option.getD_some, Code.fst, Code.snd, Code.bin, Code.lin, Code.sin, Code.yes, Code.no]; exact rfl⟩ : PLift (S12_0 = _))
theorem C12_wp {ts : List AVal} {st : ASt} {Q : APost} (h : Wp E 12 S12_0 ts st Q) : Wp E 12 C12 ts st Q := by
  have e : ∀ n ts st, aexec E 12 (rw E) (drawB E 12) n C12 ts st = aexec E 12 (rw E) (drawB E 12) n (S12_0) ts st := by
    intro n ts st
    have e1 : C12 = (.seq (code Tryd.f12).fst (.seq (code Tryd.f12).snd.fst (code Tryd.f12).snd.snd)) := rfl
    rw [e1]
    simp only [S12_0, aexec_seq, aseq_assoc]
  refine aw_congr e ?_
  exact h
theorem ce_12 {x0 x1 : AVal} {st : ASt} {r : AEnd × ASt} (h : ∀ g : Nat → AVal, g 0 = x0 → g 1 = x1 → Wp E 12 C12 (Sl 10 g) st (fun e ts st => aend E Tryd.f12 (some (e, ts, st)) = some r)) : rw E 12 [x0, x1] st = some r :=
  ce_of (fn := Tryd.f12) (c := C12) rfl rfl rfl (Nat.le_of_ble_eq_true rfl) fun g hg => h g (hg 0 x0 rfl) (hg 1 x1 rfl)
theorem cx_12 {x0 x1 : AVal} {st : ASt} {R : AEnd → ASt → Prop} (h : ∀ g : Nat → AVal, g 0 = x0 → g 1 = x1 → Wp E 12 C12 (Sl 10 g) st (fun e ts st => ∃ r st', aend E Tryd.f12 (some (e, ts, st)) = some (r, st') ∧ R r st')) : ∃ r st', rw E 12 [x0, x1] st = some (r, st') ∧ R r st' :=
  cx_of (fn := Tryd.f12) (c := C12) rfl rfl rfl (Nat.le_of_ble_eq_true rfl) fun g hg => h g (hg 0 x0 rfl) (hg 1 x1 rfl)
theorem hint_12_6 : E.hint 12 6 = false := rfl
theorem hint_12_8 : E.hint 12 8 = false := rfl

/-! ### braidwork/braidworklaw02.GaussWhole -/
noncomputable def C3 : Code := (code Tryd.f3)
noncomputable def rg3_3 : Code := (code Tryd.f3).snd.snd.fst
noncomputable def rq3_3 : Code := (code Tryd.f3).snd.snd.fst
theorem ex3_3 (call : ACall) (n : Nat) (ts : List AVal) (st : ASt) : aexec E 3 call (drawB E 3) n rg3_3 ts st = aopsP E 3 call rq3_3.ops [.one 0 [], .one 2 [], .one 4 [], .one 1 [2, 4], .one 3 [4], .one 5 [], .one 6 [], .one 7 [], .one 8 []] ts st := by
  have d : drawB E 3 rq3_3.ops = false := by kernel_rfl
  have d2 : drawPlan E 3 rq3_3.ops = some [.one 0 [], .one 2 [], .one 4 [], .one 1 [2, 4], .one 3 [4], .one 5 [], .one 6 [], .one 7 [], .one 8 []] := by kernel_rfl
  have e : rg3_3 = .region 3 rq3_3.ops true := rfl
  rw [e, aexec, d, d2]; rfl
noncomputable def rq3_3_e := (⟨by simp only [rq3_3, code, Tryd.f3, Option.getD_some, Code.fst, Code.snd, Code.bin, Code.lin, Code.sin, Code.yes, Code.no, Code.ops]; exact rfl⟩ : PLift (rq3_3.ops = _))
noncomputable def S3_0 : Code := .seq ((code Tryd.f3).fst) (.seq ((code Tryd.f3).snd.fst.fst) (.seq ((code Tryd.f3).snd.fst.snd) (.seq (rg3_3) (.seq ((code Tryd.f3).snd.snd.snd.fst.fst) (.seq ((code Tryd.f3).snd.snd.snd.fst.snd) (.seq ((code Tryd.f3).snd.snd.snd.snd.fst) ((code Tryd.f3).snd.snd.snd.snd.snd)))))))
noncomputable def S3_0_e := (⟨by simp only [S3_0, code, Tryd.f3, Option.getD_some, Code.fst, Code.snd, Code.bin, Code.lin, Code.sin, Code.yes, Code.no]; exact rfl⟩ : PLift (S3_0 = _))
theorem C3_wp {ts : List AVal} {st : ASt} {Q : APost} (h : Wp E 3 S3_0 ts st Q) : Wp E 3 C3 ts st Q := by
  have e : ∀ n ts st, aexec E 3 (rw E) (drawB E 3) n C3 ts st = aexec E 3 (rw E) (drawB E 3) n (S3_0) ts st := by
    intro n ts st
    have e1 : C3 = (.seq (code Tryd.f3).fst (.seq (.seq (code Tryd.f3).snd.fst.fst (code Tryd.f3).snd.fst.snd) (.seq rg3_3 (.seq (.seq (code Tryd.f3).snd.snd.snd.fst.fst (code Tryd.f3).snd.snd.snd.fst.snd) (.seq (code Tryd.f3).snd.snd.snd.snd.fst (code Tryd.f3).snd.snd.snd.snd.snd))))) := rfl
    rw [e1]
    simp only [S3_0, aexec_seq, aseq_assoc]
  refine aw_congr e ?_
  exact h
theorem ce_3 {x0 x1 x2 : AVal} {st : ASt} {r : AEnd × ASt} (h : ∀ g : Nat → AVal, g 0 = x0 → g 1 = x1 → g 2 = x2 → Wp E 3 C3 (Sl 60 g) st (fun e ts st => aend E Tryd.f3 (some (e, ts, st)) = some r)) : rw E 3 [x0, x1, x2] st = some r :=
  ce_of (fn := Tryd.f3) (c := C3) rfl rfl rfl (Nat.le_of_ble_eq_true rfl) fun g hg => h g (hg 0 x0 rfl) (hg 1 x1 rfl) (hg 2 x2 rfl)
theorem cx_3 {x0 x1 x2 : AVal} {st : ASt} {R : AEnd → ASt → Prop} (h : ∀ g : Nat → AVal, g 0 = x0 → g 1 = x1 → g 2 = x2 → Wp E 3 C3 (Sl 60 g) st (fun e ts st => ∃ r st', aend E Tryd.f3 (some (e, ts, st)) = some (r, st') ∧ R r st')) : ∃ r st', rw E 3 [x0, x1, x2] st = some (r, st') ∧ R r st' :=
  cx_of (fn := Tryd.f3) (c := C3) rfl rfl rfl (Nat.le_of_ble_eq_true rfl) fun g hg => h g (hg 0 x0 rfl) (hg 1 x1 rfl) (hg 2 x2 rfl)
theorem cf_9 (a : List AVal) (st : ASt) : callFuncA E.P 9 a st = some (.enter 9 a st) := rfl
theorem o_ldp_23 (st : ASt) (s o : Nat) : loadA E.P 23 st (.ptr s o) = (blkOf (st.heap s)).bind (fun cs => if o + 2 ≤ cs.length then some (.agg ((cs.drop o).take 2)) else none) := ld_agg rfl rfl st s o
theorem o_ldi_23 (st : ASt) (cs : List AVal) : loadA E.P 23 st (.iptr (.agg cs)) = if cs.length = 2 then some (.agg cs) else none := rfl
theorem cf_10 (a : List AVal) (st : ASt) : callFuncA E.P 10 a st = some (.enter 10 a st) := rfl
theorem cf_11 (a : List AVal) (st : ASt) : callFuncA E.P 11 a st = some (.enter 11 a st) := rfl
theorem o_eqb_4_eql (xo yo : Operand) (a b : Bool) : binA E.P .eql 4 xo yo (.lit (.bool a)) (.lit (.bool b)) = some (.lit (.bool (a == b))) := b_eqb rfl

/-! ### braidwork/braidworklaw02.GaussNorms -/
noncomputable def C4 : Code := (code Tryd.f4)
noncomputable def rg4_3 : Code := (code Tryd.f4).snd.snd.fst
noncomputable def rq4_3 : Code := (code Tryd.f4).snd.snd.fst
theorem ex4_3 (call : ACall) (n : Nat) (ts : List AVal) (st : ASt) : aexec E 4 call (drawB E 4) n rg4_3 ts st = aopsP E 4 call rq4_3.ops [.one 0 [], .one 1 [], .one 2 [], .one 3 [], .one 4 [], .one 5 [], .one 6 [], .one 7 [], .one 9 [], .one 10 [], .one 11 [], .one 12 [], .one 13 [], .one 14 [], .one 15 [], .one 16 [], .one 8 [10, 12, 14, 16], .one 17 [], .one 18 [], .one 19 []] ts st := by
  have d : drawB E 4 rq4_3.ops = false := by kernel_rfl
  have d2 : drawPlan E 4 rq4_3.ops = some [.one 0 [], .one 1 [], .one 2 [], .one 3 [], .one 4 [], .one 5 [], .one 6 [], .one 7 [], .one 9 [], .one 10 [], .one 11 [], .one 12 [], .one 13 [], .one 14 [], .one 15 [], .one 16 [], .one 8 [10, 12, 14, 16], .one 17 [], .one 18 [], .one 19 []] := by kernel_rfl
  have e : rg4_3 = .region 3 rq4_3.ops true := rfl
  rw [e, aexec, d, d2]; rfl
noncomputable def rq4_3_e := (⟨by simp only [rq4_3, code, Tryd.f4, Option.getD_some, Code.fst, Code.snd, Code.bin, Code.lin, Code.sin, Code.yes, Code.no, Code.ops]; exact rfl⟩ : PLift (rq4_3.ops = _))
noncomputable def S4_0 : Code := .seq ((code Tryd.f4).fst) (.seq ((code Tryd.f4).snd.fst.fst) (.seq ((code Tryd.f4).snd.fst.snd) (.seq (rg4_3) (.seq ((code Tryd.f4).snd.snd.snd.fst) (.seq ((code Tryd.f4).snd.snd.snd.snd.fst) (.seq ((code Tryd.f4).snd.snd.snd.snd.snd.fst) (.seq ((code Tryd.f4).snd.snd.snd.snd.snd.snd.fst) (.seq ((code Tryd.f4).snd.snd.snd.snd.snd.snd.snd.fst) (.seq ((code Tryd.f4).snd.snd.snd.snd.snd.snd.snd.snd.fst) (.seq ((code Tryd.f4).snd.snd.snd.snd.snd.snd.snd.snd.snd.fst) (.seq ((code Tryd.f4).snd.snd.snd.snd.snd.snd.snd.snd.snd.snd.fst) ((code Tryd.f4).snd.snd.snd.snd.snd.snd.snd.snd.snd.snd.snd))))))))))))
noncomputable def S4_0_e := (⟨by simp only [S4_0, code, Tryd.f4, Option.getD_some, Code.fst, Code.snd, Code.bin, Code.lin, Code.sin, Code.yes, Code.no]; exact rfl⟩ : PLift (S4_0 = _))
theorem C4_wp {ts : List AVal} {st : ASt} {Q : APost} (h : Wp E 4 S4_0 ts st Q) : Wp E 4 C4 ts st Q := by
  have e : ∀ n ts st, aexec E 4 (rw E) (drawB E 4) n C4 ts st = aexec E 4 (rw E) (drawB E 4) n (S4_0) ts st := by
    intro n ts st
    have e1 : C4 = (.seq (code Tryd.f4).fst (.seq (.seq (code Tryd.f4).snd.fst.fst (code Tryd.f4).snd.fst.snd) (.seq rg4_3 (.seq (code Tryd.f4).snd.snd.snd.fst (.seq (code Tryd.f4).snd.snd.snd.snd.fst (.seq (code Tryd.f4).snd.snd.snd.snd.snd.fst (.seq (code Tryd.f4).snd.snd.snd.snd.snd.snd.fst (.seq (code Tryd.f4).snd.snd.snd.snd.snd.snd.snd.fst (.seq (code Tryd.f4).snd.snd.snd.snd.snd.snd.snd.snd.fst (.seq (code Tryd.f4).snd.snd.snd.snd.snd.snd.snd.snd.snd.fst (.seq (code Tryd.f4).snd.snd.snd.snd.snd.snd.snd.snd.snd.snd.fst (code Tryd.f4).snd.snd.snd.snd.snd.snd.snd.snd.snd.snd.snd))))))))))) := rfl
    rw [e1]
    simp only [S4_0, aexec_seq, aseq_assoc]
  refine aw_congr e ?_
  exact h
theorem ce_4 {x0 x1 : AVal} {st : ASt} {r : AEnd × ASt} (h : ∀ g : Nat → AVal, g 0 = x0 → g 1 = x1 → Wp E 4 C4 (Sl 108 g) st (fun e ts st => aend E Tryd.f4 (some (e, ts, st)) = some r)) : rw E 4 [x0, x1] st = some r :=
  ce_of (fn := Tryd.f4) (c := C4) rfl rfl rfl (Nat.le_of_ble_eq_true rfl) fun g hg => h g (hg 0 x0 rfl) (hg 1 x1 rfl)
theorem cx_4 {x0 x1 : AVal} {st : ASt} {R : AEnd → ASt → Prop} (h : ∀ g : Nat → AVal, g 0 = x0 → g 1 = x1 → Wp E 4 C4 (Sl 108 g) st (fun e ts st => ∃ r st', aend E Tryd.f4 (some (e, ts, st)) = some (r, st') ∧ R r st')) : ∃ r st', rw E 4 [x0, x1] st = some (r, st') ∧ R r st' :=
  cx_of (fn := Tryd.f4) (c := C4) rfl rfl rfl (Nat.le_of_ble_eq_true rfl) fun g hg => h g (hg 0 x0 rfl) (hg 1 x1 rfl)
theorem cf_13 (a : List AVal) (st : ASt) : callFuncA E.P 13 a st = some (.enter 13 a st) := rfl
theorem cf_15 (a : List AVal) (st : ASt) : callFuncA E.P 15 a st = some (.enter 15 a st) := rfl

/-! ### braidwork/braidworklaw02.GaussOrders -/
noncomputable def C5 : Code := (code Tryd.f5)
noncomputable def rg5_5 : Code := (code Tryd.f5).snd.snd.snd.fst
noncomputable def rq5_5 : Code := (code Tryd.f5).snd.snd.snd.fst
theorem ex5_5 (call : ACall) (n : Nat) (ts : List AVal) (st : ASt) : aexec E 5 call (drawB E 5) n rg5_5 ts st = aopsP E 5 call rq5_5.ops [.one 0 [], .one 1 [], .one 2 [], .one 3 [], .one 4 [], .one 5 [], .one 7 [], .one 8 [], .one 9 [], .one 10 [], .one 11 [], .one 12 [], .one 6 [8, 9, 11, 12], .one 13 [], .one 14 [], .one 15 []] ts st := by
  have d : drawB E 5 rq5_5.ops = false := by kernel_rfl
  have d2 : drawPlan E 5 rq5_5.ops = some [.one 0 [], .one 1 [], .one 2 [], .one 3 [], .one 4 [], .one 5 [], .one 7 [], .one 8 [], .one 9 [], .one 10 [], .one 11 [], .one 12 [], .one 6 [8, 9, 11, 12], .one 13 [], .one 14 [], .one 15 []] := by kernel_rfl
  have e : rg5_5 = .region 5 rq5_5.ops true := rfl
  rw [e, aexec, d, d2]; rfl
noncomputable def rq5_5_e := (⟨by simp only [rq5_5, code, Tryd.f5, Option.getD_some, Code.fst, Code.snd, Code.bin, Code.lin, Code.sin, Code.yes, Code.no, Code.ops]; exact rfl⟩ : PLift (rq5_5.ops = _))
noncomputable def S5_0 : Code := .seq ((code Tryd.f5).fst) (.seq ((code Tryd.f5).snd.fst.fst) (.seq ((code Tryd.f5).snd.fst.snd) (.seq ((code Tryd.f5).snd.snd.fst.fst) (.seq ((code Tryd.f5).snd.snd.fst.snd) (.seq (rg5_5) (.seq ((code Tryd.f5).snd.snd.snd.snd.fst) (.seq ((code Tryd.f5).snd.snd.snd.snd.snd.fst) (.seq ((code Tryd.f5).snd.snd.snd.snd.snd.snd.fst.fst) (.seq ((code Tryd.f5).snd.snd.snd.snd.snd.snd.fst.snd) (.seq ((code Tryd.f5).snd.snd.snd.snd.snd.snd.snd.fst) ((code Tryd.f5).snd.snd.snd.snd.snd.snd.snd.snd)))))))))))
noncomputable def S5_0_e := (⟨by simp only [S5_0, code, Tryd.f5, Option.getD_some, Code.fst, Code.snd, Code.bin, Code.lin, Code.sin, Code.yes, Code.no]; exact rfl⟩ : PLift (S5_0 = _))
theorem C5_wp {ts : List AVal} {st : ASt} {Q : APost} (h : Wp E 5 S5_0 ts st Q) : Wp E 5 C5 ts st Q := by
  have e : ∀ n ts st, aexec E 5 (rw E) (drawB E 5) n C5 ts st = aexec E 5 (rw E) (drawB E 5) n (S5_0) ts st := by
    intro n ts st
    have e1 : C5 = (.seq (code Tryd.f5).fst (.seq (.seq (code Tryd.f5).snd.fst.fst (code Tryd.f5).snd.fst.snd) (.seq (.seq (code Tryd.f5).snd.snd.fst.fst (code Tryd.f5).snd.snd.fst.snd) (.seq rg5_5 (.seq (code Tryd.f5).snd.snd.snd.snd.fst (.seq (code Tryd.f5).snd.snd.snd.snd.snd.fst (.seq (.seq (code Tryd.f5).snd.snd.snd.snd.snd.snd.fst.fst (code Tryd.f5).snd.snd.snd.snd.snd.snd.fst.snd) (.seq (code Tryd.f5).snd.snd.snd.snd.snd.snd.snd.fst (code Tryd.f5).snd.snd.snd.snd.snd.snd.snd.snd)))))))) := rfl
    rw [e1]
    simp only [S5_0, aexec_seq, aseq_assoc]
  refine aw_congr e ?_
  exact h
theorem ce_5 {x0 x1 x2 : AVal} {st : ASt} {r : AEnd × ASt} (h : ∀ g : Nat → AVal, g 0 = x0 → g 1 = x1 → g 2 = x2 → Wp E 5 C5 (Sl 62 g) st (fun e ts st => aend E Tryd.f5 (some (e, ts, st)) = some r)) : rw E 5 [x0, x1, x2] st = some r :=
  ce_of (fn := Tryd.f5) (c := C5) rfl rfl rfl (Nat.le_of_ble_eq_true rfl) fun g hg => h g (hg 0 x0 rfl) (hg 1 x1 rfl) (hg 2 x2 rfl)
theorem cx_5 {x0 x1 x2 : AVal} {st : ASt} {R : AEnd → ASt → Prop} (h : ∀ g : Nat → AVal, g 0 = x0 → g 1 = x1 → g 2 = x2 → Wp E 5 C5 (Sl 62 g) st (fun e ts st => ∃ r st', aend E Tryd.f5 (some (e, ts, st)) = some (r, st') ∧ R r st')) : ∃ r st', rw E 5 [x0, x1, x2] st = some (r, st') ∧ R r st' :=
  cx_of (fn := Tryd.f5) (c := C5) rfl rfl rfl (Nat.le_of_ble_eq_true rfl) fun g hg => h g (hg 0 x0 rfl) (hg 1 x1 rfl) (hg 2 x2 rfl)
theorem o_st_21 (st : ASt) (s o : Nat) (v : AVal) : storeA E.P 21 st (.ptr s o) v = if v.isCell = true then (blkOf (st.heap s)).bind (fun cs => if o + 1 ≤ cs.length then some (st.set s (some (.cells (cs.set o v)))) else none) else storeU E.P 21 st (.ptr s o) v := st_one rfl st s o v
theorem cf_16 (a : List AVal) (st : ASt) : callFuncA E.P 16 a st = some (.enter 16 a st) := rfl

/-! ### braidwork/braidworklaw02.GaussRing -/
noncomputable def C6 : Code := (code Tryd.f6)
noncomputable def rg6_3 : Code := (code Tryd.f6).snd.snd.fst
noncomputable def rq6_3 : Code := (code Tryd.f6).snd.snd.fst
theorem ex6_3 (call : ACall) (n : Nat) (ts : List AVal) (st : ASt) : aexec E 6 call (drawB E 6) n rg6_3 ts st = aopsP E 6 call rq6_3.ops [.one 0 [], .one 2 [], .one 4 [], .one 1 [2, 4], .one 3 [4], .one 5 [], .one 6 [], .one 7 [], .one 8 []] ts st := by
  have d : drawB E 6 rq6_3.ops = false := by kernel_rfl
  have d2 : drawPlan E 6 rq6_3.ops = some [.one 0 [], .one 2 [], .one 4 [], .one 1 [2, 4], .one 3 [4], .one 5 [], .one 6 [], .one 7 [], .one 8 []] := by kernel_rfl
  have e : rg6_3 = .region 3 rq6_3.ops true := rfl
  rw [e, aexec, d, d2]; rfl
noncomputable def rq6_3_e := (⟨by simp only [rq6_3, code, Tryd.f6, Option.getD_some, Code.fst, Code.snd, Code.bin, Code.lin, Code.sin, Code.yes, Code.no, Code.ops]; exact rfl⟩ : PLift (rq6_3.ops = _))
noncomputable def S6_0 : Code := .seq ((code Tryd.f6).fst) (.seq ((code Tryd.f6).snd.fst.fst) (.seq ((code Tryd.f6).snd.fst.snd) (.seq (rg6_3) (.seq ((code Tryd.f6).snd.snd.snd.fst) (.seq ((code Tryd.f6).snd.snd.snd.snd.fst) (.seq ((code Tryd.f6).snd.snd.snd.snd.snd.fst) (.seq ((code Tryd.f6).snd.snd.snd.snd.snd.snd.fst) (.seq ((code Tryd.f6).snd.snd.snd.snd.snd.snd.snd.fst) (.seq ((code Tryd.f6).snd.snd.snd.snd.snd.snd.snd.snd.fst) (.seq ((code Tryd.f6).snd.snd.snd.snd.snd.snd.snd.snd.snd.fst) (.seq ((code Tryd.f6).snd.snd.snd.snd.snd.snd.snd.snd.snd.snd.fst) ((code Tryd.f6).snd.snd.snd.snd.snd.snd.snd.snd.snd.snd.snd))))))))))))
noncomputable def S6_0_e := (⟨by simp only [S6_0, code, Tryd.f6, Option.getD_some, Code.fst, Code.snd, Code.bin, Code.lin, Code.sin, Code.yes, Code.no]; exact rfl⟩ : PLift (S6_0 = _))
theorem C6_wp {ts : List AVal} {st : ASt} {Q : APost} (h : Wp E 6 S6_0 ts st Q) : Wp E 6 C6 ts st Q := by
  have e : ∀ n ts st, aexec E 6 (rw E) (drawB E 6) n C6 ts st = aexec E 6 (rw E) (drawB E 6) n (S6_0) ts st := by
    intro n ts st
    have e1 : C6 = (.seq (code Tryd.f6).fst (.seq (.seq (code Tryd.f6).snd.fst.fst (code Tryd.f6).snd.fst.snd) (.seq rg6_3 (.seq (code Tryd.f6).snd.snd.snd.fst (.seq (code Tryd.f6).snd.snd.snd.snd.fst (.seq (code Tryd.f6).snd.snd.snd.snd.snd.fst (.seq (code Tryd.f6).snd.snd.snd.snd.snd.snd.fst (.seq (code Tryd.f6).snd.snd.snd.snd.snd.snd.snd.fst (.seq (code Tryd.f6).snd.snd.snd.snd.snd.snd.snd.snd.fst (.seq (code Tryd.f6).snd.snd.snd.snd.snd.snd.snd.snd.snd.fst (.seq (code Tryd.f6).snd.snd.snd.snd.snd.snd.snd.snd.snd.snd.fst (code Tryd.f6).snd.snd.snd.snd.snd.snd.snd.snd.snd.snd.snd))))))))))) := rfl
    rw [e1]
    simp only [S6_0, aexec_seq, aseq_assoc]
  refine aw_congr e ?_
  exact h
theorem ce_6 {x0 x1 x2 : AVal} {st : ASt} {r : AEnd × ASt} (h : ∀ g : Nat → AVal, g 0 = x0 → g 1 = x1 → g 2 = x2 → Wp E 6 C6 (Sl 108 g) st (fun e ts st => aend E Tryd.f6 (some (e, ts, st)) = some r)) : rw E 6 [x0, x1, x2] st = some r :=
  ce_of (fn := Tryd.f6) (c := C6) rfl rfl rfl (Nat.le_of_ble_eq_true rfl) fun g hg => h g (hg 0 x0 rfl) (hg 1 x1 rfl) (hg 2 x2 rfl)
theorem cx_6 {x0 x1 x2 : AVal} {st : ASt} {R : AEnd → ASt → Prop} (h : ∀ g : Nat → AVal, g 0 = x0 → g 1 = x1 → g 2 = x2 → Wp E 6 C6 (Sl 108 g) st (fun e ts st => ∃ r st', aend E Tryd.f6 (some (e, ts, st)) = some (r, st') ∧ R r st')) : ∃ r st', rw E 6 [x0, x1, x2] st = some (r, st') ∧ R r st' :=
  cx_of (fn := Tryd.f6) (c := C6) rfl rfl rfl (Nat.le_of_ble_eq_true rfl) fun g hg => h g (hg 0 x0 rfl) (hg 1 x1 rfl) (hg 2 x2 rfl)
theorem cf_17 (a : List AVal) (st : ASt) : callFuncA E.P 17 a st = some (.enter 17 a st) := rfl

/-! ### braidwork/braidworklaw02.GaussConjs -/
noncomputable def C7 : Code := (code Tryd.f7)
noncomputable def rg7_3 : Code := (code Tryd.f7).snd.snd.fst
noncomputable def rq7_3 : Code := (code Tryd.f7).snd.snd.fst
theorem ex7_3 (call : ACall) (n : Nat) (ts : List AVal) (st : ASt) : aexec E 7 call (drawB E 7) n rg7_3 ts st = aopsP E 7 call rq7_3.ops [.one 0 [], .one 2 [], .one 1 [2], .one 3 [], .one 4 [], .one 5 []] ts st := by
  have d : drawB E 7 rq7_3.ops = false := by kernel_rfl
  have d2 : drawPlan E 7 rq7_3.ops = some [.one 0 [], .one 2 [], .one 1 [2], .one 3 [], .one 4 [], .one 5 []] := by kernel_rfl
  have e : rg7_3 = .region 3 rq7_3.ops true := rfl
  rw [e, aexec, d, d2]; rfl
noncomputable def rq7_3_e := (⟨by simp only [rq7_3, code, Tryd.f7, Option.getD_some, Code.fst, Code.snd, Code.bin, Code.lin, Code.sin, Code.yes, Code.no, Code.ops]; exact rfl⟩ : PLift (rq7_3.ops = _))
noncomputable def S7_0 : Code := .seq ((code Tryd.f7).fst) (.seq ((code Tryd.f7).snd.fst.fst) (.seq ((code Tryd.f7).snd.fst.snd) (.seq (rg7_3) (.seq ((code Tryd.f7).snd.snd.snd.fst) (.seq ((code Tryd.f7).snd.snd.snd.snd.fst) (.seq ((code Tryd.f7).snd.snd.snd.snd.snd.fst) (.seq ((code Tryd.f7).snd.snd.snd.snd.snd.snd.fst) (.seq ((code Tryd.f7).snd.snd.snd.snd.snd.snd.snd.fst) (.seq ((code Tryd.f7).snd.snd.snd.snd.snd.snd.snd.snd.fst) (.seq ((code Tryd.f7).snd.snd.snd.snd.snd.snd.snd.snd.snd.fst) (.seq ((code Tryd.f7).snd.snd.snd.snd.snd.snd.snd.snd.snd.snd.fst) (.seq ((code Tryd.f7).snd.snd.snd.snd.snd.snd.snd.snd.snd.snd.snd.fst) (.seq ((code Tryd.f7).snd.snd.snd.snd.snd.snd.snd.snd.snd.snd.snd.snd.fst) ((code Tryd.f7).snd.snd.snd.snd.snd.snd.snd.snd.snd.snd.snd.snd.snd))))))))))))))
noncomputable def S7_0_e := (⟨by simp only [S7_0, code, Tryd.f7, Option.getD_some, Code.fst, Code.snd, Code.bin, Code.lin, Code.sin, Code.yes, Code.no]; exact rfl⟩ : PLift (S7_0 = _))
theorem C7_wp {ts : List AVal} {st : ASt} {Q : APost} (h : Wp E 7 S7_0 ts st Q) : Wp E 7 C7 ts st Q := by
  have e : ∀ n ts st, aexec E 7 (rw E) (drawB E 7) n C7 ts st = aexec E 7 (rw E) (drawB E 7) n (S7_0) ts st := by
    intro n ts st
    have e1 : C7 = (.seq (code Tryd.f7).fst (.seq (.seq (code Tryd.f7).snd.fst.fst (code Tryd.f7).snd.fst.snd) (.seq rg7_3 (.seq (code Tryd.f7).snd.snd.snd.fst (.seq (code Tryd.f7).snd.snd.snd.snd.fst (.seq (code Tryd.f7).snd.snd.snd.snd.snd.fst (.seq (code Tryd.f7).snd.snd.snd.snd.snd.snd.fst (.seq (code Tryd.f7).snd.snd.snd.snd.snd.snd.snd.fst (.seq (code Tryd.f7).snd.snd.snd.snd.snd.snd.snd.snd.fst (.seq (code Tryd.f7).snd.snd.snd.snd.snd.snd.snd.snd.snd.fst (.seq (code Tryd.f7).snd.snd.snd.snd.snd.snd.snd.snd.snd.snd.fst (.seq (code Tryd.f7).snd.snd.snd.snd.snd.snd.snd.snd.snd.snd.snd.fst (.seq (code Tryd.f7).snd.snd.snd.snd.snd.snd.snd.snd.snd.snd.snd.snd.fst (code Tryd.f7).snd.snd.snd.snd.snd.snd.snd.snd.snd.snd.snd.snd.snd))))))))))))) := rfl
    rw [e1]
    simp only [S7_0, aexec_seq, aseq_assoc]
  refine aw_congr e ?_
  exact h
theorem ce_7 {x0 x1 : AVal} {st : ASt} {r : AEnd × ASt} (h : ∀ g : Nat → AVal, g 0 = x0 → g 1 = x1 → Wp E 7 C7 (Sl 120 g) st (fun e ts st => aend E Tryd.f7 (some (e, ts, st)) = some r)) : rw E 7 [x0, x1] st = some r :=
  ce_of (fn := Tryd.f7) (c := C7) rfl rfl rfl (Nat.le_of_ble_eq_true rfl) fun g hg => h g (hg 0 x0 rfl) (hg 1 x1 rfl)
theorem cx_7 {x0 x1 : AVal} {st : ASt} {R : AEnd → ASt → Prop} (h : ∀ g : Nat → AVal, g 0 = x0 → g 1 = x1 → Wp E 7 C7 (Sl 120 g) st (fun e ts st => ∃ r st', aend E Tryd.f7 (some (e, ts, st)) = some (r, st') ∧ R r st')) : ∃ r st', rw E 7 [x0, x1] st = some (r, st') ∧ R r st' :=
  cx_of (fn := Tryd.f7) (c := C7) rfl rfl rfl (Nat.le_of_ble_eq_true rfl) fun g hg => h g (hg 0 x0 rfl) (hg 1 x1 rfl)

/-! ### braidwork/braidworklaw02.GaussRaw -/
noncomputable def C8 : Code := (code Tryd.f8)
noncomputable def S8_0 : Code := .seq ((code Tryd.f8).fst) (.seq ((code Tryd.f8).snd.fst.fst) (.seq ((code Tryd.f8).snd.fst.snd) (.seq ((code Tryd.f8).snd.snd.fst) (.seq ((code Tryd.f8).snd.snd.snd.fst) (.seq ((code Tryd.f8).snd.snd.snd.snd.fst) (.seq ((code Tryd.f8).snd.snd.snd.snd.snd.fst.fst) (.seq ((code Tryd.f8).snd.snd.snd.snd.snd.fst.snd.fst) (.seq ((code Tryd.f8).snd.snd.snd.snd.snd.fst.snd.snd) (.seq ((code Tryd.f8).snd.snd.snd.snd.snd.snd.fst) (.seq ((code Tryd.f8).snd.snd.snd.snd.snd.snd.snd.fst) (.seq ((code Tryd.f8).snd.snd.snd.snd.snd.snd.snd.snd.fst) (.seq ((code Tryd.f8).snd.snd.snd.snd.snd.snd.snd.snd.snd.fst) (.seq ((code Tryd.f8).snd.snd.snd.snd.snd.snd.snd.snd.snd.snd.fst) (.seq ((code Tryd.f8).snd.snd.snd.snd.snd.snd.snd.snd.snd.snd.snd.fst) ((code Tryd.f8).snd.snd.snd.snd.snd.snd.snd.snd.snd.snd.snd.snd)))))))))))))))
noncomputable def S8_0_e := (⟨by simp only [S8_0, code, Tryd.f8, Option.getD_some, Code.fst, Code.snd, Code.bin, Code.lin, Code.sin, Code.yes, Code.no]; exact rfl⟩ : PLift (S8_0 = _))
theorem C8_wp {ts : List AVal} {st : ASt} {Q : APost} (h : Wp E 8 S8_0 ts st Q) : Wp E 8 C8 ts st Q := by
  have e : ∀ n ts st, aexec E 8 (rw E) (drawB E 8) n C8 ts st = aexec E 8 (rw E) (drawB E 8) n (S8_0) ts st := by
    intro n ts st
    have e1 : C8 = (.seq (code Tryd.f8).fst (.seq (.seq (code Tryd.f8).snd.fst.fst (code Tryd.f8).snd.fst.snd) (.seq (code Tryd.f8).snd.snd.fst (.seq (code Tryd.f8).snd.snd.snd.fst (.seq (code Tryd.f8).snd.snd.snd.snd.fst (.seq (.seq (code Tryd.f8).snd.snd.snd.snd.snd.fst.fst (.seq (code Tryd.f8).snd.snd.snd.snd.snd.fst.snd.fst (code Tryd.f8).snd.snd.snd.snd.snd.fst.snd.snd)) (.seq (code Tryd.f8).snd.snd.snd.snd.snd.snd.fst (.seq (code Tryd.f8).snd.snd.snd.snd.snd.snd.snd.fst (.seq (code Tryd.f8).snd.snd.snd.snd.snd.snd.snd.snd.fst (.seq (code Tryd.f8).snd.snd.snd.snd.snd.snd.snd.snd.snd.fst (.seq (code Tryd.f8).snd.snd.snd.snd.snd.snd.snd.snd.snd.snd.fst (.seq (code Tryd.f8).snd.snd.snd.snd.snd.snd.snd.snd.snd.snd.snd.fst (code Tryd.f8).snd.snd.snd.snd.snd.snd.snd.snd.snd.snd.snd.snd)))))))))))) := rfl
    rw [e1]
    simp only [S8_0, aexec_seq, aseq_assoc]
  refine aw_congr e ?_
  exact h
theorem ce_8 {x0 x1 : AVal} {st : ASt} {r : AEnd × ASt} (h : ∀ g : Nat → AVal, g 0 = x0 → g 1 = x1 → Wp E 8 C8 (Sl 97 g) st (fun e ts st => aend E Tryd.f8 (some (e, ts, st)) = some r)) : rw E 8 [x0, x1] st = some r :=
  ce_of (fn := Tryd.f8) (c := C8) rfl rfl rfl (Nat.le_of_ble_eq_true rfl) fun g hg => h g (hg 0 x0 rfl) (hg 1 x1 rfl)
theorem cx_8 {x0 x1 : AVal} {st : ASt} {R : AEnd → ASt → Prop} (h : ∀ g : Nat → AVal, g 0 = x0 → g 1 = x1 → Wp E 8 C8 (Sl 97 g) st (fun e ts st => ∃ r st', aend E Tryd.f8 (some (e, ts, st)) = some (r, st') ∧ R r st')) : ∃ r st', rw E 8 [x0, x1] st = some (r, st') ∧ R r st' :=
  cx_of (fn := Tryd.f8) (c := C8) rfl rfl rfl (Nat.le_of_ble_eq_true rfl) fun g hg => h g (hg 0 x0 rfl) (hg 1 x1 rfl)
theorem o_eqb_4_neq (xo yo : Operand) (a b : Bool) : binA E.P .neq 4 xo yo (.lit (.bool a)) (.lit (.bool b)) = some (.lit (.bool (a != b))) := b_neb rfl
theorem cf_22 (a : List AVal) (st : ASt) : callFuncA E.P 22 a st = some (.enter 22 a st) := rfl

/-! ### braidwork/braidworklaw02.GaussRaw$1 -/
noncomputable def C19 : Code := (code Tryd.f19)
noncomputable def S19_0 : Code := .seq ((code Tryd.f19).fst) (.seq ((code Tryd.f19).snd.fst) ((code Tryd.f19).snd.snd))
noncomputable def S19_0_e := (⟨by simp only [S19_0, code, Tryd.f19, Option.getD_some, Code.fst, Code.snd, Code.bin, Code.lin, Code.sin, Code.yes, Code.no]; exact rfl⟩ : PLift (S19_0 = _))
theorem C19_wp {ts : List AVal} {st : ASt} {Q : APost} (h : Wp E 19 S19_0 ts st Q) : Wp E 19 C19 ts st Q := by
  have e : ∀ n ts st, aexec E 19 (rw E) (drawB E 19) n C19 ts st = aexec E 19 (rw E) (drawB E 19) n (S19_0) ts st := by
    intro n ts st
    have e1 : C19 = (.seq (code Tryd.f19).fst (.seq (code Tryd.f19).snd.fst (code Tryd.f19).snd.snd)) := rfl
    rw [e1]
    simp only [S19_0, aexec_seq, aseq_assoc]
  refine aw_congr e ?_
  exact h
theorem ce_19 {x0 : AVal} {st : ASt} {r : AEnd × ASt} (h : ∀ g : Nat → AVal, g 0 = x0 → Wp E 19 C19 (Sl 15 g) st (fun e ts st => aend E Tryd.f19 (some (e, ts, st)) = some r)) : rw E 19 [x0] st = some r :=
  ce_of (fn := Tryd.f19) (c := C19) rfl rfl rfl (Nat.le_of_ble_eq_true rfl) fun g hg => h g (hg 0 x0 rfl)
theorem cx_19 {x0 : AVal} {st : ASt} {R : AEnd → ASt → Prop} (h : ∀ g : Nat → AVal, g 0 = x0 → Wp E 19 C19 (Sl 15 g) st (fun e ts st => ∃ r st', aend E Tryd.f19 (some (e, ts, st)) = some (r, st') ∧ R r st')) : ∃ r st', rw E 19 [x0] st = some (r, st') ∧ R r st' :=
  cx_of (fn := Tryd.f19) (c := C19) rfl rfl rfl (Nat.le_of_ble_eq_true rfl) fun g hg => h g (hg 0 x0 rfl)
theorem cf_20 (a : List AVal) (st : ASt) : callFuncA E.P 20 a st = some (.enter 20 a st) := rfl

/-! ### math.Floor -/
noncomputable def C20 : Code := (code Tryd.f20)
noncomputable def S20_0 : Code := .seq ((code Tryd.f20).fst) (.seq ((code Tryd.f20).snd.fst) (.seq ((code Tryd.f20).snd.snd.fst) ((code Tryd.f20).snd.snd.snd)))
noncomputable def S20_0_e := (⟨by simp only [S20_0, code, Tryd.f20, Option.getD_some, Code.fst, Code.snd, Code.bin, Code.lin, Code.sin, Code.yes, Code.no]; exact rfl⟩ : PLift (S20_0 = _))
theorem C20_wp {ts : List AVal} {st : ASt} {Q : APost} (h : Wp E 20 S20_0 ts st Q) : Wp E 20 C20 ts st Q := by
  have e : ∀ n ts st, aexec E 20 (rw E) (drawB E 20) n C20 ts st = aexec E 20 (rw E) (drawB E 20) n (S20_0) ts st := by
    intro n ts st
    have e1 : C20 = (.seq (code Tryd.f20).fst (.seq (code Tryd.f20).snd.fst (.seq (code Tryd.f20).snd.snd.fst (code Tryd.f20).snd.snd.snd))) := rfl
    rw [e1]
    simp only [S20_0, aexec_seq, aseq_assoc]
  refine aw_congr e ?_
  exact h
theorem ce_20 {x0 : AVal} {st : ASt} {r : AEnd × ASt} (h : ∀ g : Nat → AVal, g 0 = x0 → Wp E 20 C20 (Sl 7 g) st (fun e ts st => aend E Tryd.f20 (some (e, ts, st)) = some r)) : rw E 20 [x0] st = some r :=
  ce_of (fn := Tryd.f20) (c := C20) rfl rfl rfl (Nat.le_of_ble_eq_true rfl) fun g hg => h g (hg 0 x0 rfl)
theorem cx_20 {x0 : AVal} {st : ASt} {R : AEnd → ASt → Prop} (h : ∀ g : Nat → AVal, g 0 = x0 → Wp E 20 C20 (Sl 7 g) st (fun e ts st => ∃ r st', aend E Tryd.f20 (some (e, ts, st)) = some (r, st') ∧ R r st')) : ∃ r st', rw E 20 [x0] st = some (r, st') ∧ R r st' :=
  cx_of (fn := Tryd.f20) (c := C20) rfl rfl rfl (Nat.le_of_ble_eq_true rfl) fun g hg => h g (hg 0 x0 rfl)
theorem cf_27 (a : List AVal) (st : ASt) : callFuncA E.P 27 a st = some (.enter 27 a st) := rfl

/-! ### internal/strconv.FormatInt -/
noncomputable def C40 : Code := (code Tryd.f40)
noncomputable def S40_0 : Code := .seq ((code Tryd.f40).fst) (.seq ((code Tryd.f40).snd.fst.fst) (.seq ((code Tryd.f40).snd.fst.snd) (.seq ((code Tryd.f40).snd.snd.fst) (.seq ((code Tryd.f40).snd.snd.snd.fst) ((code Tryd.f40).snd.snd.snd.snd)))))
noncomputable def S40_0_e := (⟨by simp only [S40_0, code, Tryd.f40, Option.getD_some, Code.fst, Code.snd, Code.bin, Code.lin, Code.sin, Code.yes, Code.no]; exact rfl⟩ : PLift (S40_0 = _))
theorem C40_wp {ts : List AVal} {st : ASt} {Q : APost} (h : Wp E 40 S40_0 ts st Q) : Wp E 40 C40 ts st Q := by
  have e : ∀ n ts st, aexec E 40 (rw E) (drawB E 40) n C40 ts st = aexec E 40 (rw E) (drawB E 40) n (S40_0) ts st := by
    intro n ts st
    have e1 : C40 = (.seq (code Tryd.f40).fst (.seq (.seq (code Tryd.f40).snd.fst.fst (code Tryd.f40).snd.fst.snd) (.seq (code Tryd.f40).snd.snd.fst (.seq (code Tryd.f40).snd.snd.snd.fst (code Tryd.f40).snd.snd.snd.snd)))) := rfl
    rw [e1]
    simp only [S40_0, aexec_seq, aseq_assoc]
  refine aw_congr e ?_
  exact h
theorem ce_40 {x0 x1 : AVal} {st : ASt} {r : AEnd × ASt} (h : ∀ g : Nat → AVal, g 0 = x0 → g 1 = x1 → Wp E 40 C40 (Sl 54 g) st (fun e ts st => aend E Tryd.f40 (some (e, ts, st)) = some r)) : rw E 40 [x0, x1] st = some r :=
  ce_of (fn := Tryd.f40) (c := C40) rfl rfl rfl (Nat.le_of_ble_eq_true rfl) fun g hg => h g (hg 0 x0 rfl) (hg 1 x1 rfl)
theorem cx_40 {x0 x1 : AVal} {st : ASt} {R : AEnd → ASt → Prop} (h : ∀ g : Nat → AVal, g 0 = x0 → g 1 = x1 → Wp E 40 C40 (Sl 54 g) st (fun e ts st => ∃ r st', aend E Tryd.f40 (some (e, ts, st)) = some (r, st') ∧ R r st')) : ∃ r st', rw E 40 [x0, x1] st = some (r, st') ∧ R r st' :=
  cx_of (fn := Tryd.f40) (c := C40) rfl rfl rfl (Nat.le_of_ble_eq_true rfl) fun g hg => h g (hg 0 x0 rfl) (hg 1 x1 rfl)
theorem cf_41 (a : List AVal) (st : ASt) : callFuncA E.P 41 a st = some (.enter 41 a st) := rfl
theorem o_al_53 (st : ASt) : allocA E.P 53 st = some (.ptr st.ctr 0, st.new (.cells [.lit (.int .u8 0), .lit (.int .u8 0), .lit (.int .u8 0), .lit (.int .u8 0), .lit (.int .u8 0), .lit (.int .u8 0), .lit (.int .u8 0), .lit (.int .u8 0), .lit (.int .u8 0), .lit (.int .u8 0), .lit (.int .u8 0), .lit (.int .u8 0), .lit (.int .u8 0), .lit (.int .u8 0), .lit (.int .u8 0), .lit (.int .u8 0), .lit (.int .u8 0), .lit (.int .u8 0), .lit (.int .u8 0), .lit (.int .u8 0), .lit (.int .u8 0), .lit (.int .u8 0), .lit (.int .u8 0), .lit (.int .u8 0)])) := rfl
theorem o_cv_2_36 (mt : Bool) (n : Int) (st : ASt) : convA E.P mt 2 36 (.lit (.int .i64 n)) st = some (.lit (.int .u64 (IntKind.u64.wrap n)), st) := c_int rfl rfl
theorem cf_42 (a : List AVal) (st : ASt) : callFuncA E.P 42 a st = some (.enter 42 a st) := rfl
theorem cf_43 (a : List AVal) (st : ASt) : callFuncA E.P 43 a st = some (.enter 43 a st) := rfl
theorem o_ixg_53 (cs : List AVal) (k : IntKind) (i : Int) : indexA E.P 53 (.iptr (.agg cs)) (.lit (.int k i)) = if 0 ≤ i ∧ i < (24 : Nat) then (cs[i.toNat * 1]?).map .iptr else none := rfl
theorem o_ixp_53 (s o : Nat) (k : IntKind) (i : Int) : indexA E.P 53 (.ptr s o) (.lit (.int k i)) = if 0 ≤ i ∧ i < (24 : Nat) then some (.ptr s (o + i.toNat * 1)) else none := rfl
theorem o_st_5 (st : ASt) (s o : Nat) (v : AVal) : storeA E.P 5 st (.ptr s o) v = if v.isCell = true then (blkOf (st.heap s)).bind (fun cs => if o + 1 ≤ cs.length then some (st.set s (some (.cells (cs.set o v)))) else none) else storeU E.P 5 st (.ptr s o) v := st_one rfl st s o v
theorem hint_40_39 : E.hint 40 39 = false := rfl
theorem hint_40_43 : E.hint 40 43 = false := rfl
theorem cf_44 (a : List AVal) (st : ASt) : callFuncA E.P 44 a st = some (.enter 44 a st) := rfl

/-! ### internal/strconv.small -/
noncomputable def C41 : Code := (code Tryd.f41)
noncomputable def S41_0 : Code := .seq ((code Tryd.f41).fst) (.seq ((code Tryd.f41).snd.fst.fst) (.seq ((code Tryd.f41).snd.fst.snd) (.seq ((code Tryd.f41).snd.snd.fst) ((code Tryd.f41).snd.snd.snd))))
noncomputable def S41_0_e := (⟨by simp only [S41_0, code, Tryd.f41, Option.getD_some, Code.fst, Code.snd, Code.bin, Code.lin, Code.sin, Code.yes, Code.no]; exact rfl⟩ : PLift (S41_0 = _))
theorem C41_wp {ts : List AVal} {st : ASt} {Q : APost} (h : Wp E 41 S41_0 ts st Q) : Wp E 41 C41 ts st Q := by
  have e : ∀ n ts st, aexec E 41 (rw E) (drawB E 41) n C41 ts st = aexec E 41 (rw E) (drawB E 41) n (S41_0) ts st := by
    intro n ts st
    have e1 : C41 = (.seq (code Tryd.f41).fst (.seq (.seq (code Tryd.f41).snd.fst.fst (code Tryd.f41).snd.fst.snd) (.seq (code Tryd.f41).snd.snd.fst (code Tryd.f41).snd.snd.snd))) := rfl
    rw [e1]
    simp only [S41_0, aexec_seq, aseq_assoc]
  refine aw_congr e ?_
  exact h
theorem ce_41 {x0 : AVal} {st : ASt} {r : AEnd × ASt} (h : ∀ g : Nat → AVal, g 0 = x0 → Wp E 41 C41 (Sl 15 g) st (fun e ts st => aend E Tryd.f41 (some (e, ts, st)) = some r)) : rw E 41 [x0] st = some r :=
  ce_of (fn := Tryd.f41) (c := C41) rfl rfl rfl (Nat.le_of_ble_eq_true rfl) fun g hg => h g (hg 0 x0 rfl)
theorem cx_41 {x0 : AVal} {st : ASt} {R : AEnd → ASt → Prop} (h : ∀ g : Nat → AVal, g 0 = x0 → Wp E 41 C41 (Sl 15 g) st (fun e ts st => ∃ r st', aend E Tryd.f41 (some (e, ts, st)) = some (r, st') ∧ R r st')) : ∃ r st', rw E 41 [x0] st = some (r, st') ∧ R r st' :=
  cx_of (fn := Tryd.f41) (c := C41) rfl rfl rfl (Nat.le_of_ble_eq_true rfl) fun g hg => h g (hg 0 x0 rfl)
theorem o_cut_9_lh {l : List UInt8} {k k2 : IntKind} {a b : Int} (h0 : 0 ≤ a) (h1 : a ≤ b) (h2 : b ≤ l.length) : pureV E.P (Instr.sliceAt 9 (.string ⟨l.toArray⟩) (some (.int k a)) (some (.int k2 b)) none) = some (.lit (.string ⟨((l.take b.toNat).drop a.toNat).toArray⟩)) := cut_lh rfl h0 h1 h2
theorem o_cut_9_l {l : List UInt8} {k : IntKind} {a : Int} (h0 : 0 ≤ a) (h1 : a ≤ l.length) : pureV E.P (Instr.sliceAt 9 (.string ⟨l.toArray⟩) (some (.int k a)) none none) = some (.lit (.string ⟨(l.drop a.toNat).toArray⟩)) := cut_l rfl h0 h1
theorem o_cut_9_h {l : List UInt8} {k : IntKind} {b : Int} (h0 : 0 ≤ b) (h1 : b ≤ l.length) : pureV E.P (Instr.sliceAt 9 (.string ⟨l.toArray⟩) none (some (.int k b)) none) = some (.lit (.string ⟨(l.take b.toNat).toArray⟩)) := cut_h rfl h0 h1

/-! ### internal/strconv.formatBits -/
noncomputable def C44 : Code := (code Tryd.f44)
noncomputable def S44_0 : Code := .seq ((code Tryd.f44).fst) (.seq ((code Tryd.f44).snd.fst.fst) (.seq ((code Tryd.f44).snd.fst.snd) (.seq ((code Tryd.f44).snd.snd.fst) (.seq ((code Tryd.f44).snd.snd.snd.fst) (.seq ((code Tryd.f44).snd.snd.snd.snd.fst.fst) (.seq ((code Tryd.f44).snd.snd.snd.snd.fst.snd) ((code Tryd.f44).snd.snd.snd.snd.snd.fst.fst)))))))
noncomputable def S44_0_e := (⟨by simp only [S44_0, code, Tryd.f44, Option.getD_some, Code.fst, Code.snd, Code.bin, Code.lin, Code.sin, Code.yes, Code.no]; exact rfl⟩ : PLift (S44_0 = _))
noncomputable def Y44_0 : Code := (code Tryd.f44).snd.snd.snd.snd.snd.fst.snd.yes
noncomputable def S44_1 : Code := .seq ((code Tryd.f44).snd.snd.snd.snd.snd.fst.snd.yes.fst) (.seq ((code Tryd.f44).snd.snd.snd.snd.snd.fst.snd.yes.snd.fst) ((code Tryd.f44).snd.snd.snd.snd.snd.fst.snd.yes.snd.snd.fst))
noncomputable def S44_1_e := (⟨by simp only [S44_1, code, Tryd.f44, Option.getD_some, Code.fst, Code.snd, Code.bin, Code.lin, Code.sin, Code.yes, Code.no]; exact rfl⟩ : PLift (S44_1 = _))
noncomputable def L44_1 : Code := (code Tryd.f44).snd.snd.snd.snd.snd.fst.snd.yes.snd.snd.snd.fst.bin.lin
noncomputable def S44_2 : Code := .seq ((code Tryd.f44).snd.snd.snd.snd.snd.fst.snd.yes.snd.snd.snd.fst.bin.lin.fst.fst) (.seq ((code Tryd.f44).snd.snd.snd.snd.snd.fst.snd.yes.snd.snd.snd.fst.bin.lin.fst.snd) ((code Tryd.f44).snd.snd.snd.snd.snd.fst.snd.yes.snd.snd.snd.fst.bin.lin.snd))
noncomputable def S44_2_e := (⟨by simp only [S44_2, code, Tryd.f44, Option.getD_some, Code.fst, Code.snd, Code.bin, Code.lin, Code.sin, Code.yes, Code.no]; exact rfl⟩ : PLift (S44_2 = _))
theorem L44_1_wp {ts : List AVal} {st : ASt} {Q : APost} (h : Wp E 44 S44_2 ts st Q) : Wp E 44 L44_1 ts st Q := by
  have e : ∀ n ts st, aexec E 44 (rw E) (drawB E 44) n L44_1 ts st = aexec E 44 (rw E) (drawB E 44) n (S44_2) ts st := by
    intro n ts st
    have e1 : L44_1 = (.seq (.seq (code Tryd.f44).snd.snd.snd.snd.snd.fst.snd.yes.snd.snd.snd.fst.bin.lin.fst.fst (code Tryd.f44).snd.snd.snd.snd.snd.fst.snd.yes.snd.snd.snd.fst.bin.lin.fst.snd) (code Tryd.f44).snd.snd.snd.snd.snd.fst.snd.yes.snd.snd.snd.fst.bin.lin.snd) := rfl
    rw [e1]
    simp only [S44_2, aexec_seq, aseq_assoc]
  refine aw_congr e ?_
  exact h
noncomputable def S44_3 : Code := .seq ((code Tryd.f44).snd.snd.snd.snd.snd.fst.snd.yes.snd.snd.snd.snd.fst) ((code Tryd.f44).snd.snd.snd.snd.snd.fst.snd.yes.snd.snd.snd.snd.snd)
noncomputable def S44_3_e := (⟨by simp only [S44_3, code, Tryd.f44, Option.getD_some, Code.fst, Code.snd, Code.bin, Code.lin, Code.sin, Code.yes, Code.no]; exact rfl⟩ : PLift (S44_3 = _))
theorem Y44_0_wp {ts : List AVal} {st : ASt} {Q : APost} (h : Wp E 44 S44_1 ts st (Nx (fun ts st => Wp E 44 (.block 0 (.loop L44_1)) ts st (Nx (fun ts st => Wp E 44 S44_3 ts st Q) Q)) Q)) : Wp E 44 Y44_0 ts st Q := by
  have e : ∀ n ts st, aexec E 44 (rw E) (drawB E 44) n Y44_0 ts st = aexec E 44 (rw E) (drawB E 44) n (.seq S44_1 (.seq (.block 0 (.loop L44_1)) (S44_3))) ts st := by
    intro n ts st
    have e1 : Y44_0 = (.seq (code Tryd.f44).snd.snd.snd.snd.snd.fst.snd.yes.fst (.seq (code Tryd.f44).snd.snd.snd.snd.snd.fst.snd.yes.snd.fst (.seq (code Tryd.f44).snd.snd.snd.snd.snd.fst.snd.yes.snd.snd.fst (.seq (.block 0 (.loop L44_1)) (.seq (code Tryd.f44).snd.snd.snd.snd.snd.fst.snd.yes.snd.snd.snd.snd.fst (code Tryd.f44).snd.snd.snd.snd.snd.fst.snd.yes.snd.snd.snd.snd.snd))))) := rfl
    rw [e1]
    simp only [S44_1, S44_3, aexec_seq, aseq_assoc]
  refine aw_congr e ?_
  have h0 := h
  exact aw_seq (h0.mono fun e ts st hq => by cases e <;> first | exact hq | (have h1 := hq; exact aw_seq h1))
noncomputable def N44_0 : Code := (code Tryd.f44).snd.snd.snd.snd.snd.fst.snd.no
noncomputable def S44_4 : Code := (code Tryd.f44).snd.snd.snd.snd.snd.fst.snd.no.fst
noncomputable def S44_4_e := (⟨by simp only [S44_4, code, Tryd.f44, Option.getD_some, Code.fst, Code.snd, Code.bin, Code.lin, Code.sin, Code.yes, Code.no]; exact rfl⟩ : PLift (S44_4 = _))
noncomputable def L44_2 : Code := (code Tryd.f44).snd.snd.snd.snd.snd.fst.snd.no.snd.fst.bin.lin
noncomputable def S44_5 : Code := .seq ((code Tryd.f44).snd.snd.snd.snd.snd.fst.snd.no.snd.fst.bin.lin.fst.fst) (.seq ((code Tryd.f44).snd.snd.snd.snd.snd.fst.snd.no.snd.fst.bin.lin.fst.snd) ((code Tryd.f44).snd.snd.snd.snd.snd.fst.snd.no.snd.fst.bin.lin.snd))
noncomputable def S44_5_e := (⟨by simp only [S44_5, code, Tryd.f44, Option.getD_some, Code.fst, Code.snd, Code.bin, Code.lin, Code.sin, Code.yes, Code.no]; exact rfl⟩ : PLift (S44_5 = _))
theorem L44_2_wp {ts : List AVal} {st : ASt} {Q : APost} (h : Wp E 44 S44_5 ts st Q) : Wp E 44 L44_2 ts st Q := by
  have e : ∀ n ts st, aexec E 44 (rw E) (drawB E 44) n L44_2 ts st = aexec E 44 (rw E) (drawB E 44) n (S44_5) ts st := by
    intro n ts st
    have e1 : L44_2 = (.seq (.seq (code Tryd.f44).snd.snd.snd.snd.snd.fst.snd.no.snd.fst.bin.lin.fst.fst (code Tryd.f44).snd.snd.snd.snd.snd.fst.snd.no.snd.fst.bin.lin.fst.snd) (code Tryd.f44).snd.snd.snd.snd.snd.fst.snd.no.snd.fst.bin.lin.snd) := rfl
    rw [e1]
    simp only [S44_5, aexec_seq, aseq_assoc]
  refine aw_congr e ?_
  exact h
noncomputable def S44_6 : Code := .seq ((code Tryd.f44).snd.snd.snd.snd.snd.fst.snd.no.snd.snd.fst) ((code Tryd.f44).snd.snd.snd.snd.snd.fst.snd.no.snd.snd.snd)
noncomputable def S44_6_e := (⟨by simp only [S44_6, code, Tryd.f44, Option.getD_some, Code.fst, Code.snd, Code.bin, Code.lin, Code.sin, Code.yes, Code.no]; exact rfl⟩ : PLift (S44_6 = _))
theorem N44_0_wp {ts : List AVal} {st : ASt} {Q : APost} (h : Wp E 44 S44_4 ts st (Nx (fun ts st => Wp E 44 (.block 2 (.loop L44_2)) ts st (Nx (fun ts st => Wp E 44 S44_6 ts st Q) Q)) Q)) : Wp E 44 N44_0 ts st Q := by
  have e : ∀ n ts st, aexec E 44 (rw E) (drawB E 44) n N44_0 ts st = aexec E 44 (rw E) (drawB E 44) n (.seq S44_4 (.seq (.block 2 (.loop L44_2)) (S44_6))) ts st := by
    intro n ts st
    have e1 : N44_0 = (.seq (code Tryd.f44).snd.snd.snd.snd.snd.fst.snd.no.fst (.seq (.block 2 (.loop L44_2)) (.seq (code Tryd.f44).snd.snd.snd.snd.snd.fst.snd.no.snd.snd.fst (code Tryd.f44).snd.snd.snd.snd.snd.fst.snd.no.snd.snd.snd))) := rfl
    rw [e1]
    simp only [S44_4, S44_6, aexec_seq, aseq_assoc]
  refine aw_congr e ?_
  have h0 := h
  exact aw_seq (h0.mono fun e ts st hq => by cases e <;> first | exact hq | (have h1 := hq; exact aw_seq h1))
noncomputable def S44_7 : Code := .seq ((code Tryd.f44).snd.snd.snd.snd.snd.snd.fst.fst) (.seq ((code Tryd.f44).snd.snd.snd.snd.snd.snd.fst.snd) (.seq ((code Tryd.f44).snd.snd.snd.snd.snd.snd.snd.fst.fst) (.seq ((code Tryd.f44).snd.snd.snd.snd.snd.snd.snd.fst.snd) (.seq ((code Tryd.f44).snd.snd.snd.snd.snd.snd.snd.snd.fst) ((code Tryd.f44).snd.snd.snd.snd.snd.snd.snd.snd.snd)))))
noncomputable def S44_7_e := (⟨by simp only [S44_7, code, Tryd.f44, Option.getD_some, Code.fst, Code.snd, Code.bin, Code.lin, Code.sin, Code.yes, Code.no]; exact rfl⟩ : PLift (S44_7 = _))
theorem C44_wp {ts : List AVal} {st : ASt} {Q : APost} (h : Wp E 44 S44_0 ts st (Nx (fun ts st => Wp E 44 (.cond (.tmp 34) Y44_0 N44_0) ts st (Nx (fun ts st => Wp E 44 S44_7 ts st Q) Q)) Q)) : Wp E 44 C44 ts st Q := by
  have e : ∀ n ts st, aexec E 44 (rw E) (drawB E 44) n C44 ts st = aexec E 44 (rw E) (drawB E 44) n (.seq S44_0 (.seq (.cond (.tmp 34) Y44_0 N44_0) (S44_7))) ts st := by
    intro n ts st
    have e1 : C44 = (.seq (code Tryd.f44).fst (.seq (.seq (code Tryd.f44).snd.fst.fst (code Tryd.f44).snd.fst.snd) (.seq (code Tryd.f44).snd.snd.fst (.seq (code Tryd.f44).snd.snd.snd.fst (.seq (.seq (code Tryd.f44).snd.snd.snd.snd.fst.fst (code Tryd.f44).snd.snd.snd.snd.fst.snd) (.seq (.seq (code Tryd.f44).snd.snd.snd.snd.snd.fst.fst (.cond (.tmp 34) Y44_0 N44_0)) (.seq (.seq (code Tryd.f44).snd.snd.snd.snd.snd.snd.fst.fst (code Tryd.f44).snd.snd.snd.snd.snd.snd.fst.snd) (.seq (.seq (code Tryd.f44).snd.snd.snd.snd.snd.snd.snd.fst.fst (code Tryd.f44).snd.snd.snd.snd.snd.snd.snd.fst.snd) (.seq (code Tryd.f44).snd.snd.snd.snd.snd.snd.snd.snd.fst (code Tryd.f44).snd.snd.snd.snd.snd.snd.snd.snd.snd))))))))) := rfl
    rw [e1]
    simp only [S44_0, S44_7, aexec_seq, aseq_assoc]
  refine aw_congr e ?_
  have h0 := h
  exact aw_seq (h0.mono fun e ts st hq => by cases e <;> first | exact hq | (have h1 := hq; exact aw_seq h1))
theorem ce_44 {x0 x1 x2 x3 x4 : AVal} {st : ASt} {r : AEnd × ASt} (h : ∀ g : Nat → AVal, g 0 = x0 → g 1 = x1 → g 2 = x2 → g 3 = x3 → g 4 = x4 → Wp E 44 C44 (Sl 102 g) st (fun e ts st => aend E Tryd.f44 (some (e, ts, st)) = some r)) : rw E 44 [x0, x1, x2, x3, x4] st = some r :=
  ce_of (fn := Tryd.f44) (c := C44) rfl rfl rfl (Nat.le_of_ble_eq_true rfl) fun g hg => h g (hg 0 x0 rfl) (hg 1 x1 rfl) (hg 2 x2 rfl) (hg 3 x3 rfl) (hg 4 x4 rfl)
theorem cx_44 {x0 x1 x2 x3 x4 : AVal} {st : ASt} {R : AEnd → ASt → Prop} (h : ∀ g : Nat → AVal, g 0 = x0 → g 1 = x1 → g 2 = x2 → g 3 = x3 → g 4 = x4 → Wp E 44 C44 (Sl 102 g) st (fun e ts st => ∃ r st', aend E Tryd.f44 (some (e, ts, st)) = some (r, st') ∧ R r st')) : ∃ r st', rw E 44 [x0, x1, x2, x3, x4] st = some (r, st') ∧ R r st' :=
  cx_of (fn := Tryd.f44) (c := C44) rfl rfl rfl (Nat.le_of_ble_eq_true rfl) fun g hg => h g (hg 0 x0 rfl) (hg 1 x1 rfl) (hg 2 x2 rfl) (hg 3 x3 rfl) (hg 4 x4 rfl)
theorem o_al_63 (st : ASt) : allocA E.P 63 st = some (.ptr st.ctr 0, st.new (.cells [.lit (.int .u8 0), .lit (.int .u8 0), .lit (.int .u8 0), .lit (.int .u8 0), .lit (.int .u8 0), .lit (.int .u8 0), .lit (.int .u8 0), .lit (.int .u8 0), .lit (.int .u8 0), .lit (.int .u8 0), .lit (.int .u8 0), .lit (.int .u8 0), .lit (.int .u8 0), .lit (.int .u8 0), .lit (.int .u8 0), .lit (.int .u8 0), .lit (.int .u8 0), .lit (.int .u8 0), .lit (.int .u8 0), .lit (.int .u8 0), .lit (.int .u8 0), .lit (.int .u8 0), .lit (.int .u8 0), .lit (.int .u8 0), .lit (.int .u8 0), .lit (.int .u8 0), .lit (.int .u8 0), .lit (.int .u8 0), .lit (.int .u8 0), .lit (.int .u8 0), .lit (.int .u8 0), .lit (.int .u8 0), .lit (.int .u8 0), .lit (.int .u8 0), .lit (.int .u8 0), .lit (.int .u8 0), .lit (.int .u8 0), .lit (.int .u8 0), .lit (.int .u8 0), .lit (.int .u8 0), .lit (.int .u8 0), .lit (.int .u8 0), .lit (.int .u8 0), .lit (.int .u8 0), .lit (.int .u8 0), .lit (.int .u8 0), .lit (.int .u8 0), .lit (.int .u8 0), .lit (.int .u8 0), .lit (.int .u8 0), .lit (.int .u8 0), .lit (.int .u8 0), .lit (.int .u8 0), .lit (.int .u8 0), .lit (.int .u8 0), .lit (.int .u8 0), .lit (.int .u8 0), .lit (.int .u8 0), .lit (.int .u8 0), .lit (.int .u8 0), .lit (.int .u8 0), .lit (.int .u8 0), .lit (.int .u8 0), .lit (.int .u8 0), .lit (.int .u8 0)])) := rfl
theorem cf_48 (a : List AVal) (st : ASt) : callFuncA E.P 48 a st = some (.enter 48 a st) := rfl
theorem o_cv_3_51 (mt : Bool) (n : Int) (st : ASt) : convA E.P mt 3 51 (.lit (.int .i64 n)) st = some (.lit (.int .u64 (IntKind.u64.wrap n)), st) := c_int rfl rfl
theorem cf_49 (a : List AVal) (st : ASt) : callFuncA E.P 49 a st = some (.enter 49 a st) := rfl
theorem o_cv_3_36 (mt : Bool) (n : Int) (st : ASt) : convA E.P mt 3 36 (.lit (.int .i64 n)) st = some (.lit (.int .u64 (IntKind.u64.wrap n)), st) := c_int rfl rfl
theorem o_ixt_9 {l : List UInt8} {k : IntKind} {i : Int} (h0 : 0 ≤ i) (h1 : i < l.length) : pureV E.P (Instr.index 9 (.string ⟨l.toArray⟩) (.int k i)) = some (.lit (.int .u8 ((l[i.toNat]'(by omega)).toNat : Int))) := ix_str rfl h0 h1
theorem o_ixg_63 (cs : List AVal) (k : IntKind) (i : Int) : indexA E.P 63 (.iptr (.agg cs)) (.lit (.int k i)) = if 0 ≤ i ∧ i < (65 : Nat) then (cs[i.toNat * 1]?).map .iptr else none := rfl
theorem o_ixp_63 (s o : Nat) (k : IntKind) (i : Int) : indexA E.P 63 (.ptr s o) (.lit (.int k i)) = if 0 ≤ i ∧ i < (65 : Nat) then some (.ptr s (o + i.toNat * 1)) else none := rfl
theorem hint_44_98 : E.hint 44 98 = false := rfl
theorem slt_56 : SlT E.P 56 5 false 1 := ⟨rfl, rfl, ⟨_, _, rfl, rfl, by decide, rfl, rfl⟩, by decide⟩
theorem hint_44_101 : E.hint 44 101 = false := rfl

/-! ### internal/strconv.formatBase10 -/
noncomputable def C43 : Code := (code Tryd.f43)
noncomputable def S43_0 : Code := (code Tryd.f43).fst
noncomputable def S43_0_e := (⟨by simp only [S43_0, code, Tryd.f43, Option.getD_some, Code.fst, Code.snd, Code.bin, Code.lin, Code.sin, Code.yes, Code.no]; exact rfl⟩ : PLift (S43_0 = _))
noncomputable def L43_0 : Code := (code Tryd.f43).snd.fst.bin.lin
noncomputable def rg43_7 : Code := (code Tryd.f43).snd.fst.bin.lin.snd.bin.snd.snd.snd.snd.snd.fst
noncomputable def rq43_7 : Code := (code Tryd.f43).snd.fst.bin.lin.snd.bin.snd.snd.snd.snd.snd.fst
theorem ex43_7 (call : ACall) (n : Nat) (ts : List AVal) (st : ASt) : aexec E 43 call (drawB E 43) n rg43_7 ts st = aopsP E 43 call rq43_7.ops [.one 0 [], .one 1 [], .one 2 [], .one 3 [], .one 4 [], .one 5 [], .one 6 [], .one 7 [], .one 8 [], .one 9 [], .one 10 [], .one 11 [], .one 12 [10], .one 13 [], .one 14 []] ts st := by
  have d : drawB E 43 rq43_7.ops = false := by kernel_rfl
  have d2 : drawPlan E 43 rq43_7.ops = some [.one 0 [], .one 1 [], .one 2 [], .one 3 [], .one 4 [], .one 5 [], .one 6 [], .one 7 [], .one 8 [], .one 9 [], .one 10 [], .one 11 [], .one 12 [10], .one 13 [], .one 14 []] := by kernel_rfl
  have e : rg43_7 = .region 7 rq43_7.ops true := rfl
  rw [e, aexec, d, d2]; rfl
noncomputable def rq43_7_e := (⟨by simp only [rq43_7, code, Tryd.f43, Option.getD_some, Code.fst, Code.snd, Code.bin, Code.lin, Code.sin, Code.yes, Code.no, Code.ops]; exact rfl⟩ : PLift (rq43_7.ops = _))
noncomputable def rg43_8 : Code := (code Tryd.f43).snd.fst.bin.lin.snd.bin.snd.snd.snd.snd.snd.snd.fst
noncomputable def rq43_8 : Code := (code Tryd.f43).snd.fst.bin.lin.snd.bin.snd.snd.snd.snd.snd.snd.fst
theorem ex43_8 (call : ACall) (n : Nat) (ts : List AVal) (st : ASt) : aexec E 43 call (drawB E 43) n rg43_8 ts st = aopsP E 43 call rq43_8.ops [.one 0 [], .one 1 [], .one 2 [], .one 3 [], .one 4 [], .one 5 [], .one 6 [], .one 7 [], .one 8 [], .one 9 [], .one 10 [], .one 11 [], .one 12 [10], .one 13 [], .one 14 []] ts st := by
  have d : drawB E 43 rq43_8.ops = false := by kernel_rfl
  have d2 : drawPlan E 43 rq43_8.ops = some [.one 0 [], .one 1 [], .one 2 [], .one 3 [], .one 4 [], .one 5 [], .one 6 [], .one 7 [], .one 8 [], .one 9 [], .one 10 [], .one 11 [], .one 12 [10], .one 13 [], .one 14 []] := by kernel_rfl
  have e : rg43_8 = .region 8 rq43_8.ops true := rfl
  rw [e, aexec, d, d2]; rfl
noncomputable def rq43_8_e := (⟨by simp only [rq43_8, code, Tryd.f43, Option.getD_some, Code.fst, Code.snd, Code.bin, Code.lin, Code.sin, Code.yes, Code.no, Code.ops]; exact rfl⟩ : PLift (rq43_8.ops = _))
noncomputable def rg43_9 : Code := (code Tryd.f43).snd.fst.bin.lin.snd.bin.snd.snd.snd.snd.snd.snd.snd.fst
noncomputable def rq43_9 : Code := (code Tryd.f43).snd.fst.bin.lin.snd.bin.snd.snd.snd.snd.snd.snd.snd.fst
theorem ex43_9 (call : ACall) (n : Nat) (ts : List AVal) (st : ASt) : aexec E 43 call (drawB E 43) n rg43_9 ts st = aopsP E 43 call rq43_9.ops [.one 0 [], .one 1 [], .one 2 [], .one 3 [], .one 4 [], .one 5 [], .one 6 [], .one 7 [], .one 8 [], .one 9 [], .one 10 [], .one 11 [], .one 12 [10], .one 13 [], .one 14 []] ts st := by
  have d : drawB E 43 rq43_9.ops = false := by kernel_rfl
  have d2 : drawPlan E 43 rq43_9.ops = some [.one 0 [], .one 1 [], .one 2 [], .one 3 [], .one 4 [], .one 5 [], .one 6 [], .one 7 [], .one 8 [], .one 9 [], .one 10 [], .one 11 [], .one 12 [10], .one 13 [], .one 14 []] := by kernel_rfl
  have e : rg43_9 = .region 9 rq43_9.ops true := rfl
  rw [e, aexec, d, d2]; rfl
noncomputable def rq43_9_e := (⟨by simp only [rq43_9, code, Tryd.f43, Option.getD_some, Code.fst, Code.snd, Code.bin, Code.lin, Code.sin, Code.yes, Code.no, Code.ops]; exact rfl⟩ : PLift (rq43_9.ops = _))
noncomputable def rg43_10 : Code := (code Tryd.f43).snd.fst.bin.lin.snd.bin.snd.snd.snd.snd.snd.snd.snd.snd.fst
noncomputable def rq43_10 : Code := (code Tryd.f43).snd.fst.bin.lin.snd.bin.snd.snd.snd.snd.snd.snd.snd.snd.fst
theorem ex43_10 (call : ACall) (n : Nat) (ts : List AVal) (st : ASt) : aexec E 43 call (drawB E 43) n rg43_10 ts st = aopsP E 43 call rq43_10.ops [.one 0 [], .one 1 [], .one 2 [], .one 3 [], .one 4 [], .one 5 [], .one 6 [], .one 7 [], .one 8 [], .one 9 [], .one 10 [], .one 11 [], .one 12 [10], .one 13 [], .one 14 []] ts st := by
  have d : drawB E 43 rq43_10.ops = false := by kernel_rfl
  have d2 : drawPlan E 43 rq43_10.ops = some [.one 0 [], .one 1 [], .one 2 [], .one 3 [], .one 4 [], .one 5 [], .one 6 [], .one 7 [], .one 8 [], .one 9 [], .one 10 [], .one 11 [], .one 12 [10], .one 13 [], .one 14 []] := by kernel_rfl
  have e : rg43_10 = .region 10 rq43_10.ops true := rfl
  rw [e, aexec, d, d2]; rfl
noncomputable def rq43_10_e := (⟨by simp only [rq43_10, code, Tryd.f43, Option.getD_some, Code.fst, Code.snd, Code.bin, Code.lin, Code.sin, Code.yes, Code.no, Code.ops]; exact rfl⟩ : PLift (rq43_10.ops = _))
noncomputable def S43_1 : Code := .seq ((code Tryd.f43).snd.fst.bin.lin.fst.fst) (.seq ((code Tryd.f43).snd.fst.bin.lin.fst.snd) (.block 1 (.seq (code Tryd.f43).snd.fst.bin.lin.snd.bin.fst (.seq (code Tryd.f43).snd.fst.bin.lin.snd.bin.snd.fst (.seq (code Tryd.f43).snd.fst.bin.lin.snd.bin.snd.snd.fst (.seq (code Tryd.f43).snd.fst.bin.lin.snd.bin.snd.snd.snd.fst (.seq (code Tryd.f43).snd.fst.bin.lin.snd.bin.snd.snd.snd.snd.fst (.seq rg43_7 (.seq rg43_8 (.seq rg43_9 (.seq rg43_10 (code Tryd.f43).snd.fst.bin.lin.snd.bin.snd.snd.snd.snd.snd.snd.snd.snd.snd)))))))))))
noncomputable def S43_1_e := (⟨by simp only [S43_1, code, Tryd.f43, Option.getD_some, Code.fst, Code.snd, Code.bin, Code.lin, Code.sin, Code.yes, Code.no]; exact rfl⟩ : PLift (S43_1 = _))
theorem L43_0_wp {ts : List AVal} {st : ASt} {Q : APost} (h : Wp E 43 S43_1 ts st Q) : Wp E 43 L43_0 ts st Q := by
  have e : ∀ n ts st, aexec E 43 (rw E) (drawB E 43) n L43_0 ts st = aexec E 43 (rw E) (drawB E 43) n (S43_1) ts st := by
    intro n ts st
    have e1 : L43_0 = (.seq (.seq (code Tryd.f43).snd.fst.bin.lin.fst.fst (code Tryd.f43).snd.fst.bin.lin.fst.snd) (.block 1 (.seq (code Tryd.f43).snd.fst.bin.lin.snd.bin.fst (.seq (code Tryd.f43).snd.fst.bin.lin.snd.bin.snd.fst (.seq (code Tryd.f43).snd.fst.bin.lin.snd.bin.snd.snd.fst (.seq (code Tryd.f43).snd.fst.bin.lin.snd.bin.snd.snd.snd.fst (.seq (code Tryd.f43).snd.fst.bin.lin.snd.bin.snd.snd.snd.snd.fst (.seq rg43_7 (.seq rg43_8 (.seq rg43_9 (.seq rg43_10 (code Tryd.f43).snd.fst.bin.lin.snd.bin.snd.snd.snd.snd.snd.snd.snd.snd.snd))))))))))) := rfl
    rw [e1]
    simp only [S43_1, aexec_seq, aseq_assoc]
  refine aw_congr e ?_
  exact h
noncomputable def rg43_17 : Code := (code Tryd.f43).snd.snd.snd.fst.snd.yes.snd.snd.snd.fst
noncomputable def rq43_17 : Code := (code Tryd.f43).snd.snd.snd.fst.snd.yes.snd.snd.snd.fst
theorem ex43_17 (call : ACall) (n : Nat) (ts : List AVal) (st : ASt) : aexec E 43 call (drawB E 43) n rg43_17 ts st = aopsP E 43 call rq43_17.ops [.one 0 [], .one 1 [], .one 2 [], .one 3 [], .one 4 [], .one 5 [], .one 6 [], .one 7 [], .one 8 [], .one 9 [], .one 10 [], .one 11 [], .one 12 [10], .one 13 [], .one 14 []] ts st := by
  have d : drawB E 43 rq43_17.ops = false := by kernel_rfl
  have d2 : drawPlan E 43 rq43_17.ops = some [.one 0 [], .one 1 [], .one 2 [], .one 3 [], .one 4 [], .one 5 [], .one 6 [], .one 7 [], .one 8 [], .one 9 [], .one 10 [], .one 11 [], .one 12 [10], .one 13 [], .one 14 []] := by kernel_rfl
  have e : rg43_17 = .region 17 rq43_17.ops true := rfl
  rw [e, aexec, d, d2]; rfl
noncomputable def rq43_17_e := (⟨by simp only [rq43_17, code, Tryd.f43, Option.getD_some, Code.fst, Code.snd, Code.bin, Code.lin, Code.sin, Code.yes, Code.no, Code.ops]; exact rfl⟩ : PLift (rq43_17.ops = _))
noncomputable def rg43_18 : Code := (code Tryd.f43).snd.snd.snd.fst.snd.yes.snd.snd.snd.snd.fst
noncomputable def rq43_18 : Code := (code Tryd.f43).snd.snd.snd.fst.snd.yes.snd.snd.snd.snd.fst
theorem ex43_18 (call : ACall) (n : Nat) (ts : List AVal) (st : ASt) : aexec E 43 call (drawB E 43) n rg43_18 ts st = aopsP E 43 call rq43_18.ops [.one 0 [], .one 1 [], .one 2 [], .one 3 [], .one 4 [], .one 5 [], .one 6 [], .one 7 [], .one 8 [], .one 9 [], .one 10 [], .one 11 [], .one 12 [10], .one 13 [], .one 14 []] ts st := by
  have d : drawB E 43 rq43_18.ops = false := by kernel_rfl
  have d2 : drawPlan E 43 rq43_18.ops = some [.one 0 [], .one 1 [], .one 2 [], .one 3 [], .one 4 [], .one 5 [], .one 6 [], .one 7 [], .one 8 [], .one 9 [], .one 10 [], .one 11 [], .one 12 [10], .one 13 [], .one 14 []] := by kernel_rfl
  have e : rg43_18 = .region 18 rq43_18.ops true := rfl
  rw [e, aexec, d, d2]; rfl
noncomputable def rq43_18_e := (⟨by simp only [rq43_18, code, Tryd.f43, Option.getD_some, Code.fst, Code.snd, Code.bin, Code.lin, Code.sin, Code.yes, Code.no, Code.ops]; exact rfl⟩ : PLift (rq43_18.ops = _))
noncomputable def rg43_23 : Code := (code Tryd.f43).snd.snd.snd.snd.fst.snd.yes.snd.snd.fst
noncomputable def rq43_23 : Code := (code Tryd.f43).snd.snd.snd.snd.fst.snd.yes.snd.snd.fst
theorem ex43_23 (call : ACall) (n : Nat) (ts : List AVal) (st : ASt) : aexec E 43 call (drawB E 43) n rg43_23 ts st = aopsP E 43 call rq43_23.ops [.one 0 [], .one 1 [], .one 2 [], .one 3 [], .one 4 [], .one 5 [], .one 6 [], .one 7 [], .one 8 [], .one 9 [], .one 10 [], .one 11 [], .one 12 [10], .one 13 [], .one 14 []] ts st := by
  have d : drawB E 43 rq43_23.ops = false := by kernel_rfl
  have d2 : drawPlan E 43 rq43_23.ops = some [.one 0 [], .one 1 [], .one 2 [], .one 3 [], .one 4 [], .one 5 [], .one 6 [], .one 7 [], .one 8 [], .one 9 [], .one 10 [], .one 11 [], .one 12 [10], .one 13 [], .one 14 []] := by kernel_rfl
  have e : rg43_23 = .region 23 rq43_23.ops true := rfl
  rw [e, aexec, d, d2]; rfl
noncomputable def rq43_23_e := (⟨by simp only [rq43_23, code, Tryd.f43, Option.getD_some, Code.fst, Code.snd, Code.bin, Code.lin, Code.sin, Code.yes, Code.no, Code.ops]; exact rfl⟩ : PLift (rq43_23.ops = _))
noncomputable def S43_2 : Code := .seq ((code Tryd.f43).snd.snd.fst) (.seq ((code Tryd.f43).snd.snd.snd.fst.fst) (.seq (.cond (.tmp 99) (.seq (code Tryd.f43).snd.snd.snd.fst.snd.yes.fst (.seq (code Tryd.f43).snd.snd.snd.fst.snd.yes.snd.fst (.seq (code Tryd.f43).snd.snd.snd.fst.snd.yes.snd.snd.fst (.seq rg43_17 (.seq rg43_18 (code Tryd.f43).snd.snd.snd.fst.snd.yes.snd.snd.snd.snd.snd))))) (code Tryd.f43).snd.snd.snd.fst.snd.no) (.seq ((code Tryd.f43).snd.snd.snd.snd.fst.fst) (.seq (.cond (.tmp 139) (.seq (code Tryd.f43).snd.snd.snd.snd.fst.snd.yes.fst (.seq (code Tryd.f43).snd.snd.snd.snd.fst.snd.yes.snd.fst (.seq rg43_23 (code Tryd.f43).snd.snd.snd.snd.fst.snd.yes.snd.snd.snd))) (code Tryd.f43).snd.snd.snd.snd.fst.snd.no) (.seq ((code Tryd.f43).snd.snd.snd.snd.snd.fst) ((code Tryd.f43).snd.snd.snd.snd.snd.snd))))))
noncomputable def S43_2_e := (⟨by simp only [S43_2, code, Tryd.f43, Option.getD_some, Code.fst, Code.snd, Code.bin, Code.lin, Code.sin, Code.yes, Code.no]; exact rfl⟩ : PLift (S43_2 = _))
theorem C43_wp {ts : List AVal} {st : ASt} {Q : APost} (h : Wp E 43 S43_0 ts st (Nx (fun ts st => Wp E 43 (.block 0 (.loop L43_0)) ts st (Nx (fun ts st => Wp E 43 S43_2 ts st Q) Q)) Q)) : Wp E 43 C43 ts st Q := by
  have e : ∀ n ts st, aexec E 43 (rw E) (drawB E 43) n C43 ts st = aexec E 43 (rw E) (drawB E 43) n (.seq S43_0 (.seq (.block 0 (.loop L43_0)) (S43_2))) ts st := by
    intro n ts st
    have e1 : C43 = (.seq (code Tryd.f43).fst (.seq (.block 0 (.loop L43_0)) (.seq (code Tryd.f43).snd.snd.fst (.seq (.seq (code Tryd.f43).snd.snd.snd.fst.fst (.cond (.tmp 99) (.seq (code Tryd.f43).snd.snd.snd.fst.snd.yes.fst (.seq (code Tryd.f43).snd.snd.snd.fst.snd.yes.snd.fst (.seq (code Tryd.f43).snd.snd.snd.fst.snd.yes.snd.snd.fst (.seq rg43_17 (.seq rg43_18 (code Tryd.f43).snd.snd.snd.fst.snd.yes.snd.snd.snd.snd.snd))))) (code Tryd.f43).snd.snd.snd.fst.snd.no)) (.seq (.seq (code Tryd.f43).snd.snd.snd.snd.fst.fst (.cond (.tmp 139) (.seq (code Tryd.f43).snd.snd.snd.snd.fst.snd.yes.fst (.seq (code Tryd.f43).snd.snd.snd.snd.fst.snd.yes.snd.fst (.seq rg43_23 (code Tryd.f43).snd.snd.snd.snd.fst.snd.yes.snd.snd.snd))) (code Tryd.f43).snd.snd.snd.snd.fst.snd.no)) (.seq (code Tryd.f43).snd.snd.snd.snd.snd.fst (code Tryd.f43).snd.snd.snd.snd.snd.snd)))))) := rfl
    rw [e1]
    simp only [S43_0, S43_2, aexec_seq, aseq_assoc]
  refine aw_congr e ?_
  have h0 := h
  exact aw_seq (h0.mono fun e ts st hq => by cases e <;> first | exact hq | (have h1 := hq; exact aw_seq h1))
theorem ce_43 {x0 x1 : AVal} {st : ASt} {r : AEnd × ASt} (h : ∀ g : Nat → AVal, g 0 = x0 → g 1 = x1 → Wp E 43 C43 (Sl 167 g) st (fun e ts st => aend E Tryd.f43 (some (e, ts, st)) = some r)) : rw E 43 [x0, x1] st = some r :=
  ce_of (fn := Tryd.f43) (c := C43) rfl rfl rfl (Nat.le_of_ble_eq_true rfl) fun g hg => h g (hg 0 x0 rfl) (hg 1 x1 rfl)
theorem cx_43 {x0 x1 : AVal} {st : ASt} {R : AEnd → ASt → Prop} (h : ∀ g : Nat → AVal, g 0 = x0 → g 1 = x1 → Wp E 43 C43 (Sl 167 g) st (fun e ts st => ∃ r st', aend E Tryd.f43 (some (e, ts, st)) = some (r, st') ∧ R r st')) : ∃ r st', rw E 43 [x0, x1] st = some (r, st') ∧ R r st' :=
  cx_of (fn := Tryd.f43) (c := C43) rfl rfl rfl (Nat.le_of_ble_eq_true rfl) fun g hg => h g (hg 0 x0 rfl) (hg 1 x1 rfl)
theorem o_leni_56 (mt : Bool) (ty : TypeId) (cs : Array Bool) (sz : Nat) (es : List AVal) (c : Cap) (st : ASt) : builtinA E.P mt .len #[56] ty cs [.islice sz es c] st = some (.val (.lit (.int .i64 es.length)) st) := rfl
theorem o_lens_56 (mt : Bool) (ty : TypeId) (cs : Array Bool) (s o l sz : Nat) (c : Option Nat) (st : ASt) : builtinA E.P mt .len #[56] ty cs [.slice s o l sz c] st = some (.val (.lit (.int .i64 l)) st) := rfl
theorem o_lenn_56 (mt : Bool) (ty : TypeId) (cs : Array Bool) (a : Option Addr) (st : ASt) : builtinA E.P mt .len #[56] ty cs [.lit (.slice a 0 0)] st = some (.val (.lit (.int .i64 0)) st) := len_nil rfl _ _ _ _ _
theorem o_cv_36_62 (mt : Bool) (n : Int) (st : ASt) : convA E.P mt 36 62 (.lit (.int .u64 n)) st = some (.lit (.int .u32 (IntKind.u32.wrap n)), st) := c_int rfl rfl
theorem o_ixi_56 (sz : Nat) (es : List AVal) (c : Cap) (k : IntKind) (i : Int) : indexA E.P 56 (.islice sz es c) (.lit (.int k i)) = if 0 ≤ i ∧ i < es.length ∧ some 1 = some sz then (es[i.toNat]?).map .iptr else none := rfl
theorem o_ixs_56 (s o l sz : Nat) (c : Option Nat) (k : IntKind) (i : Int) : indexA E.P 56 (.slice s o l sz c) (.lit (.int k i)) = if 0 ≤ i ∧ i < l then some (.ptr s (o + i.toNat * 1)) else none := rfl
theorem o_cv_62_5 (mt : Bool) (n : Int) (st : ASt) : convA E.P mt 62 5 (.lit (.int .u32 n)) st = some (.lit (.int .u8 (IntKind.u8.wrap n)), st) := c_int rfl rfl

/-! ### internal/strconv.numDigits -/
noncomputable def C42 : Code := (code Tryd.f42)
noncomputable def S42_0 : Code := .seq ((code Tryd.f42).fst) (.seq ((code Tryd.f42).snd.fst) (.seq ((code Tryd.f42).snd.snd.fst) ((code Tryd.f42).snd.snd.snd)))
noncomputable def S42_0_e := (⟨by simp only [S42_0, code, Tryd.f42, Option.getD_some, Code.fst, Code.snd, Code.bin, Code.lin, Code.sin, Code.yes, Code.no]; exact rfl⟩ : PLift (S42_0 = _))
theorem C42_wp {ts : List AVal} {st : ASt} {Q : APost} (h : Wp E 42 S42_0 ts st Q) : Wp E 42 C42 ts st Q := by
  have e : ∀ n ts st, aexec E 42 (rw E) (drawB E 42) n C42 ts st = aexec E 42 (rw E) (drawB E 42) n (S42_0) ts st := by
    intro n ts st
    have e1 : C42 = (.seq (code Tryd.f42).fst (.seq (code Tryd.f42).snd.fst (.seq (code Tryd.f42).snd.snd.fst (code Tryd.f42).snd.snd.snd))) := rfl
    rw [e1]
    simp only [S42_0, aexec_seq, aseq_assoc]
  refine aw_congr e ?_
  exact h
theorem ce_42 {x0 : AVal} {st : ASt} {r : AEnd × ASt} (h : ∀ g : Nat → AVal, g 0 = x0 → Wp E 42 C42 (Sl 15 g) st (fun e ts st => aend E Tryd.f42 (some (e, ts, st)) = some r)) : rw E 42 [x0] st = some r :=
  ce_of (fn := Tryd.f42) (c := C42) rfl rfl rfl (Nat.le_of_ble_eq_true rfl) fun g hg => h g (hg 0 x0 rfl)
theorem cx_42 {x0 : AVal} {st : ASt} {R : AEnd → ASt → Prop} (h : ∀ g : Nat → AVal, g 0 = x0 → Wp E 42 C42 (Sl 15 g) st (fun e ts st => ∃ r st', aend E Tryd.f42 (some (e, ts, st)) = some (r, st') ∧ R r st')) : ∃ r st', rw E 42 [x0] st = some (r, st') ∧ R r st' :=
  cx_of (fn := Tryd.f42) (c := C42) rfl rfl rfl (Nat.le_of_ble_eq_true rfl) fun g hg => h g (hg 0 x0 rfl)
theorem cf_46 (a : List AVal) (st : ASt) : callFuncA E.P 46 a st = some (.enter 46 a st) := rfl
theorem cf_45 (a : List AVal) (st : ASt) : callFuncA E.P 45 a st = some (.enter 45 a st) := rfl
theorem glob_1 : E.glob 1 = some (.iptr (.agg [.lit (.int .u64 1), .lit (.int .u64 10), .lit (.int .u64 100), .lit (.int .u64 1000), .lit (.int .u64 10000), .lit (.int .u64 100000), .lit (.int .u64 1000000), .lit (.int .u64 10000000), .lit (.int .u64 100000000), .lit (.int .u64 1000000000), .lit (.int .u64 10000000000), .lit (.int .u64 100000000000), .lit (.int .u64 1000000000000), .lit (.int .u64 10000000000000), .lit (.int .u64 100000000000000), .lit (.int .u64 1000000000000000), .lit (.int .u64 10000000000000000), .lit (.int .u64 100000000000000000), .lit (.int .u64 1000000000000000000), .lit (.int .u64 10000000000000000000)])) := rfl
theorem o_ixg_61 (cs : List AVal) (k : IntKind) (i : Int) : indexA E.P 61 (.iptr (.agg cs)) (.lit (.int k i)) = if 0 ≤ i ∧ i < (20 : Nat) then (cs[i.toNat * 1]?).map .iptr else none := rfl
theorem o_ixp_61 (s o : Nat) (k : IntKind) (i : Int) : indexA E.P 61 (.ptr s o) (.lit (.int k i)) = if 0 ≤ i ∧ i < (20 : Nat) then some (.ptr s (o + i.toNat * 1)) else none := rfl
theorem o_ldp_36 (st : ASt) (s o : Nat) : loadA E.P 36 st (.ptr s o) = (blkOf (st.heap s)).bind (fun cs => cs[o]?) := ld_one rfl rfl st s o
theorem o_ldi_36 (st : ASt) (v : AVal) : loadA E.P 36 st (.iptr v) = if v.isCell = true then some v else none := rfl
theorem cf_47 (a : List AVal) (st : ASt) : callFuncA E.P 47 a st = some (.enter 47 a st) := rfl

/-! ### internal/strconv.log10Pow2 -/
noncomputable def C45 : Code := (code Tryd.f45)
noncomputable def S45_0 : Code := .seq ((code Tryd.f45).fst) (.seq ((code Tryd.f45).snd.fst) ((code Tryd.f45).snd.snd))
noncomputable def S45_0_e := (⟨by simp only [S45_0, code, Tryd.f45, Option.getD_some, Code.fst, Code.snd, Code.bin, Code.lin, Code.sin, Code.yes, Code.no]; exact rfl⟩ : PLift (S45_0 = _))
theorem C45_wp {ts : List AVal} {st : ASt} {Q : APost} (h : Wp E 45 S45_0 ts st Q) : Wp E 45 C45 ts st Q := by
  have e : ∀ n ts st, aexec E 45 (rw E) (drawB E 45) n C45 ts st = aexec E 45 (rw E) (drawB E 45) n (S45_0) ts st := by
    intro n ts st
    have e1 : C45 = (.seq (code Tryd.f45).fst (.seq (code Tryd.f45).snd.fst (code Tryd.f45).snd.snd)) := rfl
    rw [e1]
    simp only [S45_0, aexec_seq, aseq_assoc]
  refine aw_congr e ?_
  exact h
theorem ce_45 {x0 : AVal} {st : ASt} {r : AEnd × ASt} (h : ∀ g : Nat → AVal, g 0 = x0 → Wp E 45 C45 (Sl 6 g) st (fun e ts st => aend E Tryd.f45 (some (e, ts, st)) = some r)) : rw E 45 [x0] st = some r :=
  ce_of (fn := Tryd.f45) (c := C45) rfl rfl rfl (Nat.le_of_ble_eq_true rfl) fun g hg => h g (hg 0 x0 rfl)
theorem cx_45 {x0 : AVal} {st : ASt} {R : AEnd → ASt → Prop} (h : ∀ g : Nat → AVal, g 0 = x0 → Wp E 45 C45 (Sl 6 g) st (fun e ts st => ∃ r st', aend E Tryd.f45 (some (e, ts, st)) = some (r, st') ∧ R r st')) : ∃ r st', rw E 45 [x0] st = some (r, st') ∧ R r st' :=
  cx_of (fn := Tryd.f45) (c := C45) rfl rfl rfl (Nat.le_of_ble_eq_true rfl) fun g hg => h g (hg 0 x0 rfl)

/-! ### math/bits.Len64 -/
noncomputable def C46 : Code := (code Tryd.f46)
noncomputable def S46_0 : Code := .seq ((code Tryd.f46).fst) (.seq ((code Tryd.f46).snd.fst.fst) (.seq ((code Tryd.f46).snd.fst.snd) (.seq ((code Tryd.f46).snd.snd.fst.fst) (.seq ((code Tryd.f46).snd.snd.fst.snd) (.seq ((code Tryd.f46).snd.snd.snd.fst.fst) (.seq ((code Tryd.f46).snd.snd.snd.fst.snd) (.seq ((code Tryd.f46).snd.snd.snd.snd.fst) ((code Tryd.f46).snd.snd.snd.snd.snd))))))))
noncomputable def S46_0_e := (⟨by simp only [S46_0, code, Tryd.f46, Option.getD_some, Code.fst, Code.snd, Code.bin, Code.lin, Code.sin, Code.yes, Code.no]; exact rfl⟩ : PLift (S46_0 = _))
theorem C46_wp {ts : List AVal} {st : ASt} {Q : APost} (h : Wp E 46 S46_0 ts st Q) : Wp E 46 C46 ts st Q := by
  have e : ∀ n ts st, aexec E 46 (rw E) (drawB E 46) n C46 ts st = aexec E 46 (rw E) (drawB E 46) n (S46_0) ts st := by
    intro n ts st
    have e1 : C46 = (.seq (code Tryd.f46).fst (.seq (.seq (code Tryd.f46).snd.fst.fst (code Tryd.f46).snd.fst.snd) (.seq (.seq (code Tryd.f46).snd.snd.fst.fst (code Tryd.f46).snd.snd.fst.snd) (.seq (.seq (code Tryd.f46).snd.snd.snd.fst.fst (code Tryd.f46).snd.snd.snd.fst.snd) (.seq (code Tryd.f46).snd.snd.snd.snd.fst (code Tryd.f46).snd.snd.snd.snd.snd))))) := rfl
    rw [e1]
    simp only [S46_0, aexec_seq, aseq_assoc]
  refine aw_congr e ?_
  exact h
theorem ce_46 {x0 : AVal} {st : ASt} {r : AEnd × ASt} (h : ∀ g : Nat → AVal, g 0 = x0 → Wp E 46 C46 (Sl 25 g) st (fun e ts st => aend E Tryd.f46 (some (e, ts, st)) = some r)) : rw E 46 [x0] st = some r :=
  ce_of (fn := Tryd.f46) (c := C46) rfl rfl rfl (Nat.le_of_ble_eq_true rfl) fun g hg => h g (hg 0 x0 rfl)
theorem cx_46 {x0 : AVal} {st : ASt} {R : AEnd → ASt → Prop} (h : ∀ g : Nat → AVal, g 0 = x0 → Wp E 46 C46 (Sl 25 g) st (fun e ts st => ∃ r st', aend E Tryd.f46 (some (e, ts, st)) = some (r, st') ∧ R r st')) : ∃ r st', rw E 46 [x0] st = some (r, st') ∧ R r st' :=
  cx_of (fn := Tryd.f46) (c := C46) rfl rfl rfl (Nat.le_of_ble_eq_true rfl) fun g hg => h g (hg 0 x0 rfl)
theorem o_cv_36_5 (mt : Bool) (n : Int) (st : ASt) : convA E.P mt 36 5 (.lit (.int .u64 n)) st = some (.lit (.int .u8 (IntKind.u8.wrap n)), st) := c_int rfl rfl
theorem o_cv_5_3 (mt : Bool) (n : Int) (st : ASt) : convA E.P mt 5 3 (.lit (.int .u8 n)) st = some (.lit (.int .i64 (IntKind.i64.wrap n)), st) := c_int rfl rfl

/-! ### internal/strconv.bool2[int] -/
noncomputable def C47 : Code := (code Tryd.f47)
noncomputable def S47_0 : Code := .seq ((code Tryd.f47).fst) (.seq ((code Tryd.f47).snd.fst.fst) (.seq ((code Tryd.f47).snd.fst.snd) (.seq ((code Tryd.f47).snd.snd.fst) ((code Tryd.f47).snd.snd.snd))))
noncomputable def S47_0_e := (⟨by simp only [S47_0, code, Tryd.f47, Option.getD_some, Code.fst, Code.snd, Code.bin, Code.lin, Code.sin, Code.yes, Code.no]; exact rfl⟩ : PLift (S47_0 = _))
theorem C47_wp {ts : List AVal} {st : ASt} {Q : APost} (h : Wp E 47 S47_0 ts st Q) : Wp E 47 C47 ts st Q := by
  have e : ∀ n ts st, aexec E 47 (rw E) (drawB E 47) n C47 ts st = aexec E 47 (rw E) (drawB E 47) n (S47_0) ts st := by
    intro n ts st
    have e1 : C47 = (.seq (code Tryd.f47).fst (.seq (.seq (code Tryd.f47).snd.fst.fst (code Tryd.f47).snd.fst.snd) (.seq (code Tryd.f47).snd.snd.fst (code Tryd.f47).snd.snd.snd))) := rfl
    rw [e1]
    simp only [S47_0, aexec_seq, aseq_assoc]
  refine aw_congr e ?_
  exact h
theorem ce_47 {x0 : AVal} {st : ASt} {r : AEnd × ASt} (h : ∀ g : Nat → AVal, g 0 = x0 → Wp E 47 C47 (Sl 4 g) st (fun e ts st => aend E Tryd.f47 (some (e, ts, st)) = some r)) : rw E 47 [x0] st = some r :=
  ce_of (fn := Tryd.f47) (c := C47) rfl rfl rfl (Nat.le_of_ble_eq_true rfl) fun g hg => h g (hg 0 x0 rfl)
theorem cx_47 {x0 : AVal} {st : ASt} {R : AEnd → ASt → Prop} (h : ∀ g : Nat → AVal, g 0 = x0 → Wp E 47 C47 (Sl 4 g) st (fun e ts st => ∃ r st', aend E Tryd.f47 (some (e, ts, st)) = some (r, st') ∧ R r st')) : ∃ r st', rw E 47 [x0] st = some (r, st') ∧ R r st' :=
  cx_of (fn := Tryd.f47) (c := C47) rfl rfl rfl (Nat.le_of_ble_eq_true rfl) fun g hg => h g (hg 0 x0 rfl)
end Go.Proofs.YtingncadiolajaaDoorV
