/- What walks through these functions need: pieces of their code, single operations reckoned. No condition. -/
import Derived.Test.YtlpdplchcpkajaaDoorEA
import Derived.Test.YtlpdplchcpkajaaDoorAF
import Derived.Test.YtlpdplchcpkajaaDoorST
namespace Go.Proofs.YtlpdplchcpkajaaDoorV
open Go Go.RowKit Go.Proofs.YtlpdplchcpkajaaDoorA
set_option linter.unusedVariables false
set_option linter.unusedSimpArgs false
set_option maxRecDepth 100000

/-! ### braidwork/gauss.Parse -/
noncomputable def C51 : Code := (code Tryd.f51)
noncomputable def S51_0 : Code := .seq ((code Tryd.f51).fst) (.seq ((code Tryd.f51).snd.fst) (.seq ((code Tryd.f51).snd.snd.fst.fst) (.seq ((code Tryd.f51).snd.snd.fst.snd) (.seq ((code Tryd.f51).snd.snd.snd.fst) (.seq ((code Tryd.f51).snd.snd.snd.snd.fst.fst) (.seq ((code Tryd.f51).snd.snd.snd.snd.fst.snd) (.seq ((code Tryd.f51).snd.snd.snd.snd.snd.fst) (.seq ((code Tryd.f51).snd.snd.snd.snd.snd.snd.fst) (.seq ((code Tryd.f51).snd.snd.snd.snd.snd.snd.snd.fst.fst) (.seq ((code Tryd.f51).snd.snd.snd.snd.snd.snd.snd.fst.snd) (.seq ((code Tryd.f51).snd.snd.snd.snd.snd.snd.snd.snd.fst) ((code Tryd.f51).snd.snd.snd.snd.snd.snd.snd.snd.snd))))))))))))
noncomputable def S51_0_e := (⟨by simp only [S51_0, code, Tryd.f51, Option.getD_some, Code.fst, Code.snd, Code.bin, Code.lin, Code.sin, Code.yes, Code.no]; exact rfl⟩ : PLift (S51_0 = _))
theorem C51_wp {ts : List AVal} {st : ASt} {Q : APost} (h : Wp E 51 S51_0 ts st Q) : Wp E 51 C51 ts st Q := by
  have e : ∀ n ts st, aexec E 51 (rw E) (drawB E 51) n C51 ts st = aexec E 51 (rw E) (drawB E 51) n (S51_0) ts st := by
    intro n ts st
    have e1 : C51 = (.seq (code Tryd.f51).fst (.seq (code Tryd.f51).snd.fst (.seq (.seq (code Tryd.f51).snd.snd.fst.fst (code Tryd.f51).snd.snd.fst.snd) (.seq (code Tryd.f51).snd.snd.snd.fst (.seq (.seq (code Tryd.f51).snd.snd.snd.snd.fst.fst (code Tryd.f51).snd.snd.snd.snd.fst.snd) (.seq (code Tryd.f51).snd.snd.snd.snd.snd.fst (.seq (code Tryd.f51).snd.snd.snd.snd.snd.snd.fst (.seq (.seq (code Tryd.f51).snd.snd.snd.snd.snd.snd.snd.fst.fst (code Tryd.f51).snd.snd.snd.snd.snd.snd.snd.fst.snd) (.seq (code Tryd.f51).snd.snd.snd.snd.snd.snd.snd.snd.fst (code Tryd.f51).snd.snd.snd.snd.snd.snd.snd.snd.snd))))))))) := rfl
    rw [e1] <;>
    simp only [S51_0, aexec_seq, aseq_assoc]
  refine aw_congr e ?_
  exact h
theorem ce_51 {x0 : AVal} {st : ASt} {r : AEnd × ASt} (h : ∀ g : Nat → AVal, g 0 = x0 → Wp E 51 C51 (Sl 81 g) st (fun e ts st => aend E Tryd.f51 (some (e, ts, st)) = some r)) : rw E 51 [x0] st = some r :=
  ce_of (fn := Tryd.f51) (c := C51) rfl rfl rfl (Nat.le_of_ble_eq_true rfl) fun g hg => h g (hg 0 x0 rfl)
theorem cx_51 {x0 : AVal} {st : ASt} {R : AEnd → ASt → Prop} (h : ∀ g : Nat → AVal, g 0 = x0 → Wp E 51 C51 (Sl 81 g) st (fun e ts st => ∃ r st', aend E Tryd.f51 (some (e, ts, st)) = some (r, st') ∧ R r st')) : ∃ r st', rw E 51 [x0] st = some (r, st') ∧ R r st' :=
  cx_of (fn := Tryd.f51) (c := C51) rfl rfl rfl (Nat.le_of_ble_eq_true rfl) fun g hg => h g (hg 0 x0 rfl)
theorem cf_69 (a : List AVal) (st : ASt) : callFuncA E.P 69 a st = some (.enter 69 a st) := rfl
theorem cf_70 (a : List AVal) (st : ASt) : callFuncA E.P 70 a st = some (.enter 70 a st) := rfl
theorem cf_71 (a : List AVal) (st : ASt) : callFuncA E.P 71 a st = some (.enter 71 a st) := rfl
theorem o_cut_9_lh {l : List UInt8} {k k2 : IntKind} {a b : Int} (h0 : 0 ≤ a) (h1 : a ≤ b) (h2 : b ≤ l.length) : pureV E.P (Instr.sliceAt 9 (.string ⟨l.toArray⟩) (some (.int k a)) (some (.int k2 b)) none) = some (.lit (.string ⟨((l.take b.toNat).drop a.toNat).toArray⟩)) := cut_lh rfl h0 h1 h2
theorem o_cut_9_l {l : List UInt8} {k : IntKind} {a : Int} (h0 : 0 ≤ a) (h1 : a ≤ l.length) : pureV E.P (Instr.sliceAt 9 (.string ⟨l.toArray⟩) (some (.int k a)) none none) = some (.lit (.string ⟨(l.drop a.toNat).toArray⟩)) := cut_l rfl h0 h1
theorem o_cut_9_h {l : List UInt8} {k : IntKind} {b : Int} (h0 : 0 ≤ b) (h1 : b ≤ l.length) : pureV E.P (Instr.sliceAt 9 (.string ⟨l.toArray⟩) none (some (.int k b)) none) = some (.lit (.string ⟨(l.take b.toNat).toArray⟩)) := cut_h rfl h0 h1
theorem cf_72 (a : List AVal) (st : ASt) : callFuncA E.P 72 a st = some (.enter 72 a st) := rfl
theorem cf_46 (a : List AVal) (st : ASt) : callFuncA E.P 46 a st = some (.enter 46 a st) := rfl

/-! ### braidwork/gauss.part -/
noncomputable def C83 : Code := (code Tryd.f83)
noncomputable def S83_0 : Code := .seq ((code Tryd.f83).fst) (.seq ((code Tryd.f83).snd.fst) ((code Tryd.f83).snd.snd))
noncomputable def S83_0_e := (⟨by simp only [S83_0, code, Tryd.f83, Option.getD_some, Code.fst, Code.snd, Code.bin, Code.lin, Code.sin, Code.yes, Code.no]; exact rfl⟩ : PLift (S83_0 = _))
theorem C83_wp {ts : List AVal} {st : ASt} {Q : APost} (h : Wp E 83 S83_0 ts st Q) : Wp E 83 C83 ts st Q := by
  have e : ∀ n ts st, aexec E 83 (rw E) (drawB E 83) n C83 ts st = aexec E 83 (rw E) (drawB E 83) n (S83_0) ts st := by
    intro n ts st
    have e1 : C83 = (.seq (code Tryd.f83).fst (.seq (code Tryd.f83).snd.fst (code Tryd.f83).snd.snd)) := rfl
    rw [e1] <;>
    simp only [S83_0, aexec_seq, aseq_assoc]
  refine aw_congr e ?_
  exact h
theorem ce_83 {x0 : AVal} {st : ASt} {r : AEnd × ASt} (h : ∀ g : Nat → AVal, g 0 = x0 → Wp E 83 C83 (Sl 12 g) st (fun e ts st => aend E Tryd.f83 (some (e, ts, st)) = some r)) : rw E 83 [x0] st = some r :=
  ce_of (fn := Tryd.f83) (c := C83) rfl rfl rfl (Nat.le_of_ble_eq_true rfl) fun g hg => h g (hg 0 x0 rfl)
theorem cx_83 {x0 : AVal} {st : ASt} {R : AEnd → ASt → Prop} (h : ∀ g : Nat → AVal, g 0 = x0 → Wp E 83 C83 (Sl 12 g) st (fun e ts st => ∃ r st', aend E Tryd.f83 (some (e, ts, st)) = some (r, st') ∧ R r st')) : ∃ r st', rw E 83 [x0] st = some (r, st') ∧ R r st' :=
  cx_of (fn := Tryd.f83) (c := C83) rfl rfl rfl (Nat.le_of_ble_eq_true rfl) fun g hg => h g (hg 0 x0 rfl)
theorem cf_96 (a : List AVal) (st : ASt) : callFuncA E.P 96 a st = some (.enter 96 a st) := rfl
theorem cf_97 (a : List AVal) (st : ASt) : callFuncA E.P 97 a st = some (.enter 97 a st) := rfl

/-! ### braidwork/gauss.whole -/
noncomputable def C70 : Code := (code Tryd.f70)
noncomputable def S70_0 : Code := .seq ((code Tryd.f70).fst) (.seq ((code Tryd.f70).snd.fst) (.seq ((code Tryd.f70).snd.snd.fst) ((code Tryd.f70).snd.snd.snd)))
noncomputable def S70_0_e := (⟨by simp only [S70_0, code, Tryd.f70, Option.getD_some, Code.fst, Code.snd, Code.bin, Code.lin, Code.sin, Code.yes, Code.no]; exact rfl⟩ : PLift (S70_0 = _))
theorem C70_wp {ts : List AVal} {st : ASt} {Q : APost} (h : Wp E 70 S70_0 ts st Q) : Wp E 70 C70 ts st Q := by
  have e : ∀ n ts st, aexec E 70 (rw E) (drawB E 70) n C70 ts st = aexec E 70 (rw E) (drawB E 70) n (S70_0) ts st := by
    intro n ts st
    have e1 : C70 = (.seq (code Tryd.f70).fst (.seq (code Tryd.f70).snd.fst (.seq (code Tryd.f70).snd.snd.fst (code Tryd.f70).snd.snd.snd))) := rfl
    rw [e1] <;>
    simp only [S70_0, aexec_seq, aseq_assoc]
  refine aw_congr e ?_
  exact h
theorem ce_70 {x0 : AVal} {st : ASt} {r : AEnd × ASt} (h : ∀ g : Nat → AVal, g 0 = x0 → Wp E 70 C70 (Sl 26 g) st (fun e ts st => aend E Tryd.f70 (some (e, ts, st)) = some r)) : rw E 70 [x0] st = some r :=
  ce_of (fn := Tryd.f70) (c := C70) rfl rfl rfl (Nat.le_of_ble_eq_true rfl) fun g hg => h g (hg 0 x0 rfl)
theorem cx_70 {x0 : AVal} {st : ASt} {R : AEnd → ASt → Prop} (h : ∀ g : Nat → AVal, g 0 = x0 → Wp E 70 C70 (Sl 26 g) st (fun e ts st => ∃ r st', aend E Tryd.f70 (some (e, ts, st)) = some (r, st') ∧ R r st')) : ∃ r st', rw E 70 [x0] st = some (r, st') ∧ R r st' :=
  cx_of (fn := Tryd.f70) (c := C70) rfl rfl rfl (Nat.le_of_ble_eq_true rfl) fun g hg => h g (hg 0 x0 rfl)
theorem cf_86 (a : List AVal) (st : ASt) : callFuncA E.P 86 a st = some (.enter 86 a st) := rfl
theorem hint_70_12 : E.hint 70 12 = false := rfl
theorem cf_84 (a : List AVal) (st : ASt) : callFuncA E.P 84 a st = some (.enter 84 a st) := rfl
theorem hint_70_23 : E.hint 70 23 = false := rfl
theorem cf_83 (a : List AVal) (st : ASt) : callFuncA E.P 83 a st = some (.enter 83 a st) := rfl

/-! ### braidwork/braidworklaw03.LexPlaces -/
noncomputable def C9 : Code := (code Tryd.f9)
noncomputable def S9_0 : Code := .seq ((code Tryd.f9).fst) (.seq ((code Tryd.f9).snd.fst.fst) (.seq ((code Tryd.f9).snd.fst.snd) (.seq ((code Tryd.f9).snd.snd.fst.fst) (.seq ((code Tryd.f9).snd.snd.fst.snd) (.seq ((code Tryd.f9).snd.snd.snd.fst) (.seq ((code Tryd.f9).snd.snd.snd.snd.fst.fst) (.seq ((code Tryd.f9).snd.snd.snd.snd.fst.snd) (.seq ((code Tryd.f9).snd.snd.snd.snd.snd.fst) ((code Tryd.f9).snd.snd.snd.snd.snd.snd.fst.fst)))))))))
noncomputable def S9_0_e := (⟨by simp only [S9_0, code, Tryd.f9, Option.getD_some, Code.fst, Code.snd, Code.bin, Code.lin, Code.sin, Code.yes, Code.no]; exact rfl⟩ : PLift (S9_0 = _))
noncomputable def L9_0 : Code := (code Tryd.f9).snd.snd.snd.snd.snd.snd.fst.snd.bin.lin
noncomputable def rg9_12 : Code := (code Tryd.f9).snd.snd.snd.snd.snd.snd.fst.snd.bin.lin.snd.snd.fst.bin.snd.fst.fst
noncomputable def rq9_12 : Code := (code Tryd.f9).snd.snd.snd.snd.snd.snd.fst.snd.bin.lin.snd.snd.fst.bin.snd.fst.fst
theorem ex9_12 (call : ACall) (n : Nat) (ts : List AVal) (st : ASt) : aexec E 9 call (drawB E 9) n rg9_12 ts st = aops E 9 call rq9_12.ops rq9_12.ops.toList ts st := by
  have d : drawB E 9 rq9_12.ops = true := by kernel_rfl
  have e : rg9_12 = .region 12 rq9_12.ops true := rfl
  rw [e, aexec, d]; rfl
noncomputable def rq9_12_e := (⟨by simp only [rq9_12, code, Tryd.f9, Option.getD_some, Code.fst, Code.snd, Code.bin, Code.lin, Code.sin, Code.yes, Code.no, Code.ops]; exact rfl⟩ : PLift (rq9_12.ops = _))
noncomputable def S9_1 : Code := .seq ((code Tryd.f9).snd.snd.snd.snd.snd.snd.fst.snd.bin.lin.fst) (.seq ((code Tryd.f9).snd.snd.snd.snd.snd.snd.fst.snd.bin.lin.snd.fst) (.seq (.block 1 (.seq (code Tryd.f9).snd.snd.snd.snd.snd.snd.fst.snd.bin.lin.snd.snd.fst.bin.fst (.seq (.seq rg9_12 (code Tryd.f9).snd.snd.snd.snd.snd.snd.fst.snd.bin.lin.snd.snd.fst.bin.snd.fst.snd) (code Tryd.f9).snd.snd.snd.snd.snd.snd.fst.snd.bin.lin.snd.snd.fst.bin.snd.snd))) ((code Tryd.f9).snd.snd.snd.snd.snd.snd.fst.snd.bin.lin.snd.snd.snd)))
noncomputable def S9_1_e := (⟨by simp only [S9_1, code, Tryd.f9, Option.getD_some, Code.fst, Code.snd, Code.bin, Code.lin, Code.sin, Code.yes, Code.no]; exact rfl⟩ : PLift (S9_1 = _))
theorem L9_0_wp {ts : List AVal} {st : ASt} {Q : APost} (h : Wp E 9 S9_1 ts st Q) : Wp E 9 L9_0 ts st Q := by
  have e : ∀ n ts st, aexec E 9 (rw E) (drawB E 9) n L9_0 ts st = aexec E 9 (rw E) (drawB E 9) n (S9_1) ts st := by
    intro n ts st
    have e1 : L9_0 = (.seq (code Tryd.f9).snd.snd.snd.snd.snd.snd.fst.snd.bin.lin.fst (.seq (code Tryd.f9).snd.snd.snd.snd.snd.snd.fst.snd.bin.lin.snd.fst (.seq (.block 1 (.seq (code Tryd.f9).snd.snd.snd.snd.snd.snd.fst.snd.bin.lin.snd.snd.fst.bin.fst (.seq (.seq rg9_12 (code Tryd.f9).snd.snd.snd.snd.snd.snd.fst.snd.bin.lin.snd.snd.fst.bin.snd.fst.snd) (code Tryd.f9).snd.snd.snd.snd.snd.snd.fst.snd.bin.lin.snd.snd.fst.bin.snd.snd))) (code Tryd.f9).snd.snd.snd.snd.snd.snd.fst.snd.bin.lin.snd.snd.snd))) := rfl
    rw [e1] <;>
    simp only [S9_1, aexec_seq, aseq_assoc]
  refine aw_congr e ?_
  exact h
noncomputable def S9_2 : Code := .seq ((code Tryd.f9).snd.snd.snd.snd.snd.snd.snd.fst) ((code Tryd.f9).snd.snd.snd.snd.snd.snd.snd.snd)
noncomputable def S9_2_e := (⟨by simp only [S9_2, code, Tryd.f9, Option.getD_some, Code.fst, Code.snd, Code.bin, Code.lin, Code.sin, Code.yes, Code.no]; exact rfl⟩ : PLift (S9_2 = _))
theorem C9_wp {ts : List AVal} {st : ASt} {Q : APost} (h : Wp E 9 S9_0 ts st (Nx (fun ts st => Wp E 9 (.block 0 (.loop L9_0)) ts st (Nx (fun ts st => Wp E 9 S9_2 ts st Q) Q)) Q)) : Wp E 9 C9 ts st Q := by
  have e : ∀ n ts st, aexec E 9 (rw E) (drawB E 9) n C9 ts st = aexec E 9 (rw E) (drawB E 9) n (.seq S9_0 (.seq (.block 0 (.loop L9_0)) (S9_2))) ts st := by
    intro n ts st
    have e1 : C9 = (.seq (code Tryd.f9).fst (.seq (.seq (code Tryd.f9).snd.fst.fst (code Tryd.f9).snd.fst.snd) (.seq (.seq (code Tryd.f9).snd.snd.fst.fst (code Tryd.f9).snd.snd.fst.snd) (.seq (code Tryd.f9).snd.snd.snd.fst (.seq (.seq (code Tryd.f9).snd.snd.snd.snd.fst.fst (code Tryd.f9).snd.snd.snd.snd.fst.snd) (.seq (code Tryd.f9).snd.snd.snd.snd.snd.fst (.seq (.seq (code Tryd.f9).snd.snd.snd.snd.snd.snd.fst.fst (.block 0 (.loop L9_0))) (.seq (code Tryd.f9).snd.snd.snd.snd.snd.snd.snd.fst (code Tryd.f9).snd.snd.snd.snd.snd.snd.snd.snd)))))))) := rfl
    rw [e1] <;>
    simp only [S9_0, S9_2, aexec_seq, aseq_assoc]
  refine aw_congr e ?_
  have h0 := h
  exact aw_seq (h0.mono fun e ts st hq => by cases e <;> first | exact hq | (have h1 := hq; exact aw_seq h1))
theorem ce_9 {x0 : AVal} {st : ASt} {r : AEnd × ASt} (h : ∀ g : Nat → AVal, g 0 = x0 → Wp E 9 C9 (Sl 98 g) st (fun e ts st => aend E Tryd.f9 (some (e, ts, st)) = some r)) : rw E 9 [x0] st = some r :=
  ce_of (fn := Tryd.f9) (c := C9) rfl rfl rfl (Nat.le_of_ble_eq_true rfl) fun g hg => h g (hg 0 x0 rfl)
theorem cx_9 {x0 : AVal} {st : ASt} {R : AEnd → ASt → Prop} (h : ∀ g : Nat → AVal, g 0 = x0 → Wp E 9 C9 (Sl 98 g) st (fun e ts st => ∃ r st', aend E Tryd.f9 (some (e, ts, st)) = some (r, st') ∧ R r st')) : ∃ r st', rw E 9 [x0] st = some (r, st') ∧ R r st' :=
  cx_of (fn := Tryd.f9) (c := C9) rfl rfl rfl (Nat.le_of_ble_eq_true rfl) fun g hg => h g (hg 0 x0 rfl)
theorem cf_24 (a : List AVal) (st : ASt) : callFuncA E.P 24 a st = some (.enter 24 a st) := rfl
theorem o_lent_9 (mt : Bool) (ty : TypeId) (cs : Array Bool) (s : ByteArray) (st : ASt) : builtinA E.P mt .len #[9] ty cs [.lit (.string s)] st = some (.val (.lit (.int .i64 s.size)) st) := len_str rfl _ _ _ _ _
theorem cf_25 (a : List AVal) (st : ASt) : callFuncA E.P 25 a st = some (.enter 25 a st) := rfl
theorem o_leni_46 (mt : Bool) (ty : TypeId) (cs : Array Bool) (sz : Nat) (es : List AVal) (c : Cap) (st : ASt) : builtinA E.P mt .len #[46] ty cs [.islice sz es c] st = some (.val (.lit (.int .i64 es.length)) st) := rfl
theorem o_lens_46 (mt : Bool) (ty : TypeId) (cs : Array Bool) (s o l sz : Nat) (c : Option Nat) (st : ASt) : builtinA E.P mt .len #[46] ty cs [.slice s o l sz c] st = some (.val (.lit (.int .i64 l)) st) := rfl
theorem o_lenn_46 (mt : Bool) (ty : TypeId) (cs : Array Bool) (a : Option Addr) (st : ASt) : builtinA E.P mt .len #[46] ty cs [.lit (.slice a 0 0)] st = some (.val (.lit (.int .i64 0)) st) := len_nil rfl _ _ _ _ _
theorem o_ixi_46 (sz : Nat) (es : List AVal) (c : Cap) (k : IntKind) (i : Int) : indexA E.P 46 (.islice sz es c) (.lit (.int k i)) = if 0 ≤ i ∧ i < es.length ∧ some 4 = some sz then (es[i.toNat]?).map .iptr else none := rfl
theorem o_ixs_46 (s o l sz : Nat) (c : Option Nat) (k : IntKind) (i : Int) : indexA E.P 46 (.slice s o l sz c) (.lit (.int k i)) = if 0 ≤ i ∧ i < l then some (.ptr s (o + i.toNat * 4)) else none := rfl
theorem o_ldp_52 (st : ASt) (s o : Nat) : loadA E.P 52 st (.ptr s o) = (blkOf (st.heap s)).bind (fun cs => if o + 4 ≤ cs.length then some (.agg ((cs.drop o).take 4)) else none) := ld_agg rfl rfl st s o
theorem o_ldi_52 (st : ASt) (cs : List AVal) : loadA E.P 52 st (.iptr (.agg cs)) = if cs.length = 4 then some (.agg cs) else none := rfl
theorem o_al_52 (st : ASt) : allocA E.P 52 st = some (.ptr st.ctr 0, st.new (.cells [.lit (.int .i64 0), .lit (.string ⟨#[]⟩), .lit (.complex .f64 0 0), .lit (.int .i64 0)])) := rfl
theorem o_st_52 (st : ASt) (s o : Nat) (vs : List AVal) : storeA E.P 52 st (.ptr s o) (.agg vs) = (blkOf (st.heap s)).bind (fun cs => if vs.length = 4 ∧ o + vs.length ≤ cs.length ∧ vs.all AVal.isCell = true then some (st.set s (some (.cells (putL cs o vs)))) else none) := st_agg rfl st s o vs
theorem o_fap_52_3 (s o : Nat) : fieldA E.P 52 (.ptr s o) 3 = some (.ptr s (o + 3)) := rfl
theorem o_fai_52_3 (cs : List AVal) : fieldA E.P 52 (.iptr (.agg cs)) 3 = (cs[3]?).map .iptr := rfl
theorem o_ldp_3 (st : ASt) (s o : Nat) : loadA E.P 3 st (.ptr s o) = (blkOf (st.heap s)).bind (fun cs => cs[o]?) := ld_one rfl rfl st s o
theorem o_ldi_3 (st : ASt) (v : AVal) : loadA E.P 3 st (.iptr v) = if v.isCell = true then some v else none := rfl
theorem o_fap_52_1 (s o : Nat) : fieldA E.P 52 (.ptr s o) 1 = some (.ptr s (o + 1)) := rfl
theorem o_fai_52_1 (cs : List AVal) : fieldA E.P 52 (.iptr (.agg cs)) 1 = (cs[1]?).map .iptr := rfl
theorem o_ldp_9 (st : ASt) (s o : Nat) : loadA E.P 9 st (.ptr s o) = (blkOf (st.heap s)).bind (fun cs => cs[o]?) := ld_one rfl rfl st s o
theorem o_ldi_9 (st : ASt) (v : AVal) : loadA E.P 9 st (.iptr v) = if v.isCell = true then some v else none := rfl
theorem cf_26 (a : List AVal) (st : ASt) : callFuncA E.P 26 a st = some (.enter 26 a st) := rfl
theorem o_fap_52_0 (s o : Nat) : fieldA E.P 52 (.ptr s o) 0 = some (.ptr s (o + 0)) := rfl
theorem o_fai_52_0 (cs : List AVal) : fieldA E.P 52 (.iptr (.agg cs)) 0 = (cs[0]?).map .iptr := rfl
theorem o_ldp_50 (st : ASt) (s o : Nat) : loadA E.P 50 st (.ptr s o) = (blkOf (st.heap s)).bind (fun cs => cs[o]?) := ld_one rfl rfl st s o
theorem o_ldi_50 (st : ASt) (v : AVal) : loadA E.P 50 st (.iptr v) = if v.isCell = true then some v else none := rfl
theorem o_eqb_4_neq (xo yo : Operand) (a b : Bool) : binA E.P .neq 4 xo yo (.lit (.bool a)) (.lit (.bool b)) = some (.lit (.bool (a != b))) := b_neb rfl

/-! ### braidwork/braidworklaw03.LexLong -/
noncomputable def C8 : Code := (code Tryd.f8)
noncomputable def S8_0 : Code := .seq ((code Tryd.f8).fst) (.seq ((code Tryd.f8).snd.fst.fst) (.seq ((code Tryd.f8).snd.fst.snd) (.seq ((code Tryd.f8).snd.snd.fst) ((code Tryd.f8).snd.snd.snd.fst.fst))))
noncomputable def S8_0_e := (⟨by simp only [S8_0, code, Tryd.f8, Option.getD_some, Code.fst, Code.snd, Code.bin, Code.lin, Code.sin, Code.yes, Code.no]; exact rfl⟩ : PLift (S8_0 = _))
noncomputable def L8_0 : Code := (code Tryd.f8).snd.snd.snd.fst.snd.bin.lin
noncomputable def S8_1 : Code := .seq ((code Tryd.f8).snd.snd.snd.fst.snd.bin.lin.fst) (.seq ((code Tryd.f8).snd.snd.snd.fst.snd.bin.lin.snd.fst) (.seq ((code Tryd.f8).snd.snd.snd.fst.snd.bin.lin.snd.snd.fst) ((code Tryd.f8).snd.snd.snd.fst.snd.bin.lin.snd.snd.snd)))
noncomputable def S8_1_e := (⟨by simp only [S8_1, code, Tryd.f8, Option.getD_some, Code.fst, Code.snd, Code.bin, Code.lin, Code.sin, Code.yes, Code.no]; exact rfl⟩ : PLift (S8_1 = _))
theorem L8_0_wp {ts : List AVal} {st : ASt} {Q : APost} (h : Wp E 8 S8_1 ts st Q) : Wp E 8 L8_0 ts st Q := by
  have e : ∀ n ts st, aexec E 8 (rw E) (drawB E 8) n L8_0 ts st = aexec E 8 (rw E) (drawB E 8) n (S8_1) ts st := by
    intro n ts st
    have e1 : L8_0 = (.seq (code Tryd.f8).snd.snd.snd.fst.snd.bin.lin.fst (.seq (code Tryd.f8).snd.snd.snd.fst.snd.bin.lin.snd.fst (.seq (code Tryd.f8).snd.snd.snd.fst.snd.bin.lin.snd.snd.fst (code Tryd.f8).snd.snd.snd.fst.snd.bin.lin.snd.snd.snd))) := rfl
    rw [e1] <;>
    simp only [S8_1, aexec_seq, aseq_assoc]
  refine aw_congr e ?_
  exact h
noncomputable def S8_2 : Code := .seq ((code Tryd.f8).snd.snd.snd.snd.fst) (.seq ((code Tryd.f8).snd.snd.snd.snd.snd.fst.fst) (.seq ((code Tryd.f8).snd.snd.snd.snd.snd.fst.snd) (.seq ((code Tryd.f8).snd.snd.snd.snd.snd.snd.fst) ((code Tryd.f8).snd.snd.snd.snd.snd.snd.snd))))
noncomputable def S8_2_e := (⟨by simp only [S8_2, code, Tryd.f8, Option.getD_some, Code.fst, Code.snd, Code.bin, Code.lin, Code.sin, Code.yes, Code.no]; exact rfl⟩ : PLift (S8_2 = _))
theorem C8_wp {ts : List AVal} {st : ASt} {Q : APost} (h : Wp E 8 S8_0 ts st (Nx (fun ts st => Wp E 8 (.block 0 (.loop L8_0)) ts st (Nx (fun ts st => Wp E 8 S8_2 ts st Q) Q)) Q)) : Wp E 8 C8 ts st Q := by
  have e : ∀ n ts st, aexec E 8 (rw E) (drawB E 8) n C8 ts st = aexec E 8 (rw E) (drawB E 8) n (.seq S8_0 (.seq (.block 0 (.loop L8_0)) (S8_2))) ts st := by
    intro n ts st
    have e1 : C8 = (.seq (code Tryd.f8).fst (.seq (.seq (code Tryd.f8).snd.fst.fst (code Tryd.f8).snd.fst.snd) (.seq (code Tryd.f8).snd.snd.fst (.seq (.seq (code Tryd.f8).snd.snd.snd.fst.fst (.block 0 (.loop L8_0))) (.seq (code Tryd.f8).snd.snd.snd.snd.fst (.seq (.seq (code Tryd.f8).snd.snd.snd.snd.snd.fst.fst (code Tryd.f8).snd.snd.snd.snd.snd.fst.snd) (.seq (code Tryd.f8).snd.snd.snd.snd.snd.snd.fst (code Tryd.f8).snd.snd.snd.snd.snd.snd.snd))))))) := rfl
    rw [e1] <;>
    simp only [S8_0, S8_2, aexec_seq, aseq_assoc]
  refine aw_congr e ?_
  have h0 := h
  exact aw_seq (h0.mono fun e ts st hq => by cases e <;> first | exact hq | (have h1 := hq; exact aw_seq h1))
theorem ce_8 {x0 : AVal} {st : ASt} {r : AEnd × ASt} (h : ∀ g : Nat → AVal, g 0 = x0 → Wp E 8 C8 (Sl 61 g) st (fun e ts st => aend E Tryd.f8 (some (e, ts, st)) = some r)) : rw E 8 [x0] st = some r :=
  ce_of (fn := Tryd.f8) (c := C8) rfl rfl rfl (Nat.le_of_ble_eq_true rfl) fun g hg => h g (hg 0 x0 rfl)
theorem cx_8 {x0 : AVal} {st : ASt} {R : AEnd → ASt → Prop} (h : ∀ g : Nat → AVal, g 0 = x0 → Wp E 8 C8 (Sl 61 g) st (fun e ts st => ∃ r st', aend E Tryd.f8 (some (e, ts, st)) = some (r, st') ∧ R r st')) : ∃ r st', rw E 8 [x0] st = some (r, st') ∧ R r st' :=
  cx_of (fn := Tryd.f8) (c := C8) rfl rfl rfl (Nat.le_of_ble_eq_true rfl) fun g hg => h g (hg 0 x0 rfl)
theorem o_cv_5_3 (mt : Bool) (n : Int) (st : ASt) : convA E.P mt 5 3 (.lit (.int .u8 n)) st = some (.lit (.int .i64 (IntKind.i64.wrap n)), st) := c_int rfl rfl
theorem o_leni_55 (mt : Bool) (ty : TypeId) (cs : Array Bool) (sz : Nat) (es : List AVal) (c : Cap) (st : ASt) : builtinA E.P mt .len #[55] ty cs [.islice sz es c] st = some (.val (.lit (.int .i64 es.length)) st) := rfl
theorem o_lens_55 (mt : Bool) (ty : TypeId) (cs : Array Bool) (s o l sz : Nat) (c : Option Nat) (st : ASt) : builtinA E.P mt .len #[55] ty cs [.slice s o l sz c] st = some (.val (.lit (.int .i64 l)) st) := rfl
theorem o_lenn_55 (mt : Bool) (ty : TypeId) (cs : Array Bool) (a : Option Addr) (st : ASt) : builtinA E.P mt .len #[55] ty cs [.lit (.slice a 0 0)] st = some (.val (.lit (.int .i64 0)) st) := len_nil rfl _ _ _ _ _
theorem o_ixi_55 (sz : Nat) (es : List AVal) (c : Cap) (k : IntKind) (i : Int) : indexA E.P 55 (.islice sz es c) (.lit (.int k i)) = if 0 ≤ i ∧ i < es.length ∧ some 1 = some sz then (es[i.toNat]?).map .iptr else none := rfl
theorem o_ixs_55 (s o l sz : Nat) (c : Option Nat) (k : IntKind) (i : Int) : indexA E.P 55 (.slice s o l sz c) (.lit (.int k i)) = if 0 ≤ i ∧ i < l then some (.ptr s (o + i.toNat * 1)) else none := rfl
theorem o_st_5 (st : ASt) (s o : Nat) (v : AVal) : storeA E.P 5 st (.ptr s o) v = if v.isCell = true then (blkOf (st.heap s)).bind (fun cs => if o + 1 ≤ cs.length then some (st.set s (some (.cells (cs.set o v)))) else none) else storeU E.P 5 st (.ptr s o) v := st_one rfl st s o v
theorem hint_8_26 : E.hint 8 26 = false := rfl

/-! ### braidwork/lex.Split -/
noncomputable def C25 : Code := (code Tryd.f25)
noncomputable def S25_0 : Code := (code Tryd.f25).fst
noncomputable def S25_0_e := (⟨by simp only [S25_0, code, Tryd.f25, Option.getD_some, Code.fst, Code.snd, Code.bin, Code.lin, Code.sin, Code.yes, Code.no]; exact rfl⟩ : PLift (S25_0 = _))
noncomputable def Z25_0 : Code := (code Tryd.f25).snd.sin
noncomputable def S25_1 : Code := .seq ((code Tryd.f25).snd.sin.fst) (.seq ((code Tryd.f25).snd.sin.snd.fst) (.seq ((code Tryd.f25).snd.sin.snd.snd.fst) (.seq ((code Tryd.f25).snd.sin.snd.snd.snd.fst) (.seq ((code Tryd.f25).snd.sin.snd.snd.snd.snd.fst) (.seq ((code Tryd.f25).snd.sin.snd.snd.snd.snd.snd.fst.fst) (.seq ((code Tryd.f25).snd.sin.snd.snd.snd.snd.snd.fst.snd) (.seq ((code Tryd.f25).snd.sin.snd.snd.snd.snd.snd.snd.fst) (.seq ((code Tryd.f25).snd.sin.snd.snd.snd.snd.snd.snd.snd.fst.fst) (.seq ((code Tryd.f25).snd.sin.snd.snd.snd.snd.snd.snd.snd.fst.snd) (.seq ((code Tryd.f25).snd.sin.snd.snd.snd.snd.snd.snd.snd.snd.fst) (.seq ((code Tryd.f25).snd.sin.snd.snd.snd.snd.snd.snd.snd.snd.snd.fst.fst) (.seq ((code Tryd.f25).snd.sin.snd.snd.snd.snd.snd.snd.snd.snd.snd.fst.snd) (.seq ((code Tryd.f25).snd.sin.snd.snd.snd.snd.snd.snd.snd.snd.snd.snd.fst.fst) (.seq ((code Tryd.f25).snd.sin.snd.snd.snd.snd.snd.snd.snd.snd.snd.snd.fst.snd) ((code Tryd.f25).snd.sin.snd.snd.snd.snd.snd.snd.snd.snd.snd.snd.snd.fst)))))))))))))))
noncomputable def S25_1_e := (⟨by simp only [S25_1, code, Tryd.f25, Option.getD_some, Code.fst, Code.snd, Code.bin, Code.lin, Code.sin, Code.yes, Code.no]; exact rfl⟩ : PLift (S25_1 = _))
noncomputable def L25_1 : Code := (code Tryd.f25).snd.sin.snd.snd.snd.snd.snd.snd.snd.snd.snd.snd.snd.snd.fst.bin.lin
noncomputable def S25_2 : Code := .seq ((code Tryd.f25).snd.sin.snd.snd.snd.snd.snd.snd.snd.snd.snd.snd.snd.snd.fst.bin.lin.fst.fst) (.seq ((code Tryd.f25).snd.sin.snd.snd.snd.snd.snd.snd.snd.snd.snd.snd.snd.snd.fst.bin.lin.fst.snd) ((code Tryd.f25).snd.sin.snd.snd.snd.snd.snd.snd.snd.snd.snd.snd.snd.snd.fst.bin.lin.snd))
noncomputable def S25_2_e := (⟨by simp only [S25_2, code, Tryd.f25, Option.getD_some, Code.fst, Code.snd, Code.bin, Code.lin, Code.sin, Code.yes, Code.no]; exact rfl⟩ : PLift (S25_2 = _))
theorem L25_1_wp {ts : List AVal} {st : ASt} {Q : APost} (h : Wp E 25 S25_2 ts st Q) : Wp E 25 L25_1 ts st Q := by
  have e : ∀ n ts st, aexec E 25 (rw E) (drawB E 25) n L25_1 ts st = aexec E 25 (rw E) (drawB E 25) n (S25_2) ts st := by
    intro n ts st
    have e1 : L25_1 = (.seq (.seq (code Tryd.f25).snd.sin.snd.snd.snd.snd.snd.snd.snd.snd.snd.snd.snd.snd.fst.bin.lin.fst.fst (code Tryd.f25).snd.sin.snd.snd.snd.snd.snd.snd.snd.snd.snd.snd.snd.snd.fst.bin.lin.fst.snd) (code Tryd.f25).snd.sin.snd.snd.snd.snd.snd.snd.snd.snd.snd.snd.snd.snd.fst.bin.lin.snd) := rfl
    rw [e1] <;>
    simp only [S25_2, aexec_seq, aseq_assoc]
  refine aw_congr e ?_
  exact h
noncomputable def S25_3 : Code := .seq ((code Tryd.f25).snd.sin.snd.snd.snd.snd.snd.snd.snd.snd.snd.snd.snd.snd.snd.fst) ((code Tryd.f25).snd.sin.snd.snd.snd.snd.snd.snd.snd.snd.snd.snd.snd.snd.snd.snd.fst)
noncomputable def S25_3_e := (⟨by simp only [S25_3, code, Tryd.f25, Option.getD_some, Code.fst, Code.snd, Code.bin, Code.lin, Code.sin, Code.yes, Code.no]; exact rfl⟩ : PLift (S25_3 = _))
noncomputable def L25_2 : Code := (code Tryd.f25).snd.sin.snd.snd.snd.snd.snd.snd.snd.snd.snd.snd.snd.snd.snd.snd.snd.fst.bin.lin
noncomputable def S25_4 : Code := .seq ((code Tryd.f25).snd.sin.snd.snd.snd.snd.snd.snd.snd.snd.snd.snd.snd.snd.snd.snd.snd.fst.bin.lin.fst.fst) (.seq ((code Tryd.f25).snd.sin.snd.snd.snd.snd.snd.snd.snd.snd.snd.snd.snd.snd.snd.snd.snd.fst.bin.lin.fst.snd) ((code Tryd.f25).snd.sin.snd.snd.snd.snd.snd.snd.snd.snd.snd.snd.snd.snd.snd.snd.snd.fst.bin.lin.snd))
noncomputable def S25_4_e := (⟨by simp only [S25_4, code, Tryd.f25, Option.getD_some, Code.fst, Code.snd, Code.bin, Code.lin, Code.sin, Code.yes, Code.no]; exact rfl⟩ : PLift (S25_4 = _))
theorem L25_2_wp {ts : List AVal} {st : ASt} {Q : APost} (h : Wp E 25 S25_4 ts st Q) : Wp E 25 L25_2 ts st Q := by
  have e : ∀ n ts st, aexec E 25 (rw E) (drawB E 25) n L25_2 ts st = aexec E 25 (rw E) (drawB E 25) n (S25_4) ts st := by
    intro n ts st
    have e1 : L25_2 = (.seq (.seq (code Tryd.f25).snd.sin.snd.snd.snd.snd.snd.snd.snd.snd.snd.snd.snd.snd.snd.snd.snd.fst.bin.lin.fst.fst (code Tryd.f25).snd.sin.snd.snd.snd.snd.snd.snd.snd.snd.snd.snd.snd.snd.snd.snd.snd.fst.bin.lin.fst.snd) (code Tryd.f25).snd.sin.snd.snd.snd.snd.snd.snd.snd.snd.snd.snd.snd.snd.snd.snd.snd.fst.bin.lin.snd) := rfl
    rw [e1] <;>
    simp only [S25_4, aexec_seq, aseq_assoc]
  refine aw_congr e ?_
  exact h
noncomputable def S25_5 : Code := .seq ((code Tryd.f25).snd.sin.snd.snd.snd.snd.snd.snd.snd.snd.snd.snd.snd.snd.snd.snd.snd.snd.fst) (.seq ((code Tryd.f25).snd.sin.snd.snd.snd.snd.snd.snd.snd.snd.snd.snd.snd.snd.snd.snd.snd.snd.snd.fst) ((code Tryd.f25).snd.sin.snd.snd.snd.snd.snd.snd.snd.snd.snd.snd.snd.snd.snd.snd.snd.snd.snd.snd.fst))
noncomputable def S25_5_e := (⟨by simp only [S25_5, code, Tryd.f25, Option.getD_some, Code.fst, Code.snd, Code.bin, Code.lin, Code.sin, Code.yes, Code.no]; exact rfl⟩ : PLift (S25_5 = _))
noncomputable def L25_3 : Code := (code Tryd.f25).snd.sin.snd.snd.snd.snd.snd.snd.snd.snd.snd.snd.snd.snd.snd.snd.snd.snd.snd.snd.snd.fst.bin.lin
noncomputable def S25_6 : Code := .seq ((code Tryd.f25).snd.sin.snd.snd.snd.snd.snd.snd.snd.snd.snd.snd.snd.snd.snd.snd.snd.snd.snd.snd.snd.fst.bin.lin.fst.fst) (.seq ((code Tryd.f25).snd.sin.snd.snd.snd.snd.snd.snd.snd.snd.snd.snd.snd.snd.snd.snd.snd.snd.snd.snd.snd.fst.bin.lin.fst.snd) ((code Tryd.f25).snd.sin.snd.snd.snd.snd.snd.snd.snd.snd.snd.snd.snd.snd.snd.snd.snd.snd.snd.snd.snd.fst.bin.lin.snd))
noncomputable def S25_6_e := (⟨by simp only [S25_6, code, Tryd.f25, Option.getD_some, Code.fst, Code.snd, Code.bin, Code.lin, Code.sin, Code.yes, Code.no]; exact rfl⟩ : PLift (S25_6 = _))
theorem L25_3_wp {ts : List AVal} {st : ASt} {Q : APost} (h : Wp E 25 S25_6 ts st Q) : Wp E 25 L25_3 ts st Q := by
  have e : ∀ n ts st, aexec E 25 (rw E) (drawB E 25) n L25_3 ts st = aexec E 25 (rw E) (drawB E 25) n (S25_6) ts st := by
    intro n ts st
    have e1 : L25_3 = (.seq (.seq (code Tryd.f25).snd.sin.snd.snd.snd.snd.snd.snd.snd.snd.snd.snd.snd.snd.snd.snd.snd.snd.snd.snd.snd.fst.bin.lin.fst.fst (code Tryd.f25).snd.sin.snd.snd.snd.snd.snd.snd.snd.snd.snd.snd.snd.snd.snd.snd.snd.snd.snd.snd.snd.fst.bin.lin.fst.snd) (code Tryd.f25).snd.sin.snd.snd.snd.snd.snd.snd.snd.snd.snd.snd.snd.snd.snd.snd.snd.snd.snd.snd.snd.fst.bin.lin.snd) := rfl
    rw [e1] <;>
    simp only [S25_6, aexec_seq, aseq_assoc]
  refine aw_congr e ?_
  exact h
noncomputable def S25_7 : Code := .seq ((code Tryd.f25).snd.sin.snd.snd.snd.snd.snd.snd.snd.snd.snd.snd.snd.snd.snd.snd.snd.snd.snd.snd.snd.snd.fst.fst) (.seq ((code Tryd.f25).snd.sin.snd.snd.snd.snd.snd.snd.snd.snd.snd.snd.snd.snd.snd.snd.snd.snd.snd.snd.snd.snd.fst.snd) (.seq ((code Tryd.f25).snd.sin.snd.snd.snd.snd.snd.snd.snd.snd.snd.snd.snd.snd.snd.snd.snd.snd.snd.snd.snd.snd.snd.fst.fst) (.seq ((code Tryd.f25).snd.sin.snd.snd.snd.snd.snd.snd.snd.snd.snd.snd.snd.snd.snd.snd.snd.snd.snd.snd.snd.snd.snd.fst.snd) (.seq ((code Tryd.f25).snd.sin.snd.snd.snd.snd.snd.snd.snd.snd.snd.snd.snd.snd.snd.snd.snd.snd.snd.snd.snd.snd.snd.snd.fst.fst) (.seq ((code Tryd.f25).snd.sin.snd.snd.snd.snd.snd.snd.snd.snd.snd.snd.snd.snd.snd.snd.snd.snd.snd.snd.snd.snd.snd.snd.fst.snd.fst) (.seq ((code Tryd.f25).snd.sin.snd.snd.snd.snd.snd.snd.snd.snd.snd.snd.snd.snd.snd.snd.snd.snd.snd.snd.snd.snd.snd.snd.fst.snd.snd) (.seq ((code Tryd.f25).snd.sin.snd.snd.snd.snd.snd.snd.snd.snd.snd.snd.snd.snd.snd.snd.snd.snd.snd.snd.snd.snd.snd.snd.snd.fst) (.seq ((code Tryd.f25).snd.sin.snd.snd.snd.snd.snd.snd.snd.snd.snd.snd.snd.snd.snd.snd.snd.snd.snd.snd.snd.snd.snd.snd.snd.snd.fst) (.seq ((code Tryd.f25).snd.sin.snd.snd.snd.snd.snd.snd.snd.snd.snd.snd.snd.snd.snd.snd.snd.snd.snd.snd.snd.snd.snd.snd.snd.snd.snd.fst) (.seq ((code Tryd.f25).snd.sin.snd.snd.snd.snd.snd.snd.snd.snd.snd.snd.snd.snd.snd.snd.snd.snd.snd.snd.snd.snd.snd.snd.snd.snd.snd.snd.fst) (.seq ((code Tryd.f25).snd.sin.snd.snd.snd.snd.snd.snd.snd.snd.snd.snd.snd.snd.snd.snd.snd.snd.snd.snd.snd.snd.snd.snd.snd.snd.snd.snd.snd.fst.fst) (.seq ((code Tryd.f25).snd.sin.snd.snd.snd.snd.snd.snd.snd.snd.snd.snd.snd.snd.snd.snd.snd.snd.snd.snd.snd.snd.snd.snd.snd.snd.snd.snd.snd.fst.snd) (.seq ((code Tryd.f25).snd.sin.snd.snd.snd.snd.snd.snd.snd.snd.snd.snd.snd.snd.snd.snd.snd.snd.snd.snd.snd.snd.snd.snd.snd.snd.snd.snd.snd.snd.fst) ((code Tryd.f25).snd.sin.snd.snd.snd.snd.snd.snd.snd.snd.snd.snd.snd.snd.snd.snd.snd.snd.snd.snd.snd.snd.snd.snd.snd.snd.snd.snd.snd.snd.snd))))))))))))))
noncomputable def S25_7_e := (⟨by simp only [S25_7, code, Tryd.f25, Option.getD_some, Code.fst, Code.snd, Code.bin, Code.lin, Code.sin, Code.yes, Code.no]; exact rfl⟩ : PLift (S25_7 = _))
theorem Z25_0_wp {ts : List AVal} {st : ASt} {Q : APost} (h : Wp E 25 S25_1 ts st (Nx (fun ts st => Wp E 25 (.block 1 (.loop L25_1)) ts st (Nx (fun ts st => Wp E 25 S25_3 ts st (Nx (fun ts st => Wp E 25 (.block 3 (.loop L25_2)) ts st (Nx (fun ts st => Wp E 25 S25_5 ts st (Nx (fun ts st => Wp E 25 (.block 5 (.loop L25_3)) ts st (Nx (fun ts st => Wp E 25 S25_7 ts st Q) Q)) Q)) Q)) Q)) Q)) Q)) : Wp E 25 Z25_0 ts st Q := by
  have e : ∀ n ts st, aexec E 25 (rw E) (drawB E 25) n Z25_0 ts st = aexec E 25 (rw E) (drawB E 25) n (.seq S25_1 (.seq (.block 1 (.loop L25_1)) (.seq S25_3 (.seq (.block 3 (.loop L25_2)) (.seq S25_5 (.seq (.block 5 (.loop L25_3)) (S25_7))))))) ts st := by
    intro n ts st
    have e1 : Z25_0 = (.seq (code Tryd.f25).snd.sin.fst (.seq (code Tryd.f25).snd.sin.snd.fst (.seq (code Tryd.f25).snd.sin.snd.snd.fst (.seq (code Tryd.f25).snd.sin.snd.snd.snd.fst (.seq (code Tryd.f25).snd.sin.snd.snd.snd.snd.fst (.seq (.seq (code Tryd.f25).snd.sin.snd.snd.snd.snd.snd.fst.fst (code Tryd.f25).snd.sin.snd.snd.snd.snd.snd.fst.snd) (.seq (code Tryd.f25).snd.sin.snd.snd.snd.snd.snd.snd.fst (.seq (.seq (code Tryd.f25).snd.sin.snd.snd.snd.snd.snd.snd.snd.fst.fst (code Tryd.f25).snd.sin.snd.snd.snd.snd.snd.snd.snd.fst.snd) (.seq (code Tryd.f25).snd.sin.snd.snd.snd.snd.snd.snd.snd.snd.fst (.seq (.seq (code Tryd.f25).snd.sin.snd.snd.snd.snd.snd.snd.snd.snd.snd.fst.fst (code Tryd.f25).snd.sin.snd.snd.snd.snd.snd.snd.snd.snd.snd.fst.snd) (.seq (.seq (code Tryd.f25).snd.sin.snd.snd.snd.snd.snd.snd.snd.snd.snd.snd.fst.fst (code Tryd.f25).snd.sin.snd.snd.snd.snd.snd.snd.snd.snd.snd.snd.fst.snd) (.seq (code Tryd.f25).snd.sin.snd.snd.snd.snd.snd.snd.snd.snd.snd.snd.snd.fst (.seq (.block 1 (.loop L25_1)) (.seq (code Tryd.f25).snd.sin.snd.snd.snd.snd.snd.snd.snd.snd.snd.snd.snd.snd.snd.fst (.seq (code Tryd.f25).snd.sin.snd.snd.snd.snd.snd.snd.snd.snd.snd.snd.snd.snd.snd.snd.fst (.seq (.block 3 (.loop L25_2)) (.seq (code Tryd.f25).snd.sin.snd.snd.snd.snd.snd.snd.snd.snd.snd.snd.snd.snd.snd.snd.snd.snd.fst (.seq (code Tryd.f25).snd.sin.snd.snd.snd.snd.snd.snd.snd.snd.snd.snd.snd.snd.snd.snd.snd.snd.snd.fst (.seq (code Tryd.f25).snd.sin.snd.snd.snd.snd.snd.snd.snd.snd.snd.snd.snd.snd.snd.snd.snd.snd.snd.snd.fst (.seq (.block 5 (.loop L25_3)) (.seq (.seq (code Tryd.f25).snd.sin.snd.snd.snd.snd.snd.snd.snd.snd.snd.snd.snd.snd.snd.snd.snd.snd.snd.snd.snd.snd.fst.fst (code Tryd.f25).snd.sin.snd.snd.snd.snd.snd.snd.snd.snd.snd.snd.snd.snd.snd.snd.snd.snd.snd.snd.snd.snd.fst.snd) (.seq (.seq (code Tryd.f25).snd.sin.snd.snd.snd.snd.snd.snd.snd.snd.snd.snd.snd.snd.snd.snd.snd.snd.snd.snd.snd.snd.snd.fst.fst (code Tryd.f25).snd.sin.snd.snd.snd.snd.snd.snd.snd.snd.snd.snd.snd.snd.snd.snd.snd.snd.snd.snd.snd.snd.snd.fst.snd) (.seq (.seq (code Tryd.f25).snd.sin.snd.snd.snd.snd.snd.snd.snd.snd.snd.snd.snd.snd.snd.snd.snd.snd.snd.snd.snd.snd.snd.snd.fst.fst (.seq (code Tryd.f25).snd.sin.snd.snd.snd.snd.snd.snd.snd.snd.snd.snd.snd.snd.snd.snd.snd.snd.snd.snd.snd.snd.snd.snd.fst.snd.fst (code Tryd.f25).snd.sin.snd.snd.snd.snd.snd.snd.snd.snd.snd.snd.snd.snd.snd.snd.snd.snd.snd.snd.snd.snd.snd.snd.fst.snd.snd)) (.seq (code Tryd.f25).snd.sin.snd.snd.snd.snd.snd.snd.snd.snd.snd.snd.snd.snd.snd.snd.snd.snd.snd.snd.snd.snd.snd.snd.snd.fst (.seq (code Tryd.f25).snd.sin.snd.snd.snd.snd.snd.snd.snd.snd.snd.snd.snd.snd.snd.snd.snd.snd.snd.snd.snd.snd.snd.snd.snd.snd.fst (.seq (code Tryd.f25).snd.sin.snd.snd.snd.snd.snd.snd.snd.snd.snd.snd.snd.snd.snd.snd.snd.snd.snd.snd.snd.snd.snd.snd.snd.snd.snd.fst (.seq (code Tryd.f25).snd.sin.snd.snd.snd.snd.snd.snd.snd.snd.snd.snd.snd.snd.snd.snd.snd.snd.snd.snd.snd.snd.snd.snd.snd.snd.snd.snd.fst (.seq (.seq (code Tryd.f25).snd.sin.snd.snd.snd.snd.snd.snd.snd.snd.snd.snd.snd.snd.snd.snd.snd.snd.snd.snd.snd.snd.snd.snd.snd.snd.snd.snd.snd.fst.fst (code Tryd.f25).snd.sin.snd.snd.snd.snd.snd.snd.snd.snd.snd.snd.snd.snd.snd.snd.snd.snd.snd.snd.snd.snd.snd.snd.snd.snd.snd.snd.snd.fst.snd) (.seq (code Tryd.f25).snd.sin.snd.snd.snd.snd.snd.snd.snd.snd.snd.snd.snd.snd.snd.snd.snd.snd.snd.snd.snd.snd.snd.snd.snd.snd.snd.snd.snd.snd.fst (code Tryd.f25).snd.sin.snd.snd.snd.snd.snd.snd.snd.snd.snd.snd.snd.snd.snd.snd.snd.snd.snd.snd.snd.snd.snd.snd.snd.snd.snd.snd.snd.snd.snd))))))))))))))))))))))))))))) := rfl
    rw [e1] <;>
    simp only [S25_1, S25_3, S25_5, S25_7, aexec_seq, aseq_assoc]
  refine aw_congr e ?_
  have h0 := h
  exact aw_seq (h0.mono fun e ts st hq => by cases e <;> first | exact hq | (have h1 := hq; exact aw_seq (h1.mono fun e ts st hq => by cases e <;> first | exact hq | (have h2 := hq; exact aw_seq (h2.mono fun e ts st hq => by cases e <;> first | exact hq | (have h3 := hq; exact aw_seq (h3.mono fun e ts st hq => by cases e <;> first | exact hq | (have h4 := hq; exact aw_seq (h4.mono fun e ts st hq => by cases e <;> first | exact hq | (have h5 := hq; exact aw_seq h5))))))))))
theorem C25_wp {ts : List AVal} {st : ASt} {Q : APost} (h : Wp E 25 S25_0 ts st (Nx (fun ts st => Wp E 25 (.scope Z25_0) ts st Q) Q)) : Wp E 25 C25 ts st Q := by
  have e : ∀ n ts st, aexec E 25 (rw E) (drawB E 25) n C25 ts st = aexec E 25 (rw E) (drawB E 25) n (.seq S25_0 ((.scope Z25_0))) ts st := by
    intro n ts st
    have e1 : C25 = (.seq (code Tryd.f25).fst (.scope Z25_0)) := rfl
    rw [e1] <;>
    simp only [S25_0, aexec_seq, aseq_assoc]
  refine aw_congr e ?_
  have h0 := h
  exact aw_seq h0
theorem ce_25 {x0 : AVal} {st : ASt} {r : AEnd × ASt} (h : ∀ g : Nat → AVal, g 0 = x0 → Wp E 25 C25 (Sl 203 g) st (fun e ts st => aend E Tryd.f25 (some (e, ts, st)) = some r)) : rw E 25 [x0] st = some r :=
  ce_of (fn := Tryd.f25) (c := C25) rfl rfl rfl (Nat.le_of_ble_eq_true rfl) fun g hg => h g (hg 0 x0 rfl)
theorem cx_25 {x0 : AVal} {st : ASt} {R : AEnd → ASt → Prop} (h : ∀ g : Nat → AVal, g 0 = x0 → Wp E 25 C25 (Sl 203 g) st (fun e ts st => ∃ r st', aend E Tryd.f25 (some (e, ts, st)) = some (r, st') ∧ R r st')) : ∃ r st', rw E 25 [x0] st = some (r, st') ∧ R r st' :=
  cx_of (fn := Tryd.f25) (c := C25) rfl rfl rfl (Nat.le_of_ble_eq_true rfl) fun g hg => h g (hg 0 x0 rfl)
theorem o_bd_52 (ps : List (Nat × AVal)) : buildA E.P 52 ps = (fillA (fun i => ([(0, 1), (1, 1), (2, 1), (3, 1)] : List (Nat × Nat))[i]?) [.lit (.int .i64 0), .lit (.string ⟨#[]⟩), .lit (.complex .f64 0 0), .lit (.int .i64 0)] ps).map .agg := rfl
theorem hint_25_21 : E.hint 25 21 = false := rfl
theorem o_bs_46_1 (ps : List (Nat × AVal)) (st : ASt) : buildSliceA E.P false 46 1 ps st = (setsE true 4 [(.agg [.lit (.int .i64 0), .lit (.string ⟨#[]⟩), .lit (.complex .f64 0 0), .lit (.int .i64 0)])] ps).map (fun es => (.islice 4 es .exact, st)) := bs_i rfl rfl rfl rfl (by decide) rfl ps st
theorem hint_25_22 : E.hint 25 22 = false := rfl
theorem slt_46 : SlT E.P 46 52 true 4 := ⟨rfl, rfl, ⟨_, _, rfl, rfl, by decide, rfl, rfl⟩, by decide⟩
theorem o_ixt_9 {l : List UInt8} {k : IntKind} {i : Int} (h0 : 0 ≤ i) (h1 : i < l.length) : pureV E.P (Instr.index 9 (.string ⟨l.toArray⟩) (.int k i)) = some (.lit (.int .u8 ((l[i.toNat]'(by omega)).toNat : Int))) := ix_str rfl h0 h1
theorem cf_48 (a : List AVal) (st : ASt) : callFuncA E.P 48 a st = some (.enter 48 a st) := rfl
theorem cf_49 (a : List AVal) (st : ASt) : callFuncA E.P 49 a st = some (.enter 49 a st) := rfl
theorem cf_50 (a : List AVal) (st : ASt) : callFuncA E.P 50 a st = some (.enter 50 a st) := rfl
theorem hint_25_104 : E.hint 25 104 = false := rfl
theorem hint_25_105 : E.hint 25 105 = false := rfl
theorem cf_51 (a : List AVal) (st : ASt) : callFuncA E.P 51 a st = some (.enter 51 a st) := rfl
theorem hint_25_166 : E.hint 25 166 = false := rfl
theorem hint_25_167 : E.hint 25 167 = false := rfl
theorem hint_25_201 : E.hint 25 201 = false := rfl
theorem hint_25_202 : E.hint 25 202 = false := rfl

/-! ### braidwork/lex.digit -/
noncomputable def C49 : Code := (code Tryd.f49)
noncomputable def S49_0 : Code := .seq ((code Tryd.f49).fst) (.seq ((code Tryd.f49).snd.fst) ((code Tryd.f49).snd.snd))
noncomputable def S49_0_e := (⟨by simp only [S49_0, code, Tryd.f49, Option.getD_some, Code.fst, Code.snd, Code.bin, Code.lin, Code.sin, Code.yes, Code.no]; exact rfl⟩ : PLift (S49_0 = _))
theorem C49_wp {ts : List AVal} {st : ASt} {Q : APost} (h : Wp E 49 S49_0 ts st Q) : Wp E 49 C49 ts st Q := by
  have e : ∀ n ts st, aexec E 49 (rw E) (drawB E 49) n C49 ts st = aexec E 49 (rw E) (drawB E 49) n (S49_0) ts st := by
    intro n ts st
    have e1 : C49 = (.seq (code Tryd.f49).fst (.seq (code Tryd.f49).snd.fst (code Tryd.f49).snd.snd)) := rfl
    rw [e1] <;>
    simp only [S49_0, aexec_seq, aseq_assoc]
  refine aw_congr e ?_
  exact h
theorem ce_49 {x0 : AVal} {st : ASt} {r : AEnd × ASt} (h : ∀ g : Nat → AVal, g 0 = x0 → Wp E 49 C49 (Sl 9 g) st (fun e ts st => aend E Tryd.f49 (some (e, ts, st)) = some r)) : rw E 49 [x0] st = some r :=
  ce_of (fn := Tryd.f49) (c := C49) rfl rfl rfl (Nat.le_of_ble_eq_true rfl) fun g hg => h g (hg 0 x0 rfl)
theorem cx_49 {x0 : AVal} {st : ASt} {R : AEnd → ASt → Prop} (h : ∀ g : Nat → AVal, g 0 = x0 → Wp E 49 C49 (Sl 9 g) st (fun e ts st => ∃ r st', aend E Tryd.f49 (some (e, ts, st)) = some (r, st') ∧ R r st')) : ∃ r st', rw E 49 [x0] st = some (r, st') ∧ R r st' :=
  cx_of (fn := Tryd.f49) (c := C49) rfl rfl rfl (Nat.le_of_ble_eq_true rfl) fun g hg => h g (hg 0 x0 rfl)

/-! ### braidwork/lex.letter -/
noncomputable def C48 : Code := (code Tryd.f48)
noncomputable def S48_0 : Code := .seq ((code Tryd.f48).fst) (.seq ((code Tryd.f48).snd.fst) ((code Tryd.f48).snd.snd))
noncomputable def S48_0_e := (⟨by simp only [S48_0, code, Tryd.f48, Option.getD_some, Code.fst, Code.snd, Code.bin, Code.lin, Code.sin, Code.yes, Code.no]; exact rfl⟩ : PLift (S48_0 = _))
theorem C48_wp {ts : List AVal} {st : ASt} {Q : APost} (h : Wp E 48 S48_0 ts st Q) : Wp E 48 C48 ts st Q := by
  have e : ∀ n ts st, aexec E 48 (rw E) (drawB E 48) n C48 ts st = aexec E 48 (rw E) (drawB E 48) n (S48_0) ts st := by
    intro n ts st
    have e1 : C48 = (.seq (code Tryd.f48).fst (.seq (code Tryd.f48).snd.fst (code Tryd.f48).snd.snd)) := rfl
    rw [e1] <;>
    simp only [S48_0, aexec_seq, aseq_assoc]
  refine aw_congr e ?_
  exact h
theorem ce_48 {x0 : AVal} {st : ASt} {r : AEnd × ASt} (h : ∀ g : Nat → AVal, g 0 = x0 → Wp E 48 C48 (Sl 21 g) st (fun e ts st => aend E Tryd.f48 (some (e, ts, st)) = some r)) : rw E 48 [x0] st = some r :=
  ce_of (fn := Tryd.f48) (c := C48) rfl rfl rfl (Nat.le_of_ble_eq_true rfl) fun g hg => h g (hg 0 x0 rfl)
theorem cx_48 {x0 : AVal} {st : ASt} {R : AEnd → ASt → Prop} (h : ∀ g : Nat → AVal, g 0 = x0 → Wp E 48 C48 (Sl 21 g) st (fun e ts st => ∃ r st', aend E Tryd.f48 (some (e, ts, st)) = some (r, st') ∧ R r st')) : ∃ r st', rw E 48 [x0] st = some (r, st') ∧ R r st' :=
  cx_of (fn := Tryd.f48) (c := C48) rfl rfl rfl (Nat.le_of_ble_eq_true rfl) fun g hg => h g (hg 0 x0 rfl)

/-! ### braidwork/lex.one -/
noncomputable def C50 : Code := (code Tryd.f50)
noncomputable def S50_0 : Code := .seq ((code Tryd.f50).fst) (.seq ((code Tryd.f50).snd.fst.fst) (.seq ((code Tryd.f50).snd.fst.snd) (.seq ((code Tryd.f50).snd.snd.fst) ((code Tryd.f50).snd.snd.snd))))
noncomputable def S50_0_e := (⟨by simp only [S50_0, code, Tryd.f50, Option.getD_some, Code.fst, Code.snd, Code.bin, Code.lin, Code.sin, Code.yes, Code.no]; exact rfl⟩ : PLift (S50_0 = _))
theorem C50_wp {ts : List AVal} {st : ASt} {Q : APost} (h : Wp E 50 S50_0 ts st Q) : Wp E 50 C50 ts st Q := by
  have e : ∀ n ts st, aexec E 50 (rw E) (drawB E 50) n C50 ts st = aexec E 50 (rw E) (drawB E 50) n (S50_0) ts st := by
    intro n ts st
    have e1 : C50 = (.seq (code Tryd.f50).fst (.seq (.seq (code Tryd.f50).snd.fst.fst (code Tryd.f50).snd.fst.snd) (.seq (code Tryd.f50).snd.snd.fst (code Tryd.f50).snd.snd.snd))) := rfl
    rw [e1] <;>
    simp only [S50_0, aexec_seq, aseq_assoc]
  refine aw_congr e ?_
  exact h
theorem ce_50 {x0 : AVal} {st : ASt} {r : AEnd × ASt} (h : ∀ g : Nat → AVal, g 0 = x0 → Wp E 50 C50 (Sl 21 g) st (fun e ts st => aend E Tryd.f50 (some (e, ts, st)) = some r)) : rw E 50 [x0] st = some r :=
  ce_of (fn := Tryd.f50) (c := C50) rfl rfl rfl (Nat.le_of_ble_eq_true rfl) fun g hg => h g (hg 0 x0 rfl)
theorem cx_50 {x0 : AVal} {st : ASt} {R : AEnd → ASt → Prop} (h : ∀ g : Nat → AVal, g 0 = x0 → Wp E 50 C50 (Sl 21 g) st (fun e ts st => ∃ r st', aend E Tryd.f50 (some (e, ts, st)) = some (r, st') ∧ R r st')) : ∃ r st', rw E 50 [x0] st = some (r, st') ∧ R r st' :=
  cx_of (fn := Tryd.f50) (c := C50) rfl rfl rfl (Nat.le_of_ble_eq_true rfl) fun g hg => h g (hg 0 x0 rfl)

/-! ### math.Abs -/
noncomputable def C96 : Code := (code Tryd.f96)
noncomputable def S96_0 : Code := .seq ((code Tryd.f96).fst) (.seq ((code Tryd.f96).snd.fst) ((code Tryd.f96).snd.snd))
noncomputable def S96_0_e := (⟨by simp only [S96_0, code, Tryd.f96, Option.getD_some, Code.fst, Code.snd, Code.bin, Code.lin, Code.sin, Code.yes, Code.no]; exact rfl⟩ : PLift (S96_0 = _))
theorem C96_wp {ts : List AVal} {st : ASt} {Q : APost} (h : Wp E 96 S96_0 ts st Q) : Wp E 96 C96 ts st Q := by
  have e : ∀ n ts st, aexec E 96 (rw E) (drawB E 96) n C96 ts st = aexec E 96 (rw E) (drawB E 96) n (S96_0) ts st := by
    intro n ts st
    have e1 : C96 = (.seq (code Tryd.f96).fst (.seq (code Tryd.f96).snd.fst (code Tryd.f96).snd.snd)) := rfl
    rw [e1] <;>
    simp only [S96_0, aexec_seq, aseq_assoc]
  refine aw_congr e ?_
  exact h
theorem ce_96 {x0 : AVal} {st : ASt} {r : AEnd × ASt} (h : ∀ g : Nat → AVal, g 0 = x0 → Wp E 96 C96 (Sl 7 g) st (fun e ts st => aend E Tryd.f96 (some (e, ts, st)) = some r)) : rw E 96 [x0] st = some r :=
  ce_of (fn := Tryd.f96) (c := C96) rfl rfl rfl (Nat.le_of_ble_eq_true rfl) fun g hg => h g (hg 0 x0 rfl)
theorem cx_96 {x0 : AVal} {st : ASt} {R : AEnd → ASt → Prop} (h : ∀ g : Nat → AVal, g 0 = x0 → Wp E 96 C96 (Sl 7 g) st (fun e ts st => ∃ r st', aend E Tryd.f96 (some (e, ts, st)) = some (r, st') ∧ R r st')) : ∃ r st', rw E 96 [x0] st = some (r, st') ∧ R r st' :=
  cx_of (fn := Tryd.f96) (c := C96) rfl rfl rfl (Nat.le_of_ble_eq_true rfl) fun g hg => h g (hg 0 x0 rfl)

/-! ### math.Trunc -/
noncomputable def C97 : Code := (code Tryd.f97)
noncomputable def S97_0 : Code := .seq ((code Tryd.f97).fst) (.seq ((code Tryd.f97).snd.fst) (.seq ((code Tryd.f97).snd.snd.fst) ((code Tryd.f97).snd.snd.snd)))
noncomputable def S97_0_e := (⟨by simp only [S97_0, code, Tryd.f97, Option.getD_some, Code.fst, Code.snd, Code.bin, Code.lin, Code.sin, Code.yes, Code.no]; exact rfl⟩ : PLift (S97_0 = _))
theorem C97_wp {ts : List AVal} {st : ASt} {Q : APost} (h : Wp E 97 S97_0 ts st Q) : Wp E 97 C97 ts st Q := by
  have e : ∀ n ts st, aexec E 97 (rw E) (drawB E 97) n C97 ts st = aexec E 97 (rw E) (drawB E 97) n (S97_0) ts st := by
    intro n ts st
    have e1 : C97 = (.seq (code Tryd.f97).fst (.seq (code Tryd.f97).snd.fst (.seq (code Tryd.f97).snd.snd.fst (code Tryd.f97).snd.snd.snd))) := rfl
    rw [e1] <;>
    simp only [S97_0, aexec_seq, aseq_assoc]
  refine aw_congr e ?_
  exact h
theorem ce_97 {x0 : AVal} {st : ASt} {r : AEnd × ASt} (h : ∀ g : Nat → AVal, g 0 = x0 → Wp E 97 C97 (Sl 7 g) st (fun e ts st => aend E Tryd.f97 (some (e, ts, st)) = some r)) : rw E 97 [x0] st = some r :=
  ce_of (fn := Tryd.f97) (c := C97) rfl rfl rfl (Nat.le_of_ble_eq_true rfl) fun g hg => h g (hg 0 x0 rfl)
theorem cx_97 {x0 : AVal} {st : ASt} {R : AEnd → ASt → Prop} (h : ∀ g : Nat → AVal, g 0 = x0 → Wp E 97 C97 (Sl 7 g) st (fun e ts st => ∃ r st', aend E Tryd.f97 (some (e, ts, st)) = some (r, st') ∧ R r st')) : ∃ r st', rw E 97 [x0] st = some (r, st') ∧ R r st' :=
  cx_of (fn := Tryd.f97) (c := C97) rfl rfl rfl (Nat.le_of_ble_eq_true rfl) fun g hg => h g (hg 0 x0 rfl)
theorem cf_114 (a : List AVal) (st : ASt) : callFuncA E.P 114 a st = some (.enter 114 a st) := rfl
end Go.Proofs.YtlpdplchcpkajaaDoorV
