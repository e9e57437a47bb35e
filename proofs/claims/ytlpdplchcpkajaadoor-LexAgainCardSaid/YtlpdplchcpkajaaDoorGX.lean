/- What walks through these functions need: pieces of their code, single operations reckoned. No condition. -/
import Derived.Test.YtlpdplchcpkajaaDoorEA
import Derived.Test.YtlpdplchcpkajaaDoorAK
import Derived.Test.YtlpdplchcpkajaaDoorST
namespace Go.Proofs.YtlpdplchcpkajaaDoorV
open Go Go.RowKit Go.Proofs.YtlpdplchcpkajaaDoorA
set_option linter.unusedVariables false
set_option linter.unusedSimpArgs false
set_option maxRecDepth 100000

/-! ### braidwork/braidworklaw03.word -/
noncomputable def N74_0 : Code := (code Tryd.f74)
noncomputable def R74_0 : Code := (code Tryd.f74).fst
noncomputable def R74_0_p := (⟨by simp only [R74_0, code, Tryd.f74, Option.getD_some, Code.fst, Code.snd, Code.bin, Code.lin, Code.sin, Code.yes, Code.no, Code.ops, poM, po, poG, dstOf, List.getElem?_cons_succ, List.getElem?_cons_zero]; exact rfl⟩ : PLift (poM (Code.ops R74_0).toList (Code.ops R74_0).toList = _))
noncomputable def R74_0_e := (⟨fun k Q ts st => g_region (id := 0) (ops := Code.ops R74_0) R74_0_p.down⟩ : PLift (∀ (k : List Frm) (Q : APost) (ts : List AVal) (st : ASt), Gc E 74 R74_0 k Q ts st = Go E 74 _ k Q ts st))
noncomputable def N74_1 : Code := (code Tryd.f74).snd
noncomputable def R74_1 : Code := (code Tryd.f74).snd.fst
noncomputable def R74_1_p := (⟨by simp only [R74_1, code, Tryd.f74, Option.getD_some, Code.fst, Code.snd, Code.bin, Code.lin, Code.sin, Code.yes, Code.no, Code.ops, poM, po, poG, dstOf, List.getElem?_cons_succ, List.getElem?_cons_zero]; exact rfl⟩ : PLift (poM (Code.ops R74_1).toList (Code.ops R74_1).toList = _))
noncomputable def R74_1_e := (⟨fun k Q ts st => g_region (id := 1) (ops := Code.ops R74_1) R74_1_p.down⟩ : PLift (∀ (k : List Frm) (Q : APost) (ts : List AVal) (st : ASt), Gc E 74 R74_1 k Q ts st = Go E 74 _ k Q ts st))
theorem N74_1_e (k : List Frm) (Q : APost) (ts : List AVal) (st : ASt) : Gc E 74 N74_1 k Q ts st = Gc E 74 (.seq R74_1 .ret) k Q ts st := _root_.id rfl
theorem N74_0_e (k : List Frm) (Q : APost) (ts : List AVal) (st : ASt) : Gc E 74 N74_0 k Q ts st = Gc E 74 (.seq R74_0 N74_1) k Q ts st := _root_.id rfl
theorem en_74 {x0 x1 : AVal} {st : ASt} {R : AEnd → ASt → Prop} (h : ∀ g : Nat → AVal, g 0 = x0 → g 1 = x1 → Gc E 74 N74_0 [] (RQ E Tryd.f74 R) (Sl 35 g) st) : ∃ r st', rw E 74 [x0, x1] st = some (r, st') ∧ R r st' :=
  en_of (fn := Tryd.f74) (c := N74_0) rfl rfl rfl (Nat.le_of_ble_eq_true rfl) fun g hg => h g (hg 0 x0 rfl) (hg 1 x1 rfl)
theorem rq_74 (R : AEnd → ASt → Prop) (g : Nat → AVal) (st : ASt) : RQ E Tryd.f74 R .ret (Sl 35 g) st = R (.returned (g 4)) st := by
  rw [rq_gen (.inl rfl), show (Tryd.f74).results.toList = [.tmp 4] from rfl]
  simp only [aresB, sl_get, Nat.reduceLT, ↓reduceIte, bindK_some, tup]
theorem rqn_74 (R : AEnd → ASt → Prop) (g : Nat → AVal) (st : ASt) : RQ E Tryd.f74 R .normal (Sl 35 g) st = R (.returned (g 4)) st := by
  rw [rq_gen (.inr rfl), show (Tryd.f74).results.toList = [.tmp 4] from rfl]
  simp only [aresB, sl_get, Nat.reduceLT, ↓reduceIte, bindK_some, tup]

/-! ### braidwork/braidworklaw03.long -/
noncomputable def N75_0 : Code := (code Tryd.f75)
noncomputable def R75_0 : Code := (code Tryd.f75).fst
noncomputable def R75_0_p := (⟨by simp only [R75_0, code, Tryd.f75, Option.getD_some, Code.fst, Code.snd, Code.bin, Code.lin, Code.sin, Code.yes, Code.no, Code.ops, poM, po, poG, dstOf, List.getElem?_cons_succ, List.getElem?_cons_zero]; exact rfl⟩ : PLift (poM (Code.ops R75_0).toList (Code.ops R75_0).toList = _))
noncomputable def R75_0_e := (⟨fun k Q ts st => g_region (id := 0) (ops := Code.ops R75_0) R75_0_p.down⟩ : PLift (∀ (k : List Frm) (Q : APost) (ts : List AVal) (st : ASt), Gc E 75 R75_0 k Q ts st = Go E 75 _ k Q ts st))
noncomputable def N75_1 : Code := (code Tryd.f75).snd
noncomputable def N75_2 : Code := (code Tryd.f75).snd.fst
noncomputable def R75_1 : Code := (code Tryd.f75).snd.fst.fst
noncomputable def R75_1_p := (⟨by simp only [R75_1, code, Tryd.f75, Option.getD_some, Code.fst, Code.snd, Code.bin, Code.lin, Code.sin, Code.yes, Code.no, Code.ops, poM, po, poG, dstOf, List.getElem?_cons_succ, List.getElem?_cons_zero]; exact rfl⟩ : PLift (poM (Code.ops R75_1).toList (Code.ops R75_1).toList = _))
noncomputable def R75_1_e := (⟨fun k Q ts st => g_region (id := 1) (ops := Code.ops R75_1) R75_1_p.down⟩ : PLift (∀ (k : List Frm) (Q : APost) (ts : List AVal) (st : ASt), Gc E 75 R75_1 k Q ts st = Go E 75 _ k Q ts st))
noncomputable def N75_3 : Code := (code Tryd.f75).snd.fst.snd
noncomputable def L75_0 : Code := (code Tryd.f75).snd.fst.snd.bin.lin
noncomputable def R75_2 : Code := (code Tryd.f75).snd.fst.snd.bin.lin.fst
noncomputable def R75_2_p := (⟨by simp only [R75_2, code, Tryd.f75, Option.getD_some, Code.fst, Code.snd, Code.bin, Code.lin, Code.sin, Code.yes, Code.no, Code.ops, poM, po, poG, dstOf, List.getElem?_cons_succ, List.getElem?_cons_zero]; exact rfl⟩ : PLift (poM (Code.ops R75_2).toList (Code.ops R75_2).toList = _))
noncomputable def R75_2_e := (⟨fun k Q ts st => g_region (id := 2) (ops := Code.ops R75_2) R75_2_p.down⟩ : PLift (∀ (k : List Frm) (Q : APost) (ts : List AVal) (st : ASt), Gc E 75 R75_2 k Q ts st = Go E 75 _ k Q ts st))
noncomputable def N75_4 : Code := (code Tryd.f75).snd.fst.snd.bin.lin.snd
noncomputable def N75_5 : Code := (code Tryd.f75).snd.fst.snd.bin.lin.snd.snd
noncomputable def N75_6 : Code := (code Tryd.f75).snd.fst.snd.bin.lin.snd.snd.fst.bin
noncomputable def R75_3 : Code := (code Tryd.f75).snd.fst.snd.bin.lin.snd.snd.fst.bin.fst
noncomputable def R75_3_p := (⟨by simp only [R75_3, code, Tryd.f75, Option.getD_some, Code.fst, Code.snd, Code.bin, Code.lin, Code.sin, Code.yes, Code.no, Code.ops, poM, po, poG, dstOf, List.getElem?_cons_succ, List.getElem?_cons_zero]; exact rfl⟩ : PLift (poM (Code.ops R75_3).toList (Code.ops R75_3).toList = _))
noncomputable def R75_3_e := (⟨fun k Q ts st => g_region (id := 3) (ops := Code.ops R75_3) R75_3_p.down⟩ : PLift (∀ (k : List Frm) (Q : APost) (ts : List AVal) (st : ASt), Gc E 75 R75_3 k Q ts st = Go E 75 _ k Q ts st))
noncomputable def N75_7 : Code := (code Tryd.f75).snd.fst.snd.bin.lin.snd.snd.fst.bin.snd
noncomputable def R75_4 : Code := (code Tryd.f75).snd.fst.snd.bin.lin.snd.snd.fst.bin.snd.fst
noncomputable def R75_4_p := (⟨by simp only [R75_4, code, Tryd.f75, Option.getD_some, Code.fst, Code.snd, Code.bin, Code.lin, Code.sin, Code.yes, Code.no, Code.ops, poM, po, poG, dstOf, List.getElem?_cons_succ, List.getElem?_cons_zero]; exact rfl⟩ : PLift (poM (Code.ops R75_4).toList (Code.ops R75_4).toList = _))
noncomputable def R75_4_e := (⟨fun k Q ts st => g_region (id := 4) (ops := Code.ops R75_4) R75_4_p.down⟩ : PLift (∀ (k : List Frm) (Q : APost) (ts : List AVal) (st : ASt), Gc E 75 R75_4 k Q ts st = Go E 75 _ k Q ts st))
noncomputable def N75_8 : Code := (code Tryd.f75).snd.fst.snd.bin.lin.snd.snd.fst.bin.snd.snd
noncomputable def N75_9 : Code := (code Tryd.f75).snd.fst.snd.bin.lin.snd.snd.fst.bin.snd.snd.yes
noncomputable def R75_5 : Code := (code Tryd.f75).snd.fst.snd.bin.lin.snd.snd.fst.bin.snd.snd.yes.fst
noncomputable def R75_5_p := (⟨by simp only [R75_5, code, Tryd.f75, Option.getD_some, Code.fst, Code.snd, Code.bin, Code.lin, Code.sin, Code.yes, Code.no, Code.ops, poM, po, poG, dstOf, List.getElem?_cons_succ, List.getElem?_cons_zero]; exact rfl⟩ : PLift (poM (Code.ops R75_5).toList (Code.ops R75_5).toList = _))
noncomputable def R75_5_e := (⟨fun k Q ts st => g_region (id := 5) (ops := Code.ops R75_5) R75_5_p.down⟩ : PLift (∀ (k : List Frm) (Q : APost) (ts : List AVal) (st : ASt), Gc E 75 R75_5 k Q ts st = Go E 75 _ k Q ts st))
theorem N75_9_e (k : List Frm) (Q : APost) (ts : List AVal) (st : ASt) : Gc E 75 N75_9 k Q ts st = Gc E 75 (.seq R75_5 .ret) k Q ts st := _root_.id rfl
theorem N75_8_e (k : List Frm) (Q : APost) (ts : List AVal) (st : ASt) : Gc E 75 N75_8 k Q ts st = Gc E 75 (.cond (.tmp 34) N75_9 .skip) k Q ts st := _root_.id rfl
theorem N75_7_e (k : List Frm) (Q : APost) (ts : List AVal) (st : ASt) : Gc E 75 N75_7 k Q ts st = Gc E 75 (.seq R75_4 N75_8) k Q ts st := _root_.id rfl
theorem N75_6_e (k : List Frm) (Q : APost) (ts : List AVal) (st : ASt) : Gc E 75 N75_6 k Q ts st = Gc E 75 (.seq R75_3 N75_7) k Q ts st := _root_.id rfl
noncomputable def N75_10 : Code := (code Tryd.f75).snd.fst.snd.bin.lin.snd.snd.snd
noncomputable def R75_6 : Code := (code Tryd.f75).snd.fst.snd.bin.lin.snd.snd.snd
noncomputable def R75_6_p := (⟨by simp only [R75_6, code, Tryd.f75, Option.getD_some, Code.fst, Code.snd, Code.bin, Code.lin, Code.sin, Code.yes, Code.no, Code.ops, poM, po, poG, dstOf, List.getElem?_cons_succ, List.getElem?_cons_zero]; exact rfl⟩ : PLift (poM (Code.ops R75_6).toList (Code.ops R75_6).toList = _))
noncomputable def R75_6_e := (⟨fun k Q ts st => g_region (id := 6) (ops := Code.ops R75_6) R75_6_p.down⟩ : PLift (∀ (k : List Frm) (Q : APost) (ts : List AVal) (st : ASt), Gc E 75 R75_6 k Q ts st = Go E 75 _ k Q ts st))
theorem N75_10_e (k : List Frm) (Q : APost) (ts : List AVal) (st : ASt) : Gc E 75 N75_10 k Q ts st = Gc E 75 R75_6 k Q ts st := _root_.id rfl
theorem N75_5_e (k : List Frm) (Q : APost) (ts : List AVal) (st : ASt) : Gc E 75 N75_5 k Q ts st = Gc E 75 (.seq (.block 1 N75_6) N75_10) k Q ts st := _root_.id rfl
theorem N75_4_e (k : List Frm) (Q : APost) (ts : List AVal) (st : ASt) : Gc E 75 N75_4 k Q ts st = Gc E 75 (.seq (.cond (.tmp 9) .skip (.exit 0)) N75_5) k Q ts st := _root_.id rfl
theorem L75_0_e (k : List Frm) (Q : APost) (ts : List AVal) (st : ASt) : Gc E 75 L75_0 k Q ts st = Gc E 75 (.seq R75_2 N75_4) k Q ts st := _root_.id rfl
theorem N75_3_e (k : List Frm) (Q : APost) (ts : List AVal) (st : ASt) : Gc E 75 N75_3 k Q ts st = Gc E 75 (.block 0 (.loop L75_0)) k Q ts st := _root_.id rfl
theorem N75_2_e (k : List Frm) (Q : APost) (ts : List AVal) (st : ASt) : Gc E 75 N75_2 k Q ts st = Gc E 75 (.seq R75_1 N75_3) k Q ts st := _root_.id rfl
noncomputable def N75_11 : Code := (code Tryd.f75).snd.snd
noncomputable def R75_7 : Code := (code Tryd.f75).snd.snd.fst
noncomputable def R75_7_p := (⟨by simp only [R75_7, code, Tryd.f75, Option.getD_some, Code.fst, Code.snd, Code.bin, Code.lin, Code.sin, Code.yes, Code.no, Code.ops, poM, po, poG, dstOf, List.getElem?_cons_succ, List.getElem?_cons_zero]; exact rfl⟩ : PLift (poM (Code.ops R75_7).toList (Code.ops R75_7).toList = _))
noncomputable def R75_7_e := (⟨fun k Q ts st => g_region (id := 7) (ops := Code.ops R75_7) R75_7_p.down⟩ : PLift (∀ (k : List Frm) (Q : APost) (ts : List AVal) (st : ASt), Gc E 75 R75_7 k Q ts st = Go E 75 _ k Q ts st))
theorem N75_11_e (k : List Frm) (Q : APost) (ts : List AVal) (st : ASt) : Gc E 75 N75_11 k Q ts st = Gc E 75 (.seq R75_7 .ret) k Q ts st := _root_.id rfl
theorem N75_1_e (k : List Frm) (Q : APost) (ts : List AVal) (st : ASt) : Gc E 75 N75_1 k Q ts st = Gc E 75 (.seq N75_2 N75_11) k Q ts st := _root_.id rfl
theorem N75_0_e (k : List Frm) (Q : APost) (ts : List AVal) (st : ASt) : Gc E 75 N75_0 k Q ts st = Gc E 75 (.seq R75_0 N75_1) k Q ts st := _root_.id rfl
theorem en_75 {x0 x1 : AVal} {st : ASt} {R : AEnd → ASt → Prop} (h : ∀ g : Nat → AVal, g 0 = x0 → g 1 = x1 → Gc E 75 N75_0 [] (RQ E Tryd.f75 R) (Sl 39 g) st) : ∃ r st', rw E 75 [x0, x1] st = some (r, st') ∧ R r st' :=
  en_of (fn := Tryd.f75) (c := N75_0) rfl rfl rfl (Nat.le_of_ble_eq_true rfl) fun g hg => h g (hg 0 x0 rfl) (hg 1 x1 rfl)
theorem rq_75 (R : AEnd → ASt → Prop) (g : Nat → AVal) (st : ASt) : RQ E Tryd.f75 R .ret (Sl 39 g) st = R (.returned (g 4)) st := by
  rw [rq_gen (.inl rfl), show (Tryd.f75).results.toList = [.tmp 4] from rfl]
  simp only [aresB, sl_get, Nat.reduceLT, ↓reduceIte, bindK_some, tup]
theorem rqn_75 (R : AEnd → ASt → Prop) (g : Nat → AVal) (st : ASt) : RQ E Tryd.f75 R .normal (Sl 39 g) st = R (.returned (g 4)) st := by
  rw [rq_gen (.inr rfl), show (Tryd.f75).results.toList = [.tmp 4] from rfl]
  simp only [aresB, sl_get, Nat.reduceLT, ↓reduceIte, bindK_some, tup]
theorem o_lent_9 (mt : Bool) (ty : TypeId) (cs : Array Bool) (s : ByteArray) (st : ASt) : builtinA E.P mt .len #[9] ty cs [.lit (.string s)] st = some (.val (.lit (.int .i64 s.size)) st) := len_str rfl _ _ _ _ _
theorem o_ixt_9 {l : List UInt8} {k : IntKind} {i : Int} (h0 : 0 ≤ i) (h1 : i < l.length) : pureV E.P (Instr.index 9 (.string ⟨l.toArray⟩) (.int k i)) = some (.lit (.int .u8 ((l[i.toNat]'(by omega)).toNat : Int))) := ix_str rfl h0 h1
theorem cf_74 (a : List AVal) (st : ASt) : callFuncA E.P 74 a st = some (.enter 74 a st) := rfl

/-! ### braidwork/braidworklaw03.Token -/
noncomputable def N54_0 : Code := (code Tryd.f54)
noncomputable def R54_0 : Code := (code Tryd.f54).fst
noncomputable def R54_0_p := (⟨by simp only [R54_0, code, Tryd.f54, Option.getD_some, Code.fst, Code.snd, Code.bin, Code.lin, Code.sin, Code.yes, Code.no, Code.ops, poM, po, poG, dstOf, List.getElem?_cons_succ, List.getElem?_cons_zero]; exact rfl⟩ : PLift (poM (Code.ops R54_0).toList (Code.ops R54_0).toList = _))
noncomputable def R54_0_e := (⟨fun k Q ts st => g_region (id := 0) (ops := Code.ops R54_0) R54_0_p.down⟩ : PLift (∀ (k : List Frm) (Q : APost) (ts : List AVal) (st : ASt), Gc E 54 R54_0 k Q ts st = Go E 54 _ k Q ts st))
noncomputable def N54_1 : Code := (code Tryd.f54).snd
noncomputable def N54_2 : Code := (code Tryd.f54).snd.fst
noncomputable def R54_1 : Code := (code Tryd.f54).snd.fst.fst
noncomputable def R54_1_p := (⟨by simp only [R54_1, code, Tryd.f54, Option.getD_some, Code.fst, Code.snd, Code.bin, Code.lin, Code.sin, Code.yes, Code.no, Code.ops, poM, po, poG, dstOf, List.getElem?_cons_succ, List.getElem?_cons_zero]; exact rfl⟩ : PLift (poM (Code.ops R54_1).toList (Code.ops R54_1).toList = _))
noncomputable def R54_1_e := (⟨fun k Q ts st => g_region (id := 1) (ops := Code.ops R54_1) R54_1_p.down⟩ : PLift (∀ (k : List Frm) (Q : APost) (ts : List AVal) (st : ASt), Gc E 54 R54_1 k Q ts st = Go E 54 _ k Q ts st))
noncomputable def N54_3 : Code := (code Tryd.f54).snd.fst.snd
noncomputable def N54_4 : Code := (code Tryd.f54).snd.fst.snd.yes
noncomputable def R54_2 : Code := (code Tryd.f54).snd.fst.snd.yes.fst
noncomputable def R54_2_p := (⟨by simp only [R54_2, code, Tryd.f54, Option.getD_some, Code.fst, Code.snd, Code.bin, Code.lin, Code.sin, Code.yes, Code.no, Code.ops, poM, po, poG, dstOf, List.getElem?_cons_succ, List.getElem?_cons_zero]; exact rfl⟩ : PLift (poM (Code.ops R54_2).toList (Code.ops R54_2).toList = _))
noncomputable def R54_2_e := (⟨fun k Q ts st => g_region (id := 2) (ops := Code.ops R54_2) R54_2_p.down⟩ : PLift (∀ (k : List Frm) (Q : APost) (ts : List AVal) (st : ASt), Gc E 54 R54_2 k Q ts st = Go E 54 _ k Q ts st))
theorem N54_4_e (k : List Frm) (Q : APost) (ts : List AVal) (st : ASt) : Gc E 54 N54_4 k Q ts st = Gc E 54 (.seq R54_2 .ret) k Q ts st := _root_.id rfl
theorem N54_3_e (k : List Frm) (Q : APost) (ts : List AVal) (st : ASt) : Gc E 54 N54_3 k Q ts st = Gc E 54 (.cond (.tmp 12) N54_4 .skip) k Q ts st := _root_.id rfl
theorem N54_2_e (k : List Frm) (Q : APost) (ts : List AVal) (st : ASt) : Gc E 54 N54_2 k Q ts st = Gc E 54 (.seq R54_1 N54_3) k Q ts st := _root_.id rfl
noncomputable def N54_5 : Code := (code Tryd.f54).snd.snd
noncomputable def N54_6 : Code := (code Tryd.f54).snd.snd.fst
noncomputable def R54_3 : Code := (code Tryd.f54).snd.snd.fst.fst
noncomputable def R54_3_p := (⟨by simp only [R54_3, code, Tryd.f54, Option.getD_some, Code.fst, Code.snd, Code.bin, Code.lin, Code.sin, Code.yes, Code.no, Code.ops, poM, po, poG, dstOf, List.getElem?_cons_succ, List.getElem?_cons_zero]; exact rfl⟩ : PLift (poM (Code.ops R54_3).toList (Code.ops R54_3).toList = _))
noncomputable def R54_3_e := (⟨fun k Q ts st => g_region (id := 3) (ops := Code.ops R54_3) R54_3_p.down⟩ : PLift (∀ (k : List Frm) (Q : APost) (ts : List AVal) (st : ASt), Gc E 54 R54_3 k Q ts st = Go E 54 _ k Q ts st))
noncomputable def N54_7 : Code := (code Tryd.f54).snd.snd.fst.snd
noncomputable def R54_4 : Code := (code Tryd.f54).snd.snd.fst.snd.fst
noncomputable def R54_4_p := (⟨by simp only [R54_4, code, Tryd.f54, Option.getD_some, Code.fst, Code.snd, Code.bin, Code.lin, Code.sin, Code.yes, Code.no, Code.ops, poM, po, poG, dstOf, List.getElem?_cons_succ, List.getElem?_cons_zero]; exact rfl⟩ : PLift (poM (Code.ops R54_4).toList (Code.ops R54_4).toList = _))
noncomputable def R54_4_e := (⟨fun k Q ts st => g_region (id := 4) (ops := Code.ops R54_4) R54_4_p.down⟩ : PLift (∀ (k : List Frm) (Q : APost) (ts : List AVal) (st : ASt), Gc E 54 R54_4 k Q ts st = Go E 54 _ k Q ts st))
noncomputable def N54_8 : Code := (code Tryd.f54).snd.snd.fst.snd.snd
noncomputable def N54_9 : Code := (code Tryd.f54).snd.snd.fst.snd.snd.yes
noncomputable def R54_5 : Code := (code Tryd.f54).snd.snd.fst.snd.snd.yes.fst
noncomputable def R54_5_p := (⟨by simp only [R54_5, code, Tryd.f54, Option.getD_some, Code.fst, Code.snd, Code.bin, Code.lin, Code.sin, Code.yes, Code.no, Code.ops, poM, po, poG, dstOf, List.getElem?_cons_succ, List.getElem?_cons_zero]; exact rfl⟩ : PLift (poM (Code.ops R54_5).toList (Code.ops R54_5).toList = _))
noncomputable def R54_5_e := (⟨fun k Q ts st => g_region (id := 5) (ops := Code.ops R54_5) R54_5_p.down⟩ : PLift (∀ (k : List Frm) (Q : APost) (ts : List AVal) (st : ASt), Gc E 54 R54_5 k Q ts st = Go E 54 _ k Q ts st))
noncomputable def N54_10 : Code := (code Tryd.f54).snd.snd.fst.snd.snd.yes.snd
noncomputable def N54_11 : Code := (code Tryd.f54).snd.snd.fst.snd.snd.yes.snd.fst
noncomputable def R54_6 : Code := (code Tryd.f54).snd.snd.fst.snd.snd.yes.snd.fst.fst
noncomputable def R54_6_p := (⟨by simp only [R54_6, code, Tryd.f54, Option.getD_some, Code.fst, Code.snd, Code.bin, Code.lin, Code.sin, Code.yes, Code.no, Code.ops, poM, po, poG, dstOf, List.getElem?_cons_succ, List.getElem?_cons_zero]; exact rfl⟩ : PLift (poM (Code.ops R54_6).toList (Code.ops R54_6).toList = _))
noncomputable def R54_6_e := (⟨fun k Q ts st => g_region (id := 6) (ops := Code.ops R54_6) R54_6_p.down⟩ : PLift (∀ (k : List Frm) (Q : APost) (ts : List AVal) (st : ASt), Gc E 54 R54_6 k Q ts st = Go E 54 _ k Q ts st))
noncomputable def N54_12 : Code := (code Tryd.f54).snd.snd.fst.snd.snd.yes.snd.fst.snd
noncomputable def N54_13 : Code := (code Tryd.f54).snd.snd.fst.snd.snd.yes.snd.fst.snd.yes
noncomputable def R54_7 : Code := (code Tryd.f54).snd.snd.fst.snd.snd.yes.snd.fst.snd.yes
noncomputable def R54_7_p := (⟨by simp only [R54_7, code, Tryd.f54, Option.getD_some, Code.fst, Code.snd, Code.bin, Code.lin, Code.sin, Code.yes, Code.no, Code.ops, poM, po, poG, dstOf, List.getElem?_cons_succ, List.getElem?_cons_zero]; exact rfl⟩ : PLift (poM (Code.ops R54_7).toList (Code.ops R54_7).toList = _))
noncomputable def R54_7_e := (⟨fun k Q ts st => g_region (id := 7) (ops := Code.ops R54_7) R54_7_p.down⟩ : PLift (∀ (k : List Frm) (Q : APost) (ts : List AVal) (st : ASt), Gc E 54 R54_7 k Q ts st = Go E 54 _ k Q ts st))
theorem N54_13_e (k : List Frm) (Q : APost) (ts : List AVal) (st : ASt) : Gc E 54 N54_13 k Q ts st = Gc E 54 R54_7 k Q ts st := _root_.id rfl
theorem N54_12_e (k : List Frm) (Q : APost) (ts : List AVal) (st : ASt) : Gc E 54 N54_12 k Q ts st = Gc E 54 (.cond (.tmp 29) N54_13 .skip) k Q ts st := _root_.id rfl
theorem N54_11_e (k : List Frm) (Q : APost) (ts : List AVal) (st : ASt) : Gc E 54 N54_11 k Q ts st = Gc E 54 (.seq R54_6 N54_12) k Q ts st := _root_.id rfl
noncomputable def N54_14 : Code := (code Tryd.f54).snd.snd.fst.snd.snd.yes.snd.snd
noncomputable def N54_15 : Code := (code Tryd.f54).snd.snd.fst.snd.snd.yes.snd.snd.fst
noncomputable def R54_8 : Code := (code Tryd.f54).snd.snd.fst.snd.snd.yes.snd.snd.fst.fst
noncomputable def R54_8_p := (⟨by simp only [R54_8, code, Tryd.f54, Option.getD_some, Code.fst, Code.snd, Code.bin, Code.lin, Code.sin, Code.yes, Code.no, Code.ops, poM, po, poG, dstOf, List.getElem?_cons_succ, List.getElem?_cons_zero]; exact rfl⟩ : PLift (poM (Code.ops R54_8).toList (Code.ops R54_8).toList = _))
noncomputable def R54_8_e := (⟨fun k Q ts st => g_region (id := 8) (ops := Code.ops R54_8) R54_8_p.down⟩ : PLift (∀ (k : List Frm) (Q : APost) (ts : List AVal) (st : ASt), Gc E 54 R54_8 k Q ts st = Go E 54 _ k Q ts st))
noncomputable def N54_16 : Code := (code Tryd.f54).snd.snd.fst.snd.snd.yes.snd.snd.fst.snd
noncomputable def N54_17 : Code := (code Tryd.f54).snd.snd.fst.snd.snd.yes.snd.snd.fst.snd.yes
noncomputable def R54_9 : Code := (code Tryd.f54).snd.snd.fst.snd.snd.yes.snd.snd.fst.snd.yes.fst
noncomputable def R54_9_p := (⟨by simp only [R54_9, code, Tryd.f54, Option.getD_some, Code.fst, Code.snd, Code.bin, Code.lin, Code.sin, Code.yes, Code.no, Code.ops, poM, po, poG, dstOf, List.getElem?_cons_succ, List.getElem?_cons_zero]; exact rfl⟩ : PLift (poM (Code.ops R54_9).toList (Code.ops R54_9).toList = _))
noncomputable def R54_9_e := (⟨fun k Q ts st => g_region (id := 9) (ops := Code.ops R54_9) R54_9_p.down⟩ : PLift (∀ (k : List Frm) (Q : APost) (ts : List AVal) (st : ASt), Gc E 54 R54_9 k Q ts st = Go E 54 _ k Q ts st))
theorem N54_17_e (k : List Frm) (Q : APost) (ts : List AVal) (st : ASt) : Gc E 54 N54_17 k Q ts st = Gc E 54 (.seq R54_9 .ret) k Q ts st := _root_.id rfl
theorem N54_16_e (k : List Frm) (Q : APost) (ts : List AVal) (st : ASt) : Gc E 54 N54_16 k Q ts st = Gc E 54 (.cond (.tmp 41) N54_17 .skip) k Q ts st := _root_.id rfl
theorem N54_15_e (k : List Frm) (Q : APost) (ts : List AVal) (st : ASt) : Gc E 54 N54_15 k Q ts st = Gc E 54 (.seq R54_8 N54_16) k Q ts st := _root_.id rfl
noncomputable def N54_18 : Code := (code Tryd.f54).snd.snd.fst.snd.snd.yes.snd.snd.snd
noncomputable def N54_19 : Code := (code Tryd.f54).snd.snd.fst.snd.snd.yes.snd.snd.snd.fst
noncomputable def R54_10 : Code := (code Tryd.f54).snd.snd.fst.snd.snd.yes.snd.snd.snd.fst.fst
noncomputable def R54_10_p := (⟨by simp only [R54_10, code, Tryd.f54, Option.getD_some, Code.fst, Code.snd, Code.bin, Code.lin, Code.sin, Code.yes, Code.no, Code.ops, poM, po, poG, dstOf, List.getElem?_cons_succ, List.getElem?_cons_zero]; exact rfl⟩ : PLift (poM (Code.ops R54_10).toList (Code.ops R54_10).toList = _))
noncomputable def R54_10_e := (⟨fun k Q ts st => g_region (id := 10) (ops := Code.ops R54_10) R54_10_p.down⟩ : PLift (∀ (k : List Frm) (Q : APost) (ts : List AVal) (st : ASt), Gc E 54 R54_10 k Q ts st = Go E 54 _ k Q ts st))
noncomputable def N54_20 : Code := (code Tryd.f54).snd.snd.fst.snd.snd.yes.snd.snd.snd.fst.snd
noncomputable def N54_21 : Code := (code Tryd.f54).snd.snd.fst.snd.snd.yes.snd.snd.snd.fst.snd.yes
noncomputable def R54_11 : Code := (code Tryd.f54).snd.snd.fst.snd.snd.yes.snd.snd.snd.fst.snd.yes.fst
noncomputable def R54_11_p := (⟨by simp only [R54_11, code, Tryd.f54, Option.getD_some, Code.fst, Code.snd, Code.bin, Code.lin, Code.sin, Code.yes, Code.no, Code.ops, poM, po, poG, dstOf, List.getElem?_cons_succ, List.getElem?_cons_zero]; exact rfl⟩ : PLift (poM (Code.ops R54_11).toList (Code.ops R54_11).toList = _))
noncomputable def R54_11_e := (⟨fun k Q ts st => g_region (id := 11) (ops := Code.ops R54_11) R54_11_p.down⟩ : PLift (∀ (k : List Frm) (Q : APost) (ts : List AVal) (st : ASt), Gc E 54 R54_11 k Q ts st = Go E 54 _ k Q ts st))
theorem N54_21_e (k : List Frm) (Q : APost) (ts : List AVal) (st : ASt) : Gc E 54 N54_21 k Q ts st = Gc E 54 (.seq R54_11 .ret) k Q ts st := _root_.id rfl
theorem N54_20_e (k : List Frm) (Q : APost) (ts : List AVal) (st : ASt) : Gc E 54 N54_20 k Q ts st = Gc E 54 (.cond (.tmp 62) N54_21 .skip) k Q ts st := _root_.id rfl
theorem N54_19_e (k : List Frm) (Q : APost) (ts : List AVal) (st : ASt) : Gc E 54 N54_19 k Q ts st = Gc E 54 (.seq R54_10 N54_20) k Q ts st := _root_.id rfl
noncomputable def N54_22 : Code := (code Tryd.f54).snd.snd.fst.snd.snd.yes.snd.snd.snd.snd
noncomputable def R54_12 : Code := (code Tryd.f54).snd.snd.fst.snd.snd.yes.snd.snd.snd.snd.fst
noncomputable def R54_12_p := (⟨by simp only [R54_12, code, Tryd.f54, Option.getD_some, Code.fst, Code.snd, Code.bin, Code.lin, Code.sin, Code.yes, Code.no, Code.ops, poM, po, poG, dstOf, List.getElem?_cons_succ, List.getElem?_cons_zero]; exact rfl⟩ : PLift (poM (Code.ops R54_12).toList (Code.ops R54_12).toList = _))
noncomputable def R54_12_e := (⟨fun k Q ts st => g_region (id := 12) (ops := Code.ops R54_12) R54_12_p.down⟩ : PLift (∀ (k : List Frm) (Q : APost) (ts : List AVal) (st : ASt), Gc E 54 R54_12 k Q ts st = Go E 54 _ k Q ts st))
noncomputable def N54_23 : Code := (code Tryd.f54).snd.snd.fst.snd.snd.yes.snd.snd.snd.snd.snd
noncomputable def N54_24 : Code := (code Tryd.f54).snd.snd.fst.snd.snd.yes.snd.snd.snd.snd.snd.fst
noncomputable def R54_13 : Code := (code Tryd.f54).snd.snd.fst.snd.snd.yes.snd.snd.snd.snd.snd.fst.fst
noncomputable def R54_13_p := (⟨by simp only [R54_13, code, Tryd.f54, Option.getD_some, Code.fst, Code.snd, Code.bin, Code.lin, Code.sin, Code.yes, Code.no, Code.ops, poM, po, poG, dstOf, List.getElem?_cons_succ, List.getElem?_cons_zero]; exact rfl⟩ : PLift (poM (Code.ops R54_13).toList (Code.ops R54_13).toList = _))
noncomputable def R54_13_e := (⟨fun k Q ts st => g_region (id := 13) (ops := Code.ops R54_13) R54_13_p.down⟩ : PLift (∀ (k : List Frm) (Q : APost) (ts : List AVal) (st : ASt), Gc E 54 R54_13 k Q ts st = Go E 54 _ k Q ts st))
noncomputable def N54_25 : Code := (code Tryd.f54).snd.snd.fst.snd.snd.yes.snd.snd.snd.snd.snd.fst.snd
noncomputable def L54_0 : Code := (code Tryd.f54).snd.snd.fst.snd.snd.yes.snd.snd.snd.snd.snd.fst.snd.bin.lin
noncomputable def R54_14 : Code := (code Tryd.f54).snd.snd.fst.snd.snd.yes.snd.snd.snd.snd.snd.fst.snd.bin.lin.fst
noncomputable def R54_14_p := (⟨by simp only [R54_14, code, Tryd.f54, Option.getD_some, Code.fst, Code.snd, Code.bin, Code.lin, Code.sin, Code.yes, Code.no, Code.ops, poM, po, poG, dstOf, List.getElem?_cons_succ, List.getElem?_cons_zero]; exact rfl⟩ : PLift (poM (Code.ops R54_14).toList (Code.ops R54_14).toList = _))
noncomputable def R54_14_e := (⟨fun k Q ts st => g_region (id := 14) (ops := Code.ops R54_14) R54_14_p.down⟩ : PLift (∀ (k : List Frm) (Q : APost) (ts : List AVal) (st : ASt), Gc E 54 R54_14 k Q ts st = Go E 54 _ k Q ts st))
noncomputable def N54_26 : Code := (code Tryd.f54).snd.snd.fst.snd.snd.yes.snd.snd.snd.snd.snd.fst.snd.bin.lin.snd
noncomputable def N54_27 : Code := (code Tryd.f54).snd.snd.fst.snd.snd.yes.snd.snd.snd.snd.snd.fst.snd.bin.lin.snd.snd
noncomputable def N54_28 : Code := (code Tryd.f54).snd.snd.fst.snd.snd.yes.snd.snd.snd.snd.snd.fst.snd.bin.lin.snd.snd.fst.bin
noncomputable def R54_15 : Code := (code Tryd.f54).snd.snd.fst.snd.snd.yes.snd.snd.snd.snd.snd.fst.snd.bin.lin.snd.snd.fst.bin.fst
noncomputable def R54_15_p := (⟨by simp only [R54_15, code, Tryd.f54, Option.getD_some, Code.fst, Code.snd, Code.bin, Code.lin, Code.sin, Code.yes, Code.no, Code.ops, poM, po, poG, dstOf, List.getElem?_cons_succ, List.getElem?_cons_zero]; exact rfl⟩ : PLift (poM (Code.ops R54_15).toList (Code.ops R54_15).toList = _))
noncomputable def R54_15_e := (⟨fun k Q ts st => g_region (id := 15) (ops := Code.ops R54_15) R54_15_p.down⟩ : PLift (∀ (k : List Frm) (Q : APost) (ts : List AVal) (st : ASt), Gc E 54 R54_15 k Q ts st = Go E 54 _ k Q ts st))
noncomputable def N54_29 : Code := (code Tryd.f54).snd.snd.fst.snd.snd.yes.snd.snd.snd.snd.snd.fst.snd.bin.lin.snd.snd.fst.bin.snd
noncomputable def R54_16 : Code := (code Tryd.f54).snd.snd.fst.snd.snd.yes.snd.snd.snd.snd.snd.fst.snd.bin.lin.snd.snd.fst.bin.snd
noncomputable def R54_16_p := (⟨by simp only [R54_16, code, Tryd.f54, Option.getD_some, Code.fst, Code.snd, Code.bin, Code.lin, Code.sin, Code.yes, Code.no, Code.ops, poM, po, poG, dstOf, List.getElem?_cons_succ, List.getElem?_cons_zero]; exact rfl⟩ : PLift (poM (Code.ops R54_16).toList (Code.ops R54_16).toList = _))
noncomputable def R54_16_e := (⟨fun k Q ts st => g_region (id := 16) (ops := Code.ops R54_16) R54_16_p.down⟩ : PLift (∀ (k : List Frm) (Q : APost) (ts : List AVal) (st : ASt), Gc E 54 R54_16 k Q ts st = Go E 54 _ k Q ts st))
theorem N54_29_e (k : List Frm) (Q : APost) (ts : List AVal) (st : ASt) : Gc E 54 N54_29 k Q ts st = Gc E 54 R54_16 k Q ts st := _root_.id rfl
theorem N54_28_e (k : List Frm) (Q : APost) (ts : List AVal) (st : ASt) : Gc E 54 N54_28 k Q ts st = Gc E 54 (.seq R54_15 N54_29) k Q ts st := _root_.id rfl
noncomputable def N54_30 : Code := (code Tryd.f54).snd.snd.fst.snd.snd.yes.snd.snd.snd.snd.snd.fst.snd.bin.lin.snd.snd.snd
noncomputable def R54_17 : Code := (code Tryd.f54).snd.snd.fst.snd.snd.yes.snd.snd.snd.snd.snd.fst.snd.bin.lin.snd.snd.snd
noncomputable def R54_17_p := (⟨by simp only [R54_17, code, Tryd.f54, Option.getD_some, Code.fst, Code.snd, Code.bin, Code.lin, Code.sin, Code.yes, Code.no, Code.ops, poM, po, poG, dstOf, List.getElem?_cons_succ, List.getElem?_cons_zero]; exact rfl⟩ : PLift (poM (Code.ops R54_17).toList (Code.ops R54_17).toList = _))
noncomputable def R54_17_e := (⟨fun k Q ts st => g_region (id := 17) (ops := Code.ops R54_17) R54_17_p.down⟩ : PLift (∀ (k : List Frm) (Q : APost) (ts : List AVal) (st : ASt), Gc E 54 R54_17 k Q ts st = Go E 54 _ k Q ts st))
theorem N54_30_e (k : List Frm) (Q : APost) (ts : List AVal) (st : ASt) : Gc E 54 N54_30 k Q ts st = Gc E 54 R54_17 k Q ts st := _root_.id rfl
theorem N54_27_e (k : List Frm) (Q : APost) (ts : List AVal) (st : ASt) : Gc E 54 N54_27 k Q ts st = Gc E 54 (.seq (.block 1 N54_28) N54_30) k Q ts st := _root_.id rfl
theorem N54_26_e (k : List Frm) (Q : APost) (ts : List AVal) (st : ASt) : Gc E 54 N54_26 k Q ts st = Gc E 54 (.seq (.cond (.tmp 65) .skip (.exit 0)) N54_27) k Q ts st := _root_.id rfl
theorem L54_0_e (k : List Frm) (Q : APost) (ts : List AVal) (st : ASt) : Gc E 54 L54_0 k Q ts st = Gc E 54 (.seq R54_14 N54_26) k Q ts st := _root_.id rfl
theorem N54_25_e (k : List Frm) (Q : APost) (ts : List AVal) (st : ASt) : Gc E 54 N54_25 k Q ts st = Gc E 54 (.block 0 (.loop L54_0)) k Q ts st := _root_.id rfl
theorem N54_24_e (k : List Frm) (Q : APost) (ts : List AVal) (st : ASt) : Gc E 54 N54_24 k Q ts st = Gc E 54 (.seq R54_13 N54_25) k Q ts st := _root_.id rfl
noncomputable def N54_31 : Code := (code Tryd.f54).snd.snd.fst.snd.snd.yes.snd.snd.snd.snd.snd.snd
noncomputable def N54_32 : Code := (code Tryd.f54).snd.snd.fst.snd.snd.yes.snd.snd.snd.snd.snd.snd.fst
noncomputable def R54_18 : Code := (code Tryd.f54).snd.snd.fst.snd.snd.yes.snd.snd.snd.snd.snd.snd.fst.fst
noncomputable def R54_18_p := (⟨by simp only [R54_18, code, Tryd.f54, Option.getD_some, Code.fst, Code.snd, Code.bin, Code.lin, Code.sin, Code.yes, Code.no, Code.ops, poM, po, poG, dstOf, List.getElem?_cons_succ, List.getElem?_cons_zero]; exact rfl⟩ : PLift (poM (Code.ops R54_18).toList (Code.ops R54_18).toList = _))
noncomputable def R54_18_e := (⟨fun k Q ts st => g_region (id := 18) (ops := Code.ops R54_18) R54_18_p.down⟩ : PLift (∀ (k : List Frm) (Q : APost) (ts : List AVal) (st : ASt), Gc E 54 R54_18 k Q ts st = Go E 54 _ k Q ts st))
noncomputable def N54_33 : Code := (code Tryd.f54).snd.snd.fst.snd.snd.yes.snd.snd.snd.snd.snd.snd.fst.snd
noncomputable def N54_34 : Code := (code Tryd.f54).snd.snd.fst.snd.snd.yes.snd.snd.snd.snd.snd.snd.fst.snd.yes
noncomputable def R54_19 : Code := (code Tryd.f54).snd.snd.fst.snd.snd.yes.snd.snd.snd.snd.snd.snd.fst.snd.yes.fst
noncomputable def R54_19_p := (⟨by simp only [R54_19, code, Tryd.f54, Option.getD_some, Code.fst, Code.snd, Code.bin, Code.lin, Code.sin, Code.yes, Code.no, Code.ops, poM, po, poG, dstOf, List.getElem?_cons_succ, List.getElem?_cons_zero]; exact rfl⟩ : PLift (poM (Code.ops R54_19).toList (Code.ops R54_19).toList = _))
noncomputable def R54_19_e := (⟨fun k Q ts st => g_region (id := 19) (ops := Code.ops R54_19) R54_19_p.down⟩ : PLift (∀ (k : List Frm) (Q : APost) (ts : List AVal) (st : ASt), Gc E 54 R54_19 k Q ts st = Go E 54 _ k Q ts st))
theorem N54_34_e (k : List Frm) (Q : APost) (ts : List AVal) (st : ASt) : Gc E 54 N54_34 k Q ts st = Gc E 54 (.seq R54_19 .ret) k Q ts st := _root_.id rfl
theorem N54_33_e (k : List Frm) (Q : APost) (ts : List AVal) (st : ASt) : Gc E 54 N54_33 k Q ts st = Gc E 54 (.cond (.tmp 77) N54_34 .skip) k Q ts st := _root_.id rfl
theorem N54_32_e (k : List Frm) (Q : APost) (ts : List AVal) (st : ASt) : Gc E 54 N54_32 k Q ts st = Gc E 54 (.seq R54_18 N54_33) k Q ts st := _root_.id rfl
noncomputable def N54_35 : Code := (code Tryd.f54).snd.snd.fst.snd.snd.yes.snd.snd.snd.snd.snd.snd.snd
noncomputable def N54_36 : Code := (code Tryd.f54).snd.snd.fst.snd.snd.yes.snd.snd.snd.snd.snd.snd.snd.fst
noncomputable def R54_20 : Code := (code Tryd.f54).snd.snd.fst.snd.snd.yes.snd.snd.snd.snd.snd.snd.snd.fst.fst
noncomputable def R54_20_p := (⟨by simp only [R54_20, code, Tryd.f54, Option.getD_some, Code.fst, Code.snd, Code.bin, Code.lin, Code.sin, Code.yes, Code.no, Code.ops, poM, po, poG, dstOf, List.getElem?_cons_succ, List.getElem?_cons_zero]; exact rfl⟩ : PLift (poM (Code.ops R54_20).toList (Code.ops R54_20).toList = _))
noncomputable def R54_20_e := (⟨fun k Q ts st => g_region (id := 20) (ops := Code.ops R54_20) R54_20_p.down⟩ : PLift (∀ (k : List Frm) (Q : APost) (ts : List AVal) (st : ASt), Gc E 54 R54_20 k Q ts st = Go E 54 _ k Q ts st))
noncomputable def N54_37 : Code := (code Tryd.f54).snd.snd.fst.snd.snd.yes.snd.snd.snd.snd.snd.snd.snd.fst.snd
noncomputable def N54_38 : Code := (code Tryd.f54).snd.snd.fst.snd.snd.yes.snd.snd.snd.snd.snd.snd.snd.fst.snd.yes
noncomputable def R54_21 : Code := (code Tryd.f54).snd.snd.fst.snd.snd.yes.snd.snd.snd.snd.snd.snd.snd.fst.snd.yes.fst
noncomputable def R54_21_p := (⟨by simp only [R54_21, code, Tryd.f54, Option.getD_some, Code.fst, Code.snd, Code.bin, Code.lin, Code.sin, Code.yes, Code.no, Code.ops, poM, po, poG, dstOf, List.getElem?_cons_succ, List.getElem?_cons_zero]; exact rfl⟩ : PLift (poM (Code.ops R54_21).toList (Code.ops R54_21).toList = _))
noncomputable def R54_21_e := (⟨fun k Q ts st => g_region (id := 21) (ops := Code.ops R54_21) R54_21_p.down⟩ : PLift (∀ (k : List Frm) (Q : APost) (ts : List AVal) (st : ASt), Gc E 54 R54_21 k Q ts st = Go E 54 _ k Q ts st))
theorem N54_38_e (k : List Frm) (Q : APost) (ts : List AVal) (st : ASt) : Gc E 54 N54_38 k Q ts st = Gc E 54 (.seq R54_21 .ret) k Q ts st := _root_.id rfl
theorem N54_37_e (k : List Frm) (Q : APost) (ts : List AVal) (st : ASt) : Gc E 54 N54_37 k Q ts st = Gc E 54 (.cond (.tmp 80) N54_38 .skip) k Q ts st := _root_.id rfl
theorem N54_36_e (k : List Frm) (Q : APost) (ts : List AVal) (st : ASt) : Gc E 54 N54_36 k Q ts st = Gc E 54 (.seq R54_20 N54_37) k Q ts st := _root_.id rfl
noncomputable def N54_39 : Code := (code Tryd.f54).snd.snd.fst.snd.snd.yes.snd.snd.snd.snd.snd.snd.snd.snd
noncomputable def R54_22 : Code := (code Tryd.f54).snd.snd.fst.snd.snd.yes.snd.snd.snd.snd.snd.snd.snd.snd.fst
noncomputable def R54_22_p := (⟨by simp only [R54_22, code, Tryd.f54, Option.getD_some, Code.fst, Code.snd, Code.bin, Code.lin, Code.sin, Code.yes, Code.no, Code.ops, poM, po, poG, dstOf, List.getElem?_cons_succ, List.getElem?_cons_zero]; exact rfl⟩ : PLift (poM (Code.ops R54_22).toList (Code.ops R54_22).toList = _))
noncomputable def R54_22_e := (⟨fun k Q ts st => g_region (id := 22) (ops := Code.ops R54_22) R54_22_p.down⟩ : PLift (∀ (k : List Frm) (Q : APost) (ts : List AVal) (st : ASt), Gc E 54 R54_22 k Q ts st = Go E 54 _ k Q ts st))
theorem N54_39_e (k : List Frm) (Q : APost) (ts : List AVal) (st : ASt) : Gc E 54 N54_39 k Q ts st = Gc E 54 (.seq R54_22 .ret) k Q ts st := _root_.id rfl
theorem N54_35_e (k : List Frm) (Q : APost) (ts : List AVal) (st : ASt) : Gc E 54 N54_35 k Q ts st = Gc E 54 (.seq N54_36 N54_39) k Q ts st := _root_.id rfl
theorem N54_31_e (k : List Frm) (Q : APost) (ts : List AVal) (st : ASt) : Gc E 54 N54_31 k Q ts st = Gc E 54 (.seq N54_32 N54_35) k Q ts st := _root_.id rfl
theorem N54_23_e (k : List Frm) (Q : APost) (ts : List AVal) (st : ASt) : Gc E 54 N54_23 k Q ts st = Gc E 54 (.seq N54_24 N54_31) k Q ts st := _root_.id rfl
theorem N54_22_e (k : List Frm) (Q : APost) (ts : List AVal) (st : ASt) : Gc E 54 N54_22 k Q ts st = Gc E 54 (.seq R54_12 N54_23) k Q ts st := _root_.id rfl
theorem N54_18_e (k : List Frm) (Q : APost) (ts : List AVal) (st : ASt) : Gc E 54 N54_18 k Q ts st = Gc E 54 (.seq N54_19 N54_22) k Q ts st := _root_.id rfl
theorem N54_14_e (k : List Frm) (Q : APost) (ts : List AVal) (st : ASt) : Gc E 54 N54_14 k Q ts st = Gc E 54 (.seq N54_15 N54_18) k Q ts st := _root_.id rfl
theorem N54_10_e (k : List Frm) (Q : APost) (ts : List AVal) (st : ASt) : Gc E 54 N54_10 k Q ts st = Gc E 54 (.seq N54_11 N54_14) k Q ts st := _root_.id rfl
theorem N54_9_e (k : List Frm) (Q : APost) (ts : List AVal) (st : ASt) : Gc E 54 N54_9 k Q ts st = Gc E 54 (.seq R54_5 N54_10) k Q ts st := _root_.id rfl
theorem N54_8_e (k : List Frm) (Q : APost) (ts : List AVal) (st : ASt) : Gc E 54 N54_8 k Q ts st = Gc E 54 (.cond (.tmp 18) N54_9 .skip) k Q ts st := _root_.id rfl
theorem N54_7_e (k : List Frm) (Q : APost) (ts : List AVal) (st : ASt) : Gc E 54 N54_7 k Q ts st = Gc E 54 (.seq R54_4 N54_8) k Q ts st := _root_.id rfl
theorem N54_6_e (k : List Frm) (Q : APost) (ts : List AVal) (st : ASt) : Gc E 54 N54_6 k Q ts st = Gc E 54 (.seq R54_3 N54_7) k Q ts st := _root_.id rfl
noncomputable def N54_40 : Code := (code Tryd.f54).snd.snd.snd
noncomputable def N54_41 : Code := (code Tryd.f54).snd.snd.snd.fst
noncomputable def R54_23 : Code := (code Tryd.f54).snd.snd.snd.fst.fst
noncomputable def R54_23_p := (⟨by simp only [R54_23, code, Tryd.f54, Option.getD_some, Code.fst, Code.snd, Code.bin, Code.lin, Code.sin, Code.yes, Code.no, Code.ops, poM, po, poG, dstOf, List.getElem?_cons_succ, List.getElem?_cons_zero]; exact rfl⟩ : PLift (poM (Code.ops R54_23).toList (Code.ops R54_23).toList = _))
noncomputable def R54_23_e := (⟨fun k Q ts st => g_region (id := 23) (ops := Code.ops R54_23) R54_23_p.down⟩ : PLift (∀ (k : List Frm) (Q : APost) (ts : List AVal) (st : ASt), Gc E 54 R54_23 k Q ts st = Go E 54 _ k Q ts st))
noncomputable def N54_42 : Code := (code Tryd.f54).snd.snd.snd.fst.snd
noncomputable def N54_43 : Code := (code Tryd.f54).snd.snd.snd.fst.snd.yes
noncomputable def R54_24 : Code := (code Tryd.f54).snd.snd.snd.fst.snd.yes.fst
noncomputable def R54_24_p := (⟨by simp only [R54_24, code, Tryd.f54, Option.getD_some, Code.fst, Code.snd, Code.bin, Code.lin, Code.sin, Code.yes, Code.no, Code.ops, poM, po, poG, dstOf, List.getElem?_cons_succ, List.getElem?_cons_zero]; exact rfl⟩ : PLift (poM (Code.ops R54_24).toList (Code.ops R54_24).toList = _))
noncomputable def R54_24_e := (⟨fun k Q ts st => g_region (id := 24) (ops := Code.ops R54_24) R54_24_p.down⟩ : PLift (∀ (k : List Frm) (Q : APost) (ts : List AVal) (st : ASt), Gc E 54 R54_24 k Q ts st = Go E 54 _ k Q ts st))
theorem N54_43_e (k : List Frm) (Q : APost) (ts : List AVal) (st : ASt) : Gc E 54 N54_43 k Q ts st = Gc E 54 (.seq R54_24 .ret) k Q ts st := _root_.id rfl
theorem N54_42_e (k : List Frm) (Q : APost) (ts : List AVal) (st : ASt) : Gc E 54 N54_42 k Q ts st = Gc E 54 (.cond (.tmp 94) N54_43 .skip) k Q ts st := _root_.id rfl
theorem N54_41_e (k : List Frm) (Q : APost) (ts : List AVal) (st : ASt) : Gc E 54 N54_41 k Q ts st = Gc E 54 (.seq R54_23 N54_42) k Q ts st := _root_.id rfl
noncomputable def N54_44 : Code := (code Tryd.f54).snd.snd.snd.snd
noncomputable def N54_45 : Code := (code Tryd.f54).snd.snd.snd.snd.fst
noncomputable def R54_25 : Code := (code Tryd.f54).snd.snd.snd.snd.fst.fst
noncomputable def R54_25_p := (⟨by simp only [R54_25, code, Tryd.f54, Option.getD_some, Code.fst, Code.snd, Code.bin, Code.lin, Code.sin, Code.yes, Code.no, Code.ops, poM, po, poG, dstOf, List.getElem?_cons_succ, List.getElem?_cons_zero]; exact rfl⟩ : PLift (poM (Code.ops R54_25).toList (Code.ops R54_25).toList = _))
noncomputable def R54_25_e := (⟨fun k Q ts st => g_region (id := 25) (ops := Code.ops R54_25) R54_25_p.down⟩ : PLift (∀ (k : List Frm) (Q : APost) (ts : List AVal) (st : ASt), Gc E 54 R54_25 k Q ts st = Go E 54 _ k Q ts st))
noncomputable def N54_46 : Code := (code Tryd.f54).snd.snd.snd.snd.fst.snd
noncomputable def N54_47 : Code := (code Tryd.f54).snd.snd.snd.snd.fst.snd.yes
noncomputable def R54_26 : Code := (code Tryd.f54).snd.snd.snd.snd.fst.snd.yes.fst
noncomputable def R54_26_p := (⟨by simp only [R54_26, code, Tryd.f54, Option.getD_some, Code.fst, Code.snd, Code.bin, Code.lin, Code.sin, Code.yes, Code.no, Code.ops, poM, po, poG, dstOf, List.getElem?_cons_succ, List.getElem?_cons_zero]; exact rfl⟩ : PLift (poM (Code.ops R54_26).toList (Code.ops R54_26).toList = _))
noncomputable def R54_26_e := (⟨fun k Q ts st => g_region (id := 26) (ops := Code.ops R54_26) R54_26_p.down⟩ : PLift (∀ (k : List Frm) (Q : APost) (ts : List AVal) (st : ASt), Gc E 54 R54_26 k Q ts st = Go E 54 _ k Q ts st))
theorem N54_47_e (k : List Frm) (Q : APost) (ts : List AVal) (st : ASt) : Gc E 54 N54_47 k Q ts st = Gc E 54 (.seq R54_26 .ret) k Q ts st := _root_.id rfl
theorem N54_46_e (k : List Frm) (Q : APost) (ts : List AVal) (st : ASt) : Gc E 54 N54_46 k Q ts st = Gc E 54 (.cond (.tmp 98) N54_47 .skip) k Q ts st := _root_.id rfl
theorem N54_45_e (k : List Frm) (Q : APost) (ts : List AVal) (st : ASt) : Gc E 54 N54_45 k Q ts st = Gc E 54 (.seq R54_25 N54_46) k Q ts st := _root_.id rfl
noncomputable def N54_48 : Code := (code Tryd.f54).snd.snd.snd.snd.snd
noncomputable def R54_27 : Code := (code Tryd.f54).snd.snd.snd.snd.snd.fst
noncomputable def R54_27_p := (⟨by simp only [R54_27, code, Tryd.f54, Option.getD_some, Code.fst, Code.snd, Code.bin, Code.lin, Code.sin, Code.yes, Code.no, Code.ops, poM, po, poG, dstOf, List.getElem?_cons_succ, List.getElem?_cons_zero]; exact rfl⟩ : PLift (poM (Code.ops R54_27).toList (Code.ops R54_27).toList = _))
noncomputable def R54_27_e := (⟨fun k Q ts st => g_region (id := 27) (ops := Code.ops R54_27) R54_27_p.down⟩ : PLift (∀ (k : List Frm) (Q : APost) (ts : List AVal) (st : ASt), Gc E 54 R54_27 k Q ts st = Go E 54 _ k Q ts st))
theorem N54_48_e (k : List Frm) (Q : APost) (ts : List AVal) (st : ASt) : Gc E 54 N54_48 k Q ts st = Gc E 54 (.seq R54_27 .ret) k Q ts st := _root_.id rfl
theorem N54_44_e (k : List Frm) (Q : APost) (ts : List AVal) (st : ASt) : Gc E 54 N54_44 k Q ts st = Gc E 54 (.seq N54_45 N54_48) k Q ts st := _root_.id rfl
theorem N54_40_e (k : List Frm) (Q : APost) (ts : List AVal) (st : ASt) : Gc E 54 N54_40 k Q ts st = Gc E 54 (.seq N54_41 N54_44) k Q ts st := _root_.id rfl
theorem N54_5_e (k : List Frm) (Q : APost) (ts : List AVal) (st : ASt) : Gc E 54 N54_5 k Q ts st = Gc E 54 (.seq N54_6 N54_40) k Q ts st := _root_.id rfl
theorem N54_1_e (k : List Frm) (Q : APost) (ts : List AVal) (st : ASt) : Gc E 54 N54_1 k Q ts st = Gc E 54 (.seq N54_2 N54_5) k Q ts st := _root_.id rfl
theorem N54_0_e (k : List Frm) (Q : APost) (ts : List AVal) (st : ASt) : Gc E 54 N54_0 k Q ts st = Gc E 54 (.seq R54_0 N54_1) k Q ts st := _root_.id rfl
theorem en_54 {x0 : AVal} {st : ASt} {R : AEnd → ASt → Prop} (h : ∀ g : Nat → AVal, g 0 = x0 → Gc E 54 N54_0 [] (RQ E Tryd.f54 R) (Sl 99 g) st) : ∃ r st', rw E 54 [x0] st = some (r, st') ∧ R r st' :=
  en_of (fn := Tryd.f54) (c := N54_0) rfl rfl rfl (Nat.le_of_ble_eq_true rfl) fun g hg => h g (hg 0 x0 rfl)
theorem rq_54 (R : AEnd → ASt → Prop) (g : Nat → AVal) (st : ASt) : RQ E Tryd.f54 R .ret (Sl 99 g) st = R (.returned (.tuple [g 2, g 3, g 4, g 5])) st := by
  rw [rq_gen (.inl rfl), show (Tryd.f54).results.toList = [.tmp 2, .tmp 3, .tmp 4, .tmp 5] from rfl]
  simp only [aresB, sl_get, Nat.reduceLT, ↓reduceIte, bindK_some, tup]
theorem rqn_54 (R : AEnd → ASt → Prop) (g : Nat → AVal) (st : ASt) : RQ E Tryd.f54 R .normal (Sl 99 g) st = R (.returned (.tuple [g 2, g 3, g 4, g 5])) st := by
  rw [rq_gen (.inr rfl), show (Tryd.f54).results.toList = [.tmp 2, .tmp 3, .tmp 4, .tmp 5] from rfl]
  simp only [aresB, sl_get, Nat.reduceLT, ↓reduceIte, bindK_some, tup]
theorem cf_75 (a : List AVal) (st : ASt) : callFuncA E.P 75 a st = some (.enter 75 a st) := rfl
theorem o_cv_5_3 (mt : Bool) (n : Int) (st : ASt) : convA E.P mt 5 3 (.lit (.int .u8 n)) st = some (.lit (.int .i64 (IntKind.i64.wrap n)), st) := c_int rfl rfl
theorem hint_54_83 : E.hint 54 83 = false := rfl
theorem hint_54_87 : E.hint 54 87 = false := rfl
theorem cf_26 (a : List AVal) (st : ASt) : callFuncA E.P 26 a st = some (.enter 26 a st) := rfl
theorem cf_53 (a : List AVal) (st : ASt) : callFuncA E.P 53 a st = some (.enter 53 a st) := rfl

/-! ### braidwork/braidworklaw03.Split -/
noncomputable def N27_0 : Code := (code Tryd.f27)
noncomputable def R27_0 : Code := (code Tryd.f27).fst
noncomputable def R27_0_p := (⟨by simp only [R27_0, code, Tryd.f27, Option.getD_some, Code.fst, Code.snd, Code.bin, Code.lin, Code.sin, Code.yes, Code.no, Code.ops, poM, po, poG, dstOf, List.getElem?_cons_succ, List.getElem?_cons_zero]; exact rfl⟩ : PLift (poM (Code.ops R27_0).toList (Code.ops R27_0).toList = _))
noncomputable def R27_0_e := (⟨fun k Q ts st => g_region (id := 0) (ops := Code.ops R27_0) R27_0_p.down⟩ : PLift (∀ (k : List Frm) (Q : APost) (ts : List AVal) (st : ASt), Gc E 27 R27_0 k Q ts st = Go E 27 _ k Q ts st))
noncomputable def N27_1 : Code := (code Tryd.f27).snd
noncomputable def R27_1 : Code := (code Tryd.f27).snd.fst
noncomputable def R27_1_p := (⟨by simp only [R27_1, code, Tryd.f27, Option.getD_some, Code.fst, Code.snd, Code.bin, Code.lin, Code.sin, Code.yes, Code.no, Code.ops, poM, po, poG, dstOf, List.getElem?_cons_succ, List.getElem?_cons_zero]; exact rfl⟩ : PLift (poM (Code.ops R27_1).toList (Code.ops R27_1).toList = _))
noncomputable def R27_1_e := (⟨fun k Q ts st => g_region (id := 1) (ops := Code.ops R27_1) R27_1_p.down⟩ : PLift (∀ (k : List Frm) (Q : APost) (ts : List AVal) (st : ASt), Gc E 27 R27_1 k Q ts st = Go E 27 _ k Q ts st))
noncomputable def N27_2 : Code := (code Tryd.f27).snd.snd
noncomputable def N27_3 : Code := (code Tryd.f27).snd.snd.fst
noncomputable def R27_2 : Code := (code Tryd.f27).snd.snd.fst.fst
noncomputable def R27_2_p := (⟨by simp only [R27_2, code, Tryd.f27, Option.getD_some, Code.fst, Code.snd, Code.bin, Code.lin, Code.sin, Code.yes, Code.no, Code.ops, poM, po, poG, dstOf, List.getElem?_cons_succ, List.getElem?_cons_zero]; exact rfl⟩ : PLift (poM (Code.ops R27_2).toList (Code.ops R27_2).toList = _))
noncomputable def R27_2_e := (⟨fun k Q ts st => g_region (id := 2) (ops := Code.ops R27_2) R27_2_p.down⟩ : PLift (∀ (k : List Frm) (Q : APost) (ts : List AVal) (st : ASt), Gc E 27 R27_2 k Q ts st = Go E 27 _ k Q ts st))
noncomputable def N27_4 : Code := (code Tryd.f27).snd.snd.fst.snd
noncomputable def L27_0 : Code := (code Tryd.f27).snd.snd.fst.snd.bin.lin
noncomputable def N27_5 : Code := (code Tryd.f27).snd.snd.fst.snd.bin.lin.fst
noncomputable def R27_3 : Code := (code Tryd.f27).snd.snd.fst.snd.bin.lin.fst.fst
noncomputable def R27_3_p := (⟨by simp only [R27_3, code, Tryd.f27, Option.getD_some, Code.fst, Code.snd, Code.bin, Code.lin, Code.sin, Code.yes, Code.no, Code.ops, poM, po, poG, dstOf, List.getElem?_cons_succ, List.getElem?_cons_zero]; exact rfl⟩ : PLift (poM (Code.ops R27_3).toList (Code.ops R27_3).toList = _))
noncomputable def R27_3_e := (⟨fun k Q ts st => g_region (id := 3) (ops := Code.ops R27_3) R27_3_p.down⟩ : PLift (∀ (k : List Frm) (Q : APost) (ts : List AVal) (st : ASt), Gc E 27 R27_3 k Q ts st = Go E 27 _ k Q ts st))
noncomputable def N27_6 : Code := (code Tryd.f27).snd.snd.fst.snd.bin.lin.fst.snd
theorem N27_6_e (k : List Frm) (Q : APost) (ts : List AVal) (st : ASt) : Gc E 27 N27_6 k Q ts st = Gc E 27 (.cond (.tmp 15) .skip (.exit 0)) k Q ts st := _root_.id rfl
theorem N27_5_e (k : List Frm) (Q : APost) (ts : List AVal) (st : ASt) : Gc E 27 N27_5 k Q ts st = Gc E 27 (.seq R27_3 N27_6) k Q ts st := _root_.id rfl
noncomputable def N27_7 : Code := (code Tryd.f27).snd.snd.fst.snd.bin.lin.snd
noncomputable def N27_8 : Code := (code Tryd.f27).snd.snd.fst.snd.bin.lin.snd.bin
noncomputable def N27_9 : Code := (code Tryd.f27).snd.snd.fst.snd.bin.lin.snd.bin.fst
noncomputable def R27_4 : Code := (code Tryd.f27).snd.snd.fst.snd.bin.lin.snd.bin.fst.fst
noncomputable def R27_4_p := (⟨by simp only [R27_4, code, Tryd.f27, Option.getD_some, Code.fst, Code.snd, Code.bin, Code.lin, Code.sin, Code.yes, Code.no, Code.ops, poM, po, poG, dstOf, List.getElem?_cons_succ, List.getElem?_cons_zero]; exact rfl⟩ : PLift (poM (Code.ops R27_4).toList (Code.ops R27_4).toList = _))
noncomputable def R27_4_e := (⟨fun k Q ts st => g_region (id := 4) (ops := Code.ops R27_4) R27_4_p.down⟩ : PLift (∀ (k : List Frm) (Q : APost) (ts : List AVal) (st : ASt), Gc E 27 R27_4 k Q ts st = Go E 27 _ k Q ts st))
noncomputable def N27_10 : Code := (code Tryd.f27).snd.snd.fst.snd.bin.lin.snd.bin.fst.snd
noncomputable def N27_11 : Code := (code Tryd.f27).snd.snd.fst.snd.bin.lin.snd.bin.fst.snd.yes
noncomputable def R27_5 : Code := (code Tryd.f27).snd.snd.fst.snd.bin.lin.snd.bin.fst.snd.yes.fst
noncomputable def R27_5_p := (⟨by simp only [R27_5, code, Tryd.f27, Option.getD_some, Code.fst, Code.snd, Code.bin, Code.lin, Code.sin, Code.yes, Code.no, Code.ops, poM, po, poG, dstOf, List.getElem?_cons_succ, List.getElem?_cons_zero]; exact rfl⟩ : PLift (poM (Code.ops R27_5).toList (Code.ops R27_5).toList = _))
noncomputable def R27_5_e := (⟨fun k Q ts st => g_region (id := 5) (ops := Code.ops R27_5) R27_5_p.down⟩ : PLift (∀ (k : List Frm) (Q : APost) (ts : List AVal) (st : ASt), Gc E 27 R27_5 k Q ts st = Go E 27 _ k Q ts st))
theorem N27_11_e (k : List Frm) (Q : APost) (ts : List AVal) (st : ASt) : Gc E 27 N27_11 k Q ts st = Gc E 27 (.seq R27_5 (.exit 1)) k Q ts st := _root_.id rfl
theorem N27_10_e (k : List Frm) (Q : APost) (ts : List AVal) (st : ASt) : Gc E 27 N27_10 k Q ts st = Gc E 27 (.cond (.tmp 31) N27_11 .skip) k Q ts st := _root_.id rfl
theorem N27_9_e (k : List Frm) (Q : APost) (ts : List AVal) (st : ASt) : Gc E 27 N27_9 k Q ts st = Gc E 27 (.seq R27_4 N27_10) k Q ts st := _root_.id rfl
noncomputable def N27_12 : Code := (code Tryd.f27).snd.snd.fst.snd.bin.lin.snd.bin.snd
noncomputable def N27_13 : Code := (code Tryd.f27).snd.snd.fst.snd.bin.lin.snd.bin.snd.fst
noncomputable def R27_6 : Code := (code Tryd.f27).snd.snd.fst.snd.bin.lin.snd.bin.snd.fst.fst
noncomputable def R27_6_p := (⟨by simp only [R27_6, code, Tryd.f27, Option.getD_some, Code.fst, Code.snd, Code.bin, Code.lin, Code.sin, Code.yes, Code.no, Code.ops, poM, po, poG, dstOf, List.getElem?_cons_succ, List.getElem?_cons_zero]; exact rfl⟩ : PLift (poM (Code.ops R27_6).toList (Code.ops R27_6).toList = _))
noncomputable def R27_6_e := (⟨fun k Q ts st => g_region (id := 6) (ops := Code.ops R27_6) R27_6_p.down⟩ : PLift (∀ (k : List Frm) (Q : APost) (ts : List AVal) (st : ASt), Gc E 27 R27_6 k Q ts st = Go E 27 _ k Q ts st))
noncomputable def N27_14 : Code := (code Tryd.f27).snd.snd.fst.snd.bin.lin.snd.bin.snd.fst.snd
noncomputable def N27_15 : Code := (code Tryd.f27).snd.snd.fst.snd.bin.lin.snd.bin.snd.fst.snd.yes
noncomputable def R27_7 : Code := (code Tryd.f27).snd.snd.fst.snd.bin.lin.snd.bin.snd.fst.snd.yes.fst
noncomputable def R27_7_p := (⟨by simp only [R27_7, code, Tryd.f27, Option.getD_some, Code.fst, Code.snd, Code.bin, Code.lin, Code.sin, Code.yes, Code.no, Code.ops, poM, po, poG, dstOf, List.getElem?_cons_succ, List.getElem?_cons_zero]; exact rfl⟩ : PLift (poM (Code.ops R27_7).toList (Code.ops R27_7).toList = _))
noncomputable def R27_7_e := (⟨fun k Q ts st => g_region (id := 7) (ops := Code.ops R27_7) R27_7_p.down⟩ : PLift (∀ (k : List Frm) (Q : APost) (ts : List AVal) (st : ASt), Gc E 27 R27_7 k Q ts st = Go E 27 _ k Q ts st))
noncomputable def N27_16 : Code := (code Tryd.f27).snd.snd.fst.snd.bin.lin.snd.bin.snd.fst.snd.yes.snd
noncomputable def N27_17 : Code := (code Tryd.f27).snd.snd.fst.snd.bin.lin.snd.bin.snd.fst.snd.yes.snd.fst
noncomputable def R27_8 : Code := (code Tryd.f27).snd.snd.fst.snd.bin.lin.snd.bin.snd.fst.snd.yes.snd.fst.fst
noncomputable def R27_8_p := (⟨by simp only [R27_8, code, Tryd.f27, Option.getD_some, Code.fst, Code.snd, Code.bin, Code.lin, Code.sin, Code.yes, Code.no, Code.ops, poM, po, poG, dstOf, List.getElem?_cons_succ, List.getElem?_cons_zero]; exact rfl⟩ : PLift (poM (Code.ops R27_8).toList (Code.ops R27_8).toList = _))
noncomputable def R27_8_e := (⟨fun k Q ts st => g_region (id := 8) (ops := Code.ops R27_8) R27_8_p.down⟩ : PLift (∀ (k : List Frm) (Q : APost) (ts : List AVal) (st : ASt), Gc E 27 R27_8 k Q ts st = Go E 27 _ k Q ts st))
noncomputable def N27_18 : Code := (code Tryd.f27).snd.snd.fst.snd.bin.lin.snd.bin.snd.fst.snd.yes.snd.fst.snd
noncomputable def N27_19 : Code := (code Tryd.f27).snd.snd.fst.snd.bin.lin.snd.bin.snd.fst.snd.yes.snd.fst.snd.yes
noncomputable def R27_9 : Code := (code Tryd.f27).snd.snd.fst.snd.bin.lin.snd.bin.snd.fst.snd.yes.snd.fst.snd.yes
noncomputable def R27_9_p := (⟨by simp only [R27_9, code, Tryd.f27, Option.getD_some, Code.fst, Code.snd, Code.bin, Code.lin, Code.sin, Code.yes, Code.no, Code.ops, poM, po, poG, dstOf, List.getElem?_cons_succ, List.getElem?_cons_zero]; exact rfl⟩ : PLift (poM (Code.ops R27_9).toList (Code.ops R27_9).toList = _))
noncomputable def R27_9_e := (⟨fun k Q ts st => g_region (id := 9) (ops := Code.ops R27_9) R27_9_p.down⟩ : PLift (∀ (k : List Frm) (Q : APost) (ts : List AVal) (st : ASt), Gc E 27 R27_9 k Q ts st = Go E 27 _ k Q ts st))
theorem N27_19_e (k : List Frm) (Q : APost) (ts : List AVal) (st : ASt) : Gc E 27 N27_19 k Q ts st = Gc E 27 R27_9 k Q ts st := _root_.id rfl
theorem N27_18_e (k : List Frm) (Q : APost) (ts : List AVal) (st : ASt) : Gc E 27 N27_18 k Q ts st = Gc E 27 (.cond (.tmp 43) N27_19 .skip) k Q ts st := _root_.id rfl
theorem N27_17_e (k : List Frm) (Q : APost) (ts : List AVal) (st : ASt) : Gc E 27 N27_17 k Q ts st = Gc E 27 (.seq R27_8 N27_18) k Q ts st := _root_.id rfl
noncomputable def N27_20 : Code := (code Tryd.f27).snd.snd.fst.snd.bin.lin.snd.bin.snd.fst.snd.yes.snd.snd
noncomputable def R27_10 : Code := (code Tryd.f27).snd.snd.fst.snd.bin.lin.snd.bin.snd.fst.snd.yes.snd.snd.fst
noncomputable def R27_10_p := (⟨by simp only [R27_10, code, Tryd.f27, Option.getD_some, Code.fst, Code.snd, Code.bin, Code.lin, Code.sin, Code.yes, Code.no, Code.ops, poM, po, poG, dstOf, List.getElem?_cons_succ, List.getElem?_cons_zero]; exact rfl⟩ : PLift (poM (Code.ops R27_10).toList (Code.ops R27_10).toList = _))
noncomputable def R27_10_e := (⟨fun k Q ts st => g_region (id := 10) (ops := Code.ops R27_10) R27_10_p.down⟩ : PLift (∀ (k : List Frm) (Q : APost) (ts : List AVal) (st : ASt), Gc E 27 R27_10 k Q ts st = Go E 27 _ k Q ts st))
theorem N27_20_e (k : List Frm) (Q : APost) (ts : List AVal) (st : ASt) : Gc E 27 N27_20 k Q ts st = Gc E 27 (.seq R27_10 (.exit 1)) k Q ts st := _root_.id rfl
theorem N27_16_e (k : List Frm) (Q : APost) (ts : List AVal) (st : ASt) : Gc E 27 N27_16 k Q ts st = Gc E 27 (.seq N27_17 N27_20) k Q ts st := _root_.id rfl
theorem N27_15_e (k : List Frm) (Q : APost) (ts : List AVal) (st : ASt) : Gc E 27 N27_15 k Q ts st = Gc E 27 (.seq R27_7 N27_16) k Q ts st := _root_.id rfl
theorem N27_14_e (k : List Frm) (Q : APost) (ts : List AVal) (st : ASt) : Gc E 27 N27_14 k Q ts st = Gc E 27 (.cond (.tmp 37) N27_15 .skip) k Q ts st := _root_.id rfl
theorem N27_13_e (k : List Frm) (Q : APost) (ts : List AVal) (st : ASt) : Gc E 27 N27_13 k Q ts st = Gc E 27 (.seq R27_6 N27_14) k Q ts st := _root_.id rfl
noncomputable def N27_21 : Code := (code Tryd.f27).snd.snd.fst.snd.bin.lin.snd.bin.snd.snd
noncomputable def R27_11 : Code := (code Tryd.f27).snd.snd.fst.snd.bin.lin.snd.bin.snd.snd.fst
noncomputable def R27_11_p := (⟨by simp only [R27_11, code, Tryd.f27, Option.getD_some, Code.fst, Code.snd, Code.bin, Code.lin, Code.sin, Code.yes, Code.no, Code.ops, poM, po, poG, dstOf, List.getElem?_cons_succ, List.getElem?_cons_zero]; exact rfl⟩ : PLift (poM (Code.ops R27_11).toList (Code.ops R27_11).toList = _))
noncomputable def R27_11_e := (⟨fun k Q ts st => g_region (id := 11) (ops := Code.ops R27_11) R27_11_p.down⟩ : PLift (∀ (k : List Frm) (Q : APost) (ts : List AVal) (st : ASt), Gc E 27 R27_11 k Q ts st = Go E 27 _ k Q ts st))
noncomputable def N27_22 : Code := (code Tryd.f27).snd.snd.fst.snd.bin.lin.snd.bin.snd.snd.snd
noncomputable def N27_23 : Code := (code Tryd.f27).snd.snd.fst.snd.bin.lin.snd.bin.snd.snd.snd.fst
noncomputable def R27_12 : Code := (code Tryd.f27).snd.snd.fst.snd.bin.lin.snd.bin.snd.snd.snd.fst.fst
noncomputable def R27_12_p := (⟨by simp only [R27_12, code, Tryd.f27, Option.getD_some, Code.fst, Code.snd, Code.bin, Code.lin, Code.sin, Code.yes, Code.no, Code.ops, poM, po, poG, dstOf, List.getElem?_cons_succ, List.getElem?_cons_zero]; exact rfl⟩ : PLift (poM (Code.ops R27_12).toList (Code.ops R27_12).toList = _))
noncomputable def R27_12_e := (⟨fun k Q ts st => g_region (id := 12) (ops := Code.ops R27_12) R27_12_p.down⟩ : PLift (∀ (k : List Frm) (Q : APost) (ts : List AVal) (st : ASt), Gc E 27 R27_12 k Q ts st = Go E 27 _ k Q ts st))
noncomputable def N27_24 : Code := (code Tryd.f27).snd.snd.fst.snd.bin.lin.snd.bin.snd.snd.snd.fst.snd
noncomputable def N27_25 : Code := (code Tryd.f27).snd.snd.fst.snd.bin.lin.snd.bin.snd.snd.snd.fst.snd.yes
noncomputable def R27_13 : Code := (code Tryd.f27).snd.snd.fst.snd.bin.lin.snd.bin.snd.snd.snd.fst.snd.yes.fst
noncomputable def R27_13_p := (⟨by simp only [R27_13, code, Tryd.f27, Option.getD_some, Code.fst, Code.snd, Code.bin, Code.lin, Code.sin, Code.yes, Code.no, Code.ops, poM, po, poG, dstOf, List.getElem?_cons_succ, List.getElem?_cons_zero]; exact rfl⟩ : PLift (poM (Code.ops R27_13).toList (Code.ops R27_13).toList = _))
noncomputable def R27_13_e := (⟨fun k Q ts st => g_region (id := 13) (ops := Code.ops R27_13) R27_13_p.down⟩ : PLift (∀ (k : List Frm) (Q : APost) (ts : List AVal) (st : ASt), Gc E 27 R27_13 k Q ts st = Go E 27 _ k Q ts st))
theorem N27_25_e (k : List Frm) (Q : APost) (ts : List AVal) (st : ASt) : Gc E 27 N27_25 k Q ts st = Gc E 27 (.seq R27_13 .ret) k Q ts st := _root_.id rfl
theorem N27_24_e (k : List Frm) (Q : APost) (ts : List AVal) (st : ASt) : Gc E 27 N27_24 k Q ts st = Gc E 27 (.cond (.tmp 61) N27_25 .skip) k Q ts st := _root_.id rfl
theorem N27_23_e (k : List Frm) (Q : APost) (ts : List AVal) (st : ASt) : Gc E 27 N27_23 k Q ts st = Gc E 27 (.seq R27_12 N27_24) k Q ts st := _root_.id rfl
noncomputable def N27_26 : Code := (code Tryd.f27).snd.snd.fst.snd.bin.lin.snd.bin.snd.snd.snd.snd
noncomputable def R27_14 : Code := (code Tryd.f27).snd.snd.fst.snd.bin.lin.snd.bin.snd.snd.snd.snd.fst
noncomputable def R27_14_p := (⟨by simp only [R27_14, code, Tryd.f27, Option.getD_some, Code.fst, Code.snd, Code.bin, Code.lin, Code.sin, Code.yes, Code.no, Code.ops, poM, po, poG, dstOf, List.getElem?_cons_succ, List.getElem?_cons_zero]; exact rfl⟩ : PLift (poM (Code.ops R27_14).toList (Code.ops R27_14).toList = _))
noncomputable def R27_14_e := (⟨fun k Q ts st => g_region (id := 14) (ops := Code.ops R27_14) R27_14_p.down⟩ : PLift (∀ (k : List Frm) (Q : APost) (ts : List AVal) (st : ASt), Gc E 27 R27_14 k Q ts st = Go E 27 _ k Q ts st))
noncomputable def N27_27 : Code := (code Tryd.f27).snd.snd.fst.snd.bin.lin.snd.bin.snd.snd.snd.snd.snd
noncomputable def R27_15 : Code := (code Tryd.f27).snd.snd.fst.snd.bin.lin.snd.bin.snd.snd.snd.snd.snd
noncomputable def R27_15_p := (⟨by simp only [R27_15, code, Tryd.f27, Option.getD_some, Code.fst, Code.snd, Code.bin, Code.lin, Code.sin, Code.yes, Code.no, Code.ops, poM, po, poG, dstOf, List.getElem?_cons_succ, List.getElem?_cons_zero]; exact rfl⟩ : PLift (poM (Code.ops R27_15).toList (Code.ops R27_15).toList = _))
noncomputable def R27_15_e := (⟨fun k Q ts st => g_region (id := 15) (ops := Code.ops R27_15) R27_15_p.down⟩ : PLift (∀ (k : List Frm) (Q : APost) (ts : List AVal) (st : ASt), Gc E 27 R27_15 k Q ts st = Go E 27 _ k Q ts st))
theorem N27_27_e (k : List Frm) (Q : APost) (ts : List AVal) (st : ASt) : Gc E 27 N27_27 k Q ts st = Gc E 27 R27_15 k Q ts st := _root_.id rfl
theorem N27_26_e (k : List Frm) (Q : APost) (ts : List AVal) (st : ASt) : Gc E 27 N27_26 k Q ts st = Gc E 27 (.seq R27_14 N27_27) k Q ts st := _root_.id rfl
theorem N27_22_e (k : List Frm) (Q : APost) (ts : List AVal) (st : ASt) : Gc E 27 N27_22 k Q ts st = Gc E 27 (.seq N27_23 N27_26) k Q ts st := _root_.id rfl
theorem N27_21_e (k : List Frm) (Q : APost) (ts : List AVal) (st : ASt) : Gc E 27 N27_21 k Q ts st = Gc E 27 (.seq R27_11 N27_22) k Q ts st := _root_.id rfl
theorem N27_12_e (k : List Frm) (Q : APost) (ts : List AVal) (st : ASt) : Gc E 27 N27_12 k Q ts st = Gc E 27 (.seq N27_13 N27_21) k Q ts st := _root_.id rfl
theorem N27_8_e (k : List Frm) (Q : APost) (ts : List AVal) (st : ASt) : Gc E 27 N27_8 k Q ts st = Gc E 27 (.seq N27_9 N27_12) k Q ts st := _root_.id rfl
theorem N27_7_e (k : List Frm) (Q : APost) (ts : List AVal) (st : ASt) : Gc E 27 N27_7 k Q ts st = Gc E 27 (.block 1 N27_8) k Q ts st := _root_.id rfl
theorem L27_0_e (k : List Frm) (Q : APost) (ts : List AVal) (st : ASt) : Gc E 27 L27_0 k Q ts st = Gc E 27 (.seq N27_5 N27_7) k Q ts st := _root_.id rfl
theorem N27_4_e (k : List Frm) (Q : APost) (ts : List AVal) (st : ASt) : Gc E 27 N27_4 k Q ts st = Gc E 27 (.block 0 (.loop L27_0)) k Q ts st := _root_.id rfl
theorem N27_3_e (k : List Frm) (Q : APost) (ts : List AVal) (st : ASt) : Gc E 27 N27_3 k Q ts st = Gc E 27 (.seq R27_2 N27_4) k Q ts st := _root_.id rfl
noncomputable def N27_28 : Code := (code Tryd.f27).snd.snd.snd
noncomputable def R27_16 : Code := (code Tryd.f27).snd.snd.snd.fst
noncomputable def R27_16_p := (⟨by simp only [R27_16, code, Tryd.f27, Option.getD_some, Code.fst, Code.snd, Code.bin, Code.lin, Code.sin, Code.yes, Code.no, Code.ops, poM, po, poG, dstOf, List.getElem?_cons_succ, List.getElem?_cons_zero]; exact rfl⟩ : PLift (poM (Code.ops R27_16).toList (Code.ops R27_16).toList = _))
noncomputable def R27_16_e := (⟨fun k Q ts st => g_region (id := 16) (ops := Code.ops R27_16) R27_16_p.down⟩ : PLift (∀ (k : List Frm) (Q : APost) (ts : List AVal) (st : ASt), Gc E 27 R27_16 k Q ts st = Go E 27 _ k Q ts st))
theorem N27_28_e (k : List Frm) (Q : APost) (ts : List AVal) (st : ASt) : Gc E 27 N27_28 k Q ts st = Gc E 27 (.seq R27_16 .ret) k Q ts st := _root_.id rfl
theorem N27_2_e (k : List Frm) (Q : APost) (ts : List AVal) (st : ASt) : Gc E 27 N27_2 k Q ts st = Gc E 27 (.seq N27_3 N27_28) k Q ts st := _root_.id rfl
theorem N27_1_e (k : List Frm) (Q : APost) (ts : List AVal) (st : ASt) : Gc E 27 N27_1 k Q ts st = Gc E 27 (.seq R27_1 N27_2) k Q ts st := _root_.id rfl
theorem N27_0_e (k : List Frm) (Q : APost) (ts : List AVal) (st : ASt) : Gc E 27 N27_0 k Q ts st = Gc E 27 (.seq R27_0 N27_1) k Q ts st := _root_.id rfl
theorem en_27 {x0 : AVal} {st : ASt} {R : AEnd → ASt → Prop} (h : ∀ g : Nat → AVal, g 0 = x0 → Gc E 27 N27_0 [] (RQ E Tryd.f27 R) (Sl 86 g) st) : ∃ r st', rw E 27 [x0] st = some (r, st') ∧ R r st' :=
  en_of (fn := Tryd.f27) (c := N27_0) rfl rfl rfl (Nat.le_of_ble_eq_true rfl) fun g hg => h g (hg 0 x0 rfl)
theorem rq_27 (R : AEnd → ASt → Prop) (g : Nat → AVal) (st : ASt) : RQ E Tryd.f27 R .ret (Sl 86 g) st = R (.returned (.tuple [g 2, g 3, g 4])) st := by
  rw [rq_gen (.inl rfl), show (Tryd.f27).results.toList = [.tmp 2, .tmp 3, .tmp 4] from rfl]
  simp only [aresB, sl_get, Nat.reduceLT, ↓reduceIte, bindK_some, tup]
theorem rqn_27 (R : AEnd → ASt → Prop) (g : Nat → AVal) (st : ASt) : RQ E Tryd.f27 R .normal (Sl 86 g) st = R (.returned (.tuple [g 2, g 3, g 4])) st := by
  rw [rq_gen (.inr rfl), show (Tryd.f27).results.toList = [.tmp 2, .tmp 3, .tmp 4] from rfl]
  simp only [aresB, sl_get, Nat.reduceLT, ↓reduceIte, bindK_some, tup]
theorem o_cut_9_lh {l : List UInt8} {k k2 : IntKind} {a b : Int} (h0 : 0 ≤ a) (h1 : a ≤ b) (h2 : b ≤ l.length) : pureV E.P (Instr.sliceAt 9 (.string ⟨l.toArray⟩) (some (.int k a)) (some (.int k2 b)) none) = some (.lit (.string ⟨((l.take b.toNat).drop a.toNat).toArray⟩)) := cut_lh rfl h0 h1 h2
theorem o_cut_9_l {l : List UInt8} {k : IntKind} {a : Int} (h0 : 0 ≤ a) (h1 : a ≤ l.length) : pureV E.P (Instr.sliceAt 9 (.string ⟨l.toArray⟩) (some (.int k a)) none none) = some (.lit (.string ⟨(l.drop a.toNat).toArray⟩)) := cut_l rfl h0 h1
theorem o_cut_9_h {l : List UInt8} {k : IntKind} {b : Int} (h0 : 0 ≤ b) (h1 : b ≤ l.length) : pureV E.P (Instr.sliceAt 9 (.string ⟨l.toArray⟩) none (some (.int k b)) none) = some (.lit (.string ⟨(l.take b.toNat).toArray⟩)) := cut_h rfl h0 h1
theorem cf_54 (a : List AVal) (st : ASt) : callFuncA E.P 54 a st = some (.enter 54 a st) := rfl
theorem o_bd_52 (ps : List (Nat × AVal)) : buildA E.P 52 ps = (fillA (fun i => ([(0, 1), (1, 1), (2, 1), (3, 1)] : List (Nat × Nat))[i]?) [.lit (.int .i64 0), .lit (.string ⟨#[]⟩), .lit (.complex .f64 0 0), .lit (.int .i64 0)] ps).map .agg := rfl
theorem hint_27_75 : E.hint 27 75 = false := rfl
theorem o_bs_46_1 (ps : List (Nat × AVal)) (st : ASt) : buildSliceA E.P false 46 1 ps st = (setsE true 4 [(.agg [.lit (.int .i64 0), .lit (.string ⟨#[]⟩), .lit (.complex .f64 0 0), .lit (.int .i64 0)])] ps).map (fun es => (.islice 4 es .exact, st)) := bs_i rfl rfl rfl rfl (by decide) rfl ps st
theorem hint_27_76 : E.hint 27 76 = false := rfl
theorem slt_46 : SlT E.P 46 52 true 4 := ⟨rfl, rfl, ⟨_, _, rfl, rfl, by decide, rfl, rfl⟩, by decide⟩
theorem hint_27_84 : E.hint 27 84 = false := rfl
theorem hint_27_85 : E.hint 27 85 = false := rfl

/-! ### braidwork/braidworklaw03.LexSplits -/
noncomputable def N10_0 : Code := (code Tryd.f10)
noncomputable def R10_0 : Code := (code Tryd.f10).fst
noncomputable def R10_0_p := (⟨by simp only [R10_0, code, Tryd.f10, Option.getD_some, Code.fst, Code.snd, Code.bin, Code.lin, Code.sin, Code.yes, Code.no, Code.ops, poM, po, poG, dstOf, List.getElem?_cons_succ, List.getElem?_cons_zero]; exact rfl⟩ : PLift (poM (Code.ops R10_0).toList (Code.ops R10_0).toList = _))
noncomputable def R10_0_e := (⟨fun k Q ts st => g_region (id := 0) (ops := Code.ops R10_0) R10_0_p.down⟩ : PLift (∀ (k : List Frm) (Q : APost) (ts : List AVal) (st : ASt), Gc E 10 R10_0 k Q ts st = Go E 10 _ k Q ts st))
noncomputable def N10_1 : Code := (code Tryd.f10).snd
noncomputable def N10_2 : Code := (code Tryd.f10).snd.fst
noncomputable def R10_1 : Code := (code Tryd.f10).snd.fst.fst
noncomputable def R10_1_p := (⟨by simp only [R10_1, code, Tryd.f10, Option.getD_some, Code.fst, Code.snd, Code.bin, Code.lin, Code.sin, Code.yes, Code.no, Code.ops, poM, po, poG, dstOf, List.getElem?_cons_succ, List.getElem?_cons_zero]; exact rfl⟩ : PLift (poM (Code.ops R10_1).toList (Code.ops R10_1).toList = _))
noncomputable def R10_1_e := (⟨fun k Q ts st => g_region (id := 1) (ops := Code.ops R10_1) R10_1_p.down⟩ : PLift (∀ (k : List Frm) (Q : APost) (ts : List AVal) (st : ASt), Gc E 10 R10_1 k Q ts st = Go E 10 _ k Q ts st))
noncomputable def N10_3 : Code := (code Tryd.f10).snd.fst.snd
noncomputable def N10_4 : Code := (code Tryd.f10).snd.fst.snd.yes
noncomputable def R10_2 : Code := (code Tryd.f10).snd.fst.snd.yes.fst
noncomputable def R10_2_p := (⟨by simp only [R10_2, code, Tryd.f10, Option.getD_some, Code.fst, Code.snd, Code.bin, Code.lin, Code.sin, Code.yes, Code.no, Code.ops, poM, po, poG, dstOf, List.getElem?_cons_succ, List.getElem?_cons_zero]; exact rfl⟩ : PLift (poM (Code.ops R10_2).toList (Code.ops R10_2).toList = _))
noncomputable def R10_2_e := (⟨fun k Q ts st => g_region (id := 2) (ops := Code.ops R10_2) R10_2_p.down⟩ : PLift (∀ (k : List Frm) (Q : APost) (ts : List AVal) (st : ASt), Gc E 10 R10_2 k Q ts st = Go E 10 _ k Q ts st))
theorem N10_4_e (k : List Frm) (Q : APost) (ts : List AVal) (st : ASt) : Gc E 10 N10_4 k Q ts st = Gc E 10 (.seq R10_2 .ret) k Q ts st := _root_.id rfl
theorem N10_3_e (k : List Frm) (Q : APost) (ts : List AVal) (st : ASt) : Gc E 10 N10_3 k Q ts st = Gc E 10 (.cond (.tmp 10) N10_4 .skip) k Q ts st := _root_.id rfl
theorem N10_2_e (k : List Frm) (Q : APost) (ts : List AVal) (st : ASt) : Gc E 10 N10_2 k Q ts st = Gc E 10 (.seq R10_1 N10_3) k Q ts st := _root_.id rfl
noncomputable def N10_5 : Code := (code Tryd.f10).snd.snd
noncomputable def N10_6 : Code := (code Tryd.f10).snd.snd.fst
noncomputable def R10_3 : Code := (code Tryd.f10).snd.snd.fst.fst
noncomputable def R10_3_p := (⟨by simp only [R10_3, code, Tryd.f10, Option.getD_some, Code.fst, Code.snd, Code.bin, Code.lin, Code.sin, Code.yes, Code.no, Code.ops, poM, po, poG, dstOf, List.getElem?_cons_succ, List.getElem?_cons_zero]; exact rfl⟩ : PLift (poM (Code.ops R10_3).toList (Code.ops R10_3).toList = _))
noncomputable def R10_3_e := (⟨fun k Q ts st => g_region (id := 3) (ops := Code.ops R10_3) R10_3_p.down⟩ : PLift (∀ (k : List Frm) (Q : APost) (ts : List AVal) (st : ASt), Gc E 10 R10_3 k Q ts st = Go E 10 _ k Q ts st))
noncomputable def N10_7 : Code := (code Tryd.f10).snd.snd.fst.snd
noncomputable def N10_8 : Code := (code Tryd.f10).snd.snd.fst.snd.yes
noncomputable def R10_4 : Code := (code Tryd.f10).snd.snd.fst.snd.yes.fst
noncomputable def R10_4_p := (⟨by simp only [R10_4, code, Tryd.f10, Option.getD_some, Code.fst, Code.snd, Code.bin, Code.lin, Code.sin, Code.yes, Code.no, Code.ops, poM, po, poG, dstOf, List.getElem?_cons_succ, List.getElem?_cons_zero]; exact rfl⟩ : PLift (poM (Code.ops R10_4).toList (Code.ops R10_4).toList = _))
noncomputable def R10_4_e := (⟨fun k Q ts st => g_region (id := 4) (ops := Code.ops R10_4) R10_4_p.down⟩ : PLift (∀ (k : List Frm) (Q : APost) (ts : List AVal) (st : ASt), Gc E 10 R10_4 k Q ts st = Go E 10 _ k Q ts st))
theorem N10_8_e (k : List Frm) (Q : APost) (ts : List AVal) (st : ASt) : Gc E 10 N10_8 k Q ts st = Gc E 10 (.seq R10_4 .ret) k Q ts st := _root_.id rfl
theorem N10_7_e (k : List Frm) (Q : APost) (ts : List AVal) (st : ASt) : Gc E 10 N10_7 k Q ts st = Gc E 10 (.cond (.tmp 13) N10_8 .skip) k Q ts st := _root_.id rfl
theorem N10_6_e (k : List Frm) (Q : APost) (ts : List AVal) (st : ASt) : Gc E 10 N10_6 k Q ts st = Gc E 10 (.seq R10_3 N10_7) k Q ts st := _root_.id rfl
noncomputable def N10_9 : Code := (code Tryd.f10).snd.snd.snd
noncomputable def R10_5 : Code := (code Tryd.f10).snd.snd.snd.fst
noncomputable def R10_5_p := (⟨by simp only [R10_5, code, Tryd.f10, Option.getD_some, Code.fst, Code.snd, Code.bin, Code.lin, Code.sin, Code.yes, Code.no, Code.ops, poM, po, poG, dstOf, List.getElem?_cons_succ, List.getElem?_cons_zero]; exact rfl⟩ : PLift (poM (Code.ops R10_5).toList (Code.ops R10_5).toList = _))
noncomputable def R10_5_e := (⟨fun k Q ts st => g_region (id := 5) (ops := Code.ops R10_5) R10_5_p.down⟩ : PLift (∀ (k : List Frm) (Q : APost) (ts : List AVal) (st : ASt), Gc E 10 R10_5 k Q ts st = Go E 10 _ k Q ts st))
noncomputable def N10_10 : Code := (code Tryd.f10).snd.snd.snd.snd
noncomputable def R10_6 : Code := (code Tryd.f10).snd.snd.snd.snd.fst
noncomputable def R10_6_p := (⟨by simp only [R10_6, code, Tryd.f10, Option.getD_some, Code.fst, Code.snd, Code.bin, Code.lin, Code.sin, Code.yes, Code.no, Code.ops, poM, po, poG, dstOf, List.getElem?_cons_succ, List.getElem?_cons_zero]; exact rfl⟩ : PLift (poM (Code.ops R10_6).toList (Code.ops R10_6).toList = _))
noncomputable def R10_6_e := (⟨fun k Q ts st => g_region (id := 6) (ops := Code.ops R10_6) R10_6_p.down⟩ : PLift (∀ (k : List Frm) (Q : APost) (ts : List AVal) (st : ASt), Gc E 10 R10_6 k Q ts st = Go E 10 _ k Q ts st))
noncomputable def N10_11 : Code := (code Tryd.f10).snd.snd.snd.snd.snd
noncomputable def R10_7 : Code := (code Tryd.f10).snd.snd.snd.snd.snd.fst
noncomputable def R10_7_p := (⟨by simp only [R10_7, code, Tryd.f10, Option.getD_some, Code.fst, Code.snd, Code.bin, Code.lin, Code.sin, Code.yes, Code.no, Code.ops, poM, po, poG, dstOf, List.getElem?_cons_succ, List.getElem?_cons_zero]; exact rfl⟩ : PLift (poM (Code.ops R10_7).toList (Code.ops R10_7).toList = _))
noncomputable def R10_7_e := (⟨fun k Q ts st => g_region (id := 7) (ops := Code.ops R10_7) R10_7_p.down⟩ : PLift (∀ (k : List Frm) (Q : APost) (ts : List AVal) (st : ASt), Gc E 10 R10_7 k Q ts st = Go E 10 _ k Q ts st))
theorem N10_11_e (k : List Frm) (Q : APost) (ts : List AVal) (st : ASt) : Gc E 10 N10_11 k Q ts st = Gc E 10 (.seq R10_7 .ret) k Q ts st := _root_.id rfl
theorem N10_10_e (k : List Frm) (Q : APost) (ts : List AVal) (st : ASt) : Gc E 10 N10_10 k Q ts st = Gc E 10 (.seq R10_6 N10_11) k Q ts st := _root_.id rfl
theorem N10_9_e (k : List Frm) (Q : APost) (ts : List AVal) (st : ASt) : Gc E 10 N10_9 k Q ts st = Gc E 10 (.seq R10_5 N10_10) k Q ts st := _root_.id rfl
theorem N10_5_e (k : List Frm) (Q : APost) (ts : List AVal) (st : ASt) : Gc E 10 N10_5 k Q ts st = Gc E 10 (.seq N10_6 N10_9) k Q ts st := _root_.id rfl
theorem N10_1_e (k : List Frm) (Q : APost) (ts : List AVal) (st : ASt) : Gc E 10 N10_1 k Q ts st = Gc E 10 (.seq N10_2 N10_5) k Q ts st := _root_.id rfl
theorem N10_0_e (k : List Frm) (Q : APost) (ts : List AVal) (st : ASt) : Gc E 10 N10_0 k Q ts st = Gc E 10 (.seq R10_0 N10_1) k Q ts st := _root_.id rfl
theorem en_10 {x0 : AVal} {st : ASt} {R : AEnd → ASt → Prop} (h : ∀ g : Nat → AVal, g 0 = x0 → Gc E 10 N10_0 [] (RQ E Tryd.f10 R) (Sl 39 g) st) : ∃ r st', rw E 10 [x0] st = some (r, st') ∧ R r st' :=
  en_of (fn := Tryd.f10) (c := N10_0) rfl rfl rfl (Nat.le_of_ble_eq_true rfl) fun g hg => h g (hg 0 x0 rfl)
theorem rq_10 (R : AEnd → ASt → Prop) (g : Nat → AVal) (st : ASt) : RQ E Tryd.f10 R .ret (Sl 39 g) st = R (.returned (g 2)) st := by
  rw [rq_gen (.inl rfl), show (Tryd.f10).results.toList = [.tmp 2] from rfl]
  simp only [aresB, sl_get, Nat.reduceLT, ↓reduceIte, bindK_some, tup]
theorem rqn_10 (R : AEnd → ASt → Prop) (g : Nat → AVal) (st : ASt) : RQ E Tryd.f10 R .normal (Sl 39 g) st = R (.returned (g 2)) st := by
  rw [rq_gen (.inr rfl), show (Tryd.f10).results.toList = [.tmp 2] from rfl]
  simp only [aresB, sl_get, Nat.reduceLT, ↓reduceIte, bindK_some, tup]
theorem cf_24 (a : List AVal) (st : ASt) : callFuncA E.P 24 a st = some (.enter 24 a st) := rfl
theorem cf_25 (a : List AVal) (st : ASt) : callFuncA E.P 25 a st = some (.enter 25 a st) := rfl
theorem cf_27 (a : List AVal) (st : ASt) : callFuncA E.P 27 a st = some (.enter 27 a st) := rfl
theorem cf_28 (a : List AVal) (st : ASt) : callFuncA E.P 28 a st = some (.enter 28 a st) := rfl

/-! ### braidwork/braidworklaw03.LexJoins -/
noncomputable def N6_0 : Code := (code Tryd.f6)
noncomputable def R6_0 : Code := (code Tryd.f6).fst
noncomputable def R6_0_p := (⟨by simp only [R6_0, code, Tryd.f6, Option.getD_some, Code.fst, Code.snd, Code.bin, Code.lin, Code.sin, Code.yes, Code.no, Code.ops, poM, po, poG, dstOf, List.getElem?_cons_succ, List.getElem?_cons_zero]; exact rfl⟩ : PLift (poM (Code.ops R6_0).toList (Code.ops R6_0).toList = _))
noncomputable def R6_0_e := (⟨fun k Q ts st => g_region (id := 0) (ops := Code.ops R6_0) R6_0_p.down⟩ : PLift (∀ (k : List Frm) (Q : APost) (ts : List AVal) (st : ASt), Gc E 6 R6_0 k Q ts st = Go E 6 _ k Q ts st))
noncomputable def N6_1 : Code := (code Tryd.f6).snd
noncomputable def N6_2 : Code := (code Tryd.f6).snd.fst
noncomputable def R6_1 : Code := (code Tryd.f6).snd.fst.fst
noncomputable def R6_1_p := (⟨by simp only [R6_1, code, Tryd.f6, Option.getD_some, Code.fst, Code.snd, Code.bin, Code.lin, Code.sin, Code.yes, Code.no, Code.ops, poM, po, poG, dstOf, List.getElem?_cons_succ, List.getElem?_cons_zero]; exact rfl⟩ : PLift (poM (Code.ops R6_1).toList (Code.ops R6_1).toList = _))
noncomputable def R6_1_e := (⟨fun k Q ts st => g_region (id := 1) (ops := Code.ops R6_1) R6_1_p.down⟩ : PLift (∀ (k : List Frm) (Q : APost) (ts : List AVal) (st : ASt), Gc E 6 R6_1 k Q ts st = Go E 6 _ k Q ts st))
noncomputable def N6_3 : Code := (code Tryd.f6).snd.fst.snd
noncomputable def N6_4 : Code := (code Tryd.f6).snd.fst.snd.yes
noncomputable def R6_2 : Code := (code Tryd.f6).snd.fst.snd.yes.fst
noncomputable def R6_2_p := (⟨by simp only [R6_2, code, Tryd.f6, Option.getD_some, Code.fst, Code.snd, Code.bin, Code.lin, Code.sin, Code.yes, Code.no, Code.ops, poM, po, poG, dstOf, List.getElem?_cons_succ, List.getElem?_cons_zero]; exact rfl⟩ : PLift (poM (Code.ops R6_2).toList (Code.ops R6_2).toList = _))
noncomputable def R6_2_e := (⟨fun k Q ts st => g_region (id := 2) (ops := Code.ops R6_2) R6_2_p.down⟩ : PLift (∀ (k : List Frm) (Q : APost) (ts : List AVal) (st : ASt), Gc E 6 R6_2 k Q ts st = Go E 6 _ k Q ts st))
theorem N6_4_e (k : List Frm) (Q : APost) (ts : List AVal) (st : ASt) : Gc E 6 N6_4 k Q ts st = Gc E 6 (.seq R6_2 .ret) k Q ts st := _root_.id rfl
theorem N6_3_e (k : List Frm) (Q : APost) (ts : List AVal) (st : ASt) : Gc E 6 N6_3 k Q ts st = Gc E 6 (.cond (.tmp 18) N6_4 .skip) k Q ts st := _root_.id rfl
theorem N6_2_e (k : List Frm) (Q : APost) (ts : List AVal) (st : ASt) : Gc E 6 N6_2 k Q ts st = Gc E 6 (.seq R6_1 N6_3) k Q ts st := _root_.id rfl
noncomputable def N6_5 : Code := (code Tryd.f6).snd.snd
noncomputable def N6_6 : Code := (code Tryd.f6).snd.snd.fst
noncomputable def R6_3 : Code := (code Tryd.f6).snd.snd.fst.fst
noncomputable def R6_3_p := (⟨by simp only [R6_3, code, Tryd.f6, Option.getD_some, Code.fst, Code.snd, Code.bin, Code.lin, Code.sin, Code.yes, Code.no, Code.ops, poM, po, poG, dstOf, List.getElem?_cons_succ, List.getElem?_cons_zero]; exact rfl⟩ : PLift (poM (Code.ops R6_3).toList (Code.ops R6_3).toList = _))
noncomputable def R6_3_e := (⟨fun k Q ts st => g_region (id := 3) (ops := Code.ops R6_3) R6_3_p.down⟩ : PLift (∀ (k : List Frm) (Q : APost) (ts : List AVal) (st : ASt), Gc E 6 R6_3 k Q ts st = Go E 6 _ k Q ts st))
noncomputable def N6_7 : Code := (code Tryd.f6).snd.snd.fst.snd
noncomputable def N6_8 : Code := (code Tryd.f6).snd.snd.fst.snd.yes
noncomputable def R6_4 : Code := (code Tryd.f6).snd.snd.fst.snd.yes.fst
noncomputable def R6_4_p := (⟨by simp only [R6_4, code, Tryd.f6, Option.getD_some, Code.fst, Code.snd, Code.bin, Code.lin, Code.sin, Code.yes, Code.no, Code.ops, poM, po, poG, dstOf, List.getElem?_cons_succ, List.getElem?_cons_zero]; exact rfl⟩ : PLift (poM (Code.ops R6_4).toList (Code.ops R6_4).toList = _))
noncomputable def R6_4_e := (⟨fun k Q ts st => g_region (id := 4) (ops := Code.ops R6_4) R6_4_p.down⟩ : PLift (∀ (k : List Frm) (Q : APost) (ts : List AVal) (st : ASt), Gc E 6 R6_4 k Q ts st = Go E 6 _ k Q ts st))
theorem N6_8_e (k : List Frm) (Q : APost) (ts : List AVal) (st : ASt) : Gc E 6 N6_8 k Q ts st = Gc E 6 (.seq R6_4 .ret) k Q ts st := _root_.id rfl
theorem N6_7_e (k : List Frm) (Q : APost) (ts : List AVal) (st : ASt) : Gc E 6 N6_7 k Q ts st = Gc E 6 (.cond (.tmp 26) N6_8 .skip) k Q ts st := _root_.id rfl
theorem N6_6_e (k : List Frm) (Q : APost) (ts : List AVal) (st : ASt) : Gc E 6 N6_6 k Q ts st = Gc E 6 (.seq R6_3 N6_7) k Q ts st := _root_.id rfl
noncomputable def N6_9 : Code := (code Tryd.f6).snd.snd.snd
noncomputable def R6_5 : Code := (code Tryd.f6).snd.snd.snd.fst
noncomputable def R6_5_p := (⟨by simp only [R6_5, code, Tryd.f6, Option.getD_some, Code.fst, Code.snd, Code.bin, Code.lin, Code.sin, Code.yes, Code.no, Code.ops, poM, po, poG, dstOf, List.getElem?_cons_succ, List.getElem?_cons_zero]; exact rfl⟩ : PLift (poM (Code.ops R6_5).toList (Code.ops R6_5).toList = _))
noncomputable def R6_5_e := (⟨fun k Q ts st => g_region (id := 5) (ops := Code.ops R6_5) R6_5_p.down⟩ : PLift (∀ (k : List Frm) (Q : APost) (ts : List AVal) (st : ASt), Gc E 6 R6_5 k Q ts st = Go E 6 _ k Q ts st))
noncomputable def N6_10 : Code := (code Tryd.f6).snd.snd.snd.snd
noncomputable def R6_6 : Code := (code Tryd.f6).snd.snd.snd.snd.fst
noncomputable def R6_6_p := (⟨by simp only [R6_6, code, Tryd.f6, Option.getD_some, Code.fst, Code.snd, Code.bin, Code.lin, Code.sin, Code.yes, Code.no, Code.ops, poM, po, poG, dstOf, List.getElem?_cons_succ, List.getElem?_cons_zero]; exact rfl⟩ : PLift (poM (Code.ops R6_6).toList (Code.ops R6_6).toList = _))
noncomputable def R6_6_e := (⟨fun k Q ts st => g_region (id := 6) (ops := Code.ops R6_6) R6_6_p.down⟩ : PLift (∀ (k : List Frm) (Q : APost) (ts : List AVal) (st : ASt), Gc E 6 R6_6 k Q ts st = Go E 6 _ k Q ts st))
noncomputable def N6_11 : Code := (code Tryd.f6).snd.snd.snd.snd.snd
noncomputable def R6_7 : Code := (code Tryd.f6).snd.snd.snd.snd.snd.fst
noncomputable def R6_7_p := (⟨by simp only [R6_7, code, Tryd.f6, Option.getD_some, Code.fst, Code.snd, Code.bin, Code.lin, Code.sin, Code.yes, Code.no, Code.ops, poM, po, poG, dstOf, List.getElem?_cons_succ, List.getElem?_cons_zero]; exact rfl⟩ : PLift (poM (Code.ops R6_7).toList (Code.ops R6_7).toList = _))
noncomputable def R6_7_e := (⟨fun k Q ts st => g_region (id := 7) (ops := Code.ops R6_7) R6_7_p.down⟩ : PLift (∀ (k : List Frm) (Q : APost) (ts : List AVal) (st : ASt), Gc E 6 R6_7 k Q ts st = Go E 6 _ k Q ts st))
noncomputable def N6_12 : Code := (code Tryd.f6).snd.snd.snd.snd.snd.snd
noncomputable def N6_13 : Code := (code Tryd.f6).snd.snd.snd.snd.snd.snd.fst
noncomputable def R6_8 : Code := (code Tryd.f6).snd.snd.snd.snd.snd.snd.fst.fst
noncomputable def R6_8_p := (⟨by simp only [R6_8, code, Tryd.f6, Option.getD_some, Code.fst, Code.snd, Code.bin, Code.lin, Code.sin, Code.yes, Code.no, Code.ops, poM, po, poG, dstOf, List.getElem?_cons_succ, List.getElem?_cons_zero]; exact rfl⟩ : PLift (poM (Code.ops R6_8).toList (Code.ops R6_8).toList = _))
noncomputable def R6_8_e := (⟨fun k Q ts st => g_region (id := 8) (ops := Code.ops R6_8) R6_8_p.down⟩ : PLift (∀ (k : List Frm) (Q : APost) (ts : List AVal) (st : ASt), Gc E 6 R6_8 k Q ts st = Go E 6 _ k Q ts st))
noncomputable def N6_14 : Code := (code Tryd.f6).snd.snd.snd.snd.snd.snd.fst.snd
noncomputable def N6_15 : Code := (code Tryd.f6).snd.snd.snd.snd.snd.snd.fst.snd.yes
noncomputable def R6_9 : Code := (code Tryd.f6).snd.snd.snd.snd.snd.snd.fst.snd.yes.fst
noncomputable def R6_9_p := (⟨by simp only [R6_9, code, Tryd.f6, Option.getD_some, Code.fst, Code.snd, Code.bin, Code.lin, Code.sin, Code.yes, Code.no, Code.ops, poM, po, poG, dstOf, List.getElem?_cons_succ, List.getElem?_cons_zero]; exact rfl⟩ : PLift (poM (Code.ops R6_9).toList (Code.ops R6_9).toList = _))
noncomputable def R6_9_e := (⟨fun k Q ts st => g_region (id := 9) (ops := Code.ops R6_9) R6_9_p.down⟩ : PLift (∀ (k : List Frm) (Q : APost) (ts : List AVal) (st : ASt), Gc E 6 R6_9 k Q ts st = Go E 6 _ k Q ts st))
theorem N6_15_e (k : List Frm) (Q : APost) (ts : List AVal) (st : ASt) : Gc E 6 N6_15 k Q ts st = Gc E 6 (.seq R6_9 .ret) k Q ts st := _root_.id rfl
theorem N6_14_e (k : List Frm) (Q : APost) (ts : List AVal) (st : ASt) : Gc E 6 N6_14 k Q ts st = Gc E 6 (.cond (.tmp 53) N6_15 .skip) k Q ts st := _root_.id rfl
theorem N6_13_e (k : List Frm) (Q : APost) (ts : List AVal) (st : ASt) : Gc E 6 N6_13 k Q ts st = Gc E 6 (.seq R6_8 N6_14) k Q ts st := _root_.id rfl
noncomputable def N6_16 : Code := (code Tryd.f6).snd.snd.snd.snd.snd.snd.snd
noncomputable def N6_17 : Code := (code Tryd.f6).snd.snd.snd.snd.snd.snd.snd.fst
noncomputable def R6_10 : Code := (code Tryd.f6).snd.snd.snd.snd.snd.snd.snd.fst.fst
noncomputable def R6_10_p := (⟨by simp only [R6_10, code, Tryd.f6, Option.getD_some, Code.fst, Code.snd, Code.bin, Code.lin, Code.sin, Code.yes, Code.no, Code.ops, poM, po, poG, dstOf, List.getElem?_cons_succ, List.getElem?_cons_zero]; exact rfl⟩ : PLift (poM (Code.ops R6_10).toList (Code.ops R6_10).toList = _))
noncomputable def R6_10_e := (⟨fun k Q ts st => g_region (id := 10) (ops := Code.ops R6_10) R6_10_p.down⟩ : PLift (∀ (k : List Frm) (Q : APost) (ts : List AVal) (st : ASt), Gc E 6 R6_10 k Q ts st = Go E 6 _ k Q ts st))
noncomputable def N6_18 : Code := (code Tryd.f6).snd.snd.snd.snd.snd.snd.snd.fst.snd
noncomputable def N6_19 : Code := (code Tryd.f6).snd.snd.snd.snd.snd.snd.snd.fst.snd.yes
noncomputable def R6_11 : Code := (code Tryd.f6).snd.snd.snd.snd.snd.snd.snd.fst.snd.yes.fst
noncomputable def R6_11_p := (⟨by simp only [R6_11, code, Tryd.f6, Option.getD_some, Code.fst, Code.snd, Code.bin, Code.lin, Code.sin, Code.yes, Code.no, Code.ops, poM, po, poG, dstOf, List.getElem?_cons_succ, List.getElem?_cons_zero]; exact rfl⟩ : PLift (poM (Code.ops R6_11).toList (Code.ops R6_11).toList = _))
noncomputable def R6_11_e := (⟨fun k Q ts st => g_region (id := 11) (ops := Code.ops R6_11) R6_11_p.down⟩ : PLift (∀ (k : List Frm) (Q : APost) (ts : List AVal) (st : ASt), Gc E 6 R6_11 k Q ts st = Go E 6 _ k Q ts st))
theorem N6_19_e (k : List Frm) (Q : APost) (ts : List AVal) (st : ASt) : Gc E 6 N6_19 k Q ts st = Gc E 6 (.seq R6_11 .ret) k Q ts st := _root_.id rfl
theorem N6_18_e (k : List Frm) (Q : APost) (ts : List AVal) (st : ASt) : Gc E 6 N6_18 k Q ts st = Gc E 6 (.cond (.tmp 72) N6_19 .skip) k Q ts st := _root_.id rfl
theorem N6_17_e (k : List Frm) (Q : APost) (ts : List AVal) (st : ASt) : Gc E 6 N6_17 k Q ts st = Gc E 6 (.seq R6_10 N6_18) k Q ts st := _root_.id rfl
noncomputable def N6_20 : Code := (code Tryd.f6).snd.snd.snd.snd.snd.snd.snd.snd
noncomputable def N6_21 : Code := (code Tryd.f6).snd.snd.snd.snd.snd.snd.snd.snd.fst
noncomputable def R6_12 : Code := (code Tryd.f6).snd.snd.snd.snd.snd.snd.snd.snd.fst.fst
noncomputable def R6_12_p := (⟨by simp only [R6_12, code, Tryd.f6, Option.getD_some, Code.fst, Code.snd, Code.bin, Code.lin, Code.sin, Code.yes, Code.no, Code.ops, poM, po, poG, dstOf, List.getElem?_cons_succ, List.getElem?_cons_zero]; exact rfl⟩ : PLift (poM (Code.ops R6_12).toList (Code.ops R6_12).toList = _))
noncomputable def R6_12_e := (⟨fun k Q ts st => g_region (id := 12) (ops := Code.ops R6_12) R6_12_p.down⟩ : PLift (∀ (k : List Frm) (Q : APost) (ts : List AVal) (st : ASt), Gc E 6 R6_12 k Q ts st = Go E 6 _ k Q ts st))
noncomputable def N6_22 : Code := (code Tryd.f6).snd.snd.snd.snd.snd.snd.snd.snd.fst.snd
noncomputable def L6_0 : Code := (code Tryd.f6).snd.snd.snd.snd.snd.snd.snd.snd.fst.snd.bin.lin
noncomputable def R6_13 : Code := (code Tryd.f6).snd.snd.snd.snd.snd.snd.snd.snd.fst.snd.bin.lin.fst
noncomputable def R6_13_p := (⟨by simp only [R6_13, code, Tryd.f6, Option.getD_some, Code.fst, Code.snd, Code.bin, Code.lin, Code.sin, Code.yes, Code.no, Code.ops, poM, po, poG, dstOf, List.getElem?_cons_succ, List.getElem?_cons_zero]; exact rfl⟩ : PLift (poM (Code.ops R6_13).toList (Code.ops R6_13).toList = _))
noncomputable def R6_13_e := (⟨fun k Q ts st => g_region (id := 13) (ops := Code.ops R6_13) R6_13_p.down⟩ : PLift (∀ (k : List Frm) (Q : APost) (ts : List AVal) (st : ASt), Gc E 6 R6_13 k Q ts st = Go E 6 _ k Q ts st))
noncomputable def N6_23 : Code := (code Tryd.f6).snd.snd.snd.snd.snd.snd.snd.snd.fst.snd.bin.lin.snd
noncomputable def N6_24 : Code := (code Tryd.f6).snd.snd.snd.snd.snd.snd.snd.snd.fst.snd.bin.lin.snd.snd
noncomputable def N6_25 : Code := (code Tryd.f6).snd.snd.snd.snd.snd.snd.snd.snd.fst.snd.bin.lin.snd.snd.fst.bin
noncomputable def R6_14 : Code := (code Tryd.f6).snd.snd.snd.snd.snd.snd.snd.snd.fst.snd.bin.lin.snd.snd.fst.bin.fst
noncomputable def R6_14_p := (⟨by simp only [R6_14, code, Tryd.f6, Option.getD_some, Code.fst, Code.snd, Code.bin, Code.lin, Code.sin, Code.yes, Code.no, Code.ops, poM, po, poG, dstOf, List.getElem?_cons_succ, List.getElem?_cons_zero]; exact rfl⟩ : PLift (poM (Code.ops R6_14).toList (Code.ops R6_14).toList = _))
noncomputable def R6_14_e := (⟨fun k Q ts st => g_region (id := 14) (ops := Code.ops R6_14) R6_14_p.down⟩ : PLift (∀ (k : List Frm) (Q : APost) (ts : List AVal) (st : ASt), Gc E 6 R6_14 k Q ts st = Go E 6 _ k Q ts st))
noncomputable def N6_26 : Code := (code Tryd.f6).snd.snd.snd.snd.snd.snd.snd.snd.fst.snd.bin.lin.snd.snd.fst.bin.snd
noncomputable def R6_15 : Code := (code Tryd.f6).snd.snd.snd.snd.snd.snd.snd.snd.fst.snd.bin.lin.snd.snd.fst.bin.snd.fst
noncomputable def R6_15_p := (⟨by simp only [R6_15, code, Tryd.f6, Option.getD_some, Code.fst, Code.snd, Code.bin, Code.lin, Code.sin, Code.yes, Code.no, Code.ops, poM, po, poG, dstOf, List.getElem?_cons_succ, List.getElem?_cons_zero]; exact rfl⟩ : PLift (poM (Code.ops R6_15).toList (Code.ops R6_15).toList = _))
noncomputable def R6_15_e := (⟨fun k Q ts st => g_region (id := 15) (ops := Code.ops R6_15) R6_15_p.down⟩ : PLift (∀ (k : List Frm) (Q : APost) (ts : List AVal) (st : ASt), Gc E 6 R6_15 k Q ts st = Go E 6 _ k Q ts st))
noncomputable def N6_27 : Code := (code Tryd.f6).snd.snd.snd.snd.snd.snd.snd.snd.fst.snd.bin.lin.snd.snd.fst.bin.snd.snd
noncomputable def N6_28 : Code := (code Tryd.f6).snd.snd.snd.snd.snd.snd.snd.snd.fst.snd.bin.lin.snd.snd.fst.bin.snd.snd.fst
noncomputable def R6_16 : Code := (code Tryd.f6).snd.snd.snd.snd.snd.snd.snd.snd.fst.snd.bin.lin.snd.snd.fst.bin.snd.snd.fst.fst
noncomputable def R6_16_p := (⟨by simp only [R6_16, code, Tryd.f6, Option.getD_some, Code.fst, Code.snd, Code.bin, Code.lin, Code.sin, Code.yes, Code.no, Code.ops, poM, po, poG, dstOf, List.getElem?_cons_succ, List.getElem?_cons_zero]; exact rfl⟩ : PLift (poM (Code.ops R6_16).toList (Code.ops R6_16).toList = _))
noncomputable def R6_16_e := (⟨fun k Q ts st => g_region (id := 16) (ops := Code.ops R6_16) R6_16_p.down⟩ : PLift (∀ (k : List Frm) (Q : APost) (ts : List AVal) (st : ASt), Gc E 6 R6_16 k Q ts st = Go E 6 _ k Q ts st))
noncomputable def N6_29 : Code := (code Tryd.f6).snd.snd.snd.snd.snd.snd.snd.snd.fst.snd.bin.lin.snd.snd.fst.bin.snd.snd.fst.snd
noncomputable def N6_30 : Code := (code Tryd.f6).snd.snd.snd.snd.snd.snd.snd.snd.fst.snd.bin.lin.snd.snd.fst.bin.snd.snd.fst.snd.yes
noncomputable def R6_17 : Code := (code Tryd.f6).snd.snd.snd.snd.snd.snd.snd.snd.fst.snd.bin.lin.snd.snd.fst.bin.snd.snd.fst.snd.yes
noncomputable def R6_17_p := (⟨by simp only [R6_17, code, Tryd.f6, Option.getD_some, Code.fst, Code.snd, Code.bin, Code.lin, Code.sin, Code.yes, Code.no, Code.ops, poM, po, poG, dstOf, List.getElem?_cons_succ, List.getElem?_cons_zero]; exact rfl⟩ : PLift (poM (Code.ops R6_17).toList (Code.ops R6_17).toList = _))
noncomputable def R6_17_e := (⟨fun k Q ts st => g_region (id := 17) (ops := Code.ops R6_17) R6_17_p.down⟩ : PLift (∀ (k : List Frm) (Q : APost) (ts : List AVal) (st : ASt), Gc E 6 R6_17 k Q ts st = Go E 6 _ k Q ts st))
theorem N6_30_e (k : List Frm) (Q : APost) (ts : List AVal) (st : ASt) : Gc E 6 N6_30 k Q ts st = Gc E 6 R6_17 k Q ts st := _root_.id rfl
noncomputable def N6_31 : Code := (code Tryd.f6).snd.snd.snd.snd.snd.snd.snd.snd.fst.snd.bin.lin.snd.snd.fst.bin.snd.snd.fst.snd.no
noncomputable def R6_18 : Code := (code Tryd.f6).snd.snd.snd.snd.snd.snd.snd.snd.fst.snd.bin.lin.snd.snd.fst.bin.snd.snd.fst.snd.no.fst
noncomputable def R6_18_p := (⟨by simp only [R6_18, code, Tryd.f6, Option.getD_some, Code.fst, Code.snd, Code.bin, Code.lin, Code.sin, Code.yes, Code.no, Code.ops, poM, po, poG, dstOf, List.getElem?_cons_succ, List.getElem?_cons_zero]; exact rfl⟩ : PLift (poM (Code.ops R6_18).toList (Code.ops R6_18).toList = _))
noncomputable def R6_18_e := (⟨fun k Q ts st => g_region (id := 18) (ops := Code.ops R6_18) R6_18_p.down⟩ : PLift (∀ (k : List Frm) (Q : APost) (ts : List AVal) (st : ASt), Gc E 6 R6_18 k Q ts st = Go E 6 _ k Q ts st))
noncomputable def N6_32 : Code := (code Tryd.f6).snd.snd.snd.snd.snd.snd.snd.snd.fst.snd.bin.lin.snd.snd.fst.bin.snd.snd.fst.snd.no.snd
noncomputable def R6_19 : Code := (code Tryd.f6).snd.snd.snd.snd.snd.snd.snd.snd.fst.snd.bin.lin.snd.snd.fst.bin.snd.snd.fst.snd.no.snd
noncomputable def R6_19_p := (⟨by simp only [R6_19, code, Tryd.f6, Option.getD_some, Code.fst, Code.snd, Code.bin, Code.lin, Code.sin, Code.yes, Code.no, Code.ops, poM, po, poG, dstOf, List.getElem?_cons_succ, List.getElem?_cons_zero]; exact rfl⟩ : PLift (poM (Code.ops R6_19).toList (Code.ops R6_19).toList = _))
noncomputable def R6_19_e := (⟨fun k Q ts st => g_region (id := 19) (ops := Code.ops R6_19) R6_19_p.down⟩ : PLift (∀ (k : List Frm) (Q : APost) (ts : List AVal) (st : ASt), Gc E 6 R6_19 k Q ts st = Go E 6 _ k Q ts st))
theorem N6_32_e (k : List Frm) (Q : APost) (ts : List AVal) (st : ASt) : Gc E 6 N6_32 k Q ts st = Gc E 6 R6_19 k Q ts st := _root_.id rfl
theorem N6_31_e (k : List Frm) (Q : APost) (ts : List AVal) (st : ASt) : Gc E 6 N6_31 k Q ts st = Gc E 6 (.seq R6_18 N6_32) k Q ts st := _root_.id rfl
theorem N6_29_e (k : List Frm) (Q : APost) (ts : List AVal) (st : ASt) : Gc E 6 N6_29 k Q ts st = Gc E 6 (.cond (.tmp 85) N6_30 N6_31) k Q ts st := _root_.id rfl
theorem N6_28_e (k : List Frm) (Q : APost) (ts : List AVal) (st : ASt) : Gc E 6 N6_28 k Q ts st = Gc E 6 (.seq R6_16 N6_29) k Q ts st := _root_.id rfl
noncomputable def N6_33 : Code := (code Tryd.f6).snd.snd.snd.snd.snd.snd.snd.snd.fst.snd.bin.lin.snd.snd.fst.bin.snd.snd.snd
noncomputable def R6_20 : Code := (code Tryd.f6).snd.snd.snd.snd.snd.snd.snd.snd.fst.snd.bin.lin.snd.snd.fst.bin.snd.snd.snd.fst
noncomputable def R6_20_p := (⟨by simp only [R6_20, code, Tryd.f6, Option.getD_some, Code.fst, Code.snd, Code.bin, Code.lin, Code.sin, Code.yes, Code.no, Code.ops, poM, po, poG, dstOf, List.getElem?_cons_succ, List.getElem?_cons_zero]; exact rfl⟩ : PLift (poM (Code.ops R6_20).toList (Code.ops R6_20).toList = _))
noncomputable def R6_20_e := (⟨fun k Q ts st => g_region (id := 20) (ops := Code.ops R6_20) R6_20_p.down⟩ : PLift (∀ (k : List Frm) (Q : APost) (ts : List AVal) (st : ASt), Gc E 6 R6_20 k Q ts st = Go E 6 _ k Q ts st))
noncomputable def N6_34 : Code := (code Tryd.f6).snd.snd.snd.snd.snd.snd.snd.snd.fst.snd.bin.lin.snd.snd.fst.bin.snd.snd.snd.snd
noncomputable def N6_35 : Code := (code Tryd.f6).snd.snd.snd.snd.snd.snd.snd.snd.fst.snd.bin.lin.snd.snd.fst.bin.snd.snd.snd.snd.yes
noncomputable def R6_21 : Code := (code Tryd.f6).snd.snd.snd.snd.snd.snd.snd.snd.fst.snd.bin.lin.snd.snd.fst.bin.snd.snd.snd.snd.yes.fst
noncomputable def R6_21_p := (⟨by simp only [R6_21, code, Tryd.f6, Option.getD_some, Code.fst, Code.snd, Code.bin, Code.lin, Code.sin, Code.yes, Code.no, Code.ops, poM, po, poG, dstOf, List.getElem?_cons_succ, List.getElem?_cons_zero]; exact rfl⟩ : PLift (poM (Code.ops R6_21).toList (Code.ops R6_21).toList = _))
noncomputable def R6_21_e := (⟨fun k Q ts st => g_region (id := 21) (ops := Code.ops R6_21) R6_21_p.down⟩ : PLift (∀ (k : List Frm) (Q : APost) (ts : List AVal) (st : ASt), Gc E 6 R6_21 k Q ts st = Go E 6 _ k Q ts st))
theorem N6_35_e (k : List Frm) (Q : APost) (ts : List AVal) (st : ASt) : Gc E 6 N6_35 k Q ts st = Gc E 6 (.seq R6_21 .ret) k Q ts st := _root_.id rfl
theorem N6_34_e (k : List Frm) (Q : APost) (ts : List AVal) (st : ASt) : Gc E 6 N6_34 k Q ts st = Gc E 6 (.cond (.tmp 107) N6_35 .skip) k Q ts st := _root_.id rfl
theorem N6_33_e (k : List Frm) (Q : APost) (ts : List AVal) (st : ASt) : Gc E 6 N6_33 k Q ts st = Gc E 6 (.seq R6_20 N6_34) k Q ts st := _root_.id rfl
theorem N6_27_e (k : List Frm) (Q : APost) (ts : List AVal) (st : ASt) : Gc E 6 N6_27 k Q ts st = Gc E 6 (.seq N6_28 N6_33) k Q ts st := _root_.id rfl
theorem N6_26_e (k : List Frm) (Q : APost) (ts : List AVal) (st : ASt) : Gc E 6 N6_26 k Q ts st = Gc E 6 (.seq R6_15 N6_27) k Q ts st := _root_.id rfl
theorem N6_25_e (k : List Frm) (Q : APost) (ts : List AVal) (st : ASt) : Gc E 6 N6_25 k Q ts st = Gc E 6 (.seq R6_14 N6_26) k Q ts st := _root_.id rfl
noncomputable def N6_36 : Code := (code Tryd.f6).snd.snd.snd.snd.snd.snd.snd.snd.fst.snd.bin.lin.snd.snd.snd
noncomputable def R6_22 : Code := (code Tryd.f6).snd.snd.snd.snd.snd.snd.snd.snd.fst.snd.bin.lin.snd.snd.snd
noncomputable def R6_22_p := (⟨by simp only [R6_22, code, Tryd.f6, Option.getD_some, Code.fst, Code.snd, Code.bin, Code.lin, Code.sin, Code.yes, Code.no, Code.ops, poM, po, poG, dstOf, List.getElem?_cons_succ, List.getElem?_cons_zero]; exact rfl⟩ : PLift (poM (Code.ops R6_22).toList (Code.ops R6_22).toList = _))
noncomputable def R6_22_e := (⟨fun k Q ts st => g_region (id := 22) (ops := Code.ops R6_22) R6_22_p.down⟩ : PLift (∀ (k : List Frm) (Q : APost) (ts : List AVal) (st : ASt), Gc E 6 R6_22 k Q ts st = Go E 6 _ k Q ts st))
theorem N6_36_e (k : List Frm) (Q : APost) (ts : List AVal) (st : ASt) : Gc E 6 N6_36 k Q ts st = Gc E 6 R6_22 k Q ts st := _root_.id rfl
theorem N6_24_e (k : List Frm) (Q : APost) (ts : List AVal) (st : ASt) : Gc E 6 N6_24 k Q ts st = Gc E 6 (.seq (.block 1 N6_25) N6_36) k Q ts st := _root_.id rfl
theorem N6_23_e (k : List Frm) (Q : APost) (ts : List AVal) (st : ASt) : Gc E 6 N6_23 k Q ts st = Gc E 6 (.seq (.cond (.tmp 76) .skip (.exit 0)) N6_24) k Q ts st := _root_.id rfl
theorem L6_0_e (k : List Frm) (Q : APost) (ts : List AVal) (st : ASt) : Gc E 6 L6_0 k Q ts st = Gc E 6 (.seq R6_13 N6_23) k Q ts st := _root_.id rfl
theorem N6_22_e (k : List Frm) (Q : APost) (ts : List AVal) (st : ASt) : Gc E 6 N6_22 k Q ts st = Gc E 6 (.block 0 (.loop L6_0)) k Q ts st := _root_.id rfl
theorem N6_21_e (k : List Frm) (Q : APost) (ts : List AVal) (st : ASt) : Gc E 6 N6_21 k Q ts st = Gc E 6 (.seq R6_12 N6_22) k Q ts st := _root_.id rfl
noncomputable def N6_37 : Code := (code Tryd.f6).snd.snd.snd.snd.snd.snd.snd.snd.snd
noncomputable def R6_23 : Code := (code Tryd.f6).snd.snd.snd.snd.snd.snd.snd.snd.snd.fst
noncomputable def R6_23_p := (⟨by simp only [R6_23, code, Tryd.f6, Option.getD_some, Code.fst, Code.snd, Code.bin, Code.lin, Code.sin, Code.yes, Code.no, Code.ops, poM, po, poG, dstOf, List.getElem?_cons_succ, List.getElem?_cons_zero]; exact rfl⟩ : PLift (poM (Code.ops R6_23).toList (Code.ops R6_23).toList = _))
noncomputable def R6_23_e := (⟨fun k Q ts st => g_region (id := 23) (ops := Code.ops R6_23) R6_23_p.down⟩ : PLift (∀ (k : List Frm) (Q : APost) (ts : List AVal) (st : ASt), Gc E 6 R6_23 k Q ts st = Go E 6 _ k Q ts st))
theorem N6_37_e (k : List Frm) (Q : APost) (ts : List AVal) (st : ASt) : Gc E 6 N6_37 k Q ts st = Gc E 6 (.seq R6_23 .ret) k Q ts st := _root_.id rfl
theorem N6_20_e (k : List Frm) (Q : APost) (ts : List AVal) (st : ASt) : Gc E 6 N6_20 k Q ts st = Gc E 6 (.seq N6_21 N6_37) k Q ts st := _root_.id rfl
theorem N6_16_e (k : List Frm) (Q : APost) (ts : List AVal) (st : ASt) : Gc E 6 N6_16 k Q ts st = Gc E 6 (.seq N6_17 N6_20) k Q ts st := _root_.id rfl
theorem N6_12_e (k : List Frm) (Q : APost) (ts : List AVal) (st : ASt) : Gc E 6 N6_12 k Q ts st = Gc E 6 (.seq N6_13 N6_16) k Q ts st := _root_.id rfl
theorem N6_11_e (k : List Frm) (Q : APost) (ts : List AVal) (st : ASt) : Gc E 6 N6_11 k Q ts st = Gc E 6 (.seq R6_7 N6_12) k Q ts st := _root_.id rfl
theorem N6_10_e (k : List Frm) (Q : APost) (ts : List AVal) (st : ASt) : Gc E 6 N6_10 k Q ts st = Gc E 6 (.seq R6_6 N6_11) k Q ts st := _root_.id rfl
theorem N6_9_e (k : List Frm) (Q : APost) (ts : List AVal) (st : ASt) : Gc E 6 N6_9 k Q ts st = Gc E 6 (.seq R6_5 N6_10) k Q ts st := _root_.id rfl
theorem N6_5_e (k : List Frm) (Q : APost) (ts : List AVal) (st : ASt) : Gc E 6 N6_5 k Q ts st = Gc E 6 (.seq N6_6 N6_9) k Q ts st := _root_.id rfl
theorem N6_1_e (k : List Frm) (Q : APost) (ts : List AVal) (st : ASt) : Gc E 6 N6_1 k Q ts st = Gc E 6 (.seq N6_2 N6_5) k Q ts st := _root_.id rfl
theorem N6_0_e (k : List Frm) (Q : APost) (ts : List AVal) (st : ASt) : Gc E 6 N6_0 k Q ts st = Gc E 6 (.seq R6_0 N6_1) k Q ts st := _root_.id rfl
theorem en_6 {x0 x1 : AVal} {st : ASt} {R : AEnd → ASt → Prop} (h : ∀ g : Nat → AVal, g 0 = x0 → g 1 = x1 → Gc E 6 N6_0 [] (RQ E Tryd.f6 R) (Sl 109 g) st) : ∃ r st', rw E 6 [x0, x1] st = some (r, st') ∧ R r st' :=
  en_of (fn := Tryd.f6) (c := N6_0) rfl rfl rfl (Nat.le_of_ble_eq_true rfl) fun g hg => h g (hg 0 x0 rfl) (hg 1 x1 rfl)
theorem rq_6 (R : AEnd → ASt → Prop) (g : Nat → AVal) (st : ASt) : RQ E Tryd.f6 R .ret (Sl 109 g) st = R (.returned (g 4)) st := by
  rw [rq_gen (.inl rfl), show (Tryd.f6).results.toList = [.tmp 4] from rfl]
  simp only [aresB, sl_get, Nat.reduceLT, ↓reduceIte, bindK_some, tup]
theorem rqn_6 (R : AEnd → ASt → Prop) (g : Nat → AVal) (st : ASt) : RQ E Tryd.f6 R .normal (Sl 109 g) st = R (.returned (g 4)) st := by
  rw [rq_gen (.inr rfl), show (Tryd.f6).results.toList = [.tmp 4] from rfl]
  simp only [aresB, sl_get, Nat.reduceLT, ↓reduceIte, bindK_some, tup]
theorem o_leni_46 (mt : Bool) (ty : TypeId) (cs : Array Bool) (sz : Nat) (es : List AVal) (c : Cap) (st : ASt) : builtinA E.P mt .len #[46] ty cs [.islice sz es c] st = some (.val (.lit (.int .i64 es.length)) st) := rfl
theorem o_lens_46 (mt : Bool) (ty : TypeId) (cs : Array Bool) (s o l sz : Nat) (c : Option Nat) (st : ASt) : builtinA E.P mt .len #[46] ty cs [.slice s o l sz c] st = some (.val (.lit (.int .i64 l)) st) := rfl
theorem o_lenn_46 (mt : Bool) (ty : TypeId) (cs : Array Bool) (a : Option Addr) (st : ASt) : builtinA E.P mt .len #[46] ty cs [.lit (.slice a 0 0)] st = some (.val (.lit (.int .i64 0)) st) := len_nil rfl _ _ _ _ _
theorem o_ixi_46 (sz : Nat) (es : List AVal) (c : Cap) (k : IntKind) (i : Int) : indexA E.P 46 (.islice sz es c) (.lit (.int k i)) = if 0 ≤ i ∧ i < es.length ∧ some 4 = some sz then (es[i.toNat]?).map .iptr else none := rfl
theorem o_ixs_46 (s o l sz : Nat) (c : Option Nat) (k : IntKind) (i : Int) : indexA E.P 46 (.slice s o l sz c) (.lit (.int k i)) = if 0 ≤ i ∧ i < l then some (.ptr s (o + i.toNat * 4)) else none := rfl
theorem o_ldp_52 (st : ASt) (s o : Nat) : loadA E.P 52 st (.ptr s o) = (blkOf (st.heap s)).bind (fun cs => if o + 4 ≤ cs.length then some (.agg ((cs.drop o).take 4)) else none) := ld_agg rfl rfl st s o
theorem o_ldi_52 (st : ASt) (cs : List AVal) : loadA E.P 52 st (.iptr (.agg cs)) = if cs.length = 4 then some (.agg cs) else none := rfl
theorem o_al_52 (st : ASt) : allocA E.P 52 st = some (.ptr st.ctr 0, st.new (.cells [.lit (.int .i64 0), .lit (.string ⟨#[]⟩), .lit (.complex .f64 0 0), .lit (.int .i64 0)])) := rfl
theorem o_st_52 (st : ASt) (s o : Nat) (vs : List AVal) : storeA E.P 52 st (.ptr s o) (.agg vs) = (blkOf (st.heap s)).bind (fun cs => if vs.length = 4 ∧ o + vs.length ≤ cs.length ∧ vs.all AVal.isCell = true then some (st.set s (some (.cells (putL cs o vs)))) else none) := st_agg rfl st s o vs
theorem o_fap_52_3 (s o : Nat) : fieldA E.P 52 (.ptr s o) 3 = some (.ptr s (o + 3)) := rfl
theorem o_fai_52_3 (cs : List AVal) : fieldA E.P 52 (.iptr (.agg cs)) 3 = (cs[3]?).map .iptr := rfl
theorem o_ldp_3 (st : ASt) (s o : Nat) : loadA E.P 3 st (.ptr s o) = (blkOf (st.heap s)).bind (fun cs => cs[o]?) := ld_one rfl rfl st s o
theorem o_ldi_3 (st : ASt) (v : AVal) : loadA E.P 3 st (.iptr v) = if v.isCell = true then some v else none := rfl
theorem o_st_3 (st : ASt) (s o : Nat) (v : AVal) : storeA E.P 3 st (.ptr s o) v = if v.isCell = true then (blkOf (st.heap s)).bind (fun cs => if o + 1 ≤ cs.length then some (st.set s (some (.cells (cs.set o v)))) else none) else storeU E.P 3 st (.ptr s o) v := st_one rfl st s o v

/-! ### braidwork/braidworklaw03.LexAgain -/
noncomputable def N7_0 : Code := (code Tryd.f7)
noncomputable def R7_0 : Code := (code Tryd.f7).fst
noncomputable def R7_0_p := (⟨by simp only [R7_0, code, Tryd.f7, Option.getD_some, Code.fst, Code.snd, Code.bin, Code.lin, Code.sin, Code.yes, Code.no, Code.ops, poM, po, poG, dstOf, List.getElem?_cons_succ, List.getElem?_cons_zero]; exact rfl⟩ : PLift (poM (Code.ops R7_0).toList (Code.ops R7_0).toList = _))
noncomputable def R7_0_e := (⟨fun k Q ts st => g_region (id := 0) (ops := Code.ops R7_0) R7_0_p.down⟩ : PLift (∀ (k : List Frm) (Q : APost) (ts : List AVal) (st : ASt), Gc E 7 R7_0 k Q ts st = Go E 7 _ k Q ts st))
noncomputable def N7_1 : Code := (code Tryd.f7).snd
noncomputable def N7_2 : Code := (code Tryd.f7).snd.fst
noncomputable def R7_1 : Code := (code Tryd.f7).snd.fst.fst
noncomputable def R7_1_p := (⟨by simp only [R7_1, code, Tryd.f7, Option.getD_some, Code.fst, Code.snd, Code.bin, Code.lin, Code.sin, Code.yes, Code.no, Code.ops, poM, po, poG, dstOf, List.getElem?_cons_succ, List.getElem?_cons_zero]; exact rfl⟩ : PLift (poM (Code.ops R7_1).toList (Code.ops R7_1).toList = _))
noncomputable def R7_1_e := (⟨fun k Q ts st => g_region (id := 1) (ops := Code.ops R7_1) R7_1_p.down⟩ : PLift (∀ (k : List Frm) (Q : APost) (ts : List AVal) (st : ASt), Gc E 7 R7_1 k Q ts st = Go E 7 _ k Q ts st))
noncomputable def N7_3 : Code := (code Tryd.f7).snd.fst.snd
noncomputable def N7_4 : Code := (code Tryd.f7).snd.fst.snd.yes
noncomputable def R7_2 : Code := (code Tryd.f7).snd.fst.snd.yes.fst
noncomputable def R7_2_p := (⟨by simp only [R7_2, code, Tryd.f7, Option.getD_some, Code.fst, Code.snd, Code.bin, Code.lin, Code.sin, Code.yes, Code.no, Code.ops, poM, po, poG, dstOf, List.getElem?_cons_succ, List.getElem?_cons_zero]; exact rfl⟩ : PLift (poM (Code.ops R7_2).toList (Code.ops R7_2).toList = _))
noncomputable def R7_2_e := (⟨fun k Q ts st => g_region (id := 2) (ops := Code.ops R7_2) R7_2_p.down⟩ : PLift (∀ (k : List Frm) (Q : APost) (ts : List AVal) (st : ASt), Gc E 7 R7_2 k Q ts st = Go E 7 _ k Q ts st))
theorem N7_4_e (k : List Frm) (Q : APost) (ts : List AVal) (st : ASt) : Gc E 7 N7_4 k Q ts st = Gc E 7 (.seq R7_2 .ret) k Q ts st := _root_.id rfl
theorem N7_3_e (k : List Frm) (Q : APost) (ts : List AVal) (st : ASt) : Gc E 7 N7_3 k Q ts st = Gc E 7 (.cond (.tmp 14) N7_4 .skip) k Q ts st := _root_.id rfl
theorem N7_2_e (k : List Frm) (Q : APost) (ts : List AVal) (st : ASt) : Gc E 7 N7_2 k Q ts st = Gc E 7 (.seq R7_1 N7_3) k Q ts st := _root_.id rfl
noncomputable def N7_5 : Code := (code Tryd.f7).snd.snd
noncomputable def N7_6 : Code := (code Tryd.f7).snd.snd.fst
noncomputable def R7_3 : Code := (code Tryd.f7).snd.snd.fst.fst
noncomputable def R7_3_p := (⟨by simp only [R7_3, code, Tryd.f7, Option.getD_some, Code.fst, Code.snd, Code.bin, Code.lin, Code.sin, Code.yes, Code.no, Code.ops, poM, po, poG, dstOf, List.getElem?_cons_succ, List.getElem?_cons_zero]; exact rfl⟩ : PLift (poM (Code.ops R7_3).toList (Code.ops R7_3).toList = _))
noncomputable def R7_3_e := (⟨fun k Q ts st => g_region (id := 3) (ops := Code.ops R7_3) R7_3_p.down⟩ : PLift (∀ (k : List Frm) (Q : APost) (ts : List AVal) (st : ASt), Gc E 7 R7_3 k Q ts st = Go E 7 _ k Q ts st))
noncomputable def N7_7 : Code := (code Tryd.f7).snd.snd.fst.snd
noncomputable def N7_8 : Code := (code Tryd.f7).snd.snd.fst.snd.yes
noncomputable def R7_4 : Code := (code Tryd.f7).snd.snd.fst.snd.yes.fst
noncomputable def R7_4_p := (⟨by simp only [R7_4, code, Tryd.f7, Option.getD_some, Code.fst, Code.snd, Code.bin, Code.lin, Code.sin, Code.yes, Code.no, Code.ops, poM, po, poG, dstOf, List.getElem?_cons_succ, List.getElem?_cons_zero]; exact rfl⟩ : PLift (poM (Code.ops R7_4).toList (Code.ops R7_4).toList = _))
noncomputable def R7_4_e := (⟨fun k Q ts st => g_region (id := 4) (ops := Code.ops R7_4) R7_4_p.down⟩ : PLift (∀ (k : List Frm) (Q : APost) (ts : List AVal) (st : ASt), Gc E 7 R7_4 k Q ts st = Go E 7 _ k Q ts st))
theorem N7_8_e (k : List Frm) (Q : APost) (ts : List AVal) (st : ASt) : Gc E 7 N7_8 k Q ts st = Gc E 7 (.seq R7_4 .ret) k Q ts st := _root_.id rfl
theorem N7_7_e (k : List Frm) (Q : APost) (ts : List AVal) (st : ASt) : Gc E 7 N7_7 k Q ts st = Gc E 7 (.cond (.tmp 17) N7_8 .skip) k Q ts st := _root_.id rfl
theorem N7_6_e (k : List Frm) (Q : APost) (ts : List AVal) (st : ASt) : Gc E 7 N7_6 k Q ts st = Gc E 7 (.seq R7_3 N7_7) k Q ts st := _root_.id rfl
noncomputable def N7_9 : Code := (code Tryd.f7).snd.snd.snd
noncomputable def R7_5 : Code := (code Tryd.f7).snd.snd.snd.fst
noncomputable def R7_5_p := (⟨by simp only [R7_5, code, Tryd.f7, Option.getD_some, Code.fst, Code.snd, Code.bin, Code.lin, Code.sin, Code.yes, Code.no, Code.ops, poM, po, poG, dstOf, List.getElem?_cons_succ, List.getElem?_cons_zero]; exact rfl⟩ : PLift (poM (Code.ops R7_5).toList (Code.ops R7_5).toList = _))
noncomputable def R7_5_e := (⟨fun k Q ts st => g_region (id := 5) (ops := Code.ops R7_5) R7_5_p.down⟩ : PLift (∀ (k : List Frm) (Q : APost) (ts : List AVal) (st : ASt), Gc E 7 R7_5 k Q ts st = Go E 7 _ k Q ts st))
noncomputable def N7_10 : Code := (code Tryd.f7).snd.snd.snd.snd
noncomputable def N7_11 : Code := (code Tryd.f7).snd.snd.snd.snd.fst
noncomputable def R7_6 : Code := (code Tryd.f7).snd.snd.snd.snd.fst.fst
noncomputable def R7_6_p := (⟨by simp only [R7_6, code, Tryd.f7, Option.getD_some, Code.fst, Code.snd, Code.bin, Code.lin, Code.sin, Code.yes, Code.no, Code.ops, poM, po, poG, dstOf, List.getElem?_cons_succ, List.getElem?_cons_zero]; exact rfl⟩ : PLift (poM (Code.ops R7_6).toList (Code.ops R7_6).toList = _))
noncomputable def R7_6_e := (⟨fun k Q ts st => g_region (id := 6) (ops := Code.ops R7_6) R7_6_p.down⟩ : PLift (∀ (k : List Frm) (Q : APost) (ts : List AVal) (st : ASt), Gc E 7 R7_6 k Q ts st = Go E 7 _ k Q ts st))
noncomputable def N7_12 : Code := (code Tryd.f7).snd.snd.snd.snd.fst.snd
noncomputable def N7_13 : Code := (code Tryd.f7).snd.snd.snd.snd.fst.snd.yes
noncomputable def R7_7 : Code := (code Tryd.f7).snd.snd.snd.snd.fst.snd.yes.fst
noncomputable def R7_7_p := (⟨by simp only [R7_7, code, Tryd.f7, Option.getD_some, Code.fst, Code.snd, Code.bin, Code.lin, Code.sin, Code.yes, Code.no, Code.ops, poM, po, poG, dstOf, List.getElem?_cons_succ, List.getElem?_cons_zero]; exact rfl⟩ : PLift (poM (Code.ops R7_7).toList (Code.ops R7_7).toList = _))
noncomputable def R7_7_e := (⟨fun k Q ts st => g_region (id := 7) (ops := Code.ops R7_7) R7_7_p.down⟩ : PLift (∀ (k : List Frm) (Q : APost) (ts : List AVal) (st : ASt), Gc E 7 R7_7 k Q ts st = Go E 7 _ k Q ts st))
theorem N7_13_e (k : List Frm) (Q : APost) (ts : List AVal) (st : ASt) : Gc E 7 N7_13 k Q ts st = Gc E 7 (.seq R7_7 .ret) k Q ts st := _root_.id rfl
theorem N7_12_e (k : List Frm) (Q : APost) (ts : List AVal) (st : ASt) : Gc E 7 N7_12 k Q ts st = Gc E 7 (.cond (.tmp 25) N7_13 .skip) k Q ts st := _root_.id rfl
theorem N7_11_e (k : List Frm) (Q : APost) (ts : List AVal) (st : ASt) : Gc E 7 N7_11 k Q ts st = Gc E 7 (.seq R7_6 N7_12) k Q ts st := _root_.id rfl
noncomputable def N7_14 : Code := (code Tryd.f7).snd.snd.snd.snd.snd
noncomputable def R7_8 : Code := (code Tryd.f7).snd.snd.snd.snd.snd.fst
noncomputable def R7_8_p := (⟨by simp only [R7_8, code, Tryd.f7, Option.getD_some, Code.fst, Code.snd, Code.bin, Code.lin, Code.sin, Code.yes, Code.no, Code.ops, poM, po, poG, dstOf, List.getElem?_cons_succ, List.getElem?_cons_zero]; exact rfl⟩ : PLift (poM (Code.ops R7_8).toList (Code.ops R7_8).toList = _))
noncomputable def R7_8_e := (⟨fun k Q ts st => g_region (id := 8) (ops := Code.ops R7_8) R7_8_p.down⟩ : PLift (∀ (k : List Frm) (Q : APost) (ts : List AVal) (st : ASt), Gc E 7 R7_8 k Q ts st = Go E 7 _ k Q ts st))
noncomputable def N7_15 : Code := (code Tryd.f7).snd.snd.snd.snd.snd.snd
noncomputable def N7_16 : Code := (code Tryd.f7).snd.snd.snd.snd.snd.snd.fst
noncomputable def R7_9 : Code := (code Tryd.f7).snd.snd.snd.snd.snd.snd.fst.fst
noncomputable def R7_9_p := (⟨by simp only [R7_9, code, Tryd.f7, Option.getD_some, Code.fst, Code.snd, Code.bin, Code.lin, Code.sin, Code.yes, Code.no, Code.ops, poM, po, poG, dstOf, List.getElem?_cons_succ, List.getElem?_cons_zero]; exact rfl⟩ : PLift (poM (Code.ops R7_9).toList (Code.ops R7_9).toList = _))
noncomputable def R7_9_e := (⟨fun k Q ts st => g_region (id := 9) (ops := Code.ops R7_9) R7_9_p.down⟩ : PLift (∀ (k : List Frm) (Q : APost) (ts : List AVal) (st : ASt), Gc E 7 R7_9 k Q ts st = Go E 7 _ k Q ts st))
noncomputable def N7_17 : Code := (code Tryd.f7).snd.snd.snd.snd.snd.snd.fst.snd
noncomputable def L7_0 : Code := (code Tryd.f7).snd.snd.snd.snd.snd.snd.fst.snd.bin.lin
noncomputable def R7_10 : Code := (code Tryd.f7).snd.snd.snd.snd.snd.snd.fst.snd.bin.lin.fst
noncomputable def R7_10_p := (⟨by simp only [R7_10, code, Tryd.f7, Option.getD_some, Code.fst, Code.snd, Code.bin, Code.lin, Code.sin, Code.yes, Code.no, Code.ops, poM, po, poG, dstOf, List.getElem?_cons_succ, List.getElem?_cons_zero]; exact rfl⟩ : PLift (poM (Code.ops R7_10).toList (Code.ops R7_10).toList = _))
noncomputable def R7_10_e := (⟨fun k Q ts st => g_region (id := 10) (ops := Code.ops R7_10) R7_10_p.down⟩ : PLift (∀ (k : List Frm) (Q : APost) (ts : List AVal) (st : ASt), Gc E 7 R7_10 k Q ts st = Go E 7 _ k Q ts st))
noncomputable def N7_18 : Code := (code Tryd.f7).snd.snd.snd.snd.snd.snd.fst.snd.bin.lin.snd
noncomputable def N7_19 : Code := (code Tryd.f7).snd.snd.snd.snd.snd.snd.fst.snd.bin.lin.snd.snd
noncomputable def N7_20 : Code := (code Tryd.f7).snd.snd.snd.snd.snd.snd.fst.snd.bin.lin.snd.snd.fst.bin
noncomputable def R7_11 : Code := (code Tryd.f7).snd.snd.snd.snd.snd.snd.fst.snd.bin.lin.snd.snd.fst.bin.fst
noncomputable def R7_11_p := (⟨by simp only [R7_11, code, Tryd.f7, Option.getD_some, Code.fst, Code.snd, Code.bin, Code.lin, Code.sin, Code.yes, Code.no, Code.ops, poM, po, poG, dstOf, List.getElem?_cons_succ, List.getElem?_cons_zero]; exact rfl⟩ : PLift (poM (Code.ops R7_11).toList (Code.ops R7_11).toList = _))
noncomputable def R7_11_e := (⟨fun k Q ts st => g_region (id := 11) (ops := Code.ops R7_11) R7_11_p.down⟩ : PLift (∀ (k : List Frm) (Q : APost) (ts : List AVal) (st : ASt), Gc E 7 R7_11 k Q ts st = Go E 7 _ k Q ts st))
noncomputable def N7_21 : Code := (code Tryd.f7).snd.snd.snd.snd.snd.snd.fst.snd.bin.lin.snd.snd.fst.bin.snd
noncomputable def R7_12 : Code := (code Tryd.f7).snd.snd.snd.snd.snd.snd.fst.snd.bin.lin.snd.snd.fst.bin.snd
noncomputable def R7_12_p := (⟨by simp only [R7_12, code, Tryd.f7, Option.getD_some, Code.fst, Code.snd, Code.bin, Code.lin, Code.sin, Code.yes, Code.no, Code.ops, poM, po, poG, dstOf, List.getElem?_cons_succ, List.getElem?_cons_zero]; exact rfl⟩ : PLift (poM (Code.ops R7_12).toList (Code.ops R7_12).toList = _))
noncomputable def R7_12_e := (⟨fun k Q ts st => g_region (id := 12) (ops := Code.ops R7_12) R7_12_p.down⟩ : PLift (∀ (k : List Frm) (Q : APost) (ts : List AVal) (st : ASt), Gc E 7 R7_12 k Q ts st = Go E 7 _ k Q ts st))
theorem N7_21_e (k : List Frm) (Q : APost) (ts : List AVal) (st : ASt) : Gc E 7 N7_21 k Q ts st = Gc E 7 R7_12 k Q ts st := _root_.id rfl
theorem N7_20_e (k : List Frm) (Q : APost) (ts : List AVal) (st : ASt) : Gc E 7 N7_20 k Q ts st = Gc E 7 (.seq R7_11 N7_21) k Q ts st := _root_.id rfl
noncomputable def N7_22 : Code := (code Tryd.f7).snd.snd.snd.snd.snd.snd.fst.snd.bin.lin.snd.snd.snd
noncomputable def R7_13 : Code := (code Tryd.f7).snd.snd.snd.snd.snd.snd.fst.snd.bin.lin.snd.snd.snd
noncomputable def R7_13_p := (⟨by simp only [R7_13, code, Tryd.f7, Option.getD_some, Code.fst, Code.snd, Code.bin, Code.lin, Code.sin, Code.yes, Code.no, Code.ops, poM, po, poG, dstOf, List.getElem?_cons_succ, List.getElem?_cons_zero]; exact rfl⟩ : PLift (poM (Code.ops R7_13).toList (Code.ops R7_13).toList = _))
noncomputable def R7_13_e := (⟨fun k Q ts st => g_region (id := 13) (ops := Code.ops R7_13) R7_13_p.down⟩ : PLift (∀ (k : List Frm) (Q : APost) (ts : List AVal) (st : ASt), Gc E 7 R7_13 k Q ts st = Go E 7 _ k Q ts st))
theorem N7_22_e (k : List Frm) (Q : APost) (ts : List AVal) (st : ASt) : Gc E 7 N7_22 k Q ts st = Gc E 7 R7_13 k Q ts st := _root_.id rfl
theorem N7_19_e (k : List Frm) (Q : APost) (ts : List AVal) (st : ASt) : Gc E 7 N7_19 k Q ts st = Gc E 7 (.seq (.block 1 N7_20) N7_22) k Q ts st := _root_.id rfl
theorem N7_18_e (k : List Frm) (Q : APost) (ts : List AVal) (st : ASt) : Gc E 7 N7_18 k Q ts st = Gc E 7 (.seq (.cond (.tmp 29) .skip (.exit 0)) N7_19) k Q ts st := _root_.id rfl
theorem L7_0_e (k : List Frm) (Q : APost) (ts : List AVal) (st : ASt) : Gc E 7 L7_0 k Q ts st = Gc E 7 (.seq R7_10 N7_18) k Q ts st := _root_.id rfl
theorem N7_17_e (k : List Frm) (Q : APost) (ts : List AVal) (st : ASt) : Gc E 7 N7_17 k Q ts st = Gc E 7 (.block 0 (.loop L7_0)) k Q ts st := _root_.id rfl
theorem N7_16_e (k : List Frm) (Q : APost) (ts : List AVal) (st : ASt) : Gc E 7 N7_16 k Q ts st = Gc E 7 (.seq R7_9 N7_17) k Q ts st := _root_.id rfl
noncomputable def N7_23 : Code := (code Tryd.f7).snd.snd.snd.snd.snd.snd.snd
noncomputable def R7_14 : Code := (code Tryd.f7).snd.snd.snd.snd.snd.snd.snd.fst
noncomputable def R7_14_p := (⟨by simp only [R7_14, code, Tryd.f7, Option.getD_some, Code.fst, Code.snd, Code.bin, Code.lin, Code.sin, Code.yes, Code.no, Code.ops, poM, po, poG, dstOf, List.getElem?_cons_succ, List.getElem?_cons_zero]; exact rfl⟩ : PLift (poM (Code.ops R7_14).toList (Code.ops R7_14).toList = _))
noncomputable def R7_14_e := (⟨fun k Q ts st => g_region (id := 14) (ops := Code.ops R7_14) R7_14_p.down⟩ : PLift (∀ (k : List Frm) (Q : APost) (ts : List AVal) (st : ASt), Gc E 7 R7_14 k Q ts st = Go E 7 _ k Q ts st))
noncomputable def N7_24 : Code := (code Tryd.f7).snd.snd.snd.snd.snd.snd.snd.snd
noncomputable def N7_25 : Code := (code Tryd.f7).snd.snd.snd.snd.snd.snd.snd.snd.fst
noncomputable def R7_15 : Code := (code Tryd.f7).snd.snd.snd.snd.snd.snd.snd.snd.fst.fst
noncomputable def R7_15_p := (⟨by simp only [R7_15, code, Tryd.f7, Option.getD_some, Code.fst, Code.snd, Code.bin, Code.lin, Code.sin, Code.yes, Code.no, Code.ops, poM, po, poG, dstOf, List.getElem?_cons_succ, List.getElem?_cons_zero]; exact rfl⟩ : PLift (poM (Code.ops R7_15).toList (Code.ops R7_15).toList = _))
noncomputable def R7_15_e := (⟨fun k Q ts st => g_region (id := 15) (ops := Code.ops R7_15) R7_15_p.down⟩ : PLift (∀ (k : List Frm) (Q : APost) (ts : List AVal) (st : ASt), Gc E 7 R7_15 k Q ts st = Go E 7 _ k Q ts st))
noncomputable def N7_26 : Code := (code Tryd.f7).snd.snd.snd.snd.snd.snd.snd.snd.fst.snd
noncomputable def N7_27 : Code := (code Tryd.f7).snd.snd.snd.snd.snd.snd.snd.snd.fst.snd.yes
noncomputable def R7_16 : Code := (code Tryd.f7).snd.snd.snd.snd.snd.snd.snd.snd.fst.snd.yes.fst
noncomputable def R7_16_p := (⟨by simp only [R7_16, code, Tryd.f7, Option.getD_some, Code.fst, Code.snd, Code.bin, Code.lin, Code.sin, Code.yes, Code.no, Code.ops, poM, po, poG, dstOf, List.getElem?_cons_succ, List.getElem?_cons_zero]; exact rfl⟩ : PLift (poM (Code.ops R7_16).toList (Code.ops R7_16).toList = _))
noncomputable def R7_16_e := (⟨fun k Q ts st => g_region (id := 16) (ops := Code.ops R7_16) R7_16_p.down⟩ : PLift (∀ (k : List Frm) (Q : APost) (ts : List AVal) (st : ASt), Gc E 7 R7_16 k Q ts st = Go E 7 _ k Q ts st))
theorem N7_27_e (k : List Frm) (Q : APost) (ts : List AVal) (st : ASt) : Gc E 7 N7_27 k Q ts st = Gc E 7 (.seq R7_16 .ret) k Q ts st := _root_.id rfl
theorem N7_26_e (k : List Frm) (Q : APost) (ts : List AVal) (st : ASt) : Gc E 7 N7_26 k Q ts st = Gc E 7 (.cond (.tmp 52) N7_27 .skip) k Q ts st := _root_.id rfl
theorem N7_25_e (k : List Frm) (Q : APost) (ts : List AVal) (st : ASt) : Gc E 7 N7_25 k Q ts st = Gc E 7 (.seq R7_15 N7_26) k Q ts st := _root_.id rfl
noncomputable def N7_28 : Code := (code Tryd.f7).snd.snd.snd.snd.snd.snd.snd.snd.snd
noncomputable def N7_29 : Code := (code Tryd.f7).snd.snd.snd.snd.snd.snd.snd.snd.snd.fst
noncomputable def R7_17 : Code := (code Tryd.f7).snd.snd.snd.snd.snd.snd.snd.snd.snd.fst.fst
noncomputable def R7_17_p := (⟨by simp only [R7_17, code, Tryd.f7, Option.getD_some, Code.fst, Code.snd, Code.bin, Code.lin, Code.sin, Code.yes, Code.no, Code.ops, poM, po, poG, dstOf, List.getElem?_cons_succ, List.getElem?_cons_zero]; exact rfl⟩ : PLift (poM (Code.ops R7_17).toList (Code.ops R7_17).toList = _))
noncomputable def R7_17_e := (⟨fun k Q ts st => g_region (id := 17) (ops := Code.ops R7_17) R7_17_p.down⟩ : PLift (∀ (k : List Frm) (Q : APost) (ts : List AVal) (st : ASt), Gc E 7 R7_17 k Q ts st = Go E 7 _ k Q ts st))
noncomputable def N7_30 : Code := (code Tryd.f7).snd.snd.snd.snd.snd.snd.snd.snd.snd.fst.snd
noncomputable def L7_1 : Code := (code Tryd.f7).snd.snd.snd.snd.snd.snd.snd.snd.snd.fst.snd.bin.lin
noncomputable def R7_18 : Code := (code Tryd.f7).snd.snd.snd.snd.snd.snd.snd.snd.snd.fst.snd.bin.lin.fst
noncomputable def R7_18_p := (⟨by simp only [R7_18, code, Tryd.f7, Option.getD_some, Code.fst, Code.snd, Code.bin, Code.lin, Code.sin, Code.yes, Code.no, Code.ops, poM, po, poG, dstOf, List.getElem?_cons_succ, List.getElem?_cons_zero]; exact rfl⟩ : PLift (poM (Code.ops R7_18).toList (Code.ops R7_18).toList = _))
noncomputable def R7_18_e := (⟨fun k Q ts st => g_region (id := 18) (ops := Code.ops R7_18) R7_18_p.down⟩ : PLift (∀ (k : List Frm) (Q : APost) (ts : List AVal) (st : ASt), Gc E 7 R7_18 k Q ts st = Go E 7 _ k Q ts st))
noncomputable def N7_31 : Code := (code Tryd.f7).snd.snd.snd.snd.snd.snd.snd.snd.snd.fst.snd.bin.lin.snd
noncomputable def N7_32 : Code := (code Tryd.f7).snd.snd.snd.snd.snd.snd.snd.snd.snd.fst.snd.bin.lin.snd.snd
noncomputable def N7_33 : Code := (code Tryd.f7).snd.snd.snd.snd.snd.snd.snd.snd.snd.fst.snd.bin.lin.snd.snd.fst.bin
noncomputable def R7_19 : Code := (code Tryd.f7).snd.snd.snd.snd.snd.snd.snd.snd.snd.fst.snd.bin.lin.snd.snd.fst.bin.fst
noncomputable def R7_19_p := (⟨by simp only [R7_19, code, Tryd.f7, Option.getD_some, Code.fst, Code.snd, Code.bin, Code.lin, Code.sin, Code.yes, Code.no, Code.ops, poM, po, poG, dstOf, List.getElem?_cons_succ, List.getElem?_cons_zero]; exact rfl⟩ : PLift (poM (Code.ops R7_19).toList (Code.ops R7_19).toList = _))
noncomputable def R7_19_e := (⟨fun k Q ts st => g_region (id := 19) (ops := Code.ops R7_19) R7_19_p.down⟩ : PLift (∀ (k : List Frm) (Q : APost) (ts : List AVal) (st : ASt), Gc E 7 R7_19 k Q ts st = Go E 7 _ k Q ts st))
noncomputable def N7_34 : Code := (code Tryd.f7).snd.snd.snd.snd.snd.snd.snd.snd.snd.fst.snd.bin.lin.snd.snd.fst.bin.snd
noncomputable def R7_20 : Code := (code Tryd.f7).snd.snd.snd.snd.snd.snd.snd.snd.snd.fst.snd.bin.lin.snd.snd.fst.bin.snd.fst
noncomputable def R7_20_p := (⟨by simp only [R7_20, code, Tryd.f7, Option.getD_some, Code.fst, Code.snd, Code.bin, Code.lin, Code.sin, Code.yes, Code.no, Code.ops, poM, po, poG, dstOf, List.getElem?_cons_succ, List.getElem?_cons_zero]; exact rfl⟩ : PLift (poM (Code.ops R7_20).toList (Code.ops R7_20).toList = _))
theorem R7_20_d : drawB E 7 (Code.ops R7_20) = true := by kernel_rfl
noncomputable def R7_20_e := (⟨fun k Q ts st => g_lex (id := 20) (ops := Code.ops R7_20) R7_20_p.down R7_20_d⟩ : PLift (∀ (k : List Frm) (Q : APost) (ts : List AVal) (st : ASt), Gc E 7 R7_20 k Q ts st = Go E 7 _ k Q ts st))
noncomputable def N7_35 : Code := (code Tryd.f7).snd.snd.snd.snd.snd.snd.snd.snd.snd.fst.snd.bin.lin.snd.snd.fst.bin.snd.snd
noncomputable def N7_36 : Code := (code Tryd.f7).snd.snd.snd.snd.snd.snd.snd.snd.snd.fst.snd.bin.lin.snd.snd.fst.bin.snd.snd.yes
noncomputable def R7_21 : Code := (code Tryd.f7).snd.snd.snd.snd.snd.snd.snd.snd.snd.fst.snd.bin.lin.snd.snd.fst.bin.snd.snd.yes.fst
noncomputable def R7_21_p := (⟨by simp only [R7_21, code, Tryd.f7, Option.getD_some, Code.fst, Code.snd, Code.bin, Code.lin, Code.sin, Code.yes, Code.no, Code.ops, poM, po, poG, dstOf, List.getElem?_cons_succ, List.getElem?_cons_zero]; exact rfl⟩ : PLift (poM (Code.ops R7_21).toList (Code.ops R7_21).toList = _))
noncomputable def R7_21_e := (⟨fun k Q ts st => g_region (id := 21) (ops := Code.ops R7_21) R7_21_p.down⟩ : PLift (∀ (k : List Frm) (Q : APost) (ts : List AVal) (st : ASt), Gc E 7 R7_21 k Q ts st = Go E 7 _ k Q ts st))
theorem N7_36_e (k : List Frm) (Q : APost) (ts : List AVal) (st : ASt) : Gc E 7 N7_36 k Q ts st = Gc E 7 (.seq R7_21 .ret) k Q ts st := _root_.id rfl
theorem N7_35_e (k : List Frm) (Q : APost) (ts : List AVal) (st : ASt) : Gc E 7 N7_35 k Q ts st = Gc E 7 (.cond (.tmp 94) N7_36 .skip) k Q ts st := _root_.id rfl
theorem N7_34_e (k : List Frm) (Q : APost) (ts : List AVal) (st : ASt) : Gc E 7 N7_34 k Q ts st = Gc E 7 (.seq R7_20 N7_35) k Q ts st := _root_.id rfl
theorem N7_33_e (k : List Frm) (Q : APost) (ts : List AVal) (st : ASt) : Gc E 7 N7_33 k Q ts st = Gc E 7 (.seq R7_19 N7_34) k Q ts st := _root_.id rfl
noncomputable def N7_37 : Code := (code Tryd.f7).snd.snd.snd.snd.snd.snd.snd.snd.snd.fst.snd.bin.lin.snd.snd.snd
noncomputable def R7_22 : Code := (code Tryd.f7).snd.snd.snd.snd.snd.snd.snd.snd.snd.fst.snd.bin.lin.snd.snd.snd
noncomputable def R7_22_p := (⟨by simp only [R7_22, code, Tryd.f7, Option.getD_some, Code.fst, Code.snd, Code.bin, Code.lin, Code.sin, Code.yes, Code.no, Code.ops, poM, po, poG, dstOf, List.getElem?_cons_succ, List.getElem?_cons_zero]; exact rfl⟩ : PLift (poM (Code.ops R7_22).toList (Code.ops R7_22).toList = _))
noncomputable def R7_22_e := (⟨fun k Q ts st => g_region (id := 22) (ops := Code.ops R7_22) R7_22_p.down⟩ : PLift (∀ (k : List Frm) (Q : APost) (ts : List AVal) (st : ASt), Gc E 7 R7_22 k Q ts st = Go E 7 _ k Q ts st))
theorem N7_37_e (k : List Frm) (Q : APost) (ts : List AVal) (st : ASt) : Gc E 7 N7_37 k Q ts st = Gc E 7 R7_22 k Q ts st := _root_.id rfl
theorem N7_32_e (k : List Frm) (Q : APost) (ts : List AVal) (st : ASt) : Gc E 7 N7_32 k Q ts st = Gc E 7 (.seq (.block 3 N7_33) N7_37) k Q ts st := _root_.id rfl
theorem N7_31_e (k : List Frm) (Q : APost) (ts : List AVal) (st : ASt) : Gc E 7 N7_31 k Q ts st = Gc E 7 (.seq (.cond (.tmp 56) .skip (.exit 2)) N7_32) k Q ts st := _root_.id rfl
theorem L7_1_e (k : List Frm) (Q : APost) (ts : List AVal) (st : ASt) : Gc E 7 L7_1 k Q ts st = Gc E 7 (.seq R7_18 N7_31) k Q ts st := _root_.id rfl
theorem N7_30_e (k : List Frm) (Q : APost) (ts : List AVal) (st : ASt) : Gc E 7 N7_30 k Q ts st = Gc E 7 (.block 2 (.loop L7_1)) k Q ts st := _root_.id rfl
theorem N7_29_e (k : List Frm) (Q : APost) (ts : List AVal) (st : ASt) : Gc E 7 N7_29 k Q ts st = Gc E 7 (.seq R7_17 N7_30) k Q ts st := _root_.id rfl
noncomputable def N7_38 : Code := (code Tryd.f7).snd.snd.snd.snd.snd.snd.snd.snd.snd.snd
noncomputable def R7_23 : Code := (code Tryd.f7).snd.snd.snd.snd.snd.snd.snd.snd.snd.snd.fst
noncomputable def R7_23_p := (⟨by simp only [R7_23, code, Tryd.f7, Option.getD_some, Code.fst, Code.snd, Code.bin, Code.lin, Code.sin, Code.yes, Code.no, Code.ops, poM, po, poG, dstOf, List.getElem?_cons_succ, List.getElem?_cons_zero]; exact rfl⟩ : PLift (poM (Code.ops R7_23).toList (Code.ops R7_23).toList = _))
noncomputable def R7_23_e := (⟨fun k Q ts st => g_region (id := 23) (ops := Code.ops R7_23) R7_23_p.down⟩ : PLift (∀ (k : List Frm) (Q : APost) (ts : List AVal) (st : ASt), Gc E 7 R7_23 k Q ts st = Go E 7 _ k Q ts st))
theorem N7_38_e (k : List Frm) (Q : APost) (ts : List AVal) (st : ASt) : Gc E 7 N7_38 k Q ts st = Gc E 7 (.seq R7_23 .ret) k Q ts st := _root_.id rfl
theorem N7_28_e (k : List Frm) (Q : APost) (ts : List AVal) (st : ASt) : Gc E 7 N7_28 k Q ts st = Gc E 7 (.seq N7_29 N7_38) k Q ts st := _root_.id rfl
theorem N7_24_e (k : List Frm) (Q : APost) (ts : List AVal) (st : ASt) : Gc E 7 N7_24 k Q ts st = Gc E 7 (.seq N7_25 N7_28) k Q ts st := _root_.id rfl
theorem N7_23_e (k : List Frm) (Q : APost) (ts : List AVal) (st : ASt) : Gc E 7 N7_23 k Q ts st = Gc E 7 (.seq R7_14 N7_24) k Q ts st := _root_.id rfl
theorem N7_15_e (k : List Frm) (Q : APost) (ts : List AVal) (st : ASt) : Gc E 7 N7_15 k Q ts st = Gc E 7 (.seq N7_16 N7_23) k Q ts st := _root_.id rfl
theorem N7_14_e (k : List Frm) (Q : APost) (ts : List AVal) (st : ASt) : Gc E 7 N7_14 k Q ts st = Gc E 7 (.seq R7_8 N7_15) k Q ts st := _root_.id rfl
theorem N7_10_e (k : List Frm) (Q : APost) (ts : List AVal) (st : ASt) : Gc E 7 N7_10 k Q ts st = Gc E 7 (.seq N7_11 N7_14) k Q ts st := _root_.id rfl
theorem N7_9_e (k : List Frm) (Q : APost) (ts : List AVal) (st : ASt) : Gc E 7 N7_9 k Q ts st = Gc E 7 (.seq R7_5 N7_10) k Q ts st := _root_.id rfl
theorem N7_5_e (k : List Frm) (Q : APost) (ts : List AVal) (st : ASt) : Gc E 7 N7_5 k Q ts st = Gc E 7 (.seq N7_6 N7_9) k Q ts st := _root_.id rfl
theorem N7_1_e (k : List Frm) (Q : APost) (ts : List AVal) (st : ASt) : Gc E 7 N7_1 k Q ts st = Gc E 7 (.seq N7_2 N7_5) k Q ts st := _root_.id rfl
theorem N7_0_e (k : List Frm) (Q : APost) (ts : List AVal) (st : ASt) : Gc E 7 N7_0 k Q ts st = Gc E 7 (.seq R7_0 N7_1) k Q ts st := _root_.id rfl
theorem en_7 {x0 : AVal} {st : ASt} {R : AEnd → ASt → Prop} (h : ∀ g : Nat → AVal, g 0 = x0 → Gc E 7 N7_0 [] (RQ E Tryd.f7 R) (Sl 96 g) st) : ∃ r st', rw E 7 [x0] st = some (r, st') ∧ R r st' :=
  en_of (fn := Tryd.f7) (c := N7_0) rfl rfl rfl (Nat.le_of_ble_eq_true rfl) fun g hg => h g (hg 0 x0 rfl)
theorem rq_7 (R : AEnd → ASt → Prop) (g : Nat → AVal) (st : ASt) : RQ E Tryd.f7 R .ret (Sl 96 g) st = R (.returned (g 2)) st := by
  rw [rq_gen (.inl rfl), show (Tryd.f7).results.toList = [.tmp 2] from rfl]
  simp only [aresB, sl_get, Nat.reduceLT, ↓reduceIte, bindK_some, tup]
theorem rqn_7 (R : AEnd → ASt → Prop) (g : Nat → AVal) (st : ASt) : RQ E Tryd.f7 R .normal (Sl 96 g) st = R (.returned (g 2)) st := by
  rw [rq_gen (.inr rfl), show (Tryd.f7).results.toList = [.tmp 2] from rfl]
  simp only [aresB, sl_get, Nat.reduceLT, ↓reduceIte, bindK_some, tup]
theorem o_fap_52_1 (s o : Nat) : fieldA E.P 52 (.ptr s o) 1 = some (.ptr s (o + 1)) := rfl
theorem o_fai_52_1 (cs : List AVal) : fieldA E.P 52 (.iptr (.agg cs)) 1 = (cs[1]?).map .iptr := rfl
theorem o_ldp_9 (st : ASt) (s o : Nat) : loadA E.P 9 st (.ptr s o) = (blkOf (st.heap s)).bind (fun cs => cs[o]?) := ld_one rfl rfl st s o
theorem o_ldi_9 (st : ASt) (v : AVal) : loadA E.P 9 st (.iptr v) = if v.isCell = true then some v else none := rfl
theorem o_fap_52_0 (s o : Nat) : fieldA E.P 52 (.ptr s o) 0 = some (.ptr s (o + 0)) := rfl
theorem o_fai_52_0 (cs : List AVal) : fieldA E.P 52 (.iptr (.agg cs)) 0 = (cs[0]?).map .iptr := rfl
theorem o_ldp_50 (st : ASt) (s o : Nat) : loadA E.P 50 st (.ptr s o) = (blkOf (st.heap s)).bind (fun cs => cs[o]?) := ld_one rfl rfl st s o
theorem o_ldi_50 (st : ASt) (v : AVal) : loadA E.P 50 st (.iptr v) = if v.isCell = true then some v else none := rfl
theorem o_fap_52_2 (s o : Nat) : fieldA E.P 52 (.ptr s o) 2 = some (.ptr s (o + 2)) := rfl
theorem o_fai_52_2 (cs : List AVal) : fieldA E.P 52 (.iptr (.agg cs)) 2 = (cs[2]?).map .iptr := rfl
theorem o_ldp_38 (st : ASt) (s o : Nat) : loadA E.P 38 st (.ptr s o) = (blkOf (st.heap s)).bind (fun cs => cs[o]?) := ld_one rfl rfl st s o
theorem o_ldi_38 (st : ASt) (v : AVal) : loadA E.P 38 st (.iptr v) = if v.isCell = true then some v else none := rfl

/-! ### braidwork/braidworklaw03.LexNotes -/
noncomputable def N11_0 : Code := (code Tryd.f11)
noncomputable def R11_0 : Code := (code Tryd.f11).fst
noncomputable def R11_0_p := (⟨by simp only [R11_0, code, Tryd.f11, Option.getD_some, Code.fst, Code.snd, Code.bin, Code.lin, Code.sin, Code.yes, Code.no, Code.ops, poM, po, poG, dstOf, List.getElem?_cons_succ, List.getElem?_cons_zero]; exact rfl⟩ : PLift (poM (Code.ops R11_0).toList (Code.ops R11_0).toList = _))
noncomputable def R11_0_e := (⟨fun k Q ts st => g_region (id := 0) (ops := Code.ops R11_0) R11_0_p.down⟩ : PLift (∀ (k : List Frm) (Q : APost) (ts : List AVal) (st : ASt), Gc E 11 R11_0 k Q ts st = Go E 11 _ k Q ts st))
noncomputable def N11_1 : Code := (code Tryd.f11).snd
noncomputable def N11_2 : Code := (code Tryd.f11).snd.fst
noncomputable def R11_1 : Code := (code Tryd.f11).snd.fst.fst
noncomputable def R11_1_p := (⟨by simp only [R11_1, code, Tryd.f11, Option.getD_some, Code.fst, Code.snd, Code.bin, Code.lin, Code.sin, Code.yes, Code.no, Code.ops, poM, po, poG, dstOf, List.getElem?_cons_succ, List.getElem?_cons_zero]; exact rfl⟩ : PLift (poM (Code.ops R11_1).toList (Code.ops R11_1).toList = _))
noncomputable def R11_1_e := (⟨fun k Q ts st => g_region (id := 1) (ops := Code.ops R11_1) R11_1_p.down⟩ : PLift (∀ (k : List Frm) (Q : APost) (ts : List AVal) (st : ASt), Gc E 11 R11_1 k Q ts st = Go E 11 _ k Q ts st))
noncomputable def N11_3 : Code := (code Tryd.f11).snd.fst.snd
noncomputable def N11_4 : Code := (code Tryd.f11).snd.fst.snd.yes
noncomputable def R11_2 : Code := (code Tryd.f11).snd.fst.snd.yes.fst
noncomputable def R11_2_p := (⟨by simp only [R11_2, code, Tryd.f11, Option.getD_some, Code.fst, Code.snd, Code.bin, Code.lin, Code.sin, Code.yes, Code.no, Code.ops, poM, po, poG, dstOf, List.getElem?_cons_succ, List.getElem?_cons_zero]; exact rfl⟩ : PLift (poM (Code.ops R11_2).toList (Code.ops R11_2).toList = _))
noncomputable def R11_2_e := (⟨fun k Q ts st => g_region (id := 2) (ops := Code.ops R11_2) R11_2_p.down⟩ : PLift (∀ (k : List Frm) (Q : APost) (ts : List AVal) (st : ASt), Gc E 11 R11_2 k Q ts st = Go E 11 _ k Q ts st))
theorem N11_4_e (k : List Frm) (Q : APost) (ts : List AVal) (st : ASt) : Gc E 11 N11_4 k Q ts st = Gc E 11 (.seq R11_2 .ret) k Q ts st := _root_.id rfl
theorem N11_3_e (k : List Frm) (Q : APost) (ts : List AVal) (st : ASt) : Gc E 11 N11_3 k Q ts st = Gc E 11 (.cond (.tmp 15) N11_4 .skip) k Q ts st := _root_.id rfl
theorem N11_2_e (k : List Frm) (Q : APost) (ts : List AVal) (st : ASt) : Gc E 11 N11_2 k Q ts st = Gc E 11 (.seq R11_1 N11_3) k Q ts st := _root_.id rfl
noncomputable def N11_5 : Code := (code Tryd.f11).snd.snd
noncomputable def N11_6 : Code := (code Tryd.f11).snd.snd.fst
noncomputable def R11_3 : Code := (code Tryd.f11).snd.snd.fst.fst
noncomputable def R11_3_p := (⟨by simp only [R11_3, code, Tryd.f11, Option.getD_some, Code.fst, Code.snd, Code.bin, Code.lin, Code.sin, Code.yes, Code.no, Code.ops, poM, po, poG, dstOf, List.getElem?_cons_succ, List.getElem?_cons_zero]; exact rfl⟩ : PLift (poM (Code.ops R11_3).toList (Code.ops R11_3).toList = _))
noncomputable def R11_3_e := (⟨fun k Q ts st => g_region (id := 3) (ops := Code.ops R11_3) R11_3_p.down⟩ : PLift (∀ (k : List Frm) (Q : APost) (ts : List AVal) (st : ASt), Gc E 11 R11_3 k Q ts st = Go E 11 _ k Q ts st))
noncomputable def N11_7 : Code := (code Tryd.f11).snd.snd.fst.snd
noncomputable def N11_8 : Code := (code Tryd.f11).snd.snd.fst.snd.yes
noncomputable def R11_4 : Code := (code Tryd.f11).snd.snd.fst.snd.yes.fst
noncomputable def R11_4_p := (⟨by simp only [R11_4, code, Tryd.f11, Option.getD_some, Code.fst, Code.snd, Code.bin, Code.lin, Code.sin, Code.yes, Code.no, Code.ops, poM, po, poG, dstOf, List.getElem?_cons_succ, List.getElem?_cons_zero]; exact rfl⟩ : PLift (poM (Code.ops R11_4).toList (Code.ops R11_4).toList = _))
noncomputable def R11_4_e := (⟨fun k Q ts st => g_region (id := 4) (ops := Code.ops R11_4) R11_4_p.down⟩ : PLift (∀ (k : List Frm) (Q : APost) (ts : List AVal) (st : ASt), Gc E 11 R11_4 k Q ts st = Go E 11 _ k Q ts st))
theorem N11_8_e (k : List Frm) (Q : APost) (ts : List AVal) (st : ASt) : Gc E 11 N11_8 k Q ts st = Gc E 11 (.seq R11_4 .ret) k Q ts st := _root_.id rfl
theorem N11_7_e (k : List Frm) (Q : APost) (ts : List AVal) (st : ASt) : Gc E 11 N11_7 k Q ts st = Gc E 11 (.cond (.tmp 32) N11_8 .skip) k Q ts st := _root_.id rfl
theorem N11_6_e (k : List Frm) (Q : APost) (ts : List AVal) (st : ASt) : Gc E 11 N11_6 k Q ts st = Gc E 11 (.seq R11_3 N11_7) k Q ts st := _root_.id rfl
noncomputable def N11_9 : Code := (code Tryd.f11).snd.snd.snd
noncomputable def R11_5 : Code := (code Tryd.f11).snd.snd.snd.fst
noncomputable def R11_5_p := (⟨by simp only [R11_5, code, Tryd.f11, Option.getD_some, Code.fst, Code.snd, Code.bin, Code.lin, Code.sin, Code.yes, Code.no, Code.ops, poM, po, poG, dstOf, List.getElem?_cons_succ, List.getElem?_cons_zero]; exact rfl⟩ : PLift (poM (Code.ops R11_5).toList (Code.ops R11_5).toList = _))
noncomputable def R11_5_e := (⟨fun k Q ts st => g_region (id := 5) (ops := Code.ops R11_5) R11_5_p.down⟩ : PLift (∀ (k : List Frm) (Q : APost) (ts : List AVal) (st : ASt), Gc E 11 R11_5 k Q ts st = Go E 11 _ k Q ts st))
noncomputable def N11_10 : Code := (code Tryd.f11).snd.snd.snd.snd
noncomputable def R11_6 : Code := (code Tryd.f11).snd.snd.snd.snd.fst
noncomputable def R11_6_p := (⟨by simp only [R11_6, code, Tryd.f11, Option.getD_some, Code.fst, Code.snd, Code.bin, Code.lin, Code.sin, Code.yes, Code.no, Code.ops, poM, po, poG, dstOf, List.getElem?_cons_succ, List.getElem?_cons_zero]; exact rfl⟩ : PLift (poM (Code.ops R11_6).toList (Code.ops R11_6).toList = _))
noncomputable def R11_6_e := (⟨fun k Q ts st => g_region (id := 6) (ops := Code.ops R11_6) R11_6_p.down⟩ : PLift (∀ (k : List Frm) (Q : APost) (ts : List AVal) (st : ASt), Gc E 11 R11_6 k Q ts st = Go E 11 _ k Q ts st))
noncomputable def N11_11 : Code := (code Tryd.f11).snd.snd.snd.snd.snd
noncomputable def N11_12 : Code := (code Tryd.f11).snd.snd.snd.snd.snd.fst
noncomputable def R11_7 : Code := (code Tryd.f11).snd.snd.snd.snd.snd.fst.fst
noncomputable def R11_7_p := (⟨by simp only [R11_7, code, Tryd.f11, Option.getD_some, Code.fst, Code.snd, Code.bin, Code.lin, Code.sin, Code.yes, Code.no, Code.ops, poM, po, poG, dstOf, List.getElem?_cons_succ, List.getElem?_cons_zero]; exact rfl⟩ : PLift (poM (Code.ops R11_7).toList (Code.ops R11_7).toList = _))
noncomputable def R11_7_e := (⟨fun k Q ts st => g_region (id := 7) (ops := Code.ops R11_7) R11_7_p.down⟩ : PLift (∀ (k : List Frm) (Q : APost) (ts : List AVal) (st : ASt), Gc E 11 R11_7 k Q ts st = Go E 11 _ k Q ts st))
noncomputable def N11_13 : Code := (code Tryd.f11).snd.snd.snd.snd.snd.fst.snd
noncomputable def N11_14 : Code := (code Tryd.f11).snd.snd.snd.snd.snd.fst.snd.yes
noncomputable def R11_8 : Code := (code Tryd.f11).snd.snd.snd.snd.snd.fst.snd.yes.fst
noncomputable def R11_8_p := (⟨by simp only [R11_8, code, Tryd.f11, Option.getD_some, Code.fst, Code.snd, Code.bin, Code.lin, Code.sin, Code.yes, Code.no, Code.ops, poM, po, poG, dstOf, List.getElem?_cons_succ, List.getElem?_cons_zero]; exact rfl⟩ : PLift (poM (Code.ops R11_8).toList (Code.ops R11_8).toList = _))
noncomputable def R11_8_e := (⟨fun k Q ts st => g_region (id := 8) (ops := Code.ops R11_8) R11_8_p.down⟩ : PLift (∀ (k : List Frm) (Q : APost) (ts : List AVal) (st : ASt), Gc E 11 R11_8 k Q ts st = Go E 11 _ k Q ts st))
theorem N11_14_e (k : List Frm) (Q : APost) (ts : List AVal) (st : ASt) : Gc E 11 N11_14 k Q ts st = Gc E 11 (.seq R11_8 .ret) k Q ts st := _root_.id rfl
theorem N11_13_e (k : List Frm) (Q : APost) (ts : List AVal) (st : ASt) : Gc E 11 N11_13 k Q ts st = Gc E 11 (.cond (.tmp 67) N11_14 .skip) k Q ts st := _root_.id rfl
theorem N11_12_e (k : List Frm) (Q : APost) (ts : List AVal) (st : ASt) : Gc E 11 N11_12 k Q ts st = Gc E 11 (.seq R11_7 N11_13) k Q ts st := _root_.id rfl
noncomputable def N11_15 : Code := (code Tryd.f11).snd.snd.snd.snd.snd.snd
noncomputable def N11_16 : Code := (code Tryd.f11).snd.snd.snd.snd.snd.snd.fst
noncomputable def R11_9 : Code := (code Tryd.f11).snd.snd.snd.snd.snd.snd.fst.fst
noncomputable def R11_9_p := (⟨by simp only [R11_9, code, Tryd.f11, Option.getD_some, Code.fst, Code.snd, Code.bin, Code.lin, Code.sin, Code.yes, Code.no, Code.ops, poM, po, poG, dstOf, List.getElem?_cons_succ, List.getElem?_cons_zero]; exact rfl⟩ : PLift (poM (Code.ops R11_9).toList (Code.ops R11_9).toList = _))
noncomputable def R11_9_e := (⟨fun k Q ts st => g_region (id := 9) (ops := Code.ops R11_9) R11_9_p.down⟩ : PLift (∀ (k : List Frm) (Q : APost) (ts : List AVal) (st : ASt), Gc E 11 R11_9 k Q ts st = Go E 11 _ k Q ts st))
noncomputable def N11_17 : Code := (code Tryd.f11).snd.snd.snd.snd.snd.snd.fst.snd
noncomputable def L11_0 : Code := (code Tryd.f11).snd.snd.snd.snd.snd.snd.fst.snd.bin.lin
noncomputable def R11_10 : Code := (code Tryd.f11).snd.snd.snd.snd.snd.snd.fst.snd.bin.lin.fst
noncomputable def R11_10_p := (⟨by simp only [R11_10, code, Tryd.f11, Option.getD_some, Code.fst, Code.snd, Code.bin, Code.lin, Code.sin, Code.yes, Code.no, Code.ops, poM, po, poG, dstOf, List.getElem?_cons_succ, List.getElem?_cons_zero]; exact rfl⟩ : PLift (poM (Code.ops R11_10).toList (Code.ops R11_10).toList = _))
noncomputable def R11_10_e := (⟨fun k Q ts st => g_region (id := 10) (ops := Code.ops R11_10) R11_10_p.down⟩ : PLift (∀ (k : List Frm) (Q : APost) (ts : List AVal) (st : ASt), Gc E 11 R11_10 k Q ts st = Go E 11 _ k Q ts st))
noncomputable def N11_18 : Code := (code Tryd.f11).snd.snd.snd.snd.snd.snd.fst.snd.bin.lin.snd
noncomputable def N11_19 : Code := (code Tryd.f11).snd.snd.snd.snd.snd.snd.fst.snd.bin.lin.snd.snd
noncomputable def N11_20 : Code := (code Tryd.f11).snd.snd.snd.snd.snd.snd.fst.snd.bin.lin.snd.snd.fst.bin
noncomputable def R11_11 : Code := (code Tryd.f11).snd.snd.snd.snd.snd.snd.fst.snd.bin.lin.snd.snd.fst.bin.fst
noncomputable def R11_11_p := (⟨by simp only [R11_11, code, Tryd.f11, Option.getD_some, Code.fst, Code.snd, Code.bin, Code.lin, Code.sin, Code.yes, Code.no, Code.ops, poM, po, poG, dstOf, List.getElem?_cons_succ, List.getElem?_cons_zero]; exact rfl⟩ : PLift (poM (Code.ops R11_11).toList (Code.ops R11_11).toList = _))
noncomputable def R11_11_e := (⟨fun k Q ts st => g_region (id := 11) (ops := Code.ops R11_11) R11_11_p.down⟩ : PLift (∀ (k : List Frm) (Q : APost) (ts : List AVal) (st : ASt), Gc E 11 R11_11 k Q ts st = Go E 11 _ k Q ts st))
noncomputable def N11_21 : Code := (code Tryd.f11).snd.snd.snd.snd.snd.snd.fst.snd.bin.lin.snd.snd.fst.bin.snd
noncomputable def R11_12 : Code := (code Tryd.f11).snd.snd.snd.snd.snd.snd.fst.snd.bin.lin.snd.snd.fst.bin.snd.fst
noncomputable def R11_12_p := (⟨by simp only [R11_12, code, Tryd.f11, Option.getD_some, Code.fst, Code.snd, Code.bin, Code.lin, Code.sin, Code.yes, Code.no, Code.ops, poM, po, poG, dstOf, List.getElem?_cons_succ, List.getElem?_cons_zero]; exact rfl⟩ : PLift (poM (Code.ops R11_12).toList (Code.ops R11_12).toList = _))
theorem R11_12_d : drawB E 11 (Code.ops R11_12) = true := by kernel_rfl
noncomputable def R11_12_e := (⟨fun k Q ts st => g_lex (id := 12) (ops := Code.ops R11_12) R11_12_p.down R11_12_d⟩ : PLift (∀ (k : List Frm) (Q : APost) (ts : List AVal) (st : ASt), Gc E 11 R11_12 k Q ts st = Go E 11 _ k Q ts st))
noncomputable def N11_22 : Code := (code Tryd.f11).snd.snd.snd.snd.snd.snd.fst.snd.bin.lin.snd.snd.fst.bin.snd.snd
noncomputable def N11_23 : Code := (code Tryd.f11).snd.snd.snd.snd.snd.snd.fst.snd.bin.lin.snd.snd.fst.bin.snd.snd.yes
noncomputable def R11_13 : Code := (code Tryd.f11).snd.snd.snd.snd.snd.snd.fst.snd.bin.lin.snd.snd.fst.bin.snd.snd.yes.fst
noncomputable def R11_13_p := (⟨by simp only [R11_13, code, Tryd.f11, Option.getD_some, Code.fst, Code.snd, Code.bin, Code.lin, Code.sin, Code.yes, Code.no, Code.ops, poM, po, poG, dstOf, List.getElem?_cons_succ, List.getElem?_cons_zero]; exact rfl⟩ : PLift (poM (Code.ops R11_13).toList (Code.ops R11_13).toList = _))
noncomputable def R11_13_e := (⟨fun k Q ts st => g_region (id := 13) (ops := Code.ops R11_13) R11_13_p.down⟩ : PLift (∀ (k : List Frm) (Q : APost) (ts : List AVal) (st : ASt), Gc E 11 R11_13 k Q ts st = Go E 11 _ k Q ts st))
theorem N11_23_e (k : List Frm) (Q : APost) (ts : List AVal) (st : ASt) : Gc E 11 N11_23 k Q ts st = Gc E 11 (.seq R11_13 .ret) k Q ts st := _root_.id rfl
theorem N11_22_e (k : List Frm) (Q : APost) (ts : List AVal) (st : ASt) : Gc E 11 N11_22 k Q ts st = Gc E 11 (.cond (.tmp 111) N11_23 .skip) k Q ts st := _root_.id rfl
theorem N11_21_e (k : List Frm) (Q : APost) (ts : List AVal) (st : ASt) : Gc E 11 N11_21 k Q ts st = Gc E 11 (.seq R11_12 N11_22) k Q ts st := _root_.id rfl
theorem N11_20_e (k : List Frm) (Q : APost) (ts : List AVal) (st : ASt) : Gc E 11 N11_20 k Q ts st = Gc E 11 (.seq R11_11 N11_21) k Q ts st := _root_.id rfl
noncomputable def N11_24 : Code := (code Tryd.f11).snd.snd.snd.snd.snd.snd.fst.snd.bin.lin.snd.snd.snd
noncomputable def R11_14 : Code := (code Tryd.f11).snd.snd.snd.snd.snd.snd.fst.snd.bin.lin.snd.snd.snd
noncomputable def R11_14_p := (⟨by simp only [R11_14, code, Tryd.f11, Option.getD_some, Code.fst, Code.snd, Code.bin, Code.lin, Code.sin, Code.yes, Code.no, Code.ops, poM, po, poG, dstOf, List.getElem?_cons_succ, List.getElem?_cons_zero]; exact rfl⟩ : PLift (poM (Code.ops R11_14).toList (Code.ops R11_14).toList = _))
noncomputable def R11_14_e := (⟨fun k Q ts st => g_region (id := 14) (ops := Code.ops R11_14) R11_14_p.down⟩ : PLift (∀ (k : List Frm) (Q : APost) (ts : List AVal) (st : ASt), Gc E 11 R11_14 k Q ts st = Go E 11 _ k Q ts st))
theorem N11_24_e (k : List Frm) (Q : APost) (ts : List AVal) (st : ASt) : Gc E 11 N11_24 k Q ts st = Gc E 11 R11_14 k Q ts st := _root_.id rfl
theorem N11_19_e (k : List Frm) (Q : APost) (ts : List AVal) (st : ASt) : Gc E 11 N11_19 k Q ts st = Gc E 11 (.seq (.block 1 N11_20) N11_24) k Q ts st := _root_.id rfl
theorem N11_18_e (k : List Frm) (Q : APost) (ts : List AVal) (st : ASt) : Gc E 11 N11_18 k Q ts st = Gc E 11 (.seq (.cond (.tmp 73) .skip (.exit 0)) N11_19) k Q ts st := _root_.id rfl
theorem L11_0_e (k : List Frm) (Q : APost) (ts : List AVal) (st : ASt) : Gc E 11 L11_0 k Q ts st = Gc E 11 (.seq R11_10 N11_18) k Q ts st := _root_.id rfl
theorem N11_17_e (k : List Frm) (Q : APost) (ts : List AVal) (st : ASt) : Gc E 11 N11_17 k Q ts st = Gc E 11 (.block 0 (.loop L11_0)) k Q ts st := _root_.id rfl
theorem N11_16_e (k : List Frm) (Q : APost) (ts : List AVal) (st : ASt) : Gc E 11 N11_16 k Q ts st = Gc E 11 (.seq R11_9 N11_17) k Q ts st := _root_.id rfl
noncomputable def N11_25 : Code := (code Tryd.f11).snd.snd.snd.snd.snd.snd.snd
noncomputable def R11_15 : Code := (code Tryd.f11).snd.snd.snd.snd.snd.snd.snd.fst
noncomputable def R11_15_p := (⟨by simp only [R11_15, code, Tryd.f11, Option.getD_some, Code.fst, Code.snd, Code.bin, Code.lin, Code.sin, Code.yes, Code.no, Code.ops, poM, po, poG, dstOf, List.getElem?_cons_succ, List.getElem?_cons_zero]; exact rfl⟩ : PLift (poM (Code.ops R11_15).toList (Code.ops R11_15).toList = _))
noncomputable def R11_15_e := (⟨fun k Q ts st => g_region (id := 15) (ops := Code.ops R11_15) R11_15_p.down⟩ : PLift (∀ (k : List Frm) (Q : APost) (ts : List AVal) (st : ASt), Gc E 11 R11_15 k Q ts st = Go E 11 _ k Q ts st))
theorem N11_25_e (k : List Frm) (Q : APost) (ts : List AVal) (st : ASt) : Gc E 11 N11_25 k Q ts st = Gc E 11 (.seq R11_15 .ret) k Q ts st := _root_.id rfl
theorem N11_15_e (k : List Frm) (Q : APost) (ts : List AVal) (st : ASt) : Gc E 11 N11_15 k Q ts st = Gc E 11 (.seq N11_16 N11_25) k Q ts st := _root_.id rfl
theorem N11_11_e (k : List Frm) (Q : APost) (ts : List AVal) (st : ASt) : Gc E 11 N11_11 k Q ts st = Gc E 11 (.seq N11_12 N11_15) k Q ts st := _root_.id rfl
theorem N11_10_e (k : List Frm) (Q : APost) (ts : List AVal) (st : ASt) : Gc E 11 N11_10 k Q ts st = Gc E 11 (.seq R11_6 N11_11) k Q ts st := _root_.id rfl
theorem N11_9_e (k : List Frm) (Q : APost) (ts : List AVal) (st : ASt) : Gc E 11 N11_9 k Q ts st = Gc E 11 (.seq R11_5 N11_10) k Q ts st := _root_.id rfl
theorem N11_5_e (k : List Frm) (Q : APost) (ts : List AVal) (st : ASt) : Gc E 11 N11_5 k Q ts st = Gc E 11 (.seq N11_6 N11_9) k Q ts st := _root_.id rfl
theorem N11_1_e (k : List Frm) (Q : APost) (ts : List AVal) (st : ASt) : Gc E 11 N11_1 k Q ts st = Gc E 11 (.seq N11_2 N11_5) k Q ts st := _root_.id rfl
theorem N11_0_e (k : List Frm) (Q : APost) (ts : List AVal) (st : ASt) : Gc E 11 N11_0 k Q ts st = Gc E 11 (.seq R11_0 N11_1) k Q ts st := _root_.id rfl
theorem en_11 {x0 x1 x2 : AVal} {st : ASt} {R : AEnd → ASt → Prop} (h : ∀ g : Nat → AVal, g 0 = x0 → g 1 = x1 → g 2 = x2 → Gc E 11 N11_0 [] (RQ E Tryd.f11 R) (Sl 113 g) st) : ∃ r st', rw E 11 [x0, x1, x2] st = some (r, st') ∧ R r st' :=
  en_of (fn := Tryd.f11) (c := N11_0) rfl rfl rfl (Nat.le_of_ble_eq_true rfl) fun g hg => h g (hg 0 x0 rfl) (hg 1 x1 rfl) (hg 2 x2 rfl)
theorem rq_11 (R : AEnd → ASt → Prop) (g : Nat → AVal) (st : ASt) : RQ E Tryd.f11 R .ret (Sl 113 g) st = R (.returned (g 6)) st := by
  rw [rq_gen (.inl rfl), show (Tryd.f11).results.toList = [.tmp 6] from rfl]
  simp only [aresB, sl_get, Nat.reduceLT, ↓reduceIte, bindK_some, tup]
theorem rqn_11 (R : AEnd → ASt → Prop) (g : Nat → AVal) (st : ASt) : RQ E Tryd.f11 R .normal (Sl 113 g) st = R (.returned (g 6)) st := by
  rw [rq_gen (.inr rfl), show (Tryd.f11).results.toList = [.tmp 6] from rfl]
  simp only [aresB, sl_get, Nat.reduceLT, ↓reduceIte, bindK_some, tup]
theorem cf_29 (a : List AVal) (st : ASt) : callFuncA E.P 29 a st = some (.enter 29 a st) := rfl

/-! ### slices.Equal[[]braidwork/lex.Token,braidwork/lex.Token] -/
noncomputable def N28_0 : Code := (code Tryd.f28)
noncomputable def R28_0 : Code := (code Tryd.f28).fst
noncomputable def R28_0_p := (⟨by simp only [R28_0, code, Tryd.f28, Option.getD_some, Code.fst, Code.snd, Code.bin, Code.lin, Code.sin, Code.yes, Code.no, Code.ops, poM, po, poG, dstOf, List.getElem?_cons_succ, List.getElem?_cons_zero]; exact rfl⟩ : PLift (poM (Code.ops R28_0).toList (Code.ops R28_0).toList = _))
noncomputable def R28_0_e := (⟨fun k Q ts st => g_region (id := 0) (ops := Code.ops R28_0) R28_0_p.down⟩ : PLift (∀ (k : List Frm) (Q : APost) (ts : List AVal) (st : ASt), Gc E 28 R28_0 k Q ts st = Go E 28 _ k Q ts st))
noncomputable def N28_1 : Code := (code Tryd.f28).snd
noncomputable def N28_2 : Code := (code Tryd.f28).snd.fst
noncomputable def R28_1 : Code := (code Tryd.f28).snd.fst.fst
noncomputable def R28_1_p := (⟨by simp only [R28_1, code, Tryd.f28, Option.getD_some, Code.fst, Code.snd, Code.bin, Code.lin, Code.sin, Code.yes, Code.no, Code.ops, poM, po, poG, dstOf, List.getElem?_cons_succ, List.getElem?_cons_zero]; exact rfl⟩ : PLift (poM (Code.ops R28_1).toList (Code.ops R28_1).toList = _))
noncomputable def R28_1_e := (⟨fun k Q ts st => g_region (id := 1) (ops := Code.ops R28_1) R28_1_p.down⟩ : PLift (∀ (k : List Frm) (Q : APost) (ts : List AVal) (st : ASt), Gc E 28 R28_1 k Q ts st = Go E 28 _ k Q ts st))
noncomputable def N28_3 : Code := (code Tryd.f28).snd.fst.snd
noncomputable def N28_4 : Code := (code Tryd.f28).snd.fst.snd.yes
noncomputable def R28_2 : Code := (code Tryd.f28).snd.fst.snd.yes.fst
noncomputable def R28_2_p := (⟨by simp only [R28_2, code, Tryd.f28, Option.getD_some, Code.fst, Code.snd, Code.bin, Code.lin, Code.sin, Code.yes, Code.no, Code.ops, poM, po, poG, dstOf, List.getElem?_cons_succ, List.getElem?_cons_zero]; exact rfl⟩ : PLift (poM (Code.ops R28_2).toList (Code.ops R28_2).toList = _))
noncomputable def R28_2_e := (⟨fun k Q ts st => g_region (id := 2) (ops := Code.ops R28_2) R28_2_p.down⟩ : PLift (∀ (k : List Frm) (Q : APost) (ts : List AVal) (st : ASt), Gc E 28 R28_2 k Q ts st = Go E 28 _ k Q ts st))
theorem N28_4_e (k : List Frm) (Q : APost) (ts : List AVal) (st : ASt) : Gc E 28 N28_4 k Q ts st = Gc E 28 (.seq R28_2 .ret) k Q ts st := _root_.id rfl
theorem N28_3_e (k : List Frm) (Q : APost) (ts : List AVal) (st : ASt) : Gc E 28 N28_3 k Q ts st = Gc E 28 (.cond (.tmp 10) N28_4 .skip) k Q ts st := _root_.id rfl
theorem N28_2_e (k : List Frm) (Q : APost) (ts : List AVal) (st : ASt) : Gc E 28 N28_2 k Q ts st = Gc E 28 (.seq R28_1 N28_3) k Q ts st := _root_.id rfl
noncomputable def N28_5 : Code := (code Tryd.f28).snd.snd
noncomputable def N28_6 : Code := (code Tryd.f28).snd.snd.fst
noncomputable def R28_3 : Code := (code Tryd.f28).snd.snd.fst.fst
noncomputable def R28_3_p := (⟨by simp only [R28_3, code, Tryd.f28, Option.getD_some, Code.fst, Code.snd, Code.bin, Code.lin, Code.sin, Code.yes, Code.no, Code.ops, poM, po, poG, dstOf, List.getElem?_cons_succ, List.getElem?_cons_zero]; exact rfl⟩ : PLift (poM (Code.ops R28_3).toList (Code.ops R28_3).toList = _))
noncomputable def R28_3_e := (⟨fun k Q ts st => g_region (id := 3) (ops := Code.ops R28_3) R28_3_p.down⟩ : PLift (∀ (k : List Frm) (Q : APost) (ts : List AVal) (st : ASt), Gc E 28 R28_3 k Q ts st = Go E 28 _ k Q ts st))
noncomputable def N28_7 : Code := (code Tryd.f28).snd.snd.fst.snd
noncomputable def L28_0 : Code := (code Tryd.f28).snd.snd.fst.snd.bin.lin
noncomputable def R28_4 : Code := (code Tryd.f28).snd.snd.fst.snd.bin.lin.fst
noncomputable def R28_4_p := (⟨by simp only [R28_4, code, Tryd.f28, Option.getD_some, Code.fst, Code.snd, Code.bin, Code.lin, Code.sin, Code.yes, Code.no, Code.ops, poM, po, poG, dstOf, List.getElem?_cons_succ, List.getElem?_cons_zero]; exact rfl⟩ : PLift (poM (Code.ops R28_4).toList (Code.ops R28_4).toList = _))
noncomputable def R28_4_e := (⟨fun k Q ts st => g_region (id := 4) (ops := Code.ops R28_4) R28_4_p.down⟩ : PLift (∀ (k : List Frm) (Q : APost) (ts : List AVal) (st : ASt), Gc E 28 R28_4 k Q ts st = Go E 28 _ k Q ts st))
noncomputable def N28_8 : Code := (code Tryd.f28).snd.snd.fst.snd.bin.lin.snd
noncomputable def N28_9 : Code := (code Tryd.f28).snd.snd.fst.snd.bin.lin.snd.snd
noncomputable def N28_10 : Code := (code Tryd.f28).snd.snd.fst.snd.bin.lin.snd.snd.fst.bin
noncomputable def R28_5 : Code := (code Tryd.f28).snd.snd.fst.snd.bin.lin.snd.snd.fst.bin.fst
noncomputable def R28_5_p := (⟨by simp only [R28_5, code, Tryd.f28, Option.getD_some, Code.fst, Code.snd, Code.bin, Code.lin, Code.sin, Code.yes, Code.no, Code.ops, poM, po, poG, dstOf, List.getElem?_cons_succ, List.getElem?_cons_zero]; exact rfl⟩ : PLift (poM (Code.ops R28_5).toList (Code.ops R28_5).toList = _))
noncomputable def R28_5_e := (⟨fun k Q ts st => g_region (id := 5) (ops := Code.ops R28_5) R28_5_p.down⟩ : PLift (∀ (k : List Frm) (Q : APost) (ts : List AVal) (st : ASt), Gc E 28 R28_5 k Q ts st = Go E 28 _ k Q ts st))
noncomputable def N28_11 : Code := (code Tryd.f28).snd.snd.fst.snd.bin.lin.snd.snd.fst.bin.snd
noncomputable def R28_6 : Code := (code Tryd.f28).snd.snd.fst.snd.bin.lin.snd.snd.fst.bin.snd.fst
noncomputable def R28_6_p := (⟨by simp only [R28_6, code, Tryd.f28, Option.getD_some, Code.fst, Code.snd, Code.bin, Code.lin, Code.sin, Code.yes, Code.no, Code.ops, poM, po, poG, dstOf, List.getElem?_cons_succ, List.getElem?_cons_zero]; exact rfl⟩ : PLift (poM (Code.ops R28_6).toList (Code.ops R28_6).toList = _))
theorem R28_6_d : drawB E 28 (Code.ops R28_6) = true := by kernel_rfl
noncomputable def R28_6_e := (⟨fun k Q ts st => g_lex (id := 6) (ops := Code.ops R28_6) R28_6_p.down R28_6_d⟩ : PLift (∀ (k : List Frm) (Q : APost) (ts : List AVal) (st : ASt), Gc E 28 R28_6 k Q ts st = Go E 28 _ k Q ts st))
noncomputable def N28_12 : Code := (code Tryd.f28).snd.snd.fst.snd.bin.lin.snd.snd.fst.bin.snd.snd
noncomputable def N28_13 : Code := (code Tryd.f28).snd.snd.fst.snd.bin.lin.snd.snd.fst.bin.snd.snd.yes
noncomputable def R28_7 : Code := (code Tryd.f28).snd.snd.fst.snd.bin.lin.snd.snd.fst.bin.snd.snd.yes.fst
noncomputable def R28_7_p := (⟨by simp only [R28_7, code, Tryd.f28, Option.getD_some, Code.fst, Code.snd, Code.bin, Code.lin, Code.sin, Code.yes, Code.no, Code.ops, poM, po, poG, dstOf, List.getElem?_cons_succ, List.getElem?_cons_zero]; exact rfl⟩ : PLift (poM (Code.ops R28_7).toList (Code.ops R28_7).toList = _))
noncomputable def R28_7_e := (⟨fun k Q ts st => g_region (id := 7) (ops := Code.ops R28_7) R28_7_p.down⟩ : PLift (∀ (k : List Frm) (Q : APost) (ts : List AVal) (st : ASt), Gc E 28 R28_7 k Q ts st = Go E 28 _ k Q ts st))
theorem N28_13_e (k : List Frm) (Q : APost) (ts : List AVal) (st : ASt) : Gc E 28 N28_13 k Q ts st = Gc E 28 (.seq R28_7 .ret) k Q ts st := _root_.id rfl
theorem N28_12_e (k : List Frm) (Q : APost) (ts : List AVal) (st : ASt) : Gc E 28 N28_12 k Q ts st = Gc E 28 (.cond (.tmp 24) N28_13 .skip) k Q ts st := _root_.id rfl
theorem N28_11_e (k : List Frm) (Q : APost) (ts : List AVal) (st : ASt) : Gc E 28 N28_11 k Q ts st = Gc E 28 (.seq R28_6 N28_12) k Q ts st := _root_.id rfl
theorem N28_10_e (k : List Frm) (Q : APost) (ts : List AVal) (st : ASt) : Gc E 28 N28_10 k Q ts st = Gc E 28 (.seq R28_5 N28_11) k Q ts st := _root_.id rfl
noncomputable def N28_14 : Code := (code Tryd.f28).snd.snd.fst.snd.bin.lin.snd.snd.snd
noncomputable def R28_8 : Code := (code Tryd.f28).snd.snd.fst.snd.bin.lin.snd.snd.snd
noncomputable def R28_8_p := (⟨by simp only [R28_8, code, Tryd.f28, Option.getD_some, Code.fst, Code.snd, Code.bin, Code.lin, Code.sin, Code.yes, Code.no, Code.ops, poM, po, poG, dstOf, List.getElem?_cons_succ, List.getElem?_cons_zero]; exact rfl⟩ : PLift (poM (Code.ops R28_8).toList (Code.ops R28_8).toList = _))
noncomputable def R28_8_e := (⟨fun k Q ts st => g_region (id := 8) (ops := Code.ops R28_8) R28_8_p.down⟩ : PLift (∀ (k : List Frm) (Q : APost) (ts : List AVal) (st : ASt), Gc E 28 R28_8 k Q ts st = Go E 28 _ k Q ts st))
theorem N28_14_e (k : List Frm) (Q : APost) (ts : List AVal) (st : ASt) : Gc E 28 N28_14 k Q ts st = Gc E 28 R28_8 k Q ts st := _root_.id rfl
theorem N28_9_e (k : List Frm) (Q : APost) (ts : List AVal) (st : ASt) : Gc E 28 N28_9 k Q ts st = Gc E 28 (.seq (.block 1 N28_10) N28_14) k Q ts st := _root_.id rfl
theorem N28_8_e (k : List Frm) (Q : APost) (ts : List AVal) (st : ASt) : Gc E 28 N28_8 k Q ts st = Gc E 28 (.seq (.cond (.tmp 14) .skip (.exit 0)) N28_9) k Q ts st := _root_.id rfl
theorem L28_0_e (k : List Frm) (Q : APost) (ts : List AVal) (st : ASt) : Gc E 28 L28_0 k Q ts st = Gc E 28 (.seq R28_4 N28_8) k Q ts st := _root_.id rfl
theorem N28_7_e (k : List Frm) (Q : APost) (ts : List AVal) (st : ASt) : Gc E 28 N28_7 k Q ts st = Gc E 28 (.block 0 (.loop L28_0)) k Q ts st := _root_.id rfl
theorem N28_6_e (k : List Frm) (Q : APost) (ts : List AVal) (st : ASt) : Gc E 28 N28_6 k Q ts st = Gc E 28 (.seq R28_3 N28_7) k Q ts st := _root_.id rfl
noncomputable def N28_15 : Code := (code Tryd.f28).snd.snd.snd
noncomputable def R28_9 : Code := (code Tryd.f28).snd.snd.snd.fst
noncomputable def R28_9_p := (⟨by simp only [R28_9, code, Tryd.f28, Option.getD_some, Code.fst, Code.snd, Code.bin, Code.lin, Code.sin, Code.yes, Code.no, Code.ops, poM, po, poG, dstOf, List.getElem?_cons_succ, List.getElem?_cons_zero]; exact rfl⟩ : PLift (poM (Code.ops R28_9).toList (Code.ops R28_9).toList = _))
noncomputable def R28_9_e := (⟨fun k Q ts st => g_region (id := 9) (ops := Code.ops R28_9) R28_9_p.down⟩ : PLift (∀ (k : List Frm) (Q : APost) (ts : List AVal) (st : ASt), Gc E 28 R28_9 k Q ts st = Go E 28 _ k Q ts st))
theorem N28_15_e (k : List Frm) (Q : APost) (ts : List AVal) (st : ASt) : Gc E 28 N28_15 k Q ts st = Gc E 28 (.seq R28_9 .ret) k Q ts st := _root_.id rfl
theorem N28_5_e (k : List Frm) (Q : APost) (ts : List AVal) (st : ASt) : Gc E 28 N28_5 k Q ts st = Gc E 28 (.seq N28_6 N28_15) k Q ts st := _root_.id rfl
theorem N28_1_e (k : List Frm) (Q : APost) (ts : List AVal) (st : ASt) : Gc E 28 N28_1 k Q ts st = Gc E 28 (.seq N28_2 N28_5) k Q ts st := _root_.id rfl
theorem N28_0_e (k : List Frm) (Q : APost) (ts : List AVal) (st : ASt) : Gc E 28 N28_0 k Q ts st = Gc E 28 (.seq R28_0 N28_1) k Q ts st := _root_.id rfl
theorem en_28 {x0 x1 : AVal} {st : ASt} {R : AEnd → ASt → Prop} (h : ∀ g : Nat → AVal, g 0 = x0 → g 1 = x1 → Gc E 28 N28_0 [] (RQ E Tryd.f28 R) (Sl 26 g) st) : ∃ r st', rw E 28 [x0, x1] st = some (r, st') ∧ R r st' :=
  en_of (fn := Tryd.f28) (c := N28_0) rfl rfl rfl (Nat.le_of_ble_eq_true rfl) fun g hg => h g (hg 0 x0 rfl) (hg 1 x1 rfl)
theorem rq_28 (R : AEnd → ASt → Prop) (g : Nat → AVal) (st : ASt) : RQ E Tryd.f28 R .ret (Sl 26 g) st = R (.returned (g 4)) st := by
  rw [rq_gen (.inl rfl), show (Tryd.f28).results.toList = [.tmp 4] from rfl]
  simp only [aresB, sl_get, Nat.reduceLT, ↓reduceIte, bindK_some, tup]
theorem rqn_28 (R : AEnd → ASt → Prop) (g : Nat → AVal) (st : ASt) : RQ E Tryd.f28 R .normal (Sl 26 g) st = R (.returned (g 4)) st := by
  rw [rq_gen (.inr rfl), show (Tryd.f28).results.toList = [.tmp 4] from rfl]
  simp only [aresB, sl_get, Nat.reduceLT, ↓reduceIte, bindK_some, tup]
end Go.Proofs.YtlpdplchcpkajaaDoorV
