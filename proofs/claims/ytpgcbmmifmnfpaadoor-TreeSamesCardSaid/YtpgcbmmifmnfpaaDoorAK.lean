/- Walking in steps: what is to come is data. No condition. -/
import Derived.Test.YtpgcbmmifmnfpaaDoorAG
import Derived.Test.YtpgcbmmifmnfpaaDoorAH
namespace Go.Proofs.YtpgcbmmifmnfpaaDoorA
open Go Go.RowKit
set_option linter.unusedVariables false
set_option linter.unusedSimpArgs false

/-- an operation; what it hangs on, told by a temporary -/
structure PO where
  dst : Option Tmp
  op : Op
  ty : TypeId
  g : Option (Option Tmp × Bool)
def PO.oper (p : PO) : Oper := ⟨p.dst, p.op, p.ty, "", #[], none⟩
def poG (l : List Oper) : Option (Nat × Bool) → Option (Option Tmp × Bool)
  | none => none
  | some (j, w) => some (dstOf l[j]?, w)
def po (l : List Oper) (o : Oper) : PO := ⟨o.dst, o.op, o.type, poG l o.guard⟩
def poM (l : List Oper) : List Oper → List PO
  | [] => []
  | o :: r => po l o :: poM l r

def condK : Option AVal → Prop → Prop → Prop
  | some (.lit (.bool b)), x, y => if b = true then x else y
  | _, _, _ => False
def wantK (g : Option (Option Tmp × Bool)) (ts : List AVal) (x y : Prop) : Prop := match g with
  | none => x
  | some (s, w) => if yieldB s ts = some w then x else y
def callK (r : Option (AEnd × ASt)) (K : AVal → ASt → Prop) (Pn : AVal → ASt → Prop) : Prop := match r with
  | some (.returned v, st) => K v st
  | some (.panicked v, st) => Pn v st
  | none => False
def opK (E : Env) (r : Option ANext) (K : AVal → ASt → Prop) (Pn : AVal → ASt → Prop) : Prop := match r with
  | some (.val v st) => K v st
  | some (.enter f args st) => callK (rw E f args st) K Pn
  | some (.panic v st) => Pn v st
  | none => False
def resK (r : ARes) (Q : APost) : Prop := match r with
  | some (e, ts, st) => Q e ts st
  | none => False
def WOps (E : Env) (fid : FuncId) : List PO → APost → List AVal → ASt → Prop
  | [], Q, ts, st => Q .normal ts st
  | p :: l, Q, ts, st => wantK p.g ts (opK E (aexecOp E.P (ahint E fid p.oper) (aeval E ts) p.oper st) (fun v st' => WOps E fid l Q (aput ts p.dst v) st') (fun v st' => Q (.panic v) ts st')) (WOps E fid l Q (aput ts p.dst .undef) st)
def Wk (E : Env) (fid : FuncId) : Code → APost → List AVal → ASt → Prop
  | .skip, Q, ts, st => Q .normal ts st
  | .seq a b, Q, ts, st => Wk E fid a (Nx (fun ts st => Wk E fid b Q ts st) Q) ts st
  | .cond c a b, Q, ts, st => condK (aeval E ts c) (Wk E fid a Q ts st) (Wk E fid b Q ts st)
  | .block id c, Q, ts, st => Wk E fid c (Bx id Q) ts st
  | .exit id, Q, ts, st => Q (.exit id) ts st
  | .label _, Q, ts, st => Q .normal ts st
  | .goto l, Q, ts, st => Q (.goto l) ts st
  | .ret, Q, ts, st => Q .ret ts st
  | .region id ops true, Q, ts, st => resK (aexec E fid (rw E) (drawB E fid) 0 (.region id ops true) ts st) Q
  | .region id ops false, Q, ts, st => WOps E fid (poM ops.toList ops.toList) Q ts st
  | .loop c, Q, ts, st => Wp E fid (.loop c) ts st Q
  | .scope c, Q, ts, st => Wp E fid (.scope c) ts st Q
  | .rangeFunc .., _, _, _ => False
  | .refuse .., _, _, _ => False

/-! ### it tells what comes of the code -/
section
variable {E : Env} {fid : FuncId}
theorem aop_po {ops : Array Oper} {o : Oper} {ts : List AVal} {st : ASt} {K : AVal → ASt → Prop} {Pn : AVal → ASt → Prop} {X : Prop} :
    wantK (po ops.toList o).g ts (opK E (aexecOp E.P (ahint E fid (po ops.toList o).oper) (aeval E ts) (po ops.toList o).oper st) K Pn) X =
    (if Region.wanted o (ayielded ops ts) = true then opK E (aexecOp E.P (ahint E fid o) (aeval E ts) o st) K Pn else X) := by
  obtain ⟨d, op, ty, pos, af, gd⟩ := o
  cases gd with
  | none => exact (if_pos rfl).symm
  | some q =>
    obtain ⟨j, w⟩ := q
    have hy : yieldB (dstOf ops.toList[j]?) ts = ayielded ops ts j := by
      rw [ayielded_eq]
      congr 1
      rw [← slotOf_eq ops.toList j]
    have e : wantK (po ops.toList ⟨d, op, ty, pos, af, some (j, w)⟩).g ts (opK E (aexecOp E.P (ahint E fid (po ops.toList ⟨d, op, ty, pos, af, some (j, w)⟩).oper) (aeval E ts) (po ops.toList ⟨d, op, ty, pos, af, some (j, w)⟩).oper st) K Pn) X =
      if yieldB (dstOf ops.toList[j]?) ts = some w then opK E (aexecOp E.P (ahint E fid ⟨d, op, ty, pos, af, some (j, w)⟩) (aeval E ts) ⟨d, op, ty, pos, af, some (j, w)⟩ st) K Pn else X := rfl
    rw [e, hy]
    have e2 : Region.wanted ⟨d, op, ty, pos, af, some (j, w)⟩ (ayielded ops ts) = (ayielded ops ts j == some w) := rfl
    rw [e2]
    simp only [beq_iff_eq]
theorem opK_eq {ops : Array Oper} {o : Oper} {l : List Oper} {ts : List AVal} {st : ASt} {Q : APost} {F : List AVal → ASt → ARes} (hF : ∀ ts st, F ts st = aops E fid (rw E) ops l ts st) :
    (if Region.wanted o (ayielded ops ts) = true then opK E (aexecOp E.P (ahint E fid o) (aeval E ts) o st) (fun v st' => resK (F (aput ts o.dst v) st') Q) (fun v st' => Q (.panic v) ts st') else resK (F (aput ts o.dst .undef) st) Q) = resK (aops E fid (rw E) ops (o :: l) ts st) Q := by
  rw [show aops E fid (rw E) ops (o :: l) ts st = match aop E fid (rw E) ops o ts st with
    | some (none, ts', st') => aops E fid (rw E) ops l ts' st'
    | some (some v, ts', st') => some (.panic v, ts', st')
    | none => none from rfl]
  unfold aop
  by_cases hw : Region.wanted o (ayielded ops ts) = true
  · rw [if_pos hw, if_pos hw]
    cases hx : aexecOp E.P (ahint E fid o) (aeval E ts) o st with
    | none => rfl
    | some x =>
      cases x with
      | val v st' => simp only [opK, hF]
      | panic v st' => rfl
      | enter f args st' =>
        simp only [opK]
        cases hr : rw E f args st' with
        | none => rfl
        | some r =>
          obtain ⟨r, st2⟩ := r
          cases r with
          | returned v => simp only [callK, hF]
          | panicked v => rfl
  · rw [if_neg hw, if_neg hw]
    simp only [hF]
theorem wops_eq {ops : Array Oper} : ∀ (l : List Oper) (Q : APost) (ts : List AVal) (st : ASt), WOps E fid (poM ops.toList l) Q ts st = resK (aops E fid (rw E) ops l ts st) Q
  | [], Q, ts, st => rfl
  | o :: l, Q, ts, st => by
    have e : WOps E fid (poM ops.toList (o :: l)) Q ts st = wantK (po ops.toList o).g ts (opK E (aexecOp E.P (ahint E fid (po ops.toList o).oper) (aeval E ts) (po ops.toList o).oper st) (fun v st' => WOps E fid (poM ops.toList l) Q (aput ts o.dst v) st') (fun v st' => Q (.panic v) ts st')) (WOps E fid (poM ops.toList l) Q (aput ts o.dst .undef) st) := rfl
    rw [e, aop_po]
    simp only [wops_eq l]
    exact opK_eq (F := fun ts st => aops E fid (rw E) ops l ts st) (fun _ _ => rfl)
theorem wops_ok {ops : Array Oper} (l : List Oper) (Q : APost) (ts : List AVal) (st : ASt) (h : WOps E fid (poM ops.toList l) Q ts st) : ∃ e ts' st', aops E fid (rw E) ops l ts st = some (e, ts', st') ∧ Q e ts' st' := by
  rw [wops_eq] at h
  cases hx : aops E fid (rw E) ops l ts st with
  | none => rw [hx] at h; exact h.elim
  | some r =>
    obtain ⟨e, ts', st'⟩ := r
    rw [hx] at h
    exact ⟨e, ts', st', rfl, h⟩
theorem w_ok : ∀ (c : Code) (Q : APost) (ts : List AVal) (st : ASt), Wk E fid c Q ts st → Wp E fid c ts st Q
  | .skip, Q, ts, st, h => aw_skip h
  | .seq a b, Q, ts, st, h => aw_seq ((w_ok a _ ts st h).mono fun e ts st hq => by
    cases e with
    | normal => exact w_ok b Q ts st hq
    | _ => exact hq)
  | .cond c a b, Q, ts, st, h => by
    have h' : condK (aeval E ts c) (Wk E fid a Q ts st) (Wk E fid b Q ts st) := h
    unfold condK at h'
    split at h'
    · rename_i b' hb
      cases b' with
      | true => exact aw_cond_t hb (w_ok a Q ts st h')
      | false => exact aw_cond_f hb (w_ok b Q ts st h')
    · exact h'.elim
  | .block id c, Q, ts, st, h => aw_block (w_ok c _ ts st h)
  | .exit id, Q, ts, st, h => ⟨0, _, _, _, by rw [aexec], h⟩
  | .label _, Q, ts, st, h => ⟨0, _, _, _, by rw [aexec], h⟩
  | .goto l, Q, ts, st, h => ⟨0, _, _, _, by rw [aexec], h⟩
  | .ret, Q, ts, st, h => ⟨0, _, _, _, by rw [aexec], h⟩
  | .region id ops true, Q, ts, st, h => by
    have h' : resK (aexec E fid (rw E) (drawB E fid) 0 (.region id ops true) ts st) Q := h
    cases hx : aexec E fid (rw E) (drawB E fid) 0 (.region id ops true) ts st with
    | none => rw [hx] at h'; exact h'.elim
    | some r =>
      obtain ⟨e, ts', st'⟩ := r
      rw [hx] at h'
      exact ⟨0, e, ts', st', hx, h'⟩
  | .region id ops false, Q, ts, st, h => by
    obtain ⟨e, ts', st', h1, h2⟩ := wops_ok ops.toList Q ts st h
    exact ⟨0, e, ts', st', by rw [aexec, if_neg (fun h => Bool.noConfusion h.1)]; exact h1, h2⟩
  | .loop c, Q, ts, st, h => h
  | .scope c, Q, ts, st, h => h
  | .rangeFunc .., _, _, _, h => h.elim
  | .refuse .., _, _, _, h => h.elim
end

/-! ### what is to come, as data -/
inductive Frm where
  | code (c : Code)
  | blk (id : Nat)
def Kn (E : Env) (fid : FuncId) : List Frm → APost → APost
  | [], Q => Q
  | .code c :: k, Q => Nx (fun ts st => Wk E fid c (Kn E fid k Q) ts st) (Kn E fid k Q)
  | .blk id :: k, Q => Bx id (Kn E fid k Q)
/-- code, then what is to come -/
def Gc (E : Env) (fid : FuncId) (c : Code) (k : List Frm) (Q : APost) (ts : List AVal) (st : ASt) : Prop := Wk E fid c (Kn E fid k Q) ts st
/-- an end, and what is to come -/
def Re (E : Env) (fid : FuncId) (e : AExit) (k : List Frm) (Q : APost) (ts : List AVal) (st : ASt) : Prop := Kn E fid k Q e ts st
/-- operations, then what is to come -/
def Go (E : Env) (fid : FuncId) (l : List PO) (k : List Frm) (Q : APost) (ts : List AVal) (st : ASt) : Prop := WOps E fid l (Kn E fid k Q) ts st
/-- an operation's outcome, a call's -/
def So (E : Env) (fid : FuncId) (r : Option ANext) (d : Option Tmp) (l : List PO) (k : List Frm) (Q : APost) (ts : List AVal) : Prop := opK E r (fun v st' => WOps E fid l (Kn E fid k Q) (aput ts d v) st') (fun v st' => Kn E fid k Q (.panic v) ts st')
def Sc (E : Env) (fid : FuncId) (r : Option (AEnd × ASt)) (d : Option Tmp) (l : List PO) (k : List Frm) (Q : APost) (ts : List AVal) : Prop := callK r (fun v st' => WOps E fid l (Kn E fid k Q) (aput ts d v) st') (fun v st' => Kn E fid k Q (.panic v) ts st')
def Rs (E : Env) (fid : FuncId) (r : ARes) (k : List Frm) (Q : APost) : Prop := resK r (Kn E fid k Q)
theorem heap_new_if (st : ASt) (b : Blk) (k : Nat) : (st.new b).heap k = if k = st.ctr then some b else st.heap k := _root_.id rfl
theorem heap_set_if (st : ASt) (s k : Nat) (b : Option Blk) : (st.set s b).heap k = if k = s then b else st.heap k := _root_.id rfl
/-- two ways: one holds where p does, else the other one -/
def ifK (p x y : Prop) : Prop := (p → x) ∧ (¬ p → y)
theorem ifK_t {p x y : Prop} (h : p) : ifK p x y = x := propext ⟨fun k => k.1 h, fun k => ⟨fun _ => k, fun h' => absurd h h'⟩⟩
theorem ifK_f {p x y : Prop} (h : ¬ p) : ifK p x y = y := propext ⟨fun k => k.2 h, fun k => ⟨fun h' => absurd h' h, fun _ => k⟩⟩
theorem ifK_eq (p x y : Prop) [Decidable p] : ifK p x y = if p then x else y := by
  by_cases h : p
  · rw [ifK_t h, if_pos h]
  · rw [ifK_f h, if_neg h]
/-- likewise, but not yet looked at -/
def Ho (E : Env) (fid : FuncId) (op : Op) (ty : TypeId) (d : Option Tmp) (l : List PO) (k : List Frm) (Q : APost) (ts : List AVal) (st : ASt) : Prop := So E fid (aexecOp E.P (ahint E fid ⟨d, op, ty, "", #[], none⟩) (aeval E ts) ⟨d, op, ty, "", #[], none⟩ st) d l k Q ts
def Hn (E : Env) (fid : FuncId) (l : List PO) (k : List Frm) (Q : APost) (ts : List AVal) (st : ASt) : Prop := Go E fid l k Q ts st
def Hg (E : Env) (fid : FuncId) (c : Code) (k : List Frm) (Q : APost) (ts : List AVal) (st : ASt) : Prop := Gc E fid c k Q ts st
def Hs (E : Env) (fid : FuncId) (r : Option ANext) (d : Option Tmp) (l : List PO) (k : List Frm) (Q : APost) (ts : List AVal) : Prop := So E fid r d l k Q ts
section
variable {E : Env} {fid : FuncId} {k : List Frm} {Q : APost} {ts : List AVal} {st : ASt} {l : List PO} {d : Option Tmp}
theorem g_skip : Gc E fid .skip k Q ts st = Re E fid .normal k Q ts st := _root_.id rfl
theorem g_seq {a b : Code} : Gc E fid (.seq a b) k Q ts st = Gc E fid a (.code b :: k) Q ts st := _root_.id rfl
theorem g_cond {c : Operand} {a b : Code} : Gc E fid (.cond c a b) k Q ts st = condK (aeval E ts c) (Hg E fid a k Q ts st) (Hg E fid b k Q ts st) := _root_.id rfl
theorem g_block {id : Nat} {c : Code} : Gc E fid (.block id c) k Q ts st = Gc E fid c (.blk id :: k) Q ts st := _root_.id rfl
theorem g_exit {id : Nat} : Gc E fid (.exit id) k Q ts st = Re E fid (.exit id) k Q ts st := _root_.id rfl
theorem g_label {id : Nat} : Gc E fid (.label id) k Q ts st = Re E fid .normal k Q ts st := _root_.id rfl
theorem g_goto {id : Nat} : Gc E fid (.goto id) k Q ts st = Re E fid (.goto id) k Q ts st := _root_.id rfl
theorem g_ret : Gc E fid .ret k Q ts st = Re E fid .ret k Q ts st := _root_.id rfl
theorem re_nil {e : AExit} : Re E fid e [] Q ts st = Q e ts st := _root_.id rfl
theorem re_nc {c : Code} : Re E fid .normal (.code c :: k) Q ts st = Gc E fid c k Q ts st := _root_.id rfl
theorem re_nb {i : Nat} : Re E fid .normal (.blk i :: k) Q ts st = Re E fid .normal k Q ts st := _root_.id rfl
theorem re_ec {i : Nat} {c : Code} : Re E fid (.exit i) (.code c :: k) Q ts st = Re E fid (.exit i) k Q ts st := _root_.id rfl
theorem re_eb {i j : Nat} : Re E fid (.exit i) (.blk j :: k) Q ts st = if i = j then Re E fid .normal k Q ts st else Re E fid (.exit i) k Q ts st := _root_.id rfl
theorem re_rc {c : Code} : Re E fid .ret (.code c :: k) Q ts st = Re E fid .ret k Q ts st := _root_.id rfl
theorem re_rb {j : Nat} : Re E fid .ret (.blk j :: k) Q ts st = Re E fid .ret k Q ts st := _root_.id rfl
theorem re_gc {i : Nat} {c : Code} : Re E fid (.goto i) (.code c :: k) Q ts st = Re E fid (.goto i) k Q ts st := _root_.id rfl
theorem re_gb {i j : Nat} : Re E fid (.goto i) (.blk j :: k) Q ts st = Re E fid (.goto i) k Q ts st := _root_.id rfl
theorem re_pc {v : AVal} {c : Code} : Re E fid (.panic v) (.code c :: k) Q ts st = Re E fid (.panic v) k Q ts st := _root_.id rfl
theorem re_pb {v : AVal} {j : Nat} : Re E fid (.panic v) (.blk j :: k) Q ts st = Re E fid (.panic v) k Q ts st := _root_.id rfl
theorem go_nil : Go E fid [] k Q ts st = Re E fid .normal k Q ts st := _root_.id rfl
theorem go_op {op : Op} {ty : TypeId} : Go E fid (⟨d, op, ty, none⟩ :: l) k Q ts st = So E fid (aexecOp E.P (ahint E fid ⟨d, op, ty, "", #[], none⟩) (aeval E ts) ⟨d, op, ty, "", #[], none⟩ st) d l k Q ts := _root_.id rfl
theorem go_opg {op : Op} {ty : TypeId} {s : Option Tmp} {w : Bool} : Go E fid (⟨d, op, ty, some (s, w)⟩ :: l) k Q ts st = ifK (yieldB s ts = some w) (Ho E fid op ty d l k Q ts st) (Hn E fid l k Q (aput ts d .undef) st) := _root_.id (ifK_eq _ _ _).symm
theorem so_val {v : AVal} {st' : ASt} : So E fid (some (.val v st')) d l k Q ts = Go E fid l k Q (aput ts d v) st' := _root_.id rfl
theorem so_enter {f : FuncId} {args : List AVal} {st' : ASt} : So E fid (some (.enter f args st')) d l k Q ts = Sc E fid (rw E f args st') d l k Q ts := _root_.id rfl
theorem so_panic {v : AVal} {st' : ASt} : So E fid (some (.panic v st')) d l k Q ts = Re E fid (.panic v) k Q ts st' := _root_.id rfl
theorem sc_ret {v : AVal} {st' : ASt} : Sc E fid (some (.returned v, st')) d l k Q ts = Go E fid l k Q (aput ts d v) st' := _root_.id rfl
theorem sc_panic {v : AVal} {st' : ASt} : Sc E fid (some (.panicked v, st')) d l k Q ts = Re E fid (.panic v) k Q ts st' := _root_.id rfl
theorem rs_some {e : AExit} : Rs E fid (some (e, ts, st)) k Q = Re E fid e k Q ts st := _root_.id rfl
theorem cond_b {b : Bool} {x y : Prop} : condK (some (.lit (.bool b))) x y = ifK (b = true) x y := _root_.id (ifK_eq _ _ _).symm
theorem so_pick {c a b : Operand} {pos : String} {af : Array Edge} {gd : Option (Nat × Bool)} {mt : Bool} {d' : Option Tmp} {ty : TypeId} : So E fid (aexecOp E.P mt (aeval E ts) ⟨d', .pick c a b, ty, pos, af, gd⟩ st) d l k Q ts = condK (aeval E ts c) (Hs E fid ((aeval E ts a).map (.val · st)) d l k Q ts) (Hs E fid ((aeval E ts b).map (.val · st)) d l k Q ts) := by
  have e : aexecOp E.P mt (aeval E ts) ⟨d', .pick c a b, ty, pos, af, gd⟩ st = (match aeval E ts c with
    | some (.lit (.bool true)) => (aeval E ts a).map (.val · st)
    | some (.lit (.bool false)) => (aeval E ts b).map (.val · st)
    | _ => none) := rfl
  rw [e]
  cases aeval E ts c with
  | none => rfl
  | some v =>
    cases v with
    | lit u =>
      cases u with
      | bool b => cases b <;> rfl
      | _ => rfl
    | _ => rfl
theorem ifk_ot {p : Prop} {y : Prop} {op : Op} {ty : TypeId} (h : p) : ifK p (Ho E fid op ty d l k Q ts st) y = So E fid (aexecOp E.P (ahint E fid ⟨d, op, ty, "", #[], none⟩) (aeval E ts) ⟨d, op, ty, "", #[], none⟩ st) d l k Q ts := ifK_t h
theorem ifk_nf {p : Prop} {x : Prop} (h : ¬ p) : ifK p x (Hn E fid l k Q ts st) = Go E fid l k Q ts st := ifK_f h
theorem ifk_of {p : Prop} {y : Prop} {op : Op} {ty : TypeId} (h : ¬ p) : ifK p y (Ho E fid op ty d l k Q ts st) = So E fid (aexecOp E.P (ahint E fid ⟨d, op, ty, "", #[], none⟩) (aeval E ts) ⟨d, op, ty, "", #[], none⟩ st) d l k Q ts := ifK_f h
theorem ifk_nt {p : Prop} {x : Prop} (h : p) : ifK p (Hn E fid l k Q ts st) x = Go E fid l k Q ts st := ifK_t h
theorem ifk_gt {p : Prop} {y : Prop} {c : Code} (h : p) : ifK p (Hg E fid c k Q ts st) y = Gc E fid c k Q ts st := ifK_t h
theorem ifk_gf {p : Prop} {x : Prop} {c : Code} (h : ¬ p) : ifK p x (Hg E fid c k Q ts st) = Gc E fid c k Q ts st := ifK_f h
theorem ifk_st {p : Prop} {y : Prop} {r : Option ANext} (h : p) : ifK p (Hs E fid r d l k Q ts) y = So E fid r d l k Q ts := ifK_t h
theorem ifk_sf {p : Prop} {x : Prop} {r : Option ANext} (h : ¬ p) : ifK p x (Hs E fid r d l k Q ts) = So E fid r d l k Q ts := ifK_f h
theorem ifk_ot' {y : Prop} {op : Op} {ty : TypeId} : ifK True (Ho E fid op ty d l k Q ts st) y = So E fid (aexecOp E.P (ahint E fid ⟨d, op, ty, "", #[], none⟩) (aeval E ts) ⟨d, op, ty, "", #[], none⟩ st) d l k Q ts := ifK_t trivial
theorem ifk_nf' {x : Prop} : ifK False x (Hn E fid l k Q ts st) = Go E fid l k Q ts st := ifK_f (fun h => h)
theorem ifk_of' {y : Prop} {op : Op} {ty : TypeId} : ifK False y (Ho E fid op ty d l k Q ts st) = So E fid (aexecOp E.P (ahint E fid ⟨d, op, ty, "", #[], none⟩) (aeval E ts) ⟨d, op, ty, "", #[], none⟩ st) d l k Q ts := ifK_f (fun h => h)
theorem ifk_nt' {x : Prop} : ifK True (Hn E fid l k Q ts st) x = Go E fid l k Q ts st := ifK_t trivial
theorem ifk_gt' {y : Prop} {c : Code} : ifK True (Hg E fid c k Q ts st) y = Gc E fid c k Q ts st := ifK_t trivial
theorem ifk_gf' {x : Prop} {c : Code} : ifK False x (Hg E fid c k Q ts st) = Gc E fid c k Q ts st := ifK_f (fun h => h)
theorem ifk_st' {y : Prop} {r : Option ANext} : ifK True (Hs E fid r d l k Q ts) y = So E fid r d l k Q ts := ifK_t trivial
theorem ifk_sf' {x : Prop} {r : Option ANext} : ifK False x (Hs E fid r d l k Q ts) = So E fid r d l k Q ts := ifK_f (fun h => h)
theorem ifk_og {p : Prop} {op : Op} {ty : TypeId} {l' : List PO} {ts' : List AVal} {st' : ASt} (h1 : p → So E fid (aexecOp E.P (ahint E fid ⟨d, op, ty, "", #[], none⟩) (aeval E ts) ⟨d, op, ty, "", #[], none⟩ st) d l k Q ts) (h2 : ¬ p → Go E fid l' k Q ts' st') : ifK p (Ho E fid op ty d l k Q ts st) (Hn E fid l' k Q ts' st') := ⟨h1, h2⟩
theorem ifk_go {p : Prop} {op : Op} {ty : TypeId} {l' : List PO} {ts' : List AVal} {st' : ASt} (h1 : p → Go E fid l' k Q ts' st') (h2 : ¬ p → So E fid (aexecOp E.P (ahint E fid ⟨d, op, ty, "", #[], none⟩) (aeval E ts) ⟨d, op, ty, "", #[], none⟩ st) d l k Q ts) : ifK p (Hn E fid l' k Q ts' st') (Ho E fid op ty d l k Q ts st) := ⟨h1, h2⟩
theorem ifk_gg {p : Prop} {c c' : Code} {k' : List Frm} {ts' : List AVal} {st' : ASt} (h1 : p → Gc E fid c k Q ts st) (h2 : ¬ p → Gc E fid c' k' Q ts' st') : ifK p (Hg E fid c k Q ts st) (Hg E fid c' k' Q ts' st') := ⟨h1, h2⟩
theorem ifk_ss {p : Prop} {r r' : Option ANext} (h1 : p → So E fid r d l k Q ts) (h2 : ¬ p → So E fid r' d l k Q ts) : ifK p (Hs E fid r d l k Q ts) (Hs E fid r' d l k Q ts) := ⟨h1, h2⟩
theorem ifk_not {p x y : Prop} : ifK (¬ p) x y = ifK p y x := by
  by_cases h : p
  · rw [ifK_t h, ifK_f (fun h' => h' h)]
  · rw [ifK_f h, ifK_t h]
theorem ifk_bf {b : Bool} {x y : Prop} : ifK (b = false) x y = ifK (b = true) y x := by
  cases b
  · rw [ifK_t rfl, ifK_f Bool.noConfusion]
  · rw [ifK_t rfl, ifK_f Bool.noConfusion]
theorem g_region {id : Nat} {ops : Array Oper} {p : List PO} (h : poM ops.toList ops.toList = p) : Gc E fid (.region id ops false) k Q ts st = Go E fid p k Q ts st := by subst h; exact _root_.id rfl
theorem g_draw {id : Nat} {ops : Array Oper} : Gc E fid (.region id ops true) k Q ts st = Rs E fid (aexec E fid (rw E) (drawB E fid) 0 (.region id ops true) ts st) k Q := _root_.id rfl
theorem g_lex {id : Nat} {ops : Array Oper} {p : List PO} (h : poM ops.toList ops.toList = p) (hd : drawB E fid ops = true) : Gc E fid (.region id ops true) k Q ts st = Go E fid p k Q ts st := by
  subst h
  unfold Gc Go
  rw [wops_eq]
  show resK (aexec E fid (rw E) (drawB E fid) 0 (.region id ops true) ts st) _ = _
  rw [aexec, if_neg (by rw [hd]; exact fun h => Bool.noConfusion h.2)]
theorem kn_ret : ∀ (k : List Frm) (ts : List AVal) (st : ASt), Kn E fid k Q .ret ts st = Q .ret ts st
  | [], _, _ => rfl
  | .code _ :: k, ts, st => kn_ret k ts st
  | .blk _ :: k, ts, st => kn_ret k ts st
theorem kn_pan {v : AVal} : ∀ (k : List Frm) (ts : List AVal) (st : ASt), Kn E fid k Q (.panic v) ts st = Q (.panic v) ts st
  | [], _, _ => rfl
  | .code _ :: k, ts, st => kn_pan k ts st
  | .blk _ :: k, ts, st => kn_pan k ts st
theorem re_ret : Re E fid .ret k Q ts st = Q .ret ts st := kn_ret k ts st
theorem re_pan {v : AVal} : Re E fid (.panic v) k Q ts st = Q (.panic v) ts st := kn_pan k ts st
/-- a call of which it is told what holds behind it -/
theorem sc_ex {r : Option (AEnd × ASt)} {R : AEnd → ASt → Prop} (h : ∃ e st', r = some (e, st') ∧ R e st') (K : ∀ e st', R e st' → Sc E fid (some (e, st')) d l k Q ts) : Sc E fid r d l k Q ts := by
  obtain ⟨e, st', rfl, h⟩ := h
  exact K e st' h
/-- behind a loop's round -/
def LQ (E : Env) (fid : FuncId) (n i : Nat) (I : Nat → (Nat → AVal) → ASt → Prop) (k : List Frm) (Q : APost) : APost := fun e ts st => match e with
  | .normal => ∃ f', ts = Sl n f' ∧ ∃ j, j < i ∧ I j f' st
  | e => Kn E fid k Q e ts st
theorem lq_n {n i j : Nat} {I : Nat → (Nat → AVal) → ASt → Prop} {f : Nat → AVal} (hj : j < i) (h : I j f st) : LQ E fid n i I k Q .normal (Sl n f) st := ⟨f, rfl, j, hj, h⟩
theorem lq_e {n i j : Nat} {I : Nat → (Nat → AVal) → ASt → Prop} : LQ E fid n i I k Q (.exit j) ts st = Re E fid (.exit j) k Q ts st := _root_.id rfl
theorem lq_r {n i : Nat} {I : Nat → (Nat → AVal) → ASt → Prop} : LQ E fid n i I k Q .ret ts st = Re E fid .ret k Q ts st := _root_.id rfl
theorem lq_g {n i j : Nat} {I : Nat → (Nat → AVal) → ASt → Prop} : LQ E fid n i I k Q (.goto j) ts st = Re E fid (.goto j) k Q ts st := _root_.id rfl
theorem lq_p {n i : Nat} {v : AVal} {I : Nat → (Nat → AVal) → ASt → Prop} : LQ E fid n i I k Q (.panic v) ts st = Re E fid (.panic v) k Q ts st := _root_.id rfl
theorem g_loop {n : Nat} {c : Code} (I : Nat → (Nat → AVal) → ASt → Prop) (step : ∀ i f st, I i f st → Gc E fid c [] (LQ E fid n i I k Q) (Sl n f) st) : ∀ i f st, I i f st → Gc E fid (.loop c) k Q (Sl n f) st := by
  intro i f st h
  show Wp E fid (.loop c) (Sl n f) st (Kn E fid k Q)
  refine aw_loop (fun i ts st => ∃ f, ts = Sl n f ∧ I i f st) (fun i ts st ⟨f, e, h⟩ => ?_) i (Sl n f) st ⟨f, rfl, h⟩
  subst e
  refine (w_ok c _ _ _ (step i f st h)).mono fun e ts st hq => ?_
  cases e with
  | normal =>
    obtain ⟨f', e, j, hj, hI⟩ := hq
    exact ⟨j, hj, f', e, hI⟩
  | _ => exact hq
/-- a function's end -/
def RQ (E : Env) (fn : Func) (R : AEnd → ASt → Prop) : APost := fun e ts st => ∃ r st', aend E fn (some (e, ts, st)) = some (r, st') ∧ R r st'
theorem rq_p {fn : Func} {R : AEnd → ASt → Prop} {v : AVal} : RQ E fn R (.panic v) ts st = R (.panicked v) st := propext ⟨fun ⟨_, _, h, hr⟩ => by cases h; exact hr, fun h => ⟨_, _, rfl, h⟩⟩
theorem rq_v {fn : Func} {R : AEnd → ASt → Prop} {n : Nat} {g : Nat → AVal} {v : AVal} (h : aresults E fn (Sl n g) st = some v) : RQ E fn R .ret (Sl n g) st = R (.returned v) st := by
  have e : aend E fn (some (.ret, Sl n g, st)) = some (.returned v, st) := by
    unfold aend
    simp only [h, Option.map_some]
  exact propext ⟨fun ⟨r, s, h, hr⟩ => by rw [e] at h; cases h; exact hr, fun h => ⟨_, _, e, h⟩⟩
theorem rq_vn {fn : Func} {R : AEnd → ASt → Prop} {n : Nat} {g : Nat → AVal} {v : AVal} (h : aresults E fn (Sl n g) st = some v) : RQ E fn R .normal (Sl n g) st = R (.returned v) st := by
  have e : aend E fn (some (.normal, Sl n g, st)) = some (.returned v, st) := by
    unfold aend
    simp only [h, Option.map_some]
  exact propext ⟨fun ⟨r, s, h, hr⟩ => by rw [e] at h; cases h; exact hr, fun h => ⟨_, _, e, h⟩⟩
def bindK (r : Option AVal) (K : AVal → Prop) : Prop := match r with
  | some v => K v
  | none => False
theorem bindK_some {v : AVal} {K : AVal → Prop} : bindK (some v) K = K v := _root_.id rfl
def aresB (E : Env) (ts : List AVal) (st : ASt) : List ResultVar → (List AVal → Prop) → Prop
  | [], K => K []
  | .tmp t :: l, K => bindK ts[t]? fun v => aresB E ts st l fun vs => K (v :: vs)
  | .cell a t :: l, K => bindK ts[a]? fun p => bindK (loadA E.P t st p) fun v => aresB E ts st l fun vs => K (v :: vs)
def tup : List AVal → AVal
  | [v] => v
  | vs => .tuple vs
theorem ares_b (rs : List ResultVar) (K : List AVal → Prop) : aresB E ts st rs K = (match aresults1 E ts st rs with
    | some vs => K vs
    | none => False) := by
  induction rs generalizing K with
  | nil => rfl
  | cons r rs ih =>
    have key : ∀ x : Option AVal, aresult E ts st r = x → bindK x (fun v => aresB E ts st rs fun vs => K (v :: vs)) = (match aresults1 E ts st (r :: rs) with
        | some vs => K vs
        | none => False) := by
      intro x hx
      unfold aresults1
      rw [hx]
      cases x with
      | none => rfl
      | some v =>
        simp only [bindK, ih]
        cases aresults1 E ts st rs <;> rfl
    cases r with
    | tmp t => exact key _ rfl
    | cell a t =>
      rw [← key _ rfl]
      show bindK ts[a]? (fun p => bindK (loadA E.P t st p) fun v => aresB E ts st rs fun vs => K (v :: vs)) = bindK (match ts[a]? with
        | some p => loadA E.P t st p
        | none => none) _
      cases ts[a]? <;> rfl
theorem rq_gen {fn : Func} {R : AEnd → ASt → Prop} {e : AExit} (he : e = .ret ∨ e = .normal) : RQ E fn R e ts st = aresB E ts st fn.results.toList (fun vs => R (.returned (tup vs)) st) := by
  have h0 : aend E fn (some (e, ts, st)) = (aresults E fn ts st).map fun v => (.returned v, st) := by
    rcases he with rfl | rfl <;> rfl
  have e1 : aresults E fn ts st = (aresults1 E ts st fn.results.toList).map tup := by
    unfold aresults
    cases aresults1 E ts st fn.results.toList with
    | none => rfl
    | some vs =>
      match vs with
      | [] => rfl
      | [v] => rfl
      | a :: b :: l => rfl
  unfold RQ
  rw [h0, ares_b, e1]
  cases aresults1 E ts st fn.results.toList with
  | none => exact propext ⟨fun h => (by obtain ⟨_, _, h, _⟩ := h; cases h), fun h => False.elim h⟩
  | some vs => exact propext ⟨fun h => (by obtain ⟨_, _, h, hr⟩ := h; cases h; exact hr), fun h => ⟨_, _, rfl, h⟩⟩
/-- a call, by its body, in steps -/
theorem en_of {f : FuncId} {args : List AVal} {st : ASt} {R : AEnd → ASt → Prop} {fn : Func} {c : Code} {n : Nat} (hf : E.P.funcs[f]? = some fn) (hb : fn.body = some c) (hn : fn.ntmps = n) (ha : args.length ≤ n)
    (h : ∀ g : Nat → AVal, (∀ (k : Nat) (v : AVal), args[k]? = some v → g k = v) → Gc E f c [] (RQ E fn R) (Sl n g) st) (hp : E.prim f = none := by rfl) : ∃ r st', rw E f args st = some (r, st') ∧ R r st' :=
  cx_of hf hb hn ha (fun g hg => w_ok c _ _ _ (h g hg)) hp
theorem rw_ex {f : FuncId} {args : List AVal} {st : ASt} {x : AEnd × ASt} (h : ∃ r st', rw E f args st = some (r, st') ∧ (r = x.1 ∧ st' = x.2)) : rw E f args st = some x := by
  obtain ⟨r, st', h1, rfl, rfl⟩ := h
  exact h1
theorem if_i {p : Prop} [Decidable p] {x y : Prop} (h1 : p → x) (h2 : ¬ p → y) : (if p then x else y) := by
  by_cases h : p
  · rw [if_pos h]; exact h1 h
  · rw [if_neg h]; exact h2 h
end
/-! ### short words for what is printed of functions -/
def _root_.Go.Code.stp : Nat → Code → Code
  | 1, .seq a _ => a
  | 2, .seq _ b => b
  | 3, .block _ c => c
  | 4, .loop c => c
  | 5, .scope c => c
  | 6, .cond _ a _ => a
  | 7, .cond _ _ b => b
  | _, c => c
/-- a piece of code, by the way to it -/
def cp (c : Code) : List Nat → Code
  | [] => c
  | n :: l => cp (c.stp n) l
def regOps : Code → Array Oper
  | .region _ ops _ => ops
  | _ => #[]
def regId : Code → Nat
  | .region id _ _ => id
  | _ => 0
abbrev Poe (c : Code) (p : List PO) : Prop := poM (regOps c).toList (regOps c).toList = p
abbrev Goe (E : Env) (f : FuncId) (c : Code) (p : List PO) : Prop := ∀ (k : List Frm) (Q : APost) (ts : List AVal) (st : ASt), Gc E f c k Q ts st = Go E f p k Q ts st
abbrev Gqe (E : Env) (f : FuncId) (c c' : Code) : Prop := ∀ (k : List Frm) (Q : APost) (ts : List AVal) (st : ASt), Gc E f c k Q ts st = Gc E f c' k Q ts st
theorem gq {E : Env} {f : FuncId} {c c' : Code} (h : c = c') : Gqe E f c c' := fun _ _ _ _ => by rw [h]
theorem r_mk {E : Env} {f : FuncId} {c : Code} {p : List PO} (hc : c = .region (regId c) (regOps c) false) (h : Poe c p) : Goe E f c p := fun k Q ts st => by
  rw [hc]
  exact g_region h
theorem r_lex {E : Env} {f : FuncId} {c : Code} {p : List PO} (hc : c = .region (regId c) (regOps c) true) (hd : drawB E f (regOps c) = true) (h : Poe c p) : Goe E f c p := fun k Q ts st => by
  rw [hc]
  exact g_lex h hd
theorem r_plan {E : Env} {f : FuncId} {c : Code} {p : List PStep} (hc : c = .region (regId c) (regOps c) true) (d : drawB E f (regOps c) = false) (d2 : drawPlan E f (regOps c) = some p) (k : List Frm) (Q : APost) (ts : List AVal) (st : ASt) : Gc E f c k Q ts st = Rs E f (aopsP E f (rw E) (regOps c) p ts st) k Q := by
  have e : Gc E f c k Q ts st = Rs E f (aexec E f (rw E) (drawB E f) 0 (.region (regId c) (regOps c) true) ts st) k Q := by
    rw [← g_draw, ← hc]
  rw [e, aexec, d, d2]
  rfl
theorem dc : (∀ (c : Code), cp c [] = c) ∧ (∀ (c : Code) (n : Nat) (l : List Nat), cp c (n :: l) = cp (c.stp n) l) ∧ (∀ a b : Code, (Code.seq a b).stp 1 = a) ∧ (∀ a b : Code, (Code.seq a b).stp 2 = b) ∧ (∀ (i : Nat) (c : Code), (Code.block i c).stp 3 = c) ∧ (∀ c : Code, (Code.loop c).stp 4 = c) ∧ (∀ c : Code, (Code.scope c).stp 5 = c) ∧
    (∀ (o : Operand) (a b : Code), (Code.cond o a b).stp 6 = a) ∧ (∀ (o : Operand) (a b : Code), (Code.cond o a b).stp 7 = b) ∧ (∀ (i : Nat) (ops : Array Oper) (d : Bool), regOps (.region i ops d) = ops) ∧ (∀ l : List Oper, poM l [] = []) ∧ (∀ (l r : List Oper) (o : Oper), poM l (o :: r) = po l o :: poM l r) ∧
    (∀ (l : List Oper) (d : Option Tmp) (op : Op) (t : TypeId) (p : String) (a : Array Edge) (g : Option (Nat × Bool)), po l ⟨d, op, t, p, a, g⟩ = ⟨d, op, t, poG l g⟩) ∧ (∀ l : List Oper, poG l none = none) ∧ (∀ (l : List Oper) (j : Nat) (w : Bool), poG l (some (j, w)) = some (dstOf l[j]?, w)) ∧
    (∀ (l : List Oper) (o : Oper) (j : Nat), (o :: l)[j + 1]? = l[j]?) ∧ (∀ (l : List Oper) (o : Oper), (o :: l)[0]? = some o) ∧ (∀ (d : Option Tmp) (op : Op) (t : TypeId) (p : String) (a : Array Edge) (g : Option (Nat × Bool)), dstOf (some ⟨d, op, t, p, a, g⟩) = d) ∧ (∀ c d : Code, (some c).getD d = c) :=
  ⟨fun _ => rfl, fun _ _ _ => rfl, fun _ _ => rfl, fun _ _ => rfl, fun _ _ => rfl, fun _ => rfl, fun _ => rfl, fun _ _ _ => rfl, fun _ _ _ => rfl, fun _ _ _ => rfl, fun _ => rfl, fun _ _ _ => rfl, fun _ _ _ _ _ _ _ => rfl, fun _ => rfl, fun _ _ _ => rfl, fun _ _ _ => List.getElem?_cons_succ, fun _ _ => List.getElem?_cons_zero, fun _ _ _ _ _ _ => rfl, fun _ _ => rfl⟩
/-! ### regions that draw, by a plan, in steps -/
def wantI (g : Option (Option Tmp × Bool)) (ts : List AVal) (x : Prop) : Prop := match g with
  | none => x
  | some (s, w) => yieldB s ts = some w → x
def stP (E : Env) (fid : FuncId) (p : PO) (ts : List AVal) (st : ASt) : Prop := wantI p.g ts (stillD (aexecOp E.P (ahint E fid p.oper) (aeval E ts) p.oper st) p.dst ts st)
def stL (E : Env) (fid : FuncId) (ts : List AVal) (st : ASt) : List PO → Prop
  | [] => True
  | p :: l => stP E fid p ts st ∧ stL E fid ts st l
def plS (l : List Oper) : List Nat → Option (List PO)
  | [] => some []
  | k :: r => match l[k]?, plS l r with
    | some o, some ps => some (po l o :: ps)
    | _, _ => none
def plM (l : List Oper) : List PStep → Option (List (PO × List PO))
  | [] => some []
  | .one i re :: r => match l[i]?, plS l re, plM l r with
    | some o, some ps, some qs => some ((po l o, ps) :: qs)
    | _, _, _ => none
  | .two .. :: _ => none
def Wpl (E : Env) (fid : FuncId) : List (PO × List PO) → APost → List AVal → ASt → Prop
  | [], Q, ts, st => Q .normal ts st
  | (p, re) :: l, Q, ts, st => wantK p.g ts (opK E (aexecOp E.P (ahint E fid p.oper) (aeval E ts) p.oper st) (fun v st' => stL E fid (aput ts p.dst v) st' re ∧ Wpl E fid l Q (aput ts p.dst v) st') (fun _ _ => False)) (stL E fid (aput ts p.dst .undef) st re ∧ Wpl E fid l Q (aput ts p.dst .undef) st)
section
variable {E : Env} {fid : FuncId}
theorem stP_eq {ops : Array Oper} {o : Oper} {k : Nat} (ho : ops.toList[k]? = some o) (ts : List AVal) (st : ASt) : Still E fid ops ts st k = stP E fid (po ops.toList o) ts st := by
  rw [still_eq, ← Array.getElem?_toList, ho]
  obtain ⟨d, op, ty, pos, af, gd⟩ := o
  cases gd with
  | none => exact propext ⟨fun h => h rfl, fun h _ => h⟩
  | some q =>
    obtain ⟨j, w⟩ := q
    have hy : yieldB (dstOf ops.toList[j]?) ts = ayielded ops ts j := by
      rw [ayielded_eq]
      congr 1
      rw [← slotOf_eq ops.toList j]
    have e : stP E fid (po ops.toList ⟨d, op, ty, pos, af, some (j, w)⟩) ts st = (yieldB (dstOf ops.toList[j]?) ts = some w → stillD (aexecOp E.P (ahint E fid ⟨d, op, ty, pos, af, some (j, w)⟩) (aeval E ts) ⟨d, op, ty, pos, af, some (j, w)⟩ st) d ts st) := rfl
    rw [e, hy]
    have e2 : stillO E fid ops ts st (some ⟨d, op, ty, pos, af, some (j, w)⟩) = ((ayielded ops ts j == some w) = true → stillD (aexecOp E.P (ahint E fid ⟨d, op, ty, pos, af, some (j, w)⟩) (aeval E ts) ⟨d, op, ty, pos, af, some (j, w)⟩ st) d ts st) := rfl
    rw [e2]
    simp only [beq_iff_eq]
theorem stL_eq {ops : Array Oper} : ∀ {re : List Nat} {ps : List PO}, plS ops.toList re = some ps → ∀ (ts : List AVal) (st : ASt), Stills E fid ops ts st re = stL E fid ts st ps
  | [], ps, h, ts, st => by cases h; rfl
  | k :: re, ps, h, ts, st => by
    unfold plS at h
    split at h
    · rename_i o qs ho hq
      cases h
      show (Still E fid ops ts st k ∧ Stills E fid ops ts st re) = _
      rw [stP_eq ho, stL_eq hq]
      rfl
    · cases h
theorem wpl_eq {ops : Array Oper} : ∀ (pl : List PStep) (L : List (PO × List PO)), plM ops.toList pl = some L → ∀ (Q : APost) (ts : List AVal) (st : ASt), resK (aopsP E fid (rw E) ops pl ts st) Q = Wpl E fid L Q ts st
  | [], L, h, Q, ts, st => by cases h; rfl
  | .two .. :: _, L, h, Q, ts, st => by cases h
  | .one i re :: r, L, h, Q, ts, st => by
    unfold plM at h
    split at h
    case h_2 => cases h
    rename_i o ps qs ho hre hr
    cases h
    have ih := fun ts st => wpl_eq r qs hr Q ts st
    have hs := fun ts st => stL_eq (E := E) (fid := fid) hre ts st
    have key : ∀ ts' st', resK (match (generalizing := false) re with
        | [] => aopsP E fid (rw E) ops r ts' st'
        | k :: re => @ite _ (Stills E fid ops ts' st' (k :: re)) (Classical.propDecidable _) (aopsP E fid (rw E) ops r ts' st') none) Q = (stL E fid ts' st' ps ∧ Wpl E fid qs Q ts' st') := by
      intro ts' st'
      rw [← hs, ← ih]
      cases re with
      | nil => exact propext ⟨fun h => ⟨trivial, h⟩, fun h => h.2⟩
      | cons k re =>
        by_cases hk : Stills E fid ops ts' st' (k :: re)
        · simp only [if_pos hk]
          exact propext ⟨fun h => ⟨hk, h⟩, fun h => h.2⟩
        · simp only [if_neg hk]
          exact propext ⟨fun h => h.elim, fun h => absurd h.1 hk⟩
    have e1 : aopsP E fid (rw E) ops (.one i re :: r) ts st = (match ops[i]? with
      | none => none
      | some o => match aop E fid (rw E) ops o ts st with
        | some (none, ts', st') => (match (generalizing := false) re with
          | [] => aopsP E fid (rw E) ops r ts' st'
          | k :: re => @ite _ (Stills E fid ops ts' st' (k :: re)) (Classical.propDecidable _) (aopsP E fid (rw E) ops r ts' st') none)
        | _ => none) := by rw [aopsP]; rfl
    have hi : ops[i]? = some o := by rw [← Array.getElem?_toList]; exact ho
    rw [e1, hi]
    simp only
    have e2 : Wpl E fid ((po ops.toList o, ps) :: qs) Q ts st = wantK (po ops.toList o).g ts (opK E (aexecOp E.P (ahint E fid (po ops.toList o).oper) (aeval E ts) (po ops.toList o).oper st) (fun v st' => stL E fid (aput ts o.dst v) st' ps ∧ Wpl E fid qs Q (aput ts o.dst v) st') (fun _ _ => False)) (stL E fid (aput ts o.dst .undef) st ps ∧ Wpl E fid qs Q (aput ts o.dst .undef) st) := rfl
    rw [e2, aop_po]
    unfold aop
    by_cases hw : Region.wanted o (ayielded ops ts) = true
    · rw [if_pos hw, if_pos hw]
      cases hx : aexecOp E.P (ahint E fid o) (aeval E ts) o st with
      | none => rfl
      | some x =>
        cases x with
        | val v st' => exact key _ _
        | panic v st' => rfl
        | enter f args st' =>
          simp only [opK]
          cases hr2 : rw E f args st' with
          | none => rfl
          | some r2 =>
            obtain ⟨r2, st2⟩ := r2
            cases r2 with
            | returned v => exact key _ _
            | panicked v => rfl
    · rw [if_neg hw, if_neg hw]
      exact key _ _
end
/-- steps of a plan, then what is to come -/
def Gp (E : Env) (fid : FuncId) (l : List (PO × List PO)) (k : List Frm) (Q : APost) (ts : List AVal) (st : ASt) : Prop := Wpl E fid l (Kn E fid k Q) ts st
def Sp (E : Env) (fid : FuncId) (r : Option ANext) (d : Option Tmp) (re : List PO) (l : List (PO × List PO)) (k : List Frm) (Q : APost) (ts : List AVal) : Prop := opK E r (fun v st' => stL E fid (aput ts d v) st' re ∧ Wpl E fid l (Kn E fid k Q) (aput ts d v) st') (fun _ _ => False)
def Sq (E : Env) (fid : FuncId) (r : Option (AEnd × ASt)) (d : Option Tmp) (re : List PO) (l : List (PO × List PO)) (k : List Frm) (Q : APost) (ts : List AVal) : Prop := callK r (fun v st' => stL E fid (aput ts d v) st' re ∧ Wpl E fid l (Kn E fid k Q) (aput ts d v) st') (fun _ _ => False)
section
variable {E : Env} {fid : FuncId} {k : List Frm} {Q : APost} {ts : List AVal} {st : ASt} {l : List (PO × List PO)} {d : Option Tmp} {p : PO} {re : List PO}
theorem gp_nil : Gp E fid [] k Q ts st = Re E fid .normal k Q ts st := _root_.id rfl
theorem gp_op {op : Op} {ty : TypeId} : Gp E fid ((⟨d, op, ty, none⟩, re) :: l) k Q ts st = Sp E fid (aexecOp E.P (ahint E fid ⟨d, op, ty, "", #[], none⟩) (aeval E ts) ⟨d, op, ty, "", #[], none⟩ st) d re l k Q ts := _root_.id rfl
theorem gp_opg {op : Op} {ty : TypeId} {s : Option Tmp} {w : Bool} : Gp E fid ((⟨d, op, ty, some (s, w)⟩, re) :: l) k Q ts st = ifK (yieldB s ts = some w) (Sp E fid (aexecOp E.P (ahint E fid ⟨d, op, ty, "", #[], none⟩) (aeval E ts) ⟨d, op, ty, "", #[], none⟩ st) d re l k Q ts) (stL E fid (aput ts d .undef) st re ∧ Gp E fid l k Q (aput ts d .undef) st) := _root_.id (ifK_eq _ _ _).symm
theorem sp_val {v : AVal} {st' : ASt} : Sp E fid (some (.val v st')) d [] l k Q ts = Gp E fid l k Q (aput ts d v) st' := propext ⟨fun h => h.2, fun h => ⟨trivial, h⟩⟩
theorem sp_vals {v : AVal} {st' : ASt} : Sp E fid (some (.val v st')) d (p :: re) l k Q ts = (stL E fid (aput ts d v) st' (p :: re) ∧ Gp E fid l k Q (aput ts d v) st') := _root_.id rfl
theorem sp_enter {f : FuncId} {args : List AVal} {st' : ASt} : Sp E fid (some (.enter f args st')) d re l k Q ts = Sq E fid (rw E f args st') d re l k Q ts := _root_.id rfl
theorem sq_ret {v : AVal} {st' : ASt} : Sq E fid (some (.returned v, st')) d [] l k Q ts = Gp E fid l k Q (aput ts d v) st' := propext ⟨fun h => h.2, fun h => ⟨trivial, h⟩⟩
theorem sq_rets {v : AVal} {st' : ASt} : Sq E fid (some (.returned v, st')) d (p :: re) l k Q ts = (stL E fid (aput ts d v) st' (p :: re) ∧ Gp E fid l k Q (aput ts d v) st') := _root_.id rfl
theorem stl_nil : stL E fid ts st [] = True := _root_.id rfl
theorem stl_cons {op : Op} {ty : TypeId} : stL E fid ts st (⟨d, op, ty, none⟩ :: re) = (stillD (aexecOp E.P (ahint E fid ⟨d, op, ty, "", #[], none⟩) (aeval E ts) ⟨d, op, ty, "", #[], none⟩ st) d ts st ∧ stL E fid ts st re) := _root_.id rfl
theorem stl_consg {op : Op} {ty : TypeId} {s : Option Tmp} {w : Bool} : stL E fid ts st (⟨d, op, ty, some (s, w)⟩ :: re) = ((yieldB s ts = some w → stillD (aexecOp E.P (ahint E fid ⟨d, op, ty, "", #[], none⟩) (aeval E ts) ⟨d, op, ty, "", #[], none⟩ st) d ts st) ∧ stL E fid ts st re) := _root_.id rfl
/-- a call of which it is told what holds behind it -/
theorem sq_ex {r : Option (AEnd × ASt)} {R : AEnd → ASt → Prop} (h : ∃ e st', r = some (e, st') ∧ R e st') (K : ∀ e st', R e st' → Sq E fid (some (e, st')) d re l k Q ts) : Sq E fid r d re l k Q ts := by
  obtain ⟨e, st', rfl, h⟩ := h
  exact K e st' h
end
abbrev Ple (c : Code) (p : List PStep) (L : List (PO × List PO)) : Prop := plM (regOps c).toList p = some L
abbrev Gpe (E : Env) (f : FuncId) (c : Code) (L : List (PO × List PO)) : Prop := ∀ (k : List Frm) (Q : APost) (ts : List AVal) (st : ASt), Gc E f c k Q ts st = Gp E f L k Q ts st
theorem r_pl {E : Env} {f : FuncId} {c : Code} {p : List PStep} {L : List (PO × List PO)} (hc : c = .region (regId c) (regOps c) true) (d : drawB E f (regOps c) = false) (d2 : drawPlan E f (regOps c) = some p) (h : Ple c p L) : Gpe E f c L := fun k Q ts st => by
  rw [r_plan hc d d2]
  exact wpl_eq p L h _ _ _
theorem dpl : (∀ l : List Oper, plM l [] = some []) ∧ (∀ (l : List Oper) (i : Nat) (re : List Nat) (r : List PStep), plM l (.one i re :: r) = (match l[i]?, plS l re, plM l r with
    | some o, some ps, some qs => some ((po l o, ps) :: qs)
    | _, _, _ => none)) ∧ (∀ l : List Oper, plS l [] = some []) ∧ (∀ (l : List Oper) (k : Nat) (r : List Nat), plS l (k :: r) = (match l[k]?, plS l r with
    | some o, some ps => some (po l o :: ps)
    | _, _ => none)) :=
  ⟨fun _ => rfl, fun _ _ _ _ => rfl, fun _ => rfl, fun _ _ _ => rfl⟩
end Go.Proofs.YtpgcbmmifmnfpaaDoorA
