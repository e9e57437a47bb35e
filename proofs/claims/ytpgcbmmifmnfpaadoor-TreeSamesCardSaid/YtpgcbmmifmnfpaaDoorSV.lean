/- TreeSames: its region of two calls and two boxes, whatever its order. No condition. -/
import Derived.Test.YtpgcbmmifmnfpaaDoorSR
import Derived.Test.YtpgcbmmifmnfpaaDoorFQ
import Derived.Test.YtpgcbmmifmnfpaaDoorX3
namespace Go.Proofs.YtpgcbmmifmnfpaaDoorV
open Go Go.RowKit Go.Proofs.YtpgcbmmifmnfpaaDoorA
set_option linter.unusedVariables false
set_option linter.unusedSimpArgs false
set_option maxRecDepth 100000

theorem dep_of {o : Oper} {listed : Array Bool} {d : Nat} (h : (o.after.toList.any fun e => e.on == d && Region.binds .any e) = true) (hd : ∀ e ∈ o.after, Region.binds .any e = true → listed.getD e.on false = true) : listed.getD d false = true := by
  obtain ⟨e, he, h2⟩ := List.any_eq_true.1 h
  rw [Bool.and_eq_true, beq_iff_eq] at h2
  rw [← h2.1]
  exact hd e (Array.mem_toList_iff.1 he) h2.2
theorem all_listed {ops : Array Oper} (hup : ((List.range ops.size).all fun i => match ops[i]? with | some o => o.after.toList.all (fun e => decide (e.on < i)) | none => true) = true) {listed : Array Bool} (hs : listed.size = ops.size) (hr : Region.ready .any ops listed = []) : ∀ i, i < ops.size → listed.getD i false = true := by
  intro i
  induction i using Nat.strongRecOn with
  | ind i ih =>
    intro hi
    cases hl : listed.getD i false with
    | true => rfl
    | false =>
      exfalso
      have ho : ops[i]? = some ops[i] := Array.getElem?_eq_getElem hi
      have hu := List.all_eq_true.1 hup i (List.mem_range.2 hi)
      rw [ho] at hu
      simp only at hu
      have : i ∈ Region.ready .any ops listed := mem_ready.2 ⟨by
        have hi2 : i < listed.size := by omega
        simp [hi2] at hl ⊢; exact hl, _, ho, fun e he hb => by
        have h1 := of_decide_eq_true (List.all_eq_true.1 hu e (Array.mem_toList_iff.2 he))
        exact ih e.on h1 (by omega)⟩
      rw [hr] at this
      cases this
/-- what Make made, at its place -/
def DesAt (st : ASt) (v : AVal) (l : List De) (k : Nat) : Prop := v = .agg [.slice k 0 l.length 5 none] ∧ 2 ≤ k ∧ k < st.ctr ∧ ∃ es, st.heap k = some (.cells (flatE es)) ∧ IsDeL es l
theorem DesAt.gr {st st' : ASt} {v : AVal} {l : List De} {k : Nat} (h : DesAt st v l k) (g : Gr st st') : DesAt st' v l k := by
  obtain ⟨h1, h2, h3, es, h4, h5⟩ := h
  exact ⟨h1, h2, Nat.lt_of_lt_of_le h3 g.1, es, g.at h4 h3, h5⟩
theorem DesAt.set {st : ASt} {v : AVal} {l : List De} {k : Nat} (h : DesAt st v l k) (hl : l ≠ []) {p : Nat} {c : AVal} (hp : st.heap p = some (.cells [c])) (b : Option Blk) : DesAt (st.set p b) v l k := by
  obtain ⟨h1, h2, h3, es, h4, h5⟩ := h
  have hne : k ≠ p := by
    intro e
    subst e
    rw [hp] at h4
    have h9 := Blk.cells.inj (Option.some.inj h4)
    have hlen := h5.len
    have hok := List.all_eq_true.1 h5.eok
    have h6 := flatE_len (sz := 5) es (fun y hy => elemOk_len (hok y hy))
    have h7 : l.length ≠ 0 := fun e => hl (List.length_eq_zero_iff.1 e)
    have h8 : (flatE es).length = 1 := by rw [← h9]; rfl
    omega
  exact ⟨h1, h2, h3, es, by rw [ASt.set_ne _ _ _ _ hne]; exact h4, h5⟩
theorem DesAt.of {lo : Nat} {st : ASt} {v : AVal} {l : List De} (h : IsProg lo st v l) (h2 : 2 ≤ lo) (hl : l ≠ []) : ∃ k, DesAt st v l k ∧ lo < k := by
  obtain ⟨vd, rfl, es, ha, hd⟩ := h
  rcases ha with ⟨rfl, rfl⟩ | ⟨k, rfl, h0, h1, h3⟩
  · exact absurd (List.length_eq_zero_iff.1 hd.len.symm) hl
  · exact ⟨k, ⟨by rw [hd.len], by omega, h1, es, h3, hd⟩, h0⟩
theorem DesAt.des {st : ASt} {v : AVal} {l : List De} {k : Nat} (h : DesAt st v l k) : IsDes 1 st (.slice k 0 l.length 5 none) l := by
  obtain ⟨h1, h2, h3, es, h4, h5⟩ := h
  exact ⟨es, .inr ⟨k, by rw [h5.len], by omega, h3, h4⟩, h5⟩
theorem DesAt.ne {st : ASt} {v : AVal} {l : List De} {k p : Nat} {c : AVal} (h : DesAt st v l k) (hl : l ≠ []) (hp : st.heap p = some (.cells [c])) : p ≠ k := by
  intro e
  subst e
  obtain ⟨h1, h2, h3, es, h4, h5⟩ := h
  rw [hp] at h4
  have h9 := Blk.cells.inj (Option.some.inj h4)
  have hlen := h5.len
  have hok := List.all_eq_true.1 h5.eok
  have h6 := flatE_len (sz := 5) es (fun y hy => elemOk_len (hok y hy))
  have h7 : l.length ≠ 0 := fun e => hl (List.length_eq_zero_iff.1 e)
  have h8 : (flatE es).length = 1 := by rw [← h9]; rfl
  omega
theorem makeP_ne (x : Sml) : makeP x ≠ [] := by
  unfold makeP headD
  simp
/-- where the region is -/
structure RJ (x y : Sml) (vx vy tn : AVal) (b : Nat → Bool) (f : Nat → AVal) (st : ASt) : Prop where
  c2 : 2 ≤ st.ctr
  q2 : f 2 = tn
  q3 : f 3 = .ptr 0 0
  q4 : f 4 = .ptr 1 0
  hA : st.heap 0 = some (.cells (x.cs vx))
  hB : st.heap 1 = some (.cells (y.cs vy))
  l0 : b 0 = true → f 20 = .agg (x.cs vx)
  l2 : b 2 = true → f 22 = .agg (y.cs vy)
  l1 : b 1 = true → ∃ k, DesAt st (f 21) (makeP x) k
  l3 : b 3 = true → ∃ k, DesAt st (f 23) (makeP y) k
  l13 : b 1 = true → b 3 = true → ∀ k k', DesAt st (f 21) (makeP x) k → DesAt st (f 23) (makeP y) k' → k ≠ k'
  l4 : b 4 = true → ∃ p c, f 7 = .ptr p 0 ∧ 2 ≤ p ∧ p < st.ctr ∧ st.heap p = some (.cells [c]) ∧ (b 6 = true → .agg [c] = f 21)
  l5 : b 5 = true → ∃ p c, f 8 = .ptr p 0 ∧ 2 ≤ p ∧ p < st.ctr ∧ st.heap p = some (.cells [c]) ∧ (b 7 = true → .agg [c] = f 23)
  l45 : b 4 = true → b 5 = true → f 7 ≠ f 8
  d6 : b 6 = true → b 4 = true ∧ b 1 = true
  d7 : b 7 = true → b 5 = true ∧ b 3 = true
theorem DesAt.uniq {st st' : ASt} {v : AVal} {l l' : List De} {k k' : Nat} (h : DesAt st v l k) (h' : DesAt st' v l' k') : k = k' := by
  have := h.1.symm.trans h'.1
  simp only [AVal.agg.injEq, List.cons.injEq, AVal.slice.injEq, and_true] at this
  exact this.1
noncomputable abbrev R5 : Code := R4_5
theorem r5_form : R5 = .region (regId R5) (regOps R5) true := rfl
theorem r5_up : ((List.range (regOps R5).size).all fun i => match (regOps R5)[i]? with | some o => o.after.toList.all (fun e => decide (e.on < i)) | none => true) = true := by kernel_rfl
theorem r5_size : (regOps R5).size = 8 := by kernel_rfl
theorem r5_0 : ∃ o, (regOps R5)[0]? = some o ∧ poM (regOps R5).toList [o] = [⟨some 20, .load 33 (.tmp 3), 33, none⟩] := ⟨_, rfl, rfl⟩
theorem r5_1 : ∃ o, (regOps R5)[1]? = some o ∧ poM (regOps R5).toList [o] = [⟨some 21, .call { callee := .value (.func 14), args := #[.tmp 20], argTypes := #[33] }, 36, none⟩] ∧ (o.after.toList.any fun e => e.on == 0 && Region.binds .any e) = true := ⟨_, rfl, rfl, by kernel_rfl⟩
theorem r5_2 : ∃ o, (regOps R5)[2]? = some o ∧ poM (regOps R5).toList [o] = [⟨some 22, .load 33 (.tmp 4), 33, none⟩] := ⟨_, rfl, rfl⟩
theorem r5_3 : ∃ o, (regOps R5)[3]? = some o ∧ poM (regOps R5).toList [o] = [⟨some 23, .call { callee := .value (.func 14), args := #[.tmp 22], argTypes := #[33] }, 36, none⟩] ∧ (o.after.toList.any fun e => e.on == 2 && Region.binds .any e) = true := ⟨_, rfl, rfl, by kernel_rfl⟩
theorem r5_4 : ∃ o, (regOps R5)[4]? = some o ∧ poM (regOps R5).toList [o] = [⟨some 7, .alloc 36, 0, none⟩] := ⟨_, rfl, rfl⟩
theorem r5_5 : ∃ o, (regOps R5)[5]? = some o ∧ poM (regOps R5).toList [o] = [⟨some 8, .alloc 36, 0, none⟩] := ⟨_, rfl, rfl⟩
theorem r5_6 : ∃ o, (regOps R5)[6]? = some o ∧ poM (regOps R5).toList [o] = [⟨none, .store 36 (.tmp 7) (.tmp 21), 0, none⟩] ∧ (o.after.toList.any fun e => e.on == 4 && Region.binds .any e) = true ∧ (o.after.toList.any fun e => e.on == 1 && Region.binds .any e) = true := ⟨_, rfl, rfl, by kernel_rfl, by kernel_rfl⟩
theorem r5_7 : ∃ o, (regOps R5)[7]? = some o ∧ poM (regOps R5).toList [o] = [⟨none, .store 36 (.tmp 8) (.tmp 23), 0, none⟩] ∧ (o.after.toList.any fun e => e.on == 5 && Region.binds .any e) = true ∧ (o.after.toList.any fun e => e.on == 3 && Region.binds .any e) = true := ⟨_, rfl, rfl, by kernel_rfl, by kernel_rfl⟩
end Go.Proofs.YtpgcbmmifmnfpaaDoorV
