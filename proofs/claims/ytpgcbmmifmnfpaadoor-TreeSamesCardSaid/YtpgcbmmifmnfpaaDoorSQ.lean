/- TreeSames: two programs by small numbers are the same just if their texts are. No condition. -/
import Derived.Test.YtpgcbmmifmnfpaaDoorSO
import Derived.Test.YtpgcbmmifmnfpaaDoorSP
import Derived.Test.YtpgcbmmifmnfpaaDoorPG
namespace Go.Proofs.YtpgcbmmifmnfpaaDoorV
open Go Go.RowKit Go.Proofs.YtpgcbmmifmnfpaaDoorA
set_option linter.unusedVariables false
set_option linter.unusedSimpArgs false
set_option maxRecDepth 100000

/-! ### the plain law -/
def De.e0 (d : De) : De := { d with pos := 0 }
theorem De.t_e0 (d : De) : d.e0.t = d.t := rfl
theorem Des.t_e0 : ∀ l : List De, Des.t (l.map De.e0) = Des.t l
  | [] => rfl
  | d :: l => by
    have := Des.t_e0 l
    rw [List.map_cons, Des.t, Des.t, this, De.t_e0]
theorem DOk.body {d : De} (h : DOk d) : LOk d.body := by
  cases h with
  | num k hk nm hn re im h => exact .nil
  | mux nm hn => exact .nil
  | bud re im h => exact .nil
  | thr nm hn hb => exact hb
theorem DOk.pos {d : De} (h : DOk d) : d.pos = 0 := by cases h <;> rfl
theorem De.eqb_iff {a b : De} (ha : DOk a.e0) (hb : DOk b.e0) : De.eqb a b = true ↔ a.e0 = b.e0 := by
  have h := Sts.eqb_iff a.body b.body ha.body hb.body
  unfold De.eqb De.e0
  simp only [Bool.and_eq_true, decide_eq_true_eq, h, De.mk.injEq, and_true]
  constructor
  · rintro ⟨⟨⟨h1, h2⟩, h3, h4⟩, h5⟩; exact ⟨h1, h2, h3, h4, h5⟩
  · rintro ⟨h1, h2, h3, h4, h5⟩; exact ⟨⟨⟨h1, h2⟩, h3, h4⟩, h5⟩
theorem Des.eqb_iff : ∀ {l m : List De}, (∀ d ∈ l, DOk d.e0) → (∀ d ∈ m, DOk d.e0) → (Des.eqb l m = true ↔ l.map De.e0 = m.map De.e0)
  | [], [], _, _ => by simp [Des.eqb]
  | [], _ :: _, _, _ => by simp [Des.eqb]
  | _ :: _, [], _, _ => by simp [Des.eqb]
  | a :: l, b :: m, hl, hm => by
    have h1 := De.eqb_iff (hl a (List.mem_cons_self ..)) (hm b (List.mem_cons_self ..))
    have h2 := Des.eqb_iff (fun d hd => hl d (List.mem_cons_of_mem _ hd)) (fun d hd => hm d (List.mem_cons_of_mem _ hd))
    unfold Des.eqb
    rw [Bool.and_eq_true, h1, h2, List.map_cons, List.map_cons, List.cons.injEq]
theorem des_same {l m : List De} (hl : ∀ d ∈ l, DOk d.e0) (hm : ∀ d ∈ m, DOk d.e0) : Des.eqb l m = decide (Des.t l = Des.t m) := by
  rw [Bool.eq_iff_iff, Des.eqb_iff hl hm, decide_eq_true_eq]
  constructor
  · intro h
    rw [← Des.t_e0 l, h, Des.t_e0]
  · intro h
    refine prog_inj (fun d hd => ?_) (fun d hd => ?_) (by rw [Des.t_e0, Des.t_e0, h])
    · obtain ⟨x, hx, rfl⟩ := List.mem_map.1 hd
      exact hl x hx
    · obtain ⟨x, hx, rfl⟩ := List.mem_map.1 hd
      exact hm x hx
/-- what is asked of a program, here -/
structure PFit (l : List De) : Prop where
  ok : ∀ d ∈ l, DOk d.e0
  good : ∀ d ∈ l, d.good
  sm : ∀ d ∈ l, d.sm
  len : l.length ≤ 100
  text : (Des.t l).length ≤ 1000000
theorem pfit_make {x : Sml} (hx : x.ok) : PFit (makeP x) := by
  obtain ⟨h1, h2⟩ := makeP_fit hx
  have e0 : ∀ d ∈ makeP x, d.e0 = d := fun d hd => by
    have := (h1 d hd).ok.pos
    cases d
    simp only at this
    subst this
    rfl
  exact ⟨fun d hd => by rw [e0 d hd]; exact (h1 d hd).ok, fun d hd => (h1 d hd).good, fun d hd => ⟨(h1 d hd).good.re, (h1 d hd).good.im, (h1 d hd).good.len, l_sm _ (h1 d hd).ok.body (h1 d hd).good.body⟩, h2, makeP_text hx⟩
/-- a declaration elsewhere -/
def De.mv (n : Nat) (d : De) : De := { d with pos := d.pos + n }
theorem Des.t_mv (n : Nat) : ∀ l : List De, Des.t (l.map (De.mv n)) = Des.t l
  | [] => rfl
  | d :: l => by
    have := Des.t_mv n l
    rw [List.map_cons, Des.t, Des.t, this]
    rfl
theorem PFit.mv {l : List De} (h : PFit l) (n : Nat) : PFit (l.map (De.mv n)) := by
  refine ⟨fun d hd => ?_, fun d hd => ?_, fun d hd => ?_, by rw [List.length_map]; exact h.len, by rw [Des.t_mv]; exact h.text⟩
  all_goals
    obtain ⟨x, hx, rfl⟩ := List.mem_map.1 hd
  · exact h.ok x hx
  · exact ⟨(h.good x hx).re, (h.good x hx).im, (h.good x hx).len, (h.good x hx).body⟩
  · exact ⟨(h.sm x hx).re, (h.sm x hx).im, (h.sm x hx).len, (h.sm x hx).body⟩

/-! ### a declaration is moved -/
theorem flatE_put : ∀ {es : List AVal} {i : Nat} {v x : AVal} {sz : Nat}, (∀ y ∈ es, y.cells.length = sz) → es[i]? = some v → ∃ pre post, flatE es = pre ++ (v.cells ++ post) ∧ flatE (es.set i x) = pre ++ (x.cells ++ post) ∧ pre.length = i * sz
  | y :: es, 0, v, x, sz, h, hi => by
    cases hi
    exact ⟨[], flatE es, rfl, rfl, by simp⟩
  | y :: es, i + 1, v, x, sz, h, hi => by
    obtain ⟨pre, post, e, e2, hl⟩ := flatE_put (es := es) (i := i) (x := x) (fun y hy => h y (List.mem_cons_of_mem _ hy)) hi
    refine ⟨y.cells ++ pre, post, ?_, ?_, ?_⟩
    · show y.cells ++ flatE es = _
      rw [e, List.append_assoc]
    · show y.cells ++ flatE (es.set i x) = _
      rw [e2, List.append_assoc]
    · rw [List.length_append, hl, h y (List.mem_cons_self ..), Nat.add_mul]
      omega
theorem IsDeL.put : ∀ {es : List AVal} {l : List De} {i : Nat} {d : De} {v : AVal}, IsDeL es l → IsDe v d → IsDeL (es.set i v) (l.set i d)
  | [], [], _, _, _, h, _ => h
  | _ :: _, _ :: _, 0, _, _, h, h2 => ⟨h2, h.2⟩
  | _ :: _, _ :: _, i + 1, _, _, h, h2 => ⟨h.1, IsDeL.put h.2 h2⟩
theorem des_put {lo : Nat} {st : ASt} {v : AVal} {l : List De} (h : IsDes lo st v l) {i : Nat} {d : De} (hs : l[i]? = some d) {k n sz : Nat} {c : Option Nat} {fl : List AVal} (hv : v = .slice k 0 n sz c) (hk : st.heap k = some (.cells fl)) (p : Nat) :
    IsDes lo (st.set k (some (.cells (fl.set (i * 5 + 4) (.lit (.int .i64 (p : Int))))))) v (l.set i { d with pos := p }) ∧ fl[i * 5 + 4]? = some (.lit (.int .i64 (d.pos : Int))) := by
  obtain ⟨es, h, hd⟩ := h
  obtain ⟨w, hw, vb, rfl, hb⟩ := hd.get hs
  rcases h with ⟨rfl, rfl⟩ | ⟨k', rfl, h0, h1, h2⟩
  · cases hw
  · cases hv
    rw [h2] at hk
    cases hk
    have hok := List.all_eq_true.1 hd.eok
    obtain ⟨pre, post, e, e2, hl⟩ := flatE_put (sz := 5) (x := De.v { d with pos := p } vb) (fun y hy => elemOk_len (hok y hy)) hw
    have hse : (flatE es).set (i * 5 + 4) (.lit (.int .i64 (p : Int))) = flatE (es.set i (De.v { d with pos := p } vb)) := by
      rw [e, e2, ← hl, List.set_append_right _ _ (by omega), Nat.add_sub_cancel_left]
      rfl
    refine ⟨⟨es.set i (De.v { d with pos := p } vb), .inr ⟨k, by rw [List.length_set], h0, h1, by rw [ASt.set_same, hse]⟩, hd.put ⟨vb, rfl, hb⟩⟩, ?_⟩
    rw [e, ← hl, List.getElem?_append_right (by omega), Nat.add_sub_cancel_left]
    rfl
end Go.Proofs.YtpgcbmmifmnfpaaDoorV
