/- cert.Decode, walked. No condition. -/
import Derived.Test.YtnndngoanknemaaC5
namespace Go.Proofs.YtnndngoanknemaaV
open Go Go.RowKit Go.Proofs.YtnndngoanknemaaA
set_option linter.unusedVariables false
set_option linter.unusedSimpArgs false
set_option maxRecDepth 100000

/-! ### what is decoded, in plain -/
def ndP (l : List UInt8) (p : Nat) : (Nat × Nat) ⊕ (Nd × Nat) :=
  match tk l p 5 with
  | .inl e => .inl e
  | .inr (a, p1) => match tk l p1 63 with
    | .inl e => .inl e
    | .inr (b, p2) => match tk l p2 63 with
      | .inl e => .inl e
      | .inr (c, p3) => match tk l p3 6 with
        | .inl e => .inl e
        | .inr (d, p4) => .inr (⟨a, b, c, d⟩, p4)
def ndsF (l : List UInt8) : Nat → Nat → List Nd → (Nat × Nat) ⊕ (List Nd × Nat)
  | 0, p, acc => .inr (acc, p)
  | k + 1, p, acc => match ndP l p with
    | .inl e => .inl e
    | .inr (n, q) => ndsF l k q (acc ++ [n])
def bodyP (l : List UInt8) : (Nat × Nat) ⊕ (Nat × List Nd) :=
  match tk l 4 4294967295 with
  | .inl e => .inl e
  | .inr (sum, p1) => match tk l p1 20000 with
    | .inl e => .inl e
    | .inr (many, p2) => if (l.length - p2) / 4 < many then .inl (p1, 3) else
      match ndsF l many p2 [] with
      | .inl e => .inl e
      | .inr (ns, q) => if q < l.length then .inl (q, 11) else .inr (sum, ns)
def decP (b : List UInt8) : (Nat × Nat) ⊕ (Nat × List Nd) :=
  match frP b with
  | .inl e => .inl e
  | .inr l => bodyP l

theorem tk_le {l : List UInt8} {p most x q : Nat} (h : tk l p most = .inr (x, q)) : x ≤ most := by
  unfold tk at h
  split at h
  · cases h
  · split at h
    · cases h
    · cases h; omega

/-! ### a node taken -/
theorem node_read {st : ASt} {a s : Nat} {v : AVal} {l : List UInt8} {p e pa ea : Nat} (h : TAt st a s v l p e pa ea) (hll : l.length ≤ 100000) (hea : ea = 0) :
    ∃ n1 n2 n3 n4 st1 st2 st3 st4 p' e' pa' ea', RetN E 100010 30 [.ptr a 0, .lit (.int .u64 (5 : Nat))] st (.lit (.int .u64 (n1 : Nat))) st1 ∧ RetN E 100010 30 [.ptr a 0, .lit (.int .u64 (63 : Nat))] st1 (.lit (.int .u64 (n2 : Nat))) st2 ∧
      RetN E 100010 30 [.ptr a 0, .lit (.int .u64 (63 : Nat))] st2 (.lit (.int .u64 (n3 : Nat))) st3 ∧ RetN E 100010 30 [.ptr a 0, .lit (.int .u64 (6 : Nat))] st3 (.lit (.int .u64 (n4 : Nat))) st4 ∧ TAt st4 a s v l p' e' pa' ea' ∧ Tf st st4 a s ∧
      ((∃ q c, ndP l p = .inl (q, c) ∧ pa' = q ∧ ea' = c ∧ c ≠ 0) ∨ (ndP l p = .inr (⟨n1, n2, n3, n4⟩, p') ∧ n1 ≤ 5 ∧ n4 ≤ 6 ∧ pa' = pa ∧ ea' = 0)) := by
  obtain ⟨n1, st1, p1, e1, pa1, ea1, r1, _, t1, f1, k1, z1⟩ := upto_run h hll 5
  obtain ⟨n2, st2, p2, e2, pa2, ea2, r2, _, t2, f2, k2, z2⟩ := upto_run t1 hll 63
  obtain ⟨n3, st3, p3, e3, pa3, ea3, r3, _, t3, f3, k3, z3⟩ := upto_run t2 hll 63
  obtain ⟨n4, st4, p4, e4, pa4, ea4, r4, _, t4, f4, k4, z4⟩ := upto_run t3 hll 6
  refine ⟨n1, n2, n3, n4, st1, st2, st3, st4, p4, e4, pa4, ea4, r1, r2, r3, r4, t4, ((f1.trans f2).trans f3).trans f4, ?_⟩
  rcases z1 hea with ⟨q, c, hq, rfl, rfl, hc⟩ | ⟨hq1, rfl, rfl⟩
  · obtain ⟨rfl, rfl⟩ := k2 hc
    obtain ⟨rfl, rfl⟩ := k3 hc
    obtain ⟨rfl, rfl⟩ := k4 hc
    exact .inl ⟨_, _, by unfold ndP; rw [hq], rfl, rfl, hc⟩
  · rcases z2 rfl with ⟨q, c, hq, rfl, rfl, hc⟩ | ⟨hq2, rfl, rfl⟩
    · obtain ⟨rfl, rfl⟩ := k3 hc
      obtain ⟨rfl, rfl⟩ := k4 hc
      exact .inl ⟨_, _, by unfold ndP; simp only [hq1, hq], rfl, rfl, hc⟩
    · rcases z3 rfl with ⟨q, c, hq, rfl, rfl, hc⟩ | ⟨hq3, rfl, rfl⟩
      · obtain ⟨rfl, rfl⟩ := k4 hc
        exact .inl ⟨_, _, by unfold ndP; simp only [hq1, hq2, hq], rfl, rfl, hc⟩
      · rcases z4 rfl with ⟨q, c, hq, rfl, rfl, hc⟩ | ⟨hq4, rfl, rfl⟩
        · exact .inl ⟨_, _, by unfold ndP; simp only [hq1, hq2, hq3, hq], rfl, rfl, hc⟩
        · exact .inr ⟨by unfold ndP; simp only [hq1, hq2, hq3, hq4], tk_le hq1, tk_le hq4, rfl, rfl⟩

/-- nodes so far -/
def ApN (b0 : Nat) (st : ASt) (v : AVal) (l : List Nd) (a s : Nat) : Prop := (v = .nilSlice ∧ l = []) ∨ ∃ k, v = .islice 4 (l.map Nd.a) (.tok k) ∧ st.heap k = some (.cells []) ∧ k < st.ctr ∧ k ≠ a ∧ k ≠ s ∧ b0 ≤ k
theorem ApN.ps {b0 : Nat} {st st' : ASt} {v : AVal} {l : List Nd} {a s : Nat} (h : ApN b0 st v l a s) : PS st' v l := by
  rcases h with ⟨rfl, rfl⟩ | ⟨k, rfl, _⟩
  · exact .inr (.inl ⟨none, rfl, rfl⟩)
  · exact .inl ⟨_, rfl⟩
theorem ApN.tf {b0 : Nat} {st st' : ASt} {v : AVal} {l : List Nd} {a s : Nat} (h : ApN b0 st v l a s) (hf : Tf st st' a s) : ApN b0 st' v l a s := by
  rcases h with h | ⟨k, h1, h2, h3, h4, h5, h6⟩
  · exact .inl h
  · exact .inr ⟨k, h1, by rw [hf.2 k h4 h5]; exact h2, by rw [hf.1]; exact h3, h4, h5, h6⟩
theorem TAt.more {st st' : ASt} {a s : Nat} {v : AVal} {l : List UInt8} {p e pa ea : Nat} (h : TAt st a s v l p e pa ea) (hc : st.ctr ≤ st'.ctr) (ha : st'.heap a = st.heap a) (hs : st'.heap s = st.heap s) : TAt st' a s v l p e pa ea :=
  ⟨Nat.lt_of_lt_of_le h.lt hc, h.ne, by rw [ha]; exact h.at', ⟨Nat.lt_of_lt_of_le h.r.1 hc, by rw [hs]; exact h.r.2.1, h.r.2.2⟩, h.le, h.er⟩
theorem apn_app {b0 : Nat} {st : ASt} {v : AVal} {l : List Nd} {a s : Nat} (h : ApN b0 st v l a s) (ha : a < st.ctr) (hs : s < st.ctr) (hb : b0 ≤ st.ctr) (hl : l.length ≤ 1000000) (n : Nd) :
    ∃ v' st', appendA E.P false 26 26 v (.islice 4 [n.a] .exact) st = some (v', st') ∧ ApN b0 st' v' (l ++ [n]) a s ∧ st.ctr ≤ st'.ctr ∧ st'.heap a = st.heap a ∧ st'.heap s = st.heap s ∧ ∀ j, j < b0 → st'.heap j = st.heap j := by
  have hx : srcA E.P 53 26 true 4 st (.islice 4 ([n].map Nd.a) .exact) = some ([n].map Nd.a) := src_islice nodeT (nodes_ok [n])
  rcases h with ⟨rfl, rfl⟩ | ⟨k, rfl, h2, h3, h4, h5, h6⟩
  · exact ⟨_, _, app_nil nodeT hx (by simp) (by simp), .inr ⟨st.ctr, rfl, by simp [ASt.new], by simp [ASt.new], by omega, by omega, hb⟩, by simp [ASt.new], ASt.new_ne _ _ _ (by omega), ASt.new_ne _ _ _ (by omega), fun j hj => ASt.new_ne _ _ _ (by omega)⟩
  · refine ⟨_, _, app_tok nodeT (nodes_ok l) hx (by simp) (by simp; omega) h2, .inr ⟨st.ctr, by rw [List.map_append], by simp [ASt.new, ASt.set], by simp [ASt.new, ASt.set], by omega, by omega, hb⟩, by simp [ASt.new, ASt.set], ?_, ?_, fun j hj => ?_⟩
    · rw [ASt.new_ne _ _ _ (by simp [ASt.set]; omega), ASt.set_ne _ _ _ _ (Ne.symm h4)]
    · rw [ASt.new_ne _ _ _ (by simp [ASt.set]; omega), ASt.set_ne _ _ _ _ (Ne.symm h5)]
    · rw [ASt.new_ne _ _ _ (by simp [ASt.set]; omega), ASt.set_ne _ _ _ _ (by omega)]

/-! ### the code, in parts -/
noncomputable def dcX (k : Nat) : Code := match k with
  | 0 => code Try.f16
  | k + 1 => (dcX k).snd
noncomputable def dcA : Code := .seq (code Try.f16).fst (.seq (code Try.f16).snd.fst (code Try.f16).snd.snd.fst)
noncomputable def dcX3 : Code := (code Try.f16).snd.snd.snd
noncomputable def dcB : Code := .seq dcX3.fst (.seq dcX3.snd.fst (.seq dcX3.snd.snd.fst (.seq dcX3.snd.snd.snd.fst dcX3.snd.snd.snd.snd.fst)))
noncomputable def dcX8 : Code := dcX3.snd.snd.snd.snd.snd
noncomputable def dcC : Code := dcX8.fst
noncomputable def dcC2 : Code := .seq dcX8.snd.fst dcX8.snd.snd.fst.fst
noncomputable def dcL : Code := dcX8.snd.snd.fst.snd.inn
noncomputable def dcX11 : Code := dcX8.snd.snd.snd
noncomputable def dcD : Code := dcX11.fst
noncomputable def dcE : Code := dcX11.snd
theorem dc_parts (call : ACall) (dr : Array Oper → Bool) (n : Nat) (ts : List AVal) (st : ASt) : aexec E 16 call dr n (code Try.f16) ts st =
    aseq (aexec E 16 call dr n dcA ts st) fun ts st => aseq (aexec E 16 call dr n dcB ts st) fun ts st => aseq (aexec E 16 call dr n dcC ts st) fun ts st => aseq (aexec E 16 call dr n dcC2 ts st) fun ts st =>
    aseq (ablock 0 (aloop (aexec E 16 call dr n dcL) n ts st)) fun ts st => aseq (aexec E 16 call dr n dcD ts st) (aexec E 16 call dr n dcE) := by
  have e : code Try.f16 = .seq (code Try.f16).fst (.seq (code Try.f16).snd.fst (.seq (code Try.f16).snd.snd.fst (.seq dcX3.fst (.seq dcX3.snd.fst (.seq dcX3.snd.snd.fst (.seq dcX3.snd.snd.snd.fst (.seq dcX3.snd.snd.snd.snd.fst (.seq dcC (.seq dcX8.snd.fst (.seq (.seq dcX8.snd.snd.fst.fst (.block 0 (.loop dcL))) (.seq dcD dcE))))))))))) := rfl
  rw [e, dcA, dcB, dcC2]
  simp only [aexec_seq, aexec_block, aexec_loop, aseq_assoc]

/-- Decode's slots behind its taker -/
structure DcS (a : Nat) (s10 m : Int) (vp : AVal) (i : Nat) (ts : List AVal) : Prop where
  t9 : ts[9]? = some (.ptr a 0)
  t10 : ts[10]? = some (.lit (.int .u32 s10))
  t11 : ts[11]? = some (.lit (.int .i64 m))
  t12 : ts[12]? = some vp
  t13 : ts[13]? = some (.lit (.int .i64 i))
  tl : ts.length = 131

end Go.Proofs.YtnndngoanknemaaV
