/- law 04: declarations; a program by small numbers. No condition. -/
import Derived.Test.YtpgcbmmifmnfpaaDoorM3
namespace Go.Proofs.YtpgcbmmifmnfpaaDoorV
open Go Go.RowKit Go.Proofs.YtpgcbmmifmnfpaaDoorA
set_option linter.unusedVariables false
set_option linter.unusedSimpArgs false
set_option maxRecDepth 100000

/-- a declaration -/
structure De where
  sort : Nat
  name : List UInt8
  re : Int
  im : Int
  body : List St
  pos : Nat
  deriving Inhabited
def De.v (d : De) (vb : AVal) : AVal := .agg [.lit (.int .i64 (d.sort : Int)), .lit (.string ⟨d.name.toArray⟩), cz d.re d.im, vb, .lit (.int .i64 (d.pos : Int))]
def IsDe (v : AVal) (d : De) : Prop := ∃ vb, v = d.v vb ∧ IsSts vb d.body
def IsDeL : List AVal → List De → Prop
  | [], [] => True
  | v :: es, d :: ds => IsDe v d ∧ IsDeL es ds
  | _, _ => False
theorem IsDeL.len : ∀ {es : List AVal} {ds : List De}, IsDeL es ds → es.length = ds.length
  | [], [], _ => rfl
  | _ :: _, _ :: _, h => by rw [List.length_cons, List.length_cons, IsDeL.len h.2]
theorem IsDeL.app : ∀ {es fs : List AVal} {ds gs : List De}, IsDeL es ds → IsDeL fs gs → IsDeL (es ++ fs) (ds ++ gs)
  | [], _, [], _, _, h => h
  | _ :: _, _, _ :: _, _, h, h2 => ⟨h.1, IsDeL.app h.2 h2⟩
theorem IsDe.eok {v : AVal} {d : De} (h : IsDe v d) : elemOk true 5 v = true := by
  obtain ⟨vb, rfl, hb⟩ := h
  show (5 == 5 && ([_, _, _, _, _].all AVal.isCell) && true) = true
  simp [hb.cell, ic_lit, cz]
theorem IsDeL.eok : ∀ {es : List AVal} {ds : List De}, IsDeL es ds → es.all (elemOk true 5) = true
  | [], [], _ => rfl
  | _ :: _, _ :: _, h => by rw [List.all_cons, h.1.eok, IsDeL.eok h.2]; rfl
theorem deT : SlT E.P 34 41 true 5 := ⟨rfl, rfl, ⟨_, _, rfl, rfl, by decide, rfl, rfl⟩, by decide⟩
def letP (c : UInt8) (i : Nat) : List UInt8 := [c, UInt8.ofNat (48 + i % 9)]
def cellD (x : Sml) (i : Nat) : De := ⟨0, letP 120 i, x.n.tmod 4, (x.n.tdiv 16).tmod 3, [], 0⟩
def mutD (i : Nat) : De := ⟨2, letP 109 i, 0, 0, [], 0⟩
def semD (x : Sml) (i : Nat) : De := ⟨3, letP 115 i, (x.sems / 4 % 3 : Nat), 0, [], 0⟩
def thrD (x : Sml) (i : Nat) (l : List SS) : De := ⟨5, letP 116 i, 0, 0, (stmtsP x 20 l 100 3).1, 0⟩
def thrDs (x : Sml) : Nat → List (List SS) → List De
  | _, [] => []
  | i, l :: r => thrD x i l :: thrDs x (i + 1) r
def headD (x : Sml) : List De := (List.range (1 + x.cells % 3)).map (cellD x) ++ (if 0 < x.array % 4 then [⟨1, [118], (x.array % 4 : Nat), 0, [], 0⟩] else []) ++ (List.range (x.mutexes % 3)).map mutD ++ (List.range (x.sems % 3)).map (semD x) ++ [⟨4, [], (1 + x.budget % 24 : Nat), 0, [], 0⟩]
/-- a program's declarations -/
def makeP (x : Sml) : List De := headD x ++ thrDs x 0 (if x.threads = [] then [[]] else x.threads)
end Go.Proofs.YtpgcbmmifmnfpaaDoorV
