/- A reader's contracts: Read, At, Err, fail. No condition. -/
import Derived.Test.YtjpehemkgikkdaaV9
namespace Go.Proofs.YtjpehemkgikkdaaV
open Go Go.RowKit Go.Proofs.YtjpehemkgikkdaaA
set_option linter.unusedVariables false
set_option linter.unusedSimpArgs false
set_option maxRecDepth 100000

/-- a reader: its bytes, how many were taken, its error -/
def RAt (st : ASt) (s : Nat) (v : AVal) (l : List UInt8) (at' e : Nat) : Prop :=
  s < st.ctr ∧ st.heap s = some (.cells [v, .lit (.int .i64 at'), .lit (.int .i64 e)]) ∧ ∃ c, v = .islice 1 (l.map byteA) c

theorem build84 {v : AVal} {l : List UInt8} (h : IsB v l) : buildA E.P 84 [(0, v)] = some (.agg [v, .lit (.int .i64 0), .lit (.int .i64 0)]) := by
  rcases h with ⟨c, rfl⟩ | ⟨a, rfl, rfl⟩ <;> rfl

theorem chunk_bytes (cs : List AVal) : ∀ (n off : Nat), off + n ≤ cs.length → chunkA E.P 5 1 cs off n = some ((cs.drop off).take n)
  | 0, off, h => by simp [chunkA]
  | n + 1, off, h => by
    have e : partA E.P 5 cs off = cs[off]? := rfl
    rw [chunkA, e, List.getElem?_eq_getElem (by omega), chunk_bytes cs n (off + 1) (by omega), List.drop_eq_getElem_cons (by omega : off < cs.length)]
    rfl

theorem src_bs {v : AVal} {l : List UInt8} {st : ASt} (h : BS st v l) : srcA E.P 5 24 false 1 st v = some (l.map byteA) := by
  rcases h with h | ⟨s, off, cap, cs, rfl, h1, h2, h3, h4⟩
  · exact src_b h st
  · have e : srcA E.P 5 24 false 1 st (.slice s off l.length 1 cap) = (match st.heap s with
        | some (.cells cs) => match chunkA E.P 5 1 cs off l.length with
          | some es => if es.all (elemOk false 1) = true then some es else none
          | none => none
        | _ => none) := rfl
    have e2 : chunkA E.P 5 1 cs off l.length = some ((cs.drop off).take l.length) := chunk_bytes cs _ _ h3
    rw [e, h2]
    simp only [e2, h4, bytes_ok, if_true]

theorem read_code (call : ACall) (dr : Array Oper → Bool) (n : Nat) {x : AVal} {l : List UInt8} {st : ASt} {ts : List AVal} (h0 : ts[0]? = some x) (hl : ts.length = 8) (hx : srcA E.P 5 24 false 1 st x = some (l.map byteA)) (hlen : l.length ≤ 1000000) :
    ∃ s v st', aend E Try.f34 (aexec E 34 call dr n (code Try.f34) ts st) = some (.returned (.ptr s 0), st') ∧ RAt st' s v l 0 0 ∧ Gr st st' ∧ st.ctr ≤ s := by
  have hh : ∀ t, E.hint 34 t = false := fun _ => rfl
  have hb0 : buildSliceA E.P false 24 0 [] st = some (.islice 1 [] .exact, st) := rfl
  have hp : ∃ v st', appendA E.P false 24 24 (.islice 1 [] .exact) x st = some (v, st') ∧ (∃ c, v = .islice 1 (l.map byteA) c) ∧ Gr st st' := by
    by_cases he : l = []
    · subst he
      exact ⟨_, _, app_none byteT hx (.inr ⟨_, _, rfl⟩), ⟨_, rfl⟩, Gr.refl _⟩
    · refine ⟨_, _, app_exact byteT rfl hx (by simpa using he) (by simp; omega), ⟨_, by simp; rfl⟩, Gr.new _ _⟩
  obtain ⟨v, st', e, hv', hg⟩ := hp
  refine ⟨st'.ctr, v, st'.new (.cells [v, .lit (.int .i64 0), .lit (.int .i64 0)]), ?_, ?_, ?_, hg.1⟩
  · have hbx : boxA (.agg [v, .lit (.int .i64 0), .lit (.int .i64 0)]) st' = some (.ptr st'.ctr 0, st'.new (.cells [v, .lit (.int .i64 0), .lit (.int .i64 0)])) := by
      obtain ⟨c, rfl⟩ := hv'; rfl
    simp only [code, Try.f34, Option.getD_some, aexec, aops, aop, Region.wanted, ayielded, aexecOp, aeval, aput, aseq, ablock, ahint, absOf, flat, nilCheckA, ANext.ofP, evals, evalPs, evalO, aresults, aresults1, aresult, aend, List.getElem?_set, List.length_set, Option.map_some, Option.bind_some, if_true, if_false, ↓reduceIte, Nat.reduceLT, Nat.reduceEqDiff, reduceCtorEq, Bool.false_eq_true, false_and, and_false, and_true, true_and, Nat.reduceAdd, Nat.reduceLeDiff, callA, List.getElem?_toArray, List.getElem?_cons_succ, List.getElem?_cons_zero, sb1, sb2, sb3, sb4, h0, hl, hh, hb0, builtinA, e, build84 (.inl hv'), hbx]
  · exact ⟨by simp [ASt.new], by simp [ASt.new], hv'⟩
  · exact hg.trans (Gr.new _ _)

theorem read_run {x : AVal} {l : List UInt8} {st : ASt} (hx : BS st x l) (hlen : l.length ≤ 1000000) :
    ∃ s v st', RetN E 1 34 [x] st (.ptr s 0) st' ∧ RAt st' s v l 0 0 ∧ Gr st st' ∧ st.ctr ≤ s := by
  obtain ⟨s, v, st', e, h⟩ := read_code (run E 0) (drawB E 34) 0 (ts := [x] ++ List.replicate 7 .undef) rfl rfl (src_bs hx) hlen
  exact ⟨s, v, st', RetN.of (n := 1) (by rw [run_code (fn := Try.f34) rfl rfl]; exact e), h⟩

end Go.Proofs.YtjpehemkgikkdaaV
