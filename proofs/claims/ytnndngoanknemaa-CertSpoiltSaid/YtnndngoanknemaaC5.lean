/- cert's upTo, walked. No condition. -/
import Derived.Test.YtnndngoanknemaaC4
namespace Go.Proofs.YtnndngoanknemaaV
open Go Go.RowKit Go.Proofs.YtnndngoanknemaaA
set_option linter.unusedVariables false
set_option linter.unusedSimpArgs false
set_option maxRecDepth 100000

/-- a number taken, at most as great as told: the number and where the next one is, or where it went wrong, and why -/
def tk (l : List UInt8) (p most : Nat) : (Nat × Nat) ⊕ (Nat × Nat) :=
  match rd (l.drop p) 0 0 0 with
  | .inl e => .inl (p, e)
  | .inr (x, k) => if most < x then .inl (p, 6) else .inr (x, p + k)

/-- a taker at a: its reader, its place, its error -/
structure TAt (st : ASt) (a s : Nat) (v : AVal) (l : List UInt8) (p e pa ea : Nat) : Prop where
  lt : a < st.ctr
  ne : a ≠ s
  at' : st.heap a = some (.cells [.ptr s 0, .lit (.int .i64 pa), .lit (.int .i64 ea)])
  r : RAt st s v l p e
  le : p ≤ l.length
  er : e ≠ 0 → ea ≠ 0

theorem fldT (a : Nat) : fieldA E.P 64 (.ptr a 0) 0 = some (.ptr a 0) ∧ fieldA E.P 64 (.ptr a 0) 1 = some (.ptr a 1) ∧ fieldA E.P 64 (.ptr a 0) 2 = some (.ptr a 2) := ⟨rfl, rfl, rfl⟩
theorem ld_t {st : ASt} {a s pa ea : Nat} (h : st.heap a = some (.cells [.ptr s 0, .lit (.int .i64 pa), .lit (.int .i64 ea)])) :
    loadA E.P 61 st (.ptr a 0) = some (.ptr s 0) ∧ loadA E.P 3 st (.ptr a 1) = some (.lit (.int .i64 pa)) ∧ loadA E.P 40 st (.ptr a 2) = some (.lit (.int .i64 ea)) := by
  have a0 : loadA E.P 61 st (.ptr a 0) = (match st.heap a with | some (.cells cs) => cs[0]? | _ => none) := rfl
  have a1 : loadA E.P 3 st (.ptr a 1) = (match st.heap a with | some (.cells cs) => cs[1]? | _ => none) := rfl
  have a2 : loadA E.P 40 st (.ptr a 2) = (match st.heap a with | some (.cells cs) => cs[2]? | _ => none) := rfl
  rw [a0, a1, a2, h]
  exact ⟨rfl, rfl, rfl⟩
def tset (st : ASt) (a s pa ea : Nat) : ASt := st.set a (some (.cells [.ptr s 0, .lit (.int .i64 pa), .lit (.int .i64 ea)]))
theorem st_t1 {st : ASt} {a s pa ea : Nat} (h : st.heap a = some (.cells [.ptr s 0, .lit (.int .i64 pa), .lit (.int .i64 ea)])) (n : Nat) : storeA E.P 3 st (.ptr a 1) (.lit (.int .i64 n)) = some (tset st a s n ea) := by
  have a1 : storeA E.P 3 st (.ptr a 1) (.lit (.int .i64 n)) = (match st.heap a with | some (.cells cs) => if some 1 = some 1 ∧ 1 + 1 ≤ cs.length ∧ true = true then some (st.set a (some (.cells (cs.set 1 (.lit (.int .i64 n)))))) else none | _ => none) := rfl
  rw [a1, h]; rfl
theorem st_t2 {st : ASt} {a s pa ea : Nat} (h : st.heap a = some (.cells [.ptr s 0, .lit (.int .i64 pa), .lit (.int .i64 ea)])) (n : Nat) : storeA E.P 40 st (.ptr a 2) (.lit (.int .i64 n)) = some (tset st a s pa n) := by
  have a2 : storeA E.P 40 st (.ptr a 2) (.lit (.int .i64 n)) = (match st.heap a with | some (.cells cs) => if some 1 = some 1 ∧ 2 + 1 ≤ cs.length ∧ true = true then some (st.set a (some (.cells (cs.set 2 (.lit (.int .i64 n)))))) else none | _ => none) := rfl
  rw [a2, h]; rfl
theorem tset_at (st : ASt) (a s pa ea : Nat) : (tset st a s pa ea).heap a = some (.cells [.ptr s 0, .lit (.int .i64 pa), .lit (.int .i64 ea)]) := by simp [tset, ASt.set]
theorem tset_set (st : ASt) (a s pa ea pa' ea' : Nat) : tset (tset st a s pa ea) a s pa' ea' = tset st a s pa' ea' := by
  unfold tset ASt.set
  congr 1
  funext k
  by_cases h : k = a <;> simp [h]
theorem TAt.set {st : ASt} {a s : Nat} {v : AVal} {l : List UInt8} {p e pa ea : Nat} (h : TAt st a s v l p e pa ea) (pa' ea' : Nat) (he : e ≠ 0 → ea' ≠ 0) : TAt (tset st a s pa' ea') a s v l p e pa' ea' :=
  ⟨h.lt, h.ne, tset_at _ _ _ _ _, ⟨h.r.1, by unfold tset; rw [ASt.set_ne _ _ _ _ (Ne.symm h.ne)]; exact h.r.2.1, h.r.2.2⟩, h.le, he⟩
/-- what a taker's calls leave as it is -/
def Tf (st st' : ASt) (a s : Nat) : Prop := st'.ctr = st.ctr ∧ ∀ j, j ≠ a → j ≠ s → st'.heap j = st.heap j
theorem Tf.refl (st : ASt) (a s : Nat) : Tf st st a s := ⟨rfl, fun _ _ _ => rfl⟩
theorem Tf.trans {x y z : ASt} {a s : Nat} (h : Tf x y a s) (k : Tf y z a s) : Tf x z a s := ⟨k.1.trans h.1, fun j h1 h2 => by rw [k.2 j h1 h2, h.2 j h1 h2]⟩
theorem tset_tf (st : ASt) (a s pa ea : Nat) : Tf st (tset st a s pa ea) a s := ⟨rfl, fun j h1 _ => by unfold tset; rw [ASt.set_ne _ _ _ _ h1]⟩
theorem rset_tf (st : ASt) (a s : Nat) (v : AVal) (p e : Nat) : Tf st (rset st s v p e) a s := ⟨rfl, fun j _ h2 => by unfold rset; rw [ASt.set_ne _ _ _ _ h2]⟩

theorem cf30' (a : List AVal) (st : ASt) : callFuncA E.P 30 a st = some (.enter 30 a st) := rfl

/-- the reader behind a number -/
theorem TAt.num {st : ASt} {a s : Nat} {v : AVal} {l : List UInt8} {p e pa ea : Nat} (h : TAt st a s v l p e pa ea) (hll : l.length ≤ 100000) :
    ∃ n st1 p1 e1, RetN E 100002 41 [.ptr s 0] st (.lit (.int .u64 (n : Nat))) st1 ∧ n < 2 ^ 64 ∧ RAt st1 s v l p1 e1 ∧ p1 ≤ l.length ∧ (st1.ctr = st.ctr ∧ ∀ j, j ≠ s → st1.heap j = st.heap j) ∧
      (e ≠ 0 → e1 = e) ∧ (e = 0 → (∃ c, rd (l.drop p) 0 0 0 = .inl c ∧ e1 = c ∧ (c = 1 ∨ c = 3)) ∨ ∃ k, rd (l.drop p) 0 0 0 = .inr (n, k) ∧ e1 = 0 ∧ p1 = p + k) := by
  have n1 : RetN E 100002 _ _ _ _ _ := fun N hN => rnum_run h.r h.le (by omega) N (by omega)
  by_cases he : e = 0
  · rw [if_pos he, if_pos he] at n1
    cases hr : rd (l.drop p) 0 0 0 with
    | inl c =>
      rw [hr] at n1
      have hc := (rd_le (l.drop p) 0 0 0).2 c hr
      exact ⟨0, _, p, c, n1, by decide, rset_at h.r p c, h.le, ⟨rfl, fun j hj => ASt.set_ne _ _ _ _ hj⟩, fun hn => absurd he hn, fun _ => .inl ⟨c, rfl, rfl, hc⟩⟩
    | inr q =>
      obtain ⟨x, k⟩ := q
      rw [hr] at n1
      obtain ⟨h1, h2, _⟩ := rd_out hr
      rw [List.length_drop] at h2
      have := h.le
      exact ⟨x, _, p + k, 0, n1, h1, rset_at h.r (p + k) 0, by omega, ⟨rfl, fun j hj => ASt.set_ne _ _ _ _ hj⟩, fun hn => absurd he hn, fun _ => .inr ⟨k, rfl, rfl, rfl⟩⟩
  · rw [if_neg he, if_neg he] at n1
    exact ⟨0, st, p, e, n1, by decide, h.r, h.le, ⟨rfl, fun _ _ => rfl⟩, fun _ => rfl, fun h0 => absurd h0 he⟩

set_option maxHeartbeats 1000000 in
theorem upto_run {st : ASt} {a s : Nat} {v : AVal} {l : List UInt8} {p e pa ea : Nat} (h : TAt st a s v l p e pa ea) (hll : l.length ≤ 100000) (most : Nat) :
    ∃ n st' p' e' pa' ea', RetN E 100010 30 [.ptr a 0, .lit (.int .u64 most)] st (.lit (.int .u64 (n : Nat))) st' ∧ n < 2 ^ 64 ∧ TAt st' a s v l p' e' pa' ea' ∧ Tf st st' a s ∧
      (ea ≠ 0 → pa' = pa ∧ ea' = ea) ∧ (ea = 0 → (∃ q c, tk l p most = .inl (q, c) ∧ pa' = q ∧ ea' = c ∧ c ≠ 0) ∨ (tk l p most = .inr (n, p') ∧ pa' = pa ∧ ea' = 0)) := by
  obtain ⟨ts, et, t0, t1, tl⟩ : ∃ ts : List AVal, ([AVal.ptr a 0, .lit (.int .u64 most)] ++ List.replicate (Try.f30.ntmps - [AVal.ptr a 0, .lit (.int .u64 most)].length) .undef) = ts ∧ ts[0]? = some (.ptr a 0) ∧ ts[1]? = some (.lit (.int .u64 most)) ∧ ts.length = 54 := ⟨_, rfl, rfl, rfl, rfl⟩
  have hh : ∀ t, E.hint 30 t = false := fun _ => rfl
  obtain ⟨f0, f1, f2⟩ := fldT a
  obtain ⟨l0, l1, l2⟩ := ld_t h.at'
  have n0 := at_run h.r
  obtain ⟨n, st1, p1, e1, n1, hn, r1, hp1, tf1, hne, hze⟩ := h.num hll
  have at1 : st1.heap a = some (.cells [.ptr s 0, .lit (.int .i64 pa), .lit (.int .i64 ea)]) := by rw [tf1.2 a h.ne]; exact h.at'
  obtain ⟨m0, m1, m2⟩ := ld_t at1
  have d1 : drawB E 30 ((code Try.f30).snd.fst.ops) = false := by kernel_rfl
  have p1' : drawPlan E 30 ((code Try.f30).snd.fst.ops) = some [.one 0 [], .one 1 [], .one 2 [], .one 3 [], .one 5 [], .one 6 [], .one 7 [], .one 8 [], .one 4 [8], .one 9 [], .one 10 [], .one 11 []] := by kernel_rfl
  simp only [code, Try.f30, Option.getD_some, Code.fst, Code.snd, Code.inn, Code.ops] at d1 p1'
  have n2 := err_run r1
  have tf2 : Tf st st1 a s := ⟨tf1.1, fun j _ h2 => tf1.2 j h2⟩
  have alt : a < st1.ctr := by rw [tf1.1]; exact h.lt
  by_cases hea : ea = 0
  · have he : e = 0 := by
      by_cases he : e = 0
      · exact he
      · exact absurd hea (h.er he)
    subst hea
    have z0 : (((0 : Nat) : Int) != 0) = false := rfl
    rcases hze he with ⟨c, hr, rfl, hc⟩ | ⟨k, hr, rfl, hp⟩
    · have z1 : (((e1 : Nat) : Int) != 0) = true := by rw [bne_iff_ne]; omega
      have s1 := st_t1 at1 p
      have s2 := st_t2 (tset_at st1 a s p 0) e1
      rw [tset_set] at s2
      refine ⟨n, tset st1 a s p e1, p1, e1, p, e1, RetN.of (n := 100009 + 1) ?_, hn, ⟨alt, h.ne, tset_at _ _ _ _ _, ⟨r1.1, by unfold tset; rw [ASt.set_ne _ _ _ _ (Ne.symm h.ne)]; exact r1.2.1, r1.2.2⟩, hp1, fun h => h⟩, tf2.trans (tset_tf _ _ _ _ _), fun h0 => absurd rfl h0, fun _ => .inl ⟨p, e1, by unfold tk; rw [hr], rfl, rfl, by omega⟩⟩
      obtain ⟨N, hN⟩ : ∃ N, N = 100009 := ⟨_, rfl⟩
      have c0 := n0 N (by omega)
      have c1 := n1 N (by omega)
      have c2 := n2 N (by omega)
      rw [← hN, run_code (fn := Try.f30) rfl rfl, et]
      simp only [AVal.undef, sbn, sbn', code, Try.f30, Option.getD_some, Code.fst, Code.snd, Code.inn, aexec, aops, aop, Region.wanted, ayielded, aexecOp, aeval, aput, aseq, ablock, ahint, absOf, flat, nilCheckA, ANext.ofP, evals, evalPs, evalO, aresults, aresults1, aresult, aend, List.getElem?_set, List.length_set, Option.map_some, Option.bind_some, if_true, if_false, ↓reduceIte, Nat.reduceLT, Nat.reduceEqDiff, reduceCtorEq, Bool.false_eq_true, false_and, and_false, and_true, true_and, Nat.reduceAdd, Nat.reduceLeDiff, callA, List.getElem?_toArray, List.getElem?_cons_succ, List.getElem?_cons_zero, sb1, sb2, sb3, sb4, sliceU_i, sliceU_s, sliceU_p, sliceU_l, evalV, t0, t1, tl, hh, d1, p1', and_self, aopsP, Stills, Still, forall_const, Option.isSome_some, eq_self, f0, f1, f2, l0, l1, l2, m0, m1, m2, cf38, c0, cf35, c1, b_neq, z0, cf37, c2, z1, s1, s2]
    · have z1 : (((0 : Nat) : Int) != 0) = false := rfl
      by_cases hm : most < n
      · have z2 : decide ((n : Int) > (most : Int)) = true := by rw [decide_eq_true_eq]; omega
        have s1 := st_t1 at1 p
        have s2 := st_t2 (tset_at st1 a s p 0) 6
        rw [tset_set] at s2
        refine ⟨n, tset st1 a s p 6, p1, 0, p, 6, RetN.of (n := 100009 + 1) ?_, hn, ⟨alt, h.ne, tset_at _ _ _ _ _, ⟨r1.1, by unfold tset; rw [ASt.set_ne _ _ _ _ (Ne.symm h.ne)]; exact r1.2.1, r1.2.2⟩, hp1, fun h => (by decide)⟩, tf2.trans (tset_tf _ _ _ _ _), fun h0 => absurd rfl h0, fun _ => .inl ⟨p, 6, by unfold tk; rw [hr]; simp only [if_pos hm], rfl, rfl, by decide⟩⟩
        obtain ⟨N, hN⟩ : ∃ N, N = 100009 := ⟨_, rfl⟩
        have c0 := n0 N (by omega)
        have c1 := n1 N (by omega)
        have c2 := n2 N (by omega)
        have e6 : ((6 : Nat) : Int) = 6 := rfl
        rw [e6] at s2
        rw [← hN, run_code (fn := Try.f30) rfl rfl, et]
        simp only [AVal.undef, sbn, sbn', code, Try.f30, Option.getD_some, Code.fst, Code.snd, Code.inn, aexec, aops, aop, Region.wanted, ayielded, aexecOp, aeval, aput, aseq, ablock, ahint, absOf, flat, nilCheckA, ANext.ofP, evals, evalPs, evalO, aresults, aresults1, aresult, aend, List.getElem?_set, List.length_set, Option.map_some, Option.bind_some, if_true, if_false, ↓reduceIte, Nat.reduceLT, Nat.reduceEqDiff, reduceCtorEq, Bool.false_eq_true, false_and, and_false, and_true, true_and, Nat.reduceAdd, Nat.reduceLeDiff, callA, List.getElem?_toArray, List.getElem?_cons_succ, List.getElem?_cons_zero, sb1, sb2, sb3, sb4, sliceU_i, sliceU_s, sliceU_p, sliceU_l, evalV, t0, t1, tl, hh, d1, p1', and_self, aopsP, Stills, Still, forall_const, Option.isSome_some, eq_self, f0, f1, f2, l0, l1, l2, m0, m1, m2, cf38, c0, cf35, c1, b_neq, z0, cf37, c2, z1, b_gtr, z2, s1, s2]
      · have z2 : decide ((n : Int) > (most : Int)) = false := by rw [decide_eq_false_iff_not]; omega
        refine ⟨n, st1, p1, 0, pa, 0, RetN.of (n := 100009 + 1) ?_, hn, ⟨alt, h.ne, at1, r1, hp1, fun h => h⟩, tf2, fun h0 => absurd rfl h0, fun _ => .inr ⟨by unfold tk; rw [hr]; simp only [if_neg hm, hp], rfl, rfl⟩⟩
        obtain ⟨N, hN⟩ : ∃ N, N = 100009 := ⟨_, rfl⟩
        have c0 := n0 N (by omega)
        have c1 := n1 N (by omega)
        have c2 := n2 N (by omega)
        rw [← hN, run_code (fn := Try.f30) rfl rfl, et]
        simp only [AVal.undef, sbn, sbn', code, Try.f30, Option.getD_some, Code.fst, Code.snd, Code.inn, aexec, aops, aop, Region.wanted, ayielded, aexecOp, aeval, aput, aseq, ablock, ahint, absOf, flat, nilCheckA, ANext.ofP, evals, evalPs, evalO, aresults, aresults1, aresult, aend, List.getElem?_set, List.length_set, Option.map_some, Option.bind_some, if_true, if_false, ↓reduceIte, Nat.reduceLT, Nat.reduceEqDiff, reduceCtorEq, Bool.false_eq_true, false_and, and_false, and_true, true_and, Nat.reduceAdd, Nat.reduceLeDiff, callA, List.getElem?_toArray, List.getElem?_cons_succ, List.getElem?_cons_zero, sb1, sb2, sb3, sb4, sliceU_i, sliceU_s, sliceU_p, sliceU_l, evalV, t0, t1, tl, hh, d1, p1', and_self, aopsP, Stills, Still, forall_const, Option.isSome_some, eq_self, f0, f1, f2, l0, l1, l2, m0, m1, m2, cf38, c0, cf35, c1, b_neq, z0, cf37, c2, z1, b_gtr, z2]
  · have z0 : (((ea : Nat) : Int) != 0) = true := by rw [bne_iff_ne]; omega
    refine ⟨n, st1, p1, e1, pa, ea, RetN.of (n := 100009 + 1) ?_, hn, ⟨alt, h.ne, at1, r1, hp1, fun _ => hea⟩, tf2, fun _ => ⟨rfl, rfl⟩, fun h0 => absurd h0 hea⟩
    obtain ⟨N, hN⟩ : ∃ N, N = 100009 := ⟨_, rfl⟩
    have c0 := n0 N (by omega)
    have c1 := n1 N (by omega)
    rw [← hN, run_code (fn := Try.f30) rfl rfl, et]
    simp only [AVal.undef, sbn, sbn', code, Try.f30, Option.getD_some, Code.fst, Code.snd, Code.inn, aexec, aops, aop, Region.wanted, ayielded, aexecOp, aeval, aput, aseq, ablock, ahint, absOf, flat, nilCheckA, ANext.ofP, evals, evalPs, evalO, aresults, aresults1, aresult, aend, List.getElem?_set, List.length_set, Option.map_some, Option.bind_some, if_true, if_false, ↓reduceIte, Nat.reduceLT, Nat.reduceEqDiff, reduceCtorEq, Bool.false_eq_true, false_and, and_false, and_true, true_and, Nat.reduceAdd, Nat.reduceLeDiff, callA, List.getElem?_toArray, List.getElem?_cons_succ, List.getElem?_cons_zero, sb1, sb2, sb3, sb4, sliceU_i, sliceU_s, sliceU_p, sliceU_l, evalV, t0, t1, tl, hh, d1, p1', and_self, aopsP, Stills, Still, forall_const, Option.isSome_some, eq_self, f0, f1, f2, l0, l1, l2, m0, m1, m2, cf38, c0, cf35, c1, b_neq, z0]

end Go.Proofs.YtnndngoanknemaaV
