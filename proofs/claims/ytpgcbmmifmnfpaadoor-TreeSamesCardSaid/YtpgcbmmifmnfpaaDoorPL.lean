/- law 04: programs by small numbers are as a text may tell them: plain. No condition. -/
import Derived.Test.YtpgcbmmifmnfpaaDoorUR
namespace Go.Proofs.YtpgcbmmifmnfpaaDoorV
open Go Go.RowKit Go.Proofs.YtpgcbmmifmnfpaaDoorA
set_option linter.unusedVariables false
set_option linter.unusedSimpArgs false
set_option maxRecDepth 100000

theorem numV_lt (n : Int) : numV n < 16 := by unfold numV; omega
theorem numE_leaf (n : Int) : ∃ k, leafOk k = true ∧ numE n = leafE k := by
  have h := numV_lt n
  unfold numE
  split
  · refine ⟨17 + (numV n + 1), by unfold leafOk; simp; omega, ?_⟩
    unfold leafE
    rw [if_neg (by omega), if_pos (by omega), Nat.add_sub_cancel_left]
  · refine ⟨numV n, by unfold leafOk; simp; omega, ?_⟩
    unfold leafE
    rw [if_pos (by omega)]
theorem regW_eq (n : Nat) : regW n = [UInt8.ofNat (97 + n % 3)] := by
  have h3 : n % 3 = 0 ∨ n % 3 = 1 ∨ n % 3 = 2 := by omega
  unfold regW
  rcases h3 with h | h | h <;> rw [h] <;> rfl
theorem regE_leaf (n : Nat) : ∃ k, leafOk k = true ∧ regE n = leafE k := by
  have h : n % 3 < 3 := Nat.mod_lt _ (by decide)
  refine ⟨34 + n % 3, by unfold leafOk; simp; omega, ?_⟩
  unfold leafE regE
  rw [if_neg (by omega), if_neg (by omega), regW_eq, Nat.add_sub_cancel_left]
theorem numE_ok (n : Int) : EOk (numE n) := by
  obtain ⟨k, h, e⟩ := numE_leaf n
  rw [e]
  exact .leaf k h
theorem regE_ok (n : Nat) : EOk (regE n) := by
  obtain ⟨k, h, e⟩ := regE_leaf n
  rw [e]
  exact .leaf k h
theorem leaf_len : (List.range 37).all (fun n => decide ((leafE n).t.length ≤ 3)) = true := by decide +kernel
theorem leaf_le {n : Nat} (h : leafOk n = true) : (leafE n).t.length ≤ 3 :=
  of_decide_eq_true (List.all_eq_true.1 leaf_len n (List.mem_range.2 (by unfold leafOk at h; simp at h; omega)))
theorem numE_len (n : Int) : (numE n).t.length ≤ 3 := by
  obtain ⟨k, h, e⟩ := numE_leaf n
  rw [e]
  exact leaf_le h
theorem regE_len (n : Nat) : (regE n).t.length ≤ 3 := by
  obtain ⟨k, h, e⟩ := regE_leaf n
  rw [e]
  exact leaf_le h
theorem exprE_ok (kind : Nat) (n : Int) : EOk (exprE kind n) ∧ (exprE kind n).t.length ≤ 20 := by
  have a := regE_ok (kind / 16)
  have b := numE_ok n
  have la := regE_len (kind / 16)
  have lb := numE_len n
  have bn : ∀ op (h : op ∈ bops) {p q : Ex} (hp : EOk p) (hq : EOk q) (lp : p.t.length ≤ 3) (lq : q.t.length ≤ 3), EOk (.mk op 0 0 [] [p, q]) ∧ (Ex.mk op 0 0 [] [p, q]).t.length ≤ 14 := by
    intro op h p q hp hq lp lq
    refine ⟨.bin op h hp hq, ?_⟩
    have ho : op.length ≤ 2 := by
      simp only [bops, List.mem_cons, List.not_mem_nil, or_false] at h
      rcases h with rfl | rfl | rfl | rfl | rfl | rfl <;> decide
    rw [bin_t h]
    simp
    omega
  have un : ∀ op (h : op ∈ uops) {p : Ex} (hp : EOk p) (lp : p.t.length ≤ 14), EOk (.mk op 0 0 [] [p]) ∧ (Ex.mk op 0 0 [] [p]).t.length ≤ 20 := by
    intro op h p hp lp
    refine ⟨.un op h hp, ?_⟩
    rw [un_t h]
    simp
    omega
  have w : ∀ {e : Ex}, (EOk e ∧ e.t.length ≤ 14) → EOk e ∧ e.t.length ≤ 20 := fun h => ⟨h.1, by omega⟩
  unfold exprE
  dsimp only
  by_cases h0 : kind % 16 < 4
  · rw [if_pos h0]; exact ⟨b, by omega⟩
  rw [if_neg h0]
  by_cases h1 : kind % 16 < 6
  · rw [if_pos h1]; exact ⟨a, by omega⟩
  rw [if_neg h1]
  by_cases h2 : kind % 16 = 6
  · rw [if_pos h2]; exact w (bn _ (by decide) a b la lb)
  rw [if_neg h2]
  by_cases h3 : kind % 16 = 7
  · rw [if_pos h3]; exact w (bn _ (by decide) b a lb la)
  rw [if_neg h3]
  by_cases h4 : kind % 16 = 8
  · rw [if_pos h4]; exact w (bn _ (by decide) a b la lb)
  rw [if_neg h4]
  by_cases h5 : kind % 16 = 9
  · rw [if_pos h5]; exact w (bn _ (by decide) a b la lb)
  rw [if_neg h5]
  by_cases h6 : kind % 16 = 10
  · rw [if_pos h6]; exact w (bn _ (by decide) a b la lb)
  rw [if_neg h6]
  by_cases h7 : kind % 16 = 11
  · rw [if_pos h7]; exact w (bn _ (by decide) a b la lb)
  rw [if_neg h7]
  by_cases h8 : kind % 16 = 12
  · rw [if_pos h8]; exact un _ (by decide) (bn [43] (by decide) a b la lb).1 (bn [43] (by decide) a b la lb).2
  rw [if_neg h8]
  by_cases h9 : kind % 16 = 13
  · rw [if_pos h9]; exact un _ (by decide) a (by omega)
  rw [if_neg h9]
  by_cases h10 : kind % 16 = 14
  · rw [if_pos h10]; exact un _ (by decide) a (by omega)
  rw [if_neg h10]
  exact un _ (by decide) (bn [42] (by decide) a a la la).1 (bn [42] (by decide) a a la la).2
theorem leaf_good {n : Nat} (h : leafOk n = true) : (leafE n).good := by
  have : n < 37 := by unfold leafOk at h; simp at h; omega
  unfold leafE
  split
  · unfold Ex.good Ex.goods; refine ⟨by omega, by omega, .inl rfl, trivial⟩
  · split
    · unfold Ex.good Ex.goods; refine ⟨by omega, by omega, .inl rfl, trivial⟩
    · unfold Ex.good Ex.goods; refine ⟨by omega, by omega, .inr (.inl rfl), trivial⟩
theorem e_good {e : Ex} (h : EOk e) : e.good := by
  induction h with
  | leaf n h => exact leaf_good h
  | un op h hp ih =>
    unfold Ex.good Ex.goods
    refine ⟨by omega, by omega, .inr (.inr (.inl ⟨?_, rfl⟩)), ih, trivial⟩
    simp only [uops, List.mem_cons, List.not_mem_nil, or_false] at h
    rcases h with rfl | rfl | rfl | rfl <;> rfl
  | bin op h hp hq ih1 ih2 =>
    unfold Ex.good Ex.goods
    refine ⟨by omega, by omega, .inr (.inr (.inr ⟨?_, ?_, ?_, rfl⟩)), ih1, ih2, trivial⟩
    all_goals
      simp only [bops, List.mem_cons, List.not_mem_nil, or_false] at h
      rcases h with rfl | rfl | rfl | rfl | rfl | rfl <;> decide
theorem dig_w : ∀ m, m < 10 → isW (UInt8.ofNat (48 + m)) = true := by decide
theorem wd_two {c : UInt8} (hc : isW c = true) {m : Nat} (h : m < 10) : Wd [c, UInt8.ofNat (48 + m)] := by
  intro d hd
  simp only [List.mem_cons, List.not_mem_nil, or_false] at hd
  rcases hd with rfl | rfl
  · exact hc
  · exact dig_w m h
theorem regP_one {s : SS} {k : Nat} (h : k = 0 ∨ k = 1 ∨ 3 ≤ k ∧ k ≤ 5 ∨ k = 8) : ∃ c, regP s k = [c] ∧ (c = 97 ∨ c = 98 ∨ c = 99) := by
  unfold regP
  rw [if_pos h, regW_eq]
  refine ⟨_, rfl, ?_⟩
  have h3 : s.c % 3 = 0 ∨ s.c % 3 = 1 ∨ s.c % 3 = 2 := by omega
  rcases h3 with h | h | h <;> rw [h] <;> decide
theorem wd_one {c : UInt8} (hc : isW c = true) : Wd [c] := fun d hd => by rw [List.mem_singleton.1 hd]; exact hc
theorem nameP_ok {x : Sml} (s : SS) {k : Nat} (h : 0 < k ∧ k < 6) : NOk (nameP x s k).1 (nameP x s k).2.1 (nameP x s k).2.2.1 := by
  unfold nameP
  rw [if_pos h]
  split
  · exact .ix [118] (wd_one (by decide)) (exprE_ok _ _).1
  · have : s.b % (1 + x.cells % 3) < 1 + x.cells % 3 := Nat.mod_lt _ (by omega)
    exact .plain _ (wd_two (by decide) (by omega))
theorem nameP_pl {x : Sml} (hx : x.threads.length ≤ 6) (s : SS) {k : Nat} (h : 6 ≤ k) (h2 : k ≤ 12) : ∃ nm ok, nameP x s k = (nm, false, [], ok) ∧ Wd nm := by
  unfold nameP
  rw [if_neg (by omega)]
  have m : ∀ a b : Nat, b ≤ 6 → a % max b 1 < 10 := fun a b hb => by
    have : a % max b 1 < max b 1 := Nat.mod_lt _ (by omega)
    omega
  split
  · exact ⟨_, _, rfl, wd_two (by decide) (m _ _ (by omega))⟩
  · split
    · exact ⟨_, _, rfl, wd_two (by decide) (m _ _ (by omega))⟩
    · rw [if_pos (by omega)]
      exact ⟨_, _, rfl, wd_two (by decide) (m _ _ hx)⟩
theorem nameP_no {x : Sml} (s : SS) {k : Nat} (h : k = 0 ∨ 13 ≤ k) : nameP x s k = ([], false, [], true) := by
  unfold nameP
  rw [if_neg (by omega), if_neg (by omega), if_neg (by omega), if_neg (by omega)]
theorem stP0_ok {x : Sml} (hx : x.threads.length ≤ 6) (s : SS) {body els : List St} (hb : LOk body) (hl : LOk els) (hn : kindN s.d < 15 → body = [] ∧ els = []) : SOk (stP0 x s body els) := by
  have hk := kindN_le s.d
  unfold stP0
  generalize kindN s.d = k at *
  have he := (exprE_ok s.a s.n).1
  by_cases h0 : k = 0
  · obtain ⟨c, hc, hc2⟩ := regP_one (s := s) (k := k) (.inl h0)
    obtain ⟨rfl, rfl⟩ := hn (by omega)
    rw [hc, nameP_no s (.inl h0)]
    subst h0
    exact .set c hc2 he
  by_cases h1 : k = 1 ∨ k = 8
  · obtain ⟨c, hc, hc2⟩ := regP_one (s := s) (k := k) (by omega)
    obtain ⟨rfl, rfl⟩ := hn (by omega)
    have hE : exprsP s k = [] := by unfold exprsP; rw [if_neg (by omega), if_neg (by omega)]
    rw [hc, hE, List.append_nil]
    by_cases h8 : k = 8
    · obtain ⟨nm, ok, h, hw⟩ := nameP_pl hx s (k := k) (by omega) (by omega)
      rw [h]
      exact .gv k h1 c hc2 (.plain _ hw)
    · exact .gv k h1 c hc2 (nameP_ok s (by omega))
  by_cases h2 : k = 3 ∨ k = 4
  · obtain ⟨c, hc, hc2⟩ := regP_one (s := s) (k := k) (by omega)
    obtain ⟨rfl, rfl⟩ := hn (by omega)
    have hE : exprsP s k = [exprE s.a s.n] := by unfold exprsP; rw [if_pos (by omega)]
    rw [hc, hE]
    exact .up k h2 c hc2 (nameP_ok s (by omega)) he
  by_cases h3 : k = 5
  · obtain ⟨c, hc, hc2⟩ := regP_one (s := s) (k := k) (by omega)
    obtain ⟨rfl, rfl⟩ := hn (by omega)
    have hE : exprsP s k = [exprE s.a s.n, numE (i8 (s.n + 1))] := by unfold exprsP; rw [if_neg (by omega), if_pos h3]
    have hN := nameP_ok (x := x) s (k := k) (by omega)
    rw [hc, hE]
    subst h3
    exact .cas c hc2 hN he (numE_ok _)
  have hR : regP s k = [] := by unfold regP; rw [if_neg (by omega)]
  rw [hR]
  by_cases h4 : k = 2
  · obtain ⟨rfl, rfl⟩ := hn (by omega)
    have hE : exprsP s k = [exprE s.a s.n] := by unfold exprsP; rw [if_pos (by omega)]
    have hN := nameP_ok (x := x) s (k := k) (by omega)
    rw [hE]
    subst h4
    exact .sto hN he
  by_cases h5 : 13 ≤ k
  · have hE : exprsP s k = [exprE s.a s.n] := by unfold exprsP; rw [if_pos (by omega)]
    rw [hE, nameP_no s (.inr h5)]
    by_cases h6 : k = 13 ∨ k = 14
    · obtain ⟨rfl, rfl⟩ := hn (by omega)
      exact .ass k h6 he
    · exact .blk k (by omega) he hb hl
  · obtain ⟨rfl, rfl⟩ := hn (by omega)
    have hE : exprsP s k = [] := by unfold exprsP; rw [if_neg (by omega), if_neg (by omega)]
    obtain ⟨nm, ok, h, hw⟩ := nameP_pl hx s (k := k) (by omega) (by omega)
    rw [hE, h]
    exact .nam k (by omega) nm hw
theorem exsP_len (s : SS) (k : Nat) : (exprsP s k).length ≤ 2 ∧ ∀ e ∈ exprsP s k, EOk e ∧ e.t.length ≤ 20 := by
  have h1 := exprE_ok s.a s.n
  have h2 := numE_ok (i8 (s.n + 1))
  have h3 := numE_len (i8 (s.n + 1))
  unfold exprsP
  split
  · refine ⟨by simp, fun e he => ?_⟩
    rw [List.mem_singleton] at he
    rw [he]; exact h1
  · split
    · refine ⟨by simp, fun e he => ?_⟩
      simp only [List.mem_cons, List.not_mem_nil, or_false] at he
      rcases he with rfl | rfl
      · exact h1
      · exact ⟨h2, by omega⟩
    · exact ⟨by simp, fun e he => by cases he⟩
theorem nameP_all {x : Sml} (s : SS) (k : Nat) : (nameP x s k).1.length ≤ 2 ∧ (nameP x s k).2.2.1.length ≤ 1 ∧ (∀ e ∈ (nameP x s k).2.2.1, EOk e ∧ e.t.length ≤ 20) ∧ ((nameP x s k).2.1 = true → (nameP x s k).2.2.1 ≠ []) := by
  unfold nameP
  split
  · split
    · refine ⟨by simp, by simp, fun e he => ?_, fun _ => by simp⟩
      rw [List.mem_singleton] at he
      rw [he]; exact exprE_ok _ _
    · exact ⟨by simp, by simp, fun e he => by (simp at he), fun h => by (simp at h)⟩
  · split
    · exact ⟨by simp, by simp, fun e he => by (simp at he), fun h => by (simp at h)⟩
    · split
      · exact ⟨by simp, by simp, fun e he => by (simp at he), fun h => by (simp at h)⟩
      · split
        · exact ⟨by simp, by simp, fun e he => by (simp at he), fun h => by (simp at h)⟩
        · exact ⟨by simp, by simp, fun e he => by (simp at he), fun h => by (simp at h)⟩
/-- a statement's parts -/
theorem stP0_es {x : Sml} (s : SS) {k : Nat} : ((nameP x s k).2.2.1 ++ exprsP s k).length ≤ 3 ∧ (∀ e ∈ (nameP x s k).2.2.1 ++ exprsP s k, EOk e ∧ e.t.length ≤ 20) ∧ ((nameP x s k).2.1 = true → (nameP x s k).2.2.1 ++ exprsP s k ≠ []) := by
  obtain ⟨h1, h2, h3, h4⟩ := nameP_all (x := x) s k
  obtain ⟨g1, g2⟩ := exsP_len s k
  refine ⟨by rw [List.length_append]; omega, fun e he => ?_, fun h he => h4 h (List.append_eq_nil_iff.1 he).1⟩
  rcases List.mem_append.1 he with h | h
  · exact h3 e h
  · exact g2 e h
theorem stP0_good {x : Sml} (s : SS) {body els : List St} (hb : Sts.good body) (hl : Sts.good els) (lb : body.length ≤ 100000) (ll : els.length ≤ 100000) : (stP0 x s body els).good := by
  obtain ⟨h1, h2, h3⟩ := stP0_es (x := x) s (k := kindN s.d)
  obtain ⟨g1, _⟩ := nameP_all (x := x) s (kindN s.d)
  unfold stP0 St.good
  exact ⟨kindN_le _, ⟨h1, by omega, fun e he => ⟨e_good (h2 e he).1, by have := (h2 e he).2; omega⟩⟩, h3, ⟨lb, ll⟩, hb, hl⟩
theorem kwd_le : ∀ k, k ≤ 16 → (kwd k).length ≤ 6 := by decide
theorem stX_len (k : Nat) (hk : k ≤ 16) (reg nm al bl : List UInt8) (el : Option (List UInt8)) : (stX k reg nm al bl el).length ≤ reg.length + nm.length + al.length + bl.length + (el.getD []).length + 20 := by
  have := kwd_le k hk
  unfold stX
  repeat' split
  all_goals simp only [List.length_append, List.length_cons, List.length_nil, Option.getD_some, Option.getD_none]
  all_goals omega
theorem es_join : ∀ (l : List Ex), (∀ e ∈ l, e.t.length ≤ 20) → (Lib.join (l.map Ex.t) [44, 32]).length ≤ 22 * l.length
  | [], _ => by simp [Lib.join]
  | [e], h => by have := h e (List.mem_cons_self ..); simp [Lib.join]; omega
  | e :: d :: l, h => by
    have h1 := h e (List.mem_cons_self ..)
    have ih := es_join (d :: l) (fun e he => h e (List.mem_cons_of_mem _ he))
    have hj : Lib.join ((e :: d :: l).map Ex.t) [44, 32] = e.t ++ ([44, 32] ++ Lib.join ((d :: l).map Ex.t) [44, 32]) := by simp [Lib.join, List.intercalate]
    rw [hj]
    simp only [List.length_cons, List.length_append, List.length_nil] at ih ⊢
    omega
theorem stP0_len {x : Sml} (s : SS) (body els : List St) : (stP0 x s body els).t.length ≤ 200 + (Sts.t body).length + (Sts.t els).length := by
  obtain ⟨h1, h2, h3⟩ := stP0_es (x := x) s (k := kindN s.d)
  obtain ⟨g1, _⟩ := nameP_all (x := x) s (kindN s.d)
  have hk := kindN_le s.d
  unfold stP0
  rw [St.t_mk]
  generalize (nameP x s (kindN s.d)).2.2.1 ++ exprsP s (kindN s.d) = es at *
  generalize kindN s.d = k at *
  have hr : (regP s k).length ≤ 1 := by
    unfold regP
    split
    · rw [regW_eq]; simp
    · simp
  have hx := stX_len k hk (regP s k) (nmT (nameP x s k).1 (nameP x s k).2.1 (es.map Ex.t)) (alT (nameP x s k).2.1 (es.map Ex.t)) (blT (Sts.t body)) (elT els)
  have hn : (nmT (nameP x s k).1 (nameP x s k).2.1 (es.map Ex.t)).length ≤ 24 := by
    unfold nmT
    split
    · have : (((es.map Ex.t)[0]?).getD []).length ≤ 20 := by
        cases es with
        | nil => simp
        | cons e l => exact (h2 e (List.mem_cons_self ..)).2
      simp only [List.length_append, List.length_cons, List.length_nil]
      omega
    · omega
  have ha : (alT (nameP x s k).2.1 (es.map Ex.t)).length ≤ 66 := by
    unfold alT
    split
    · rw [← List.map_drop]
      have := es_join (es.drop 1) (fun e he => (h2 e (List.mem_of_mem_drop he)).2)
      rw [List.length_drop] at this
      omega
    · have := es_join es (fun e he => (h2 e he).2)
      omega
  have hb : (blT (Sts.t body)).length ≤ (Sts.t body).length + 4 := by unfold blT; simp
  have hl : ((elT els).getD []).length ≤ (Sts.t els).length + 4 := by
    cases els with
    | nil => simp [elT]
    | cons e l => simp only [elT, Option.getD_some, blT, Sts.t_cons, List.length_append, List.length_cons, List.length_nil]; omega
  omega
theorem LOk.app {a b : List St} (ha : LOk a) (hb : LOk b) : LOk (a ++ b) := by
  induction a with
  | nil => exact hb
  | cons s l ih => cases ha with
    | cons h ht => exact .cons h (ih ht)
theorem Sts.good_app : ∀ {a b : List St}, Sts.good a → Sts.good b → Sts.good (a ++ b)
  | [], _, _, hb => hb
  | _ :: _, _, ha, hb => ⟨ha.1, Sts.good_app ha.2 hb⟩
structure Fit (r : List St × List SS) (n : Nat) : Prop where
  ok : LOk r.1
  good : Sts.good r.1
  text : (Sts.t r.1).length + 200 * r.2.length ≤ 200 * n
  len : r.1.length + r.2.length ≤ n
theorem stmtsP_fit {x : Sml} (hx : x.threads.length ≤ 6) : ∀ (n : Nat) (l : List SS) (most deep : Nat), l.length ≤ 1000 → Fit (stmtsP x n l most deep) l.length
  | 0, l, _, _, _ => ⟨.nil, trivial, by simp [stmtsP, Sts.t], by simp [stmtsP]⟩
  | _ + 1, [], _, _, _ => ⟨.nil, trivial, by simp [stmtsP, Sts.t], by simp [stmtsP]⟩
  | _ + 1, s :: l, 0, _, _ => ⟨.nil, trivial, by simp [stmtsP, Sts.t], by simp [stmtsP]⟩
  | n + 1, s :: l, most + 1, deep, hl => by
    rw [List.length_cons] at hl ⊢
    have one : ∀ (body els : List St) (m : Nat) (r : List St × List SS), LOk body → LOk els → (kindN s.d < 15 → body = [] ∧ els = []) → Sts.good body → Sts.good els → body.length + els.length + m ≤ l.length → (Sts.t body).length + (Sts.t els).length + 200 * m ≤ 200 * l.length → Fit r m →
        Fit ((if stOk x s then [stP0 x s body els] else []) ++ r.1, r.2) (l.length + 1) := by
      intro body els m r hb hel hn gb ge hlen htext hr
      split
      · have ht := stP0_len (x := x) s body els
        have h4 := hr.text
        have h5 := hr.len
        refine ⟨.cons (stP0_ok hx s hb hel hn) hr.ok, ⟨stP0_good s gb ge (by omega) (by omega), hr.good⟩, ?_, ?_⟩
        · show (Sts.t (stP0 x s body els :: r.1)).length + _ ≤ _
          rw [Sts.t_cons, List.length_append]
          simp only
          omega
        · show (stP0 x s body els :: r.1).length + _ ≤ _
          rw [List.length_cons]
          simp only
          omega
      · have h4 := hr.text
        have h5 := hr.len
        exact ⟨hr.ok, hr.good, by simp only [List.nil_append]; omega, by simp only [List.nil_append]; omega⟩
    unfold stmtsP
    split
    · split
      · have h := stmtsP_fit hx n l most deep (by omega)
        exact ⟨h.ok, h.good, by have := h.text; omega, by have := h.len; omega⟩
      · have hb := stmtsP_fit hx n l (s.c % 4) (deep - 1) (by omega)
        have lb := hb.len
        have tb := hb.text
        simp only
        by_cases hc : kindN s.d = 15 ∧ s.c / 4 % 2 = 1
        · simp only [if_pos hc]
          have he := stmtsP_fit hx n (stmtsP x n l (s.c % 4) (deep - 1)).2 (1 + s.c / 8 % 2) (deep - 1) (by omega)
          have le := he.len
          have te := he.text
          have hr := stmtsP_fit hx n (stmtsP x n (stmtsP x n l (s.c % 4) (deep - 1)).2 (1 + s.c / 8 % 2) (deep - 1)).2 most deep (by omega)
          exact one _ _ _ _ hb.ok he.ok (fun h => by omega) hb.good he.good (by omega) (by omega) hr
        · simp only [if_neg hc]
          have hr := stmtsP_fit hx n (stmtsP x n l (s.c % 4) (deep - 1)).2 most deep (by omega)
          exact one _ _ _ _ hb.ok .nil (fun h => by omega) hb.good trivial (by simp only [List.length_nil]; omega) (by simp only [Sts.t, List.length_nil]; omega) hr
    · have hr := stmtsP_fit hx n l most deep (by omega)
      exact one [] [] _ _ .nil .nil (fun _ => ⟨rfl, rfl⟩) trivial trivial (by simp) (by simp [Sts.t]) hr
theorem letP_wd (c : UInt8) (hc : isW c = true) (i : Nat) : Wd (letP c i) := wd_two hc (by have : i % 9 < 9 := Nat.mod_lt _ (by decide); omega)
/-- what a declaration that is made is like -/
structure DFit (d : De) : Prop where
  ok : DOk d
  good : d.good
  text : d.t.length ≤ 5000
theorem d_small {d : De} (hs : d.sort ≤ 4) (hb : d.body = []) (hn : d.name.length ≤ 2) (h1 : d.re.natAbs ≤ 1048576) (h2 : d.im.natAbs ≤ 1048576) : d.good ∧ d.t.length ≤ 5000 := by
  refine ⟨⟨h1, h2, by rw [hb]; simp, by rw [hb]; trivial⟩, ?_⟩
  have := numT_len h1 h2
  unfold De.t
  repeat' split
  all_goals simp only [List.length_append, List.length_cons, List.length_nil]
  all_goals omega
theorem tmod_le (a : Int) (b : Nat) (hb : 0 < b) : -(b : Int) < a.tmod b ∧ a.tmod b < b := by
  have h1 := Int.tmod_lt_of_pos a (b := b) (by omega)
  have h2 := Int.lt_tmod_of_pos a (b := b) (by omega)
  exact ⟨h2, h1⟩
theorem makeP_fit {x : Sml} (hx : x.ok) : (∀ d ∈ makeP x, DFit d) ∧ (makeP x).length ≤ 100 := by
  have sm : ∀ {d : De}, DOk d → d.sort ≤ 4 → d.body = [] → d.name.length ≤ 2 → d.re.natAbs ≤ 1048576 → d.im.natAbs ≤ 1048576 → DFit d := fun h1 h2 h3 h4 h5 h6 => ⟨h1, (d_small h2 h3 h4 h5 h6).1, (d_small h2 h3 h4 h5 h6).2⟩
  have thr : ∀ (i : Nat) (l : List SS), l.length ≤ 20 → DFit (thrD x i l) := by
    intro i l hl
    have h := stmtsP_fit hx.th 20 l 100 3 (by omega)
    have h1 := h.len
    have h2 := h.text
    refine ⟨.thr _ (letP_wd _ (by decide) _) h.ok, ⟨by unfold thrD; simp, by unfold thrD; simp, by unfold thrD; simp only; omega, h.good⟩, ?_⟩
    have : De.t (thrD x i l) = [116, 104, 114, 101, 97, 100, 32] ++ letP 116 i ++ blT (Sts.t (stmtsP x 20 l 100 3).1) ++ [10] := rfl
    rw [this]
    simp only [List.length_append, List.length_cons, List.length_nil, letP, blT]
    omega
  have thrs : ∀ (ts : List (List SS)) (i : Nat), (∀ l ∈ ts, l.length ≤ 20) → (∀ d ∈ thrDs x i ts, DFit d) ∧ (thrDs x i ts).length = ts.length := by
    intro ts
    induction ts with
    | nil => exact fun i h => ⟨fun d hd => (by cases hd), rfl⟩
    | cons l ts ih =>
      intro i h
      obtain ⟨g1, g2⟩ := ih (i + 1) (fun l hl => h l (List.mem_cons_of_mem _ hl))
      refine ⟨fun d hd => ?_, by rw [thrDs, List.length_cons, List.length_cons, g2]⟩
      rw [thrDs, List.mem_cons] at hd
      rcases hd with rfl | hd
      · exact thr i l (h l (List.mem_cons_self ..))
      · exact g1 d hd
  have hT : ∀ l ∈ (if x.threads = [] then [[]] else x.threads), l.length ≤ 20 := by
    intro l hl
    split at hl
    · rw [List.mem_singleton] at hl; rw [hl]; simp
    · exact hx.len l hl
  have hTl : (if x.threads = [] then [[]] else x.threads).length ≤ 6 := by
    split
    · simp
    · exact hx.th
  obtain ⟨t1, t2⟩ := thrs _ 0 hT
  have c1 : -4 < x.n.tmod 4 ∧ x.n.tmod 4 < 4 := tmod_le x.n 4 (by decide)
  have c2 : -3 < (x.n.tdiv 16).tmod 3 ∧ (x.n.tdiv 16).tmod 3 < 3 := tmod_le (x.n.tdiv 16) 3 (by decide)
  have hce : x.cells % 3 < 3 := Nat.mod_lt _ (by decide)
  have har : x.array % 4 < 4 := Nat.mod_lt _ (by decide)
  have hmu : x.mutexes % 3 < 3 := Nat.mod_lt _ (by decide)
  have hse : x.sems % 3 < 3 := Nat.mod_lt _ (by decide)
  have hs4 : x.sems / 4 % 3 < 3 := Nat.mod_lt _ (by decide)
  have hbu : x.budget % 24 < 24 := Nat.mod_lt _ (by decide)
  refine ⟨fun d hd => ?_, ?_⟩
  · unfold makeP headD at hd
    simp only [List.mem_append] at hd
    rcases hd with ((((hd | hd) | hd) | hd) | hd) | hd
    · obtain ⟨i, _, rfl⟩ := List.mem_map.1 hd
      exact sm (.num 0 (.inl rfl) _ (letP_wd _ (by decide) _) _ _ ⟨by omega, by omega, by omega, by omega⟩) (show _ ≤ 4 by dsimp only [cellD, mutD, semD]; omega) rfl (Nat.le_refl _) (by simp only [cellD]; omega) (by simp only [cellD]; omega)
    · split at hd
      · rw [List.mem_singleton] at hd
        rw [hd]
        exact sm (.num 1 (.inr (.inl rfl)) _ (wd_one (by decide)) _ _ ⟨by omega, by omega, by omega, by omega⟩) (show _ ≤ 4 by dsimp only; omega) rfl (show _ ≤ 2 by simp) (by simp only; omega) (by simp)
      · cases hd
    · obtain ⟨i, _, rfl⟩ := List.mem_map.1 hd
      exact sm (.mux _ (letP_wd _ (by decide) _)) (show _ ≤ 4 by dsimp only [cellD, mutD, semD]; omega) rfl (Nat.le_refl _) (by simp [mutD]) (by simp [mutD])
    · obtain ⟨i, _, rfl⟩ := List.mem_map.1 hd
      exact sm (.num 3 (.inr (.inr rfl)) _ (letP_wd _ (by decide) _) _ _ ⟨by omega, by omega, by omega, by omega⟩) (show _ ≤ 4 by dsimp only [cellD, mutD, semD]; omega) rfl (Nat.le_refl _) (by simp only [semD]; omega) (by simp [semD])
    · rw [List.mem_singleton] at hd
      rw [hd]
      exact sm (.bud ((1 + x.budget % 24 : Nat) : Int) 0 ⟨by omega, by omega, by omega, by omega⟩) (show _ ≤ 4 by dsimp only; omega) rfl (show _ ≤ 2 by simp) (by simp only; omega) (by simp)
    · exact t1 d hd
  · unfold makeP headD
    simp only [List.length_append, List.length_map, List.length_range, List.length_cons, List.length_nil, t2]
    have : (if 0 < x.array % 4 then [(⟨1, [118], (x.array % 4 : Nat), 0, [], 0⟩ : De)] else []).length ≤ 1 := by split <;> simp
    omega
theorem des_le : ∀ (l : List De), (∀ d ∈ l, DFit d) → (Des.t l).length ≤ 5000 * l.length
  | [], _ => by simp [Des.t]
  | d :: l, h => by
    have h1 := (h d (List.mem_cons_self ..)).text
    have ih := des_le l (fun d hd => h d (List.mem_cons_of_mem _ hd))
    rw [Des.t, List.length_append, List.length_cons]
    omega
theorem makeP_text {x : Sml} (hx : x.ok) : (Des.t (makeP x)).length ≤ 1000000 := by
  obtain ⟨h1, h2⟩ := makeP_fit hx
  have := des_le _ h1
  omega
end Go.Proofs.YtpgcbmmifmnfpaaDoorV
