/- law 04: a program's text is its alone. No condition. -/
import Derived.Test.YtpgcbmmifmnfpaaDoorM7P
import Derived.Lib.ItoaMem
namespace Go.Proofs.YtpgcbmmifmnfpaaDoorV
open Go Go.RowKit Go.Proofs.YtpgcbmmifmnfpaaDoorA
set_option linter.unusedVariables false
set_option linter.unusedSimpArgs false
set_option maxRecDepth 100000

def isW (c : UInt8) : Bool := (decide (48 ≤ c) && decide (c ≤ 57)) || (decide (97 ≤ c) && decide (c ≤ 122))
/-- no word goes on here -/
def Nw (r : List UInt8) : Prop := ∀ c t, r = c :: t → isW c = false
def Wd (r : List UInt8) : Prop := ∀ c ∈ r, isW c = true
theorem nw_cons {c : UInt8} {r : List UInt8} (h : isW c = false) : Nw (c :: r) := fun _ _ e => by cases e; exact h
theorem word_inj : ∀ {a b r s : List UInt8}, Wd a → Wd b → Nw r → Nw s → a ++ r = b ++ s → a = b ∧ r = s
  | [], [], r, s, _, _, _, _, h => ⟨rfl, h⟩
  | x :: a, [], r, s, ha, _, _, hs, h => by
    have := hs x (a ++ r) h.symm
    rw [ha x (List.mem_cons_self ..)] at this
    cases this
  | [], y :: b, r, s, _, hb, hr, _, h => by
    have := hr y (b ++ s) h
    rw [hb y (List.mem_cons_self ..)] at this
    cases this
  | x :: a, y :: b, r, s, ha, hb, hr, hs, h => by
    rw [List.cons_append, List.cons_append, List.cons.injEq] at h
    obtain ⟨rfl, h⟩ := h
    obtain ⟨rfl, h2⟩ := word_inj (fun c hc => ha c (List.mem_cons_of_mem _ hc)) (fun c hc => hb c (List.mem_cons_of_mem _ hc)) hr hs h
    exact ⟨rfl, h2⟩
/-- numbers and registers -/
def leafE (n : Nat) : Ex := if n < 17 then .mk [] (n : Int) 0 [] [] else if n < 34 then .mk [] 0 ((n - 17 : Nat) : Int) [] [] else .mk [114, 101, 103] 0 0 [UInt8.ofNat (97 + (n - 34))] []
def leafOk (n : Nat) : Bool := decide (n < 37) && decide (n ≠ 17)
theorem leaf_key : (List.range 37).all (fun n => !leafOk n || ((leafE n).t.all isW && decide ((leafE n).t ≠ []) && (List.range 37).all (fun m => !leafOk m || !decide ((leafE n).t = (leafE m).t) || decide (n = m)))) = true := by decide +kernel
theorem leaf_all {n : Nat} (h : leafOk n = true) : ((leafE n).t.all isW && decide ((leafE n).t ≠ []) && (List.range 37).all (fun m => !leafOk m || !decide ((leafE n).t = (leafE m).t) || decide (n = m))) = true := by
  have := List.all_eq_true.1 leaf_key n (List.mem_range.2 (by unfold leafOk at h; simp at h; omega))
  simpa [h] using this
theorem leaf_w {n : Nat} (h : leafOk n = true) : Wd (leafE n).t := by
  have := leaf_all h
  rw [Bool.and_eq_true, Bool.and_eq_true] at this
  exact fun c hc => List.all_eq_true.1 this.1.1 c hc
theorem leaf_ne {n : Nat} (h : leafOk n = true) : (leafE n).t ≠ [] := by
  have := leaf_all h
  rw [Bool.and_eq_true, Bool.and_eq_true] at this
  exact of_decide_eq_true this.1.2
theorem leaf_inj {n m : Nat} (h : leafOk n = true) (h2 : leafOk m = true) (e : (leafE n).t = (leafE m).t) : n = m := by
  have := leaf_all h
  rw [Bool.and_eq_true, Bool.and_eq_true] at this
  have := List.all_eq_true.1 this.2 m (List.mem_range.2 (by unfold leafOk at h2; simp at h2; omega))
  simpa [h2, e] using this
def uops : List (List UInt8) := [[110, 101, 103], [99, 111, 110, 106], [110, 111, 116], [110, 111, 114, 109]]
def bops : List (List UInt8) := [[43], [45], [42], [61, 61], [33, 61], [60]]
/-- expressions that are made -/
inductive EOk : Ex → Prop
  | leaf (n : Nat) (h : leafOk n = true) : EOk (leafE n)
  | un (op : List UInt8) (h : op ∈ uops) {p : Ex} (hp : EOk p) : EOk (.mk op 0 0 [] [p])
  | bin (op : List UInt8) (h : op ∈ bops) {p q : Ex} (hp : EOk p) (hq : EOk q) : EOk (.mk op 0 0 [] [p, q])
def uoC (op : List UInt8) : UInt8 := (uop op).getD 0
theorem un_t {op : List UInt8} (h : op ∈ uops) (p : Ex) : (Ex.mk op 0 0 [] [p]).t = 40 :: uoC op :: (p.t ++ [41]) := by
  simp only [uops, List.mem_cons, List.not_mem_nil, or_false] at h
  rcases h with rfl | rfl | rfl | rfl <;> rfl
theorem bin_t {op : List UInt8} (h : op ∈ bops) (p q : Ex) : (Ex.mk op 0 0 [] [p, q]).t = 40 :: (p.t ++ 32 :: (op ++ 32 :: (q.t ++ [41]))) := by
  simp only [bops, List.mem_cons, List.not_mem_nil, or_false] at h
  have key : (Ex.mk op 0 0 [] [p, q]).t = [40] ++ p.t ++ [32] ++ op ++ [32] ++ q.t ++ [41] := by rcases h with rfl | rfl | rfl | rfl | rfl | rfl <;> rfl
  rw [key]
  simp
theorem uoC_inj {a b : List UInt8} (ha : a ∈ uops) (hb : b ∈ uops) (h : uoC a = uoC b) : a = b := by
  simp only [uops, List.mem_cons, List.not_mem_nil, or_false] at ha hb
  rcases ha with rfl | rfl | rfl | rfl <;> rcases hb with rfl | rfl | rfl | rfl <;> first | rfl | exact absurd h (by decide)
/-- a sign ends with the blank -/
theorem bop_inj {a b r s : List UInt8} (ha : a ∈ bops) (hb : b ∈ bops) (h : a ++ 32 :: r = b ++ 32 :: s) : a = b ∧ r = s := by
  simp only [bops, List.mem_cons, List.not_mem_nil, or_false] at ha hb
  rcases ha with rfl | rfl | rfl | rfl | rfl | rfl <;> rcases hb with rfl | rfl | rfl | rfl | rfl | rfl <;> simp at h <;> first | exact ⟨rfl, h⟩ | exact ⟨rfl, h.2⟩
/-- how an expression's text begins: with a word, or a bracket -/
theorem e_head {e : Ex} (h : EOk e) : ∃ c t, e.t = c :: t ∧ (isW c = true ∨ c = 40) := by
  cases h with
  | leaf n h =>
    cases he : (leafE n).t with
    | nil => exact absurd he (leaf_ne h)
    | cons c t => exact ⟨c, t, rfl, .inl (leaf_w h c (by rw [he]; exact List.mem_cons_self ..))⟩
  | un op h hp => exact ⟨_, _, un_t h _, .inr rfl⟩
  | bin op h hp hq => exact ⟨_, _, bin_t h _ _, .inr rfl⟩
theorem uoC_ne {op : List UInt8} (h : op ∈ uops) : isW (uoC op) = false ∧ uoC op ≠ 40 := by
  simp only [uops, List.mem_cons, List.not_mem_nil, or_false] at h
  rcases h with rfl | rfl | rfl | rfl <;> decide
theorem leaf_br {n : Nat} (h : leafOk n = true) {r s : List UInt8} (e : (leafE n).t ++ r = 40 :: s) : False := by
  obtain ⟨c, t, he, _⟩ := e_head (.leaf n h)
  rw [he, List.cons_append, List.cons.injEq] at e
  have := leaf_w h c (by rw [he]; exact List.mem_cons_self ..)
  rw [e.1] at this
  exact absurd this (by decide)
theorem ub_ne {op : List UInt8} (h : op ∈ uops) {p : Ex} (hp : EOk p) {r s : List UInt8} (e : uoC op :: r = p.t ++ s) : False := by
  obtain ⟨c, t, he, hc⟩ := e_head hp
  rw [he, List.cons_append, List.cons.injEq] at e
  obtain ⟨h1, h2⟩ := uoC_ne h
  rw [e.1] at h1 h2
  rcases hc with hc | hc
  · rw [hc] at h1; cases h1
  · exact h2 hc
theorem nw41 (r : List UInt8) : Nw (41 :: r) := nw_cons (by decide)
theorem nw32 (r : List UInt8) : Nw (32 :: r) := nw_cons (by decide)
theorem e_inj {a : Ex} (ha : EOk a) : ∀ {b : Ex}, EOk b → ∀ {r s : List UInt8}, Nw r → Nw s → a.t ++ r = b.t ++ s → a = b ∧ r = s := by
  induction ha with
  | leaf n h =>
    intro b hb r s hr hs e
    cases hb with
    | leaf m h2 =>
      obtain ⟨e1, e2⟩ := word_inj (leaf_w h) (leaf_w h2) hr hs e
      obtain rfl := leaf_inj h h2 e1
      exact ⟨rfl, e2⟩
    | un op ho hp => rw [un_t ho] at e; exact (leaf_br h e).elim
    | bin op ho hp hq => rw [bin_t ho] at e; exact (leaf_br h e).elim
  | @un op ho p hp ih =>
    intro b hb r s hr hs e
    rw [un_t ho] at e
    cases hb with
    | leaf m h2 => exact (leaf_br h2 e.symm).elim
    | @un op2 ho2 p2 hp2 =>
      rw [un_t ho2] at e
      simp only [List.cons_append, List.cons.injEq, true_and, List.append_assoc, List.nil_append] at e
      obtain ⟨e1, e2⟩ := e
      obtain rfl := uoC_inj ho ho2 e1
      obtain ⟨rfl, e3⟩ := ih hp2 (nw41 _) (nw41 _) e2
      rw [List.cons.injEq] at e3
      exact ⟨rfl, e3.2⟩
    | bin op2 ho2 hp2 hq2 =>
      rw [bin_t ho2] at e
      simp only [List.cons_append, List.cons.injEq, true_and, List.append_assoc, List.nil_append] at e
      exact (ub_ne ho hp2 e).elim
  | @bin op ho p q hp hq ih1 ih2 =>
    intro b hb r s hr hs e
    rw [bin_t ho] at e
    cases hb with
    | leaf m h2 => exact (leaf_br h2 e.symm).elim
    | un op2 ho2 hp2 =>
      rw [un_t ho2] at e
      simp only [List.cons_append, List.cons.injEq, true_and, List.append_assoc, List.nil_append] at e
      exact (ub_ne ho2 hp e.symm).elim
    | @bin op2 ho2 p2 q2 hp2 hq2 =>
      rw [bin_t ho2] at e
      simp only [List.cons_append, List.cons.injEq, true_and, List.append_assoc, List.nil_append] at e
      obtain ⟨rfl, e1⟩ := ih1 hp2 (nw32 _) (nw32 _) e
      rw [List.cons.injEq] at e1
      obtain ⟨rfl, e2⟩ := bop_inj ho ho2 e1.2
      obtain ⟨rfl, e3⟩ := ih2 hq2 (nw41 _) (nw41 _) e2
      rw [List.cons.injEq] at e3
      exact ⟨rfl, e3.2⟩
/-- names, and by what they are indexed -/
inductive NOk : List UInt8 → Bool → List Ex → Prop
  | plain (nm : List UInt8) (h : Wd nm) : NOk nm false []
  | ix (nm : List UInt8) (h : Wd nm) {i : Ex} (hi : EOk i) : NOk nm true [i]
def nmX (nm : List UInt8) (ix : List Ex) : List UInt8 := match ix with
  | [] => nm
  | i :: _ => nm ++ 91 :: (i.t ++ [93])
theorem nm_t {nm : List UInt8} {b : Bool} {ix : List Ex} (h : NOk nm b ix) (vs : List Ex) : nmT nm b ((ix ++ vs).map Ex.t) = nmX nm ix := by
  cases h with
  | plain h => rfl
  | ix h hi =>
    unfold nmT nmX
    simp
theorem al_t {nm : List UInt8} {b : Bool} {ix : List Ex} (h : NOk nm b ix) (vs : List Ex) : alT b ((ix ++ vs).map Ex.t) = Lib.join (vs.map Ex.t) [44, 32] := by
  cases h <;> rfl
def Nb (r : List UInt8) : Prop := Nw r ∧ ∀ t, r ≠ 91 :: t
theorem nb59 (r : List UInt8) : Nb (59 :: r) := ⟨nw_cons (by decide), fun t h => by rw [List.cons.injEq] at h; exact absurd h.1 (by decide)⟩
theorem nb44 (r : List UInt8) : Nb (44 :: r) := ⟨nw_cons (by decide), fun t h => by rw [List.cons.injEq] at h; exact absurd h.1 (by decide)⟩
theorem nw91 (r : List UInt8) : Nw (91 :: r) := nw_cons (by decide)
theorem nw93 (r : List UInt8) : Nw (93 :: r) := nw_cons (by decide)
theorem nm_inj {n m : List UInt8} {b c : Bool} {x y : List Ex} (h : NOk n b x) (h2 : NOk m c y) {r s : List UInt8} (hr : Nb r) (hs : Nb s) (e : nmX n x ++ r = nmX m y ++ s) : n = m ∧ b = c ∧ x = y ∧ r = s := by
  cases h with
  | plain h =>
    cases h2 with
    | plain h2 =>
      obtain ⟨e1, e2⟩ := word_inj h h2 hr.1 hs.1 e
      exact ⟨e1, rfl, rfl, e2⟩
    | ix h2 hi =>
      simp only [nmX, List.cons_append, List.append_assoc, List.nil_append] at e
      obtain ⟨e1, e2⟩ := word_inj h h2 hr.1 (nw91 _) e
      exact (hr.2 _ e2).elim
  | ix h hi =>
    cases h2 with
    | plain h2 =>
      simp only [nmX, List.cons_append, List.append_assoc, List.nil_append] at e
      obtain ⟨e1, e2⟩ := word_inj h h2 (nw91 _) hs.1 e
      exact (hs.2 _ e2.symm).elim
    | ix h2 hi2 =>
      simp only [nmX, List.cons_append, List.append_assoc, List.nil_append] at e
      obtain ⟨rfl, e1⟩ := word_inj h h2 (nw91 _) (nw91 _) e
      rw [List.cons.injEq] at e1
      obtain ⟨rfl, e2⟩ := e_inj hi hi2 (nw93 _) (nw93 _) e1.2
      rw [List.cons.injEq] at e2
      exact ⟨rfl, rfl, rfl, e2.2⟩
mutual
/-- statements that are made -/
inductive SOk : St → Prop
  | set (c : UInt8) (hc : c = 97 ∨ c = 98 ∨ c = 99) {e : Ex} (he : EOk e) : SOk (.mk 0 [c] [] false [e] [] [] 0)
  | gv (k : Nat) (hk : k = 1 ∨ k = 8) (c : UInt8) (hc : c = 97 ∨ c = 98 ∨ c = 99) {nm : List UInt8} {b : Bool} {ix : List Ex} (hn : NOk nm b ix) : SOk (.mk k [c] nm b ix [] [] 0)
  | up (k : Nat) (hk : k = 3 ∨ k = 4) (c : UInt8) (hc : c = 97 ∨ c = 98 ∨ c = 99) {nm : List UInt8} {b : Bool} {ix : List Ex} (hn : NOk nm b ix) {e : Ex} (he : EOk e) : SOk (.mk k [c] nm b (ix ++ [e]) [] [] 0)
  | cas (c : UInt8) (hc : c = 97 ∨ c = 98 ∨ c = 99) {nm : List UInt8} {b : Bool} {ix : List Ex} (hn : NOk nm b ix) {e d : Ex} (he : EOk e) (hd : EOk d) : SOk (.mk 5 [c] nm b (ix ++ [e, d]) [] [] 0)
  | sto {nm : List UInt8} {b : Bool} {ix : List Ex} (hn : NOk nm b ix) {e : Ex} (he : EOk e) : SOk (.mk 2 [] nm b (ix ++ [e]) [] [] 0)
  | ass (k : Nat) (hk : k = 13 ∨ k = 14) {e : Ex} (he : EOk e) : SOk (.mk k [] [] false [e] [] [] 0)
  | blk (k : Nat) (hk : k = 15 ∨ k = 16) {e : Ex} (he : EOk e) {body els : List St} (hb : LOk body) (hl : LOk els) : SOk (.mk k [] [] false [e] body els 0)
  | nam (k : Nat) (hk : k = 6 ∨ k = 7 ∨ 9 ≤ k ∧ k ≤ 12) (nm : List UInt8) (hn : Wd nm) : SOk (.mk k [] nm false [] [] [] 0)
inductive LOk : List St → Prop
  | nil : LOk []
  | cons {s : St} {l : List St} (h : SOk s) (ht : LOk l) : LOk (s :: l)
end
def St.k : St → Nat | .mk k .. => k
theorem set_t (c : UInt8) (e : Ex) : (St.mk 0 [c] [] false [e] [] [] 0).t = c :: 32 :: 61 :: 32 :: (e.t ++ [59, 10]) := by
  rw [St.t_mk]
  simp [stX, alT, Lib.join]
theorem gv_t {k : Nat} (hk : k = 1 ∨ k = 8) (c : UInt8) {nm : List UInt8} {b : Bool} {ix : List Ex} (hn : NOk nm b ix) : (St.mk k [c] nm b ix [] [] 0).t = c :: 32 :: 61 :: 32 :: (kwd k ++ 32 :: (nmX nm ix ++ [59, 10])) := by
  have h := nm_t hn []
  rw [List.append_nil] at h
  rw [St.t_mk, h]
  unfold stX
  rw [if_neg (by omega), if_pos hk]
  simp
theorem up_t {k : Nat} (hk : k = 3 ∨ k = 4) (c : UInt8) {nm : List UInt8} {b : Bool} {ix : List Ex} (hn : NOk nm b ix) (e : Ex) : (St.mk k [c] nm b (ix ++ [e]) [] [] 0).t = c :: 32 :: 61 :: 32 :: (kwd k ++ 32 :: (nmX nm ix ++ 44 :: 32 :: (e.t ++ [59, 10]))) := by
  rw [St.t_mk, nm_t hn, al_t hn]
  unfold stX
  rw [if_neg (by omega), if_neg (by omega), if_pos (by omega)]
  simp [Lib.join]
theorem cas_t (c : UInt8) {nm : List UInt8} {b : Bool} {ix : List Ex} (hn : NOk nm b ix) (e d : Ex) : (St.mk 5 [c] nm b (ix ++ [e, d]) [] [] 0).t = c :: 32 :: 61 :: 32 :: (kwd 5 ++ 32 :: (nmX nm ix ++ 44 :: 32 :: (e.t ++ 44 :: 32 :: (d.t ++ [59, 10])))) := by
  rw [St.t_mk, nm_t hn, al_t hn]
  unfold stX
  rw [if_neg (by omega), if_neg (by omega), if_pos (by omega)]
  simp [Lib.join]
theorem sto_t {nm : List UInt8} {b : Bool} {ix : List Ex} (hn : NOk nm b ix) (e : Ex) : (St.mk 2 [] nm b (ix ++ [e]) [] [] 0).t = kwd 2 ++ 32 :: (nmX nm ix ++ 44 :: 32 :: (e.t ++ [59, 10])) := by
  rw [St.t_mk, nm_t hn, al_t hn]
  unfold stX
  rw [if_neg (by omega), if_neg (by omega), if_neg (by omega), if_pos rfl]
  simp [Lib.join, kwd, kws]
theorem ass_t {k : Nat} (hk : k = 13 ∨ k = 14) (e : Ex) : (St.mk k [] [] false [e] [] [] 0).t = kwd k ++ 32 :: (e.t ++ [59, 10]) := by
  rw [St.t_mk]
  unfold stX
  rw [if_neg (by omega), if_neg (by omega), if_neg (by omega), if_neg (by omega), if_pos hk]
  simp [Lib.join, alT]
def elX (els : List St) : List UInt8 := match els with
  | [] => [10]
  | _ => 32 :: 101 :: 108 :: 115 :: 101 :: 32 :: 123 :: 10 :: (Sts.t els ++ [125, 10])
theorem blk_t {k : Nat} (hk : k = 15 ∨ k = 16) (e : Ex) (body els : List St) : (St.mk k [] [] false [e] body els 0).t = kwd k ++ 32 :: (e.t ++ 32 :: 123 :: 10 :: (Sts.t body ++ 125 :: elX els)) := by
  rw [St.t_mk]
  unfold stX
  rw [if_neg (by omega), if_neg (by omega), if_neg (by omega), if_neg (by omega), if_neg (by omega), if_pos hk]
  cases els with
  | nil => simp [Lib.join, alT, elT, elX, blT]
  | cons s l =>
    have : Sts.t (s :: l) = s.t ++ Sts.t l := rfl
    simp [Lib.join, alT, elT, elX, blT, this]
theorem nam_t {k : Nat} (hk : k = 6 ∨ k = 7 ∨ 9 ≤ k ∧ k ≤ 12) (nm : List UInt8) : (St.mk k [] nm false [] [] [] 0).t = kwd k ++ 32 :: (nm ++ [59, 10]) := by
  rw [St.t_mk]
  unfold stX
  rw [if_neg (by omega), if_neg (by omega), if_neg (by omega), if_neg (by omega), if_neg (by omega), if_neg (by omega)]
  simp [nmT]
theorem tw {w r : List UInt8} (h : Wd w) (hr : Nw r) : (w ++ r).takeWhile isW = w := by
  rw [List.takeWhile_append_of_pos h]
  cases r with
  | nil => simp
  | cons c t => rw [List.takeWhile_cons_of_neg (by rw [hr c t rfl]; decide), List.append_nil]
/-- a statement's kind, by its text -/
def cls (l : List UInt8) : Nat :=
  let k := kws.idxOf (l.takeWhile isW)
  if 1 ≤ k ∧ k ≤ 16 then k else
    let k2 := kws.idxOf ((l.drop 4).takeWhile isW)
    if 1 ≤ k2 ∧ k2 ≤ 16 then k2 else 0
theorem kw_key : (List.range 17).all (fun k => k == 0 || ((kwd k).all isW && kws.idxOf (kwd k) == k && (kwd k).length != 0)) = true := by decide +kernel
theorem kw_all {k : Nat} (h : 1 ≤ k ∧ k ≤ 16) : Wd (kwd k) ∧ kws.idxOf (kwd k) = k ∧ kwd k ≠ [] := by
  have := List.all_eq_true.1 kw_key k (List.mem_range.2 (by omega))
  have h0 : (k == 0) = false := by simp; omega
  rw [h0, Bool.false_or, Bool.and_eq_true, Bool.and_eq_true] at this
  refine ⟨fun c hc => List.all_eq_true.1 this.1.1 c hc, by simpa using this.1.2, fun h => ?_⟩
  rw [h] at this
  exact absurd this.2 (by decide)
theorem cls_kw {k : Nat} (h : 1 ≤ k ∧ k ≤ 16) (r : List UInt8) : cls (kwd k ++ 32 :: r) = k := by
  obtain ⟨h1, h2, _⟩ := kw_all h
  unfold cls
  simp only [tw h1 (nw32 r), h2, if_pos h]
theorem rg_w {c : UInt8} (hc : c = 97 ∨ c = 98 ∨ c = 99) : isW c = true ∧ kws.idxOf [c] = 17 := by
  rcases hc with rfl | rfl | rfl <;> decide
theorem cls_reg {c : UInt8} (hc : c = 97 ∨ c = 98 ∨ c = 99) (r : List UInt8) : cls (c :: 32 :: 61 :: 32 :: r) = (let k2 := kws.idxOf (r.takeWhile isW); if 1 ≤ k2 ∧ k2 ≤ 16 then k2 else 0) := by
  obtain ⟨h1, h2⟩ := rg_w hc
  unfold cls
  have e : (c :: 32 :: 61 :: 32 :: r).takeWhile isW = [c] := by
    have := tw (w := [c]) (r := 32 :: 61 :: 32 :: r) (fun d hd => by rw [List.mem_singleton.1 hd]; exact h1) (nw32 _)
    exact this
  simp only [e, h2]
  rfl
theorem leaf_kw : (List.range 37).all (fun n => decide (¬ (1 ≤ kws.idxOf (leafE n).t ∧ kws.idxOf (leafE n).t ≤ 16))) = true := by decide +kernel
theorem cls_e {e : Ex} (h : EOk e) (r : List UInt8) (hr : Nw r) : (let k2 := kws.idxOf ((e.t ++ r).takeWhile isW); if 1 ≤ k2 ∧ k2 ≤ 16 then k2 else 0) = 0 := by
  have key : ∀ t, (40 :: t).takeWhile isW = ([] : List UInt8) := fun t => List.takeWhile_cons_of_neg (by decide)
  cases h with
  | leaf n h =>
    simp only [tw (leaf_w h) hr]
    have := List.all_eq_true.1 leaf_kw n (List.mem_range.2 (by unfold leafOk at h; simp at h; omega))
    rw [if_neg (of_decide_eq_true this)]
  | un op ho hp => rw [un_t ho]; simp only [List.cons_append, key]; rfl
  | bin op ho hp hq => rw [bin_t ho]; simp only [List.cons_append, key]; rfl
theorem cls_t {a : St} (h : SOk a) (r : List UInt8) : cls (a.t ++ r) = a.k := by
  cases h with
  | set c hc he =>
    rw [set_t]
    simp only [List.cons_append, List.append_assoc, cls_reg hc]
    exact cls_e he _ (nw_cons (by decide))
  | gv k hk c hc hn =>
    have hk2 : 1 ≤ k ∧ k ≤ 16 := by omega
    obtain ⟨h1, h2, _⟩ := kw_all hk2
    rw [gv_t hk c hn]
    simp only [List.cons_append, List.append_assoc, cls_reg hc, tw h1 (nw32 _), h2, if_pos hk2]
    rfl
  | up k hk c hc hn he =>
    have hk2 : 1 ≤ k ∧ k ≤ 16 := by omega
    obtain ⟨h1, h2, _⟩ := kw_all hk2
    rw [up_t hk c hn]
    simp only [List.cons_append, List.append_assoc, cls_reg hc, tw h1 (nw32 _), h2, if_pos hk2]
    rfl
  | cas c hc hn he hd =>
    have hk2 : 1 ≤ 5 ∧ 5 ≤ 16 := by omega
    obtain ⟨h1, h2, _⟩ := kw_all hk2
    rw [cas_t c hn]
    simp only [List.cons_append, List.append_assoc, cls_reg hc, tw h1 (nw32 _), h2, if_pos hk2]
    rfl
  | sto hn he =>
    rw [sto_t hn]
    simp only [List.cons_append, List.append_assoc, cls_kw (show 1 ≤ 2 ∧ 2 ≤ 16 by omega)]
    rfl
  | ass k hk he =>
    rw [ass_t hk]
    simp only [List.cons_append, List.append_assoc, cls_kw (show 1 ≤ k ∧ k ≤ 16 by omega)]
    rfl
  | blk k hk he hb hl =>
    rw [blk_t hk]
    simp only [List.cons_append, List.append_assoc, cls_kw (show 1 ≤ k ∧ k ≤ 16 by omega)]
    rfl
  | nam k hk nm hn =>
    rw [nam_t hk]
    simp only [List.cons_append, List.append_assoc, cls_kw (show 1 ≤ k ∧ k ≤ 16 by omega)]
    rfl
theorem s_head {a : St} (h : SOk a) : ∃ c t, a.t = c :: t ∧ isW c = true := by
  have kw : ∀ {k : Nat} (hk : 1 ≤ k ∧ k ≤ 16) (r : List UInt8), ∃ c t, kwd k ++ r = c :: t ∧ isW c = true := by
    intro k hk r
    obtain ⟨h1, _, h3⟩ := kw_all hk
    cases he : kwd k with
    | nil => exact absurd he h3
    | cons c t => exact ⟨c, t ++ r, rfl, h1 c (by rw [he]; exact List.mem_cons_self ..)⟩
  cases h with
  | set c hc he => exact ⟨_, _, set_t .., (rg_w hc).1⟩
  | gv k hk c hc hn => exact ⟨_, _, gv_t hk c hn, (rg_w hc).1⟩
  | up k hk c hc hn he => exact ⟨_, _, up_t hk c hn _, (rg_w hc).1⟩
  | cas c hc hn he hd => exact ⟨_, _, cas_t c hn _ _, (rg_w hc).1⟩
  | sto hn he => rw [sto_t hn]; exact kw (by omega) _
  | ass k hk he => rw [ass_t hk]; exact kw (by omega) _
  | blk k hk he hb hl => rw [blk_t hk]; exact kw (by omega) _
  | nam k hk nm hn => rw [nam_t hk]; exact kw (by omega) _
theorem nw59 (r : List UInt8) : Nw (59 :: r) := nw_cons (by decide)
theorem nw44 (r : List UInt8) : Nw (44 :: r) := nw_cons (by decide)
theorem Sts.t_cons (s : St) (l : List St) : Sts.t (s :: l) = s.t ++ Sts.t l := rfl
mutual
theorem s_inj : ∀ (a : St), SOk a → ∀ {b : St}, SOk b → ∀ {r s : List UInt8}, a.t ++ r = b.t ++ s → a = b ∧ r = s
  | .mk ka ra na ia ea ba la pa, ha, b, hb, r, s, e => by
    have hk : (St.mk ka ra na ia ea ba la pa).k = b.k := by
      have := congrArg cls e
      rwa [cls_t ha, cls_t hb] at this
    simp only [St.k] at hk
    cases ha with
    | set c hc he => cases hb with
      | set c2 hc2 he2 =>
        rw [set_t, set_t] at e
        simp only [List.cons_append, List.cons.injEq, true_and, List.append_assoc, List.nil_append] at e
        obtain ⟨rfl, e⟩ := e
        obtain ⟨rfl, e1⟩ := e_inj he he2 (nw59 _) (nw59 _) e
        simp only [List.cons.injEq, true_and] at e1
        exact ⟨rfl, e1⟩
      | _ => exfalso; simp only [St.k] at hk; omega
    | gv k hk1 c hc hn => cases hb with
      | gv k2 hk2 c2 hc2 hn2 =>
        simp only [St.k] at hk
        subst hk
        rw [gv_t hk1 _ hn, gv_t hk2 _ hn2] at e
        simp only [List.cons_append, List.cons.injEq, true_and, List.append_assoc, List.nil_append] at e
        obtain ⟨rfl, e⟩ := e
        have e := List.append_cancel_left e
        rw [List.cons.injEq] at e
        obtain ⟨rfl, rfl, rfl, e1⟩ := nm_inj hn hn2 (nb59 _) (nb59 _) e.2
        simp only [List.cons.injEq, true_and] at e1
        exact ⟨rfl, e1⟩
      | _ => exfalso; simp only [St.k] at hk; omega
    | up k hk1 c hc hn he => cases hb with
      | up k2 hk2 c2 hc2 hn2 he2 =>
        simp only [St.k] at hk
        subst hk
        rw [up_t hk1 _ hn, up_t hk2 _ hn2] at e
        simp only [List.cons_append, List.cons.injEq, true_and, List.append_assoc, List.nil_append] at e
        obtain ⟨rfl, e⟩ := e
        have e := List.append_cancel_left e
        rw [List.cons.injEq] at e
        obtain ⟨rfl, rfl, rfl, e1⟩ := nm_inj hn hn2 (nb44 _) (nb44 _) e.2
        simp only [List.cons.injEq, true_and] at e1
        obtain ⟨rfl, e2⟩ := e_inj he he2 (nw59 _) (nw59 _) e1
        simp only [List.cons.injEq, true_and] at e2
        exact ⟨rfl, e2⟩
      | _ => exfalso; simp only [St.k] at hk; omega
    | cas c hc hn he hd => cases hb with
      | cas c2 hc2 hn2 he2 hd2 =>
        rw [cas_t _ hn, cas_t _ hn2] at e
        simp only [List.cons_append, List.cons.injEq, true_and, List.append_assoc, List.nil_append] at e
        obtain ⟨rfl, e⟩ := e
        have e := List.append_cancel_left e
        rw [List.cons.injEq] at e
        obtain ⟨rfl, rfl, rfl, e1⟩ := nm_inj hn hn2 (nb44 _) (nb44 _) e.2
        simp only [List.cons.injEq, true_and] at e1
        obtain ⟨rfl, e2⟩ := e_inj he he2 (nw44 _) (nw44 _) e1
        simp only [List.cons.injEq, true_and] at e2
        obtain ⟨rfl, e3⟩ := e_inj hd hd2 (nw59 _) (nw59 _) e2
        simp only [List.cons.injEq, true_and] at e3
        exact ⟨rfl, e3⟩
      | _ => exfalso; simp only [St.k] at hk; omega
    | sto hn he => cases hb with
      | sto hn2 he2 =>
        rw [sto_t hn, sto_t hn2] at e
        simp only [List.cons_append, List.cons.injEq, true_and, List.append_assoc, List.nil_append] at e
        have e := List.append_cancel_left e
        rw [List.cons.injEq] at e
        obtain ⟨rfl, rfl, rfl, e1⟩ := nm_inj hn hn2 (nb44 _) (nb44 _) e.2
        simp only [List.cons.injEq, true_and] at e1
        obtain ⟨rfl, e2⟩ := e_inj he he2 (nw59 _) (nw59 _) e1
        simp only [List.cons.injEq, true_and] at e2
        exact ⟨rfl, e2⟩
      | _ => exfalso; simp only [St.k] at hk; omega
    | ass k hk1 he => cases hb with
      | ass k2 hk2 he2 =>
        simp only [St.k] at hk
        subst hk
        rw [ass_t hk1, ass_t hk2] at e
        simp only [List.cons_append, List.cons.injEq, true_and, List.append_assoc, List.nil_append] at e
        have e := List.append_cancel_left e
        rw [List.cons.injEq] at e
        obtain ⟨rfl, e2⟩ := e_inj he he2 (nw59 _) (nw59 _) e.2
        simp only [List.cons.injEq, true_and] at e2
        exact ⟨rfl, e2⟩
      | _ => exfalso; simp only [St.k] at hk; omega
    | blk k hk1 he hbo hel => cases hb with
      | @blk k2 hk2 e2 he2 body els hbo2 hel2 =>
        simp only [St.k] at hk
        subst hk
        rw [blk_t hk1, blk_t hk2] at e
        simp only [List.cons_append, List.cons.injEq, true_and, List.append_assoc, List.nil_append] at e
        have e := List.append_cancel_left e
        rw [List.cons.injEq] at e
        obtain ⟨rfl, e2⟩ := e_inj he he2 (nw32 _) (nw32 _) e.2
        simp only [List.cons.injEq, true_and] at e2
        obtain ⟨rfl, e3⟩ := l_inj ba hbo hbo2 e2
        cases la with
        | nil => cases els with
          | nil =>
            simp only [elX, List.cons_append, List.nil_append, List.cons.injEq, true_and] at e3
            exact ⟨rfl, e3⟩
          | cons y l2 =>
            simp only [elX, List.cons_append, List.nil_append, List.cons.injEq] at e3
            exact absurd e3.1 (by decide)
        | cons x l => cases els with
          | nil =>
            simp only [elX, List.cons_append, List.nil_append, List.cons.injEq] at e3
            exact absurd e3.1 (by decide)
          | cons y l2 =>
            simp only [elX, List.cons_append, List.append_assoc, List.nil_append, List.cons.injEq, true_and] at e3
            obtain ⟨e4, e5⟩ := l_inj (x :: l) hel hel2 e3
            simp only [List.cons.injEq, true_and] at e5
            rw [e4]
            exact ⟨rfl, e5⟩
      | _ => exfalso; simp only [St.k] at hk; omega
    | nam k hk1 nm hn => cases hb with
      | nam k2 hk2 nm2 hn2 =>
        simp only [St.k] at hk
        subst hk
        rw [nam_t hk1, nam_t hk2] at e
        simp only [List.cons_append, List.cons.injEq, true_and, List.append_assoc, List.nil_append] at e
        have e := List.append_cancel_left e
        rw [List.cons.injEq] at e
        obtain ⟨rfl, e2⟩ := word_inj hn hn2 (nw59 _) (nw59 _) e.2
        simp only [List.cons.injEq, true_and] at e2
        exact ⟨rfl, e2⟩
      | _ => exfalso; simp only [St.k] at hk; omega
theorem l_inj : ∀ (a : List St), LOk a → ∀ {b : List St}, LOk b → ∀ {r s : List UInt8}, Sts.t a ++ 125 :: r = Sts.t b ++ 125 :: s → a = b ∧ r = s
  | [], _, b, hb, r, s, e => by
    cases hb with
    | nil =>
      simp only [Sts.t, List.nil_append, List.cons.injEq, true_and] at e
      exact ⟨rfl, e⟩
    | cons h ht =>
      obtain ⟨c, t, hc, hw⟩ := s_head h
      rw [Sts.t_cons, hc] at e
      simp only [Sts.t, List.nil_append, List.cons_append, List.cons.injEq] at e
      rw [← e.1] at hw
      exact absurd hw (by decide)
  | x :: a, ha, b, hb, r, s, e => by
    cases ha with
    | cons h ht =>
      cases hb with
      | nil =>
        obtain ⟨c, t, hc, hw⟩ := s_head h
        rw [Sts.t_cons, hc] at e
        simp only [Sts.t, List.nil_append, List.cons_append, List.cons.injEq] at e
        rw [e.1] at hw
        exact absurd hw (by decide)
      | cons h2 ht2 =>
        rw [Sts.t_cons, Sts.t_cons, List.append_assoc, List.append_assoc] at e
        obtain ⟨rfl, e1⟩ := s_inj x h h2 e
        obtain ⟨rfl, e2⟩ := l_inj a ht ht2 e1
        exact ⟨rfl, e2⟩
end
theorem til_inj (c : UInt8) : ∀ {a b r s : List UInt8}, (∀ x ∈ a, x ≠ c) → (∀ x ∈ b, x ≠ c) → a ++ c :: r = b ++ c :: s → a = b ∧ r = s
  | [], [], r, s, _, _, h => by rw [List.nil_append, List.nil_append, List.cons.injEq] at h; exact ⟨rfl, h.2⟩
  | x :: a, [], r, s, ha, _, h => by
    rw [List.nil_append, List.cons_append, List.cons.injEq] at h
    exact absurd h.1 (ha x (List.mem_cons_self ..))
  | [], y :: b, r, s, _, hb, h => by
    rw [List.nil_append, List.cons_append, List.cons.injEq] at h
    exact absurd h.1.symm (hb y (List.mem_cons_self ..))
  | x :: a, y :: b, r, s, ha, hb, h => by
    rw [List.cons_append, List.cons_append, List.cons.injEq] at h
    obtain ⟨rfl, h⟩ := h
    obtain ⟨rfl, h2⟩ := til_inj c (fun c hc => ha c (List.mem_cons_of_mem _ hc)) (fun c hc => hb c (List.mem_cons_of_mem _ hc)) h
    exact ⟨rfl, h2⟩
def digV (l : List UInt8) : Int := l.foldl (fun n c => 10 * n + ((c.toNat - 48 : Nat) : Int)) 0
def valV (l : List UInt8) : Int := match l with
  | [] => 0
  | c :: t => if c = 45 then - digV t else digV (c :: t)
def notS (c : UInt8) : Bool := decide (c ≠ 43) && decide (c ≠ 45)
/-- a number of its text -/
def numR (l : List UInt8) : Int × Int :=
  if l.getLast? = some 105 then match l.dropLast with
    | [] => (0, 0)
    | c :: t =>
      let b := t.dropWhile notS
      if b = [] then (0, valV (c :: t)) else (valV (c :: t.takeWhile notS), valV (if b.head? = some 43 then b.tail else b))
  else (valV l, 0)
def numOk (re im : Int) : Prop := -24 ≤ re ∧ re ≤ 24 ∧ -2 ≤ im ∧ im ≤ 2
theorem num_key : (List.range 49).all (fun a => (List.range 5).all fun b => decide (numR (numT ((a : Int) - 24) ((b : Int) - 2)) = ((a : Int) - 24, (b : Int) - 2)) && (numT ((a : Int) - 24) ((b : Int) - 2)).all (fun c => decide (c ≠ 59))) = true := by decide +kernel
theorem num_all {re im : Int} (h : numOk re im) : numR (numT re im) = (re, im) ∧ ∀ c ∈ numT re im, c ≠ 59 := by
  obtain ⟨h1, h2, h3, h4⟩ := h
  obtain ⟨a, ha⟩ : ∃ a : Nat, re = (a : Int) - 24 := ⟨(re + 24).toNat, by omega⟩
  obtain ⟨b, hb⟩ : ∃ b : Nat, im = (b : Int) - 2 := ⟨(im + 2).toNat, by omega⟩
  have h5 := List.all_eq_true.1 (List.all_eq_true.1 num_key a (List.mem_range.2 (by omega))) b (List.mem_range.2 (by omega))
  rw [← ha, ← hb, Bool.and_eq_true] at h5
  exact ⟨of_decide_eq_true h5.1, fun c hc => of_decide_eq_true (List.all_eq_true.1 h5.2 c hc)⟩
theorem num_inj {re im re2 im2 : Int} (h : numOk re im) (h2 : numOk re2 im2) {r s : List UInt8} (e : numT re im ++ 59 :: r = numT re2 im2 ++ 59 :: s) : re = re2 ∧ im = im2 ∧ r = s := by
  obtain ⟨e1, e2⟩ := til_inj 59 (num_all h).2 (num_all h2).2 e
  have := congrArg numR e1
  rw [(num_all h).1, (num_all h2).1] at this
  cases this
  exact ⟨rfl, rfl, e2⟩
/-- declarations that are made -/
inductive DOk : De → Prop
  | num (k : Nat) (hk : k = 0 ∨ k = 1 ∨ k = 3) (nm : List UInt8) (hn : Wd nm) (re im : Int) (h : numOk re im) : DOk ⟨k, nm, re, im, [], 0⟩
  | mux (nm : List UInt8) (hn : Wd nm) : DOk ⟨2, nm, 0, 0, [], 0⟩
  | bud (re im : Int) (h : numOk re im) : DOk ⟨4, [], re, im, [], 0⟩
  | thr (nm : List UInt8) (hn : Wd nm) {body : List St} (hb : LOk body) : DOk ⟨5, nm, 0, 0, body, 0⟩
def swd (k : Nat) : List UInt8 := (sws[k]?).getD []
theorem sw_key : (List.range 6).all (fun k => (swd k).all isW && sws.idxOf (swd k) == k) = true := by decide +kernel
theorem sw_all {k : Nat} (h : k < 6) : Wd (swd k) ∧ sws.idxOf (swd k) = k := by
  have := List.all_eq_true.1 sw_key k (List.mem_range.2 (by omega))
  rw [Bool.and_eq_true] at this
  exact ⟨fun c hc => List.all_eq_true.1 this.1 c hc, by simpa using this.2⟩
theorem dn_t {k : Nat} (hk : k = 0 ∨ k = 1 ∨ k = 3) (nm : List UInt8) (re im : Int) : De.t ⟨k, nm, re, im, [], 0⟩ = swd k ++ 32 :: (nm ++ 32 :: (numT re im ++ [59, 10])) := by
  rcases hk with rfl | rfl | rfl <;> simp [De.t, swd, sws]
theorem dm_t (nm : List UInt8) : De.t ⟨2, nm, 0, 0, [], 0⟩ = swd 2 ++ 32 :: (nm ++ [59, 10]) := by simp [De.t, swd, sws]
theorem db_t (re im : Int) : De.t ⟨4, [], re, im, [], 0⟩ = swd 4 ++ 32 :: (numT re im ++ [59, 10]) := by simp [De.t, swd, sws]
theorem dt_t (nm : List UInt8) (body : List St) : De.t ⟨5, nm, 0, 0, body, 0⟩ = swd 5 ++ 32 :: (nm ++ 32 :: 123 :: 10 :: (Sts.t body ++ [125, 10])) := by simp [De.t, swd, sws, blT]
def dcl (l : List UInt8) : Nat := sws.idxOf (l.takeWhile isW)
theorem dcl_sw {k : Nat} (h : k < 6) (r : List UInt8) : dcl (swd k ++ 32 :: r) = k := by
  obtain ⟨h1, h2⟩ := sw_all h
  unfold dcl
  rw [tw h1 (nw32 r), h2]
theorem dcl_t {d : De} (h : DOk d) (r : List UInt8) : dcl (d.t ++ r) = d.sort := by
  cases h with
  | num k hk nm hn re im h => rw [dn_t hk, List.append_assoc, List.cons_append, dcl_sw (by omega)]
  | mux nm hn => rw [dm_t, List.append_assoc, List.cons_append, dcl_sw (by omega)]
  | bud re im h => rw [db_t, List.append_assoc, List.cons_append, dcl_sw (by omega)]
  | thr nm hn hb => rw [dt_t, List.append_assoc, List.cons_append, dcl_sw (by omega)]
theorem d_ne {d : De} (h : DOk d) : d.t ≠ [] := by
  intro he
  have e : ∀ {k : Nat} (r : List UInt8), swd k ++ 32 :: r ≠ [] := fun r h => by simp at h
  cases h with
  | num k hk nm hn re im h => rw [dn_t hk] at he; exact e _ he
  | mux nm hn => rw [dm_t] at he; exact e _ he
  | bud re im h => rw [db_t] at he; exact e _ he
  | thr nm hn hb => rw [dt_t] at he; exact e _ he
theorem d_inj {a b : De} (ha : DOk a) (hb : DOk b) {r s : List UInt8} (e : a.t ++ r = b.t ++ s) : a = b ∧ r = s := by
  have hk : a.sort = b.sort := by
    have := congrArg dcl e
    rwa [dcl_t ha, dcl_t hb] at this
  cases ha with
  | num k hk1 nm hn re im h => cases hb with
    | num k2 hk2 nm2 hn2 re2 im2 h2 =>
      simp only at hk
      subst hk
      rw [dn_t hk1, dn_t hk2] at e
      simp only [List.cons_append, List.cons.injEq, true_and, List.append_assoc, List.nil_append] at e
      have e := List.append_cancel_left e
      rw [List.cons.injEq] at e
      obtain ⟨rfl, e2⟩ := word_inj hn hn2 (nw32 _) (nw32 _) e.2
      simp only [List.cons.injEq, true_and] at e2
      obtain ⟨rfl, rfl, e3⟩ := num_inj h h2 e2
      simp only [List.cons.injEq, true_and] at e3
      exact ⟨rfl, e3⟩
    | _ => exfalso; simp only at hk; omega
  | mux nm hn => cases hb with
    | mux nm2 hn2 =>
      rw [dm_t, dm_t] at e
      simp only [List.cons_append, List.cons.injEq, true_and, List.append_assoc, List.nil_append] at e
      have e := List.append_cancel_left e
      rw [List.cons.injEq] at e
      obtain ⟨rfl, e2⟩ := word_inj hn hn2 (nw59 _) (nw59 _) e.2
      simp only [List.cons.injEq, true_and] at e2
      exact ⟨rfl, e2⟩
    | _ => exfalso; simp only at hk; omega
  | bud re im h => cases hb with
    | bud re2 im2 h2 =>
      rw [db_t, db_t] at e
      simp only [List.cons_append, List.cons.injEq, true_and, List.append_assoc, List.nil_append] at e
      have e := List.append_cancel_left e
      rw [List.cons.injEq] at e
      obtain ⟨rfl, rfl, e3⟩ := num_inj h h2 e.2
      simp only [List.cons.injEq, true_and] at e3
      exact ⟨rfl, e3⟩
    | _ => exfalso; simp only at hk; omega
  | thr nm hn hbo => cases hb with
    | thr nm2 hn2 hbo2 =>
      rw [dt_t, dt_t] at e
      simp only [List.cons_append, List.cons.injEq, true_and, List.append_assoc, List.nil_append] at e
      have e := List.append_cancel_left e
      rw [List.cons.injEq] at e
      obtain ⟨rfl, e2⟩ := word_inj hn hn2 (nw32 _) (nw32 _) e.2
      simp only [List.cons.injEq, true_and] at e2
      obtain ⟨rfl, e3⟩ := l_inj _ hbo hbo2 e2
      simp only [List.cons.injEq, true_and] at e3
      exact ⟨rfl, e3⟩
    | _ => exfalso; simp only at hk; omega
/-- a program's text is its alone -/
theorem prog_inj : ∀ {a b : List De}, (∀ d ∈ a, DOk d) → (∀ d ∈ b, DOk d) → Des.t a = Des.t b → a = b
  | [], [], _, _, _ => rfl
  | [], y :: b, _, hb, e => by
    have h := d_ne (hb y (List.mem_cons_self ..))
    have e2 : y.t ++ Des.t b = [] := e.symm
    exact absurd (List.append_eq_nil_iff.1 e2).1 h
  | x :: a, [], ha, _, e => by
    have h := d_ne (ha x (List.mem_cons_self ..))
    have e2 : x.t ++ Des.t a = [] := e
    exact absurd (List.append_eq_nil_iff.1 e2).1 h
  | x :: a, y :: b, ha, hb, e => by
    have e2 : x.t ++ Des.t a = y.t ++ Des.t b := e
    obtain ⟨rfl, e3⟩ := d_inj (ha x (List.mem_cons_self ..)) (hb y (List.mem_cons_self ..)) e2
    rw [prog_inj (fun d hd => ha d (List.mem_cons_of_mem _ hd)) (fun d hd => hb d (List.mem_cons_of_mem _ hd)) e3]
end Go.Proofs.YtpgcbmmifmnfpaaDoorV
