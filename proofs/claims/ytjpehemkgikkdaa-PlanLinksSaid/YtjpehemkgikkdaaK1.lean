/- The plain law: the parents by a stack are those by definition; a node has as many kids as it says. No condition. -/
import Derived.Test.YtjpehemkgikkdaaN13
namespace Go.Proofs.YtjpehemkgikkdaaV
open Go Go.RowKit Go.Proofs.YtjpehemkgikkdaaA
set_option linter.unusedVariables false
set_option linter.unusedSimpArgs false
set_option maxRecDepth 100000

theorem it_more {g h : Nat → Option Nat} (hgh : ∀ p e, g p = some e → h p = some e) : ∀ (k p e : Nat), it g k p = some e → it h k p = some e
  | 0, p, e, hk => hk
  | k + 1, p, e, hk => by
    rw [it] at hk ⊢
    cases hp : g p with
    | none => rw [hp] at hk; cases hk
    | some x => rw [hp] at hk; rw [hgh p x hp]; exact it_more hgh k x e hk
theorem oneF_more (l : List Nd) : ∀ (f p e : Nat), oneF l f p = some e → oneF l (f + 1) p = some e
  | 0, p, e, h => by cases h
  | f + 1, p, e, h => by
    rw [oneF] at h ⊢
    cases hp : l[p]? with
    | none => rw [hp] at h; cases h
    | some n => rw [hp] at h; exact it_more (oneF_more l f) _ _ _ h
theorem oneF_le (l : List Nd) {f g : Nat} (h : f ≤ g) {p e : Nat} (hp : oneF l f p = some e) : oneF l g p = some e := by
  induction h with
  | refl => exact hp
  | step _ ih => exact oneF_more l _ _ _ ih

/-- what ends at a stack's top: all told of it but its own -/
def Zs (Z : List (Nat × Int)) : Prop := ∀ z ∈ Z, z.2 = 0
theorem popZ_zs : ∀ (Z S : List (Nat × Int)), Zs Z → popZ (Z ++ S) = popZ S
  | [], S, _ => rfl
  | (a, c) :: Z, S, h => by
    have h0 : c = 0 := h (a, c) (by simp)
    rw [List.cons_append, popZ, if_pos h0]
    exact popZ_zs Z S (fun z hz => h z (List.mem_cons_of_mem _ hz))

theorem parSt_step {l : List Nd} {k a : Nat} {c : Int} {R : List (Nat × Int)} (hk : k < l.length) (h : popZ (parSt l k).1 = (a, c) :: R) : (parSt l (k + 1)).1 = (k, l[k].kd) :: (a, c - 1) :: R := by
  rw [parSt, List.getElem?_eq_getElem hk]
  simp only [parStep, h]

/-- so many kids of `a`, from a place on -/
theorem kids_at {l : List Nd} {f a : Nat} (IH : ∀ k e, oneF l f k = some e → ∀ b c R, popZ (parSt l k).1 = (b, c) :: R → k < e ∧ e ≤ l.length ∧ ∃ Z, Zs Z ∧ (parSt l e).1 = Z ++ (b, c - 1) :: R) :
    ∀ (m p e : Nat) (Z R : List (Nat × Int)), p ≤ l.length → it (oneF l f) m p = some e → Zs Z → (parSt l p).1 = Z ++ (a, (m : Int)) :: R →
      p + m ≤ e ∧ e ≤ l.length ∧ (∃ Z', Zs Z' ∧ (parSt l e).1 = Z' ++ (a, 0) :: R) ∧ (∀ j, j < m → ∃ x, it (oneF l f) j p = some x ∧ p + j ≤ x ∧ x < l.length ∧ upAt l x = a)
  | 0, p, e, Z, R, hp, h, hZ, hS => by
    cases h
    exact ⟨Nat.le_refl _, hp, ⟨Z, hZ, hS⟩, fun j hj => by omega⟩
  | m + 1, p, e, Z, R, hp, h, hZ, hS => by
    rw [it] at h
    cases hx : oneF l f p with
    | none => rw [hx] at h; cases h
    | some x =>
      rw [hx] at h
      have hpop : popZ (parSt l p).1 = (a, ((m + 1 : Nat) : Int)) :: R := by
        rw [hS, popZ_zs Z _ hZ, popZ, if_neg (by omega)]
      obtain ⟨h1, h2, Z', hZ', hS'⟩ := IH p x hx a _ R hpop
      obtain ⟨g1, g2, g3, g4⟩ := kids_at IH m x e Z' R h2 h hZ' (by rw [hS']; congr 3; omega)
      refine ⟨by omega, g2, g3, fun j hj => ?_⟩
      cases j with
      | zero => exact ⟨p, rfl, Nat.le_refl _, by omega, by unfold upAt; rw [hpop]⟩
      | succ j =>
        obtain ⟨y, y1, y2, y3, y4⟩ := g4 j (by omega)
        exact ⟨y, by rw [it, hx]; exact y1, by omega, y3, y4⟩

/-- a node and all behind it, on the stack -/
theorem one_stack {l : List Nd} (hk : ∀ nd ∈ l, 0 ≤ nd.kd ∧ nd.kd ≤ 6) : ∀ (f k e : Nat), oneF l f k = some e → ∀ a c R, popZ (parSt l k).1 = (a, c) :: R → k < e ∧ e ≤ l.length ∧ ∃ Z, Zs Z ∧ (parSt l e).1 = Z ++ (a, c - 1) :: R
  | 0, k, e, h, _, _, _, _ => by cases h
  | f + 1, k, e, h, a, c, R, hS => by
    rw [oneF] at h
    cases hn : l[k]? with
    | none => rw [hn] at h; cases h
    | some nd =>
      rw [hn] at h
      have hlt : k < l.length := (List.getElem?_eq_some_iff.1 hn).1
      have hnd : l[k] = nd := (List.getElem?_eq_some_iff.1 hn).2
      have hkd := hk nd (by rw [← hnd]; exact List.getElem_mem hlt)
      have hst := parSt_step hlt hS
      rw [hnd] at hst
      obtain ⟨g1, g2, ⟨Z', hZ', hS'⟩, _⟩ := kids_at (one_stack hk f) nd.kd.toNat (k + 1) e [] ((a, c - 1) :: R) (by omega) h (fun z hz => by cases hz) (by rw [hst, List.nil_append]; congr 2; omega)
      refine ⟨by omega, g2, Z' ++ [(k, 0)], fun z hz => ?_, by rw [hS']; simp⟩
      rcases List.mem_append.1 hz with hz | hz
      · exact hZ' z hz
      · rw [List.mem_singleton] at hz; subst hz; rfl

/-- the `j`-th kid of a node -/
def kidAt (l : List Nd) (y j : Nat) : Option Nat := it (oneF l l.length) j (y + 1)

/-- a node's kids have it as their parent; and there is where its last one ends -/
theorem kids_up {l : List Nd} (hck : ck l 0 1 = (0, 0)) (hk : ∀ nd ∈ l, 0 ≤ nd.kd ∧ nd.kd ≤ 6) {y : Nat} (hy : y < l.length) :
    (∃ e, it (oneF l l.length) l[y].kd.toNat (y + 1) = some e ∧ e ≤ l.length) ∧ ∀ j, j < l[y].kd.toNat → ∃ x, kidAt l y j = some x ∧ y + 1 + j ≤ x ∧ x < l.length ∧ upAt l x = y := by
  have hopen := ck_open hck y (by omega)
  have hpos := open_ne hck hy
  obtain ⟨o1, o2⟩ := open_nonneg hck hk y (by omega)
  obtain ⟨m, hm⟩ : ∃ m : Nat, openAt l y = (m : Int) + 1 := ⟨(openAt l y - 1).toNat, by omega⟩
  rw [hm] at hopen
  obtain ⟨e, h1, h2, h3, _⟩ := one_ck l (l.length + 1) y m (by omega) hopen
  rw [oneF, List.getElem?_eq_getElem hy] at h1
  have hst : ∃ R, (parSt l (y + 1)).1 = (y, l[y].kd) :: R := by
    rw [parSt, List.getElem?_eq_getElem hy]
    simp only [parStep]
    cases popZ (parSt l y).1 with
    | nil => exact ⟨_, rfl⟩
    | cons p r => exact ⟨_, rfl⟩
  obtain ⟨R, hR⟩ := hst
  have hkd := hk _ (List.getElem_mem hy)
  obtain ⟨g1, g2, _, g4⟩ := kids_at (a := y) (one_stack hk l.length) l[y].kd.toNat (y + 1) e [] R (by omega) h1 (fun z hz => by cases hz) (by rw [hR, List.nil_append]; congr 2; omega)
  exact ⟨⟨e, h1, g2⟩, fun j hj => g4 j hj⟩

theorem it_split {g : Nat → Option Nat} : ∀ (m p e x : Nat), it g m p = some e → p ≤ x → x < e → (∀ q y, g q = some y → q < y) → ∃ j q z, j < m ∧ it g j p = some q ∧ g q = some z ∧ q ≤ x ∧ x < z
  | 0, p, e, x, h, h1, h2, hg => by cases h; omega
  | m + 1, p, e, x, h, h1, h2, hg => by
    rw [it] at h
    cases hp : g p with
    | none => rw [hp] at h; cases h
    | some y =>
      rw [hp] at h
      by_cases hxy : x < y
      · exact ⟨0, p, y, by omega, rfl, hp, h1, hxy⟩
      · obtain ⟨j, q, z, a, b, c, d, e'⟩ := it_split m y e x h (by omega) h2 hg
        exact ⟨j + 1, q, z, by omega, by rw [it, hp]; exact b, c, d, e'⟩

theorem it_ge {g : Nat → Option Nat} (hg : ∀ q y, g q = some y → q < y) : ∀ (m p e : Nat), it g m p = some e → p + m ≤ e
  | 0, p, e, h => by cases h; omega
  | m + 1, p, e, h => by
    rw [it] at h
    cases hp : g p with
    | none => rw [hp] at h; cases h
    | some y =>
      rw [hp] at h
      have := it_ge hg m y e h
      have := hg p y hp
      omega
theorem oneF_gt (l : List Nd) : ∀ (f p e : Nat), oneF l f p = some e → p < e
  | 0, p, e, h => by cases h
  | f + 1, p, e, h => by
    rw [oneF] at h
    cases hp : l[p]? with
    | none => rw [hp] at h; cases h
    | some n =>
      rw [hp] at h
      have := it_ge (oneF_gt l f) _ _ _ h
      omega

/-- each node but the first is some node's kid -/
theorem cover {l : List Nd} : ∀ (f k e x : Nat), f ≤ l.length → oneF l f k = some e → k < x → x < e → ∃ y j, y < l.length ∧ j < (l.getD y default).kd.toNat ∧ kidAt l y j = some x
  | 0, k, e, x, _, h, _, _ => by cases h
  | f + 1, k, e, x, hf, h, h1, h2 => by
    rw [oneF] at h
    cases hn : l[k]? with
    | none => rw [hn] at h; cases h
    | some nd =>
      rw [hn] at h
      have hlt : k < l.length := (List.getElem?_eq_some_iff.1 hn).1
      have hnd : l[k] = nd := (List.getElem?_eq_some_iff.1 hn).2
      obtain ⟨j, q, z, a, b, c, d, e'⟩ := it_split _ _ _ x h (by omega) h2 (oneF_gt l f)
      by_cases hq : q = x
      · subst hq
        refine ⟨k, j, hlt, by rw [getD_nd hlt, hnd]; exact a, ?_⟩
        unfold kidAt
        exact it_more (fun p e hp => oneF_le l (by omega) hp) _ _ _ b
      · exact cover f q z x (by omega) c (by omega) e'

/-- a node's kids, by definition -/
def kidsL (l : List Nd) (y : Nat) : List Nat := (List.range l.length).filter fun x => upAt l x = (y : Int)

theorem kid_iff {l : List Nd} (hT : IsTree l) {y x : Nat} (hy : y < l.length) (hx : x < l.length) : upAt l x = (y : Int) ↔ ∃ j, j < l[y].kd.toNat ∧ kidAt l y j = some x := by
  constructor
  · intro h
    have h0 : 0 < x := by
      rcases Nat.eq_zero_or_pos x with e | e
      · subst e; rw [up_zero] at h; omega
      · exact e
    obtain ⟨z, j, hz, hj, hkid⟩ := cover l.length 0 l.length x (Nat.le_refl _) (one_all hT.ok) h0 hx
    rw [getD_nd hz] at hj
    obtain ⟨x', e1, _, _, e4⟩ := (kids_up hT.ok hT.kd hz).2 j hj
    rw [hkid] at e1
    cases e1
    rw [h] at e4
    have : y = z := by omega
    subst this
    exact ⟨j, hj, hkid⟩
  · rintro ⟨j, hj, hkid⟩
    obtain ⟨x', e1, _, _, e4⟩ := (kids_up hT.ok hT.kd hy).2 j hj
    rw [hkid] at e1
    cases e1
    exact e4

theorem it_lt {g : Nat → Option Nat} (hg : ∀ q y, g q = some y → q < y) : ∀ (j j' p x x' : Nat), j < j' → it g j p = some x → it g j' p = some x' → x < x'
  | 0, j' + 1, p, x, x', _, h, h' => by
    cases h
    have := it_ge hg (j' + 1) p x' h'
    omega
  | j + 1, j' + 1, p, x, x', hj, h, h' => by
    rw [it] at h h'
    cases hp : g p with
    | none => rw [hp] at h; cases h
    | some y =>
      rw [hp] at h h'
      exact it_lt hg j j' y x x' (by omega) h h'

/-- a node has as many kids as it says -/
theorem kids_many {l : List Nd} (hT : IsTree l) {y : Nat} (hy : y < l.length) : ((kidsL l y).length : Int) = l[y].kd := by
  have hkd := hT.kd _ (List.getElem_mem hy)
  have hup := (kids_up hT.ok hT.kd hy).2
  have hp : (kidsL l y).Perm ((List.range l[y].kd.toNat).map fun j => (kidAt l y j).getD 0) := by
    refine (List.perm_ext_iff_of_nodup (List.nodup_range.filter _) ?_).2 fun x => ?_
    · rw [List.Nodup, List.pairwise_map]
      refine List.Pairwise.imp_of_mem (fun {a b} ha hb hab => ?_) List.pairwise_lt_range
      rw [List.mem_range] at ha hb
      obtain ⟨x, e1, _⟩ := hup a ha
      obtain ⟨x', e2, _⟩ := hup b hb
      rw [e1, e2, Option.getD_some, Option.getD_some]
      have := it_lt (oneF_gt l l.length) a b _ x x' hab e1 e2
      omega
    · simp only [List.mem_filter, List.mem_range, decide_eq_true_eq, List.mem_map]
      constructor
      · rintro ⟨hx, h⟩
        obtain ⟨j, hj, e⟩ := (kid_iff hT hy hx).1 h
        exact ⟨j, hj, by rw [e]; rfl⟩
      · rintro ⟨j, hj, e⟩
        obtain ⟨x', e1, _, e3, e4⟩ := hup j hj
        rw [e1, Option.getD_some] at e
        subst e
        exact ⟨e3, e4⟩
  have := hp.length_eq
  simp at this
  omega

end Go.Proofs.YtjpehemkgikkdaaV
