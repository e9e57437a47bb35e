/- The laws' Tree: appended nodes, small nodes, and the tree by definition. No condition. -/
import Derived.Test.YtnndngoanknemaaN4
namespace Go.Proofs.YtnndngoanknemaaV
open Go Go.RowKit Go.Proofs.YtnndngoanknemaaA
set_option linter.unusedVariables false
set_option linter.unusedSimpArgs false
set_option maxRecDepth 100000

/-! ### appending to a row that may be written -/
section
variable {P : Program} {t e : TypeId} {agg : Bool} {sz : Nat} {st : ASt}
theorem app_nil_mut (h : SlT P t e agg sz) {ns : List AVal} {x : AVal} (hx : srcA P e t agg sz st x = some ns) (hne : ns ≠ []) (hl : ns.length ≤ 1073741824) :
    appendA P true t t .nilSlice x st = some (.slice st.ctr 0 ns.length sz none, st.new (.cells (flatE ns))) := by
  obtain ⟨i, z, hi, rfl, hb, hz, hzk⟩ := h.info
  refine app_of ?_
  unfold appendA0 AVal.nilSlice
  rw [h.elem]
  simp only [hi, h.aggT, hz]
  rw [if_pos ⟨h.pos, hb, hzk⟩, hx]
  simp only
  rw [if_neg hne, if_pos hl]
  rfl

theorem app_slice (h : SlT P t e agg sz) {es ns cs : List AVal} {x : AVal} {s off : Nat} {mt : Bool} (hs : st.heap s = some (.cells cs)) (hc : chunkA P e sz cs off es.length = some es) (he : es.all (elemOk agg sz) = true)
    (hx : srcA P e t agg sz st x = some ns) (hne : ns ≠ []) (hl : es.length + ns.length ≤ 1073741824) :
    appendA P mt t t (.slice s off es.length sz none) x st = some (.slice st.ctr 0 (es ++ ns).length sz none, (st.set s none).new (.cells (flatE (es ++ ns)))) := by
  obtain ⟨i, z, hi, rfl, hb, hz, hzk⟩ := h.info
  refine app_of ?_
  unfold appendA0
  rw [h.elem]
  simp only [hi, h.aggT, hz]
  rw [if_pos ⟨h.pos, hb, hzk⟩, hx]
  simp only
  rw [if_neg hne, if_pos ⟨trivial, hl⟩, hs]
  simp only [hc]
  rw [if_pos he]
  rfl
end

theorem nodeT : SlT E.P 26 53 true 4 := ⟨rfl, rfl, ⟨_, _, rfl, rfl, by decide, rfl, rfl⟩, by decide⟩
theorem nodes_ok (l : List Nd) : (l.map Nd.a).all (elemOk true 4) = true := by
  rw [List.all_eq_true]
  intro x hx
  obtain ⟨n, _, rfl⟩ := List.mem_map.1 hx
  rfl
theorem flatE_nodes : ∀ l : List Nd, flatE (l.map Nd.a) = flatN l
  | [] => rfl
  | n :: l => by
    have := flatE_nodes l
    unfold flatE flatN at *
    rw [List.map_cons, List.flatMap_cons, List.flatMap_cons, this]
    rfl
theorem chunk_nodes (cs : List AVal) : ∀ (l : List Nd) (off : Nat) (pre : List AVal), pre.length = off → chunkA E.P 53 4 (pre ++ (flatN l ++ cs)) off l.length = some (l.map Nd.a)
  | [], off, pre, h => rfl
  | n :: l, off, pre, h => by
    have e0 : partA E.P 53 (pre ++ (flatN (n :: l) ++ cs)) off = if off + 4 ≤ (pre ++ (flatN (n :: l) ++ cs)).length then some (.agg (((pre ++ (flatN (n :: l) ++ cs)).drop off).take 4)) else none := rfl
    have e1 : pre ++ (flatN (n :: l) ++ cs) = (pre ++ n.cs) ++ (flatN l ++ cs) := by
      unfold flatN
      rw [List.flatMap_cons]
      simp
    have e2 : ((pre ++ (flatN (n :: l) ++ cs)).drop off).take 4 = n.cs := by
      rw [e1, ← h, List.append_assoc, List.drop_left]
      rfl
    have e3 : off + 4 ≤ (pre ++ (flatN (n :: l) ++ cs)).length := by
      rw [e1]; simp [h, Nd.cs]
    have ih := chunk_nodes cs l (off + 4) (pre ++ n.cs) (by simp [h, Nd.cs])
    rw [List.length_cons, chunkA, e0, if_pos e3, e2, e1, ih]
    rfl

/-- nodes so far, in a row of their own -/
def Out (st : ASt) (v : AVal) (l : List Nd) : Prop := (v = .nilSlice ∧ l = []) ∨ ∃ s, v = .slice s 0 l.length 4 none ∧ s < st.ctr ∧ st.heap s = some (.cells (flatN l))
theorem Out.ps {st : ASt} {v : AVal} {l : List Nd} (h : Out st v l) : PS st v l := by
  rcases h with ⟨rfl, rfl⟩ | ⟨s, e, h1, h2⟩
  · exact .inr (.inl ⟨none, rfl, rfl⟩)
  · exact .inr (.inr ⟨s, [], e, h1, by rw [List.append_nil]; exact h2⟩)
theorem Out.gr {st st' : ASt} {v : AVal} {l : List Nd} (h : Out st v l) (hg : Gr st st') : Out st' v l := by
  rcases h with h | ⟨s, e, h1, h2⟩
  · exact .inl h
  · exact .inr ⟨s, e, Nat.lt_of_lt_of_le h1 hg.1, by rw [hg.2 s h1]; exact h2⟩

/-- what lies in a block lies in a new one -/
def Fsh (base : ASt) (v : AVal) : Prop := ∀ s o n z c, v = .slice s o n z c → base.ctr ≤ s
theorem out_app {st : ASt} {v : AVal} {l : List Nd} {n : Nd} (h : Out st v l) (hl : l.length ≤ 1000) : ∃ v' st', appendA E.P true 26 26 v (.islice 4 [n.a] .exact) st = some (v', st') ∧ Out st' v' (l ++ [n]) ∧ st.ctr ≤ st'.ctr ∧ ∀ base, Gr base st → Fsh base v → Gr base st' ∧ Fsh base v' := by
  have hx : srcA E.P 53 26 true 4 st (.islice 4 ([n].map Nd.a) .exact) = some ([n].map Nd.a) := src_islice nodeT (nodes_ok [n])
  rcases h with ⟨rfl, rfl⟩ | ⟨s, rfl, h1, h2⟩
  · refine ⟨_, _, app_nil_mut nodeT hx (by simp) (by simp), .inr ⟨st.ctr, rfl, by simp [ASt.new], ?_⟩, by simp [ASt.new], fun base hg _ => ⟨hg.trans (Gr.new _ _), fun s o n z c e => by cases e; exact hg.1⟩⟩
    rw [flatE_nodes]; simp [ASt.new]
  · have hc := chunk_nodes [] l 0 [] rfl
    rw [List.append_nil, List.nil_append] at hc
    have ha := app_slice (mt := true) nodeT (es := l.map Nd.a) h2 (by rw [List.length_map]; exact hc) (nodes_ok l) hx (by simp) (by simp; omega)
    rw [List.length_map] at ha
    refine ⟨_, _, ha, .inr ⟨st.ctr, by simp, by simp [ASt.new], ?_⟩, by simp [ASt.new, ASt.set], fun base hg hf => ⟨⟨?_, fun j hj => ?_⟩, fun s o n z c e => by cases e; exact hg.1⟩⟩
    rotate_left
    · have := hg.1; simp [ASt.new, ASt.set]; omega
    · have h3 := hf _ _ _ _ _ rfl
      have h4 := hg.1
      rw [ASt.new_ne _ _ _ (by simp [ASt.set]; omega), ASt.set_ne _ _ _ _ (by omega), hg.2 j hj]
    rw [← List.map_append, flatE_nodes]
    simp [ASt.new, ASt.set]

/-! ### small nodes -/
structure N8 where
  th : Int
  sl : Int
  so : Int
  kd : Int
def N8.cs (n : N8) : List AVal := [.lit (.int .i8 n.th), .lit (.int .i8 n.sl), .lit (.int .i8 n.so), .lit (.int .i8 n.kd)]
def N8.a (n : N8) : AVal := .agg n.cs
def zero8 : N8 := ⟨0, 0, 0, 0⟩
instance : Inhabited N8 := ⟨zero8⟩
/-- these small nodes -/
def NS (v : AVal) (l : List N8) : Prop := (∃ a, v = .lit (.slice a 0 0) ∧ l = []) ∨ v = .islice 4 (l.map N8.a) .unk

theorem u42 : E.P.underlying 23 = some (.slice 51) := rfl
theorem u52 : E.P.underlying 49 = some (.int .i8) := rfl
theorem c52 : E.P.cellsOf 49 = 1 := rfl
theorem c80 : E.P.cellsOf 51 = 4 := rfl
theorem u80 : ∃ f0 f1 f2 f3, E.P.underlying 51 = some (.struct #[f0, f1, f2, f3]) ∧ f0.type = 49 ∧ f0.offset = 0 ∧ f1.type = 49 ∧ f1.offset = 1 ∧ f2.type = 49 ∧ f2.offset = 2 ∧ f3.type = 49 ∧ f3.offset = 3 := ⟨_, _, _, _, rfl, rfl, rfl, rfl, rfl, rfl, rfl, rfl, rfl⟩

theorem dat_n8 {n : Nat} {r : List AVal} (h : Dat E.P n 51 r) : ∃ nd : N8, ofRow E.P 51 r = nd.a := by
  cases n with
  | zero => cases h
  | succ n =>
    obtain ⟨f0, f1, f2, f3, hu, t0, o0, t1, o1, t2, o2, t3, o3⟩ := u80
    unfold Dat at h
    rw [hu] at h
    obtain ⟨hl, hf⟩ := h
    rw [c80] at hl
    match r, hl with
    | [a, b, c, d], _ =>
      have h0 := hf f0 (by simp)
      have h1 := hf f1 (by simp)
      have h2 := hf f2 (by simp)
      have h3 := hf f3 (by simp)
      rw [t0, o0, c52] at h0
      rw [t1, o1, c52] at h1
      rw [t2, o2, c52] at h2
      rw [t3, o3, c52] at h3
      obtain ⟨i0, e0, _⟩ := dat_int u52 h0
      obtain ⟨i1, e1, _⟩ := dat_int u52 h1
      obtain ⟨i2, e2, _⟩ := dat_int u52 h2
      obtain ⟨i3, e3, _⟩ := dat_int u52 h3
      simp only [List.drop_zero, List.drop_succ_cons, List.take_succ_cons, List.take_zero, List.cons.injEq, and_true] at e0 e1 e2 e3
      subst e0 e1 e2 e3
      exact ⟨⟨i0, i1, i2, i3⟩, rfl⟩

theorem n8_rows {n : Nat} : ∀ rows : List (List AVal), (∀ r ∈ rows, Dat E.P n 51 r) → ∃ l : List N8, rows.map (ofRow E.P 51) = l.map N8.a
  | [], h => ⟨[], rfl⟩
  | r :: rows, h => by
    obtain ⟨l, hl⟩ := n8_rows rows fun x hx => h x (List.mem_cons_of_mem _ hx)
    obtain ⟨nd, e⟩ := dat_n8 (h r (List.mem_cons_self ..))
    exact ⟨nd :: l, by rw [List.map_cons, List.map_cons, hl, e]⟩

theorem datv_ns {n : Nat} {v : AVal} (h : DatV E.P n 23 v) : ∃ l : List N8, NS v l := by
  obtain ⟨cells, h1, _, rfl⟩ := h
  cases n with
  | zero => cases h1
  | succ n =>
    unfold Dat at h1
    rw [u42] at h1
    rcases h1 with ⟨a, rfl⟩ | ⟨rows, rfl, hl, hr⟩
    · exact ⟨[], .inl ⟨a, rfl, rfl⟩⟩
    · obtain ⟨l, e⟩ := n8_rows rows fun r hr' => (hr r hr').2.2
      refine ⟨l, .inr ?_⟩
      show AVal.islice (E.P.cellsOf 51) (rows.map (ofRow E.P 51)) .unk = _
      rw [e, c80]

theorem len_ns {v : AVal} {l : List N8} (h : NS v l) (mt : Bool) (ty : TypeId) (cs : Array Bool) (st : ASt) :
    builtinA E.P mt .len #[23] ty cs [v] st = some (.val (.lit (.int .i64 l.length)) st) := by
  rcases h with ⟨a, rfl, rfl⟩ | rfl
  · rfl
  · rw [len_islice (e := 51) u42]; simp

theorem idx_ns {v : AVal} {l : List N8} (h : NS v l) {i : Nat} (hi : i < l.length) : indexA E.P 23 v (.lit (.int .i64 i)) = some (.iptr l[i].a) := by
  rcases h with ⟨a, rfl, rfl⟩ | rfl
  · simp at hi
  · have : indexA E.P 23 (.islice 4 (l.map N8.a) .unk) (.lit (.int .i64 i)) = if 0 ≤ (i : Int) ∧ (i : Int) < (l.map N8.a).length ∧ (some 4 : Option Nat) = some 4 then ((l.map N8.a)[(i : Int).toNat]?).map .iptr else none := rfl
    rw [this, if_pos ⟨by omega, by simp; omega, rfl⟩]
    simp [hi]

theorem load_n8 (n : N8) (st : ASt) : loadA E.P 51 st (.iptr n.a) = some n.a := rfl
theorem alloc_8 (st : ASt) : allocA E.P 51 st = some (.ptr st.ctr 0, st.new (.cells zero8.cs)) := rfl
theorem build_8 : buildA E.P 51 [] = some zero8.a := rfl

theorem set_same (st : ASt) (s : Nat) (b c : Option Blk) : (st.set s b).set s c = st.set s c := by
  unfold ASt.set
  congr 1
  funext k
  by_cases h : k = s <;> simp [h]

/-- a small node laid down -/
def laid8 (st : ASt) (n : N8) : ASt := (st.new (.cells zero8.cs)).set st.ctr (some (.cells n.cs))
theorem laid8_at (st : ASt) (n : N8) : (laid8 st n).heap st.ctr = some (.cells n.cs) := by simp [laid8, ASt.set]
theorem laid8_ctr (st : ASt) (n : N8) : (laid8 st n).ctr = st.ctr + 1 := rfl
theorem laid8_gr (st : ASt) (n : N8) : Gr st (laid8 st n) :=
  ⟨by simp [laid8, ASt.set, ASt.new], fun j hj => by unfold laid8; rw [ASt.set_ne _ _ _ _ (by omega), ASt.new_ne _ _ _ (by omega)]⟩
theorem store_8 (st : ASt) (n : N8) : storeA E.P 51 (st.new (.cells zero8.cs)) (.ptr st.ctr 0) n.a = some (laid8 st n) := by
  have hs : (st.new (.cells zero8.cs)).heap st.ctr = some (.cells zero8.cs) := by simp [ASt.new]
  have : storeA E.P 51 (st.new (.cells zero8.cs)) (.ptr st.ctr 0) n.a = (match (st.new (.cells zero8.cs)).heap st.ctr with
      | some (.cells cs) => if szOf E.P 51 = some 4 ∧ 0 + 4 ≤ cs.length ∧ true = true then some ((st.new (.cells zero8.cs)).set st.ctr (some (.cells (putL cs 0 n.cs)))) else none
      | _ => none) := rfl
  rw [this, hs]
  rfl
theorem store_88 (st : ASt) (m n : N8) : storeA E.P 51 (laid8 st m) (.ptr st.ctr 0) n.a = some (laid8 st n) := by
  have : storeA E.P 51 (laid8 st m) (.ptr st.ctr 0) n.a = (match (laid8 st m).heap st.ctr with
      | some (.cells cs) => if szOf E.P 51 = some 4 ∧ 0 + 4 ≤ cs.length ∧ true = true then some ((laid8 st m).set st.ctr (some (.cells (putL cs 0 n.cs)))) else none
      | _ => none) := rfl
  rw [this, laid8_at]
  simp only [laid8, set_same]
  rfl
theorem fld8 (s : Nat) : fieldA E.P 51 (.ptr s 0) 0 = some (.ptr s 0) ∧ fieldA E.P 51 (.ptr s 0) 1 = some (.ptr s 1) ∧ fieldA E.P 51 (.ptr s 0) 2 = some (.ptr s 2) ∧ fieldA E.P 51 (.ptr s 0) 3 = some (.ptr s 3) := ⟨rfl, rfl, rfl, rfl⟩
theorem ld8 {st : ASt} {s : Nat} {n : N8} (h : st.heap s = some (.cells n.cs)) :
    loadA E.P 49 st (.ptr s 0) = some (.lit (.int .i8 n.th)) ∧ loadA E.P 49 st (.ptr s 1) = some (.lit (.int .i8 n.sl)) ∧ loadA E.P 49 st (.ptr s 2) = some (.lit (.int .i8 n.so)) ∧ loadA E.P 49 st (.ptr s 3) = some (.lit (.int .i8 n.kd)) := by
  have a1 : ∀ o, loadA E.P 49 st (.ptr s o) = (match st.heap s with | some (.cells cs) => cs[o]? | _ => none) := fun _ => rfl
  rw [a1, a1, a1, a1, h]
  exact ⟨rfl, rfl, rfl, rfl⟩

theorem store_th (st : ASt) (n : Nd) : storeA E.P 3 (laidN st n) (.ptr st.ctr 0) (.lit (.int .i64 0)) = some (laidN st { n with th := 0 }) := by
  have : storeA E.P 3 (laidN st n) (.ptr st.ctr 0) (.lit (.int .i64 0)) = (match (laidN st n).heap st.ctr with
      | some (.cells cs) => if some 1 = some 1 ∧ 0 + 1 ≤ cs.length ∧ true = true then some ((laidN st n).set st.ctr (some (.cells (cs.set 0 (.lit (.int .i64 0)))))) else none
      | _ => none) := rfl
  rw [this, laidN_at]
  simp only [laidN, set_same]
  rfl

/-! ### the tree by definition -/
def u8 (z : Int) : Nat := (z % 256).toNat
theorem u8_lt (z : Int) : u8 z < 256 := by unfold u8; omega
def trN (ns : List N8) (i : Nat) : N8 := ns.getD i zero8
/-- how many kids -/
def trK (ns : List N8) (i op : Nat) : Nat := if 40 < i + op + u8 (trN ns i).kd % 4 ∨ ns.length ≤ i then 0 else u8 (trN ns i).kd % 4
def trX (ns : List N8) (i op : Nat) : Nd := ⟨if i = 0 then 0 else (u8 (trN ns i).th % 6 : Nat), u8 (trN ns i).sl % 64, u8 (trN ns i).so % 64, (trK ns i op : Nat)⟩

theorem trK_lt (ns : List N8) (i op : Nat) : trK ns i op < 4 := by unfold trK; split <;> omega
theorem trX_ok (ns : List N8) (i op : Nat) : ¬ badN (trX ns i op) i := by
  have := trK_lt ns i op
  unfold badN trX
  simp only
  intro h
  split at h <;> omega

/-- what holds of nodes so far -/
structure Tr (out : List Nd) (i op : Nat) : Prop where
  hi : out.length = i
  hop : i + op ≤ 40
  hck : ∀ rest, ck (out ++ rest) 0 1 = ck rest i op
  hkd : ∀ n ∈ out, 0 ≤ n.kd ∧ n.kd ≤ 6

theorem Tr.init : Tr [] 0 1 := ⟨rfl, by decide, fun _ => rfl, fun n hn => by cases hn⟩
theorem Tr.step {ns : List N8} {out : List Nd} {i op : Nat} (h : Tr out i op) (h0 : 0 < op) : Tr (out ++ [trX ns i op]) (i + 1) (op - 1 + trK ns i op) := by
  have hk := trK_lt ns i op
  have hk2 : trK ns i op = 0 ∨ i + op + trK ns i op ≤ 40 := by
    unfold trK
    split
    · exact .inl rfl
    · right; omega
  refine ⟨by rw [List.length_append, h.hi]; rfl, by have := h.hop; omega, fun rest => ?_, fun n hn => ?_⟩
  · rw [List.append_assoc, h.hck, List.singleton_append, ck, if_neg (by omega), if_neg (trX_ok ns i op)]
    congr 1
    show (op : Int) + ((trK ns i op : Nat) - 1) = _
    omega
  · rcases List.mem_append.1 hn with hn | hn
    · exact h.hkd n hn
    · rw [List.mem_singleton] at hn
      subst hn
      show 0 ≤ ((trK ns i op : Nat) : Int) ∧ ((trK ns i op : Nat) : Int) ≤ 6
      omega

end Go.Proofs.YtnndngoanknemaaV
