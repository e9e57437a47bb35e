/- law 04: arguments; whether they are small enough, walked; its fixed fact behind two boxes. No condition. -/
import Derived.Test.YtpgcbmmifmnfpaaDoorM4S
import Derived.Test.YtpgcbmmifmnfpaaDoorDV
namespace Go.Proofs.YtpgcbmmifmnfpaaDoorV
open Go Go.RowKit Go.Proofs.YtpgcbmmifmnfpaaDoorA
set_option linter.unusedVariables false
set_option linter.unusedSimpArgs false
set_option maxRecDepth 100000

/-! ### arguments -/
/-- a structure's fields of one cell each -/
theorem dv_row {n : Nat} {t : TypeId} {tys : List TypeId} {r : List AVal} (hu : ∃ fs, E.P.underlying t = some (.struct fs) ∧ fs.toList.map (fun f => (f.type, f.offset)) = tys.zipIdx) (hone : ∀ ty ∈ tys, E.P.cellsOf ty = 1) (h : Dat E.P (n + 1) t r) :
    r.length = E.P.cellsOf t ∧ ∀ (i : Nat) (ty : TypeId) (x : AVal), tys[i]? = some ty → r[i]? = some x → Dat E.P n ty [x] := by
  obtain ⟨fs, hu, hm⟩ := hu
  unfold Dat at h
  rw [hu] at h
  refine ⟨h.1, fun i ty x hi hx => ?_⟩
  have e : (fs.toList.map (fun f => (f.type, f.offset)))[i]? = some (ty, i) := by rw [hm, List.getElem?_zipIdx, hi]; simp
  rw [List.getElem?_map] at e
  obtain ⟨f, hf, he⟩ := Option.map_eq_some_iff.1 e
  simp only [Prod.mk.injEq] at he
  have := h.2 f (List.mem_of_getElem? hf)
  rw [he.1, he.2, hone ty (List.mem_of_getElem? hi)] at this
  have e2 : (r.drop i).take 1 = [x] := by
    obtain ⟨hlt, rfl⟩ := List.getElem?_eq_some_iff.1 hx
    rw [List.drop_eq_getElem_cons hlt]
    rfl
  rwa [e2] at this
theorem nat_u8 {n : Nat} {x : AVal} (h : Dat E.P n 5 [x]) : ∃ i : Nat, x = .lit (.int .u8 (i : Int)) ∧ i < 256 := by
  obtain ⟨i, e, h1, h2⟩ := dv_int0 (k := .u8) rfl h
  cases e
  have e1 : IntKind.u8.min = 0 := rfl
  have e2 : IntKind.u8.max = 255 := rfl
  exact ⟨i.toNat, by rw [Int.toNat_of_nonneg (by omega)], by omega⟩
theorem int_i8 {n : Nat} {x : AVal} (h : Dat E.P n 30 [x]) : ∃ i : Int, x = .lit (.int .i8 i) ∧ -128 ≤ i ∧ i ≤ 127 := by
  obtain ⟨i, e, h1, h2⟩ := dv_int0 (k := .i8) rfl h
  cases e
  exact ⟨i, rfl, h1, h2⟩
theorem c_u8 : E.P.cellsOf 5 = 1 := by kernel_rfl
theorem c_i8 : E.P.cellsOf 30 = 1 := by kernel_rfl
theorem c_S : E.P.cellsOf 81 = 5 := by kernel_rfl
theorem c_Ss : E.P.cellsOf 53 = 1 := by kernel_rfl
theorem c_Sss : E.P.cellsOf 31 = 1 := by kernel_rfl
theorem c_Sm : E.P.cellsOf 33 = 7 := by kernel_rfl
theorem ss_one {n : Nat} {r : List AVal} (h : Dat E.P (n + 1) 81 r) : ∃ s : SS, r = s.v.cells ∧ s.ok := by
  obtain ⟨hl, hf⟩ := dv_row (tys := [5, 5, 5, 5, 30]) ⟨_, rfl, rfl⟩ (by
    intro ty h
    simp only [List.mem_cons, List.not_mem_nil, or_false] at h
    rcases h with rfl | rfl | rfl | rfl | rfl <;> first | exact c_u8 | exact c_i8) h
  rw [c_S] at hl
  match r, hl with
  | [a, b, c, d, e], _ =>
    obtain ⟨a', rfl, ha⟩ := nat_u8 (hf 0 _ _ rfl rfl)
    obtain ⟨b', rfl, hb⟩ := nat_u8 (hf 1 _ _ rfl rfl)
    obtain ⟨c', rfl, hc⟩ := nat_u8 (hf 2 _ _ rfl rfl)
    obtain ⟨d', rfl, hd⟩ := nat_u8 (hf 3 _ _ rfl rfl)
    obtain ⟨e', rfl, h1, h2⟩ := int_i8 (hf 4 _ _ rfl rfl)
    exact ⟨⟨a', b', c', d', e'⟩, rfl, ⟨ha, hb, hc, hd, h1, h2⟩⟩
theorem ss_rows {n : Nat} : ∀ rows : List (List AVal), (∀ r ∈ rows, Dat E.P (n + 1) 81 r) → ∃ l : List SS, rows.map (ofRow E.P 81) = l.map SS.v ∧ ∀ s ∈ l, s.ok
  | [], _ => ⟨[], rfl, fun m h => by cases h⟩
  | r :: rows, h => by
    obtain ⟨s, rfl, h1⟩ := ss_one (h r (List.mem_cons_self ..))
    obtain ⟨l, e, hb⟩ := ss_rows rows fun r hr => h r (List.mem_cons_of_mem _ hr)
    refine ⟨s :: l, ?_, fun x hx => ?_⟩
    · rw [List.map_cons, List.map_cons, e]; rfl
    · rcases List.mem_cons.1 hx with rfl | hx
      · exact h1
      · exact hb x hx
theorem ss_dat {n : Nat} {cells : List AVal} (h : Dat E.P (n + 2) 53 cells) : ∃ v l, cells = [v] ∧ RS v l ∧ (∀ s ∈ l, s.ok) ∧ v.isCell = true := by
  have hu : E.P.underlying 53 = some (.slice 81) := rfl
  unfold Dat at h
  rw [hu] at h
  rcases h with ⟨a, rfl⟩ | ⟨rows, rfl, _, hr⟩
  · exact ⟨_, [], rfl, .inl ⟨a, rfl, rfl⟩, (fun m h => by cases h), rfl⟩
  · obtain ⟨l, e, hb⟩ := ss_rows rows fun r hr' => (hr r hr').2.2
    refine ⟨_, l, rfl, .inr ⟨.unk, ?_⟩, hb, rfl⟩
    rw [e, c_S]
theorem ths_rows {n : Nat} : ∀ rows : List (List AVal), (∀ r ∈ rows, Dat E.P (n + 2) 53 r) → ∃ ts : List (List SS), Ths (rows.map (ofRow E.P 53)) ts ∧ ∀ l ∈ ts, ∀ s ∈ l, s.ok
  | [], _ => ⟨[], ⟨rfl, fun i v l h => by simp at h⟩, fun m h => by cases h⟩
  | r :: rows, h => by
    obtain ⟨v, l, rfl, h1, h2, h3⟩ := ss_dat (h r (List.mem_cons_self ..))
    obtain ⟨ts, ⟨e1, e2⟩, hb⟩ := ths_rows rows fun r hr => h r (List.mem_cons_of_mem _ hr)
    refine ⟨l :: ts, ⟨by simp only [List.map_cons, List.length_cons, e1], fun i w m hw hm => ?_⟩, fun m hm => ?_⟩
    · cases i with
      | zero =>
        rw [List.map_cons, List.getElem?_cons_zero, dv_one (by unfold rowB; rfl)] at hw
        cases hw
        cases hm
        exact ⟨h1, h3⟩
      | succ i => exact e2 i w m hw hm
    · rcases List.mem_cons.1 hm with rfl | hm
      · exact h2
      · exact hb m hm
/-- a program by small numbers, as it is handed in -/
structure SmlA (x : Sml) : Prop where
  cells : x.cells < 256
  array : x.array < 256
  mutexes : x.mutexes < 256
  sems : x.sems < 256
  budget : x.budget < 256
  n : -128 ≤ x.n ∧ x.n ≤ 127
  s : ∀ l ∈ x.threads, ∀ s ∈ l, s.ok
theorem small_of {n : Nat} {v : AVal} (h : DatV E.P (n + 4) 33 v) : ∃ x vth, v = .agg (x.cs vth) ∧ ThV vth x.threads ∧ SmlA x := by
  obtain ⟨cells, h1, _, rfl⟩ := h
  obtain ⟨hl, hf⟩ := dv_row (tys := [5, 5, 5, 5, 5, 30, 31]) ⟨_, rfl, rfl⟩ (by
    intro ty h
    simp only [List.mem_cons, List.not_mem_nil, or_false] at h
    rcases h with rfl | rfl | rfl | rfl | rfl | rfl | rfl <;> first | exact c_u8 | exact c_i8 | exact c_Sss) h1
  rw [c_Sm] at hl
  match cells, hl with
  | [a, b, c, d, e, f, g], _ =>
    obtain ⟨a', rfl, ha⟩ := nat_u8 (hf 0 _ _ rfl rfl)
    obtain ⟨b', rfl, hb⟩ := nat_u8 (hf 1 _ _ rfl rfl)
    obtain ⟨c', rfl, hc⟩ := nat_u8 (hf 2 _ _ rfl rfl)
    obtain ⟨d', rfl, hd⟩ := nat_u8 (hf 3 _ _ rfl rfl)
    obtain ⟨e', rfl, he⟩ := nat_u8 (hf 4 _ _ rfl rfl)
    obtain ⟨f', rfl, hf1, hf2⟩ := int_i8 (hf 5 _ _ rfl rfl)
    have hg := hf 6 _ _ rfl rfl
    have hu : E.P.underlying 31 = some (.slice 53) := rfl
    unfold Dat at hg
    rw [hu] at hg
    have hrow : ofRow E.P 33 [.lit (.int .u8 (a' : Int)), .lit (.int .u8 (b' : Int)), .lit (.int .u8 (c' : Int)), .lit (.int .u8 (d' : Int)), .lit (.int .u8 (e' : Int)), .lit (.int .i8 f'), g] = .agg [.lit (.int .u8 (a' : Int)), .lit (.int .u8 (b' : Int)), .lit (.int .u8 (c' : Int)), .lit (.int .u8 (d' : Int)), .lit (.int .u8 (e' : Int)), .lit (.int .i8 f'), g] := rfl
    rw [hrow]
    rcases hg with ⟨ad, hg⟩ | ⟨rows, hg, _, hr⟩
    · cases hg
      exact ⟨⟨a', b', c', d', e', f', []⟩, _, rfl, .inl ⟨ad, rfl, rfl⟩, ha, hb, hc, hd, he, ⟨hf1, hf2⟩, fun l h => by cases h⟩
    · cases hg
      obtain ⟨ts, h1, h2⟩ := ths_rows rows fun r hr' => (hr r hr').2.2
      exact ⟨⟨a', b', c', d', e', f', ts⟩, _, rfl, .inr ⟨_, _, by rw [c_Ss], h1⟩, ha, hb, hc, hd, he, ⟨hf1, hf2⟩, h2⟩
/-- is it small enough? -/
def lightB (ts : List (List SS)) : Bool := decide (ts.length ≤ 6) && ts.all fun l => decide (l.length ≤ 20)
theorem light_rw {x : Sml} {vth : AVal} (hth : ThV vth x.threads) (st : ASt) : ∃ r st', rw E 13 [.agg (x.cs vth)] st = some (r, st') ∧ (r = .returned (.lit (.bool (lightB x.threads))) ∧ Gr st st') := by
  refine en_13 fun g t0 => ?_
  have L1 := hth.len
  unfold ThLen at L1
  have hvc := hth.cell
  unfold Sml.cs at t0
  by_cases h6 : x.threads.length ≤ 6
  · repeat' (first | (first | apply ifk_og | apply ifk_gg | apply ifk_go | apply ifk_ss) <;> intro hc | simp (maxSteps := 5000000) (disch := first | assumption | omega | (simp only [ASt.set_ctr, ASt.new_ctr] <;> omega)) only [r13_0.down, r13_1.down, r13_2.down, n13_4, n13_3, n13_2, r13_3.down, r13_4.down, r13_5.down, r13_6.down, r13_7.down, n13_13, n13_12, n13_11, n13_10, r13_8.down, n13_14, n13_9, n13_8, l13_0, n13_7, n13_6, r13_9.down, n13_15, n13_5, n13_1, n13_0, rq_13, o_fap_33_6, o_fai_33_6, o_ldp_31, o_ldi_31, o_leni_31, o_lens_31, o_lenn_31, o_ixi_31, o_ixs_31, o_ldp_53, o_ldi_53, o_leni_53, o_lens_53, o_lenn_53, AVal.undef, zaa, zab, aeval, aput, ahint, absOf, flat, nilCheckA, ANext.ofP, evals, evalPs, evalO, zac, zad, zae, zaf, ↓reduceIte, Nat.reduceLT, Nat.reduceEqDiff, reduceCtorEq, zag, zah, zai, zaj, zak, Nat.reduceAdd, Nat.reduceLeDiff, callA, zal, zam, zan, zao, zap, zaq, zar, zas, zat, zau, evalV, yieldB, zav, zaw, zax, zay, zaz, zba, zbb, zbc, zbd, zbe, zbf, zbg, zbh, zbi, zbj, zbk, zbl, zbm, zbn, zbo, zbp, zbq, zbr, extractA, zbs, zbt, zbu, zbv, zbw, zbx, zby, zbz, zca, zcb, zcc, zcd, zce, zcf, zcg, zch, zci, zcj, zck, zcl, zcm, zcn, zco, zcp, zcq, zcr, zcs, zct, zcu, zcv, zcw, zcx, zcy, zcz, zda, zdb, zdc, zdd, zde, zdf, zdg, zdh, zdi, zdj, boxA, newA, zdk, zdl, zdm, zdn, zdo, zdp, zdq, zdr, zds, zdt, zdu, zdv, zdw, fillA, putL, setsE, zdx, zdy, zdz, zea, zeb, zec, zed, zee, zef, zeg, zeh, zei, zej, Nat.reduceBEq, Nat.reduceBNe, zek, zel, zem, zen, Nat.reduceMul, zeo, zep, zeq, zer, zes, zet, zeu, zev, zew, zex, zey, zez, zfa, zfb, zfc, zfd, zfe, zff, zfg, zfh, zfi, zfj, zfk, zfl, zfm, zfn, zfo, zfp, zfq, zfr, zfs, zft, zfu, zfv, zfw, zfx, zfy, zfz, zga, zgb, zgc, zgd, zge, zgf, zgg, zgh, zgi, zgj, ne_eq, zgk, zgl, zgm, zgn, zgo, gt_iff_lt, ge_iff_le, zgp, zgq, zgr, zgs, zgt, zgu, zgv, zgw, zgx, zgy, zgz, zha, zhb, zhc, zhd, zhe, zhf, zhg, zhh, zhi, zhj, zhk, zhl, zhm, zhn, zho, zhp, zhq, gp_opg, zhr, zhs, zht, zhu, zhv, zhw, zhx, zhy, stillD, Int.reduceToNat, zhz, zia, t0,L1,hvc])
    refine g_loop (fun i f st' => ∃ t, i = x.threads.length - t ∧ t ≤ x.threads.length ∧ f 10 = vth ∧ f 11 = .lit (.int .i64 (x.threads.length : Int)) ∧ f 12 = .lit (.int .i64 (t : Int)) ∧ Gr st st' ∧ lightB x.threads = (x.threads.drop t).all fun l => decide (l.length ≤ 20))
      (fun i f st' hI => ?_) x.threads.length _ _ ⟨0, rfl, Nat.zero_le _, rfl, rfl, rfl, (Gr.refl st).new' _, by unfold lightB; rw [decide_eq_true h6, Bool.true_and]; rfl⟩
    clear t0 L1
    obtain ⟨t, rfl, ht, q10, q11, q12, gr, heq⟩ := hI
    by_cases hlt : t < x.threads.length
    · obtain ⟨l, hl⟩ : ∃ l, x.threads[t]? = some l := ⟨_, List.getElem?_eq_getElem hlt⟩
      obtain ⟨v, hix, hrs, hc1⟩ := hth.ix hl
      have L2 := ss_len hrs
      have hadd : (t : Int) + 1 = ((t + 1 : Nat) : Int) := by omega
      rw [List.drop_eq_getElem_cons hlt, List.all_cons] at heq
      have e2 : x.threads[t] = l := (List.getElem?_eq_some_iff.1 hl).2
      rw [e2] at heq
      clear hth hl e2 hrs
      repeat' (first | (first | apply ifk_og | apply ifk_gg | apply ifk_go | apply ifk_ss) <;> intro hc | simp (maxSteps := 5000000) (disch := first | assumption | omega | (simp only [ASt.set_ctr, ASt.new_ctr] <;> omega)) only [r13_0.down, r13_1.down, r13_2.down, n13_4, n13_3, n13_2, r13_3.down, r13_4.down, r13_5.down, r13_6.down, r13_7.down, n13_13, n13_12, n13_11, n13_10, r13_8.down, n13_14, n13_9, n13_8, l13_0, n13_7, n13_6, r13_9.down, n13_15, n13_5, n13_1, n13_0, rq_13, o_fap_33_6, o_fai_33_6, o_ldp_31, o_ldi_31, o_leni_31, o_lens_31, o_lenn_31, o_ixi_31, o_ixs_31, o_ldp_53, o_ldi_53, o_leni_53, o_lens_53, o_lenn_53, AVal.undef, zaa, zab, aeval, aput, ahint, absOf, flat, nilCheckA, ANext.ofP, evals, evalPs, evalO, zac, zad, zae, zaf, ↓reduceIte, Nat.reduceLT, Nat.reduceEqDiff, reduceCtorEq, zag, zah, zai, zaj, zak, Nat.reduceAdd, Nat.reduceLeDiff, callA, zal, zam, zan, zao, zap, zaq, zar, zas, zat, zau, evalV, yieldB, zav, zaw, zax, zay, zaz, zba, zbb, zbc, zbd, zbe, zbf, zbg, zbh, zbi, zbj, zbk, zbl, zbm, zbn, zbo, zbp, zbq, zbr, extractA, zbs, zbt, zbu, zbv, zbw, zbx, zby, zbz, zca, zcb, zcc, zcd, zce, zcf, zcg, zch, zci, zcj, zck, zcl, zcm, zcn, zco, zcp, zcq, zcr, zcs, zct, zcu, zcv, zcw, zcx, zcy, zcz, zda, zdb, zdc, zdd, zde, zdf, zdg, zdh, zdi, zdj, boxA, newA, zdk, zdl, zdm, zdn, zdo, zdp, zdq, zdr, zds, zdt, zdu, zdv, zdw, fillA, putL, setsE, zdx, zdy, zdz, zea, zeb, zec, zed, zee, zef, zeg, zeh, zei, zej, Nat.reduceBEq, Nat.reduceBNe, zek, zel, zem, zen, Nat.reduceMul, zeo, zep, zeq, zer, zes, zet, zeu, zev, zew, zex, zey, zez, zfa, zfb, zfc, zfd, zfe, zff, zfg, zfh, zfi, zfj, zfk, zfl, zfm, zfn, zfo, zfp, zfq, zfr, zfs, zft, zfu, zfv, zfw, zfx, zfy, zfz, zga, zgb, zgc, zgd, zge, zgf, zgg, zgh, zgi, zgj, ne_eq, zgk, zgl, zgm, zgn, zgo, gt_iff_lt, ge_iff_le, zgp, zgq, zgr, zgs, zgt, zgu, zgv, zgw, zgx, zgy, zgz, zha, zhb, zhc, zhd, zhe, zhf, zhg, zhh, zhi, zhj, zhk, zhl, zhm, zhn, zho, zhp, zhq, gp_opg, zhr, zhs, zht, zhu, zhv, zhw, zhx, zhy, stillD, Int.reduceToNat, zhz, zia, q10,q11,q12,L2,hix,hc1,hadd])
      · have e3 : decide (l.length ≤ 20) = false := decide_eq_false (by omega)
        rw [e3, Bool.false_and] at heq
        exact ⟨by rw [heq], gr⟩
      · have e3 : decide (l.length ≤ 20) = true := decide_eq_true (by omega)
        rw [e3, Bool.true_and] at heq
        refine lq_n (j := x.threads.length - (t + 1)) (by omega) ?_
        exact ⟨t + 1, rfl, by omega, q10, q11, rfl, gr, heq⟩
    · obtain rfl : t = x.threads.length := by omega
      rw [List.drop_length] at heq
      repeat' (first | (first | apply ifk_og | apply ifk_gg | apply ifk_go | apply ifk_ss) <;> intro hc | simp (maxSteps := 5000000) (disch := first | assumption | omega | (simp only [ASt.set_ctr, ASt.new_ctr] <;> omega)) only [r13_0.down, r13_1.down, r13_2.down, n13_4, n13_3, n13_2, r13_3.down, r13_4.down, r13_5.down, r13_6.down, r13_7.down, n13_13, n13_12, n13_11, n13_10, r13_8.down, n13_14, n13_9, n13_8, l13_0, n13_7, n13_6, r13_9.down, n13_15, n13_5, n13_1, n13_0, rq_13, o_fap_33_6, o_fai_33_6, o_ldp_31, o_ldi_31, o_leni_31, o_lens_31, o_lenn_31, o_ixi_31, o_ixs_31, o_ldp_53, o_ldi_53, o_leni_53, o_lens_53, o_lenn_53, AVal.undef, zaa, zab, aeval, aput, ahint, absOf, flat, nilCheckA, ANext.ofP, evals, evalPs, evalO, zac, zad, zae, zaf, ↓reduceIte, Nat.reduceLT, Nat.reduceEqDiff, reduceCtorEq, zag, zah, zai, zaj, zak, Nat.reduceAdd, Nat.reduceLeDiff, callA, zal, zam, zan, zao, zap, zaq, zar, zas, zat, zau, evalV, yieldB, zav, zaw, zax, zay, zaz, zba, zbb, zbc, zbd, zbe, zbf, zbg, zbh, zbi, zbj, zbk, zbl, zbm, zbn, zbo, zbp, zbq, zbr, extractA, zbs, zbt, zbu, zbv, zbw, zbx, zby, zbz, zca, zcb, zcc, zcd, zce, zcf, zcg, zch, zci, zcj, zck, zcl, zcm, zcn, zco, zcp, zcq, zcr, zcs, zct, zcu, zcv, zcw, zcx, zcy, zcz, zda, zdb, zdc, zdd, zde, zdf, zdg, zdh, zdi, zdj, boxA, newA, zdk, zdl, zdm, zdn, zdo, zdp, zdq, zdr, zds, zdt, zdu, zdv, zdw, fillA, putL, setsE, zdx, zdy, zdz, zea, zeb, zec, zed, zee, zef, zeg, zeh, zei, zej, Nat.reduceBEq, Nat.reduceBNe, zek, zel, zem, zen, Nat.reduceMul, zeo, zep, zeq, zer, zes, zet, zeu, zev, zew, zex, zey, zez, zfa, zfb, zfc, zfd, zfe, zff, zfg, zfh, zfi, zfj, zfk, zfl, zfm, zfn, zfo, zfp, zfq, zfr, zfs, zft, zfu, zfv, zfw, zfx, zfy, zfz, zga, zgb, zgc, zgd, zge, zgf, zgg, zgh, zgi, zgj, ne_eq, zgk, zgl, zgm, zgn, zgo, gt_iff_lt, ge_iff_le, zgp, zgq, zgr, zgs, zgt, zgu, zgv, zgw, zgx, zgy, zgz, zha, zhb, zhc, zhd, zhe, zhf, zhg, zhh, zhi, zhj, zhk, zhl, zhm, zhn, zho, zhp, zhq, gp_opg, zhr, zhs, zht, zhu, zhv, zhw, zhx, zhy, stillD, Int.reduceToNat, zhz, zia, q10,q11,q12])
      exact ⟨by rw [heq]; rfl, gr⟩
  · have e : lightB x.threads = false := by unfold lightB; rw [decide_eq_false h6, Bool.false_and]
    rw [e]
    repeat' (first | (first | apply ifk_og | apply ifk_gg | apply ifk_go | apply ifk_ss) <;> intro hc | simp (maxSteps := 5000000) (disch := first | assumption | omega | (simp only [ASt.set_ctr, ASt.new_ctr] <;> omega)) only [r13_0.down, r13_1.down, r13_2.down, n13_4, n13_3, n13_2, r13_3.down, r13_4.down, r13_5.down, r13_6.down, r13_7.down, n13_13, n13_12, n13_11, n13_10, r13_8.down, n13_14, n13_9, n13_8, l13_0, n13_7, n13_6, r13_9.down, n13_15, n13_5, n13_1, n13_0, rq_13, o_fap_33_6, o_fai_33_6, o_ldp_31, o_ldi_31, o_leni_31, o_lens_31, o_lenn_31, o_ixi_31, o_ixs_31, o_ldp_53, o_ldi_53, o_leni_53, o_lens_53, o_lenn_53, AVal.undef, zaa, zab, aeval, aput, ahint, absOf, flat, nilCheckA, ANext.ofP, evals, evalPs, evalO, zac, zad, zae, zaf, ↓reduceIte, Nat.reduceLT, Nat.reduceEqDiff, reduceCtorEq, zag, zah, zai, zaj, zak, Nat.reduceAdd, Nat.reduceLeDiff, callA, zal, zam, zan, zao, zap, zaq, zar, zas, zat, zau, evalV, yieldB, zav, zaw, zax, zay, zaz, zba, zbb, zbc, zbd, zbe, zbf, zbg, zbh, zbi, zbj, zbk, zbl, zbm, zbn, zbo, zbp, zbq, zbr, extractA, zbs, zbt, zbu, zbv, zbw, zbx, zby, zbz, zca, zcb, zcc, zcd, zce, zcf, zcg, zch, zci, zcj, zck, zcl, zcm, zcn, zco, zcp, zcq, zcr, zcs, zct, zcu, zcv, zcw, zcx, zcy, zcz, zda, zdb, zdc, zdd, zde, zdf, zdg, zdh, zdi, zdj, boxA, newA, zdk, zdl, zdm, zdn, zdo, zdp, zdq, zdr, zds, zdt, zdu, zdv, zdw, fillA, putL, setsE, zdx, zdy, zdz, zea, zeb, zec, zed, zee, zef, zeg, zeh, zei, zej, Nat.reduceBEq, Nat.reduceBNe, zek, zel, zem, zen, Nat.reduceMul, zeo, zep, zeq, zer, zes, zet, zeu, zev, zew, zex, zey, zez, zfa, zfb, zfc, zfd, zfe, zff, zfg, zfh, zfi, zfj, zfk, zfl, zfm, zfn, zfo, zfp, zfq, zfr, zfs, zft, zfu, zfv, zfw, zfx, zfy, zfz, zga, zgb, zgc, zgd, zge, zgf, zgg, zgh, zgi, zgj, ne_eq, zgk, zgl, zgm, zgn, zgo, gt_iff_lt, ge_iff_le, zgp, zgq, zgr, zgs, zgt, zgu, zgv, zgw, zgx, zgy, zgz, zha, zhb, zhc, zhd, zhe, zhf, zhg, zhh, zhi, zhj, zhk, zhl, zhm, zhn, zho, zhp, zhq, gp_opg, zhr, zhs, zht, zhu, zhv, zhw, zhx, zhy, stillD, Int.reduceToNat, zhz, zia, t0,L1,hvc])
    first | exact ⟨rfl, (Gr.refl st).new' _⟩ | exact (Gr.refl st).new' _
/-! ### Awake, behind two boxes -/
theorem awake2_k (A B : List AVal) : (run E 60 6 [] ((st0.new (.cells A)).new (.cells B))).map (fun r => (r.1, r.2.heap 0, r.2.heap 1, decide (2 ≤ r.2.ctr))) = some (.returned (.lit (.bool true)), some (.cells A), some (.cells B), true) := by kernel_rfl
theorem awake2 (A B : List AVal) : ∃ r st1, rw E 6 [] ((st0.new (.cells A)).new (.cells B)) = some (r, st1) ∧ (r = .returned (.lit (.bool true)) ∧ Gr ((st0.new (.cells A)).new (.cells B)) st1) := by
  have h := awake2_k A B
  cases hr : run E 60 6 [] ((st0.new (.cells A)).new (.cells B)) with
  | none => rw [hr] at h; cases h
  | some r =>
    rw [hr] at h
    obtain ⟨r1, r2⟩ := r
    simp only [Option.map_some, Option.some.injEq, Prod.mk.injEq] at h
    obtain ⟨rfl, h0, h1, h2⟩ := h
    refine ⟨_, r2, rw_of hr, rfl, of_decide_eq_true h2, fun j hj => ?_⟩
    have hj2 : j < 2 := hj
    match j, hj2 with
    | 0, _ => exact h0
    | 1, _ => exact h1
end Go.Proofs.YtpgcbmmifmnfpaaDoorV
