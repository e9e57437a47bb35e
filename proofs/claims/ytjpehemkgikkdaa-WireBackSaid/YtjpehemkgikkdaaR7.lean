/- A reader's Num. No condition. -/
import Derived.Test.YtjpehemkgikkdaaR6
namespace Go.Proofs.YtjpehemkgikkdaaV
open Go Go.RowKit Go.Proofs.YtjpehemkgikkdaaA
set_option linter.unusedVariables false
set_option linter.unusedSimpArgs false
set_option maxRecDepth 100000

/-- what is left of the reader, and what came out -/
def rdEnd (st : ASt) (s : Nat) (v : AVal) (p : Nat) : Nat ⊕ (Nat × Nat) → ASt
  | .inl e => rset st s v p e
  | .inr (_, k) => rset st s v (p + k) 0
def rdVal : Nat ⊕ (Nat × Nat) → Nat
  | .inl _ => 0
  | .inr (n, _) => n

theorem nu_loop (N m : Nat) (hN : 1 ≤ N) (dr : Array Oper → Bool) {v : AVal} {l : List UInt8} {p s : Nat} {st : ASt} {ts : List AVal} (hll : l.length ≤ 1000000) (h : NuI v l p s p 0 0 ts st) (hm : l.length < m) :
    ∃ ts', ascope (fun l' => afrom E 35 (run E N) dr m l' nuScope) nuScope m (aexec E 35 (run E N) dr m nuRest ts st) = some (.ret, ts', rdEnd st s v p (rd (l.drop p) 0 0 0)) ∧ ts'[2]? = some (.lit (.int .u64 (rdVal (rd (l.drop p) 0 0 0) : Nat))) := by
  obtain ⟨rest, hl⟩ := nu_label
  have key := ascope_rule (fr := fun l' => afrom E 35 (run E N) dr m l' nuScope) (code := nuScope) (l := 0) hl
    (I := fun k ts s' => s' = st ∧ ∃ i n j, k + i = l.length ∧ i = p + j ∧ (7 * j ≤ 63) ∧ NuI v l p s i (7 * j) n ts st ∧ rd (l.drop i) (7 * j) n j = rd (l.drop p) 0 0 0)
    (Q := fun e ts' s' => e = .ret ∧ s' = rdEnd st s v p (rd (l.drop p) 0 0 0) ∧ ts'[2]? = some (.lit (.int .u64 (rdVal (rd (l.drop p) 0 0 0) : Nat))))
    (step := by
      rintro k ts1 s' ⟨hs', i, n, j, hi, hj, h7, hI, hr⟩
      rw [hs']
      simp only [nu_from]
      by_cases he : i = l.length
      · obtain ⟨ts', e, a2⟩ := nu_short N m hN dr hI he
        rw [List.drop_of_length_le (by omega), rd] at hr
        exact .inr ⟨_, ts', _, e, by simp, rfl, by rw [← hr]; rfl, by rw [← hr]; exact a2⟩
      · have hlt : i < l.length := by have := hI.il; omega
        rw [List.drop_eq_getElem_cons hlt, rd] at hr
        by_cases hb : (7 * j = 63 ∧ 1 < l[i].toNat) ∨ (0 < 7 * j ∧ l[i].toNat = 0)
        · obtain ⟨ts', e, a2⟩ := nu_bad N m hN dr hI hlt hb
          rw [if_pos hb] at hr
          exact .inr ⟨_, ts', _, e, by simp, rfl, by rw [← hr]; rfl, by rw [← hr]; exact a2⟩
        · rw [if_neg hb] at hr
          by_cases hc : 128 ≤ l[i].toNat
          · obtain ⟨ts', e, hI'⟩ := nu_go N m hN dr hI hlt hll hb h7 (by omega) hc
            rw [if_pos hc] at hr
            have hj9 : 7 * j ≠ 63 := fun e9 => hb (.inl ⟨e9, by omega⟩)
            exact .inl ⟨ts', _, e, k - 1, by omega, rfl, i + 1, nuN n (7 * j) l[i], j + 1, by omega, by omega, by omega, by rw [Nat.mul_add]; exact hI', by rw [← hr, Nat.mul_add]; rfl⟩
          · obtain ⟨ts', e, a2⟩ := nu_last N m hN dr hI hlt hll hb h7 (by omega) (by omega)
            rw [if_neg hc] at hr
            exact .inr ⟨_, ts', _, e, by simp, rfl, by rw [← hr]; show rset st s v (i + 1) 0 = rset st s v (p + (j + 1)) 0; rw [show i + 1 = p + (j + 1) by omega], by rw [← hr]; exact a2⟩)
    m (l.length - p) ts st ⟨rfl, p, 0, 0, by have := h.il; omega, by omega, by omega, h, rfl⟩ (by omega)
  obtain ⟨e, ts', st', h1, rfl, rfl, h2⟩ := key
  rw [nu_from] at h1
  exact ⟨ts', h1, h2⟩

end Go.Proofs.YtjpehemkgikkdaaV
