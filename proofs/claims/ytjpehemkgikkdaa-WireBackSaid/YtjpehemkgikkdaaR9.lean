/- A reader's Num: its contract. No condition. -/
import Derived.Test.YtjpehemkgikkdaaR8
namespace Go.Proofs.YtjpehemkgikkdaaV
open Go Go.RowKit Go.Proofs.YtjpehemkgikkdaaA
set_option linter.unusedVariables false
set_option linter.unusedSimpArgs false
set_option maxRecDepth 100000

theorem rnum_run {v : AVal} {l : List UInt8} {p s e : Nat} {st : ASt} (h : RAt st s v l p e) (hp : p ≤ l.length) (hll : l.length ≤ 1000000) :
    RetN E (l.length + 2) 35 [.ptr s 0] st (.lit (.int .u64 (if e = 0 then rdVal (rd (l.drop p) 0 0 0) else 0 : Nat))) (if e = 0 then rdEnd st s v p (rd (l.drop p) 0 0 0) else st) := by
  refine RetN.of (n := l.length + 1 + 1) ?_
  rw [run_code (fn := Try.f35) rfl rfl, nu_eq]
  obtain ⟨ts, et, t0, tl⟩ : ∃ ts : List AVal, ([AVal.ptr s 0] ++ List.replicate (Try.f35.ntmps - [AVal.ptr s 0].length) .undef) = ts ∧ ts[0]? = some (.ptr s 0) ∧ ts.length = 66 := ⟨_, rfl, rfl, rfl⟩
  rw [et]
  have hres : ∀ ts st v, ts[2]? = some v → aresults E Try.f35 ts st = some v := by
    intro ts st v h
    unfold aresults
    simp only [Try.f35, aresults1, aresult, h]
  obtain ⟨ts1, e1, a0, al⟩ := nu_zero (run E (l.length + 1)) (drawB E 35) (l.length + 1) (st := st) t0 tl
  have hsc : ∀ ts st, aexec E 35 (run E (l.length + 1)) (drawB E 35) (l.length + 1) (.scope nuScope) ts st = ascope (fun l' => afrom E 35 (run E (l.length + 1)) (drawB E 35) (l.length + 1) l' nuScope) nuScope (l.length + 1) (aexec E 35 (run E (l.length + 1)) (drawB E 35) (l.length + 1) nuScope ts st) := by
    intro ts st; rw [aexec]
  have hpre := nu_pre (run E (l.length + 1)) (l.length + 1) h hp a0 al
  simp only [aexec_seq, e1, aseq, hsc, nu_seq]
  by_cases he : e = 0
  · obtain ⟨ts2, e2, hI⟩ := hpre.2 he
    obtain ⟨ts3, e3, a2⟩ := nu_loop (l.length + 1) (l.length + 1) (by omega) (drawB E 35) hll hI (by omega)
    simp only [e2, e3, if_pos he, aend, hres _ _ _ a2, Option.map_some]
  · obtain ⟨ts2, e2, a2⟩ := hpre.1 he
    have : ascope (fun l' => afrom E 35 (run E (l.length + 1)) (drawB E 35) (l.length + 1) l' nuScope) nuScope (l.length + 1) (some (.ret, ts2, st)) = some (.ret, ts2, st) := rfl
    simp only [e2, this, if_neg he, aend, hres _ _ _ a2, Option.map_some]

end Go.Proofs.YtjpehemkgikkdaaV
