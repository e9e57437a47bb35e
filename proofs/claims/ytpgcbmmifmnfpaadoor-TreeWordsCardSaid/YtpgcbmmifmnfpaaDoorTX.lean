/- law 04's TreeWords, for its row. No condition. -/
import Derived.Test.YtpgcbmmifmnfpaaDoorTW
import Derived.Test.YtpgcbmmifmnfpaaDoorX3
import Derived.Test.YtpgcbmmifmnfpaaDoorDV
namespace Go.Proofs.YtpgcbmmifmnfpaaDoorV
open Go Go.RowKit Go.Proofs.YtpgcbmmifmnfpaaDoorA
set_option maxRecDepth 100000
theorem words_runs (b0 : AVal) (d0 : DatV E.P 6 3 b0) : ∃ n st', run E n 3 [b0] st0 = some (.returned (.lit (.bool true)), st') := by
  obtain ⟨i, rfl, _⟩ := dv_int (k := .i64) rfl d0
  obtain ⟨s, h⟩ := runs_TreeWords i
  obtain ⟨n, hn⟩ := rw_out h
  exact ⟨n, s, hn⟩
end Go.Proofs.YtpgcbmmifmnfpaaDoorV
