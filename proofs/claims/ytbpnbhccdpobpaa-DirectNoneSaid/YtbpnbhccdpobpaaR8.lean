import Derived.Test.YtbpnbhccdpobpaaV12
import Derived.ChangeArms
import Derived.DataReads
/-! What a call of chapter 08 is, as data. -/
set_option linter.unusedVariables false
set_option linter.unusedSimpArgs false
namespace Go.Proofs.Ytbpnbhccdpobpaa
open Go Go.RowKit Go.Proofs.YtbpnbhccdpobpaaW.PrintWords PDirectKnown
theorem wf_i64 {z : Int} (h : (Lit.int .i64 z).wf = true) : Wf z := by
  simp only [Lit.wf, Bool.and_eq_true, decide_eq_true_eq] at h
  have h1 : IntKind.i64.min = -9223372036854775808 := rfl
  have h2 : IntKind.i64.max = 9223372036854775807 := rfl
  unfold Wf
  omega
end Go.Proofs.Ytbpnbhccdpobpaa
