import Derived.Test.YtbpnbhccdpobpaaR1
import Derived.Test.YtbpnbhccdpobpaaPExtentKnownx1
/-! What a call of chapter 07 is, as data. -/
set_option linter.unusedVariables false
set_option linter.unusedSimpArgs false
namespace Go.Proofs.Ytbpnbhccdpobpaa.ExtentPlaysRow
open Go.RowKit Go.Proofs.YtbpnbhccdpobpaaW.PrintWords PExtentKnown
set_option maxRecDepth 100000 in
theorem read_act {H : Type} {enc : TypeId × Value → H} {w : World} {base : Nat} {spare : Nat → Bool} {held : Bool} {fuel : Nat} {cs : List Value} {x : DataW H × List MemPlace} (h : DataW.trod enc Try.prog w base spare held fuel 40 cs = some x) : ∃ a, k40.K w a cs := by
  obtain ⟨y0, y1, y2, n, rfl, hl, h0, h1, h2⟩ := Go.Deep.trod_struct3 Try.underlying40 h
  have hl3 : cs.length = 3 := hl.trans (by kernel_rfl)
  obtain ⟨v0, v1, v2, rfl⟩ := len3 hl3
  have q0 : DataW.trod enc Try.prog w base spare held n 3 [v0] = some y0 := h0
  have q1 : DataW.trod enc Try.prog w base spare held n 26 [v1] = some y1 := h1
  have q2 : DataW.trod enc Try.prog w base spare held n 38 [v2] = some y2 := h2
  obtain ⟨a, ha⟩ := read_int Try.underlying3 q0
  obtain ⟨b, A1, c1, hb, hb1, hb2⟩ := read_slice (d := Kd.int .u8) Try.underlying26 (by kernel_rfl) (fun n cs' y hy => read_int Try.underlying5 hy) q1
  obtain ⟨e, A2, c2, he, he1, he2⟩ := read_slice (d := Kd.bool) Try.underlying38 (by kernel_rfl) (fun n cs' y hy => read_bool Try.underlying4 hy) q2
  injection ha with ha; injection hb with hb; injection he with he
  subst ha; subst hb; subst he
  exact ⟨⟨a, b, e⟩, k40_mk w ⟨a, b, e⟩ hb1 hb2 he1 he2⟩
end Go.Proofs.Ytbpnbhccdpobpaa.ExtentPlaysRow
