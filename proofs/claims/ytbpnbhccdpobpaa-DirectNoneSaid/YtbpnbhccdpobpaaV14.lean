import Derived.Test.YtbpnbhccdpobpaaV13
/-! law 08: DirectNone. -/
set_option linter.unusedVariables false
set_option linter.unusedSimpArgs false
namespace Go.Proofs.Ytbpnbhccdpobpaa
open Go Go.RowKit Go.Proofs.YtbpnbhccdpobpaaW.PrintWords Go.Proofs.YtbpnbhccdpobpaaW.PrintLast Go.Proofs.YtbpnbhccdpobpaaW.PrintMore PDirectKnown Go.Maps
set_option maxHeartbeats 4000000 in
set_option maxRecDepth 100000 in
theorem none_calls (s : ByteArray) (n : Int) (w : World) : Calls Try.prog 8 #[.string s, .int .i64 n] w fun e w' => e = .returned (.bool true) ∧ Below w.heap.size w w' := by
  go_enter Try.func8, Try.ntmps8
  go_wp2_with first
    | (go_at_call 41; refine (nil_Remove _ _).mono ?_; rintro e w' ⟨rfl, rfl⟩)
    | (go_at_call 42; refine (nil_Get _ _).mono ?_; rintro e w' ⟨rfl, rfl⟩)
    | (go_at_call 33; refine (nil_Sync _).mono ?_; rintro e w' ⟨rfl, rfl⟩)
    | (go_at_call 37; refine (nil_Fail _ _).mono ?_; rintro e w' ⟨rfl, rfl⟩)
    | (go_at_call 43; refine (nil_Add _ _ _).mono ?_; rintro e w' ⟨rfl, rfl⟩)
    | (go_at_call 34; refine (nil_List _).mono ?_; rintro e w' ⟨rfl, rfl⟩)
    | (go_at_call 35; refine (nil_Pending _).mono ?_; rintro e w' ⟨rfl, rfl⟩)
    | (go_at_call 36; refine (nil_Copy _).mono ?_; rintro e w' ⟨rfl, rfl⟩)
    | (go_at_call 30; refine (works8_calls _).mono ?_; rintro e w' ⟨rfl, hb⟩; have HB := Aside0.mk hb; clear hb)
  go_ret
  exact ⟨rfl, HB.out⟩
end Go.Proofs.Ytbpnbhccdpobpaa
