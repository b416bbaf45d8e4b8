/- ExtentPlays: for every list of first parts and every list of calls that can be read, the call returns true and what was handed in reads afterwards as before. Conditions: those of the given row alone. -/
import Derived.Test.YtbpnbhccdpobpaaRows
import Derived.Test.YtbpnbhccdpobpaaE13
import Derived.Test.YtbpnbhccdpobpaaE16
import Derived.Test.YtbpnbhccdpobpaaR1
import Derived.WalkKit
import Derived.ProofKit
import Derived.OpenShut
import Derived.ShutString
import Derived.ChangeOld
import Derived.Below
import Derived.SizedLaws
/-! The row of ExtentPlays. -/
set_option linter.unusedVariables false
set_option linter.unusedSimpArgs false
namespace Go.Proofs.Ytbpnbhccdpobpaa.ExtentPlaysRow
open Go.ChangeShapes Go.WideShapes Go.ChangeAt Go.RowKit Go.Proofs.YtbpnbhccdpobpaaW.PrintWords PExtentKnown
theorem own : ownKnob Try.prog.godebug = none := by kernel_rfl
theorem laidOut : laidOutB Try.prog = true := by kernel_rfl
set_option maxRecDepth 100000 in
theorem read_act {H : Type} {enc : TypeId × Value → H} {w : World} {base : Nat} {spare : Nat → Bool} {held : Bool} {fuel : Nat} {cs : List Value} {x : DataW H × List MemPlace} (h : DataW.trod enc Try.prog w base spare held fuel 40 cs = some x) : ∃ a, k40.K w a cs := by
  obtain ⟨y0, y1, y2, n, rfl, hl, h0, h1, h2⟩ := Go.Deep.trod_struct3 Try.underlying40 h
  have hl3 : cs.length = 3 := hl.trans (by kernel_rfl)
  obtain ⟨v0, v1, v2, rfl⟩ := len3 hl3
  have q0 : DataW.trod enc Try.prog w base spare held n 3 [v0] = some y0 := h0
  have q1 : DataW.trod enc Try.prog w base spare held n 26 [v1] = some y1 := h1
  have q2 : DataW.trod enc Try.prog w base spare held n 38 [v2] = some y2 := h2
  obtain ⟨a, ha⟩ := read_int Try.underlying3 q0
  obtain ⟨b, A1, c1, hb, hb1, hb2⟩ := read_slice (d := Kd.int .u8) Try.underlying26 (by kernel_rfl) (fun n cs' y hy => read_int Try.underlying5 hy) q1
  obtain ⟨e, A2, c2, he, he1, he2⟩ := read_slice (d := Kd.bool) Try.underlying38 (by kernel_rfl) (fun n cs' y hy => read_bool Try.underlying4 hy) q2
  injection ha with ha; injection hb with hb; injection he with he
  subst ha; subst hb; subst he
  exact ⟨⟨a, b, e⟩, k40_mk w ⟨a, b, e⟩ hb1 hb2 he1 he2⟩
set_option maxRecDepth 100000 in
theorem lifted (os : Os) (started : os.Started) (H : Type) (enc : TypeId × Value → H) :
    ReturnsInHanded {} Try.checked os 3 .any (Rows.extentPlaysSpec.pre6 enc Try.prog Try.f3 Rows.extentPlaysRow.domain false) (Rows.extentPlaysSpec.post enc Try.prog Try.f3 false true false false) := by
  refine returnsInHanded_of_change_sized (C := Try.checked) own started (by kernel_rfl) Try.func3
    (ChangeSpec.witness6 (enc := enc) (C := Try.checked) false ⟨#[], #[.slice none 0 0, .slice none 0 0], []⟩ 8 (by kernel_rfl) (by kernel_rfl) (by kernel_rfl) (by kernel_rfl)) ?_
  intro W base args ds gs before hval0 hW hcnd hsz0 _
  have hval : ∀ (j : Nat) t v, Try.f3.params[j]? = some t → args[j]? = some v → Value.okWide Try.prog W .any base t v := hval0
  have hW' := hW
  obtain ⟨p, q, hA0, hV, rfl, hfz, hnd⟩ := hW
  have hA : DataW.TrodAll enc Try.prog W 0 (fun _ => true) true Try.f3.params.toList args.toList ds p := hA0
  rw [Try.params3] at hA hval
  obtain ⟨v0, vs0, d0, ds0, p0, q0, hargs, rfl, rfl, h0, r0⟩ := trodAll_cons hA
  obtain ⟨v1, vs1, d1, ds1, p1, q1, rfl, rfl, rfl, h1, r1⟩ := trodAll_cons r0
  obtain ⟨rfl, rfl, rfl⟩ := trodAll_nil r1
  obtain rfl : args = #[v0, v1] := by cases args; simp_all
  obtain ⟨rfl, rfl⟩ := trodVars_none hV
  obtain ⟨a0, len0, cap0, rfl⟩ := okWide_slice Try.underlying22 (hval 0 22 v0 rfl rfl)
  obtain ⟨a1, len1, cap1, rfl⟩ := okWide_slice Try.underlying23 (hval 1 23 v1 rfl rfl)
  have k0 := h0
  have k1 := h1
  have lt0 : ∀ x ∈ p0, x.block < W.heap.size := by obtain ⟨m, hm⟩ := k0; exact DataW.trod_lt m _ _ _ hm
  have lt1 : ∀ x ∈ p1, x.block < W.heap.size := by obtain ⟨m, hm⟩ := k1; exact DataW.trod_lt m _ _ _ hm
  obtain ⟨first, A0, c0, he0, hc0, hC0⟩ : ∃ xs : List (List Int), (Kd.slice 26 (Kd.slice 5 (Kd.int .u8))).K W xs [.slice a0 len0 cap0] := by
    obtain ⟨m, hm⟩ := k0
    exact read_slice Try.underlying22 (by kernel_rfl) (fun n cs' y hy => read_slice Try.underlying26 (by kernel_rfl) (fun n cs' y hy => read_int Try.underlying5 hy) hy) hm
  obtain ⟨l, A1, c1, he1, hc1, hC1⟩ : ∃ xs : List S40, (Kd.slice 40 k40).K W xs [.slice a1 len1 cap1] := by
    obtain ⟨m, hm⟩ := k1
    exact read_slice Try.underlying23 (by kernel_rfl) (fun n cs' y hy => read_act hy) hm
  injection he0 with e0; injection e0 with e01 e02 e03; subst e01; subst e02; subst e03
  injection he1 with e1; injection e1 with e11 e12 e13; subst e11; subst e12; subst e13
  clear hA0 hval0 hsz0
  refine (plays_calls (fun w => works_calls w) _ _ _ first _ _ _ l _ _ W (Kd.C_F (Kd.heap_slice 5 (Kd.heap_int .u8)) hC0) hc0 (Kd.C_F (Kd.heap_iso _ (Kd.heap_pair (Kd.heap_int .i64) (Kd.heap_pair (Kd.heap_slice _ (Kd.heap_int .u8)) (Kd.heap_slice _ Kd.heap_bool)))) hC1) hc1).mono fun e W' ⟨he, bel⟩ => ?_
  subst he
  exact ⟨_, rfl, _, _, _, [], _, [], hW', trodAll_mk1 (shut_bool Try.underlying4 _), (trodAll_cons_mk (Below.trod laidOut (by kernel_rfl) (of_decide_eq_true (by kernel_rfl)) k0 bel lt0) (trodAll_cons_mk (Below.trod laidOut (by kernel_rfl) (of_decide_eq_true (by kernel_rfl)) k1 bel lt1) trodAll_mk0)), rfl, bel.frame _, fun h => by cases h⟩
theorem over : Rows.extentPlaysRow.holds Try.pinned (OpenSpec.ofChange Rows.extentPlaysSpec) :=
  OpenClaim.holds_of_wide 3 Try.f3 rfl rfl rfl rfl rfl rfl rfl ⟨rfl, rfl, rfl, rfl, rfl⟩ rfl rfl rfl rfl rfl (by kernel_rfl) Try.func3 (by kernel_rfl)
    (of_decide_eq_true (by kernel_rfl)) (by unfold Func.isWrapper; first | (rw [if_pos (by decide +kernel)]; kernel_rfl) | (rw [if_neg (by decide +kernel)]; exact ⟨rfl, rfl⟩))
    (fun os started H enc _ => lifted os started H enc)
end Go.Proofs.Ytbpnbhccdpobpaa.ExtentPlaysRow
namespace Go.Proofs.Ytbpnbhccdpobpaa
/-- The row, under a short name, for the claim. -/
theorem extentPlays_holds : Rows.ExtentPlaysSaid := ExtentPlaysRow.over
end Go.Proofs.Ytbpnbhccdpobpaa
