/- ExtentKeeps: for every list of calls, and every two lists of what stays, that can be read, the call returns true and what was handed in reads afterwards as before. Conditions: those of the given row alone. -/
import Derived.Test.YtbpnbhccdpobpaaRows
import Derived.Test.YtbpnbhccdpobpaaE13
import Derived.Test.YtbpnbhccdpobpaaE16
import Derived.Test.YtbpnbhccdpobpaaK2
import Derived.Test.YtbpnbhccdpobpaaR2
import Derived.WalkKit
import Derived.ProofKit
import Derived.OpenShut
import Derived.ShutString
import Derived.ChangeOld
import Derived.Below
import Derived.SizedLaws
/-! The row of ExtentKeeps. -/
set_option linter.unusedVariables false
set_option linter.unusedSimpArgs false
namespace Go.Proofs.Ytbpnbhccdpobpaa.ExtentKeepsRow
open Go.ChangeShapes Go.WideShapes Go.ChangeAt Go.RowKit Go.Proofs.YtbpnbhccdpobpaaW.PrintWords PExtentKnown
theorem own : ownKnob Try.prog.godebug = none := by kernel_rfl
theorem laidOut : laidOutB Try.prog = true := by kernel_rfl
set_option maxRecDepth 100000 in
theorem lifted (os : Os) (started : os.Started) (H : Type) (enc : TypeId × Value → H) :
    ReturnsInHanded {} Try.checked os 4 .any (Rows.extentKeepsSpec.pre6 enc Try.prog Try.f4 Rows.extentKeepsRow.domain false) (Rows.extentKeepsSpec.post enc Try.prog Try.f4 false true false false) := by
  refine returnsInHanded_of_change_sized (C := Try.checked) own started (by kernel_rfl) Try.func4
    (ChangeSpec.witness6 (enc := enc) (C := Try.checked) false ⟨#[], #[.slice none 0 0, .slice none 0 0, .slice none 0 0], []⟩ 8 (by kernel_rfl) (by kernel_rfl) (by kernel_rfl) (by kernel_rfl)) ?_
  intro W base args ds gs before hval0 hW hcnd hsz0 _
  have hval : ∀ (j : Nat) t v, Try.f4.params[j]? = some t → args[j]? = some v → Value.okWide Try.prog W .any base t v := hval0
  have hW' := hW
  obtain ⟨p, q, hA0, hV, rfl, hfz, hnd⟩ := hW
  have hA : DataW.TrodAll enc Try.prog W 0 (fun _ => true) true Try.f4.params.toList args.toList ds p := hA0
  rw [Try.params4] at hA hval
  obtain ⟨v0, vs0, d0, ds0, p0, q0, hargs, rfl, rfl, h0, r0⟩ := trodAll_cons hA
  obtain ⟨v1, vs1, d1, ds1, p1, q1, rfl, rfl, rfl, h1, r1⟩ := trodAll_cons r0
  obtain ⟨v2, vs2, d2, ds2, p2, q2, rfl, rfl, rfl, h2, r2⟩ := trodAll_cons r1
  obtain ⟨rfl, rfl, rfl⟩ := trodAll_nil r2
  obtain rfl : args = #[v0, v1, v2] := by cases args; simp_all
  obtain ⟨rfl, rfl⟩ := trodVars_none hV
  obtain ⟨a0, len0, cap0, rfl⟩ := okWide_slice Try.underlying23 (hval 0 23 v0 rfl rfl)
  obtain ⟨a1, len1, cap1, rfl⟩ := okWide_slice Try.underlying38 (hval 1 38 v1 rfl rfl)
  obtain ⟨a2, len2, cap2, rfl⟩ := okWide_slice Try.underlying38 (hval 2 38 v2 rfl rfl)
  have k0 := h0
  have k1 := h1
  have k2 := h2
  have lt0 : ∀ x ∈ p0, x.block < W.heap.size := by obtain ⟨m, hm⟩ := k0; exact DataW.trod_lt m _ _ _ hm
  have lt1 : ∀ x ∈ p1, x.block < W.heap.size := by obtain ⟨m, hm⟩ := k1; exact DataW.trod_lt m _ _ _ hm
  have lt2 : ∀ x ∈ p2, x.block < W.heap.size := by obtain ⟨m, hm⟩ := k2; exact DataW.trod_lt m _ _ _ hm
  obtain ⟨l, A0, c0, he0, hc0, hC0⟩ : ∃ xs : List S40, (Kd.slice 40 k40).K W xs [.slice a0 len0 cap0] := by
    obtain ⟨m, hm⟩ := k0
    exact read_slice Try.underlying23 (by kernel_rfl) (fun n cs' y hy => ExtentPlaysRow.read_act hy) hm
  obtain ⟨keep, A1, c1, he1, hc1, hC1⟩ : ∃ xs : List Bool, (Kd.slice 4 Kd.bool).K W xs [.slice a1 len1 cap1] := by
    obtain ⟨m, hm⟩ := k1
    exact read_slice Try.underlying38 (by kernel_rfl) (fun n cs' y hy => read_bool Try.underlying4 hy) hm
  obtain ⟨again, A2, c2, he2, hc2, hC2⟩ : ∃ xs : List Bool, (Kd.slice 4 Kd.bool).K W xs [.slice a2 len2 cap2] := by
    obtain ⟨m, hm⟩ := k2
    exact read_slice Try.underlying38 (by kernel_rfl) (fun n cs' y hy => read_bool Try.underlying4 hy) hm
  injection he0 with e0; injection e0 with e01 e02 e03; subst e01; subst e02; subst e03
  injection he1 with e1; injection e1 with e11 e12 e13; subst e11; subst e12; subst e13
  injection he2 with e2; injection e2 with e21 e22 e23; subst e21; subst e22; subst e23
  clear hA0 hval0 hsz0
  refine (keeps_calls (fun w => works_calls w) _ _ _ l _ _ _ keep _ _ _ again _ _ _ W (Kd.C_F (Kd.heap_iso _ (Kd.heap_pair (Kd.heap_int .i64) (Kd.heap_pair (Kd.heap_slice _ (Kd.heap_int .u8)) (Kd.heap_slice _ Kd.heap_bool)))) hC0) hc0 (Kd.C_F Kd.heap_bool hC1) hc1 (Kd.C_F Kd.heap_bool hC2) hc2).mono fun e W' ⟨he, bel⟩ => ?_
  subst he
  exact ⟨_, rfl, _, _, _, [], _, [], hW', trodAll_mk1 (shut_bool Try.underlying4 _), (trodAll_cons_mk (Below.trod laidOut (by kernel_rfl) (of_decide_eq_true (by kernel_rfl)) k0 bel lt0) (trodAll_cons_mk (Below.trod laidOut (by kernel_rfl) (of_decide_eq_true (by kernel_rfl)) k1 bel lt1) (trodAll_cons_mk (Below.trod laidOut (by kernel_rfl) (of_decide_eq_true (by kernel_rfl)) k2 bel lt2) trodAll_mk0))), rfl, bel.frame _, fun h => by cases h⟩
theorem over : Rows.extentKeepsRow.holds Try.pinned (OpenSpec.ofChange Rows.extentKeepsSpec) :=
  OpenClaim.holds_of_wide 4 Try.f4 rfl rfl rfl rfl rfl rfl rfl ⟨rfl, rfl, rfl, rfl, rfl⟩ rfl rfl rfl rfl rfl (by kernel_rfl) Try.func4 (by kernel_rfl)
    (of_decide_eq_true (by kernel_rfl)) (by unfold Func.isWrapper; first | (rw [if_pos (by decide +kernel)]; kernel_rfl) | (rw [if_neg (by decide +kernel)]; exact ⟨rfl, rfl⟩))
    (fun os started H enc _ => lifted os started H enc)
end Go.Proofs.Ytbpnbhccdpobpaa.ExtentKeepsRow
namespace Go.Proofs.Ytbpnbhccdpobpaa
/-- The row, under a short name, for the claim. -/
theorem extentKeeps_holds : Rows.ExtentKeepsSaid := ExtentKeepsRow.over
end Go.Proofs.Ytbpnbhccdpobpaa
