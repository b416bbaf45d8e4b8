/- NameOf: whatever it takes, the call returns true. Conditions: those of the given row alone; the card by the given tie. -/
import Derived.Test.YtkpfpgggkbaefaaDoorG1
import Derived.Test.YtkpfpgggkbaefaaDoorB4
import Derived.Test.YtkpfpgggkbaefaaDoorTie
import Derived.Test.YtkpfpgggkbaefaaDoorCards
import Derived.WalkKit
import Derived.ProofKit
import Derived.Below
import Derived.SizedLaws
import Derived.SevenTiedAt
/-! The row and the card of NameOf. -/
set_option linter.unusedVariables false
set_option linter.unusedSimpArgs false
namespace Go.Proofs.YtkpfpgggkbaefaaDoor.NameOfRow
open Go.ChangeShapes Go.WideShapes Go.RowKit Go.Proofs.YtkpfpgggkbaefaaDoorW.PrintWords
theorem own : ownKnob Tryd.prog.godebug = none := by kernel_rfl
theorem laidOut : laidOutB Tryd.prog = true := by kernel_rfl
set_option maxRecDepth 100000 in
theorem lifted (os : Os) (started : os.Started) (H : Type) (enc : TypeId × Value → H) :
    ReturnsInHanded {} Tryd.checked os 4 .any (fun w args => (Rows.nameOfSpec.pre enc Tryd.prog Tryd.f4 Rows.nameOfRow.domain false w args ∧ laidMetH Tryd.prog Rows.nameOfRow.laid w) ∧ sizedMet enc Tryd.prog Tryd.f4 (OpenSpec.ofChange Rows.nameOfSpec) false w args)
      (Rows.nameOfSpec.post enc Tryd.prog Tryd.f4 false true false false) := by
  refine handed_shaped (C := Tryd.checked) (X := fun w _ => laidMetH Tryd.prog Rows.nameOfRow.laid w) (fun _ _ _ hh h => h.of_heap hh) own started (by kernel_rfl) Tryd.func4
    (ChangeSpec.witness_shaped (enc := enc) (C := Tryd.checked) (os := os) (X := fun w _ => laidMetH Tryd.prog Rows.nameOfRow.laid w) false (World.laidAll Tryd.prog os Rows.nameOfRow.laid) #[.int .u64 0, .int .u64 0, .int .u64 0, .int .u64 0] 8 (World.laidAll_os _ _ _)
      (World.shaped_of_ZipB (by kernel_rfl) (by kernel_rfl)) (by kernel_rfl) (by kernel_rfl) (by kernel_rfl)
      (by rw [MakeChecks.laidMetH_plain _ _ _ (by kernel_rfl)]; exact laidMet_laidAll _ (by kernel_rfl) (by kernel_rfl))) ?_
  intro W base args ds gs before hval0 hW hL hsh
  have hval : ∀ (j : Nat) t v, Tryd.f4.params[j]? = some t → args[j]? = some v → Value.okWide Tryd.prog W .any base t v := hval0
  have hW' := hW
  obtain ⟨p, q, hA0, hV, rfl, hfz, hnd⟩ := hW
  have hA : DataW.TrodAll enc Tryd.prog W 0 (fun _ => true) true Tryd.f4.params.toList args.toList ds p := hA0
  rw [Tryd.params4] at hA hval
  obtain ⟨v0, vs0, d0, ds0, p0, q0, hargs, rfl, rfl, h0, r0⟩ := trodAll_cons hA
  obtain ⟨v1, vs1, d1, ds1, p1, q1, rfl, rfl, rfl, h1, r1⟩ := trodAll_cons r0
  obtain ⟨v2, vs2, d2, ds2, p2, q2, rfl, rfl, rfl, h2, r2⟩ := trodAll_cons r1
  obtain ⟨v3, vs3, d3, ds3, p3, q3, rfl, rfl, rfl, h3, r3⟩ := trodAll_cons r2
  obtain ⟨rfl, rfl, rfl⟩ := trodAll_nil r3
  obtain rfl : args = #[v0, v1, v2, v3] := by cases args; simp_all
  obtain ⟨rfl, rfl⟩ := trodVars_none hV
  obtain ⟨z0, rfl⟩ := okWide_int Tryd.underlying23 (hval 0 23 v0 rfl rfl)
  have k0 := h0
  have lt0 : ∀ x ∈ p0, x.block < W.heap.size := by obtain ⟨m, hm⟩ := k0; exact DataW.trod_lt m _ _ _ hm
  obtain ⟨a0, rfl, f0⟩ : ∃ a : Nat, z0 = a ∧ a < 18446744073709551616 := by
    obtain ⟨m, hm⟩ := k0
    obtain ⟨z, e, _, hw⟩ := DataW.trod_int Tryd.underlying23 hm
    have e1 : z0 = z := by
      have e' : [Value.int .u64 z0] = [Value.int .u64 z] := e
      injection e' with e'
      injection e' with _ e'
    subst e1
    have hb := bounds_u64 hw
    exact ⟨z0.toNat, (Int.toNat_of_nonneg hb.1).symm, by omega⟩
  obtain ⟨z1, rfl⟩ := okWide_int Tryd.underlying23 (hval 1 23 v1 rfl rfl)
  have k1 := h1
  have lt1 : ∀ x ∈ p1, x.block < W.heap.size := by obtain ⟨m, hm⟩ := k1; exact DataW.trod_lt m _ _ _ hm
  obtain ⟨a1, rfl, f1⟩ : ∃ a : Nat, z1 = a ∧ a < 18446744073709551616 := by
    obtain ⟨m, hm⟩ := k1
    obtain ⟨z, e, _, hw⟩ := DataW.trod_int Tryd.underlying23 hm
    have e1 : z1 = z := by
      have e' : [Value.int .u64 z1] = [Value.int .u64 z] := e
      injection e' with e'
      injection e' with _ e'
    subst e1
    have hb := bounds_u64 hw
    exact ⟨z1.toNat, (Int.toNat_of_nonneg hb.1).symm, by omega⟩
  obtain ⟨z2, rfl⟩ := okWide_int Tryd.underlying23 (hval 2 23 v2 rfl rfl)
  have k2 := h2
  have lt2 : ∀ x ∈ p2, x.block < W.heap.size := by obtain ⟨m, hm⟩ := k2; exact DataW.trod_lt m _ _ _ hm
  obtain ⟨a2, rfl, f2⟩ : ∃ a : Nat, z2 = a ∧ a < 18446744073709551616 := by
    obtain ⟨m, hm⟩ := k2
    obtain ⟨z, e, _, hw⟩ := DataW.trod_int Tryd.underlying23 hm
    have e1 : z2 = z := by
      have e' : [Value.int .u64 z2] = [Value.int .u64 z] := e
      injection e' with e'
      injection e' with _ e'
    subst e1
    have hb := bounds_u64 hw
    exact ⟨z2.toNat, (Int.toNat_of_nonneg hb.1).symm, by omega⟩
  obtain ⟨z3, rfl⟩ := okWide_int Tryd.underlying23 (hval 3 23 v3 rfl rfl)
  have k3 := h3
  have lt3 : ∀ x ∈ p3, x.block < W.heap.size := by obtain ⟨m, hm⟩ := k3; exact DataW.trod_lt m _ _ _ hm
  obtain ⟨a3, rfl, f3⟩ : ∃ a : Nat, z3 = a ∧ a < 18446744073709551616 := by
    obtain ⟨m, hm⟩ := k3
    obtain ⟨z, e, _, hw⟩ := DataW.trod_int Tryd.underlying23 hm
    have e1 : z3 = z := by
      have e' : [Value.int .u64 z3] = [Value.int .u64 z] := e
      injection e' with e'
      injection e' with _ e'
    subst e1
    have hb := bounds_u64 hw
    exact ⟨z3.toNat, (Int.toNat_of_nonneg hb.1).symm, by omega⟩
  clear hA0 hval0
  refine (nameof_calls a0 a1 a2 a3 f0 f1 f2 f3 W (glob_of (show laidMetH Tryd.prog Rows.nameBackRow.laid W from hL) hsh)).mono fun e W' ⟨he, bel⟩ => ?_
  subst he
  exact ⟨_, rfl, _, _, _, [], _, [], hW', trodAll_mk1 (shut_bool Tryd.underlying4 _), (trodAll_cons_mk (Below.trod laidOut (by kernel_rfl) (of_decide_eq_true (by kernel_rfl)) k0 bel lt0) (trodAll_cons_mk (Below.trod laidOut (by kernel_rfl) (of_decide_eq_true (by kernel_rfl)) k1 bel lt1) (trodAll_cons_mk (Below.trod laidOut (by kernel_rfl) (of_decide_eq_true (by kernel_rfl)) k2 bel lt2) (trodAll_cons_mk (Below.trod laidOut (by kernel_rfl) (of_decide_eq_true (by kernel_rfl)) k3 bel lt3) trodAll_mk0)))), rfl, bel.frame _, fun h => by cases h⟩
theorem over : Rows.NameOfSaid :=
  OpenClaim.holds_of_wide 4 Tryd.f4 rfl rfl rfl rfl rfl rfl rfl ⟨rfl, rfl, rfl, rfl, rfl⟩ rfl rfl rfl rfl rfl (by kernel_rfl) Tryd.func4 (by kernel_rfl)
    (of_decide_eq_true (by kernel_rfl)) (by unfold Func.isWrapper; first | (rw [if_pos (by decide +kernel)]; kernel_rfl) | (rw [if_neg (by decide +kernel)]; exact ⟨rfl, rfl⟩))
    (fun os started H enc _ => lifted os started H enc)
theorem card : Rows.NameOfCardSaid :=
  Claim7.holds_tied_plain_at .later [] [.data, .data, .data, .data, .sentinel, .sentinel, .pinned] true (true, "ff53c68dada272456fc9f4b41925c959d24435430c6e16211e0b27670e7a6645") true over (fun _ h => by cases h) (by kernel_rfl) (fun _ h => by cases h) nameOf_row_tie rfl ⟨rfl, rfl⟩ (by kernel_rfl) rfl
    (fun f fn hf hfn => by
      obtain rfl : f = 4 := Option.some.inj ((show Tryd.prog.funcNamed "chartroom/chartroomlaw04.NameOf" = some 4 by kernel_rfl).symm.trans hf) |>.symm
      obtain rfl : fn = Tryd.f4 := (Option.some.inj (Tryd.func4.symm.trans hfn)).symm
      exact ⟨by kernel_rfl, fun j t ht => by
        rw [Tryd.params4] at ht
        have hm : t ∈ [23, 23, 23, 23] := by simpa using Array.mem_of_getElem? ht
        have hall : ([23, 23, 23, 23].all fun u => !Tryd.prog.wantsStandIn u) = true := by kernel_rfl
        exact (show Tryd.prog.wantsStandIn t = false by simpa using List.all_eq_true.1 hall t hm)⟩)
    (by kernel_rfl)
end Go.Proofs.YtkpfpgggkbaefaaDoor.NameOfRow
namespace Go.Proofs.YtkpfpgggkbaefaaDoor
/-- The card, under a short name, for the claim. -/
theorem nameOf_card : Rows.NameOfCardSaid := NameOfRow.card
end Go.Proofs.YtkpfpgggkbaefaaDoor
