/- NamePuts: whatever it takes, the call returns true. Conditions: those of the given row alone; the card by the given tie. -/
import Derived.Test.YtkpfpgggkbaefaaDoorG1
import Derived.Test.YtkpfpgggkbaefaaDoorB10
import Derived.Test.YtkpfpgggkbaefaaDoorTie
import Derived.Test.YtkpfpgggkbaefaaDoorCards
import Derived.WalkKit
import Derived.ProofKit
import Derived.Below
import Derived.SizedLaws
import Derived.SevenTiedAt
/-! The row and the card of NamePuts. -/
set_option linter.unusedVariables false
set_option linter.unusedSimpArgs false
namespace Go.Proofs.YtkpfpgggkbaefaaDoor.NamePutsRow
open Go.ChangeShapes Go.WideShapes Go.RowKit Go.Proofs.YtkpfpgggkbaefaaDoorW.PrintWords
theorem own : ownKnob Tryd.prog.godebug = none := by kernel_rfl
theorem laidOut : laidOutB Tryd.prog = true := by kernel_rfl
set_option maxRecDepth 100000 in
theorem lifted (os : Os) (started : os.Started) (H : Type) (enc : TypeId × Value → H) :
    ReturnsInHanded {} Tryd.checked os 5 .any (fun w args => (Rows.namePutsSpec.pre enc Tryd.prog Tryd.f5 Rows.namePutsRow.domain false w args ∧ laidMetH Tryd.prog Rows.namePutsRow.laid w) ∧ sizedMet enc Tryd.prog Tryd.f5 (OpenSpec.ofChange Rows.namePutsSpec) false w args)
      (Rows.namePutsSpec.post enc Tryd.prog Tryd.f5 false true false false) := by
  refine handed_shaped (C := Tryd.checked) (X := fun w _ => laidMetH Tryd.prog Rows.namePutsRow.laid w) (fun _ _ _ hh h => h.of_heap hh) own started (by kernel_rfl) Tryd.func5
    (ChangeSpec.witness_shaped (enc := enc) (C := Tryd.checked) (os := os) (X := fun w _ => laidMetH Tryd.prog Rows.namePutsRow.laid w) false (World.laidAll Tryd.prog os Rows.namePutsRow.laid) #[.agg #[.int .u8 0, .int .u64 0, .int .u64 0, .int .u64 0, .int .u64 0, .int .u64 0], .agg #[.int .u8 0, .int .u64 0, .int .u64 0, .int .u64 0, .int .u64 0, .int .u64 0]] 8 (World.laidAll_os _ _ _)
      (World.shaped_of_ZipB (by kernel_rfl) (by kernel_rfl)) (by kernel_rfl) (by kernel_rfl) (by kernel_rfl)
      (by rw [MakeChecks.laidMetH_plain _ _ _ (by kernel_rfl)]; exact laidMet_laidAll _ (by kernel_rfl) (by kernel_rfl))) ?_
  intro W base args ds gs before hval0 hW hL hsh
  have hval : ∀ (j : Nat) t v, Tryd.f5.params[j]? = some t → args[j]? = some v → Value.okWide Tryd.prog W .any base t v := hval0
  have hW' := hW
  obtain ⟨p, q, hA0, hV, rfl, hfz, hnd⟩ := hW
  have hA : DataW.TrodAll enc Tryd.prog W 0 (fun _ => true) true Tryd.f5.params.toList args.toList ds p := hA0
  rw [Tryd.params5] at hA hval
  obtain ⟨v0, vs0, d0, ds0, p0, q0, hargs, rfl, rfl, h0, r0⟩ := trodAll_cons hA
  obtain ⟨v1, vs1, d1, ds1, p1, q1, rfl, rfl, rfl, h1, r1⟩ := trodAll_cons r0
  obtain ⟨rfl, rfl, rfl⟩ := trodAll_nil r1
  obtain rfl : args = #[v0, v1] := by cases args; simp_all
  obtain ⟨rfl, rfl⟩ := trodVars_none hV
  obtain ⟨cs0, rfl, hs0⟩ := okWide_struct Tryd.underlying25 (hval 0 25 v0 rfl rfl)
  have k0 := h0
  have lt0 : ∀ x ∈ p0, x.block < W.heap.size := by obtain ⟨m, hm⟩ := k0; exact DataW.trod_lt m _ _ _ hm
  obtain ⟨cs1, rfl, hs1⟩ := okWide_struct Tryd.underlying25 (hval 1 25 v1 rfl rfl)
  have k1 := h1
  have lt1 : ∀ x ∈ p1, x.block < W.heap.size := by obtain ⟨m, hm⟩ := k1; exact DataW.trod_lt m _ _ _ hm
  obtain ⟨kd0, da0, na0, pa0, ia0, ka0, e0, f0⟩ : ∃ kd d n p i k : Nat, cs0.toList = [.int .u8 kd, .int .u64 d, .int .u64 n, .int .u64 p, .int .u64 i, .int .u64 k] ∧ (⟨kd, d, n, p, i, k⟩ : Nm).Fits := by
    obtain ⟨m, hm⟩ := k0
    exact read_name hm
  obtain ⟨kd1, da1, na1, pa1, ia1, ka1, e1, f1⟩ : ∃ kd d n p i k : Nat, cs1.toList = [.int .u8 kd, .int .u64 d, .int .u64 n, .int .u64 p, .int .u64 i, .int .u64 k] ∧ (⟨kd, d, n, p, i, k⟩ : Nm).Fits := by
    obtain ⟨m, hm⟩ := k1
    exact read_name hm
  obtain rfl : cs0 = #[.int .u8 kd0, .int .u64 da0, .int .u64 na0, .int .u64 pa0, .int .u64 ia0, .int .u64 ka0] := Array.toList_inj.mp e0
  obtain rfl : cs1 = #[.int .u8 kd1, .int .u64 da1, .int .u64 na1, .int .u64 pa1, .int .u64 ia1, .int .u64 ka1] := Array.toList_inj.mp e1
  clear hA0 hval0
  refine (puts_calls kd0 da0 na0 pa0 ia0 ka0 kd1 da1 na1 pa1 ia1 ka1 f0 f1 W (glob_of (show laidMetH Tryd.prog Rows.nameBackRow.laid W from hL) hsh)).mono fun e W' ⟨he, bel⟩ => ?_
  subst he
  exact ⟨_, rfl, _, _, _, [], _, [], hW', trodAll_mk1 (shut_bool Tryd.underlying4 _), (trodAll_cons_mk (Below.trod laidOut (by kernel_rfl) (of_decide_eq_true (by kernel_rfl)) k0 bel lt0) (trodAll_cons_mk (Below.trod laidOut (by kernel_rfl) (of_decide_eq_true (by kernel_rfl)) k1 bel lt1) trodAll_mk0)), rfl, bel.frame _, fun h => by cases h⟩
theorem over : Rows.NamePutsSaid :=
  OpenClaim.holds_of_wide 5 Tryd.f5 rfl rfl rfl rfl rfl rfl rfl ⟨rfl, rfl, rfl, rfl, rfl⟩ rfl rfl rfl rfl rfl (by kernel_rfl) Tryd.func5 (by kernel_rfl)
    (of_decide_eq_true (by kernel_rfl)) (by unfold Func.isWrapper; first | (rw [if_pos (by decide +kernel)]; kernel_rfl) | (rw [if_neg (by decide +kernel)]; exact ⟨rfl, rfl⟩))
    (fun os started H enc _ => lifted os started H enc)
theorem card : Rows.NamePutsCardSaid :=
  Claim7.holds_tied_plain_at .later [] [.data, .data, .data, .data, .sentinel, .sentinel, .pinned] true (true, "ff53c68dada272456fc9f4b41925c959d24435430c6e16211e0b27670e7a6645") true over (fun _ h => by cases h) (by kernel_rfl) (fun _ h => by cases h) namePuts_row_tie rfl ⟨rfl, rfl⟩ (by kernel_rfl) rfl
    (fun f fn hf hfn => by
      obtain rfl : f = 5 := Option.some.inj ((show Tryd.prog.funcNamed "chartroom/chartroomlaw04.NamePuts" = some 5 by kernel_rfl).symm.trans hf) |>.symm
      obtain rfl : fn = Tryd.f5 := (Option.some.inj (Tryd.func5.symm.trans hfn)).symm
      exact ⟨by kernel_rfl, fun j t ht => by
        rw [Tryd.params5] at ht
        have hm : t ∈ [25, 25] := by simpa using Array.mem_of_getElem? ht
        have hall : ([25, 25].all fun u => !Tryd.prog.wantsStandIn u) = true := by kernel_rfl
        exact (show Tryd.prog.wantsStandIn t = false by simpa using List.all_eq_true.1 hall t hm)⟩)
    (by kernel_rfl)
end Go.Proofs.YtkpfpgggkbaefaaDoor.NamePutsRow
namespace Go.Proofs.YtkpfpgggkbaefaaDoor
/-- The card, under a short name, for the claim. -/
theorem namePuts_card : Rows.NamePutsCardSaid := NamePutsRow.card
end Go.Proofs.YtkpfpgggkbaefaaDoor
