import Derived.Test.YtbpnbhccdpobpaaV12
/-! law 08: works. -/
set_option linter.unusedVariables false
set_option linter.unusedSimpArgs false
namespace Go.Proofs.Ytbpnbhccdpobpaa
open Go Go.RowKit Go.Proofs.YtbpnbhccdpobpaaW.PrintWords Go.Proofs.YtbpnbhccdpobpaaW.PrintLast Go.Proofs.YtbpnbhccdpobpaaW.PrintMore PDirectKnown Go.Maps
set_option maxHeartbeats 16000000 in
set_option maxRecDepth 100000 in
theorem works8_calls (w : World) : Calls Try.prog 30 #[] w fun e w' => e = .returned (.bool true) ∧ Below w.heap.size w w' := by
  go_enter Try.func30, Try.ntmps30
  go_upto_region 2 with (go_at_call 31; refine (newW (Wk.none w)).mono ?_; rintro e wn ⟨p, rfl, hd⟩; have HN := Aside0.mk hd; clear hd; (try clear HD); have HD := HN; clear HN)
  go_upto_region 3 with (go_at_call 43; refine (addW HD.out (i := 0) (ds' := [⟨p, [], [⟨true, ⟨⟨#[97]⟩, 1⟩⟩], 1⟩]) rfl ⟨#[97]⟩ 1 0 _ (by decide) (⟨by decide, by decide⟩ : Wf 1) (by decide) k_add1r k_add1a rfl).mono ?_; rintro e wn ⟨rfl, hd⟩; have HN := Aside0.mk hd; clear hd; (try clear HD); have HD := HN; clear HN)
  go_upto_region 4 with (go_at_call 33; refine (syncW HD.out (i := 0) (ds' := [⟨p, [⟨⟨#[97]⟩, 1⟩], [], 1⟩]) rfl _ (by decide) k_sync1 rfl).mono ?_; rintro e wn ⟨rfl, hd⟩; have HN := Aside0.mk hd; clear hd; (try clear HD); have HD := HN; clear HN)
  go_upto_region 5 with (go_at_call 43; refine (addW HD.out (i := 0) (ds' := [⟨p, [⟨⟨#[97]⟩, 1⟩], [⟨true, ⟨⟨#[98]⟩, 2⟩⟩], 2⟩]) rfl ⟨#[98]⟩ 2 0 _ (by decide) (⟨by decide, by decide⟩ : Wf 2) (by decide) k_add2r k_add2a rfl).mono ?_; rintro e wn ⟨rfl, hd⟩; have HN := Aside0.mk hd; clear hd; (try clear HD); have HD := HN; clear HN)
  go_upto_region 6 with (go_at_call 41; refine (removeW HD.out (i := 0) (ds' := [⟨p, [⟨⟨#[97]⟩, 1⟩], [⟨true, ⟨⟨#[98]⟩, 2⟩⟩, ⟨false, ⟨⟨#[97]⟩, 1⟩⟩], 3⟩]) rfl ⟨#[97]⟩ 1 0 _ (by decide) (by decide) k_rem1g k_rem1r k_rem1a rfl).mono ?_; rintro e wn ⟨rfl, hd⟩; have HN := Aside0.mk hd; clear hd; (try clear HD); have HD := HN; clear HN)
  go_upto_region 8 with (go_at_call 35; refine (pendW HD.out (i := 0) rfl 2 rfl).mono ?_; rintro e wn ⟨rfl, rfl⟩)
  go_upto_region 9 with (go_at_call 36; refine (copyW HD.out (i := 0) rfl (by decide)).mono ?_; rintro e wn ⟨q, rfl, hd⟩; have HN := Aside0.mk hd; clear hd HD; have HD := HN; clear HN)
  rename_i px wz py k1 k2
  obtain ⟨pz, hpz⟩ : ∃ z, z = q := ⟨_, rfl⟩
  subst hpz
  go_upto_region 10 with (go_at_call 37; refine (failW HD.out (i := 1) (ds' := [⟨p, [⟨⟨#[97]⟩, 1⟩], [⟨true, ⟨⟨#[98]⟩, 2⟩⟩, ⟨false, ⟨⟨#[97]⟩, 1⟩⟩], 3⟩, ⟨px, [⟨⟨#[97]⟩, 1⟩, ⟨⟨#[98]⟩, 2⟩], [], 3⟩, ⟨py, [⟨⟨#[97]⟩, 1⟩], [⟨true, ⟨⟨#[98]⟩, 2⟩⟩, ⟨false, ⟨⟨#[97]⟩, 1⟩⟩], 3⟩, ⟨pz, [⟨⟨#[97]⟩, 1⟩], [⟨true, ⟨⟨#[98]⟩, 2⟩⟩, ⟨false, ⟨⟨#[97]⟩, 1⟩⟩], 3⟩]) rfl 1 _ (by decide) k_fail1 rfl).mono ?_; rintro e wn ⟨rfl, hd⟩; have HN := Aside0.mk hd; clear hd; (try clear HD); have HD := HN; clear HN)
  go_upto_region 11 with (go_at_call 37; refine (failW HD.out (i := 2) (ds' := [⟨p, [⟨⟨#[97]⟩, 1⟩], [⟨true, ⟨⟨#[98]⟩, 2⟩⟩, ⟨false, ⟨⟨#[97]⟩, 1⟩⟩], 3⟩, ⟨px, [⟨⟨#[97]⟩, 1⟩, ⟨⟨#[98]⟩, 2⟩], [], 3⟩, ⟨py, [⟨⟨#[97]⟩, 1⟩], [], 3⟩, ⟨pz, [⟨⟨#[97]⟩, 1⟩], [⟨true, ⟨⟨#[98]⟩, 2⟩⟩, ⟨false, ⟨⟨#[97]⟩, 1⟩⟩], 3⟩]) rfl 0 _ (by decide) k_fail0 rfl).mono ?_; rintro e wn ⟨rfl, hd⟩; have HN := Aside0.mk hd; clear hd; (try clear HD); have HD := HN; clear HN)
  go_upto_region 12 with (go_at_call 37; refine (failW HD.out (i := 3) (ds' := [⟨p, [⟨⟨#[97]⟩, 1⟩], [⟨true, ⟨⟨#[98]⟩, 2⟩⟩, ⟨false, ⟨⟨#[97]⟩, 1⟩⟩], 3⟩, ⟨px, [⟨⟨#[97]⟩, 1⟩, ⟨⟨#[98]⟩, 2⟩], [], 3⟩, ⟨py, [⟨⟨#[97]⟩, 1⟩], [], 3⟩, ⟨pz, [⟨⟨#[98]⟩, 2⟩], [], 3⟩]) rfl 2 _ (by decide) k_fail2 rfl).mono ?_; rintro e wn ⟨rfl, hd⟩; have HN := Aside0.mk hd; clear hd; (try clear HD); have HD := HN; clear HN)
  go_upto_region 13 with (go_at_call 41; refine (removeW HD.out (i := 0) (ds' := wk 4 p px py pz) rfl ⟨#[120]⟩ 0 80 _ (by decide) (by decide) k_rem2g k_rem2r k_rem2a rfl).mono ?_; rintro e wn ⟨rfl, hd⟩; have HN := Aside0.mk hd; clear hd; (try clear HD); have HD := HN; clear HN)
  go_wp2_with first
    | (go_at_call 34; (with_reducible show Calls _ _ #[.pointer (some ⟨px, 0, none⟩)] _ _); refine (listW HD.out (i := 1) (p := px) (dur := [⟨⟨#[97]⟩, 1⟩, ⟨⟨#[98]⟩, 2⟩]) (acts := []) (c := 3) rfl [⟨⟨#[97]⟩, 1⟩, ⟨⟨#[98]⟩, 2⟩] 2 rfl rfl (by decide)).mono ?_; rintro e u0 ⟨L0, l0, rfl, hn, hC, hb⟩; have E0 := Aside0.mk (HD.out.keep hb); have R0 := Aside0.mk hC; have N0 := Aside0.mk hn; clear hn hC hb)
    | (go_at_call 52; (with_reducible show Calls _ _ #[.slice L0 2 l0, _] _ _); refine (sameW L0 l0 [⟨⟨#[97]⟩, 1⟩, ⟨⟨#[98]⟩, 2⟩] (some ⟨u0.heap.size, 0, none⟩) 2 [⟨⟨#[97]⟩, 1⟩, ⟨⟨#[98]⟩, 2⟩] 2 2 9 true _ rfl rfl (Kd.C_alloc R0.out _) N0.out (lit_C2 _ _ _ _ _) (Nat.le_refl _) k_same1).mono ?_; rintro e t0 ⟨rfl, hb⟩; have F0 := Aside0.mk ((E0.out.keep (below_alloc (Below.refl _ _) _)).keep hb); clear hb)
    | (go_at_call 34; (with_reducible show Calls _ _ #[.pointer (some ⟨py, 0, none⟩)] _ _); refine (listW F0.out (i := 2) (p := py) (dur := [⟨⟨#[97]⟩, 1⟩]) (acts := []) (c := 3) rfl [⟨⟨#[97]⟩, 1⟩] 1 rfl rfl (by decide)).mono ?_; rintro e u1 ⟨L1, l1, rfl, hn, hC, hb⟩; have E1 := Aside0.mk (F0.out.keep hb); have R1 := Aside0.mk hC; have N1 := Aside0.mk hn; clear hn hC hb)
    | (go_at_call 52; (with_reducible show Calls _ _ #[.slice L1 1 l1, _] _ _); refine (sameW L1 l1 [⟨⟨#[97]⟩, 1⟩] (some ⟨u1.heap.size, 0, none⟩) 1 [⟨⟨#[97]⟩, 1⟩] 1 1 9 true _ rfl rfl (Kd.C_alloc R1.out _) N1.out (lit_C1 _ _ _) (Nat.le_refl _) k_same2).mono ?_; rintro e t1 ⟨rfl, hb⟩; have F1 := Aside0.mk ((E1.out.keep (below_alloc (Below.refl _ _) _)).keep hb); clear hb)
    | (go_at_call 34; (with_reducible show Calls _ _ #[.pointer (some ⟨pz, 0, none⟩)] _ _); refine (listW F1.out (i := 3) (p := pz) (dur := [⟨⟨#[98]⟩, 2⟩]) (acts := []) (c := 3) rfl [⟨⟨#[98]⟩, 2⟩] 1 rfl rfl (by decide)).mono ?_; rintro e u2 ⟨L2, l2, rfl, hn, hC, hb⟩; have E2 := Aside0.mk (F1.out.keep hb); have R2 := Aside0.mk hC; have N2 := Aside0.mk hn; clear hn hC hb)
    | (go_at_call 52; (with_reducible show Calls _ _ #[.slice L2 1 l2, _] _ _); refine (sameW L2 l2 [⟨⟨#[98]⟩, 2⟩] (some ⟨u2.heap.size, 0, none⟩) 1 [⟨⟨#[98]⟩, 2⟩] 1 1 9 true _ rfl rfl (Kd.C_alloc R2.out _) N2.out (lit_C1 _ _ _) (Nat.le_refl _) k_same3).mono ?_; rintro e t2 ⟨rfl, hb⟩; have F2 := Aside0.mk ((E2.out.keep (below_alloc (Below.refl _ _) _)).keep hb); clear hb)
    | (go_at_call 43; (with_reducible show Calls _ _ #[_, .string ⟨#[98]⟩, _] _ _); refine (addW F2.out (i := 0) (p := p) (dur := [⟨⟨#[97]⟩, 1⟩]) (acts := [⟨true, ⟨⟨#[98]⟩, 2⟩⟩, ⟨false, ⟨⟨#[97]⟩, 1⟩⟩]) (c := 4) (ds' := wk 5 p px py pz) rfl ⟨#[98]⟩ 1 81 [⟨true, ⟨⟨#[98]⟩, 2⟩⟩, ⟨false, ⟨⟨#[97]⟩, 1⟩⟩] (by decide) ⟨by decide, by decide⟩ (by decide) k_add3r k_add3a rfl).mono ?_; rintro e s0 ⟨rfl, hd⟩; have G0 := Aside0.mk hd; clear hd)
    | (go_at_call 43; (with_reducible show Calls _ _ #[_, .string ⟨#[]⟩, _] _ _); refine (addW G0.out (i := 0) (p := p) (dur := [⟨⟨#[97]⟩, 1⟩]) (acts := [⟨true, ⟨⟨#[98]⟩, 2⟩⟩, ⟨false, ⟨⟨#[97]⟩, 1⟩⟩]) (c := 5) (ds' := wk 6 p px py pz) rfl ⟨#[]⟩ 1 2 [⟨true, ⟨⟨#[98]⟩, 2⟩⟩, ⟨false, ⟨⟨#[97]⟩, 1⟩⟩] (by decide) ⟨by decide, by decide⟩ (by decide) k_add4r k_add4a rfl).mono ?_; rintro e s1 ⟨rfl, hd⟩; have G1 := Aside0.mk hd; clear hd)
  go_ret
  exact ⟨rfl, G1.out.2⟩
end Go.Proofs.Ytbpnbhccdpobpaa
