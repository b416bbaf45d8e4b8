import Derived.Test.YtbpnbhccdpobpaaV5
/-! direct: Add, Remove. -/
set_option linter.unusedVariables false
set_option linter.unusedSimpArgs false
namespace Go.Proofs.Ytbpnbhccdpobpaa
open Go Go.RowKit Go.Proofs.YtbpnbhccdpobpaaW.PrintWords Go.Proofs.YtbpnbhccdpobpaaW.PrintLast Go.Proofs.YtbpnbhccdpobpaaW.PrintMore PDirectKnown Go.Maps

theorem empty_of {s : ByteArray} (h : s.toList = []) : s = ⟨#[]⟩ := toList_inj (by rw [h, ByteArray.toList_eq])
set_option maxHeartbeats 4000000 in
theorem Add_calls (p : Nat) (ok : Nat → Prop) (dur : List En) (acts : List Ac) (c : Nat) (s : ByteArray) (i : Int) (r : Int) (w : World) (hd : DirAt w p ok dur acts c) (hl : s.size ≤ 200) (hi : Wf i) (hc : c < 100000) (hr : addR dur acts s i = r) :
    Calls Try.prog 43 #[.pointer (some ⟨p, 0, none⟩), .string s, .int .i64 i] w fun e w' => e = .returned (.int .i64 r) ∧ DirAt w' p (fun k => ok k ∨ w.heap.size ≤ k) dur (addA dur acts s i) (c + 1) ∧ Fr w w' ok := by
  by_cases hs : s.toList = []
  · have ha : addA dur acts s i = acts := if_pos (.inl hs)
    have hr2 : addR dur acts s i = 2 := if_pos (.inl hs)
    rw [ha]
    rw [hr2] at hr
    subst hr
    have HD := Aside0.mk hd
    obtain rfl := empty_of hs
    clear ha hr2 hs hd
    go_enter Try.func43, Try.ntmps43
    go_wp2
    go_ret
    exact ⟨rfl, HD.out.mono (fun k hk => .inl hk) (Nat.le_succ c), Fr.refl _ _⟩
  · have hse : (s.toList == []) = false := beq_eq_false_iff_ne.mpr hs
    have hsi : s.toList.isEmpty = false := by cases h : s.toList with | nil => exact absurd h hs | cons => rfl
    by_cases hneg : i < 0
    · have ha : addA dur acts s i = acts := if_pos (.inr (.inl hneg))
      have hr2 : addR dur acts s i = 2 := if_pos (.inr hneg)
      rw [ha]
      rw [hr2] at hr
      subst hr
      have HD := Aside0.mk hd
      clear ha hr2 hd
      go_enter Try.func43, Try.ntmps43
      go_wp2
      go_ret
      exact ⟨rfl, HD.out.mono (fun k hk => .inl hk) (Nat.le_succ c), Fr.refl _ _⟩
    · obtain ⟨bd, bn, v, n1, n2, okr, hin, o1, o2, o3, o4, h2, h3⟩ := hd.out
      obtain ⟨D, hown, hrp⟩ := hin.mn
      have hc1 := cell_of_blk hin.cells 1 rfl
      have HOWN := Aside0.mk hown
      have HK := Aside0.mk (keyS hl)
      have HD := Aside0.mk hd
      have HL := Aside0.mk hl
      have HI := Aside0.mk hi
      have HC := Aside0.mk hc
      cases hg : getE (afterE dur acts) s with
      | some g =>
        have ha : addA dur acts s i = acts := if_pos (.inr (.inr (by rw [hg]; rfl)))
        have hr2 : addR dur acts s i = 81 := by rw [addR, if_neg (show ¬ (s.toList = [] ∨ i < 0) from fun h => h.elim hs hneg), if_pos (by rw [hg]; rfl)]
        rw [ha]
        rw [hr2] at hr
        subst hr
        have HH := Aside0.mk ((hrp.2 s).1.trans (by rw [hg]; rfl : _ = true))
        clear ha hr2 hd hown hrp hin hl hi hc hg h2 h3
        go_enter Try.func43, Try.ntmps43
        go_wp2_with (at_lookup; refine wpList_lookup_own_ok_int _ rfl _ _ 94 rfl 9 3 .i64 lawS Try.underlying94 Try.underlying3 (zeroI _) bn n2 D rfl HOWN.out _ _ rfl HK.out ?_; intro c0 hat hwc; rw [HH.out]; clear hat hwc)
        go_ret
        exact ⟨rfl, HD.out.mono (fun k hk => .inl hk) (Nat.le_succ c), Fr.refl _ _⟩
      | none =>
        have ha : addA dur acts s i = acts ++ [⟨true, ⟨s, i⟩⟩] := if_neg (fun h => h.elim hs (fun h => h.elim hneg (fun h => by rw [hg] at h; cases h)))
        have hr2 : addR dur acts s i = 0 := by rw [addR, if_neg (show ¬ (s.toList = [] ∨ i < 0) from fun h => h.elim hs hneg), if_neg (by rw [hg]; decide)]
        rw [ha]
        rw [hr2] at hr
        subst hr
        have HH := Aside0.mk ((hrp.2 s).1.trans (by rw [hg]; rfl : _ = false))
        have HG := Aside0.mk hg
        clear ha hr2 hd hown hrp hin hl hi hc hg h2 h3
        go_enter Try.func43, Try.ntmps43
        go_wp2_with (first
          | (at_lookup; refine wpList_lookup_own_ok_int _ rfl _ _ 94 rfl 9 3 .i64 lawS Try.underlying94 Try.underlying3 (zeroI _) bn n2 D rfl HOWN.out _ _ rfl HK.out ?_; intro c0 hat hwc; rw [HH.out]; clear hat hwc)
          | (go_at_call 63; refine (act_add p ok dur acts c s i _ HD.out HL.out HI.out HG.out HC.out).mono ?_; rintro e w1 ⟨rfl, hda, hf⟩; have HDA := Aside0.mk hda; have HF := Aside0.mk hf; clear hda hf))
        go_ret
        exact ⟨rfl, HDA.out, HF.out⟩
set_option maxHeartbeats 4000000 in
theorem Remove_calls (p : Nat) (ok : Nat → Prop) (dur : List En) (acts : List Ac) (c : Nat) (s : ByteArray) (g r : Int) (w : World) (hd : DirAt w p ok dur acts c) (hl : s.size ≤ 200) (hc : c < 100000) (hg : (getE (afterE dur acts) s).getD 0 = g) (hr : remR dur acts s = r) :
    Calls Try.prog 41 #[.pointer (some ⟨p, 0, none⟩), .string s] w fun e w' => e = .returned (.tuple #[.int .i64 g, .int .i64 r]) ∧ DirAt w' p (fun k => ok k ∨ w.heap.size ≤ k) dur (remA dur acts s) (c + 1) ∧ Fr w w' ok := by
  obtain ⟨bd, bn, v, n1, n2, okr, hin, o1, o2, o3, o4, h2, h3⟩ := hd.out
  obtain ⟨D, hown, hrp⟩ := hin.mn
  have hc1 := cell_of_blk hin.cells 1 rfl
  have HOWN := Aside0.mk hown
  have HK := Aside0.mk (keyS hl)
  have HD := Aside0.mk hd
  have HL := Aside0.mk hl
  have HC := Aside0.mk hc
  have HR := Aside0.mk (fun c hc => (hrp.get s (c := c) hc).trans hg)
  cases hq : getE (afterE dur acts) s with
  | none =>
    rw [hq] at hg
    have hr2 : remR dur acts s = 80 := if_neg (by rw [hq]; decide)
    rw [hr2] at hr
    subst hr
    have hg : (0 : Int) = g := hg
    subst hg
    have ha : remA dur acts s = acts := by unfold remA; rw [hq]
    rw [ha]
    have HH := Aside0.mk ((hrp.2 s).1.trans (by rw [hq]; rfl : _ = false))
    clear ha hr2 hd hown hrp hin hl hc hq h2 h3
    go_enter Try.func41, Try.ntmps41
    go_wp2_with (at_lookup; refine wpList_lookup_own_ok_int _ rfl _ _ 94 rfl 9 3 .i64 lawS Try.underlying94 Try.underlying3 (zeroI _) bn n2 D rfl HOWN.out _ _ rfl HK.out ?_; intro c0 hat hwc; rw [HH.out]; clear hat hwc)
    go_ret2
    exact ⟨rfl, HD.out.mono (fun k hk => .inl hk) (Nat.le_succ c), Fr.refl _ _⟩
  | some g0 =>
    rw [hq] at hg
    have hg : g0 = g := hg
    subst hg
    have hr2 : remR dur acts s = 0 := if_pos (by rw [hq]; rfl)
    rw [hr2] at hr
    subst hr
    have ha : remA dur acts s = acts ++ [⟨false, ⟨s, g0⟩⟩] := by unfold remA; rw [hq]
    rw [ha]
    have HH := Aside0.mk ((hrp.2 s).1.trans (by rw [hq]; rfl : _ = true))
    have HI := Aside0.mk ((hd.fine.after acts hd.va) _ (getE_some hq)).2
    have HG := Aside0.mk (show (getE (afterE dur acts) s).isSome = true by rw [hq]; rfl)
    clear ha hr2 hd hown hrp hin hl hc hq h2 h3
    go_enter Try.func41, Try.ntmps41
    go_wp2_with (first
      | (at_lookup; refine wpList_lookup_own_ok_int _ rfl _ _ 94 rfl 9 3 .i64 lawS Try.underlying94 Try.underlying3 (zeroI _) bn n2 D rfl HOWN.out _ _ rfl HK.out ?_; intro c0 hat hwc; obtain rfl : g0 = c0 := (HR.out c0 hat).symm; rw [HH.out]; clear hat hwc)
      | (go_at_call 63; refine (act_remove p ok dur acts c s g0 _ HD.out HL.out HI.out HG.out HC.out).mono ?_; rintro e w1 ⟨rfl, hda, hf⟩; have HDA := Aside0.mk hda; have HF := Aside0.mk hf; clear hda hf))
    go_ret2
    exact ⟨rfl, HDA.out, HF.out⟩
end Go.Proofs.Ytbpnbhccdpobpaa
