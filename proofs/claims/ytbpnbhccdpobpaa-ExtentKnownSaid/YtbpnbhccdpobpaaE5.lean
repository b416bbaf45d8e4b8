import Derived.Test.YtbpnbhccdpobpaaE4
/-! extent.File: Sync. -/
set_option linter.unusedVariables false
set_option linter.unusedSimpArgs false
namespace Go.Proofs.Ytbpnbhccdpobpaa
open Go.RowKit Go.Proofs.YtbpnbhccdpobpaaW.PrintWords PExtentKnown

def dur (p : S52) : S52 := ⟨p.f0, true⟩
theorem done_step {α : Type} (f : α → α) (ps : List α) (k : Nat) (hk : k < ps.length) : ((ps.take k).map f ++ ps.drop k).set k (f ps[k]) = (ps.take (k + 1)).map f ++ ps.drop (k + 1) := by
  have hl : ((ps.take k).map f).length = k := by rw [List.length_map, List.length_take]; omega
  rw [List.set_append, if_neg (by omega), hl, Nat.sub_self, List.drop_eq_getElem_cons hk, List.set_cons_zero, List.take_succ_eq_append_getElem hk, List.map_append, List.append_assoc]
  rfl
theorem done_at {α : Type} (f : α → α) (ps : List α) (k : Nat) (hk : k < ps.length) (z : α) : ((ps.take k).map f ++ ps.drop k).getD k z = ps[k] := by
  have hl : ((ps.take k).map f).length = k := by rw [List.length_map, List.length_take]; omega
  rw [List.getD_eq_getElem?_getD, List.getElem?_append_right (by omega), hl, Nat.sub_self, List.getElem?_drop, Nat.add_zero, List.getElem?_eq_getElem hk]
  rfl
theorem done_len {α : Type} (f : α → α) (ps : List α) (k : Nat) (hk : k ≤ ps.length) : ((ps.take k).map f ++ ps.drop k).length = ps.length := by
  rw [List.length_append, List.length_map, List.length_take, List.length_drop]; omega

set_option maxHeartbeats 1000000 in
set_option maxRecDepth 100000 in
theorem sync_nil_calls (w : World) : Calls Try.prog 17 #[.pointer none] w fun e w' => e = .returned (.tuple #[]) ∧ w = w' := by
  go_enter Try.func17, Try.ntmps17
  go_wp2
  first | go_end0 | refine bodyPost_ret (results_none rfl _ _ _) rfl ?_
  exact ⟨rfl, rfl⟩

set_option maxHeartbeats 1000000 in
set_option maxRecDepth 100000 in
theorem sync_calls (g : Nat) (ok : Nat → Prop) (ps : List S52) (w : World) (hf : FileAt w g ok ps) (hl : ps.length ≤ 1000000) :
    Calls Try.prog 17 #[.pointer (some ⟨g, 0, none⟩)] w fun e w' => e = .returned (.tuple #[]) ∧ Fr w w' (fun k => k = g) ∧ FileAt w' g (fun k => (ok k ∨ w.heap.size ≤ k) ∧ k ≠ g) ((tidyOf ps).map dur) := by
  have HF := Aside0.mk hf
  have HLT := Aside0.mk hf.lt
  have hlt2 : (tidyOf ps).length ≤ 1000000 := Nat.le_trans (List.length_filter_le _ _) hl
  clear hf
  go_enter Try.func17, Try.ntmps17
  go_wp2_with (go_at_call 45; refine (tidy_calls g ok ps w HF.out (by omega)).mono ?_; rintro e w1 ⟨rfl, hk1, A, n, c, hb1, hN1⟩; obtain ⟨hn, hnc, -⟩ := Kd.N_reads' hN1; subst hn; have hcell1 := blk_cell hb1 0; simp at hcell1; have HK1 := Aside0.mk hk1; have HB1 := Aside0.mk hb1; have HN1 := Aside0.mk hN1; clear hk1 hb1 hN1)
  go_loopw [12] (fun v12 wr => ∃ k : Nat, k ≤ (tidyOf ps).length ∧ v12 = .int .i64 k ∧ Aside0 (wr.heap[g]? = some (.cells #[.slice A (tidyOf ps).length c] 30 (0, 0))) ∧ Aside0 (Fr w wr (fun k => k = g)) ∧ Aside0 (Kd.N k52 52 wr w.heap.size (fun k => (ok k ∨ w.heap.size ≤ k) ∧ k ≠ g) (.slice A (tidyOf ps).length c) (((tidyOf ps).take k).map dur ++ (tidyOf ps).drop k))) (fun v12 _ => (tidyOf ps).length - (intOf v12).toNat)
  case atStart => exact ⟨0, Nat.zero_le _, rfl, HB1, HK1, ⟨by simpa using HN1.out⟩⟩
  case round =>
    obtain ⟨k, hk, rfl, HB, HK, HN⟩ := hrel
    have hcell := blk_cell HB.out 0
    simp at hcell
    by_cases hlt : k < (tidyOf ps).length
    · have hlen := done_len dur (tidyOf ps) k (by omega)
      obtain ⟨gA, capA, he, -⟩ := Kd.N_form HN.out (by omega)
      injection he with hA hl2 hc2
      clear hl2
      subst hc2
      subst hA
      obtain ⟨cc, hcl, hfk, hcc, hfr⟩ := Kd.N_elem HN.out ⟨[], false⟩ (k : Int) (by omega) (by omega)
      rw [Int.toNat_natCast, done_at dur _ k hlt] at hfk
      obtain ⟨A0, c0, rfl, hl0, hF0⟩ := k52_openF hfk
      have g1 := hcc 1 _ rfl
      have f1 := hfr 1
      rw [show k52.sz = 2 from rfl, Int.toNat_natCast] at g1 f1
      have HC := Aside0.mk hcc
      have HL0 := Aside0.mk hl0
      have HF0 := Aside0.mk hF0
      have HLEN := Aside0.mk hlen
      clear hcc hfr hcl hfk hl0 hF0 hlen
      go_wp2
      go_roundw
      case rel =>
        have hseg := Kd.N_seg HN.out (k : Int) (by omega) (by omega) (seg := [.bool true]) (j := 1) (x' := dur (tidyOf ps)[k]) (okp := fun k => ((ok k ∨ w.heap.size ≤ k) ∧ k ≠ g) ∧ k ≠ gA) rfl HC.out (Nat.le_refl 2) (k52_mkF _ _ (dur (tidyOf ps)[k]) HL0.out HF0.out) (fun k hk => hk)
        have hgA : gA ≠ g := (HN.out.1 gA rfl).2
        refine ⟨k + 1, by omega, by go_num, ⟨blk_far HB.out (p := ⟨gA, k * 2 + 1, none⟩) (fun h => hgA h.symm) _⟩, ⟨Fr.setCell HK.out (.inr (Kd.N_base HN.out gA rfl)) _⟩, ⟨?_⟩⟩
        rw [← done_step dur _ k hlt]
        exact hseg.1
      case measure => simp [intOf]; omega
    · obtain rfl : k = (tidyOf ps).length := by omega
      go_wp2
      first | go_end0 | refine bodyPost_ret (results_none rfl _ _ _) rfl ?_
      refine ⟨rfl, HK.out, ?_⟩
      have hN := HN.out
      rw [List.take_length, List.drop_length, List.append_nil] at hN
      exact FileAt.of_tidy HB.out hN
end Go.Proofs.Ytbpnbhccdpobpaa
