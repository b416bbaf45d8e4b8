import Derived.Test.YtbpnbhccdpobpaaE6
/-! extent.Of. -/
set_option linter.unusedVariables false
set_option linter.unusedSimpArgs false
namespace Go.Proofs.Ytbpnbhccdpobpaa
open Go.RowKit Go.Proofs.YtbpnbhccdpobpaaW.PrintWords PExtentKnown

theorem tidyOf_idem (ps : List S52) : tidyOf (tidyOf ps) = tidyOf ps := by unfold tidyOf; rw [List.filter_filter]; simp
theorem tidyOf_append (ps qs : List S52) : tidyOf (ps ++ qs) = tidyOf ps ++ tidyOf qs := by unfold tidyOf; rw [List.filter_append]
theorem tidyOf_tidy (ps qs : List S52) : tidyOf (tidyOf ps ++ qs) = tidyOf (ps ++ qs) := by rw [tidyOf_append, tidyOf_append, tidyOf_idem]
theorem tidyOf_length (ps : List S52) : (tidyOf ps).length ≤ ps.length := List.length_filter_le _ _
def vol (b : List Int) : S52 := ⟨b, false⟩
def ofOf (l : List (List Int)) : List S52 := (tidyOf (l.map vol)).map dur

theorem FileAt.new (w : World) (ok : Nat → Prop) : FileAt (w.alloc (.cells #[.slice none 0 0] 30 (0, 0))) w.heap.size (fun _ => False) [] :=
  ⟨⟨none, 0, blk_new _ _, Nat.le_refl _, Kd.F_nil _ _ _, fun h => h⟩⟩

set_option maxHeartbeats 1000000 in
set_option maxRecDepth 100000 in
theorem of_calls (A : Option Addr) (n c : Nat) (l : List (List Int)) (okl : Nat → Prop) (w : World) (hF : Kd.F (Kd.slice 5 (Kd.int .u8)) w okl A n l) (hn : n ≤ c) (hl : n ≤ 100000) (hlb : ∀ b ∈ l, b.length ≤ 1000000) :
    Calls Try.prog 13 #[.slice A n c] w fun e w' => ∃ A' n' c', e = .returned (.agg #[.slice A' n' c']) ∧ Below w.heap.size w w' ∧ n' ≤ c' ∧ n' = (ofOf l).length ∧ Kd.F k52 w' (fun k => w.heap.size ≤ k) A' n' (ofOf l) := by
  have HF := Aside0.mk (Kd.F_bound hF)
  have hll := Kd.F_len hF
  have HLL := Aside0.mk hll
  have HLB := Aside0.mk hlb
  clear hF hlb hll
  go_enter Try.func13, Try.ntmps13
  go_wp2
  go_loopw [9] (fun v9 wr => ∃ k : Nat, k ≤ n ∧ v9 = .int .i64 k ∧ Aside0 (FileAt wr (w.heap.size + 1) (fun j => w.heap.size + 2 ≤ j) (tidyOf ((l.take k).map vol))) ∧ Aside0 (wr.heap[w.heap.size]? = some (.cells #[.slice none 0 0] 30 (0, 0))) ∧ Aside0 (Fr w wr (fun _ => False))) (fun v9 _ => n - (intOf v9).toNat)
  case atStart =>
    refine ⟨0, Nat.zero_le _, rfl, ⟨?_⟩, ⟨blk_alloc (blk_new _ _) _⟩, ⟨Fr.alloc (Fr.alloc (Fr.refl _ _) _) _⟩⟩
    have h := FileAt.new (w.alloc (.cells #[.slice none 0 0] 30 (0, 0))) (fun _ => True)
    rw [World.size_alloc] at h
    exact h.mono (fun j hj => hj.elim) (by omega)
  case round =>
    obtain ⟨k, hk, rfl, HFA, HB, HFR⟩ := hrel
    have hsz : w.heap.size + 2 ≤ wr.heap.size := by have := HFA.out.lt; omega
    have hlen : (tidyOf ((l.take k).map vol)).length ≤ 100000 := Nat.le_trans (tidyOf_length _) (by rw [List.length_map, List.length_take]; omega)
    by_cases hlt : k < n
    · have hkl : k < l.length := by have := HLL.out; omega
      obtain ⟨ad, A', c', rfl, hcell, hlc, hFb⟩ := F_getS (Kd.F_kept HF.out HFR.out.kept (fun _ _ h => h)) k hkl
      have hb1 := HLB.out _ (List.getElem_mem hkl)
      have HFb := Aside0.mk hFb
      have HSZ := Aside0.mk hsz
      clear hFb hsz
      go_wp2_with (go_at_call 21; refine (append_calls (w.heap.size + 1) (fun j => w.heap.size + 2 ≤ j) _ A' l[k].length c' l[k] _ wr HFA.out (by omega) HFb.out hlc hb1).mono ?_; rintro e w1 ⟨rfl, hk1, hf1⟩; have HK1 := Aside0.mk hk1; have HF1 := Aside0.mk hf1; clear hk1 hf1)
      go_roundw
      case rel =>
        have hs := HSZ.out
        refine ⟨k + 1, by omega, by go_num, ⟨?_⟩, ⟨(HK1.out.2.1 _ (by omega) (by omega)).trans HB.out⟩, ⟨HFR.out.then_ HK1.out (fun j hj => .inr (by omega))⟩⟩
        have h := HF1.out
        rw [tidyOf_tidy, show (l.take k).map vol ++ [(⟨l[k], false⟩ : S52)] = (l.take (k + 1)).map vol by rw [List.take_succ_eq_append_getElem hkl, List.map_append]; rfl] at h
        exact h.mono (fun j hj => by rcases hj.1 with h | h <;> omega) (by omega)
      case measure => simp [intOf]; omega
    · obtain rfl : k = n := by omega
      have HSZ := Aside0.mk hsz
      clear hsz
      have hX : (tidyOf (tidyOf ((l.take k).map vol))).map dur = ofOf l := by
        rw [tidyOf_idem, List.take_of_length_le (by rw [HLL.out]; exact Nat.le_refl _)]; rfl
      have HX := Aside0.mk hX
      clear hX
      go_wp2_with (go_at_call 17; refine (sync_calls (w.heap.size + 1) (fun j => w.heap.size + 2 ≤ j) _ wr HFA.out (by omega)).mono ?_; rintro e w1 ⟨rfl, hk1, hf1⟩; rw [HX.out] at hf1; obtain ⟨A1, c1, hb1, hc1, hF1, hg1⟩ := hf1.out; have hcell1 := blk_cell hb1 0; have hres := (hk1.2.1 _ (by have := HSZ.out; omega) (by omega)).trans HB.out; have hcellr := blk_cell hres 0; have hfrr := blk_frozen hres 0; simp at hcell1 hcellr; have HK1 := Aside0.mk hk1; have HF1 := Aside0.mk hF1; have HRES := Aside0.mk hres; clear hk1 hf1 hb1 hF1 hg1 hres)
      have hs := HSZ.out
      have hFr : Fr w w1 (fun _ => False) := HFR.out.then_ HK1.out (fun j hj => .inr (by omega))
      refine bodyPost_ret (v := .agg #[.slice A1 (ofOf l).length c1]) ?_ rfl ⟨A1, _, c1, rfl, Fr.below (Fr.setCell (S := fun j => j = w.heap.size) (p := ⟨w.heap.size, 0, none⟩) (hFr.mono (fun _ h => h.elim)) (.inl rfl) _) (fun j hj => by omega), hc1, rfl, ?_⟩
      · simp [results, Try.results13, go_sem, hcellr]
      · exact Kd.F_mono (Kd.F_far (p := ⟨w.heap.size, 0, none⟩) HF1.out (fun j hj => by have h2 := hj.1; show j ≠ w.heap.size; rcases h2 with h | h <;> omega) _) (fun j hj => by rcases hj.1 with h | h <;> omega)
end Go.Proofs.Ytbpnbhccdpobpaa
