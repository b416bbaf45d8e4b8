import Derived.Test.YtkpfpgggkbaefaaDoorA3
import Derived.Test.YtkpfpgggkbaefaaDoorD2
/-! slices.Index at the heads. -/
set_option linter.unusedVariables false
set_option linter.unusedSimpArgs false
namespace Go.Proofs.YtkpfpgggkbaefaaDoor
open Go.RowKit Go.Proofs.YtkpfpgggkbaefaaDoorW.PrintWords Go.Proofs.YtkpfpgggkbaefaaDoorW.PrintLast Go.Proofs.YtkpfpgggkbaefaaDoorW.PrintMore Go.Lib Plain

theorem str_eq (a b : ByteArray) : (a.toList == b.toList) = decide (a = b) := by
  rw [ByteArray.toList_eq, ByteArray.toList_eq]
  by_cases h : a = b
  · subst h; simp
  · rw [decide_eq_false h]
    refine beq_eq_false_iff_ne.mpr (fun he => h ?_)
    obtain ⟨⟨x⟩⟩ := a
    obtain ⟨⟨y⟩⟩ := b
    have : x = y := he
    rw [this]
def hd (j : Nat) : ByteArray := if j = 0 then ⟨#[115]⟩ else if j = 1 then ⟨#[98]⟩ else if j = 2 then ⟨#[116]⟩ else ⟨#[106]⟩
def kindIx (x : ByteArray) : Int := if x = hd 0 then 0 else if x = hd 1 then 1 else if x = hd 2 then 2 else if x = hd 3 then 3 else -1
def headCells : Array Value := #[.string ⟨#[]⟩, .string ⟨#[115]⟩, .string ⟨#[98]⟩, .string ⟨#[116]⟩, .string ⟨#[106]⟩]
theorem head_cell {w : World} {g : Nat} {t : TypeId} (h : w.heap[g]? = some (.cells headCells t (0, 0))) (j : Nat) (hj : j < 4) : w.cell? ⟨g, 1 + j, none⟩ = some (.string (hd j)) := by
  have h4 : j = 0 ∨ j = 1 ∨ j = 2 ∨ j = 3 := by omega
  rcases h4 with rfl | rfl | rfl | rfl <;> simp [World.cell?, h, headCells, hd]
theorem kindIx_at {x : ByteArray} {j : Nat} (hj : j < 4) (hb : ∀ i, i < j → x ≠ hd i) (h : x = hd j) : kindIx x = j := by
  have h4 : j = 0 ∨ j = 1 ∨ j = 2 ∨ j = 3 := by omega
  unfold kindIx
  rcases h4 with rfl | rfl | rfl | rfl
  · rw [if_pos h]; rfl
  · rw [if_neg (hb 0 (by decide)), if_pos h]; rfl
  · rw [if_neg (hb 0 (by decide)), if_neg (hb 1 (by decide)), if_pos h]; rfl
  · rw [if_neg (hb 0 (by decide)), if_neg (hb 1 (by decide)), if_neg (hb 2 (by decide)), if_pos h]; rfl
theorem kindIx_none {x : ByteArray} (hb : ∀ i, i < 4 → x ≠ hd i) : kindIx x = -1 := by
  unfold kindIx
  rw [if_neg (hb 0 (by decide)), if_neg (hb 1 (by decide)), if_neg (hb 2 (by decide)), if_neg (hb 3 (by decide))]
set_option maxHeartbeats 4000000 in
set_option maxRecDepth 100000 in
theorem idx_calls (g c : Nat) (t : TypeId) (x : ByteArray) (w : World) (hh : w.heap[g]? = some (.cells headCells t (0, 0))) :
    Calls Tryd.prog 23 #[.slice (some ⟨g, 1, none⟩) 4 c, .string x] w fun e w' => e = .returned (.int .i64 (kindIx x)) ∧ w' = w := by
  have HH := Aside0.mk hh
  clear hh
  go_enter Tryd.func23, Tryd.ntmps23
  go_wp2
  go_loopw [8] (fun v8 wr => ∃ j : Nat, j ≤ 4 ∧ v8 = .int .i64 j ∧ Aside0 (∀ i, i < j → x ≠ hd i) ∧ wr = w) (fun v8 _ => 4 - (RowKit.intOf v8).toNat)
  case atStart => exact ⟨0, by omega, rfl, ⟨fun i hi => by omega⟩, rfl⟩
  case round =>
    obtain ⟨j, hj, rfl, HB, rfl⟩ := hrel
    by_cases hlt : j < 4
    · have hltI : (j : Int) < 4 := by omega
      have hcell := head_cell HH.out j hlt
      by_cases hx : x = hd j
      · have HX := Aside0.mk (kindIx_at hlt HB.out hx)
        have hb1 : (x.toList == (hd j).toList) = true := by rw [str_eq]; exact decide_eq_true hx
        clear hx
        go_wp2
        go_ret
        exact ⟨by rw [HX.out]; rfl, rfl⟩
      · have hb1 : (x.toList == (hd j).toList) = false := by rw [str_eq]; exact decide_eq_false hx
        have hx' := Aside0.mk hx
        clear hx
        go_wp2
        exact ⟨⟨j + 1, by omega, rfl, ⟨fun i hi => by rcases Nat.lt_succ_iff_lt_or_eq.mp hi with h | h; exact HB.out i h; subst h; exact hx'.out⟩, trivial⟩, by simp [RowKit.intOf]; omega⟩
    · obtain rfl : j = 4 := by omega
      have HX := Aside0.mk (kindIx_none HB.out)
      go_wp2
      go_ret
      exact ⟨by rw [HX.out]; rfl, rfl⟩
end Go.Proofs.YtkpfpgggkbaefaaDoor
