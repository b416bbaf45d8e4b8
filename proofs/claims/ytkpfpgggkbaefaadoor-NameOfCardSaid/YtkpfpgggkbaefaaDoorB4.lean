import Derived.Test.YtkpfpgggkbaefaaDoorB3
import Derived.Test.YtkpfpgggkbaefaaDoorA9
/-! law 04: NameOf. -/
set_option linter.unusedVariables false
set_option linter.unusedSimpArgs false
namespace Go.Proofs.YtkpfpgggkbaefaaDoor
open Go.RowKit Go.Proofs.YtkpfpgggkbaefaaDoorW.PrintWords Go.Proofs.YtkpfpgggkbaefaaDoorW.PrintLast Go.Proofs.YtkpfpgggkbaefaaDoorW.PrintMore Go.Lib Plain

theorem rputV_calls (kd e n p i k : Nat) (t : List UInt8) (ht : putB ⟨kd, e, n, p, i, k⟩ = t) (hf : (⟨kd, e, n, p, i, k⟩ : Nm).Fits) (w : World) : Calls Tryd.prog 15 #[.agg #[.int .u8 kd, .int .u64 e, .int .u64 n, .int .u64 p, .int .u64 i, .int .u64 k]] w fun e w' => e = .returned (.string ⟨t.toArray⟩) ∧ Below w.heap.size w w' := by
  rw [← ht]
  exact rput_calls kd e n p i k hf w
def nmCells (a b c d : Nat) : Array Value := #[.int .u8 1, .int .u64 a, .int .u64 b, .int .u64 0, .int .u64 0, .int .u64 0, .int .u8 2, .int .u64 a, .int .u64 b, .int .u64 0, .int .u64 0, .int .u64 0, .int .u8 3, .int .u64 0, .int .u64 0, .int .u64 a, .int .u64 b, .int .u64 c, .int .u8 4, .int .u64 a, .int .u64 0, .int .u64 b, .int .u64 c, .int .u64 d]
def nmStrs (a b c d : Nat) : Array Value := #[.string ⟨(putB ⟨1, a, b, 0, 0, 0⟩).toArray⟩, .string ⟨(putB ⟨2, a, b, 0, 0, 0⟩).toArray⟩, .string ⟨(putB ⟨3, 0, 0, a, b, c⟩).toArray⟩, .string ⟨(putB ⟨4, a, 0, b, c, d⟩).toArray⟩]
/-- The j-th of the four. -/
theorem nm_at (a b c d : Nat) (ha : a < 18446744073709551616) (hb : b < 18446744073709551616) (hc : c < 18446744073709551616) (hd : d < 18446744073709551616) (j : Nat) (hj : j < 4) (w : World) (gl gs : Nat) (tl ts : TypeId)
    (hl : w.heap[gl]? = some (.cells (nmCells a b c d) tl (0, 0))) (hs : w.heap[gs]? = some (.cells (nmStrs a b c d) ts (0, 0))) :
    ∃ (kd e n p i k : Nat) (t : List UInt8), w.cell? ⟨gs, j, none⟩ = some (.string ⟨t.toArray⟩) ∧ w.cell? ⟨gl, 6 * j, none⟩ = some (.int .u8 kd) ∧ w.cell? ⟨gl, 6 * j + 1, none⟩ = some (.int .u64 e) ∧ w.cell? ⟨gl, 6 * j + 2, none⟩ = some (.int .u64 n) ∧ w.cell? ⟨gl, 6 * j + 3, none⟩ = some (.int .u64 p) ∧ w.cell? ⟨gl, 6 * j + 4, none⟩ = some (.int .u64 i) ∧ w.cell? ⟨gl, 6 * j + 5, none⟩ = some (.int .u64 k) ∧ mayB ⟨kd, e, n, p, i, k⟩ = true ∧ putB ⟨kd, e, n, p, i, k⟩ = t ∧ (⟨kd, e, n, p, i, k⟩ : Nm).Fits := by
  have h4 : j = 0 ∨ j = 1 ∨ j = 2 ∨ j = 3 := by omega
  have z : (0 : Nat) < 18446744073709551616 := by decide
  rcases h4 with rfl | rfl | rfl | rfl
  · exact ⟨1, a, b, 0, 0, 0, _, by simp [World.cell?, hs, nmStrs], by simp [World.cell?, hl, nmCells], by simp [World.cell?, hl, nmCells], by simp [World.cell?, hl, nmCells], by simp [World.cell?, hl, nmCells], by simp [World.cell?, hl, nmCells], by simp [World.cell?, hl, nmCells], by rw [may_of]; simp, rfl, ⟨by show (1 : Nat) < 256; decide, ha, hb, z, z, z⟩⟩
  · exact ⟨2, a, b, 0, 0, 0, _, by simp [World.cell?, hs, nmStrs], by simp [World.cell?, hl, nmCells], by simp [World.cell?, hl, nmCells], by simp [World.cell?, hl, nmCells], by simp [World.cell?, hl, nmCells], by simp [World.cell?, hl, nmCells], by simp [World.cell?, hl, nmCells], by rw [may_of]; simp, rfl, ⟨by show (2 : Nat) < 256; decide, ha, hb, z, z, z⟩⟩
  · exact ⟨3, 0, 0, a, b, c, _, by simp [World.cell?, hs, nmStrs], by simp [World.cell?, hl, nmCells], by simp [World.cell?, hl, nmCells], by simp [World.cell?, hl, nmCells], by simp [World.cell?, hl, nmCells], by simp [World.cell?, hl, nmCells], by simp [World.cell?, hl, nmCells], by rw [may_of]; simp, rfl, ⟨by show (3 : Nat) < 256; decide, z, z, ha, hb, hc⟩⟩
  · exact ⟨4, a, 0, b, c, d, _, by simp [World.cell?, hs, nmStrs], by simp [World.cell?, hl, nmCells], by simp [World.cell?, hl, nmCells], by simp [World.cell?, hl, nmCells], by simp [World.cell?, hl, nmCells], by simp [World.cell?, hl, nmCells], by simp [World.cell?, hl, nmCells], by rw [may_of]; simp, rfl, ⟨by show (4 : Nat) < 256; decide, ha, z, hb, hc, hd⟩⟩
set_option maxHeartbeats 8000000 in
set_option maxRecDepth 100000 in
theorem nameof_calls (a b c d : Nat) (ha : a < 18446744073709551616) (hb : b < 18446744073709551616) (hc : c < 18446744073709551616) (hd : d < 18446744073709551616) (w : World) (hG : Glob w) :
    Calls Tryd.prog 4 #[.int .u64 a, .int .u64 b, .int .u64 c, .int .u64 d] w fun e w' => e = .returned (.bool true) ∧ Below w.heap.size w w' := by
  have HG := Aside0.mk hG
  have HA := Aside0.mk ha
  have HB := Aside0.mk hb
  have HC := Aside0.mk hc
  have HD := Aside0.mk hd
  clear hG ha hb hc hd
  go_enter Tryd.func4, Tryd.ntmps4
  go_upto_region 2 with fail
  change Code.wp _ _ _ _ (w.alloc (.cells (nmCells a b c d) 25)) at ⊢
  have HB1 := Aside0.mk (below_alloc (Below.refl w.heap.size w) (.cells (nmCells a b c d) 25))
  have HL1 := Aside0.mk (heap_alloc_new w (.cells (nmCells a b c d) 25))
  generalize w.alloc (.cells (nmCells a b c d) 25) = w1 at HB1 HL1 ⊢
  go_upto_region 3 with (first
    | (go_at_call 11; refine (ofSlot_calls a b HA.out HB.out _ (HG.out.below HB1.out)).mono ?_; rintro e w2 ⟨rfl, hb⟩; have HB2 := Aside0.mk (below_step HB1.out hb); have HL2 := Aside0.mk ((hb.block _ (Array.getElem?_eq_some_iff.1 HL1.out).1).trans HL1.out); clear hb)
    | (go_at_call 12; refine (ofBase_calls a b HA.out HB.out _ (HG.out.below HB2.out)).mono ?_; rintro e w3 ⟨rfl, hb⟩; have HB3 := Aside0.mk (below_step HB2.out hb); have HL3 := Aside0.mk ((hb.block _ (Array.getElem?_eq_some_iff.1 HL2.out).1).trans HL2.out); clear hb)
    | (go_at_call 13; refine (ofTemp_calls a b c HA.out HB.out HC.out _ (HG.out.below HB3.out)).mono ?_; rintro e w4 ⟨rfl, hb⟩; have HB4 := Aside0.mk (below_step HB3.out hb); have HL4 := Aside0.mk ((hb.block _ (Array.getElem?_eq_some_iff.1 HL3.out).1).trans HL3.out); clear hb)
    | (go_at_call 14; refine (ofSeg_calls a b c d HA.out HB.out HC.out HD.out _ (HG.out.below HB4.out)).mono ?_; rintro e w5 ⟨rfl, hb⟩; have HB5 := Aside0.mk (below_step HB4.out hb); have HL5 := Aside0.mk ((hb.block _ (Array.getElem?_eq_some_iff.1 HL4.out).1).trans HL4.out); clear hb))
  change Code.wp _ _ _ _ (w5.alloc (.cells (nmStrs a b c d) 9)) at ⊢
  have hbx := below_alloc (Below.refl _ w5) (.cells (nmStrs a b c d) 9)
  have HB6 := Aside0.mk (below_step HB5.out hbx)
  have HL6 := Aside0.mk ((hbx.block _ (Array.getElem?_eq_some_iff.1 HL5.out).1).trans HL5.out)
  have HS6 := Aside0.mk (heap_alloc_new w5 (.cells (nmStrs a b c d) 9))
  clear hbx HB1 HB2 HB3 HB4 HB5 HL1 HL2 HL3 HL4 HL5
  generalize w5.alloc (.cells (nmStrs a b c d) 9) = w6 at HB6 HL6 HS6 ⊢
  generalize w5.heap.size = gs at HS6 ⊢
  generalize hgl : w.heap.size = gl at HL6 ⊢
  have HGL := Aside0.mk hgl
  clear hgl
  go_wp2
  go_loopw [8, 11, 12, 13] (fun v8 v11 v12 v13 wr => ∃ j : Nat, j ≤ 4 ∧ v11 = .int .i64 j ∧ Aside0 (Below w.heap.size w wr) ∧ Aside0 (wr.heap[gl]? = some (.cells (nmCells a b c d) 25 (0, 0))) ∧ Aside0 (wr.heap[gs]? = some (.cells (nmStrs a b c d) 9 (0, 0)))) (fun _ v11 _ _ _ => 4 - (RowKit.intOf v11).toNat)
  case atStart => exact ⟨0, by omega, rfl, HGL.out ▸ HB6, HL6, HS6⟩
  case round =>
    obtain ⟨j, hj, rfl, HBR, HLR, HSR⟩ := hrel
    clear HB6 HL6 HS6
    by_cases hlt : j < 4
    · have h4 : j = 0 ∨ j = 1 ∨ j = 2 ∨ j = 3 := by omega
      obtain ⟨kd, e, n, p, i, k, t, g0, g1, g2, g3, g4, g5, g6, gm, gt, gf⟩ := nm_at a b c d HA.out HB.out HC.out HD.out j hlt wr gl gs _ _ HLR.out HSR.out
      have HT := Aside0.mk gt
      have HF := Aside0.mk gf
      have HLT := Aside0.mk (show (⟨t.toArray⟩ : ByteArray).size ≤ 200 by show t.toArray.size ≤ 200; rw [List.size_toArray, ← gt]; have := putB_len gf; omega)
      have HPA := Aside0.mk (show parseB t = some ⟨kd, e, n, p, i, k⟩ by rw [← gt]; exact parse_put gm gf)
      clear gm gt gf hj hlt
      rcases h4 with rfl | rfl | rfl | rfl
      · have hs0 : wr.cell? ⟨gs, 0, none⟩ = some (.string ⟨t.toArray⟩) := g0
        have hq0 : wr.cell? ⟨gl, 0, none⟩ = some (.int .u8 kd) := g1
        have hq1 : wr.cell? ⟨gl, 1, none⟩ = some (.int .u64 e) := g2
        have hq2 : wr.cell? ⟨gl, 2, none⟩ = some (.int .u64 n) := g3
        have hq3 : wr.cell? ⟨gl, 3, none⟩ = some (.int .u64 p) := g4
        have hq4 : wr.cell? ⟨gl, 4, none⟩ = some (.int .u64 i) := g5
        have hq5 : wr.cell? ⟨gl, 5, none⟩ = some (.int .u64 k) := g6
        clear g0 g1 g2 g3 g4 g5 g6
        go_upto_region 7 with (go_at_call 8; refine (parseV_calls ⟨t.toArray⟩ kd e n p i k true (by show (parseB t).getD nm0 = _; rw [HPA.out]; rfl) (by show (parseB t).isSome = _; rw [HPA.out]; rfl) HLT.out _ (HG.out.below HBR.out)).mono ?_; rintro e w4 ⟨rfl, hb⟩; have HB4 := Aside0.mk (below_step HBR.out hb); have HL4 := Aside0.mk ((hb.block _ (Array.getElem?_eq_some_iff.1 HLR.out).1).trans HLR.out); have HS4 := Aside0.mk ((hb.block _ (Array.getElem?_eq_some_iff.1 HSR.out).1).trans HSR.out); replace hs0 := pw_cell_below hb hs0; replace hq0 := pw_cell_below hb hq0; replace hq1 := pw_cell_below hb hq1; replace hq2 := pw_cell_below hb hq2; replace hq3 := pw_cell_below hb hq3; replace hq4 := pw_cell_below hb hq4; replace hq5 := pw_cell_below hb hq5; clear hb)
        have hbx := below_alloc (Below.refl _ w4) (.cells #[.int .u8 kd, .int .u64 e, .int .u64 n, .int .u64 p, .int .u64 i, .int .u64 k] 25)
        have HB5 := Aside0.mk (below_step HB4.out hbx)
        have HL5 := Aside0.mk ((hbx.block _ (Array.getElem?_eq_some_iff.1 HL4.out).1).trans HL4.out)
        have HS5 := Aside0.mk ((hbx.block _ (Array.getElem?_eq_some_iff.1 HS4.out).1).trans HS4.out)
        replace hs0 := cell_allocs hs0 (.cells #[.int .u8 kd, .int .u64 e, .int .u64 n, .int .u64 p, .int .u64 i, .int .u64 k] 25)
        replace hq0 := cell_allocs hq0 (.cells #[.int .u8 kd, .int .u64 e, .int .u64 n, .int .u64 p, .int .u64 i, .int .u64 k] 25)
        replace hq1 := cell_allocs hq1 (.cells #[.int .u8 kd, .int .u64 e, .int .u64 n, .int .u64 p, .int .u64 i, .int .u64 k] 25)
        replace hq2 := cell_allocs hq2 (.cells #[.int .u8 kd, .int .u64 e, .int .u64 n, .int .u64 p, .int .u64 i, .int .u64 k] 25)
        replace hq3 := cell_allocs hq3 (.cells #[.int .u8 kd, .int .u64 e, .int .u64 n, .int .u64 p, .int .u64 i, .int .u64 k] 25)
        replace hq4 := cell_allocs hq4 (.cells #[.int .u8 kd, .int .u64 e, .int .u64 n, .int .u64 p, .int .u64 i, .int .u64 k] 25)
        replace hq5 := cell_allocs hq5 (.cells #[.int .u8 kd, .int .u64 e, .int .u64 n, .int .u64 p, .int .u64 i, .int .u64 k] 25)
        have hr0 : (w4.alloc (.cells #[.int .u8 kd, .int .u64 e, .int .u64 n, .int .u64 p, .int .u64 i, .int .u64 k] 25)).cell? ⟨w4.heap.size, 0, none⟩ = some (.int .u8 kd) := by go_simp
        have hr1 : (w4.alloc (.cells #[.int .u8 kd, .int .u64 e, .int .u64 n, .int .u64 p, .int .u64 i, .int .u64 k] 25)).cell? ⟨w4.heap.size, 1, none⟩ = some (.int .u64 e) := by go_simp
        have hr2 : (w4.alloc (.cells #[.int .u8 kd, .int .u64 e, .int .u64 n, .int .u64 p, .int .u64 i, .int .u64 k] 25)).cell? ⟨w4.heap.size, 2, none⟩ = some (.int .u64 n) := by go_simp
        have hr3 : (w4.alloc (.cells #[.int .u8 kd, .int .u64 e, .int .u64 n, .int .u64 p, .int .u64 i, .int .u64 k] 25)).cell? ⟨w4.heap.size, 3, none⟩ = some (.int .u64 p) := by go_simp
        have hr4 : (w4.alloc (.cells #[.int .u8 kd, .int .u64 e, .int .u64 n, .int .u64 p, .int .u64 i, .int .u64 k] 25)).cell? ⟨w4.heap.size, 4, none⟩ = some (.int .u64 i) := by go_simp
        have hr5 : (w4.alloc (.cells #[.int .u8 kd, .int .u64 e, .int .u64 n, .int .u64 p, .int .u64 i, .int .u64 k] 25)).cell? ⟨w4.heap.size, 5, none⟩ = some (.int .u64 k) := by go_simp
        clear hbx HB4 HL4 HS4 HBR HLR HSR
        generalize w4.alloc (.cells #[.int .u8 kd, .int .u64 e, .int .u64 n, .int .u64 p, .int .u64 i, .int .u64 k] 25) = w5 at HB5 HL5 HS5 hs0 hq0 hq1 hq2 hq3 hq4 hq5 hr0 hr1 hr2 hr3 hr4 hr5 ⊢
        generalize w4.heap.size = g12 at hr0 hr1 hr2 hr3 hr4 hr5 ⊢
        have HBD := Aside0.mk (below_drew (Below.refl w5.heap.size w5))
        refine start_ (n := 32) (S := fun w' => w'.cell? ⟨gs, 0, none⟩ = some (.string ⟨t.toArray⟩) ∧ w'.cell? ⟨gl, 0, none⟩ = some (.int .u8 kd) ∧ w'.cell? ⟨gl, 1, none⟩ = some (.int .u64 e) ∧ w'.cell? ⟨gl, 2, none⟩ = some (.int .u64 n) ∧ w'.cell? ⟨gl, 3, none⟩ = some (.int .u64 p) ∧ w'.cell? ⟨gl, 4, none⟩ = some (.int .u64 i) ∧ w'.cell? ⟨gl, 5, none⟩ = some (.int .u64 k) ∧ w'.cell? ⟨g12, 0, none⟩ = some (.int .u8 kd) ∧ w'.cell? ⟨g12, 1, none⟩ = some (.int .u64 e) ∧ w'.cell? ⟨g12, 2, none⟩ = some (.int .u64 n) ∧ w'.cell? ⟨g12, 3, none⟩ = some (.int .u64 p) ∧ w'.cell? ⟨g12, 4, none⟩ = some (.int .u64 i) ∧ w'.cell? ⟨g12, 5, none⟩ = some (.int .u64 k)) (ds := []) #[false, false, false, false, false, false, false, false, false, false, false, false, false, false, false, false, false, false, false, false, false, false, false, false, false, false, false, false, false, false, false, false] (by kernel_rfl) rfl rfl ⟨hs0, hq0, hq1, hq2, hq3, hq4, hq5, hr0, hr1, hr2, hr3, hr4, hr5⟩ (fun hHeld => ?_)
        refine pure_ (i := 0) (N := some 58) (v := ?_) (a' := ?_) #[true, false, false, false, false, false, false, false, false, false, false, false, false, false, false, false, false, false, false, false, false, false, false, false, false, false, false, false, false, false, false, false] rfl rfl (by kernel_rfl) (fun _ _ _ h => h) (Or.inl ⟨by rfl, ?_⟩) ?_ ?_
        rotate_left
        · intro w'
          go_simp
          with_reducible rfl
        rotate_left
        · simp only [Act.put, List.setIfInBounds_toArray, List.set_cons_zero, List.set_cons_succ, i64_w, i32_w]
          rfl
        refine pure_ (i := 1) (N := some 59) (v := ?_) (a' := ?_) #[true, true, false, false, false, false, false, false, false, false, false, false, false, false, false, false, false, false, false, false, false, false, false, false, false, false, false, false, false, false, false, false] rfl rfl (by kernel_rfl) (fun _ _ _ h => h) (Or.inl ⟨by rfl, ?_⟩) ?_ ?_
        rotate_left
        · intro w'
          go_simp
          with_reducible rfl
        rotate_left
        · simp only [Act.put, List.setIfInBounds_toArray, List.set_cons_zero, List.set_cons_succ, i64_w, i32_w]
          rfl
        refine pure_ (i := 2) (N := some 60) (v := ?_) (a' := ?_) #[true, true, true, false, false, false, false, false, false, false, false, false, false, false, false, false, false, false, false, false, false, false, false, false, false, false, false, false, false, false, false, false] rfl rfl (by kernel_rfl) (fun _ _ _ h => h) (Or.inl ⟨by rfl, ?_⟩) ?_ ?_
        rotate_left
        · intro w'
          go_simp
          with_reducible rfl
        rotate_left
        · simp only [Act.put, List.setIfInBounds_toArray, List.set_cons_zero, List.set_cons_succ, i64_w, i32_w]
          rfl
        refine pure_ (i := 4) (N := some 62) (v := ?_) (a' := ?_) #[true, true, true, false, true, false, false, false, false, false, false, false, false, false, false, false, false, false, false, false, false, false, false, false, false, false, false, false, false, false, false, false] rfl rfl (by kernel_rfl) (fun _ _ _ h => h) (Or.inl ⟨by rfl, ?_⟩) ?_ ?_
        rotate_left
        · intro w'
          go_simp
          with_reducible rfl
        rotate_left
        · simp only [Act.put, List.setIfInBounds_toArray, List.set_cons_zero, List.set_cons_succ, i64_w, i32_w]
          rfl
        refine pure_ (i := 5) (N := some 63) (v := ?_) (a' := ?_) #[true, true, true, false, true, true, false, false, false, false, false, false, false, false, false, false, false, false, false, false, false, false, false, false, false, false, false, false, false, false, false, false] rfl rfl (by kernel_rfl) (fun _ _ _ h => h) (Or.inl ⟨by rfl, ?_⟩) ?_ ?_
        rotate_left
        · intro w'
          go_simp
          with_reducible rfl
        rotate_left
        · simp only [Act.put, List.setIfInBounds_toArray, List.set_cons_zero, List.set_cons_succ, i64_w, i32_w]
          rfl
        refine pure_ (i := 6) (N := some 64) (v := ?_) (a' := ?_) #[true, true, true, false, true, true, true, false, false, false, false, false, false, false, false, false, false, false, false, false, false, false, false, false, false, false, false, false, false, false, false, false] rfl rfl (by kernel_rfl) (fun _ _ _ h => h) (Or.inl ⟨by rfl, ?_⟩) ?_ ?_
        rotate_left
        · intro w'
          go_simp
          with_reducible rfl
        rotate_left
        · simp only [Act.put, List.setIfInBounds_toArray, List.set_cons_zero, List.set_cons_succ, i64_w, i32_w]
          rfl
        refine take_ (i := 3) (N := some 61) (v := ?_) (a' := ?_) #[true, true, true, true, true, true, true, false, false, false, false, false, false, false, false, false, false, false, false, false, false, false, false, false, false, false, false, false, false, false, false, false] rfl rfl (by kernel_rfl) (fun _ _ _ h => h) (Or.inl ⟨by rfl, ?_⟩) hHeld ?_ ?_
        rotate_left
        · rintro w' ⟨s0, s1, s2, s3, s4, s5, s6, s7, s8, s9, s10, s11, s12⟩
          go_simp
          with_reducible rfl
        rotate_left
        · simp only [Act.put, List.setIfInBounds_toArray, List.set_cons_zero, List.set_cons_succ, i64_w, i32_w]
          rfl
        refine take_ (i := 7) (N := some 65) (v := ?_) (a' := ?_) #[true, true, true, true, true, true, true, true, false, false, false, false, false, false, false, false, false, false, false, false, false, false, false, false, false, false, false, false, false, false, false, false] rfl rfl (by kernel_rfl) (fun _ _ _ h => h) (Or.inl ⟨by rfl, ?_⟩) hHeld ?_ ?_
        rotate_left
        · rintro w' ⟨s0, s1, s2, s3, s4, s5, s6, s7, s8, s9, s10, s11, s12⟩
          go_simp
          with_reducible rfl
        rotate_left
        · simp only [Act.put, List.setIfInBounds_toArray, List.set_cons_zero, List.set_cons_succ, i64_w, i32_w]
          rfl
        refine one_ (i := 8) (N := some 66) #[true, true, true, true, true, true, true, true, true, false, false, false, false, false, false, false, false, false, false, false, false, false, false, false, false, false, false, false, false, false, false, false] rfl rfl (by kernel_rfl) (by decide) (fun K hK => ?_)
        refine goes_ Tryd.func10 (by kernel_rfl) rfl #[.agg #[.int .u8 kd, .int .u64 e, .int .u64 n, .int .u64 p, .int .u64 i, .int .u64 k]] (by rfl) rfl rfl (by (try simp only [List.map_toArray, List.map_cons, List.map_nil]); first | done | rfl) ?_
        with_reducible refine (ref_calls kd e n p i k _).mono ?_
        rintro e wq8 ⟨rfl, hbq⟩
        refine ⟨_, rfl, ?_⟩
        have HBq8 := Aside0.mk (below_step HBD.out hbq)
        clear hbq
        refine hK.out _ _ ⟨pw_cell_below HBq8.out hs0, pw_cell_below HBq8.out hq0, pw_cell_below HBq8.out hq1, pw_cell_below HBq8.out hq2, pw_cell_below HBq8.out hq3, pw_cell_below HBq8.out hq4, pw_cell_below HBq8.out hq5, pw_cell_below HBq8.out hr0, pw_cell_below HBq8.out hr1, pw_cell_below HBq8.out hr2, pw_cell_below HBq8.out hr3, pw_cell_below HBq8.out hr4, pw_cell_below HBq8.out hr5⟩ (fun hHeld => ?_)
        clear hK K
        refine norm_ (a' := ?_) ?_ ?_
        rotate_left
        · show Act.put _ (some 66) _ = _
          simp only [Act.put, List.setIfInBounds_toArray, List.set_cons_zero, List.set_cons_succ, i64_w, i32_w]
          rfl
        refine one_ (i := 9) (N := some 67) #[true, true, true, true, true, true, true, true, true, true, false, false, false, false, false, false, false, false, false, false, false, false, false, false, false, false, false, false, false, false, false, false] rfl rfl (by kernel_rfl) (by decide) (fun K hK => ?_)
        refine goes_ Tryd.func15 (by kernel_rfl) rfl #[.agg #[.int .u8 kd, .int .u64 e, .int .u64 n, .int .u64 p, .int .u64 i, .int .u64 k]] (by rfl) rfl rfl (by (try simp only [List.map_toArray, List.map_cons, List.map_nil]); first | done | rfl) ?_
        with_reducible refine (rputV_calls kd e n p i k t HT.out HF.out _).mono ?_
        rintro e wq9 ⟨rfl, hbq⟩
        refine ⟨_, rfl, ?_⟩
        have HBq9 := Aside0.mk (below_step HBq8.out hbq)
        clear hbq
        refine hK.out _ _ ⟨pw_cell_below HBq9.out hs0, pw_cell_below HBq9.out hq0, pw_cell_below HBq9.out hq1, pw_cell_below HBq9.out hq2, pw_cell_below HBq9.out hq3, pw_cell_below HBq9.out hq4, pw_cell_below HBq9.out hq5, pw_cell_below HBq9.out hr0, pw_cell_below HBq9.out hr1, pw_cell_below HBq9.out hr2, pw_cell_below HBq9.out hr3, pw_cell_below HBq9.out hr4, pw_cell_below HBq9.out hr5⟩ (fun hHeld => ?_)
        clear hK K
        refine norm_ (a' := ?_) ?_ ?_
        rotate_left
        · show Act.put _ (some 67) _ = _
          simp only [Act.put, List.setIfInBounds_toArray, List.set_cons_zero, List.set_cons_succ, i64_w, i32_w]
          rfl
        refine pure_ (i := 10) (N := some 68) (v := ?_) (a' := ?_) #[true, true, true, true, true, true, true, true, true, true, true, false, false, false, false, false, false, false, false, false, false, false, false, false, false, false, false, false, false, false, false, false] rfl rfl (by kernel_rfl) (fun _ _ _ h => h) (Or.inl ⟨by rfl, ?_⟩) ?_ ?_
        rotate_left
        · intro w'
          go_simp
          with_reducible rfl
        rotate_left
        · simp only [Act.put, List.setIfInBounds_toArray, List.set_cons_zero, List.set_cons_succ, i64_w, i32_w]
          rfl
        refine pure_ (i := 11) (N := some 69) (v := ?_) (a' := ?_) #[true, true, true, true, true, true, true, true, true, true, true, true, false, false, false, false, false, false, false, false, false, false, false, false, false, false, false, false, false, false, false, false] rfl rfl (by kernel_rfl) (fun _ _ _ h => h) (Or.inl ⟨by rfl, ?_⟩) ?_ ?_
        rotate_left
        · intro w'
          go_simp
          with_reducible rfl
        rotate_left
        · simp only [Act.put, List.setIfInBounds_toArray, List.set_cons_zero, List.set_cons_succ, i64_w, i32_w]
          rfl
        refine pure_ (i := 12) (N := some 70) (v := ?_) (a' := ?_) #[true, true, true, true, true, true, true, true, true, true, true, true, true, false, false, false, false, false, false, false, false, false, false, false, false, false, false, false, false, false, false, false] rfl rfl (by kernel_rfl) (fun _ _ _ h => h) (Or.inl ⟨by rfl, ?_⟩) ?_ ?_
        rotate_left
        · intro w'
          go_simp
          with_reducible rfl
        rotate_left
        · simp only [Act.put, List.setIfInBounds_toArray, List.set_cons_zero, List.set_cons_succ, i64_w, i32_w]
          rfl
        refine pure_ (i := 13) (N := some 71) (v := ?_) (a' := ?_) #[true, true, true, true, true, true, true, true, true, true, true, true, true, true, false, false, false, false, false, false, false, false, false, false, false, false, false, false, false, false, false, false] rfl rfl (by kernel_rfl) (fun _ _ _ h => h) (Or.inl ⟨by rfl, ?_⟩) ?_ ?_
        rotate_left
        · intro w'
          go_simp
          with_reducible rfl
        rotate_left
        · simp only [Act.put, List.setIfInBounds_toArray, List.set_cons_zero, List.set_cons_succ, i64_w, i32_w]
          rfl
        refine pure_ (i := 14) (N := some 72) (v := ?_) (a' := ?_) #[true, true, true, true, true, true, true, true, true, true, true, true, true, true, true, false, false, false, false, false, false, false, false, false, false, false, false, false, false, false, false, false] rfl rfl (by kernel_rfl) (fun _ _ _ h => h) (Or.inl ⟨by rfl, ?_⟩) ?_ ?_
        rotate_left
        · intro w'
          go_simp
          with_reducible rfl
        rotate_left
        · simp only [Act.put, List.setIfInBounds_toArray, List.set_cons_zero, List.set_cons_succ, i64_w, i32_w]
          rfl
        refine pure_ (i := 15) (N := some 73) (v := ?_) (a' := ?_) #[true, true, true, true, true, true, true, true, true, true, true, true, true, true, true, true, false, false, false, false, false, false, false, false, false, false, false, false, false, false, false, false] rfl rfl (by kernel_rfl) (fun _ _ _ h => h) (Or.inl ⟨by rfl, ?_⟩) ?_ ?_
        rotate_left
        · intro w'
          go_simp
          with_reducible rfl
        rotate_left
        · simp only [Act.put, List.setIfInBounds_toArray, List.set_cons_zero, List.set_cons_succ, i64_w, i32_w]
          rfl
        refine pure_ (i := 17) (N := some 75) (v := ?_) (a' := ?_) #[true, true, true, true, true, true, true, true, true, true, true, true, true, true, true, true, false, true, false, false, false, false, false, false, false, false, false, false, false, false, false, false] rfl rfl (by kernel_rfl) (fun _ _ _ h => h) (Or.inl ⟨by rfl, ?_⟩) ?_ ?_
        rotate_left
        · intro w'
          go_simp
          with_reducible rfl
        rotate_left
        · simp only [Act.put, List.setIfInBounds_toArray, List.set_cons_zero, List.set_cons_succ, i64_w, i32_w]
          rfl
        refine pure_ (i := 18) (N := some 76) (v := ?_) (a' := ?_) #[true, true, true, true, true, true, true, true, true, true, true, true, true, true, true, true, false, true, true, false, false, false, false, false, false, false, false, false, false, false, false, false] rfl rfl (by kernel_rfl) (fun _ _ _ h => h) (Or.inl ⟨by rfl, ?_⟩) ?_ ?_
        rotate_left
        · intro w'
          go_simp
          with_reducible rfl
        rotate_left
        · simp only [Act.put, List.setIfInBounds_toArray, List.set_cons_zero, List.set_cons_succ, i64_w, i32_w]
          rfl
        refine pure_ (i := 19) (N := some 77) (v := ?_) (a' := ?_) #[true, true, true, true, true, true, true, true, true, true, true, true, true, true, true, true, false, true, true, true, false, false, false, false, false, false, false, false, false, false, false, false] rfl rfl (by kernel_rfl) (fun _ _ _ h => h) (Or.inl ⟨by rfl, ?_⟩) ?_ ?_
        rotate_left
        · intro w'
          go_simp
          with_reducible rfl
        rotate_left
        · simp only [Act.put, List.setIfInBounds_toArray, List.set_cons_zero, List.set_cons_succ, i64_w, i32_w]
          rfl
        refine take_ (i := 16) (N := some 74) (v := ?_) (a' := ?_) #[true, true, true, true, true, true, true, true, true, true, true, true, true, true, true, true, true, true, true, true, false, false, false, false, false, false, false, false, false, false, false, false] rfl rfl (by kernel_rfl) (fun _ _ _ h => h) (Or.inl ⟨by rfl, ?_⟩) hHeld ?_ ?_
        rotate_left
        · rintro w' ⟨s0, s1, s2, s3, s4, s5, s6, s7, s8, s9, s10, s11, s12⟩
          go_simp
          with_reducible rfl
        rotate_left
        · simp only [Act.put, List.setIfInBounds_toArray, List.set_cons_zero, List.set_cons_succ, i64_w, i32_w]
          rfl
        refine take_ (i := 20) (N := some 78) (v := ?_) (a' := ?_) #[true, true, true, true, true, true, true, true, true, true, true, true, true, true, true, true, true, true, true, true, true, false, false, false, false, false, false, false, false, false, false, false] rfl rfl (by kernel_rfl) (fun _ _ _ h => h) (Or.inl ⟨by rfl, ?_⟩) hHeld ?_ ?_
        rotate_left
        · rintro w' ⟨s0, s1, s2, s3, s4, s5, s6, s7, s8, s9, s10, s11, s12⟩
          go_simp
          with_reducible rfl
        rotate_left
        · simp only [Act.put, List.setIfInBounds_toArray, List.set_cons_zero, List.set_cons_succ, i64_w, i32_w]
          rfl
        refine pure_ (i := 21) (N := some 79) (v := ?_) (a' := ?_) #[true, true, true, true, true, true, true, true, true, true, true, true, true, true, true, true, true, true, true, true, true, true, false, false, false, false, false, false, false, false, false, false] rfl rfl (by kernel_rfl) (fun _ _ _ h => h) (Or.inl ⟨by rfl, ?_⟩) ?_ ?_
        rotate_left
        · intro w'
          go_simp
          with_reducible rfl
        rotate_left
        · simp only [Act.put, List.setIfInBounds_toArray, List.set_cons_zero, List.set_cons_succ, i64_w, i32_w]
          rfl
        refine pure_ (i := 22) (N := some 80) (v := ?_) (a' := ?_) #[true, true, true, true, true, true, true, true, true, true, true, true, true, true, true, true, true, true, true, true, true, true, true, false, false, false, false, false, false, false, false, false] rfl rfl (by kernel_rfl) (fun _ _ _ h => h) (Or.inl ⟨by rfl, ?_⟩) ?_ ?_
        rotate_left
        · intro w'
          go_simp
          with_reducible rfl
        rotate_left
        · simp only [Act.put, List.setIfInBounds_toArray, List.set_cons_zero, List.set_cons_succ, i64_w, i32_w]
          rfl
        refine pure_ (i := 23) (N := some 81) (v := ?_) (a' := ?_) #[true, true, true, true, true, true, true, true, true, true, true, true, true, true, true, true, true, true, true, true, true, true, true, true, false, false, false, false, false, false, false, false] rfl rfl (by kernel_rfl) (fun _ _ _ h => h) (Or.inl ⟨by rfl, ?_⟩) ?_ ?_
        rotate_left
        · intro w'
          go_simp
          with_reducible rfl
        rotate_left
        · simp only [Act.put, List.setIfInBounds_toArray, List.set_cons_zero, List.set_cons_succ, i64_w, i32_w]
          rfl
        refine pure_ (i := 26) (N := some 84) (v := ?_) (a' := ?_) #[true, true, true, true, true, true, true, true, true, true, true, true, true, true, true, true, true, true, true, true, true, true, true, true, false, false, true, false, false, false, false, false] rfl rfl (by kernel_rfl) (fun _ _ _ h => h) (Or.inl ⟨by rfl, ?_⟩) ?_ ?_
        rotate_left
        · intro w'
          go_simp
          with_reducible rfl
        rotate_left
        · simp only [Act.put, List.setIfInBounds_toArray, List.set_cons_zero, List.set_cons_succ, i64_w, i32_w]
          rfl
        refine pure_ (i := 27) (N := some 85) (v := ?_) (a' := ?_) #[true, true, true, true, true, true, true, true, true, true, true, true, true, true, true, true, true, true, true, true, true, true, true, true, false, false, true, true, false, false, false, false] rfl rfl (by kernel_rfl) (fun _ _ _ h => h) (Or.inl ⟨by rfl, ?_⟩) ?_ ?_
        rotate_left
        · intro w'
          go_simp
          with_reducible rfl
        rotate_left
        · simp only [Act.put, List.setIfInBounds_toArray, List.set_cons_zero, List.set_cons_succ, i64_w, i32_w]
          rfl
        refine pure_ (i := 28) (N := some 86) (v := ?_) (a' := ?_) #[true, true, true, true, true, true, true, true, true, true, true, true, true, true, true, true, true, true, true, true, true, true, true, true, false, false, true, true, true, false, false, false] rfl rfl (by kernel_rfl) (fun _ _ _ h => h) (Or.inl ⟨by rfl, ?_⟩) ?_ ?_
        rotate_left
        · intro w'
          go_simp
          with_reducible rfl
        rotate_left
        · simp only [Act.put, List.setIfInBounds_toArray, List.set_cons_zero, List.set_cons_succ, i64_w, i32_w]
          rfl
        refine take_ (i := 24) (N := some 82) (v := ?_) (a' := ?_) #[true, true, true, true, true, true, true, true, true, true, true, true, true, true, true, true, true, true, true, true, true, true, true, true, true, false, true, true, true, false, false, false] rfl rfl (by kernel_rfl) (fun _ _ _ h => h) (Or.inl ⟨by rfl, ?_⟩) hHeld ?_ ?_
        rotate_left
        · rintro w' ⟨s0, s1, s2, s3, s4, s5, s6, s7, s8, s9, s10, s11, s12⟩
          go_simp
          with_reducible rfl
        rotate_left
        · simp only [Act.put, List.setIfInBounds_toArray, List.set_cons_zero, List.set_cons_succ, i64_w, i32_w]
          rfl
        refine take_ (i := 29) (N := some 87) (v := ?_) (a' := ?_) #[true, true, true, true, true, true, true, true, true, true, true, true, true, true, true, true, true, true, true, true, true, true, true, true, true, false, true, true, true, true, false, false] rfl rfl (by kernel_rfl) (fun _ _ _ h => h) (Or.inl ⟨by rfl, ?_⟩) hHeld ?_ ?_
        rotate_left
        · rintro w' ⟨s0, s1, s2, s3, s4, s5, s6, s7, s8, s9, s10, s11, s12⟩
          go_simp
          with_reducible rfl
        rotate_left
        · simp only [Act.put, List.setIfInBounds_toArray, List.set_cons_zero, List.set_cons_succ, i64_w, i32_w]
          rfl
        refine one_ (i := 25) (N := some 83) #[true, true, true, true, true, true, true, true, true, true, true, true, true, true, true, true, true, true, true, true, true, true, true, true, true, true, true, true, true, true, false, false] rfl rfl (by kernel_rfl) (by decide) (fun K hK => ?_)
        refine goes_ Tryd.func16 (by kernel_rfl) rfl #[.agg #[.int .u8 kd, .int .u64 e, .int .u64 n, .int .u64 p, .int .u64 i, .int .u64 k]] (by rfl) rfl rfl (by (try simp only [List.map_toArray, List.map_cons, List.map_nil]); first | done | rfl) ?_
        with_reducible refine (putV_calls kd e n p i k t HT.out HF.out _ (HG.out.below (below_step HB5.out HBq9.out))).mono ?_
        rintro e wq25 ⟨rfl, hbq⟩
        refine ⟨_, rfl, ?_⟩
        have HBq25 := Aside0.mk (below_step HBq9.out hbq)
        clear hbq
        refine hK.out _ _ ⟨pw_cell_below HBq25.out hs0, pw_cell_below HBq25.out hq0, pw_cell_below HBq25.out hq1, pw_cell_below HBq25.out hq2, pw_cell_below HBq25.out hq3, pw_cell_below HBq25.out hq4, pw_cell_below HBq25.out hq5, pw_cell_below HBq25.out hr0, pw_cell_below HBq25.out hr1, pw_cell_below HBq25.out hr2, pw_cell_below HBq25.out hr3, pw_cell_below HBq25.out hr4, pw_cell_below HBq25.out hr5⟩ (fun hHeld => ?_)
        clear hK K
        refine norm_ (a' := ?_) ?_ ?_
        rotate_left
        · show Act.put _ (some 83) _ = _
          simp only [Act.put, List.setIfInBounds_toArray, List.set_cons_zero, List.set_cons_succ, i64_w, i32_w]
          rfl
        refine pure_ (i := 30) (N := some 88) (v := ?_) (a' := ?_) #[true, true, true, true, true, true, true, true, true, true, true, true, true, true, true, true, true, true, true, true, true, true, true, true, true, true, true, true, true, true, true, false] rfl rfl (by kernel_rfl) (fun _ _ _ h => h) (Or.inl ⟨by rfl, ?_⟩) ?_ ?_
        rotate_left
        · intro w'
          go_simp
          with_reducible rfl
        rotate_left
        · simp only [Act.put, List.setIfInBounds_toArray, List.set_cons_zero, List.set_cons_succ, i64_w, i32_w]
          rfl
        refine pure_ (i := 31) (N := some 89) (v := ?_) (a' := ?_) #[true, true, true, true, true, true, true, true, true, true, true, true, true, true, true, true, true, true, true, true, true, true, true, true, true, true, true, true, true, true, true, true] rfl rfl (by kernel_rfl) (fun _ _ _ h => h) (Or.inl ⟨by rfl, ?_⟩) ?_ ?_
        rotate_left
        · intro w'
          go_simp
          with_reducible rfl
        rotate_left
        · simp only [Act.put, List.setIfInBounds_toArray, List.set_cons_zero, List.set_cons_succ, i64_w, i32_w]
          rfl
        refine done_ (by kernel_rfl) ?_
        have HB9 := Aside0.mk (below_step HB5.out HBq25.out)
        have HL9 := Aside0.mk ((HBq25.out.block _ (Array.getElem?_eq_some_iff.1 HL5.out).1).trans HL5.out)
        have HS9 := Aside0.mk ((HBq25.out.block _ (Array.getElem?_eq_some_iff.1 HS5.out).1).trans HS5.out)
        clear hHeld hs0 hq0 hq1 hq2 hq3 hq4 hq5 hr0 hr1 hr2 hr3 hr4 hr5
        go_wp2
        exact ⟨⟨1, by decide, by rfl, HB9, HL9, HS9⟩, by decide⟩
      · have hs0 : wr.cell? ⟨gs, 1, none⟩ = some (.string ⟨t.toArray⟩) := g0
        have hq0 : wr.cell? ⟨gl, 6, none⟩ = some (.int .u8 kd) := g1
        have hq1 : wr.cell? ⟨gl, 7, none⟩ = some (.int .u64 e) := g2
        have hq2 : wr.cell? ⟨gl, 8, none⟩ = some (.int .u64 n) := g3
        have hq3 : wr.cell? ⟨gl, 9, none⟩ = some (.int .u64 p) := g4
        have hq4 : wr.cell? ⟨gl, 10, none⟩ = some (.int .u64 i) := g5
        have hq5 : wr.cell? ⟨gl, 11, none⟩ = some (.int .u64 k) := g6
        clear g0 g1 g2 g3 g4 g5 g6
        go_upto_region 7 with (go_at_call 8; refine (parseV_calls ⟨t.toArray⟩ kd e n p i k true (by show (parseB t).getD nm0 = _; rw [HPA.out]; rfl) (by show (parseB t).isSome = _; rw [HPA.out]; rfl) HLT.out _ (HG.out.below HBR.out)).mono ?_; rintro e w4 ⟨rfl, hb⟩; have HB4 := Aside0.mk (below_step HBR.out hb); have HL4 := Aside0.mk ((hb.block _ (Array.getElem?_eq_some_iff.1 HLR.out).1).trans HLR.out); have HS4 := Aside0.mk ((hb.block _ (Array.getElem?_eq_some_iff.1 HSR.out).1).trans HSR.out); replace hs0 := pw_cell_below hb hs0; replace hq0 := pw_cell_below hb hq0; replace hq1 := pw_cell_below hb hq1; replace hq2 := pw_cell_below hb hq2; replace hq3 := pw_cell_below hb hq3; replace hq4 := pw_cell_below hb hq4; replace hq5 := pw_cell_below hb hq5; clear hb)
        have hbx := below_alloc (Below.refl _ w4) (.cells #[.int .u8 kd, .int .u64 e, .int .u64 n, .int .u64 p, .int .u64 i, .int .u64 k] 25)
        have HB5 := Aside0.mk (below_step HB4.out hbx)
        have HL5 := Aside0.mk ((hbx.block _ (Array.getElem?_eq_some_iff.1 HL4.out).1).trans HL4.out)
        have HS5 := Aside0.mk ((hbx.block _ (Array.getElem?_eq_some_iff.1 HS4.out).1).trans HS4.out)
        replace hs0 := cell_allocs hs0 (.cells #[.int .u8 kd, .int .u64 e, .int .u64 n, .int .u64 p, .int .u64 i, .int .u64 k] 25)
        replace hq0 := cell_allocs hq0 (.cells #[.int .u8 kd, .int .u64 e, .int .u64 n, .int .u64 p, .int .u64 i, .int .u64 k] 25)
        replace hq1 := cell_allocs hq1 (.cells #[.int .u8 kd, .int .u64 e, .int .u64 n, .int .u64 p, .int .u64 i, .int .u64 k] 25)
        replace hq2 := cell_allocs hq2 (.cells #[.int .u8 kd, .int .u64 e, .int .u64 n, .int .u64 p, .int .u64 i, .int .u64 k] 25)
        replace hq3 := cell_allocs hq3 (.cells #[.int .u8 kd, .int .u64 e, .int .u64 n, .int .u64 p, .int .u64 i, .int .u64 k] 25)
        replace hq4 := cell_allocs hq4 (.cells #[.int .u8 kd, .int .u64 e, .int .u64 n, .int .u64 p, .int .u64 i, .int .u64 k] 25)
        replace hq5 := cell_allocs hq5 (.cells #[.int .u8 kd, .int .u64 e, .int .u64 n, .int .u64 p, .int .u64 i, .int .u64 k] 25)
        have hr0 : (w4.alloc (.cells #[.int .u8 kd, .int .u64 e, .int .u64 n, .int .u64 p, .int .u64 i, .int .u64 k] 25)).cell? ⟨w4.heap.size, 0, none⟩ = some (.int .u8 kd) := by go_simp
        have hr1 : (w4.alloc (.cells #[.int .u8 kd, .int .u64 e, .int .u64 n, .int .u64 p, .int .u64 i, .int .u64 k] 25)).cell? ⟨w4.heap.size, 1, none⟩ = some (.int .u64 e) := by go_simp
        have hr2 : (w4.alloc (.cells #[.int .u8 kd, .int .u64 e, .int .u64 n, .int .u64 p, .int .u64 i, .int .u64 k] 25)).cell? ⟨w4.heap.size, 2, none⟩ = some (.int .u64 n) := by go_simp
        have hr3 : (w4.alloc (.cells #[.int .u8 kd, .int .u64 e, .int .u64 n, .int .u64 p, .int .u64 i, .int .u64 k] 25)).cell? ⟨w4.heap.size, 3, none⟩ = some (.int .u64 p) := by go_simp
        have hr4 : (w4.alloc (.cells #[.int .u8 kd, .int .u64 e, .int .u64 n, .int .u64 p, .int .u64 i, .int .u64 k] 25)).cell? ⟨w4.heap.size, 4, none⟩ = some (.int .u64 i) := by go_simp
        have hr5 : (w4.alloc (.cells #[.int .u8 kd, .int .u64 e, .int .u64 n, .int .u64 p, .int .u64 i, .int .u64 k] 25)).cell? ⟨w4.heap.size, 5, none⟩ = some (.int .u64 k) := by go_simp
        clear hbx HB4 HL4 HS4 HBR HLR HSR
        generalize w4.alloc (.cells #[.int .u8 kd, .int .u64 e, .int .u64 n, .int .u64 p, .int .u64 i, .int .u64 k] 25) = w5 at HB5 HL5 HS5 hs0 hq0 hq1 hq2 hq3 hq4 hq5 hr0 hr1 hr2 hr3 hr4 hr5 ⊢
        generalize w4.heap.size = g12 at hr0 hr1 hr2 hr3 hr4 hr5 ⊢
        have HBD := Aside0.mk (below_drew (Below.refl w5.heap.size w5))
        refine start_ (n := 32) (S := fun w' => w'.cell? ⟨gs, 1, none⟩ = some (.string ⟨t.toArray⟩) ∧ w'.cell? ⟨gl, 6, none⟩ = some (.int .u8 kd) ∧ w'.cell? ⟨gl, 7, none⟩ = some (.int .u64 e) ∧ w'.cell? ⟨gl, 8, none⟩ = some (.int .u64 n) ∧ w'.cell? ⟨gl, 9, none⟩ = some (.int .u64 p) ∧ w'.cell? ⟨gl, 10, none⟩ = some (.int .u64 i) ∧ w'.cell? ⟨gl, 11, none⟩ = some (.int .u64 k) ∧ w'.cell? ⟨g12, 0, none⟩ = some (.int .u8 kd) ∧ w'.cell? ⟨g12, 1, none⟩ = some (.int .u64 e) ∧ w'.cell? ⟨g12, 2, none⟩ = some (.int .u64 n) ∧ w'.cell? ⟨g12, 3, none⟩ = some (.int .u64 p) ∧ w'.cell? ⟨g12, 4, none⟩ = some (.int .u64 i) ∧ w'.cell? ⟨g12, 5, none⟩ = some (.int .u64 k)) (ds := []) #[false, false, false, false, false, false, false, false, false, false, false, false, false, false, false, false, false, false, false, false, false, false, false, false, false, false, false, false, false, false, false, false] (by kernel_rfl) rfl rfl ⟨hs0, hq0, hq1, hq2, hq3, hq4, hq5, hr0, hr1, hr2, hr3, hr4, hr5⟩ (fun hHeld => ?_)
        refine pure_ (i := 0) (N := some 58) (v := ?_) (a' := ?_) #[true, false, false, false, false, false, false, false, false, false, false, false, false, false, false, false, false, false, false, false, false, false, false, false, false, false, false, false, false, false, false, false] rfl rfl (by kernel_rfl) (fun _ _ _ h => h) (Or.inl ⟨by rfl, ?_⟩) ?_ ?_
        rotate_left
        · intro w'
          go_simp
          with_reducible rfl
        rotate_left
        · simp only [Act.put, List.setIfInBounds_toArray, List.set_cons_zero, List.set_cons_succ, i64_w, i32_w]
          rfl
        refine pure_ (i := 1) (N := some 59) (v := ?_) (a' := ?_) #[true, true, false, false, false, false, false, false, false, false, false, false, false, false, false, false, false, false, false, false, false, false, false, false, false, false, false, false, false, false, false, false] rfl rfl (by kernel_rfl) (fun _ _ _ h => h) (Or.inl ⟨by rfl, ?_⟩) ?_ ?_
        rotate_left
        · intro w'
          go_simp
          with_reducible rfl
        rotate_left
        · simp only [Act.put, List.setIfInBounds_toArray, List.set_cons_zero, List.set_cons_succ, i64_w, i32_w]
          rfl
        refine pure_ (i := 2) (N := some 60) (v := ?_) (a' := ?_) #[true, true, true, false, false, false, false, false, false, false, false, false, false, false, false, false, false, false, false, false, false, false, false, false, false, false, false, false, false, false, false, false] rfl rfl (by kernel_rfl) (fun _ _ _ h => h) (Or.inl ⟨by rfl, ?_⟩) ?_ ?_
        rotate_left
        · intro w'
          go_simp
          with_reducible rfl
        rotate_left
        · simp only [Act.put, List.setIfInBounds_toArray, List.set_cons_zero, List.set_cons_succ, i64_w, i32_w]
          rfl
        refine pure_ (i := 4) (N := some 62) (v := ?_) (a' := ?_) #[true, true, true, false, true, false, false, false, false, false, false, false, false, false, false, false, false, false, false, false, false, false, false, false, false, false, false, false, false, false, false, false] rfl rfl (by kernel_rfl) (fun _ _ _ h => h) (Or.inl ⟨by rfl, ?_⟩) ?_ ?_
        rotate_left
        · intro w'
          go_simp
          with_reducible rfl
        rotate_left
        · simp only [Act.put, List.setIfInBounds_toArray, List.set_cons_zero, List.set_cons_succ, i64_w, i32_w]
          rfl
        refine pure_ (i := 5) (N := some 63) (v := ?_) (a' := ?_) #[true, true, true, false, true, true, false, false, false, false, false, false, false, false, false, false, false, false, false, false, false, false, false, false, false, false, false, false, false, false, false, false] rfl rfl (by kernel_rfl) (fun _ _ _ h => h) (Or.inl ⟨by rfl, ?_⟩) ?_ ?_
        rotate_left
        · intro w'
          go_simp
          with_reducible rfl
        rotate_left
        · simp only [Act.put, List.setIfInBounds_toArray, List.set_cons_zero, List.set_cons_succ, i64_w, i32_w]
          rfl
        refine pure_ (i := 6) (N := some 64) (v := ?_) (a' := ?_) #[true, true, true, false, true, true, true, false, false, false, false, false, false, false, false, false, false, false, false, false, false, false, false, false, false, false, false, false, false, false, false, false] rfl rfl (by kernel_rfl) (fun _ _ _ h => h) (Or.inl ⟨by rfl, ?_⟩) ?_ ?_
        rotate_left
        · intro w'
          go_simp
          with_reducible rfl
        rotate_left
        · simp only [Act.put, List.setIfInBounds_toArray, List.set_cons_zero, List.set_cons_succ, i64_w, i32_w]
          rfl
        refine take_ (i := 3) (N := some 61) (v := ?_) (a' := ?_) #[true, true, true, true, true, true, true, false, false, false, false, false, false, false, false, false, false, false, false, false, false, false, false, false, false, false, false, false, false, false, false, false] rfl rfl (by kernel_rfl) (fun _ _ _ h => h) (Or.inl ⟨by rfl, ?_⟩) hHeld ?_ ?_
        rotate_left
        · rintro w' ⟨s0, s1, s2, s3, s4, s5, s6, s7, s8, s9, s10, s11, s12⟩
          go_simp
          with_reducible rfl
        rotate_left
        · simp only [Act.put, List.setIfInBounds_toArray, List.set_cons_zero, List.set_cons_succ, i64_w, i32_w]
          rfl
        refine take_ (i := 7) (N := some 65) (v := ?_) (a' := ?_) #[true, true, true, true, true, true, true, true, false, false, false, false, false, false, false, false, false, false, false, false, false, false, false, false, false, false, false, false, false, false, false, false] rfl rfl (by kernel_rfl) (fun _ _ _ h => h) (Or.inl ⟨by rfl, ?_⟩) hHeld ?_ ?_
        rotate_left
        · rintro w' ⟨s0, s1, s2, s3, s4, s5, s6, s7, s8, s9, s10, s11, s12⟩
          go_simp
          with_reducible rfl
        rotate_left
        · simp only [Act.put, List.setIfInBounds_toArray, List.set_cons_zero, List.set_cons_succ, i64_w, i32_w]
          rfl
        refine one_ (i := 8) (N := some 66) #[true, true, true, true, true, true, true, true, true, false, false, false, false, false, false, false, false, false, false, false, false, false, false, false, false, false, false, false, false, false, false, false] rfl rfl (by kernel_rfl) (by decide) (fun K hK => ?_)
        refine goes_ Tryd.func10 (by kernel_rfl) rfl #[.agg #[.int .u8 kd, .int .u64 e, .int .u64 n, .int .u64 p, .int .u64 i, .int .u64 k]] (by rfl) rfl rfl (by (try simp only [List.map_toArray, List.map_cons, List.map_nil]); first | done | rfl) ?_
        with_reducible refine (ref_calls kd e n p i k _).mono ?_
        rintro e wq8 ⟨rfl, hbq⟩
        refine ⟨_, rfl, ?_⟩
        have HBq8 := Aside0.mk (below_step HBD.out hbq)
        clear hbq
        refine hK.out _ _ ⟨pw_cell_below HBq8.out hs0, pw_cell_below HBq8.out hq0, pw_cell_below HBq8.out hq1, pw_cell_below HBq8.out hq2, pw_cell_below HBq8.out hq3, pw_cell_below HBq8.out hq4, pw_cell_below HBq8.out hq5, pw_cell_below HBq8.out hr0, pw_cell_below HBq8.out hr1, pw_cell_below HBq8.out hr2, pw_cell_below HBq8.out hr3, pw_cell_below HBq8.out hr4, pw_cell_below HBq8.out hr5⟩ (fun hHeld => ?_)
        clear hK K
        refine norm_ (a' := ?_) ?_ ?_
        rotate_left
        · show Act.put _ (some 66) _ = _
          simp only [Act.put, List.setIfInBounds_toArray, List.set_cons_zero, List.set_cons_succ, i64_w, i32_w]
          rfl
        refine one_ (i := 9) (N := some 67) #[true, true, true, true, true, true, true, true, true, true, false, false, false, false, false, false, false, false, false, false, false, false, false, false, false, false, false, false, false, false, false, false] rfl rfl (by kernel_rfl) (by decide) (fun K hK => ?_)
        refine goes_ Tryd.func15 (by kernel_rfl) rfl #[.agg #[.int .u8 kd, .int .u64 e, .int .u64 n, .int .u64 p, .int .u64 i, .int .u64 k]] (by rfl) rfl rfl (by (try simp only [List.map_toArray, List.map_cons, List.map_nil]); first | done | rfl) ?_
        with_reducible refine (rputV_calls kd e n p i k t HT.out HF.out _).mono ?_
        rintro e wq9 ⟨rfl, hbq⟩
        refine ⟨_, rfl, ?_⟩
        have HBq9 := Aside0.mk (below_step HBq8.out hbq)
        clear hbq
        refine hK.out _ _ ⟨pw_cell_below HBq9.out hs0, pw_cell_below HBq9.out hq0, pw_cell_below HBq9.out hq1, pw_cell_below HBq9.out hq2, pw_cell_below HBq9.out hq3, pw_cell_below HBq9.out hq4, pw_cell_below HBq9.out hq5, pw_cell_below HBq9.out hr0, pw_cell_below HBq9.out hr1, pw_cell_below HBq9.out hr2, pw_cell_below HBq9.out hr3, pw_cell_below HBq9.out hr4, pw_cell_below HBq9.out hr5⟩ (fun hHeld => ?_)
        clear hK K
        refine norm_ (a' := ?_) ?_ ?_
        rotate_left
        · show Act.put _ (some 67) _ = _
          simp only [Act.put, List.setIfInBounds_toArray, List.set_cons_zero, List.set_cons_succ, i64_w, i32_w]
          rfl
        refine pure_ (i := 10) (N := some 68) (v := ?_) (a' := ?_) #[true, true, true, true, true, true, true, true, true, true, true, false, false, false, false, false, false, false, false, false, false, false, false, false, false, false, false, false, false, false, false, false] rfl rfl (by kernel_rfl) (fun _ _ _ h => h) (Or.inl ⟨by rfl, ?_⟩) ?_ ?_
        rotate_left
        · intro w'
          go_simp
          with_reducible rfl
        rotate_left
        · simp only [Act.put, List.setIfInBounds_toArray, List.set_cons_zero, List.set_cons_succ, i64_w, i32_w]
          rfl
        refine pure_ (i := 11) (N := some 69) (v := ?_) (a' := ?_) #[true, true, true, true, true, true, true, true, true, true, true, true, false, false, false, false, false, false, false, false, false, false, false, false, false, false, false, false, false, false, false, false] rfl rfl (by kernel_rfl) (fun _ _ _ h => h) (Or.inl ⟨by rfl, ?_⟩) ?_ ?_
        rotate_left
        · intro w'
          go_simp
          with_reducible rfl
        rotate_left
        · simp only [Act.put, List.setIfInBounds_toArray, List.set_cons_zero, List.set_cons_succ, i64_w, i32_w]
          rfl
        refine pure_ (i := 12) (N := some 70) (v := ?_) (a' := ?_) #[true, true, true, true, true, true, true, true, true, true, true, true, true, false, false, false, false, false, false, false, false, false, false, false, false, false, false, false, false, false, false, false] rfl rfl (by kernel_rfl) (fun _ _ _ h => h) (Or.inl ⟨by rfl, ?_⟩) ?_ ?_
        rotate_left
        · intro w'
          go_simp
          with_reducible rfl
        rotate_left
        · simp only [Act.put, List.setIfInBounds_toArray, List.set_cons_zero, List.set_cons_succ, i64_w, i32_w]
          rfl
        refine pure_ (i := 13) (N := some 71) (v := ?_) (a' := ?_) #[true, true, true, true, true, true, true, true, true, true, true, true, true, true, false, false, false, false, false, false, false, false, false, false, false, false, false, false, false, false, false, false] rfl rfl (by kernel_rfl) (fun _ _ _ h => h) (Or.inl ⟨by rfl, ?_⟩) ?_ ?_
        rotate_left
        · intro w'
          go_simp
          with_reducible rfl
        rotate_left
        · simp only [Act.put, List.setIfInBounds_toArray, List.set_cons_zero, List.set_cons_succ, i64_w, i32_w]
          rfl
        refine pure_ (i := 14) (N := some 72) (v := ?_) (a' := ?_) #[true, true, true, true, true, true, true, true, true, true, true, true, true, true, true, false, false, false, false, false, false, false, false, false, false, false, false, false, false, false, false, false] rfl rfl (by kernel_rfl) (fun _ _ _ h => h) (Or.inl ⟨by rfl, ?_⟩) ?_ ?_
        rotate_left
        · intro w'
          go_simp
          with_reducible rfl
        rotate_left
        · simp only [Act.put, List.setIfInBounds_toArray, List.set_cons_zero, List.set_cons_succ, i64_w, i32_w]
          rfl
        refine pure_ (i := 15) (N := some 73) (v := ?_) (a' := ?_) #[true, true, true, true, true, true, true, true, true, true, true, true, true, true, true, true, false, false, false, false, false, false, false, false, false, false, false, false, false, false, false, false] rfl rfl (by kernel_rfl) (fun _ _ _ h => h) (Or.inl ⟨by rfl, ?_⟩) ?_ ?_
        rotate_left
        · intro w'
          go_simp
          with_reducible rfl
        rotate_left
        · simp only [Act.put, List.setIfInBounds_toArray, List.set_cons_zero, List.set_cons_succ, i64_w, i32_w]
          rfl
        refine pure_ (i := 17) (N := some 75) (v := ?_) (a' := ?_) #[true, true, true, true, true, true, true, true, true, true, true, true, true, true, true, true, false, true, false, false, false, false, false, false, false, false, false, false, false, false, false, false] rfl rfl (by kernel_rfl) (fun _ _ _ h => h) (Or.inl ⟨by rfl, ?_⟩) ?_ ?_
        rotate_left
        · intro w'
          go_simp
          with_reducible rfl
        rotate_left
        · simp only [Act.put, List.setIfInBounds_toArray, List.set_cons_zero, List.set_cons_succ, i64_w, i32_w]
          rfl
        refine pure_ (i := 18) (N := some 76) (v := ?_) (a' := ?_) #[true, true, true, true, true, true, true, true, true, true, true, true, true, true, true, true, false, true, true, false, false, false, false, false, false, false, false, false, false, false, false, false] rfl rfl (by kernel_rfl) (fun _ _ _ h => h) (Or.inl ⟨by rfl, ?_⟩) ?_ ?_
        rotate_left
        · intro w'
          go_simp
          with_reducible rfl
        rotate_left
        · simp only [Act.put, List.setIfInBounds_toArray, List.set_cons_zero, List.set_cons_succ, i64_w, i32_w]
          rfl
        refine pure_ (i := 19) (N := some 77) (v := ?_) (a' := ?_) #[true, true, true, true, true, true, true, true, true, true, true, true, true, true, true, true, false, true, true, true, false, false, false, false, false, false, false, false, false, false, false, false] rfl rfl (by kernel_rfl) (fun _ _ _ h => h) (Or.inl ⟨by rfl, ?_⟩) ?_ ?_
        rotate_left
        · intro w'
          go_simp
          with_reducible rfl
        rotate_left
        · simp only [Act.put, List.setIfInBounds_toArray, List.set_cons_zero, List.set_cons_succ, i64_w, i32_w]
          rfl
        refine take_ (i := 16) (N := some 74) (v := ?_) (a' := ?_) #[true, true, true, true, true, true, true, true, true, true, true, true, true, true, true, true, true, true, true, true, false, false, false, false, false, false, false, false, false, false, false, false] rfl rfl (by kernel_rfl) (fun _ _ _ h => h) (Or.inl ⟨by rfl, ?_⟩) hHeld ?_ ?_
        rotate_left
        · rintro w' ⟨s0, s1, s2, s3, s4, s5, s6, s7, s8, s9, s10, s11, s12⟩
          go_simp
          with_reducible rfl
        rotate_left
        · simp only [Act.put, List.setIfInBounds_toArray, List.set_cons_zero, List.set_cons_succ, i64_w, i32_w]
          rfl
        refine take_ (i := 20) (N := some 78) (v := ?_) (a' := ?_) #[true, true, true, true, true, true, true, true, true, true, true, true, true, true, true, true, true, true, true, true, true, false, false, false, false, false, false, false, false, false, false, false] rfl rfl (by kernel_rfl) (fun _ _ _ h => h) (Or.inl ⟨by rfl, ?_⟩) hHeld ?_ ?_
        rotate_left
        · rintro w' ⟨s0, s1, s2, s3, s4, s5, s6, s7, s8, s9, s10, s11, s12⟩
          go_simp
          with_reducible rfl
        rotate_left
        · simp only [Act.put, List.setIfInBounds_toArray, List.set_cons_zero, List.set_cons_succ, i64_w, i32_w]
          rfl
        refine pure_ (i := 21) (N := some 79) (v := ?_) (a' := ?_) #[true, true, true, true, true, true, true, true, true, true, true, true, true, true, true, true, true, true, true, true, true, true, false, false, false, false, false, false, false, false, false, false] rfl rfl (by kernel_rfl) (fun _ _ _ h => h) (Or.inl ⟨by rfl, ?_⟩) ?_ ?_
        rotate_left
        · intro w'
          go_simp
          with_reducible rfl
        rotate_left
        · simp only [Act.put, List.setIfInBounds_toArray, List.set_cons_zero, List.set_cons_succ, i64_w, i32_w]
          rfl
        refine pure_ (i := 22) (N := some 80) (v := ?_) (a' := ?_) #[true, true, true, true, true, true, true, true, true, true, true, true, true, true, true, true, true, true, true, true, true, true, true, false, false, false, false, false, false, false, false, false] rfl rfl (by kernel_rfl) (fun _ _ _ h => h) (Or.inl ⟨by rfl, ?_⟩) ?_ ?_
        rotate_left
        · intro w'
          go_simp
          with_reducible rfl
        rotate_left
        · simp only [Act.put, List.setIfInBounds_toArray, List.set_cons_zero, List.set_cons_succ, i64_w, i32_w]
          rfl
        refine pure_ (i := 23) (N := some 81) (v := ?_) (a' := ?_) #[true, true, true, true, true, true, true, true, true, true, true, true, true, true, true, true, true, true, true, true, true, true, true, true, false, false, false, false, false, false, false, false] rfl rfl (by kernel_rfl) (fun _ _ _ h => h) (Or.inl ⟨by rfl, ?_⟩) ?_ ?_
        rotate_left
        · intro w'
          go_simp
          with_reducible rfl
        rotate_left
        · simp only [Act.put, List.setIfInBounds_toArray, List.set_cons_zero, List.set_cons_succ, i64_w, i32_w]
          rfl
        refine pure_ (i := 26) (N := some 84) (v := ?_) (a' := ?_) #[true, true, true, true, true, true, true, true, true, true, true, true, true, true, true, true, true, true, true, true, true, true, true, true, false, false, true, false, false, false, false, false] rfl rfl (by kernel_rfl) (fun _ _ _ h => h) (Or.inl ⟨by rfl, ?_⟩) ?_ ?_
        rotate_left
        · intro w'
          go_simp
          with_reducible rfl
        rotate_left
        · simp only [Act.put, List.setIfInBounds_toArray, List.set_cons_zero, List.set_cons_succ, i64_w, i32_w]
          rfl
        refine pure_ (i := 27) (N := some 85) (v := ?_) (a' := ?_) #[true, true, true, true, true, true, true, true, true, true, true, true, true, true, true, true, true, true, true, true, true, true, true, true, false, false, true, true, false, false, false, false] rfl rfl (by kernel_rfl) (fun _ _ _ h => h) (Or.inl ⟨by rfl, ?_⟩) ?_ ?_
        rotate_left
        · intro w'
          go_simp
          with_reducible rfl
        rotate_left
        · simp only [Act.put, List.setIfInBounds_toArray, List.set_cons_zero, List.set_cons_succ, i64_w, i32_w]
          rfl
        refine pure_ (i := 28) (N := some 86) (v := ?_) (a' := ?_) #[true, true, true, true, true, true, true, true, true, true, true, true, true, true, true, true, true, true, true, true, true, true, true, true, false, false, true, true, true, false, false, false] rfl rfl (by kernel_rfl) (fun _ _ _ h => h) (Or.inl ⟨by rfl, ?_⟩) ?_ ?_
        rotate_left
        · intro w'
          go_simp
          with_reducible rfl
        rotate_left
        · simp only [Act.put, List.setIfInBounds_toArray, List.set_cons_zero, List.set_cons_succ, i64_w, i32_w]
          rfl
        refine take_ (i := 24) (N := some 82) (v := ?_) (a' := ?_) #[true, true, true, true, true, true, true, true, true, true, true, true, true, true, true, true, true, true, true, true, true, true, true, true, true, false, true, true, true, false, false, false] rfl rfl (by kernel_rfl) (fun _ _ _ h => h) (Or.inl ⟨by rfl, ?_⟩) hHeld ?_ ?_
        rotate_left
        · rintro w' ⟨s0, s1, s2, s3, s4, s5, s6, s7, s8, s9, s10, s11, s12⟩
          go_simp
          with_reducible rfl
        rotate_left
        · simp only [Act.put, List.setIfInBounds_toArray, List.set_cons_zero, List.set_cons_succ, i64_w, i32_w]
          rfl
        refine take_ (i := 29) (N := some 87) (v := ?_) (a' := ?_) #[true, true, true, true, true, true, true, true, true, true, true, true, true, true, true, true, true, true, true, true, true, true, true, true, true, false, true, true, true, true, false, false] rfl rfl (by kernel_rfl) (fun _ _ _ h => h) (Or.inl ⟨by rfl, ?_⟩) hHeld ?_ ?_
        rotate_left
        · rintro w' ⟨s0, s1, s2, s3, s4, s5, s6, s7, s8, s9, s10, s11, s12⟩
          go_simp
          with_reducible rfl
        rotate_left
        · simp only [Act.put, List.setIfInBounds_toArray, List.set_cons_zero, List.set_cons_succ, i64_w, i32_w]
          rfl
        refine one_ (i := 25) (N := some 83) #[true, true, true, true, true, true, true, true, true, true, true, true, true, true, true, true, true, true, true, true, true, true, true, true, true, true, true, true, true, true, false, false] rfl rfl (by kernel_rfl) (by decide) (fun K hK => ?_)
        refine goes_ Tryd.func16 (by kernel_rfl) rfl #[.agg #[.int .u8 kd, .int .u64 e, .int .u64 n, .int .u64 p, .int .u64 i, .int .u64 k]] (by rfl) rfl rfl (by (try simp only [List.map_toArray, List.map_cons, List.map_nil]); first | done | rfl) ?_
        with_reducible refine (putV_calls kd e n p i k t HT.out HF.out _ (HG.out.below (below_step HB5.out HBq9.out))).mono ?_
        rintro e wq25 ⟨rfl, hbq⟩
        refine ⟨_, rfl, ?_⟩
        have HBq25 := Aside0.mk (below_step HBq9.out hbq)
        clear hbq
        refine hK.out _ _ ⟨pw_cell_below HBq25.out hs0, pw_cell_below HBq25.out hq0, pw_cell_below HBq25.out hq1, pw_cell_below HBq25.out hq2, pw_cell_below HBq25.out hq3, pw_cell_below HBq25.out hq4, pw_cell_below HBq25.out hq5, pw_cell_below HBq25.out hr0, pw_cell_below HBq25.out hr1, pw_cell_below HBq25.out hr2, pw_cell_below HBq25.out hr3, pw_cell_below HBq25.out hr4, pw_cell_below HBq25.out hr5⟩ (fun hHeld => ?_)
        clear hK K
        refine norm_ (a' := ?_) ?_ ?_
        rotate_left
        · show Act.put _ (some 83) _ = _
          simp only [Act.put, List.setIfInBounds_toArray, List.set_cons_zero, List.set_cons_succ, i64_w, i32_w]
          rfl
        refine pure_ (i := 30) (N := some 88) (v := ?_) (a' := ?_) #[true, true, true, true, true, true, true, true, true, true, true, true, true, true, true, true, true, true, true, true, true, true, true, true, true, true, true, true, true, true, true, false] rfl rfl (by kernel_rfl) (fun _ _ _ h => h) (Or.inl ⟨by rfl, ?_⟩) ?_ ?_
        rotate_left
        · intro w'
          go_simp
          with_reducible rfl
        rotate_left
        · simp only [Act.put, List.setIfInBounds_toArray, List.set_cons_zero, List.set_cons_succ, i64_w, i32_w]
          rfl
        refine pure_ (i := 31) (N := some 89) (v := ?_) (a' := ?_) #[true, true, true, true, true, true, true, true, true, true, true, true, true, true, true, true, true, true, true, true, true, true, true, true, true, true, true, true, true, true, true, true] rfl rfl (by kernel_rfl) (fun _ _ _ h => h) (Or.inl ⟨by rfl, ?_⟩) ?_ ?_
        rotate_left
        · intro w'
          go_simp
          with_reducible rfl
        rotate_left
        · simp only [Act.put, List.setIfInBounds_toArray, List.set_cons_zero, List.set_cons_succ, i64_w, i32_w]
          rfl
        refine done_ (by kernel_rfl) ?_
        have HB9 := Aside0.mk (below_step HB5.out HBq25.out)
        have HL9 := Aside0.mk ((HBq25.out.block _ (Array.getElem?_eq_some_iff.1 HL5.out).1).trans HL5.out)
        have HS9 := Aside0.mk ((HBq25.out.block _ (Array.getElem?_eq_some_iff.1 HS5.out).1).trans HS5.out)
        clear hHeld hs0 hq0 hq1 hq2 hq3 hq4 hq5 hr0 hr1 hr2 hr3 hr4 hr5
        go_wp2
        exact ⟨⟨2, by decide, by rfl, HB9, HL9, HS9⟩, by decide⟩
      · have hs0 : wr.cell? ⟨gs, 2, none⟩ = some (.string ⟨t.toArray⟩) := g0
        have hq0 : wr.cell? ⟨gl, 12, none⟩ = some (.int .u8 kd) := g1
        have hq1 : wr.cell? ⟨gl, 13, none⟩ = some (.int .u64 e) := g2
        have hq2 : wr.cell? ⟨gl, 14, none⟩ = some (.int .u64 n) := g3
        have hq3 : wr.cell? ⟨gl, 15, none⟩ = some (.int .u64 p) := g4
        have hq4 : wr.cell? ⟨gl, 16, none⟩ = some (.int .u64 i) := g5
        have hq5 : wr.cell? ⟨gl, 17, none⟩ = some (.int .u64 k) := g6
        clear g0 g1 g2 g3 g4 g5 g6
        go_upto_region 7 with (go_at_call 8; refine (parseV_calls ⟨t.toArray⟩ kd e n p i k true (by show (parseB t).getD nm0 = _; rw [HPA.out]; rfl) (by show (parseB t).isSome = _; rw [HPA.out]; rfl) HLT.out _ (HG.out.below HBR.out)).mono ?_; rintro e w4 ⟨rfl, hb⟩; have HB4 := Aside0.mk (below_step HBR.out hb); have HL4 := Aside0.mk ((hb.block _ (Array.getElem?_eq_some_iff.1 HLR.out).1).trans HLR.out); have HS4 := Aside0.mk ((hb.block _ (Array.getElem?_eq_some_iff.1 HSR.out).1).trans HSR.out); replace hs0 := pw_cell_below hb hs0; replace hq0 := pw_cell_below hb hq0; replace hq1 := pw_cell_below hb hq1; replace hq2 := pw_cell_below hb hq2; replace hq3 := pw_cell_below hb hq3; replace hq4 := pw_cell_below hb hq4; replace hq5 := pw_cell_below hb hq5; clear hb)
        have hbx := below_alloc (Below.refl _ w4) (.cells #[.int .u8 kd, .int .u64 e, .int .u64 n, .int .u64 p, .int .u64 i, .int .u64 k] 25)
        have HB5 := Aside0.mk (below_step HB4.out hbx)
        have HL5 := Aside0.mk ((hbx.block _ (Array.getElem?_eq_some_iff.1 HL4.out).1).trans HL4.out)
        have HS5 := Aside0.mk ((hbx.block _ (Array.getElem?_eq_some_iff.1 HS4.out).1).trans HS4.out)
        replace hs0 := cell_allocs hs0 (.cells #[.int .u8 kd, .int .u64 e, .int .u64 n, .int .u64 p, .int .u64 i, .int .u64 k] 25)
        replace hq0 := cell_allocs hq0 (.cells #[.int .u8 kd, .int .u64 e, .int .u64 n, .int .u64 p, .int .u64 i, .int .u64 k] 25)
        replace hq1 := cell_allocs hq1 (.cells #[.int .u8 kd, .int .u64 e, .int .u64 n, .int .u64 p, .int .u64 i, .int .u64 k] 25)
        replace hq2 := cell_allocs hq2 (.cells #[.int .u8 kd, .int .u64 e, .int .u64 n, .int .u64 p, .int .u64 i, .int .u64 k] 25)
        replace hq3 := cell_allocs hq3 (.cells #[.int .u8 kd, .int .u64 e, .int .u64 n, .int .u64 p, .int .u64 i, .int .u64 k] 25)
        replace hq4 := cell_allocs hq4 (.cells #[.int .u8 kd, .int .u64 e, .int .u64 n, .int .u64 p, .int .u64 i, .int .u64 k] 25)
        replace hq5 := cell_allocs hq5 (.cells #[.int .u8 kd, .int .u64 e, .int .u64 n, .int .u64 p, .int .u64 i, .int .u64 k] 25)
        have hr0 : (w4.alloc (.cells #[.int .u8 kd, .int .u64 e, .int .u64 n, .int .u64 p, .int .u64 i, .int .u64 k] 25)).cell? ⟨w4.heap.size, 0, none⟩ = some (.int .u8 kd) := by go_simp
        have hr1 : (w4.alloc (.cells #[.int .u8 kd, .int .u64 e, .int .u64 n, .int .u64 p, .int .u64 i, .int .u64 k] 25)).cell? ⟨w4.heap.size, 1, none⟩ = some (.int .u64 e) := by go_simp
        have hr2 : (w4.alloc (.cells #[.int .u8 kd, .int .u64 e, .int .u64 n, .int .u64 p, .int .u64 i, .int .u64 k] 25)).cell? ⟨w4.heap.size, 2, none⟩ = some (.int .u64 n) := by go_simp
        have hr3 : (w4.alloc (.cells #[.int .u8 kd, .int .u64 e, .int .u64 n, .int .u64 p, .int .u64 i, .int .u64 k] 25)).cell? ⟨w4.heap.size, 3, none⟩ = some (.int .u64 p) := by go_simp
        have hr4 : (w4.alloc (.cells #[.int .u8 kd, .int .u64 e, .int .u64 n, .int .u64 p, .int .u64 i, .int .u64 k] 25)).cell? ⟨w4.heap.size, 4, none⟩ = some (.int .u64 i) := by go_simp
        have hr5 : (w4.alloc (.cells #[.int .u8 kd, .int .u64 e, .int .u64 n, .int .u64 p, .int .u64 i, .int .u64 k] 25)).cell? ⟨w4.heap.size, 5, none⟩ = some (.int .u64 k) := by go_simp
        clear hbx HB4 HL4 HS4 HBR HLR HSR
        generalize w4.alloc (.cells #[.int .u8 kd, .int .u64 e, .int .u64 n, .int .u64 p, .int .u64 i, .int .u64 k] 25) = w5 at HB5 HL5 HS5 hs0 hq0 hq1 hq2 hq3 hq4 hq5 hr0 hr1 hr2 hr3 hr4 hr5 ⊢
        generalize w4.heap.size = g12 at hr0 hr1 hr2 hr3 hr4 hr5 ⊢
        have HBD := Aside0.mk (below_drew (Below.refl w5.heap.size w5))
        refine start_ (n := 32) (S := fun w' => w'.cell? ⟨gs, 2, none⟩ = some (.string ⟨t.toArray⟩) ∧ w'.cell? ⟨gl, 12, none⟩ = some (.int .u8 kd) ∧ w'.cell? ⟨gl, 13, none⟩ = some (.int .u64 e) ∧ w'.cell? ⟨gl, 14, none⟩ = some (.int .u64 n) ∧ w'.cell? ⟨gl, 15, none⟩ = some (.int .u64 p) ∧ w'.cell? ⟨gl, 16, none⟩ = some (.int .u64 i) ∧ w'.cell? ⟨gl, 17, none⟩ = some (.int .u64 k) ∧ w'.cell? ⟨g12, 0, none⟩ = some (.int .u8 kd) ∧ w'.cell? ⟨g12, 1, none⟩ = some (.int .u64 e) ∧ w'.cell? ⟨g12, 2, none⟩ = some (.int .u64 n) ∧ w'.cell? ⟨g12, 3, none⟩ = some (.int .u64 p) ∧ w'.cell? ⟨g12, 4, none⟩ = some (.int .u64 i) ∧ w'.cell? ⟨g12, 5, none⟩ = some (.int .u64 k)) (ds := []) #[false, false, false, false, false, false, false, false, false, false, false, false, false, false, false, false, false, false, false, false, false, false, false, false, false, false, false, false, false, false, false, false] (by kernel_rfl) rfl rfl ⟨hs0, hq0, hq1, hq2, hq3, hq4, hq5, hr0, hr1, hr2, hr3, hr4, hr5⟩ (fun hHeld => ?_)
        refine pure_ (i := 0) (N := some 58) (v := ?_) (a' := ?_) #[true, false, false, false, false, false, false, false, false, false, false, false, false, false, false, false, false, false, false, false, false, false, false, false, false, false, false, false, false, false, false, false] rfl rfl (by kernel_rfl) (fun _ _ _ h => h) (Or.inl ⟨by rfl, ?_⟩) ?_ ?_
        rotate_left
        · intro w'
          go_simp
          with_reducible rfl
        rotate_left
        · simp only [Act.put, List.setIfInBounds_toArray, List.set_cons_zero, List.set_cons_succ, i64_w, i32_w]
          rfl
        refine pure_ (i := 1) (N := some 59) (v := ?_) (a' := ?_) #[true, true, false, false, false, false, false, false, false, false, false, false, false, false, false, false, false, false, false, false, false, false, false, false, false, false, false, false, false, false, false, false] rfl rfl (by kernel_rfl) (fun _ _ _ h => h) (Or.inl ⟨by rfl, ?_⟩) ?_ ?_
        rotate_left
        · intro w'
          go_simp
          with_reducible rfl
        rotate_left
        · simp only [Act.put, List.setIfInBounds_toArray, List.set_cons_zero, List.set_cons_succ, i64_w, i32_w]
          rfl
        refine pure_ (i := 2) (N := some 60) (v := ?_) (a' := ?_) #[true, true, true, false, false, false, false, false, false, false, false, false, false, false, false, false, false, false, false, false, false, false, false, false, false, false, false, false, false, false, false, false] rfl rfl (by kernel_rfl) (fun _ _ _ h => h) (Or.inl ⟨by rfl, ?_⟩) ?_ ?_
        rotate_left
        · intro w'
          go_simp
          with_reducible rfl
        rotate_left
        · simp only [Act.put, List.setIfInBounds_toArray, List.set_cons_zero, List.set_cons_succ, i64_w, i32_w]
          rfl
        refine pure_ (i := 4) (N := some 62) (v := ?_) (a' := ?_) #[true, true, true, false, true, false, false, false, false, false, false, false, false, false, false, false, false, false, false, false, false, false, false, false, false, false, false, false, false, false, false, false] rfl rfl (by kernel_rfl) (fun _ _ _ h => h) (Or.inl ⟨by rfl, ?_⟩) ?_ ?_
        rotate_left
        · intro w'
          go_simp
          with_reducible rfl
        rotate_left
        · simp only [Act.put, List.setIfInBounds_toArray, List.set_cons_zero, List.set_cons_succ, i64_w, i32_w]
          rfl
        refine pure_ (i := 5) (N := some 63) (v := ?_) (a' := ?_) #[true, true, true, false, true, true, false, false, false, false, false, false, false, false, false, false, false, false, false, false, false, false, false, false, false, false, false, false, false, false, false, false] rfl rfl (by kernel_rfl) (fun _ _ _ h => h) (Or.inl ⟨by rfl, ?_⟩) ?_ ?_
        rotate_left
        · intro w'
          go_simp
          with_reducible rfl
        rotate_left
        · simp only [Act.put, List.setIfInBounds_toArray, List.set_cons_zero, List.set_cons_succ, i64_w, i32_w]
          rfl
        refine pure_ (i := 6) (N := some 64) (v := ?_) (a' := ?_) #[true, true, true, false, true, true, true, false, false, false, false, false, false, false, false, false, false, false, false, false, false, false, false, false, false, false, false, false, false, false, false, false] rfl rfl (by kernel_rfl) (fun _ _ _ h => h) (Or.inl ⟨by rfl, ?_⟩) ?_ ?_
        rotate_left
        · intro w'
          go_simp
          with_reducible rfl
        rotate_left
        · simp only [Act.put, List.setIfInBounds_toArray, List.set_cons_zero, List.set_cons_succ, i64_w, i32_w]
          rfl
        refine take_ (i := 3) (N := some 61) (v := ?_) (a' := ?_) #[true, true, true, true, true, true, true, false, false, false, false, false, false, false, false, false, false, false, false, false, false, false, false, false, false, false, false, false, false, false, false, false] rfl rfl (by kernel_rfl) (fun _ _ _ h => h) (Or.inl ⟨by rfl, ?_⟩) hHeld ?_ ?_
        rotate_left
        · rintro w' ⟨s0, s1, s2, s3, s4, s5, s6, s7, s8, s9, s10, s11, s12⟩
          go_simp
          with_reducible rfl
        rotate_left
        · simp only [Act.put, List.setIfInBounds_toArray, List.set_cons_zero, List.set_cons_succ, i64_w, i32_w]
          rfl
        refine take_ (i := 7) (N := some 65) (v := ?_) (a' := ?_) #[true, true, true, true, true, true, true, true, false, false, false, false, false, false, false, false, false, false, false, false, false, false, false, false, false, false, false, false, false, false, false, false] rfl rfl (by kernel_rfl) (fun _ _ _ h => h) (Or.inl ⟨by rfl, ?_⟩) hHeld ?_ ?_
        rotate_left
        · rintro w' ⟨s0, s1, s2, s3, s4, s5, s6, s7, s8, s9, s10, s11, s12⟩
          go_simp
          with_reducible rfl
        rotate_left
        · simp only [Act.put, List.setIfInBounds_toArray, List.set_cons_zero, List.set_cons_succ, i64_w, i32_w]
          rfl
        refine one_ (i := 8) (N := some 66) #[true, true, true, true, true, true, true, true, true, false, false, false, false, false, false, false, false, false, false, false, false, false, false, false, false, false, false, false, false, false, false, false] rfl rfl (by kernel_rfl) (by decide) (fun K hK => ?_)
        refine goes_ Tryd.func10 (by kernel_rfl) rfl #[.agg #[.int .u8 kd, .int .u64 e, .int .u64 n, .int .u64 p, .int .u64 i, .int .u64 k]] (by rfl) rfl rfl (by (try simp only [List.map_toArray, List.map_cons, List.map_nil]); first | done | rfl) ?_
        with_reducible refine (ref_calls kd e n p i k _).mono ?_
        rintro e wq8 ⟨rfl, hbq⟩
        refine ⟨_, rfl, ?_⟩
        have HBq8 := Aside0.mk (below_step HBD.out hbq)
        clear hbq
        refine hK.out _ _ ⟨pw_cell_below HBq8.out hs0, pw_cell_below HBq8.out hq0, pw_cell_below HBq8.out hq1, pw_cell_below HBq8.out hq2, pw_cell_below HBq8.out hq3, pw_cell_below HBq8.out hq4, pw_cell_below HBq8.out hq5, pw_cell_below HBq8.out hr0, pw_cell_below HBq8.out hr1, pw_cell_below HBq8.out hr2, pw_cell_below HBq8.out hr3, pw_cell_below HBq8.out hr4, pw_cell_below HBq8.out hr5⟩ (fun hHeld => ?_)
        clear hK K
        refine norm_ (a' := ?_) ?_ ?_
        rotate_left
        · show Act.put _ (some 66) _ = _
          simp only [Act.put, List.setIfInBounds_toArray, List.set_cons_zero, List.set_cons_succ, i64_w, i32_w]
          rfl
        refine one_ (i := 9) (N := some 67) #[true, true, true, true, true, true, true, true, true, true, false, false, false, false, false, false, false, false, false, false, false, false, false, false, false, false, false, false, false, false, false, false] rfl rfl (by kernel_rfl) (by decide) (fun K hK => ?_)
        refine goes_ Tryd.func15 (by kernel_rfl) rfl #[.agg #[.int .u8 kd, .int .u64 e, .int .u64 n, .int .u64 p, .int .u64 i, .int .u64 k]] (by rfl) rfl rfl (by (try simp only [List.map_toArray, List.map_cons, List.map_nil]); first | done | rfl) ?_
        with_reducible refine (rputV_calls kd e n p i k t HT.out HF.out _).mono ?_
        rintro e wq9 ⟨rfl, hbq⟩
        refine ⟨_, rfl, ?_⟩
        have HBq9 := Aside0.mk (below_step HBq8.out hbq)
        clear hbq
        refine hK.out _ _ ⟨pw_cell_below HBq9.out hs0, pw_cell_below HBq9.out hq0, pw_cell_below HBq9.out hq1, pw_cell_below HBq9.out hq2, pw_cell_below HBq9.out hq3, pw_cell_below HBq9.out hq4, pw_cell_below HBq9.out hq5, pw_cell_below HBq9.out hr0, pw_cell_below HBq9.out hr1, pw_cell_below HBq9.out hr2, pw_cell_below HBq9.out hr3, pw_cell_below HBq9.out hr4, pw_cell_below HBq9.out hr5⟩ (fun hHeld => ?_)
        clear hK K
        refine norm_ (a' := ?_) ?_ ?_
        rotate_left
        · show Act.put _ (some 67) _ = _
          simp only [Act.put, List.setIfInBounds_toArray, List.set_cons_zero, List.set_cons_succ, i64_w, i32_w]
          rfl
        refine pure_ (i := 10) (N := some 68) (v := ?_) (a' := ?_) #[true, true, true, true, true, true, true, true, true, true, true, false, false, false, false, false, false, false, false, false, false, false, false, false, false, false, false, false, false, false, false, false] rfl rfl (by kernel_rfl) (fun _ _ _ h => h) (Or.inl ⟨by rfl, ?_⟩) ?_ ?_
        rotate_left
        · intro w'
          go_simp
          with_reducible rfl
        rotate_left
        · simp only [Act.put, List.setIfInBounds_toArray, List.set_cons_zero, List.set_cons_succ, i64_w, i32_w]
          rfl
        refine pure_ (i := 11) (N := some 69) (v := ?_) (a' := ?_) #[true, true, true, true, true, true, true, true, true, true, true, true, false, false, false, false, false, false, false, false, false, false, false, false, false, false, false, false, false, false, false, false] rfl rfl (by kernel_rfl) (fun _ _ _ h => h) (Or.inl ⟨by rfl, ?_⟩) ?_ ?_
        rotate_left
        · intro w'
          go_simp
          with_reducible rfl
        rotate_left
        · simp only [Act.put, List.setIfInBounds_toArray, List.set_cons_zero, List.set_cons_succ, i64_w, i32_w]
          rfl
        refine pure_ (i := 12) (N := some 70) (v := ?_) (a' := ?_) #[true, true, true, true, true, true, true, true, true, true, true, true, true, false, false, false, false, false, false, false, false, false, false, false, false, false, false, false, false, false, false, false] rfl rfl (by kernel_rfl) (fun _ _ _ h => h) (Or.inl ⟨by rfl, ?_⟩) ?_ ?_
        rotate_left
        · intro w'
          go_simp
          with_reducible rfl
        rotate_left
        · simp only [Act.put, List.setIfInBounds_toArray, List.set_cons_zero, List.set_cons_succ, i64_w, i32_w]
          rfl
        refine pure_ (i := 13) (N := some 71) (v := ?_) (a' := ?_) #[true, true, true, true, true, true, true, true, true, true, true, true, true, true, false, false, false, false, false, false, false, false, false, false, false, false, false, false, false, false, false, false] rfl rfl (by kernel_rfl) (fun _ _ _ h => h) (Or.inl ⟨by rfl, ?_⟩) ?_ ?_
        rotate_left
        · intro w'
          go_simp
          with_reducible rfl
        rotate_left
        · simp only [Act.put, List.setIfInBounds_toArray, List.set_cons_zero, List.set_cons_succ, i64_w, i32_w]
          rfl
        refine pure_ (i := 14) (N := some 72) (v := ?_) (a' := ?_) #[true, true, true, true, true, true, true, true, true, true, true, true, true, true, true, false, false, false, false, false, false, false, false, false, false, false, false, false, false, false, false, false] rfl rfl (by kernel_rfl) (fun _ _ _ h => h) (Or.inl ⟨by rfl, ?_⟩) ?_ ?_
        rotate_left
        · intro w'
          go_simp
          with_reducible rfl
        rotate_left
        · simp only [Act.put, List.setIfInBounds_toArray, List.set_cons_zero, List.set_cons_succ, i64_w, i32_w]
          rfl
        refine pure_ (i := 15) (N := some 73) (v := ?_) (a' := ?_) #[true, true, true, true, true, true, true, true, true, true, true, true, true, true, true, true, false, false, false, false, false, false, false, false, false, false, false, false, false, false, false, false] rfl rfl (by kernel_rfl) (fun _ _ _ h => h) (Or.inl ⟨by rfl, ?_⟩) ?_ ?_
        rotate_left
        · intro w'
          go_simp
          with_reducible rfl
        rotate_left
        · simp only [Act.put, List.setIfInBounds_toArray, List.set_cons_zero, List.set_cons_succ, i64_w, i32_w]
          rfl
        refine pure_ (i := 17) (N := some 75) (v := ?_) (a' := ?_) #[true, true, true, true, true, true, true, true, true, true, true, true, true, true, true, true, false, true, false, false, false, false, false, false, false, false, false, false, false, false, false, false] rfl rfl (by kernel_rfl) (fun _ _ _ h => h) (Or.inl ⟨by rfl, ?_⟩) ?_ ?_
        rotate_left
        · intro w'
          go_simp
          with_reducible rfl
        rotate_left
        · simp only [Act.put, List.setIfInBounds_toArray, List.set_cons_zero, List.set_cons_succ, i64_w, i32_w]
          rfl
        refine pure_ (i := 18) (N := some 76) (v := ?_) (a' := ?_) #[true, true, true, true, true, true, true, true, true, true, true, true, true, true, true, true, false, true, true, false, false, false, false, false, false, false, false, false, false, false, false, false] rfl rfl (by kernel_rfl) (fun _ _ _ h => h) (Or.inl ⟨by rfl, ?_⟩) ?_ ?_
        rotate_left
        · intro w'
          go_simp
          with_reducible rfl
        rotate_left
        · simp only [Act.put, List.setIfInBounds_toArray, List.set_cons_zero, List.set_cons_succ, i64_w, i32_w]
          rfl
        refine pure_ (i := 19) (N := some 77) (v := ?_) (a' := ?_) #[true, true, true, true, true, true, true, true, true, true, true, true, true, true, true, true, false, true, true, true, false, false, false, false, false, false, false, false, false, false, false, false] rfl rfl (by kernel_rfl) (fun _ _ _ h => h) (Or.inl ⟨by rfl, ?_⟩) ?_ ?_
        rotate_left
        · intro w'
          go_simp
          with_reducible rfl
        rotate_left
        · simp only [Act.put, List.setIfInBounds_toArray, List.set_cons_zero, List.set_cons_succ, i64_w, i32_w]
          rfl
        refine take_ (i := 16) (N := some 74) (v := ?_) (a' := ?_) #[true, true, true, true, true, true, true, true, true, true, true, true, true, true, true, true, true, true, true, true, false, false, false, false, false, false, false, false, false, false, false, false] rfl rfl (by kernel_rfl) (fun _ _ _ h => h) (Or.inl ⟨by rfl, ?_⟩) hHeld ?_ ?_
        rotate_left
        · rintro w' ⟨s0, s1, s2, s3, s4, s5, s6, s7, s8, s9, s10, s11, s12⟩
          go_simp
          with_reducible rfl
        rotate_left
        · simp only [Act.put, List.setIfInBounds_toArray, List.set_cons_zero, List.set_cons_succ, i64_w, i32_w]
          rfl
        refine take_ (i := 20) (N := some 78) (v := ?_) (a' := ?_) #[true, true, true, true, true, true, true, true, true, true, true, true, true, true, true, true, true, true, true, true, true, false, false, false, false, false, false, false, false, false, false, false] rfl rfl (by kernel_rfl) (fun _ _ _ h => h) (Or.inl ⟨by rfl, ?_⟩) hHeld ?_ ?_
        rotate_left
        · rintro w' ⟨s0, s1, s2, s3, s4, s5, s6, s7, s8, s9, s10, s11, s12⟩
          go_simp
          with_reducible rfl
        rotate_left
        · simp only [Act.put, List.setIfInBounds_toArray, List.set_cons_zero, List.set_cons_succ, i64_w, i32_w]
          rfl
        refine pure_ (i := 21) (N := some 79) (v := ?_) (a' := ?_) #[true, true, true, true, true, true, true, true, true, true, true, true, true, true, true, true, true, true, true, true, true, true, false, false, false, false, false, false, false, false, false, false] rfl rfl (by kernel_rfl) (fun _ _ _ h => h) (Or.inl ⟨by rfl, ?_⟩) ?_ ?_
        rotate_left
        · intro w'
          go_simp
          with_reducible rfl
        rotate_left
        · simp only [Act.put, List.setIfInBounds_toArray, List.set_cons_zero, List.set_cons_succ, i64_w, i32_w]
          rfl
        refine pure_ (i := 22) (N := some 80) (v := ?_) (a' := ?_) #[true, true, true, true, true, true, true, true, true, true, true, true, true, true, true, true, true, true, true, true, true, true, true, false, false, false, false, false, false, false, false, false] rfl rfl (by kernel_rfl) (fun _ _ _ h => h) (Or.inl ⟨by rfl, ?_⟩) ?_ ?_
        rotate_left
        · intro w'
          go_simp
          with_reducible rfl
        rotate_left
        · simp only [Act.put, List.setIfInBounds_toArray, List.set_cons_zero, List.set_cons_succ, i64_w, i32_w]
          rfl
        refine pure_ (i := 23) (N := some 81) (v := ?_) (a' := ?_) #[true, true, true, true, true, true, true, true, true, true, true, true, true, true, true, true, true, true, true, true, true, true, true, true, false, false, false, false, false, false, false, false] rfl rfl (by kernel_rfl) (fun _ _ _ h => h) (Or.inl ⟨by rfl, ?_⟩) ?_ ?_
        rotate_left
        · intro w'
          go_simp
          with_reducible rfl
        rotate_left
        · simp only [Act.put, List.setIfInBounds_toArray, List.set_cons_zero, List.set_cons_succ, i64_w, i32_w]
          rfl
        refine pure_ (i := 26) (N := some 84) (v := ?_) (a' := ?_) #[true, true, true, true, true, true, true, true, true, true, true, true, true, true, true, true, true, true, true, true, true, true, true, true, false, false, true, false, false, false, false, false] rfl rfl (by kernel_rfl) (fun _ _ _ h => h) (Or.inl ⟨by rfl, ?_⟩) ?_ ?_
        rotate_left
        · intro w'
          go_simp
          with_reducible rfl
        rotate_left
        · simp only [Act.put, List.setIfInBounds_toArray, List.set_cons_zero, List.set_cons_succ, i64_w, i32_w]
          rfl
        refine pure_ (i := 27) (N := some 85) (v := ?_) (a' := ?_) #[true, true, true, true, true, true, true, true, true, true, true, true, true, true, true, true, true, true, true, true, true, true, true, true, false, false, true, true, false, false, false, false] rfl rfl (by kernel_rfl) (fun _ _ _ h => h) (Or.inl ⟨by rfl, ?_⟩) ?_ ?_
        rotate_left
        · intro w'
          go_simp
          with_reducible rfl
        rotate_left
        · simp only [Act.put, List.setIfInBounds_toArray, List.set_cons_zero, List.set_cons_succ, i64_w, i32_w]
          rfl
        refine pure_ (i := 28) (N := some 86) (v := ?_) (a' := ?_) #[true, true, true, true, true, true, true, true, true, true, true, true, true, true, true, true, true, true, true, true, true, true, true, true, false, false, true, true, true, false, false, false] rfl rfl (by kernel_rfl) (fun _ _ _ h => h) (Or.inl ⟨by rfl, ?_⟩) ?_ ?_
        rotate_left
        · intro w'
          go_simp
          with_reducible rfl
        rotate_left
        · simp only [Act.put, List.setIfInBounds_toArray, List.set_cons_zero, List.set_cons_succ, i64_w, i32_w]
          rfl
        refine take_ (i := 24) (N := some 82) (v := ?_) (a' := ?_) #[true, true, true, true, true, true, true, true, true, true, true, true, true, true, true, true, true, true, true, true, true, true, true, true, true, false, true, true, true, false, false, false] rfl rfl (by kernel_rfl) (fun _ _ _ h => h) (Or.inl ⟨by rfl, ?_⟩) hHeld ?_ ?_
        rotate_left
        · rintro w' ⟨s0, s1, s2, s3, s4, s5, s6, s7, s8, s9, s10, s11, s12⟩
          go_simp
          with_reducible rfl
        rotate_left
        · simp only [Act.put, List.setIfInBounds_toArray, List.set_cons_zero, List.set_cons_succ, i64_w, i32_w]
          rfl
        refine take_ (i := 29) (N := some 87) (v := ?_) (a' := ?_) #[true, true, true, true, true, true, true, true, true, true, true, true, true, true, true, true, true, true, true, true, true, true, true, true, true, false, true, true, true, true, false, false] rfl rfl (by kernel_rfl) (fun _ _ _ h => h) (Or.inl ⟨by rfl, ?_⟩) hHeld ?_ ?_
        rotate_left
        · rintro w' ⟨s0, s1, s2, s3, s4, s5, s6, s7, s8, s9, s10, s11, s12⟩
          go_simp
          with_reducible rfl
        rotate_left
        · simp only [Act.put, List.setIfInBounds_toArray, List.set_cons_zero, List.set_cons_succ, i64_w, i32_w]
          rfl
        refine one_ (i := 25) (N := some 83) #[true, true, true, true, true, true, true, true, true, true, true, true, true, true, true, true, true, true, true, true, true, true, true, true, true, true, true, true, true, true, false, false] rfl rfl (by kernel_rfl) (by decide) (fun K hK => ?_)
        refine goes_ Tryd.func16 (by kernel_rfl) rfl #[.agg #[.int .u8 kd, .int .u64 e, .int .u64 n, .int .u64 p, .int .u64 i, .int .u64 k]] (by rfl) rfl rfl (by (try simp only [List.map_toArray, List.map_cons, List.map_nil]); first | done | rfl) ?_
        with_reducible refine (putV_calls kd e n p i k t HT.out HF.out _ (HG.out.below (below_step HB5.out HBq9.out))).mono ?_
        rintro e wq25 ⟨rfl, hbq⟩
        refine ⟨_, rfl, ?_⟩
        have HBq25 := Aside0.mk (below_step HBq9.out hbq)
        clear hbq
        refine hK.out _ _ ⟨pw_cell_below HBq25.out hs0, pw_cell_below HBq25.out hq0, pw_cell_below HBq25.out hq1, pw_cell_below HBq25.out hq2, pw_cell_below HBq25.out hq3, pw_cell_below HBq25.out hq4, pw_cell_below HBq25.out hq5, pw_cell_below HBq25.out hr0, pw_cell_below HBq25.out hr1, pw_cell_below HBq25.out hr2, pw_cell_below HBq25.out hr3, pw_cell_below HBq25.out hr4, pw_cell_below HBq25.out hr5⟩ (fun hHeld => ?_)
        clear hK K
        refine norm_ (a' := ?_) ?_ ?_
        rotate_left
        · show Act.put _ (some 83) _ = _
          simp only [Act.put, List.setIfInBounds_toArray, List.set_cons_zero, List.set_cons_succ, i64_w, i32_w]
          rfl
        refine pure_ (i := 30) (N := some 88) (v := ?_) (a' := ?_) #[true, true, true, true, true, true, true, true, true, true, true, true, true, true, true, true, true, true, true, true, true, true, true, true, true, true, true, true, true, true, true, false] rfl rfl (by kernel_rfl) (fun _ _ _ h => h) (Or.inl ⟨by rfl, ?_⟩) ?_ ?_
        rotate_left
        · intro w'
          go_simp
          with_reducible rfl
        rotate_left
        · simp only [Act.put, List.setIfInBounds_toArray, List.set_cons_zero, List.set_cons_succ, i64_w, i32_w]
          rfl
        refine pure_ (i := 31) (N := some 89) (v := ?_) (a' := ?_) #[true, true, true, true, true, true, true, true, true, true, true, true, true, true, true, true, true, true, true, true, true, true, true, true, true, true, true, true, true, true, true, true] rfl rfl (by kernel_rfl) (fun _ _ _ h => h) (Or.inl ⟨by rfl, ?_⟩) ?_ ?_
        rotate_left
        · intro w'
          go_simp
          with_reducible rfl
        rotate_left
        · simp only [Act.put, List.setIfInBounds_toArray, List.set_cons_zero, List.set_cons_succ, i64_w, i32_w]
          rfl
        refine done_ (by kernel_rfl) ?_
        have HB9 := Aside0.mk (below_step HB5.out HBq25.out)
        have HL9 := Aside0.mk ((HBq25.out.block _ (Array.getElem?_eq_some_iff.1 HL5.out).1).trans HL5.out)
        have HS9 := Aside0.mk ((HBq25.out.block _ (Array.getElem?_eq_some_iff.1 HS5.out).1).trans HS5.out)
        clear hHeld hs0 hq0 hq1 hq2 hq3 hq4 hq5 hr0 hr1 hr2 hr3 hr4 hr5
        go_wp2
        exact ⟨⟨3, by decide, by rfl, HB9, HL9, HS9⟩, by decide⟩
      · have hs0 : wr.cell? ⟨gs, 3, none⟩ = some (.string ⟨t.toArray⟩) := g0
        have hq0 : wr.cell? ⟨gl, 18, none⟩ = some (.int .u8 kd) := g1
        have hq1 : wr.cell? ⟨gl, 19, none⟩ = some (.int .u64 e) := g2
        have hq2 : wr.cell? ⟨gl, 20, none⟩ = some (.int .u64 n) := g3
        have hq3 : wr.cell? ⟨gl, 21, none⟩ = some (.int .u64 p) := g4
        have hq4 : wr.cell? ⟨gl, 22, none⟩ = some (.int .u64 i) := g5
        have hq5 : wr.cell? ⟨gl, 23, none⟩ = some (.int .u64 k) := g6
        clear g0 g1 g2 g3 g4 g5 g6
        go_upto_region 7 with (go_at_call 8; refine (parseV_calls ⟨t.toArray⟩ kd e n p i k true (by show (parseB t).getD nm0 = _; rw [HPA.out]; rfl) (by show (parseB t).isSome = _; rw [HPA.out]; rfl) HLT.out _ (HG.out.below HBR.out)).mono ?_; rintro e w4 ⟨rfl, hb⟩; have HB4 := Aside0.mk (below_step HBR.out hb); have HL4 := Aside0.mk ((hb.block _ (Array.getElem?_eq_some_iff.1 HLR.out).1).trans HLR.out); have HS4 := Aside0.mk ((hb.block _ (Array.getElem?_eq_some_iff.1 HSR.out).1).trans HSR.out); replace hs0 := pw_cell_below hb hs0; replace hq0 := pw_cell_below hb hq0; replace hq1 := pw_cell_below hb hq1; replace hq2 := pw_cell_below hb hq2; replace hq3 := pw_cell_below hb hq3; replace hq4 := pw_cell_below hb hq4; replace hq5 := pw_cell_below hb hq5; clear hb)
        have hbx := below_alloc (Below.refl _ w4) (.cells #[.int .u8 kd, .int .u64 e, .int .u64 n, .int .u64 p, .int .u64 i, .int .u64 k] 25)
        have HB5 := Aside0.mk (below_step HB4.out hbx)
        have HL5 := Aside0.mk ((hbx.block _ (Array.getElem?_eq_some_iff.1 HL4.out).1).trans HL4.out)
        have HS5 := Aside0.mk ((hbx.block _ (Array.getElem?_eq_some_iff.1 HS4.out).1).trans HS4.out)
        replace hs0 := cell_allocs hs0 (.cells #[.int .u8 kd, .int .u64 e, .int .u64 n, .int .u64 p, .int .u64 i, .int .u64 k] 25)
        replace hq0 := cell_allocs hq0 (.cells #[.int .u8 kd, .int .u64 e, .int .u64 n, .int .u64 p, .int .u64 i, .int .u64 k] 25)
        replace hq1 := cell_allocs hq1 (.cells #[.int .u8 kd, .int .u64 e, .int .u64 n, .int .u64 p, .int .u64 i, .int .u64 k] 25)
        replace hq2 := cell_allocs hq2 (.cells #[.int .u8 kd, .int .u64 e, .int .u64 n, .int .u64 p, .int .u64 i, .int .u64 k] 25)
        replace hq3 := cell_allocs hq3 (.cells #[.int .u8 kd, .int .u64 e, .int .u64 n, .int .u64 p, .int .u64 i, .int .u64 k] 25)
        replace hq4 := cell_allocs hq4 (.cells #[.int .u8 kd, .int .u64 e, .int .u64 n, .int .u64 p, .int .u64 i, .int .u64 k] 25)
        replace hq5 := cell_allocs hq5 (.cells #[.int .u8 kd, .int .u64 e, .int .u64 n, .int .u64 p, .int .u64 i, .int .u64 k] 25)
        have hr0 : (w4.alloc (.cells #[.int .u8 kd, .int .u64 e, .int .u64 n, .int .u64 p, .int .u64 i, .int .u64 k] 25)).cell? ⟨w4.heap.size, 0, none⟩ = some (.int .u8 kd) := by go_simp
        have hr1 : (w4.alloc (.cells #[.int .u8 kd, .int .u64 e, .int .u64 n, .int .u64 p, .int .u64 i, .int .u64 k] 25)).cell? ⟨w4.heap.size, 1, none⟩ = some (.int .u64 e) := by go_simp
        have hr2 : (w4.alloc (.cells #[.int .u8 kd, .int .u64 e, .int .u64 n, .int .u64 p, .int .u64 i, .int .u64 k] 25)).cell? ⟨w4.heap.size, 2, none⟩ = some (.int .u64 n) := by go_simp
        have hr3 : (w4.alloc (.cells #[.int .u8 kd, .int .u64 e, .int .u64 n, .int .u64 p, .int .u64 i, .int .u64 k] 25)).cell? ⟨w4.heap.size, 3, none⟩ = some (.int .u64 p) := by go_simp
        have hr4 : (w4.alloc (.cells #[.int .u8 kd, .int .u64 e, .int .u64 n, .int .u64 p, .int .u64 i, .int .u64 k] 25)).cell? ⟨w4.heap.size, 4, none⟩ = some (.int .u64 i) := by go_simp
        have hr5 : (w4.alloc (.cells #[.int .u8 kd, .int .u64 e, .int .u64 n, .int .u64 p, .int .u64 i, .int .u64 k] 25)).cell? ⟨w4.heap.size, 5, none⟩ = some (.int .u64 k) := by go_simp
        clear hbx HB4 HL4 HS4 HBR HLR HSR
        generalize w4.alloc (.cells #[.int .u8 kd, .int .u64 e, .int .u64 n, .int .u64 p, .int .u64 i, .int .u64 k] 25) = w5 at HB5 HL5 HS5 hs0 hq0 hq1 hq2 hq3 hq4 hq5 hr0 hr1 hr2 hr3 hr4 hr5 ⊢
        generalize w4.heap.size = g12 at hr0 hr1 hr2 hr3 hr4 hr5 ⊢
        have HBD := Aside0.mk (below_drew (Below.refl w5.heap.size w5))
        refine start_ (n := 32) (S := fun w' => w'.cell? ⟨gs, 3, none⟩ = some (.string ⟨t.toArray⟩) ∧ w'.cell? ⟨gl, 18, none⟩ = some (.int .u8 kd) ∧ w'.cell? ⟨gl, 19, none⟩ = some (.int .u64 e) ∧ w'.cell? ⟨gl, 20, none⟩ = some (.int .u64 n) ∧ w'.cell? ⟨gl, 21, none⟩ = some (.int .u64 p) ∧ w'.cell? ⟨gl, 22, none⟩ = some (.int .u64 i) ∧ w'.cell? ⟨gl, 23, none⟩ = some (.int .u64 k) ∧ w'.cell? ⟨g12, 0, none⟩ = some (.int .u8 kd) ∧ w'.cell? ⟨g12, 1, none⟩ = some (.int .u64 e) ∧ w'.cell? ⟨g12, 2, none⟩ = some (.int .u64 n) ∧ w'.cell? ⟨g12, 3, none⟩ = some (.int .u64 p) ∧ w'.cell? ⟨g12, 4, none⟩ = some (.int .u64 i) ∧ w'.cell? ⟨g12, 5, none⟩ = some (.int .u64 k)) (ds := []) #[false, false, false, false, false, false, false, false, false, false, false, false, false, false, false, false, false, false, false, false, false, false, false, false, false, false, false, false, false, false, false, false] (by kernel_rfl) rfl rfl ⟨hs0, hq0, hq1, hq2, hq3, hq4, hq5, hr0, hr1, hr2, hr3, hr4, hr5⟩ (fun hHeld => ?_)
        refine pure_ (i := 0) (N := some 58) (v := ?_) (a' := ?_) #[true, false, false, false, false, false, false, false, false, false, false, false, false, false, false, false, false, false, false, false, false, false, false, false, false, false, false, false, false, false, false, false] rfl rfl (by kernel_rfl) (fun _ _ _ h => h) (Or.inl ⟨by rfl, ?_⟩) ?_ ?_
        rotate_left
        · intro w'
          go_simp
          with_reducible rfl
        rotate_left
        · simp only [Act.put, List.setIfInBounds_toArray, List.set_cons_zero, List.set_cons_succ, i64_w, i32_w]
          rfl
        refine pure_ (i := 1) (N := some 59) (v := ?_) (a' := ?_) #[true, true, false, false, false, false, false, false, false, false, false, false, false, false, false, false, false, false, false, false, false, false, false, false, false, false, false, false, false, false, false, false] rfl rfl (by kernel_rfl) (fun _ _ _ h => h) (Or.inl ⟨by rfl, ?_⟩) ?_ ?_
        rotate_left
        · intro w'
          go_simp
          with_reducible rfl
        rotate_left
        · simp only [Act.put, List.setIfInBounds_toArray, List.set_cons_zero, List.set_cons_succ, i64_w, i32_w]
          rfl
        refine pure_ (i := 2) (N := some 60) (v := ?_) (a' := ?_) #[true, true, true, false, false, false, false, false, false, false, false, false, false, false, false, false, false, false, false, false, false, false, false, false, false, false, false, false, false, false, false, false] rfl rfl (by kernel_rfl) (fun _ _ _ h => h) (Or.inl ⟨by rfl, ?_⟩) ?_ ?_
        rotate_left
        · intro w'
          go_simp
          with_reducible rfl
        rotate_left
        · simp only [Act.put, List.setIfInBounds_toArray, List.set_cons_zero, List.set_cons_succ, i64_w, i32_w]
          rfl
        refine pure_ (i := 4) (N := some 62) (v := ?_) (a' := ?_) #[true, true, true, false, true, false, false, false, false, false, false, false, false, false, false, false, false, false, false, false, false, false, false, false, false, false, false, false, false, false, false, false] rfl rfl (by kernel_rfl) (fun _ _ _ h => h) (Or.inl ⟨by rfl, ?_⟩) ?_ ?_
        rotate_left
        · intro w'
          go_simp
          with_reducible rfl
        rotate_left
        · simp only [Act.put, List.setIfInBounds_toArray, List.set_cons_zero, List.set_cons_succ, i64_w, i32_w]
          rfl
        refine pure_ (i := 5) (N := some 63) (v := ?_) (a' := ?_) #[true, true, true, false, true, true, false, false, false, false, false, false, false, false, false, false, false, false, false, false, false, false, false, false, false, false, false, false, false, false, false, false] rfl rfl (by kernel_rfl) (fun _ _ _ h => h) (Or.inl ⟨by rfl, ?_⟩) ?_ ?_
        rotate_left
        · intro w'
          go_simp
          with_reducible rfl
        rotate_left
        · simp only [Act.put, List.setIfInBounds_toArray, List.set_cons_zero, List.set_cons_succ, i64_w, i32_w]
          rfl
        refine pure_ (i := 6) (N := some 64) (v := ?_) (a' := ?_) #[true, true, true, false, true, true, true, false, false, false, false, false, false, false, false, false, false, false, false, false, false, false, false, false, false, false, false, false, false, false, false, false] rfl rfl (by kernel_rfl) (fun _ _ _ h => h) (Or.inl ⟨by rfl, ?_⟩) ?_ ?_
        rotate_left
        · intro w'
          go_simp
          with_reducible rfl
        rotate_left
        · simp only [Act.put, List.setIfInBounds_toArray, List.set_cons_zero, List.set_cons_succ, i64_w, i32_w]
          rfl
        refine take_ (i := 3) (N := some 61) (v := ?_) (a' := ?_) #[true, true, true, true, true, true, true, false, false, false, false, false, false, false, false, false, false, false, false, false, false, false, false, false, false, false, false, false, false, false, false, false] rfl rfl (by kernel_rfl) (fun _ _ _ h => h) (Or.inl ⟨by rfl, ?_⟩) hHeld ?_ ?_
        rotate_left
        · rintro w' ⟨s0, s1, s2, s3, s4, s5, s6, s7, s8, s9, s10, s11, s12⟩
          go_simp
          with_reducible rfl
        rotate_left
        · simp only [Act.put, List.setIfInBounds_toArray, List.set_cons_zero, List.set_cons_succ, i64_w, i32_w]
          rfl
        refine take_ (i := 7) (N := some 65) (v := ?_) (a' := ?_) #[true, true, true, true, true, true, true, true, false, false, false, false, false, false, false, false, false, false, false, false, false, false, false, false, false, false, false, false, false, false, false, false] rfl rfl (by kernel_rfl) (fun _ _ _ h => h) (Or.inl ⟨by rfl, ?_⟩) hHeld ?_ ?_
        rotate_left
        · rintro w' ⟨s0, s1, s2, s3, s4, s5, s6, s7, s8, s9, s10, s11, s12⟩
          go_simp
          with_reducible rfl
        rotate_left
        · simp only [Act.put, List.setIfInBounds_toArray, List.set_cons_zero, List.set_cons_succ, i64_w, i32_w]
          rfl
        refine one_ (i := 8) (N := some 66) #[true, true, true, true, true, true, true, true, true, false, false, false, false, false, false, false, false, false, false, false, false, false, false, false, false, false, false, false, false, false, false, false] rfl rfl (by kernel_rfl) (by decide) (fun K hK => ?_)
        refine goes_ Tryd.func10 (by kernel_rfl) rfl #[.agg #[.int .u8 kd, .int .u64 e, .int .u64 n, .int .u64 p, .int .u64 i, .int .u64 k]] (by rfl) rfl rfl (by (try simp only [List.map_toArray, List.map_cons, List.map_nil]); first | done | rfl) ?_
        with_reducible refine (ref_calls kd e n p i k _).mono ?_
        rintro e wq8 ⟨rfl, hbq⟩
        refine ⟨_, rfl, ?_⟩
        have HBq8 := Aside0.mk (below_step HBD.out hbq)
        clear hbq
        refine hK.out _ _ ⟨pw_cell_below HBq8.out hs0, pw_cell_below HBq8.out hq0, pw_cell_below HBq8.out hq1, pw_cell_below HBq8.out hq2, pw_cell_below HBq8.out hq3, pw_cell_below HBq8.out hq4, pw_cell_below HBq8.out hq5, pw_cell_below HBq8.out hr0, pw_cell_below HBq8.out hr1, pw_cell_below HBq8.out hr2, pw_cell_below HBq8.out hr3, pw_cell_below HBq8.out hr4, pw_cell_below HBq8.out hr5⟩ (fun hHeld => ?_)
        clear hK K
        refine norm_ (a' := ?_) ?_ ?_
        rotate_left
        · show Act.put _ (some 66) _ = _
          simp only [Act.put, List.setIfInBounds_toArray, List.set_cons_zero, List.set_cons_succ, i64_w, i32_w]
          rfl
        refine one_ (i := 9) (N := some 67) #[true, true, true, true, true, true, true, true, true, true, false, false, false, false, false, false, false, false, false, false, false, false, false, false, false, false, false, false, false, false, false, false] rfl rfl (by kernel_rfl) (by decide) (fun K hK => ?_)
        refine goes_ Tryd.func15 (by kernel_rfl) rfl #[.agg #[.int .u8 kd, .int .u64 e, .int .u64 n, .int .u64 p, .int .u64 i, .int .u64 k]] (by rfl) rfl rfl (by (try simp only [List.map_toArray, List.map_cons, List.map_nil]); first | done | rfl) ?_
        with_reducible refine (rputV_calls kd e n p i k t HT.out HF.out _).mono ?_
        rintro e wq9 ⟨rfl, hbq⟩
        refine ⟨_, rfl, ?_⟩
        have HBq9 := Aside0.mk (below_step HBq8.out hbq)
        clear hbq
        refine hK.out _ _ ⟨pw_cell_below HBq9.out hs0, pw_cell_below HBq9.out hq0, pw_cell_below HBq9.out hq1, pw_cell_below HBq9.out hq2, pw_cell_below HBq9.out hq3, pw_cell_below HBq9.out hq4, pw_cell_below HBq9.out hq5, pw_cell_below HBq9.out hr0, pw_cell_below HBq9.out hr1, pw_cell_below HBq9.out hr2, pw_cell_below HBq9.out hr3, pw_cell_below HBq9.out hr4, pw_cell_below HBq9.out hr5⟩ (fun hHeld => ?_)
        clear hK K
        refine norm_ (a' := ?_) ?_ ?_
        rotate_left
        · show Act.put _ (some 67) _ = _
          simp only [Act.put, List.setIfInBounds_toArray, List.set_cons_zero, List.set_cons_succ, i64_w, i32_w]
          rfl
        refine pure_ (i := 10) (N := some 68) (v := ?_) (a' := ?_) #[true, true, true, true, true, true, true, true, true, true, true, false, false, false, false, false, false, false, false, false, false, false, false, false, false, false, false, false, false, false, false, false] rfl rfl (by kernel_rfl) (fun _ _ _ h => h) (Or.inl ⟨by rfl, ?_⟩) ?_ ?_
        rotate_left
        · intro w'
          go_simp
          with_reducible rfl
        rotate_left
        · simp only [Act.put, List.setIfInBounds_toArray, List.set_cons_zero, List.set_cons_succ, i64_w, i32_w]
          rfl
        refine pure_ (i := 11) (N := some 69) (v := ?_) (a' := ?_) #[true, true, true, true, true, true, true, true, true, true, true, true, false, false, false, false, false, false, false, false, false, false, false, false, false, false, false, false, false, false, false, false] rfl rfl (by kernel_rfl) (fun _ _ _ h => h) (Or.inl ⟨by rfl, ?_⟩) ?_ ?_
        rotate_left
        · intro w'
          go_simp
          with_reducible rfl
        rotate_left
        · simp only [Act.put, List.setIfInBounds_toArray, List.set_cons_zero, List.set_cons_succ, i64_w, i32_w]
          rfl
        refine pure_ (i := 12) (N := some 70) (v := ?_) (a' := ?_) #[true, true, true, true, true, true, true, true, true, true, true, true, true, false, false, false, false, false, false, false, false, false, false, false, false, false, false, false, false, false, false, false] rfl rfl (by kernel_rfl) (fun _ _ _ h => h) (Or.inl ⟨by rfl, ?_⟩) ?_ ?_
        rotate_left
        · intro w'
          go_simp
          with_reducible rfl
        rotate_left
        · simp only [Act.put, List.setIfInBounds_toArray, List.set_cons_zero, List.set_cons_succ, i64_w, i32_w]
          rfl
        refine pure_ (i := 13) (N := some 71) (v := ?_) (a' := ?_) #[true, true, true, true, true, true, true, true, true, true, true, true, true, true, false, false, false, false, false, false, false, false, false, false, false, false, false, false, false, false, false, false] rfl rfl (by kernel_rfl) (fun _ _ _ h => h) (Or.inl ⟨by rfl, ?_⟩) ?_ ?_
        rotate_left
        · intro w'
          go_simp
          with_reducible rfl
        rotate_left
        · simp only [Act.put, List.setIfInBounds_toArray, List.set_cons_zero, List.set_cons_succ, i64_w, i32_w]
          rfl
        refine pure_ (i := 14) (N := some 72) (v := ?_) (a' := ?_) #[true, true, true, true, true, true, true, true, true, true, true, true, true, true, true, false, false, false, false, false, false, false, false, false, false, false, false, false, false, false, false, false] rfl rfl (by kernel_rfl) (fun _ _ _ h => h) (Or.inl ⟨by rfl, ?_⟩) ?_ ?_
        rotate_left
        · intro w'
          go_simp
          with_reducible rfl
        rotate_left
        · simp only [Act.put, List.setIfInBounds_toArray, List.set_cons_zero, List.set_cons_succ, i64_w, i32_w]
          rfl
        refine pure_ (i := 15) (N := some 73) (v := ?_) (a' := ?_) #[true, true, true, true, true, true, true, true, true, true, true, true, true, true, true, true, false, false, false, false, false, false, false, false, false, false, false, false, false, false, false, false] rfl rfl (by kernel_rfl) (fun _ _ _ h => h) (Or.inl ⟨by rfl, ?_⟩) ?_ ?_
        rotate_left
        · intro w'
          go_simp
          with_reducible rfl
        rotate_left
        · simp only [Act.put, List.setIfInBounds_toArray, List.set_cons_zero, List.set_cons_succ, i64_w, i32_w]
          rfl
        refine pure_ (i := 17) (N := some 75) (v := ?_) (a' := ?_) #[true, true, true, true, true, true, true, true, true, true, true, true, true, true, true, true, false, true, false, false, false, false, false, false, false, false, false, false, false, false, false, false] rfl rfl (by kernel_rfl) (fun _ _ _ h => h) (Or.inl ⟨by rfl, ?_⟩) ?_ ?_
        rotate_left
        · intro w'
          go_simp
          with_reducible rfl
        rotate_left
        · simp only [Act.put, List.setIfInBounds_toArray, List.set_cons_zero, List.set_cons_succ, i64_w, i32_w]
          rfl
        refine pure_ (i := 18) (N := some 76) (v := ?_) (a' := ?_) #[true, true, true, true, true, true, true, true, true, true, true, true, true, true, true, true, false, true, true, false, false, false, false, false, false, false, false, false, false, false, false, false] rfl rfl (by kernel_rfl) (fun _ _ _ h => h) (Or.inl ⟨by rfl, ?_⟩) ?_ ?_
        rotate_left
        · intro w'
          go_simp
          with_reducible rfl
        rotate_left
        · simp only [Act.put, List.setIfInBounds_toArray, List.set_cons_zero, List.set_cons_succ, i64_w, i32_w]
          rfl
        refine pure_ (i := 19) (N := some 77) (v := ?_) (a' := ?_) #[true, true, true, true, true, true, true, true, true, true, true, true, true, true, true, true, false, true, true, true, false, false, false, false, false, false, false, false, false, false, false, false] rfl rfl (by kernel_rfl) (fun _ _ _ h => h) (Or.inl ⟨by rfl, ?_⟩) ?_ ?_
        rotate_left
        · intro w'
          go_simp
          with_reducible rfl
        rotate_left
        · simp only [Act.put, List.setIfInBounds_toArray, List.set_cons_zero, List.set_cons_succ, i64_w, i32_w]
          rfl
        refine take_ (i := 16) (N := some 74) (v := ?_) (a' := ?_) #[true, true, true, true, true, true, true, true, true, true, true, true, true, true, true, true, true, true, true, true, false, false, false, false, false, false, false, false, false, false, false, false] rfl rfl (by kernel_rfl) (fun _ _ _ h => h) (Or.inl ⟨by rfl, ?_⟩) hHeld ?_ ?_
        rotate_left
        · rintro w' ⟨s0, s1, s2, s3, s4, s5, s6, s7, s8, s9, s10, s11, s12⟩
          go_simp
          with_reducible rfl
        rotate_left
        · simp only [Act.put, List.setIfInBounds_toArray, List.set_cons_zero, List.set_cons_succ, i64_w, i32_w]
          rfl
        refine take_ (i := 20) (N := some 78) (v := ?_) (a' := ?_) #[true, true, true, true, true, true, true, true, true, true, true, true, true, true, true, true, true, true, true, true, true, false, false, false, false, false, false, false, false, false, false, false] rfl rfl (by kernel_rfl) (fun _ _ _ h => h) (Or.inl ⟨by rfl, ?_⟩) hHeld ?_ ?_
        rotate_left
        · rintro w' ⟨s0, s1, s2, s3, s4, s5, s6, s7, s8, s9, s10, s11, s12⟩
          go_simp
          with_reducible rfl
        rotate_left
        · simp only [Act.put, List.setIfInBounds_toArray, List.set_cons_zero, List.set_cons_succ, i64_w, i32_w]
          rfl
        refine pure_ (i := 21) (N := some 79) (v := ?_) (a' := ?_) #[true, true, true, true, true, true, true, true, true, true, true, true, true, true, true, true, true, true, true, true, true, true, false, false, false, false, false, false, false, false, false, false] rfl rfl (by kernel_rfl) (fun _ _ _ h => h) (Or.inl ⟨by rfl, ?_⟩) ?_ ?_
        rotate_left
        · intro w'
          go_simp
          with_reducible rfl
        rotate_left
        · simp only [Act.put, List.setIfInBounds_toArray, List.set_cons_zero, List.set_cons_succ, i64_w, i32_w]
          rfl
        refine pure_ (i := 22) (N := some 80) (v := ?_) (a' := ?_) #[true, true, true, true, true, true, true, true, true, true, true, true, true, true, true, true, true, true, true, true, true, true, true, false, false, false, false, false, false, false, false, false] rfl rfl (by kernel_rfl) (fun _ _ _ h => h) (Or.inl ⟨by rfl, ?_⟩) ?_ ?_
        rotate_left
        · intro w'
          go_simp
          with_reducible rfl
        rotate_left
        · simp only [Act.put, List.setIfInBounds_toArray, List.set_cons_zero, List.set_cons_succ, i64_w, i32_w]
          rfl
        refine pure_ (i := 23) (N := some 81) (v := ?_) (a' := ?_) #[true, true, true, true, true, true, true, true, true, true, true, true, true, true, true, true, true, true, true, true, true, true, true, true, false, false, false, false, false, false, false, false] rfl rfl (by kernel_rfl) (fun _ _ _ h => h) (Or.inl ⟨by rfl, ?_⟩) ?_ ?_
        rotate_left
        · intro w'
          go_simp
          with_reducible rfl
        rotate_left
        · simp only [Act.put, List.setIfInBounds_toArray, List.set_cons_zero, List.set_cons_succ, i64_w, i32_w]
          rfl
        refine pure_ (i := 26) (N := some 84) (v := ?_) (a' := ?_) #[true, true, true, true, true, true, true, true, true, true, true, true, true, true, true, true, true, true, true, true, true, true, true, true, false, false, true, false, false, false, false, false] rfl rfl (by kernel_rfl) (fun _ _ _ h => h) (Or.inl ⟨by rfl, ?_⟩) ?_ ?_
        rotate_left
        · intro w'
          go_simp
          with_reducible rfl
        rotate_left
        · simp only [Act.put, List.setIfInBounds_toArray, List.set_cons_zero, List.set_cons_succ, i64_w, i32_w]
          rfl
        refine pure_ (i := 27) (N := some 85) (v := ?_) (a' := ?_) #[true, true, true, true, true, true, true, true, true, true, true, true, true, true, true, true, true, true, true, true, true, true, true, true, false, false, true, true, false, false, false, false] rfl rfl (by kernel_rfl) (fun _ _ _ h => h) (Or.inl ⟨by rfl, ?_⟩) ?_ ?_
        rotate_left
        · intro w'
          go_simp
          with_reducible rfl
        rotate_left
        · simp only [Act.put, List.setIfInBounds_toArray, List.set_cons_zero, List.set_cons_succ, i64_w, i32_w]
          rfl
        refine pure_ (i := 28) (N := some 86) (v := ?_) (a' := ?_) #[true, true, true, true, true, true, true, true, true, true, true, true, true, true, true, true, true, true, true, true, true, true, true, true, false, false, true, true, true, false, false, false] rfl rfl (by kernel_rfl) (fun _ _ _ h => h) (Or.inl ⟨by rfl, ?_⟩) ?_ ?_
        rotate_left
        · intro w'
          go_simp
          with_reducible rfl
        rotate_left
        · simp only [Act.put, List.setIfInBounds_toArray, List.set_cons_zero, List.set_cons_succ, i64_w, i32_w]
          rfl
        refine take_ (i := 24) (N := some 82) (v := ?_) (a' := ?_) #[true, true, true, true, true, true, true, true, true, true, true, true, true, true, true, true, true, true, true, true, true, true, true, true, true, false, true, true, true, false, false, false] rfl rfl (by kernel_rfl) (fun _ _ _ h => h) (Or.inl ⟨by rfl, ?_⟩) hHeld ?_ ?_
        rotate_left
        · rintro w' ⟨s0, s1, s2, s3, s4, s5, s6, s7, s8, s9, s10, s11, s12⟩
          go_simp
          with_reducible rfl
        rotate_left
        · simp only [Act.put, List.setIfInBounds_toArray, List.set_cons_zero, List.set_cons_succ, i64_w, i32_w]
          rfl
        refine take_ (i := 29) (N := some 87) (v := ?_) (a' := ?_) #[true, true, true, true, true, true, true, true, true, true, true, true, true, true, true, true, true, true, true, true, true, true, true, true, true, false, true, true, true, true, false, false] rfl rfl (by kernel_rfl) (fun _ _ _ h => h) (Or.inl ⟨by rfl, ?_⟩) hHeld ?_ ?_
        rotate_left
        · rintro w' ⟨s0, s1, s2, s3, s4, s5, s6, s7, s8, s9, s10, s11, s12⟩
          go_simp
          with_reducible rfl
        rotate_left
        · simp only [Act.put, List.setIfInBounds_toArray, List.set_cons_zero, List.set_cons_succ, i64_w, i32_w]
          rfl
        refine one_ (i := 25) (N := some 83) #[true, true, true, true, true, true, true, true, true, true, true, true, true, true, true, true, true, true, true, true, true, true, true, true, true, true, true, true, true, true, false, false] rfl rfl (by kernel_rfl) (by decide) (fun K hK => ?_)
        refine goes_ Tryd.func16 (by kernel_rfl) rfl #[.agg #[.int .u8 kd, .int .u64 e, .int .u64 n, .int .u64 p, .int .u64 i, .int .u64 k]] (by rfl) rfl rfl (by (try simp only [List.map_toArray, List.map_cons, List.map_nil]); first | done | rfl) ?_
        with_reducible refine (putV_calls kd e n p i k t HT.out HF.out _ (HG.out.below (below_step HB5.out HBq9.out))).mono ?_
        rintro e wq25 ⟨rfl, hbq⟩
        refine ⟨_, rfl, ?_⟩
        have HBq25 := Aside0.mk (below_step HBq9.out hbq)
        clear hbq
        refine hK.out _ _ ⟨pw_cell_below HBq25.out hs0, pw_cell_below HBq25.out hq0, pw_cell_below HBq25.out hq1, pw_cell_below HBq25.out hq2, pw_cell_below HBq25.out hq3, pw_cell_below HBq25.out hq4, pw_cell_below HBq25.out hq5, pw_cell_below HBq25.out hr0, pw_cell_below HBq25.out hr1, pw_cell_below HBq25.out hr2, pw_cell_below HBq25.out hr3, pw_cell_below HBq25.out hr4, pw_cell_below HBq25.out hr5⟩ (fun hHeld => ?_)
        clear hK K
        refine norm_ (a' := ?_) ?_ ?_
        rotate_left
        · show Act.put _ (some 83) _ = _
          simp only [Act.put, List.setIfInBounds_toArray, List.set_cons_zero, List.set_cons_succ, i64_w, i32_w]
          rfl
        refine pure_ (i := 30) (N := some 88) (v := ?_) (a' := ?_) #[true, true, true, true, true, true, true, true, true, true, true, true, true, true, true, true, true, true, true, true, true, true, true, true, true, true, true, true, true, true, true, false] rfl rfl (by kernel_rfl) (fun _ _ _ h => h) (Or.inl ⟨by rfl, ?_⟩) ?_ ?_
        rotate_left
        · intro w'
          go_simp
          with_reducible rfl
        rotate_left
        · simp only [Act.put, List.setIfInBounds_toArray, List.set_cons_zero, List.set_cons_succ, i64_w, i32_w]
          rfl
        refine pure_ (i := 31) (N := some 89) (v := ?_) (a' := ?_) #[true, true, true, true, true, true, true, true, true, true, true, true, true, true, true, true, true, true, true, true, true, true, true, true, true, true, true, true, true, true, true, true] rfl rfl (by kernel_rfl) (fun _ _ _ h => h) (Or.inl ⟨by rfl, ?_⟩) ?_ ?_
        rotate_left
        · intro w'
          go_simp
          with_reducible rfl
        rotate_left
        · simp only [Act.put, List.setIfInBounds_toArray, List.set_cons_zero, List.set_cons_succ, i64_w, i32_w]
          rfl
        refine done_ (by kernel_rfl) ?_
        have HB9 := Aside0.mk (below_step HB5.out HBq25.out)
        have HL9 := Aside0.mk ((HBq25.out.block _ (Array.getElem?_eq_some_iff.1 HL5.out).1).trans HL5.out)
        have HS9 := Aside0.mk ((HBq25.out.block _ (Array.getElem?_eq_some_iff.1 HS5.out).1).trans HS5.out)
        clear hHeld hs0 hq0 hq1 hq2 hq3 hq4 hq5 hr0 hr1 hr2 hr3 hr4 hr5
        go_wp2
        exact ⟨⟨4, by decide, by rfl, HB9, HL9, HS9⟩, by decide⟩
    · obtain rfl : j = 4 := by omega
      go_wp2_with (go_at_call 7; refine (works_calls _ (HG.out.below HBR.out)).mono ?_; rintro e w7 ⟨rfl, hb⟩; have HB7 := Aside0.mk (below_step HBR.out hb); clear hb)
      go_ret
      exact ⟨rfl, HB7.out⟩
end Go.Proofs.YtkpfpgggkbaefaaDoor
