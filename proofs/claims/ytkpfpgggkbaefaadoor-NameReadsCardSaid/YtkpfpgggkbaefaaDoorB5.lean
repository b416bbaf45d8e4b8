import Derived.Test.YtkpfpgggkbaefaaDoorB3
/-! The reference of chapter 04: number. -/
set_option linter.unusedVariables false
set_option linter.unusedSimpArgs false
namespace Go.Proofs.YtkpfpgggkbaefaaDoor
open Go.RowKit Go.Proofs.YtkpfpgggkbaefaaDoorW.PrintWords Go.Proofs.YtkpfpgggkbaefaaDoorW.PrintLast Go.Proofs.YtkpfpgggkbaefaaDoorW.PrintMore Go.Lib Plain

def okNum (l : List UInt8) : Bool := decide (decDigits (wrapVal 0 (l.take 20)) = l)
theorem wrap_step {l : List UInt8} {j : Nat} (hj : j < l.length) : wrapVal 0 (l.take (j + 1)) = (wrapVal 0 (l.take j) * 10 + (l[j].toNat + 208) % 256) % 18446744073709551616 := by
  rw [List.take_succ_eq_append_getElem hj]
  unfold wrapVal
  rw [List.foldl_append]
  rfl
set_option maxHeartbeats 2000000 in
set_option maxRecDepth 100000 in
theorem number_calls (l : List UInt8) (hl : l.length ≤ 200) (w : World) : Calls Tryd.prog 29 #[.string ⟨l.toArray⟩] w fun e w' => e = .returned (.tuple #[.int .u64 (wrapVal 0 (l.take 20) : Nat), .bool (okNum l)]) ∧ Below w.heap.size w w' := by
  have HL := Aside0.mk hl
  clear hl
  have hsz : (⟨l.toArray⟩ : ByteArray).size = l.length := by show l.toArray.size = _; simp
  generalize hN : l.length = N at hsz HL
  have HN := Aside0.mk hN
  clear hN
  go_enter Tryd.func29, Tryd.ntmps29
  go_wp2
  go_loopw [4, 5] (fun v4 v5 wr => ∃ (j : Nat) (v : Nat), j ≤ N ∧ j ≤ 20 ∧ v5 = .int .i64 j ∧ v4 = .int .u64 v ∧ Aside0 (v = wrapVal 0 (l.take j)) ∧ Aside0 (wr = w)) (fun _ v5 _ => 20 - (RowKit.intOf v5).toNat)
  case atStart => exact ⟨0, 0, Nat.zero_le _, by decide, rfl, rfl, ⟨rfl⟩, ⟨rfl⟩⟩
  case round =>
    obtain ⟨j, v, hj, hj20, rfl, rfl, HV, HE⟩ := hrel
    obtain ⟨rfl⟩ := HE
    by_cases hlt : j < N
    · have hltI : (j : Int) < (N : Int) := by omega
      by_cases h20 : j < 20
      · have h20I : (j : Int) < 20 := by omega
        have hjl : j < l.length := by rw [HN.out]; exact hlt
        have HST := Aside0.mk (wrap_step hjl)
        have hidx : ∀ W, (Instr.index 9 (.string ⟨l.toArray⟩) (.int .i64 j)).run Tryd.prog W = .ok (.int .u8 (l[j].toNat : Nat)) W := fun W => by
          rw [run_index_string W 9 ⟨l.toArray⟩ .i64 j Tryd.underlying9, dif_pos ⟨by omega, by rw [hsz]; exact hltI⟩]
          rfl
        have hb := l[j].toNat_lt
        generalize l[j].toNat = x at HST hidx hb
        go_wp2
        refine ⟨⟨j + 1, (v * 10 + (x + 208) % 256) % 18446744073709551616, by omega, by omega, rfl, ?_, ⟨by rw [HST.out, ← HV.out]⟩, ⟨trivial⟩⟩, by show 20 - (j + 1) < 20 - j; omega⟩
        rw [IntKind.wrap_u64, IntKind.wrap_u64]
        congr 1
        omega
      · obtain rfl : j = 20 := by omega
        have hv64 : v < 18446744073709551616 := by rw [HV.out]; exact wrapVal_lt _ 0 (by decide)
        obtain ⟨dv, hdv⟩ : ∃ t, decDigits v = t := ⟨_, rfl⟩
        have HD := Aside0.mk hdv
        have HV64 := Aside0.mk hv64
        have HOK := Aside0.mk (show okNum l = (dv == l) by rw [okNum, ← HV.out, hdv]; by_cases h : dv = l <;> simp [h])
        clear hdv hv64
        go_wp2_with (go_at_call 31; refine (rdigitsV v dv HD.out HV64.out _).mono ?_; rintro e w4 ⟨rfl, hb⟩; have HB4 := Aside0.mk hb; clear hb)
        refine bodyPost_ret (v := .tuple #[.int .u64 v, .bool (dv == l)]) (by simp [results, Tryd.results29, go_sem]) rfl ⟨by rw [HOK.out, ← HV.out], HB4.out⟩
    · obtain rfl : j = N := by omega
      have hv64 : v < 18446744073709551616 := by rw [HV.out]; exact wrapVal_lt _ 0 (by decide)
      have HV2 := Aside0.mk (show v = wrapVal 0 (l.take 20) by rw [HV.out, List.take_of_length_le (by rw [HN.out]; exact Nat.le_refl _), List.take_of_length_le (by rw [HN.out]; exact hj20)])
      obtain ⟨dv, hdv⟩ : ∃ t, decDigits v = t := ⟨_, rfl⟩
      have HD := Aside0.mk hdv
      have HV64 := Aside0.mk hv64
      have HOK := Aside0.mk (show okNum l = (dv == l) by rw [okNum, ← HV2.out, hdv]; by_cases h : dv = l <;> simp [h])
      clear hdv hv64
      go_wp2_with (go_at_call 31; refine (rdigitsV v dv HD.out HV64.out _).mono ?_; rintro e w4 ⟨rfl, hb⟩; have HB4 := Aside0.mk hb; clear hb)
      refine bodyPost_ret (v := .tuple #[.int .u64 v, .bool (dv == l)]) (by simp [results, Tryd.results29, go_sem]) rfl ⟨by rw [HOK.out, ← HV2.out], HB4.out⟩
end Go.Proofs.YtkpfpgggkbaefaaDoor
