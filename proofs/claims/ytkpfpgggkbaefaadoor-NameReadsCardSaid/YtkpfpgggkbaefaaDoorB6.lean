import Derived.Test.YtkpfpgggkbaefaaDoorB5
import Derived.Test.YtkpfpgggkbaefaaDoorD4
/-! The reference of chapter 04: split. -/
set_option linter.unusedVariables false
set_option linter.unusedSimpArgs false
namespace Go.Proofs.YtkpfpgggkbaefaaDoor
open Go.RowKit Go.Proofs.YtkpfpgggkbaefaaDoorW.PrintWords Go.Proofs.YtkpfpgggkbaefaaDoorW.PrintLast Go.Proofs.YtkpfpgggkbaefaaDoorW.PrintMore Go.Lib Plain

theorem cut_count : ∀ (p : List UInt8), (Plain.cut p).length ≤ p.length + 1
  | [] => by rw [show Plain.cut [] = [[]] from rfl]; simp
  | c :: p => by
    have ih := cut_count p
    by_cases hc : c = 45
    · subst hc; rw [cut_stroke]; simp only [List.length_cons]; omega
    · obtain ⟨a, t, h1, h2⟩ := cut_other hc p
      rw [h1] at ih
      rw [h2]
      simp only [List.length_cons] at *
      omega
set_option maxHeartbeats 4000000 in
set_option maxRecDepth 100000 in
theorem split_calls (l : List UInt8) (hl : l.length ≤ 200) (w : World) : Calls Tryd.prog 28 #[.string ⟨l.toArray⟩] w fun e w' => (∃ v, e = .returned v ∧ w'.ownsRow w.heap.size 9 1 v (strL (Plain.cut l)).length (strL (Plain.cut l))) ∧ Below w.heap.size w w' := by
  have HL := Aside0.mk hl
  clear hl
  have hsz : (⟨l.toArray⟩ : ByteArray).size = l.length := by show l.toArray.size = _; simp
  generalize hN : l.length = N at hsz HL
  have HN := Aside0.mk hN
  clear hN
  go_enter Tryd.func28, Tryd.ntmps28
  go_wp2
  have HO0 := Aside0.mk (World.ownsRow_lit (base := w.heap.size) (e := 9) (size := 1) w #[.string ⟨#[]⟩] 1 (Nat.le_refl _) (by decide) rfl)
  have HB0 := Aside0.mk (below_alloc (Below.refl w.heap.size w) (.cells #[.string ⟨#[]⟩] 9))
  go_loopw [3, 4] (fun v3 v4 wr => ∃ (j : Nat) (ws : List (List UInt8)), j ≤ N ∧ v4 = .int .i64 j ∧ Aside0 (ws = Plain.cut (l.take j)) ∧ Aside0 (wr.ownsRow w.heap.size 9 1 v3 (strL ws).length (strL ws)) ∧ Aside0 (Below w.heap.size w wr)) (fun _ v4 _ => N - (RowKit.intOf v4).toNat)
  case atStart => exact ⟨0, [[]], Nat.zero_le _, rfl, ⟨rfl⟩, HO0, HB0⟩
  case round =>
    obtain ⟨j, ws, hj, rfl, HW, HO, HB⟩ := hrel
    clear HO0 HB0
    by_cases hlt : j < N
    · have hltI : (j : Int) < (N : Int) := by omega
      have hjl : j < l.length := by rw [HN.out]; exact hlt
      have HTK := Aside0.mk (List.take_succ_eq_append_getElem hjl)
      have hw1 : wrap64 ((j : Int) + 1) = ((j + 1 : Nat) : Int) := by unfold wrap64; have := HL.out; omega
      have hidx : ∀ W, (Instr.index 9 (.string ⟨l.toArray⟩) (.int .i64 j)).run Tryd.prog W = .ok (.int .u8 (l[j].toNat : Nat)) W := fun W => by
        rw [run_index_string W 9 ⟨l.toArray⟩ .i64 j Tryd.underlying9, dif_pos ⟨by omega, by rw [hsz]; exact hltI⟩]
        rfl
      have HWL := Aside0.mk (show ws.length ≤ 201 by
        rw [HW.out]
        have h1 := cut_count (l.take j)
        have h2 : (l.take j).length ≤ N := by rw [List.length_take, HN.out]; exact Nat.min_le_right _ _
        have := HL.out
        omega)
      by_cases hx : l[j] = 45
      · rw [hx] at hidx
        rw [hx] at HTK
        replace hidx : ∀ W, (Instr.index 9 (.string ⟨l.toArray⟩) (.int .i64 j)).run Tryd.prog W = .ok (.int .u8 45) W := hidx
        go_wp2_with ((with_reducible refine gate_builtin (b := .append) (xs := #[.tmp 16, .tmp 17]) rfl ?_); go_must (refine print_append (w0 := w) w.heap.size rfl (.tmp 16) (.tmp 17) 37 9 (.string ⟨#[]⟩) 16 rfl Tryd.underlying37 eInfoStr rfl (by decide) u3 (strL ws) (.string ⟨#[]⟩) rfl rfl rfl HO.out HB.out HB.out.size (by have := HWL.out; simp only [strL, List.length_map]; omega) ?_; intro v1 w8 hN hB hg hat; have HN8 := Aside0.mk hN; have HB8 := Aside0.mk hB; clear hN hB hg hat))
        rw [hw1]
        exact ⟨⟨j + 1, ws ++ [[]], by omega, rfl, ⟨by rw [HTK.out, cut_end_stroke, ← HW.out]⟩, ⟨by rw [strL_append]; exact HN8.out⟩, HB8⟩, by show N - (j + 1) < N - j; omega⟩
      · obtain ⟨b, hb1, hb2⟩ := cut_end_other hx (l.take j)
        have HB1 := Aside0.mk hb1
        have HB2 := Aside0.mk hb2
        generalize (Plain.cut (l.take j)).dropLast = ini at HB1 HB2
        clear hb1 hb2
        have hws : ws = ini ++ [b] := HW.out.trans HB1.out
        subst hws
        obtain ⟨M, hM⟩ : ∃ M, ini.length = M := ⟨_, rfl⟩
        have hlen : (strL (ini ++ [b])).length = M + 1 := by simp [strL, hM]
        obtain ⟨g, cap, rfl⟩ : ∃ g cap, u3 = .slice (some ⟨g, 0, none⟩) (M + 1) cap := by
          rcases HO.out.2 with ⟨_, h2⟩ | ⟨g, cap, cur, h, _⟩
          · rw [hlen] at h2; cases h2
          · rw [hlen] at h; exact ⟨g, cap, h⟩
        have hcell : wr.cell? ⟨g, M, none⟩ = some (.string ⟨b.toArray⟩) := by
          have := HO.out.cells (g := g) rfl M (.string ⟨b.toArray⟩) (by simp [strL, ← hM])
          rwa [Lib.add_plain, Nat.zero_add] at this
        have hfz : wr.frozen? ⟨g, M, none⟩ = false := by
          rcases HO.out.2 with ⟨h, _⟩ | ⟨g', cap', cur, h, _, hh, _⟩
          · cases h
          · injection h with h1
            injection h1 with h1
            injection h1 with h1
            subst h1
            simp [World.frozen?, hh]
        have hM1 : wrap64 (((M + 1 : Nat) : Int) - 1) = (M : Int) := by unfold wrap64; have h := HWL.out; rw [List.length_append, hM] at h; omega
        have hM2 : wrap64 ((M : Int) + 1 - 1) = (M : Int) := hM1
        have hM3 : wrap64 (M : Int) = (M : Int) := by unfold wrap64; have h := HWL.out; rw [List.length_append, hM] at h; omega
        have hMI : (M : Int) < (M : Int) + 1 := by omega
        have hj0 : (0 : Int) ≤ (j : Int) + 1 := by omega
        have hj1 : (j : Int) + 1 ≤ (N : Int) := by omega
        have hj2 : (j : Int) ≤ (j : Int) + 1 := by omega
        have hxb : (l[j] == 45) = false := beq_eq_false_iff_ne.mpr hx
        have hx45 : ¬ ((l[j].toNat : Int) = 45) := by
          intro he
          exact hx (UInt8.toNat_inj.mp (by have : l[j].toNat = 45 := by omega
                                           exact this))
        have hx45b : ((l[j].toNat : Int) == 45) = false := beq_eq_false_iff_ne.mpr hx45
        have hext : (⟨l.toArray⟩ : ByteArray).extract j (j + 1) = ⟨[l[j]].toArray⟩ := by
          apply ByteArray.ext
          rw [ByteArray.data_extract]
          apply Array.ext'
          simp [List.extract, List.take_one, List.head?_drop, hjl]
        obtain ⟨b2, hb2⟩ : ∃ t, b ++ [l[j]] = t := ⟨_, rfl⟩
        have hbl : b.length ≤ 200 := by
          have h1 := cut_len (l.take j) b (by rw [HB1.out]; simp)
          rw [List.length_take, HN.out] at h1
          have := HL.out
          omega
        have hadd := add_str b [l[j]] b2 hb2 (by omega) (by simp)
        have H3 := Aside0.mk (show ini ++ [b2] = Plain.cut (l.take (j + 1)) by rw [HTK.out, HB2.out, hb2])
        have HO7 := Aside0.mk (show (wr.setCell ⟨g, M, none⟩ (.string ⟨b2.toArray⟩)).drew.ownsRow w.heap.size 9 1 (.slice (some ⟨g, 0, none⟩) (M + 1) cap) (strL (ini ++ [b2])).length (strL (ini ++ [b2])) by
          have h0 := HO.out
          rw [hlen] at h0
          have h1 := (h0.stored M (.string ⟨b2.toArray⟩)).1
          have e1 : (strL (ini ++ [b])).set M (.string ⟨b2.toArray⟩) = strL (ini ++ [b2]) := by
            rw [strL_append, strL_append, List.set_append_right _ _ (by simp [strL, hM])]
            simp [strL, hM]
          rw [e1] at h1
          rw [show (strL (ini ++ [b2])).length = M + 1 by simp [strL, hM]]
          exact h1)
        have HB7 := Aside0.mk (below_drew (Below.setCell HB.out (p := ⟨g, M, none⟩) (own_base HO.out g rfl) (.string ⟨b2.toArray⟩)))
        clear hlen hM
        go_upto_region 7 with fail
        replace hcell : wr.drew.cell? ⟨g, M, none⟩ = some (.string ⟨b.toArray⟩) := hcell
        refine start_ (n := 18) (S := fun w' => w'.cell? ⟨g, M, none⟩ = some (.string ⟨b.toArray⟩)) (ds := [17]) #[false, false, false, false, false, false, false, false, false, false, false, false, false, false, false, false, false, false] (by kernel_rfl) rfl rfl (hcell) (fun hHeld => ?_)
        refine pure_ (i := 0) (N := some 19) (v := ?_) (a' := ?_) #[true, false, false, false, false, false, false, false, false, false, false, false, false, false, false, false, false, false] rfl rfl (by kernel_rfl) (fun _ _ _ h => h) (Or.inl ⟨by rfl, ?_⟩) ?_ ?_
        rotate_left
        · intro w'
          go_simp
          with_reducible rfl
        rotate_left
        · simp only [Act.put, List.setIfInBounds_toArray, List.set_cons_zero, List.set_cons_succ, i64_w, i32_w]
          rfl
        refine pure_ (i := 1) (N := some 20) (v := ?_) (a' := ?_) #[true, true, false, false, false, false, false, false, false, false, false, false, false, false, false, false, false, false] rfl rfl (by kernel_rfl) (fun _ _ _ h => h) (Or.inl ⟨by rfl, ?_⟩) ?_ ?_
        rotate_left
        · intro w'
          go_simp
          with_reducible rfl
        rotate_left
        · simp only [Act.put, List.setIfInBounds_toArray, List.set_cons_zero, List.set_cons_succ, i64_w, i32_w]
          rfl
        refine pure_ (i := 2) (N := some 21) (v := ?_) (a' := ?_) #[true, true, true, false, false, false, false, false, false, false, false, false, false, false, false, false, false, false] rfl rfl (by kernel_rfl) (fun _ _ _ h => h) (Or.inl ⟨by rfl, ?_⟩) ?_ ?_
        rotate_left
        · intro w'
          go_simp
          with_reducible rfl
        rotate_left
        · simp only [Act.put, List.setIfInBounds_toArray, List.set_cons_zero, List.set_cons_succ, i64_w, i32_w]
          rfl
        refine pure_ (i := 3) (N := some 22) (v := ?_) (a' := ?_) #[true, true, true, true, false, false, false, false, false, false, false, false, false, false, false, false, false, false] rfl rfl (by kernel_rfl) (fun _ _ _ h => h) (Or.inl ⟨by rfl, ?_⟩) ?_ ?_
        rotate_left
        · intro w'
          go_simp
          with_reducible rfl
        rotate_left
        · simp only [Act.put, List.setIfInBounds_toArray, List.set_cons_zero, List.set_cons_succ, i64_w, i32_w]
          rfl
        refine pure_ (i := 4) (N := some 23) (v := ?_) (a' := ?_) #[true, true, true, true, true, false, false, false, false, false, false, false, false, false, false, false, false, false] rfl rfl (by kernel_rfl) (fun _ _ _ h => h) (Or.inl ⟨by rfl, ?_⟩) ?_ ?_
        rotate_left
        · intro w'
          go_simp
          with_reducible rfl
        rotate_left
        · simp only [Act.put, List.setIfInBounds_toArray, List.set_cons_zero, List.set_cons_succ, i64_w, i32_w]
          rfl
        refine pure_ (i := 5) (N := some 24) (v := ?_) (a' := ?_) #[true, true, true, true, true, true, false, false, false, false, false, false, false, false, false, false, false, false] rfl rfl (by kernel_rfl) (fun _ _ _ h => h) (Or.inl ⟨by rfl, ?_⟩) ?_ ?_
        rotate_left
        · intro w'
          go_simp
          with_reducible rfl
        rotate_left
        · simp only [Act.put, List.setIfInBounds_toArray, List.set_cons_zero, List.set_cons_succ, i64_w, i32_w]
          rfl
        refine pure_ (i := 6) (N := some 25) (v := ?_) (a' := ?_) #[true, true, true, true, true, true, true, false, false, false, false, false, false, false, false, false, false, false] rfl rfl (by kernel_rfl) (fun _ _ _ h => h) (Or.inl ⟨by rfl, ?_⟩) ?_ ?_
        rotate_left
        · intro w'
          go_simp
          with_reducible rfl
        rotate_left
        · simp only [Act.put, List.setIfInBounds_toArray, List.set_cons_zero, List.set_cons_succ, i64_w, i32_w]
          rfl
        refine pure_ (i := 7) (N := some 26) (v := ?_) (a' := ?_) #[true, true, true, true, true, true, true, true, false, false, false, false, false, false, false, false, false, false] rfl rfl (by kernel_rfl) (fun _ _ _ h => h) (Or.inl ⟨by rfl, ?_⟩) ?_ ?_
        rotate_left
        · intro w'
          go_simp
          with_reducible rfl
        rotate_left
        · simp only [Act.put, List.setIfInBounds_toArray, List.set_cons_zero, List.set_cons_succ, i64_w, i32_w]
          rfl
        refine pure_ (i := 8) (N := some 27) (v := ?_) (a' := ?_) #[true, true, true, true, true, true, true, true, true, false, false, false, false, false, false, false, false, false] rfl rfl (by kernel_rfl) (fun _ _ _ h => h) (Or.inl ⟨by rfl, ?_⟩) ?_ ?_
        rotate_left
        · intro w'
          go_simp
          with_reducible rfl
        rotate_left
        · simp only [Act.put, List.setIfInBounds_toArray, List.set_cons_zero, List.set_cons_succ, i64_w, i32_w]
          rfl
        refine pure_ (i := 10) (N := some 29) (v := ?_) (a' := ?_) #[true, true, true, true, true, true, true, true, true, false, true, false, false, false, false, false, false, false] rfl rfl (by kernel_rfl) (fun _ _ _ h => h) (Or.inl ⟨by rfl, ?_⟩) ?_ ?_
        rotate_left
        · intro w'
          go_simp
          with_reducible rfl
        rotate_left
        · simp only [Act.put, List.setIfInBounds_toArray, List.set_cons_zero, List.set_cons_succ, i64_w, i32_w]
          rfl
        refine pure_ (i := 11) (N := some 30) (v := ?_) (a' := ?_) #[true, true, true, true, true, true, true, true, true, false, true, true, false, false, false, false, false, false] rfl rfl (by kernel_rfl) (fun _ _ _ h => h) (Or.inl ⟨by rfl, ?_⟩) ?_ ?_
        rotate_left
        · intro w'
          go_simp
          with_reducible rfl
        rotate_left
        · simp only [Act.put, List.setIfInBounds_toArray, List.set_cons_zero, List.set_cons_succ, i64_w, i32_w]
          rfl
        refine pure_ (i := 12) (N := some 31) (v := ?_) (a' := ?_) #[true, true, true, true, true, true, true, true, true, false, true, true, true, false, false, false, false, false] rfl rfl (by kernel_rfl) (fun _ _ _ h => h) (Or.inl ⟨by rfl, ?_⟩) ?_ ?_
        rotate_left
        · intro w'
          go_simp
          with_reducible rfl
        rotate_left
        · simp only [Act.put, List.setIfInBounds_toArray, List.set_cons_zero, List.set_cons_succ, i64_w, i32_w]
          rfl
        refine pure_ (i := 13) (N := some 32) (v := ?_) (a' := ?_) #[true, true, true, true, true, true, true, true, true, false, true, true, true, true, false, false, false, false] rfl rfl (by kernel_rfl) (fun _ _ _ h => h) (Or.inl ⟨by rfl, ?_⟩) ?_ ?_
        rotate_left
        · intro w'
          go_simp
          with_reducible rfl
        rotate_left
        · simp only [Act.put, List.setIfInBounds_toArray, List.set_cons_zero, List.set_cons_succ, i64_w, i32_w]
          rfl
        refine pure_ (i := 14) (N := some 33) (v := ?_) (a' := ?_) #[true, true, true, true, true, true, true, true, true, false, true, true, true, true, true, false, false, false] rfl rfl (by kernel_rfl) (fun _ _ _ h => h) (Or.inl ⟨by rfl, ?_⟩) ?_ ?_
        rotate_left
        · intro w'
          go_simp
          with_reducible rfl
        rotate_left
        · simp only [Act.put, List.setIfInBounds_toArray, List.set_cons_zero, List.set_cons_succ, i64_w, i32_w]
          rfl
        refine take_ (i := 9) (N := some 28) (v := ?_) (a' := ?_) #[true, true, true, true, true, true, true, true, true, true, true, true, true, true, true, false, false, false] rfl rfl (by kernel_rfl) (fun _ _ _ h => h) (Or.inl ⟨by rfl, ?_⟩) hHeld ?_ ?_
        rotate_left
        · intro w' s0
          go_simp
          with_reducible rfl
        rotate_left
        · simp only [Act.put, List.setIfInBounds_toArray, List.set_cons_zero, List.set_cons_succ, i64_w, i32_w]
          rfl
        refine pure_ (i := 15) (N := some 34) (v := ?_) (a' := ?_) #[true, true, true, true, true, true, true, true, true, true, true, true, true, true, true, true, false, false] rfl rfl (by kernel_rfl) (fun _ _ _ h => h) (Or.inl ⟨by rfl, ?_⟩) ?_ ?_
        rotate_left
        · intro w'
          go_simp
          with_reducible rfl
        rotate_left
        · simp only [Act.put, List.setIfInBounds_toArray, List.set_cons_zero, List.set_cons_succ, i64_w, i32_w]
          rfl
        refine pure_ (i := 16) (N := some 35) (v := ?_) (a' := ?_) #[true, true, true, true, true, true, true, true, true, true, true, true, true, true, true, true, true, false] rfl rfl (by kernel_rfl) (fun _ _ _ h => h) (Or.inl ⟨by rfl, ?_⟩) ?_ ?_
        rotate_left
        · intro w'
          go_simp
          with_reducible rfl
        rotate_left
        · simp only [Act.put, List.setIfInBounds_toArray, List.set_cons_zero, List.set_cons_succ, i64_w, i32_w]
          rfl
        refine last_ (i := 17) (N := none) #[true, true, true, true, true, true, true, true, true, true, true, true, true, true, true, true, true, true] rfl rfl (by kernel_rfl) (by decide) (fun K hK => ?_)
        refine skip_ (w1 := ?_) (by rfl) rfl ?_ ?_
        rotate_left
        · go_simp
          rfl
        refine hK.out _ _ ?_
        clear hK K
        refine done_ (by kernel_rfl) ?_
        go_wp2
        rw [hw1]
        exact ⟨⟨j + 1, ini ++ [b2], by omega, rfl, H3, HO7, HB7⟩, by show N - (j + 1) < N - j; omega⟩
    · obtain rfl : j = N := by omega
      have hfin := Aside0.mk (show ws = Plain.cut l by rw [HW.out, List.take_of_length_le (by rw [HN.out]; exact Nat.le_refl _)])
      go_wp2
      go_ret
      exact ⟨⟨_, rfl, by rw [← hfin.out]; exact HO.out⟩, HB.out⟩
end Go.Proofs.YtkpfpgggkbaefaaDoor
