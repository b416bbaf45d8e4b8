import Derived.Test.YtkpfpgggkbaefaaDoorB8
import Derived.Test.YtkpfpgggkbaefaaDoorB1
/-! law 04: NameReads. -/
set_option linter.unusedVariables false
set_option linter.unusedSimpArgs false
namespace Go.Proofs.YtkpfpgggkbaefaaDoor
open Go.RowKit Go.Proofs.YtkpfpgggkbaefaaDoorW.PrintWords Go.Proofs.YtkpfpgggkbaefaaDoorW.PrintLast Go.Proofs.YtkpfpgggkbaefaaDoorW.PrintMore Go.Lib Plain

theorem rparseV_calls (s : ByteArray) (kd d n p i k : Nat) (ok : Bool) (hp : parseN s.data.toList = ⟨kd, d, n, p, i, k⟩) (ho : parseOk s.data.toList = ok) (hs : s.size ≤ 200) (w : World) :
    Calls Tryd.prog 9 #[.string s] w fun e w' => e = .returned (.tuple #[.agg #[.int .u8 kd, .int .u64 d, .int .u64 n, .int .u64 p, .int .u64 i, .int .u64 k], .bool ok]) ∧ Below w.heap.size w w' := by
  refine (rparse_calls s.data.toList (by rw [Array.length_toList]; exact hs) w).mono ?_
  rintro e w' ⟨rfl, hb⟩
  rw [hp, ho]
  exact ⟨rfl, hb⟩
set_option maxHeartbeats 8000000 in
set_option maxRecDepth 100000 in
theorem reads_calls (s : ByteArray) (hsz : s.size ≤ 9223372036854775807) (w : World) (hG : Glob w) :
    Calls Tryd.prog 3 #[.string s] w fun e w' => e = .returned (.bool true) ∧ Below w.heap.size w w' := by
  have HG := Aside0.mk hG
  clear hG
  go_enter Tryd.func3, Tryd.ntmps3
  by_cases hlong : s.size > 120
  · have hl1 : (s.size : Int) > 120 := by omega
    go_wp2_with (go_at_call 7; refine (works_calls _ HG.out).mono ?_; rintro e w2 ⟨rfl, hb⟩; have HB2 := Aside0.mk hb; clear hb)
    go_ret
    exact ⟨rfl, HB2.out⟩
  · have hl1 : ¬ (s.size : Int) > 120 := by omega
    have HS := Aside0.mk (show s.size ≤ 200 by omega)
    clear hlong
    obtain ⟨a, ha⟩ : ∃ a, parseN s.data.toList = a := ⟨_, rfl⟩
    obtain ⟨kd, d, n, p, i, k⟩ := a
    obtain ⟨b, hb0⟩ : ∃ b, parseOk s.data.toList = b := ⟨_, rfl⟩
    have HPA := Aside0.mk ha
    have HPO := Aside0.mk hb0
    clear ha hb0
    cases b
    all_goals
      go_upto_region 5 with (first
        | (go_at_call 8; refine (parseV_calls s kd d n p i k _ HPA.out HPO.out HS.out _ HG.out).mono ?_; rintro e w2 ⟨rfl, hb⟩; have HB2 := Aside0.mk hb; clear hb)
        | (go_at_call 9; refine (rparseV_calls s kd d n p i k _ HPA.out HPO.out HS.out _).mono ?_; rintro e w3 ⟨rfl, hb⟩; have HB3 := Aside0.mk (below_step (below_alloc HB2.out _) hb); have hc0 := pw_cell_below hb (a := ⟨w2.heap.size, 0, none⟩) (v := .int .u8 kd) (by go_simp); have hc1 := pw_cell_below hb (a := ⟨w2.heap.size, 1, none⟩) (v := .int .u64 d) (by go_simp); have hc2 := pw_cell_below hb (a := ⟨w2.heap.size, 2, none⟩) (v := .int .u64 n) (by go_simp); have hc3 := pw_cell_below hb (a := ⟨w2.heap.size, 3, none⟩) (v := .int .u64 p) (by go_simp); have hc4 := pw_cell_below hb (a := ⟨w2.heap.size, 4, none⟩) (v := .int .u64 i) (by go_simp); have hc5 := pw_cell_below hb (a := ⟨w2.heap.size, 5, none⟩) (v := .int .u64 k) (by go_simp); clear hb))
      have HB6 := Aside0.mk (below_alloc HB3.out (.cells #[.int .u8 kd, .int .u64 d, .int .u64 n, .int .u64 p, .int .u64 i, .int .u64 k] 28))
      replace hc0 := cell_allocs hc0 (.cells #[.int .u8 kd, .int .u64 d, .int .u64 n, .int .u64 p, .int .u64 i, .int .u64 k] 28)
      replace hc1 := cell_allocs hc1 (.cells #[.int .u8 kd, .int .u64 d, .int .u64 n, .int .u64 p, .int .u64 i, .int .u64 k] 28)
      replace hc2 := cell_allocs hc2 (.cells #[.int .u8 kd, .int .u64 d, .int .u64 n, .int .u64 p, .int .u64 i, .int .u64 k] 28)
      replace hc3 := cell_allocs hc3 (.cells #[.int .u8 kd, .int .u64 d, .int .u64 n, .int .u64 p, .int .u64 i, .int .u64 k] 28)
      replace hc4 := cell_allocs hc4 (.cells #[.int .u8 kd, .int .u64 d, .int .u64 n, .int .u64 p, .int .u64 i, .int .u64 k] 28)
      replace hc5 := cell_allocs hc5 (.cells #[.int .u8 kd, .int .u64 d, .int .u64 n, .int .u64 p, .int .u64 i, .int .u64 k] 28)
      have he0 : (w3.alloc (.cells #[.int .u8 kd, .int .u64 d, .int .u64 n, .int .u64 p, .int .u64 i, .int .u64 k] 28)).cell? ⟨w3.heap.size, 0, none⟩ = some (.int .u8 kd) := by go_simp
      have he1 : (w3.alloc (.cells #[.int .u8 kd, .int .u64 d, .int .u64 n, .int .u64 p, .int .u64 i, .int .u64 k] 28)).cell? ⟨w3.heap.size, 1, none⟩ = some (.int .u64 d) := by go_simp
      have he2 : (w3.alloc (.cells #[.int .u8 kd, .int .u64 d, .int .u64 n, .int .u64 p, .int .u64 i, .int .u64 k] 28)).cell? ⟨w3.heap.size, 2, none⟩ = some (.int .u64 n) := by go_simp
      have he3 : (w3.alloc (.cells #[.int .u8 kd, .int .u64 d, .int .u64 n, .int .u64 p, .int .u64 i, .int .u64 k] 28)).cell? ⟨w3.heap.size, 3, none⟩ = some (.int .u64 p) := by go_simp
      have he4 : (w3.alloc (.cells #[.int .u8 kd, .int .u64 d, .int .u64 n, .int .u64 p, .int .u64 i, .int .u64 k] 28)).cell? ⟨w3.heap.size, 4, none⟩ = some (.int .u64 i) := by go_simp
      have he5 : (w3.alloc (.cells #[.int .u8 kd, .int .u64 d, .int .u64 n, .int .u64 p, .int .u64 i, .int .u64 k] 28)).cell? ⟨w3.heap.size, 5, none⟩ = some (.int .u64 k) := by go_simp
      clear HB2 HB3
      generalize w3.alloc (.cells #[.int .u8 kd, .int .u64 d, .int .u64 n, .int .u64 p, .int .u64 i, .int .u64 k] 28) = w6 at HB6 hc0 hc1 hc2 hc3 hc4 hc5 he0 he1 he2 he3 he4 he5 ⊢
      generalize w3.heap.size = g5 at he0 he1 he2 he3 he4 he5 ⊢
      generalize w2.heap.size = g3 at hc0 hc1 hc2 hc3 hc4 hc5 ⊢
      have HBD := Aside0.mk (below_drew (Below.refl w6.heap.size w6))
      refine start_ (n := 13) (S := fun w' => w'.cell? ⟨g3, 0, none⟩ = some (.int .u8 kd) ∧ w'.cell? ⟨g3, 1, none⟩ = some (.int .u64 d) ∧ w'.cell? ⟨g3, 2, none⟩ = some (.int .u64 n) ∧ w'.cell? ⟨g3, 3, none⟩ = some (.int .u64 p) ∧ w'.cell? ⟨g3, 4, none⟩ = some (.int .u64 i) ∧ w'.cell? ⟨g3, 5, none⟩ = some (.int .u64 k) ∧ w'.cell? ⟨g5, 0, none⟩ = some (.int .u8 kd) ∧ w'.cell? ⟨g5, 1, none⟩ = some (.int .u64 d) ∧ w'.cell? ⟨g5, 2, none⟩ = some (.int .u64 n) ∧ w'.cell? ⟨g5, 3, none⟩ = some (.int .u64 p) ∧ w'.cell? ⟨g5, 4, none⟩ = some (.int .u64 i) ∧ w'.cell? ⟨g5, 5, none⟩ = some (.int .u64 k)) (ds := []) #[false, false, false, false, false, false, false, false, false, false, false, false, false] (by kernel_rfl) rfl rfl ⟨hc0, hc1, hc2, hc3, hc4, hc5, he0, he1, he2, he3, he4, he5⟩ (fun hHeld => ?_)
      refine pure_ (i := 0) (N := some 21) (v := ?_) (a' := ?_) #[true, false, false, false, false, false, false, false, false, false, false, false, false] rfl rfl (by kernel_rfl) (fun _ _ _ h => h) (Or.inl ⟨by rfl, ?_⟩) ?_ ?_
      rotate_left
      · intro w'
        go_simp
        with_reducible rfl
      rotate_left
      · simp only [Act.put, List.setIfInBounds_toArray, List.set_cons_zero, List.set_cons_succ, i64_w, i32_w]
        rfl
      refine pure_ (i := 1) (N := some 22) (v := ?_) (a' := ?_) #[true, true, false, false, false, false, false, false, false, false, false, false, false] rfl rfl (by kernel_rfl) (fun _ _ _ h => h) (Or.inl ⟨by rfl, ?_⟩) ?_ ?_
      rotate_left
      · intro w'
        go_simp
        with_reducible rfl
      rotate_left
      · simp only [Act.put, List.setIfInBounds_toArray, List.set_cons_zero, List.set_cons_succ, i64_w, i32_w]
        rfl
      refine pure_ (i := 2) (N := some 23) (v := ?_) (a' := ?_) #[true, true, true, false, false, false, false, false, false, false, false, false, false] rfl rfl (by kernel_rfl) (fun _ _ _ h => h) (Or.inl ⟨by rfl, ?_⟩) ?_ ?_
      rotate_left
      · intro w'
        go_simp
        with_reducible rfl
      rotate_left
      · simp only [Act.put, List.setIfInBounds_toArray, List.set_cons_zero, List.set_cons_succ, i64_w, i32_w]
        rfl
      refine pure_ (i := 3) (N := some 24) (v := ?_) (a' := ?_) #[true, true, true, true, false, false, false, false, false, false, false, false, false] rfl rfl (by kernel_rfl) (fun _ _ _ h => h) (Or.inl ⟨by rfl, ?_⟩) ?_ ?_
      rotate_left
      · intro w'
        go_simp
        with_reducible rfl
      rotate_left
      · simp only [Act.put, List.setIfInBounds_toArray, List.set_cons_zero, List.set_cons_succ, i64_w, i32_w]
        rfl
      refine take_ (i := 4) (N := some 25) (v := ?_) (a' := ?_) #[true, true, true, true, true, false, false, false, false, false, false, false, false] rfl rfl (by kernel_rfl) (fun _ _ _ h => h) (Or.inl ⟨by rfl, ?_⟩) hHeld ?_ ?_
      rotate_left
      · rintro w' ⟨s0, s1, s2, s3, s4, s5, s6, s7, s8, s9, s10, s11⟩
        go_simp
        with_reducible rfl
      rotate_left
      · simp only [Act.put, List.setIfInBounds_toArray, List.set_cons_zero, List.set_cons_succ, i64_w, i32_w]
        rfl
      refine take_ (i := 6) (N := some 27) (v := ?_) (a' := ?_) #[true, true, true, true, true, false, true, false, false, false, false, false, false] rfl rfl (by kernel_rfl) (fun _ _ _ h => h) (Or.inl ⟨by rfl, ?_⟩) hHeld ?_ ?_
      rotate_left
      · rintro w' ⟨s0, s1, s2, s3, s4, s5, s6, s7, s8, s9, s10, s11⟩
        go_simp
        with_reducible rfl
      rotate_left
      · simp only [Act.put, List.setIfInBounds_toArray, List.set_cons_zero, List.set_cons_succ, i64_w, i32_w]
        rfl
      refine one_ (i := 5) (N := some 26) #[true, true, true, true, true, true, true, false, false, false, false, false, false] rfl rfl (by kernel_rfl) (by decide) (fun K hK => ?_)
      refine goes_ Tryd.func10 (by kernel_rfl) rfl #[.agg #[.int .u8 kd, .int .u64 d, .int .u64 n, .int .u64 p, .int .u64 i, .int .u64 k]] (by rfl) rfl rfl (by (try simp only [List.map_toArray, List.map_cons, List.map_nil]); first | done | rfl) ?_
      with_reducible refine (ref_calls kd d n p i k _).mono ?_
      rintro e wq5 ⟨rfl, hbq⟩
      refine ⟨_, rfl, ?_⟩
      have HBq5 := Aside0.mk (below_step HBD.out hbq)
      clear hbq
      refine hK.out _ _ ⟨pw_cell_below HBq5.out hc0, pw_cell_below HBq5.out hc1, pw_cell_below HBq5.out hc2, pw_cell_below HBq5.out hc3, pw_cell_below HBq5.out hc4, pw_cell_below HBq5.out hc5, pw_cell_below HBq5.out he0, pw_cell_below HBq5.out he1, pw_cell_below HBq5.out he2, pw_cell_below HBq5.out he3, pw_cell_below HBq5.out he4, pw_cell_below HBq5.out he5⟩ (fun hHeld => ?_)
      clear hK K
      refine norm_ (a' := ?_) ?_ ?_
      rotate_left
      · show Act.put _ (some 26) _ = _
        simp only [Act.put, List.setIfInBounds_toArray, List.set_cons_zero, List.set_cons_succ, i64_w, i32_w]
        rfl
      refine pure_ (i := 7) (N := some 28) (v := ?_) (a' := ?_) #[true, true, true, true, true, true, true, true, false, false, false, false, false] rfl rfl (by kernel_rfl) (fun _ _ _ h => h) (Or.inl ⟨by rfl, ?_⟩) ?_ ?_
      rotate_left
      · intro w'
        go_simp
        with_reducible rfl
      rotate_left
      · simp only [Act.put, List.setIfInBounds_toArray, List.set_cons_zero, List.set_cons_succ, i64_w, i32_w]
        rfl
      refine pure_ (i := 8) (N := some 29) (v := ?_) (a' := ?_) #[true, true, true, true, true, true, true, true, true, false, false, false, false] rfl rfl (by kernel_rfl) (fun _ _ _ h => h) (Or.inl ⟨by rfl, ?_⟩) ?_ ?_
      rotate_left
      · intro w'
        go_simp
        with_reducible rfl
      rotate_left
      · simp only [Act.put, List.setIfInBounds_toArray, List.set_cons_zero, List.set_cons_succ, i64_w, i32_w]
        rfl
      refine pure_ (i := 9) (N := some 30) (v := ?_) (a' := ?_) #[true, true, true, true, true, true, true, true, true, true, false, false, false] rfl rfl (by kernel_rfl) (fun _ _ _ h => h) (Or.inl ⟨by rfl, ?_⟩) ?_ ?_
      rotate_left
      · intro w'
        go_simp
        with_reducible rfl
      rotate_left
      · simp only [Act.put, List.setIfInBounds_toArray, List.set_cons_zero, List.set_cons_succ, i64_w, i32_w]
        rfl
      refine one_ (i := 10) (N := some 31) #[true, true, true, true, true, true, true, true, true, true, true, false, false] rfl rfl (by kernel_rfl) (by decide) (fun K hK => ?_)
      refine goes_ Tryd.func7 (by kernel_rfl) rfl #[] (by rfl) rfl rfl (by (try simp only [List.map_toArray, List.map_cons, List.map_nil]); first | done | rfl) ?_
      with_reducible refine (works_calls _ (HG.out.below (below_step HB6.out HBq5.out))).mono ?_
      rintro e wq10 ⟨rfl, hbq⟩
      refine ⟨_, rfl, ?_⟩
      have HBq10 := Aside0.mk (below_step HBq5.out hbq)
      clear hbq
      refine hK.out _ _ ⟨pw_cell_below HBq10.out hc0, pw_cell_below HBq10.out hc1, pw_cell_below HBq10.out hc2, pw_cell_below HBq10.out hc3, pw_cell_below HBq10.out hc4, pw_cell_below HBq10.out hc5, pw_cell_below HBq10.out he0, pw_cell_below HBq10.out he1, pw_cell_below HBq10.out he2, pw_cell_below HBq10.out he3, pw_cell_below HBq10.out he4, pw_cell_below HBq10.out he5⟩ (fun hHeld => ?_)
      clear hK K
      refine norm_ (a' := ?_) ?_ ?_
      rotate_left
      · show Act.put _ (some 31) _ = _
        simp only [Act.put, List.setIfInBounds_toArray, List.set_cons_zero, List.set_cons_succ, i64_w, i32_w]
        rfl
      refine pure_ (i := 11) (N := some 32) (v := ?_) (a' := ?_) #[true, true, true, true, true, true, true, true, true, true, true, true, false] rfl rfl (by kernel_rfl) (fun _ _ _ h => h) (Or.inl ⟨by rfl, ?_⟩) ?_ ?_
      rotate_left
      · intro w'
        go_simp
        with_reducible rfl
      rotate_left
      · simp only [Act.put, List.setIfInBounds_toArray, List.set_cons_zero, List.set_cons_succ, i64_w, i32_w]
        rfl
      refine pure_ (i := 12) (N := some 2) (v := ?_) (a' := ?_) #[true, true, true, true, true, true, true, true, true, true, true, true, true] rfl rfl (by kernel_rfl) (fun _ _ _ h => h) (Or.inl ⟨by rfl, ?_⟩) ?_ ?_
      rotate_left
      · intro w'
        go_simp
        with_reducible rfl
      rotate_left
      · simp only [Act.put, List.setIfInBounds_toArray, List.set_cons_zero, List.set_cons_succ, i64_w, i32_w]
        rfl
      refine done_ (by kernel_rfl) ?_
      go_wp2
      go_ret
      exact ⟨rfl, below_step HB6.out HBq10.out⟩
end Go.Proofs.YtkpfpgggkbaefaaDoor
