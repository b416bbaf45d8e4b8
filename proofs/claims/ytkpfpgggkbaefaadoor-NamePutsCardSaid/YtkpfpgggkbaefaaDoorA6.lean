import Derived.Test.YtkpfpgggkbaefaaDoorA2
import Derived.Test.YtkpfpgggkbaefaaDoorA3
/-! name: Compare. -/
set_option linter.unusedVariables false
set_option linter.unusedSimpArgs false
namespace Go.Proofs.YtkpfpgggkbaefaaDoor
open Go.RowKit Go.Proofs.YtkpfpgggkbaefaaDoorW.PrintWords Go.Proofs.YtkpfpgggkbaefaaDoorW.PrintLast Go.Proofs.YtkpfpgggkbaefaaDoorW.PrintMore

def cmpN (a b : Nat) : Int := if a < b then -1 else if b < a then 1 else 0
set_option maxHeartbeats 1000000 in
theorem nan8_calls (a : Nat) (w : World) : Calls Tryd.prog 44 #[.int .u8 a] w fun e w' => e = .returned (.bool false) ∧ w' = w := by
  go_enter Tryd.func44, Tryd.ntmps44
  go_wp2
  go_ret
  exact ⟨rfl, rfl⟩
set_option maxHeartbeats 1000000 in
theorem nan64_calls (a : Nat) (w : World) : Calls Tryd.prog 45 #[.int .u64 a] w fun e w' => e = .returned (.bool false) ∧ w' = w := by
  go_enter Tryd.func45, Tryd.ntmps45
  go_wp2
  go_ret
  exact ⟨rfl, rfl⟩
set_option maxHeartbeats 1000000 in
theorem cmp8_callsB (a b : Nat) (w : World) : Calls Tryd.prog 35 #[.int .u8 a, .int .u8 b] w fun e w' => e = .returned (.int .i64 (cmpN a b)) ∧ Below w.heap.size w w' := by
  by_cases h1 : a < b
  · have hI : (a : Int) < b := by omega
    have e : cmpN a b = -1 := if_pos h1
    rw [e]
    clear e
    go_enter Tryd.func35, Tryd.ntmps35
    go_wp2_with (go_at_call 44; refine (nan8_calls _ _).mono ?_; rintro e w1 ⟨rfl, rfl⟩)
    go_ret
    exact ⟨rfl, Below.refl _ _⟩
  · have hI : ¬ (a : Int) < b := by omega
    by_cases h2 : b < a
    · have hJ : (a : Int) > b := by omega
      have e : cmpN a b = 1 := by rw [cmpN, if_neg h1, if_pos h2]
      rw [e]
      clear e
      go_enter Tryd.func35, Tryd.ntmps35
      go_wp2_with (go_at_call 44; refine (nan8_calls _ _).mono ?_; rintro e w1 ⟨rfl, rfl⟩)
      go_ret
      exact ⟨rfl, Below.refl _ _⟩
    · have hJ : ¬ (a : Int) > b := by omega
      have e : cmpN a b = 0 := by rw [cmpN, if_neg h1, if_neg h2]
      rw [e]
      clear e
      go_enter Tryd.func35, Tryd.ntmps35
      go_wp2_with (go_at_call 44; refine (nan8_calls _ _).mono ?_; rintro e w1 ⟨rfl, rfl⟩)
      go_ret
      exact ⟨rfl, Below.refl _ _⟩
set_option maxHeartbeats 1000000 in
theorem cmp64_callsB (a b : Nat) (w : World) : Calls Tryd.prog 36 #[.int .u64 a, .int .u64 b] w fun e w' => e = .returned (.int .i64 (cmpN a b)) ∧ Below w.heap.size w w' := by
  by_cases h1 : a < b
  · have hI : (a : Int) < b := by omega
    have e : cmpN a b = -1 := if_pos h1
    rw [e]
    clear e
    go_enter Tryd.func36, Tryd.ntmps36
    go_wp2_with (go_at_call 45; refine (nan64_calls _ _).mono ?_; rintro e w1 ⟨rfl, rfl⟩)
    go_ret
    exact ⟨rfl, Below.refl _ _⟩
  · have hI : ¬ (a : Int) < b := by omega
    by_cases h2 : b < a
    · have hJ : (a : Int) > b := by omega
      have e : cmpN a b = 1 := by rw [cmpN, if_neg h1, if_pos h2]
      rw [e]
      clear e
      go_enter Tryd.func36, Tryd.ntmps36
      go_wp2_with (go_at_call 45; refine (nan64_calls _ _).mono ?_; rintro e w1 ⟨rfl, rfl⟩)
      go_ret
      exact ⟨rfl, Below.refl _ _⟩
    · have hJ : ¬ (a : Int) > b := by omega
      have e : cmpN a b = 0 := by rw [cmpN, if_neg h1, if_neg h2]
      rw [e]
      clear e
      go_enter Tryd.func36, Tryd.ntmps36
      go_wp2_with (go_at_call 45; refine (nan64_calls _ _).mono ?_; rintro e w1 ⟨rfl, rfl⟩)
      go_ret
      exact ⟨rfl, Below.refl _ _⟩
/-- The first that is not nought. -/
def orL : List Int → Int
  | [] => 0
  | c :: r => if c = 0 then orL r else c
theorem orL_drop (l : List Int) (j : Nat) (hj : j < l.length) : orL (l.drop j) = if l[j] = 0 then orL (l.drop (j + 1)) else l[j] := by
  rw [List.drop_eq_getElem_cons hj]
  rfl
set_option maxHeartbeats 2000000 in
theorem or_callsB (g : Nat) (c0 c1 c2 c3 c4 c5 : Int) (t : TypeId) (w : World) (hh : w.heap[g]? = some (.cells #[.int .i64 c0, .int .i64 c1, .int .i64 c2, .int .i64 c3, .int .i64 c4, .int .i64 c5] t (0, 0))) :
    Calls Tryd.prog 34 #[.slice (some ⟨g, 0, none⟩) 6 6] w fun e w' => e = .returned (.int .i64 (orL [c0, c1, c2, c3, c4, c5])) ∧ Below w.heap.size w w' := by
  generalize hl : [c0, c1, c2, c3, c4, c5] = l
  have hlen : l.length = 6 := by subst hl; rfl
  have hcs : ∀ j (h : j < l.length), w.cell? ⟨g, j, none⟩ = some (.int .i64 l[j]) := by
    subst hl
    intro j h
    have h4 : j = 0 ∨ j = 1 ∨ j = 2 ∨ j = 3 ∨ j = 4 ∨ j = 5 := by simp at h; omega
    rcases h4 with rfl | rfl | rfl | rfl | rfl | rfl <;> simp [World.cell?, hh]
  have HL := Aside0.mk hlen
  have HC := Aside0.mk hcs
  clear hh hl hlen hcs
  go_enter Tryd.func34, Tryd.ntmps34
  go_wp2
  go_loopw [8] (fun v8 wr => ∃ j : Nat, j ≤ 6 ∧ v8 = .int .i64 j ∧ Aside0 (orL l = orL (l.drop j)) ∧ Aside0 (wr = w)) (fun v8 _ => 6 - (RowKit.intOf v8).toNat)
  case atStart => exact ⟨0, by omega, rfl, ⟨rfl⟩, ⟨rfl⟩⟩
  case round =>
    obtain ⟨j, hj, rfl, HO, HE⟩ := hrel
    obtain ⟨rfl⟩ := HE
    by_cases hlt : j < 6
    · have hltI : (j : Int) < 6 := by omega
      have hjl : j < l.length := by rw [HL.out]; exact hlt
      have hcell := HC.out j hjl
      have HD := Aside0.mk (orL_drop l j hjl)
      generalize l[j] = x at hcell HD
      by_cases hx : x = 0
      · have hO2 := Aside0.mk (HO.out.trans (HD.out.trans (if_pos hx)))
        have hb : (x != 0) = false := by rw [hx]; rfl
        have hb2 : (x == 0) = true := by rw [hx]; rfl
        clear HO HD hjl
        go_wp2
        exact ⟨⟨j + 1, by omega, rfl, hO2, ⟨trivial⟩⟩, by simp [RowKit.intOf]; omega⟩
      · have hO2 := Aside0.mk (HO.out.trans (HD.out.trans (if_neg hx)))
        have hb : (x != 0) = true := bne_iff_ne.mpr hx
        have hb2 : (x == 0) = false := beq_eq_false_iff_ne.mpr hx
        clear HO HD hjl
        go_wp2
        go_ret
        exact ⟨by rw [hO2.out]; rfl, Below.refl _ _⟩
    · obtain rfl : j = 6 := by omega
      have hO2 := Aside0.mk (HO.out.trans (by rw [List.drop_eq_nil_of_le (by rw [HL.out]; exact Nat.le_refl 6)]))
      clear HO
      go_wp2
      go_ret
      exact ⟨by rw [hO2.out]; rfl, Below.refl _ _⟩
def cmpNm (a b : Nm) : Int := orL [cmpN a.kd b.kd, cmpN a.d b.d, cmpN a.n b.n, cmpN a.p b.p, cmpN a.i b.i, cmpN a.k b.k]
set_option maxHeartbeats 8000000 in
set_option maxRecDepth 100000 in
theorem cmp_calls (kd d n p i k kd2 d2 n2 p2 i2 k2 : Nat) (w : World) : Calls Tryd.prog 19 #[.agg #[.int .u8 kd, .int .u64 d, .int .u64 n, .int .u64 p, .int .u64 i, .int .u64 k], .agg #[.int .u8 kd2, .int .u64 d2, .int .u64 n2, .int .u64 p2, .int .u64 i2, .int .u64 k2]] w fun e w' => e = .returned (.int .i64 (cmpNm ⟨kd, d, n, p, i, k⟩ ⟨kd2, d2, n2, p2, i2, k2⟩)) ∧ Below w.heap.size w w' := by
  go_enter Tryd.func19, Tryd.ntmps19
  go_upto_region 1 with fail
  have HBW := Aside0.mk (below_alloc (below_alloc (Below.refl w.heap.size w) (.cells #[.int .u8 kd, .int .u64 d, .int .u64 n, .int .u64 p, .int .u64 i, .int .u64 k] 25)) (.cells #[.int .u8 kd2, .int .u64 d2, .int .u64 n2, .int .u64 p2, .int .u64 i2, .int .u64 k2] 25))
  generalize hw1 : (w.alloc (.cells #[.int .u8 kd, .int .u64 d, .int .u64 n, .int .u64 p, .int .u64 i, .int .u64 k] 25)).alloc (.cells #[.int .u8 kd2, .int .u64 d2, .int .u64 n2, .int .u64 p2, .int .u64 i2, .int .u64 k2] 25) = w1 at HBW ⊢
  have hc0 : w1.drew.cell? ⟨w.heap.size, 0, none⟩ = some (.int .u8 kd) := by subst hw1; go_simp
  have hc1 : w1.drew.cell? ⟨w.heap.size, 1, none⟩ = some (.int .u64 d) := by subst hw1; go_simp
  have hc2 : w1.drew.cell? ⟨w.heap.size, 2, none⟩ = some (.int .u64 n) := by subst hw1; go_simp
  have hc3 : w1.drew.cell? ⟨w.heap.size, 3, none⟩ = some (.int .u64 p) := by subst hw1; go_simp
  have hc4 : w1.drew.cell? ⟨w.heap.size, 4, none⟩ = some (.int .u64 i) := by subst hw1; go_simp
  have hc5 : w1.drew.cell? ⟨w.heap.size, 5, none⟩ = some (.int .u64 k) := by subst hw1; go_simp
  have he0 : w1.drew.cell? ⟨w.heap.size + 1, 0, none⟩ = some (.int .u8 kd2) := by subst hw1; go_simp
  have he1 : w1.drew.cell? ⟨w.heap.size + 1, 1, none⟩ = some (.int .u64 d2) := by subst hw1; go_simp
  have he2 : w1.drew.cell? ⟨w.heap.size + 1, 2, none⟩ = some (.int .u64 n2) := by subst hw1; go_simp
  have he3 : w1.drew.cell? ⟨w.heap.size + 1, 3, none⟩ = some (.int .u64 p2) := by subst hw1; go_simp
  have he4 : w1.drew.cell? ⟨w.heap.size + 1, 4, none⟩ = some (.int .u64 i2) := by subst hw1; go_simp
  have he5 : w1.drew.cell? ⟨w.heap.size + 1, 5, none⟩ = some (.int .u64 k2) := by subst hw1; go_simp
  have HBD := Aside0.mk (below_drew (Below.refl w1.heap.size w1))
  clear hw1
  refine start_ (n := 33) (S := fun w' => w'.cell? ⟨w.heap.size, 0, none⟩ = some (.int .u8 kd) ∧ w'.cell? ⟨w.heap.size, 1, none⟩ = some (.int .u64 d) ∧ w'.cell? ⟨w.heap.size, 2, none⟩ = some (.int .u64 n) ∧ w'.cell? ⟨w.heap.size, 3, none⟩ = some (.int .u64 p) ∧ w'.cell? ⟨w.heap.size, 4, none⟩ = some (.int .u64 i) ∧ w'.cell? ⟨w.heap.size, 5, none⟩ = some (.int .u64 k) ∧ w'.cell? ⟨w.heap.size + 1, 0, none⟩ = some (.int .u8 kd2) ∧ w'.cell? ⟨w.heap.size + 1, 1, none⟩ = some (.int .u64 d2) ∧ w'.cell? ⟨w.heap.size + 1, 2, none⟩ = some (.int .u64 n2) ∧ w'.cell? ⟨w.heap.size + 1, 3, none⟩ = some (.int .u64 p2) ∧ w'.cell? ⟨w.heap.size + 1, 4, none⟩ = some (.int .u64 i2) ∧ w'.cell? ⟨w.heap.size + 1, 5, none⟩ = some (.int .u64 k2)) (ds := []) #[false, false, false, false, false, false, false, false, false, false, false, false, false, false, false, false, false, false, false, false, false, false, false, false, false, false, false, false, false, false, false, false, false] (by kernel_rfl) rfl rfl ⟨hc0, hc1, hc2, hc3, hc4, hc5, he0, he1, he2, he3, he4, he5⟩ (fun hHeld => ?_)
  refine pure_ (i := 0) (N := some 5) (v := ?_) (a' := ?_) #[true, false, false, false, false, false, false, false, false, false, false, false, false, false, false, false, false, false, false, false, false, false, false, false, false, false, false, false, false, false, false, false, false] rfl rfl (by kernel_rfl) (fun _ _ _ h => h) (Or.inl ⟨by rfl, ?_⟩) ?_ ?_
  rotate_left
  · intro w'
    go_simp
    with_reducible rfl
  rotate_left
  · simp only [Act.put, List.setIfInBounds_toArray, List.set_cons_zero, List.set_cons_succ, i64_w, i32_w]
    rfl
  refine pure_ (i := 2) (N := some 7) (v := ?_) (a' := ?_) #[true, false, true, false, false, false, false, false, false, false, false, false, false, false, false, false, false, false, false, false, false, false, false, false, false, false, false, false, false, false, false, false, false] rfl rfl (by kernel_rfl) (fun _ _ _ h => h) (Or.inl ⟨by rfl, ?_⟩) ?_ ?_
  rotate_left
  · intro w'
    go_simp
    with_reducible rfl
  rotate_left
  · simp only [Act.put, List.setIfInBounds_toArray, List.set_cons_zero, List.set_cons_succ, i64_w, i32_w]
    rfl
  refine pure_ (i := 5) (N := some 10) (v := ?_) (a' := ?_) #[true, false, true, false, false, true, false, false, false, false, false, false, false, false, false, false, false, false, false, false, false, false, false, false, false, false, false, false, false, false, false, false, false] rfl rfl (by kernel_rfl) (fun _ _ _ h => h) (Or.inl ⟨by rfl, ?_⟩) ?_ ?_
  rotate_left
  · intro w'
    go_simp
    with_reducible rfl
  rotate_left
  · simp only [Act.put, List.setIfInBounds_toArray, List.set_cons_zero, List.set_cons_succ, i64_w, i32_w]
    rfl
  refine pure_ (i := 7) (N := some 12) (v := ?_) (a' := ?_) #[true, false, true, false, false, true, false, true, false, false, false, false, false, false, false, false, false, false, false, false, false, false, false, false, false, false, false, false, false, false, false, false, false] rfl rfl (by kernel_rfl) (fun _ _ _ h => h) (Or.inl ⟨by rfl, ?_⟩) ?_ ?_
  rotate_left
  · intro w'
    go_simp
    with_reducible rfl
  rotate_left
  · simp only [Act.put, List.setIfInBounds_toArray, List.set_cons_zero, List.set_cons_succ, i64_w, i32_w]
    rfl
  refine pure_ (i := 10) (N := some 15) (v := ?_) (a' := ?_) #[true, false, true, false, false, true, false, true, false, false, true, false, false, false, false, false, false, false, false, false, false, false, false, false, false, false, false, false, false, false, false, false, false] rfl rfl (by kernel_rfl) (fun _ _ _ h => h) (Or.inl ⟨by rfl, ?_⟩) ?_ ?_
  rotate_left
  · intro w'
    go_simp
    with_reducible rfl
  rotate_left
  · simp only [Act.put, List.setIfInBounds_toArray, List.set_cons_zero, List.set_cons_succ, i64_w, i32_w]
    rfl
  refine pure_ (i := 12) (N := some 17) (v := ?_) (a' := ?_) #[true, false, true, false, false, true, false, true, false, false, true, false, true, false, false, false, false, false, false, false, false, false, false, false, false, false, false, false, false, false, false, false, false] rfl rfl (by kernel_rfl) (fun _ _ _ h => h) (Or.inl ⟨by rfl, ?_⟩) ?_ ?_
  rotate_left
  · intro w'
    go_simp
    with_reducible rfl
  rotate_left
  · simp only [Act.put, List.setIfInBounds_toArray, List.set_cons_zero, List.set_cons_succ, i64_w, i32_w]
    rfl
  refine pure_ (i := 15) (N := some 20) (v := ?_) (a' := ?_) #[true, false, true, false, false, true, false, true, false, false, true, false, true, false, false, true, false, false, false, false, false, false, false, false, false, false, false, false, false, false, false, false, false] rfl rfl (by kernel_rfl) (fun _ _ _ h => h) (Or.inl ⟨by rfl, ?_⟩) ?_ ?_
  rotate_left
  · intro w'
    go_simp
    with_reducible rfl
  rotate_left
  · simp only [Act.put, List.setIfInBounds_toArray, List.set_cons_zero, List.set_cons_succ, i64_w, i32_w]
    rfl
  refine pure_ (i := 17) (N := some 22) (v := ?_) (a' := ?_) #[true, false, true, false, false, true, false, true, false, false, true, false, true, false, false, true, false, true, false, false, false, false, false, false, false, false, false, false, false, false, false, false, false] rfl rfl (by kernel_rfl) (fun _ _ _ h => h) (Or.inl ⟨by rfl, ?_⟩) ?_ ?_
  rotate_left
  · intro w'
    go_simp
    with_reducible rfl
  rotate_left
  · simp only [Act.put, List.setIfInBounds_toArray, List.set_cons_zero, List.set_cons_succ, i64_w, i32_w]
    rfl
  refine pure_ (i := 20) (N := some 25) (v := ?_) (a' := ?_) #[true, false, true, false, false, true, false, true, false, false, true, false, true, false, false, true, false, true, false, false, true, false, false, false, false, false, false, false, false, false, false, false, false] rfl rfl (by kernel_rfl) (fun _ _ _ h => h) (Or.inl ⟨by rfl, ?_⟩) ?_ ?_
  rotate_left
  · intro w'
    go_simp
    with_reducible rfl
  rotate_left
  · simp only [Act.put, List.setIfInBounds_toArray, List.set_cons_zero, List.set_cons_succ, i64_w, i32_w]
    rfl
  refine pure_ (i := 22) (N := some 27) (v := ?_) (a' := ?_) #[true, false, true, false, false, true, false, true, false, false, true, false, true, false, false, true, false, true, false, false, true, false, true, false, false, false, false, false, false, false, false, false, false] rfl rfl (by kernel_rfl) (fun _ _ _ h => h) (Or.inl ⟨by rfl, ?_⟩) ?_ ?_
  rotate_left
  · intro w'
    go_simp
    with_reducible rfl
  rotate_left
  · simp only [Act.put, List.setIfInBounds_toArray, List.set_cons_zero, List.set_cons_succ, i64_w, i32_w]
    rfl
  refine pure_ (i := 25) (N := some 30) (v := ?_) (a' := ?_) #[true, false, true, false, false, true, false, true, false, false, true, false, true, false, false, true, false, true, false, false, true, false, true, false, false, true, false, false, false, false, false, false, false] rfl rfl (by kernel_rfl) (fun _ _ _ h => h) (Or.inl ⟨by rfl, ?_⟩) ?_ ?_
  rotate_left
  · intro w'
    go_simp
    with_reducible rfl
  rotate_left
  · simp only [Act.put, List.setIfInBounds_toArray, List.set_cons_zero, List.set_cons_succ, i64_w, i32_w]
    rfl
  refine pure_ (i := 27) (N := some 32) (v := ?_) (a' := ?_) #[true, false, true, false, false, true, false, true, false, false, true, false, true, false, false, true, false, true, false, false, true, false, true, false, false, true, false, true, false, false, false, false, false] rfl rfl (by kernel_rfl) (fun _ _ _ h => h) (Or.inl ⟨by rfl, ?_⟩) ?_ ?_
  rotate_left
  · intro w'
    go_simp
    with_reducible rfl
  rotate_left
  · simp only [Act.put, List.setIfInBounds_toArray, List.set_cons_zero, List.set_cons_succ, i64_w, i32_w]
    rfl
  refine take_ (i := 1) (N := some 6) (v := ?_) (a' := ?_) #[true, true, true, false, false, true, false, true, false, false, true, false, true, false, false, true, false, true, false, false, true, false, true, false, false, true, false, true, false, false, false, false, false] rfl rfl (by kernel_rfl) (fun _ _ _ h => h) (Or.inl ⟨by rfl, ?_⟩) hHeld ?_ ?_
  rotate_left
  · rintro w' ⟨s0, s1, s2, s3, s4, s5, s6, s7, s8, s9, s10, s11⟩
    go_simp
    with_reducible rfl
  rotate_left
  · simp only [Act.put, List.setIfInBounds_toArray, List.set_cons_zero, List.set_cons_succ, i64_w, i32_w]
    rfl
  refine take_ (i := 3) (N := some 8) (v := ?_) (a' := ?_) #[true, true, true, true, false, true, false, true, false, false, true, false, true, false, false, true, false, true, false, false, true, false, true, false, false, true, false, true, false, false, false, false, false] rfl rfl (by kernel_rfl) (fun _ _ _ h => h) (Or.inl ⟨by rfl, ?_⟩) hHeld ?_ ?_
  rotate_left
  · rintro w' ⟨s0, s1, s2, s3, s4, s5, s6, s7, s8, s9, s10, s11⟩
    go_simp
    with_reducible rfl
  rotate_left
  · simp only [Act.put, List.setIfInBounds_toArray, List.set_cons_zero, List.set_cons_succ, i64_w, i32_w]
    rfl
  refine take_ (i := 6) (N := some 11) (v := ?_) (a' := ?_) #[true, true, true, true, false, true, true, true, false, false, true, false, true, false, false, true, false, true, false, false, true, false, true, false, false, true, false, true, false, false, false, false, false] rfl rfl (by kernel_rfl) (fun _ _ _ h => h) (Or.inl ⟨by rfl, ?_⟩) hHeld ?_ ?_
  rotate_left
  · rintro w' ⟨s0, s1, s2, s3, s4, s5, s6, s7, s8, s9, s10, s11⟩
    go_simp
    with_reducible rfl
  rotate_left
  · simp only [Act.put, List.setIfInBounds_toArray, List.set_cons_zero, List.set_cons_succ, i64_w, i32_w]
    rfl
  refine take_ (i := 8) (N := some 13) (v := ?_) (a' := ?_) #[true, true, true, true, false, true, true, true, true, false, true, false, true, false, false, true, false, true, false, false, true, false, true, false, false, true, false, true, false, false, false, false, false] rfl rfl (by kernel_rfl) (fun _ _ _ h => h) (Or.inl ⟨by rfl, ?_⟩) hHeld ?_ ?_
  rotate_left
  · rintro w' ⟨s0, s1, s2, s3, s4, s5, s6, s7, s8, s9, s10, s11⟩
    go_simp
    with_reducible rfl
  rotate_left
  · simp only [Act.put, List.setIfInBounds_toArray, List.set_cons_zero, List.set_cons_succ, i64_w, i32_w]
    rfl
  refine take_ (i := 11) (N := some 16) (v := ?_) (a' := ?_) #[true, true, true, true, false, true, true, true, true, false, true, true, true, false, false, true, false, true, false, false, true, false, true, false, false, true, false, true, false, false, false, false, false] rfl rfl (by kernel_rfl) (fun _ _ _ h => h) (Or.inl ⟨by rfl, ?_⟩) hHeld ?_ ?_
  rotate_left
  · rintro w' ⟨s0, s1, s2, s3, s4, s5, s6, s7, s8, s9, s10, s11⟩
    go_simp
    with_reducible rfl
  rotate_left
  · simp only [Act.put, List.setIfInBounds_toArray, List.set_cons_zero, List.set_cons_succ, i64_w, i32_w]
    rfl
  refine take_ (i := 13) (N := some 18) (v := ?_) (a' := ?_) #[true, true, true, true, false, true, true, true, true, false, true, true, true, true, false, true, false, true, false, false, true, false, true, false, false, true, false, true, false, false, false, false, false] rfl rfl (by kernel_rfl) (fun _ _ _ h => h) (Or.inl ⟨by rfl, ?_⟩) hHeld ?_ ?_
  rotate_left
  · rintro w' ⟨s0, s1, s2, s3, s4, s5, s6, s7, s8, s9, s10, s11⟩
    go_simp
    with_reducible rfl
  rotate_left
  · simp only [Act.put, List.setIfInBounds_toArray, List.set_cons_zero, List.set_cons_succ, i64_w, i32_w]
    rfl
  refine take_ (i := 16) (N := some 21) (v := ?_) (a' := ?_) #[true, true, true, true, false, true, true, true, true, false, true, true, true, true, false, true, true, true, false, false, true, false, true, false, false, true, false, true, false, false, false, false, false] rfl rfl (by kernel_rfl) (fun _ _ _ h => h) (Or.inl ⟨by rfl, ?_⟩) hHeld ?_ ?_
  rotate_left
  · rintro w' ⟨s0, s1, s2, s3, s4, s5, s6, s7, s8, s9, s10, s11⟩
    go_simp
    with_reducible rfl
  rotate_left
  · simp only [Act.put, List.setIfInBounds_toArray, List.set_cons_zero, List.set_cons_succ, i64_w, i32_w]
    rfl
  refine take_ (i := 18) (N := some 23) (v := ?_) (a' := ?_) #[true, true, true, true, false, true, true, true, true, false, true, true, true, true, false, true, true, true, true, false, true, false, true, false, false, true, false, true, false, false, false, false, false] rfl rfl (by kernel_rfl) (fun _ _ _ h => h) (Or.inl ⟨by rfl, ?_⟩) hHeld ?_ ?_
  rotate_left
  · rintro w' ⟨s0, s1, s2, s3, s4, s5, s6, s7, s8, s9, s10, s11⟩
    go_simp
    with_reducible rfl
  rotate_left
  · simp only [Act.put, List.setIfInBounds_toArray, List.set_cons_zero, List.set_cons_succ, i64_w, i32_w]
    rfl
  refine take_ (i := 21) (N := some 26) (v := ?_) (a' := ?_) #[true, true, true, true, false, true, true, true, true, false, true, true, true, true, false, true, true, true, true, false, true, true, true, false, false, true, false, true, false, false, false, false, false] rfl rfl (by kernel_rfl) (fun _ _ _ h => h) (Or.inl ⟨by rfl, ?_⟩) hHeld ?_ ?_
  rotate_left
  · rintro w' ⟨s0, s1, s2, s3, s4, s5, s6, s7, s8, s9, s10, s11⟩
    go_simp
    with_reducible rfl
  rotate_left
  · simp only [Act.put, List.setIfInBounds_toArray, List.set_cons_zero, List.set_cons_succ, i64_w, i32_w]
    rfl
  refine take_ (i := 23) (N := some 28) (v := ?_) (a' := ?_) #[true, true, true, true, false, true, true, true, true, false, true, true, true, true, false, true, true, true, true, false, true, true, true, true, false, true, false, true, false, false, false, false, false] rfl rfl (by kernel_rfl) (fun _ _ _ h => h) (Or.inl ⟨by rfl, ?_⟩) hHeld ?_ ?_
  rotate_left
  · rintro w' ⟨s0, s1, s2, s3, s4, s5, s6, s7, s8, s9, s10, s11⟩
    go_simp
    with_reducible rfl
  rotate_left
  · simp only [Act.put, List.setIfInBounds_toArray, List.set_cons_zero, List.set_cons_succ, i64_w, i32_w]
    rfl
  refine take_ (i := 26) (N := some 31) (v := ?_) (a' := ?_) #[true, true, true, true, false, true, true, true, true, false, true, true, true, true, false, true, true, true, true, false, true, true, true, true, false, true, true, true, false, false, false, false, false] rfl rfl (by kernel_rfl) (fun _ _ _ h => h) (Or.inl ⟨by rfl, ?_⟩) hHeld ?_ ?_
  rotate_left
  · rintro w' ⟨s0, s1, s2, s3, s4, s5, s6, s7, s8, s9, s10, s11⟩
    go_simp
    with_reducible rfl
  rotate_left
  · simp only [Act.put, List.setIfInBounds_toArray, List.set_cons_zero, List.set_cons_succ, i64_w, i32_w]
    rfl
  refine take_ (i := 28) (N := some 33) (v := ?_) (a' := ?_) #[true, true, true, true, false, true, true, true, true, false, true, true, true, true, false, true, true, true, true, false, true, true, true, true, false, true, true, true, true, false, false, false, false] rfl rfl (by kernel_rfl) (fun _ _ _ h => h) (Or.inl ⟨by rfl, ?_⟩) hHeld ?_ ?_
  rotate_left
  · rintro w' ⟨s0, s1, s2, s3, s4, s5, s6, s7, s8, s9, s10, s11⟩
    go_simp
    with_reducible rfl
  rotate_left
  · simp only [Act.put, List.setIfInBounds_toArray, List.set_cons_zero, List.set_cons_succ, i64_w, i32_w]
    rfl
  refine one_ (i := 4) (N := some 9) #[true, true, true, true, true, true, true, true, true, false, true, true, true, true, false, true, true, true, true, false, true, true, true, true, false, true, true, true, true, false, false, false, false] rfl rfl (by kernel_rfl) (by decide) (fun K hK => ?_)
  refine goes_ Tryd.func35 (by kernel_rfl) rfl #[.int .u8 kd, .int .u8 kd2] (by rfl) rfl rfl (by (try simp only [List.map_toArray, List.map_cons, List.map_nil]); first | done | rfl) ?_
  with_reducible refine (cmp8_callsB kd kd2 _).mono ?_
  rintro e wq4 ⟨rfl, hbq⟩
  refine ⟨_, rfl, ?_⟩
  have HBq4 := Aside0.mk (below_step HBD.out hbq)
  clear hbq
  refine hK.out _ _ ⟨pw_cell_below HBq4.out hc0, pw_cell_below HBq4.out hc1, pw_cell_below HBq4.out hc2, pw_cell_below HBq4.out hc3, pw_cell_below HBq4.out hc4, pw_cell_below HBq4.out hc5, pw_cell_below HBq4.out he0, pw_cell_below HBq4.out he1, pw_cell_below HBq4.out he2, pw_cell_below HBq4.out he3, pw_cell_below HBq4.out he4, pw_cell_below HBq4.out he5⟩ (fun hHeld => ?_)
  clear hK K
  refine norm_ (a' := ?_) ?_ ?_
  rotate_left
  · show Act.put _ (some 9) _ = _
    simp only [Act.put, List.setIfInBounds_toArray, List.set_cons_zero, List.set_cons_succ, i64_w, i32_w]
    rfl
  refine one_ (i := 9) (N := some 14) #[true, true, true, true, true, true, true, true, true, true, true, true, true, true, false, true, true, true, true, false, true, true, true, true, false, true, true, true, true, false, false, false, false] rfl rfl (by kernel_rfl) (by decide) (fun K hK => ?_)
  refine goes_ Tryd.func36 (by kernel_rfl) rfl #[.int .u64 d, .int .u64 d2] (by rfl) rfl rfl (by (try simp only [List.map_toArray, List.map_cons, List.map_nil]); first | done | rfl) ?_
  with_reducible refine (cmp64_callsB d d2 _).mono ?_
  rintro e wq9 ⟨rfl, hbq⟩
  refine ⟨_, rfl, ?_⟩
  have HBq9 := Aside0.mk (below_step HBq4.out hbq)
  clear hbq
  refine hK.out _ _ ⟨pw_cell_below HBq9.out hc0, pw_cell_below HBq9.out hc1, pw_cell_below HBq9.out hc2, pw_cell_below HBq9.out hc3, pw_cell_below HBq9.out hc4, pw_cell_below HBq9.out hc5, pw_cell_below HBq9.out he0, pw_cell_below HBq9.out he1, pw_cell_below HBq9.out he2, pw_cell_below HBq9.out he3, pw_cell_below HBq9.out he4, pw_cell_below HBq9.out he5⟩ (fun hHeld => ?_)
  clear hK K
  refine norm_ (a' := ?_) ?_ ?_
  rotate_left
  · show Act.put _ (some 14) _ = _
    simp only [Act.put, List.setIfInBounds_toArray, List.set_cons_zero, List.set_cons_succ, i64_w, i32_w]
    rfl
  refine one_ (i := 14) (N := some 19) #[true, true, true, true, true, true, true, true, true, true, true, true, true, true, true, true, true, true, true, false, true, true, true, true, false, true, true, true, true, false, false, false, false] rfl rfl (by kernel_rfl) (by decide) (fun K hK => ?_)
  refine goes_ Tryd.func36 (by kernel_rfl) rfl #[.int .u64 n, .int .u64 n2] (by rfl) rfl rfl (by (try simp only [List.map_toArray, List.map_cons, List.map_nil]); first | done | rfl) ?_
  with_reducible refine (cmp64_callsB n n2 _).mono ?_
  rintro e wq14 ⟨rfl, hbq⟩
  refine ⟨_, rfl, ?_⟩
  have HBq14 := Aside0.mk (below_step HBq9.out hbq)
  clear hbq
  refine hK.out _ _ ⟨pw_cell_below HBq14.out hc0, pw_cell_below HBq14.out hc1, pw_cell_below HBq14.out hc2, pw_cell_below HBq14.out hc3, pw_cell_below HBq14.out hc4, pw_cell_below HBq14.out hc5, pw_cell_below HBq14.out he0, pw_cell_below HBq14.out he1, pw_cell_below HBq14.out he2, pw_cell_below HBq14.out he3, pw_cell_below HBq14.out he4, pw_cell_below HBq14.out he5⟩ (fun hHeld => ?_)
  clear hK K
  refine norm_ (a' := ?_) ?_ ?_
  rotate_left
  · show Act.put _ (some 19) _ = _
    simp only [Act.put, List.setIfInBounds_toArray, List.set_cons_zero, List.set_cons_succ, i64_w, i32_w]
    rfl
  refine one_ (i := 19) (N := some 24) #[true, true, true, true, true, true, true, true, true, true, true, true, true, true, true, true, true, true, true, true, true, true, true, true, false, true, true, true, true, false, false, false, false] rfl rfl (by kernel_rfl) (by decide) (fun K hK => ?_)
  refine goes_ Tryd.func36 (by kernel_rfl) rfl #[.int .u64 p, .int .u64 p2] (by rfl) rfl rfl (by (try simp only [List.map_toArray, List.map_cons, List.map_nil]); first | done | rfl) ?_
  with_reducible refine (cmp64_callsB p p2 _).mono ?_
  rintro e wq19 ⟨rfl, hbq⟩
  refine ⟨_, rfl, ?_⟩
  have HBq19 := Aside0.mk (below_step HBq14.out hbq)
  clear hbq
  refine hK.out _ _ ⟨pw_cell_below HBq19.out hc0, pw_cell_below HBq19.out hc1, pw_cell_below HBq19.out hc2, pw_cell_below HBq19.out hc3, pw_cell_below HBq19.out hc4, pw_cell_below HBq19.out hc5, pw_cell_below HBq19.out he0, pw_cell_below HBq19.out he1, pw_cell_below HBq19.out he2, pw_cell_below HBq19.out he3, pw_cell_below HBq19.out he4, pw_cell_below HBq19.out he5⟩ (fun hHeld => ?_)
  clear hK K
  refine norm_ (a' := ?_) ?_ ?_
  rotate_left
  · show Act.put _ (some 24) _ = _
    simp only [Act.put, List.setIfInBounds_toArray, List.set_cons_zero, List.set_cons_succ, i64_w, i32_w]
    rfl
  refine one_ (i := 24) (N := some 29) #[true, true, true, true, true, true, true, true, true, true, true, true, true, true, true, true, true, true, true, true, true, true, true, true, true, true, true, true, true, false, false, false, false] rfl rfl (by kernel_rfl) (by decide) (fun K hK => ?_)
  refine goes_ Tryd.func36 (by kernel_rfl) rfl #[.int .u64 i, .int .u64 i2] (by rfl) rfl rfl (by (try simp only [List.map_toArray, List.map_cons, List.map_nil]); first | done | rfl) ?_
  with_reducible refine (cmp64_callsB i i2 _).mono ?_
  rintro e wq24 ⟨rfl, hbq⟩
  refine ⟨_, rfl, ?_⟩
  have HBq24 := Aside0.mk (below_step HBq19.out hbq)
  clear hbq
  refine hK.out _ _ ⟨pw_cell_below HBq24.out hc0, pw_cell_below HBq24.out hc1, pw_cell_below HBq24.out hc2, pw_cell_below HBq24.out hc3, pw_cell_below HBq24.out hc4, pw_cell_below HBq24.out hc5, pw_cell_below HBq24.out he0, pw_cell_below HBq24.out he1, pw_cell_below HBq24.out he2, pw_cell_below HBq24.out he3, pw_cell_below HBq24.out he4, pw_cell_below HBq24.out he5⟩ (fun hHeld => ?_)
  clear hK K
  refine norm_ (a' := ?_) ?_ ?_
  rotate_left
  · show Act.put _ (some 29) _ = _
    simp only [Act.put, List.setIfInBounds_toArray, List.set_cons_zero, List.set_cons_succ, i64_w, i32_w]
    rfl
  refine one_ (i := 29) (N := some 34) #[true, true, true, true, true, true, true, true, true, true, true, true, true, true, true, true, true, true, true, true, true, true, true, true, true, true, true, true, true, true, false, false, false] rfl rfl (by kernel_rfl) (by decide) (fun K hK => ?_)
  refine goes_ Tryd.func36 (by kernel_rfl) rfl #[.int .u64 k, .int .u64 k2] (by rfl) rfl rfl (by (try simp only [List.map_toArray, List.map_cons, List.map_nil]); first | done | rfl) ?_
  with_reducible refine (cmp64_callsB k k2 _).mono ?_
  rintro e wq29 ⟨rfl, hbq⟩
  refine ⟨_, rfl, ?_⟩
  have HBq29 := Aside0.mk (below_step HBq24.out hbq)
  clear hbq
  refine hK.out _ _ ⟨pw_cell_below HBq29.out hc0, pw_cell_below HBq29.out hc1, pw_cell_below HBq29.out hc2, pw_cell_below HBq29.out hc3, pw_cell_below HBq29.out hc4, pw_cell_below HBq29.out hc5, pw_cell_below HBq29.out he0, pw_cell_below HBq29.out he1, pw_cell_below HBq29.out he2, pw_cell_below HBq29.out he3, pw_cell_below HBq29.out he4, pw_cell_below HBq29.out he5⟩ (fun hHeld => ?_)
  clear hK K
  refine norm_ (a' := ?_) ?_ ?_
  rotate_left
  · show Act.put _ (some 34) _ = _
    simp only [Act.put, List.setIfInBounds_toArray, List.set_cons_zero, List.set_cons_succ, i64_w, i32_w]
    rfl
  refine one_ (i := 30) (N := some 35) #[true, true, true, true, true, true, true, true, true, true, true, true, true, true, true, true, true, true, true, true, true, true, true, true, true, true, true, true, true, true, true, false, false] rfl rfl (by kernel_rfl) (by decide) (fun K hK => ?_)
  refine value_ (w1 := ?_) (v := ?_) (by rfl) rfl ?_ ?_
  rotate_left 2
  · go_simp
    constructor
    · rfl
    · rfl
  refine hK.out _ _ ⟨cell_allocs (pw_cell_below HBq29.out hc0) _, cell_allocs (pw_cell_below HBq29.out hc1) _, cell_allocs (pw_cell_below HBq29.out hc2) _, cell_allocs (pw_cell_below HBq29.out hc3) _, cell_allocs (pw_cell_below HBq29.out hc4) _, cell_allocs (pw_cell_below HBq29.out hc5) _, cell_allocs (pw_cell_below HBq29.out he0) _, cell_allocs (pw_cell_below HBq29.out he1) _, cell_allocs (pw_cell_below HBq29.out he2) _, cell_allocs (pw_cell_below HBq29.out he3) _, cell_allocs (pw_cell_below HBq29.out he4) _, cell_allocs (pw_cell_below HBq29.out he5) _⟩ (fun hHeld => ?_)
  clear hK K
  refine norm_ (a' := ?_) ?_ ?_
  rotate_left
  · show Act.put _ (some 35) _ = _
    simp only [Act.put, List.setIfInBounds_toArray, List.set_cons_zero, List.set_cons_succ, i64_w, i32_w]
    rfl
  refine one_ (i := 31) (N := some 36) #[true, true, true, true, true, true, true, true, true, true, true, true, true, true, true, true, true, true, true, true, true, true, true, true, true, true, true, true, true, true, true, true, false] rfl rfl (by kernel_rfl) (by decide) (fun K hK => ?_)
  refine goes_ Tryd.func34 (by kernel_rfl) rfl #[.slice (some ⟨wq29.heap.size, 0, none⟩) 6 6] (by rfl) rfl rfl (by (try simp only [List.map_toArray, List.map_cons, List.map_nil]); first | done | rfl) ?_
  with_reducible refine (or_callsB _ _ _ _ _ _ _ _ _ (heap_alloc_new wq29 _)).mono ?_
  rintro e wr31 ⟨rfl, hbq⟩
  refine ⟨_, rfl, ?_⟩
  have HB31 := Aside0.mk (below_step (below_alloc HBq29.out _) hbq)
  clear hbq
  refine hK.out _ _ ⟨pw_cell_below HB31.out hc0, pw_cell_below HB31.out hc1, pw_cell_below HB31.out hc2, pw_cell_below HB31.out hc3, pw_cell_below HB31.out hc4, pw_cell_below HB31.out hc5, pw_cell_below HB31.out he0, pw_cell_below HB31.out he1, pw_cell_below HB31.out he2, pw_cell_below HB31.out he3, pw_cell_below HB31.out he4, pw_cell_below HB31.out he5⟩ (fun hHeld => ?_)
  clear hK K
  refine norm_ (a' := ?_) ?_ ?_
  rotate_left
  · show Act.put _ (some 36) _ = _
    simp only [Act.put, List.setIfInBounds_toArray, List.set_cons_zero, List.set_cons_succ, i64_w, i32_w]
    rfl
  refine pure_ (i := 32) (N := some 4) (v := ?_) (a' := ?_) #[true, true, true, true, true, true, true, true, true, true, true, true, true, true, true, true, true, true, true, true, true, true, true, true, true, true, true, true, true, true, true, true, true] rfl rfl (by kernel_rfl) (fun _ _ _ h => h) (Or.inl ⟨by rfl, ?_⟩) ?_ ?_
  rotate_left
  · intro w'
    go_simp
    with_reducible rfl
  rotate_left
  · simp only [Act.put, List.setIfInBounds_toArray, List.set_cons_zero, List.set_cons_succ, i64_w, i32_w]
    rfl
  refine done_ (by kernel_rfl) ?_
  go_wp2
  go_ret
  exact ⟨rfl, below_step HBW.out HB31.out⟩
end Go.Proofs.YtkpfpgggkbaefaaDoor
