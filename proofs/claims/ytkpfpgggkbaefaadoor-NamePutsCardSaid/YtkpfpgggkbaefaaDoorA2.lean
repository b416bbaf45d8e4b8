import Derived.Test.YtkpfpgggkbaefaaDoorA1
import Derived.Test.YtkpfpgggkbaefaaDoorPNameReadsx0
import Derived.WalkSpells
import Derived.WalkLawsBesides
import Derived.Outline
import Derived.BigQuiet
import Derived.Deep.QuietTactic
/-! name: of, numbers, heads, counts, May. -/
set_option linter.unusedVariables false
set_option linter.unusedSimpArgs false
namespace Go.Proofs.YtkpfpgggkbaefaaDoor
open Go.RowKit Go.Proofs.YtkpfpgggkbaefaaDoorW.PrintWords Go.Proofs.YtkpfpgggkbaefaaDoorW.PrintLast Go.Proofs.YtkpfpgggkbaefaaDoorW.PrintMore

/-- A Name's six numbers. -/
structure Nm where
  kd : Nat
  d : Nat
  n : Nat
  p : Nat
  i : Nat
  k : Nat
  deriving DecidableEq
/-- Each number fits. -/
structure Nm.Fits (a : Nm) : Prop where
  kd : a.kd < 256
  d : a.d < 18446744073709551616
  n : a.n < 18446744073709551616
  p : a.p < 18446744073709551616
  i : a.i < 18446744073709551616
  k : a.k < 18446744073709551616
def Nm.cells (a : Nm) : Array Value := #[.int .u8 a.kd, .int .u64 a.d, .int .u64 a.n, .int .u64 a.p, .int .u64 a.i, .int .u64 a.k]
def ofN (kd l0 l1 l2 l3 : Nat) : Nm := if kd = 1 ∨ kd = 2 then ⟨kd, l0, l1, 0, 0, 0⟩ else if kd = 3 then ⟨3, 0, 0, l0, l1, l2⟩ else ⟨kd, l0, 0, l1, l2, l3⟩
def num0 (a : Nm) : Nat := if a.kd = 3 then a.p else a.d
def num1 (a : Nm) : Nat := if a.kd = 1 ∨ a.kd = 2 then a.n else if a.kd = 3 then a.i else a.p
def num2 (a : Nm) : Nat := if a.kd = 1 ∨ a.kd = 2 then 0 else if a.kd = 3 then a.k else a.i
def num3 (a : Nm) : Nat := if a.kd = 1 ∨ a.kd = 2 then 0 else if a.kd = 3 then 0 else a.k
def mayB (a : Nm) : Bool := decide (1 ≤ a.kd ∧ a.kd ≤ 4 ∧ ofN a.kd (num0 a) (num1 a) (num2 a) (num3 a) = a)

set_option maxHeartbeats 1000000 in
set_option maxRecDepth 100000 in
theorem heads_calls (w : World) : Calls Tryd.prog 22 #[] w fun e w' => e = .returned (.agg #[.string ⟨#[]⟩, .string ⟨#[115]⟩, .string ⟨#[98]⟩, .string ⟨#[116]⟩, .string ⟨#[106]⟩]) ∧ Below w.heap.size w w' := by
  go_enter Tryd.func22, Tryd.ntmps22
  go_wp2
  refine bodyPost_ret (v := .agg #[.string ⟨#[]⟩, .string ⟨#[115]⟩, .string ⟨#[98]⟩, .string ⟨#[116]⟩, .string ⟨#[106]⟩]) (by simp [results, Tryd.results22, go_sem]) rfl ⟨rfl, ?_⟩
  exact below_alloc (Below.refl _ _) _
set_option maxHeartbeats 1000000 in
set_option maxRecDepth 100000 in
theorem counts_calls (w : World) : Calls Tryd.prog 24 #[] w fun e w' => e = .returned (.agg #[.int .i64 0, .int .i64 2, .int .i64 2, .int .i64 3, .int .i64 4]) ∧ Below w.heap.size w w' := by
  go_enter Tryd.func24, Tryd.ntmps24
  go_wp2
  refine bodyPost_ret (v := .agg #[.int .i64 0, .int .i64 2, .int .i64 2, .int .i64 3, .int .i64 4]) (by simp [results, Tryd.results24, go_sem]) rfl ⟨rfl, ?_⟩
  exact below_alloc (Below.refl _ _) _
set_option maxHeartbeats 2000000 in
set_option maxRecDepth 100000 in
theorem of_calls (kd l0 l1 l2 l3 : Nat) (w : World) : Calls Tryd.prog 27 #[.int .u8 kd, .agg #[.int .u64 l0, .int .u64 l1, .int .u64 l2, .int .u64 l3]] w fun e w' => e = .returned (.agg (ofN kd l0 l1 l2 l3).cells) ∧ Below w.heap.size w w' := by
  by_cases h1 : kd = 1
  · subst h1
    go_enter Tryd.func27, Tryd.ntmps27
    go_wp2
    refine bodyPost_ret (v := .agg (⟨1, l0, l1, 0, 0, 0⟩ : Nm).cells) (by simp [results, Tryd.results27, go_sem, Nm.cells]) rfl ⟨rfl, ?_⟩
    exact below_alloc (below_alloc (Below.refl _ _) _) _
  · by_cases h2 : kd = 2
    · subst h2
      go_enter Tryd.func27, Tryd.ntmps27
      go_wp2
      refine bodyPost_ret (v := .agg (⟨2, l0, l1, 0, 0, 0⟩ : Nm).cells) (by simp [results, Tryd.results27, go_sem, Nm.cells]) rfl ⟨rfl, ?_⟩
      exact below_alloc (below_alloc (Below.refl _ _) _) _
    · by_cases h3 : kd = 3
      · subst h3
        go_enter Tryd.func27, Tryd.ntmps27
        go_wp2
        refine bodyPost_ret (v := .agg (⟨3, 0, 0, l0, l1, l2⟩ : Nm).cells) (by simp [results, Tryd.results27, go_sem, Nm.cells]) rfl ⟨rfl, ?_⟩
        exact below_alloc (below_alloc (Below.refl _ _) _) _
      · have e : ofN kd l0 l1 l2 l3 = ⟨kd, l0, 0, l1, l2, l3⟩ := by unfold ofN; rw [if_neg (by omega), if_neg h3]
        rw [e]
        clear e
        have k1 : ((kd : Int) == 1) = false := beq_eq_false_iff_ne.mpr (by omega)
        have k2 : ((kd : Int) == 2) = false := beq_eq_false_iff_ne.mpr (by omega)
        have k3 : ((kd : Int) == 3) = false := beq_eq_false_iff_ne.mpr (by omega)
        have d1 : ¬ (kd : Int) = 1 := by omega
        have d2 : ¬ (kd : Int) = 2 := by omega
        have d3 : ¬ (kd : Int) = 3 := by omega
        go_enter Tryd.func27, Tryd.ntmps27
        go_wp2
        refine bodyPost_ret (v := .agg (⟨kd, l0, 0, l1, l2, l3⟩ : Nm).cells) (by simp [results, Tryd.results27, go_sem, Nm.cells]) rfl ⟨rfl, ?_⟩
        exact below_alloc (below_alloc (Below.refl _ _) _) _
theorem of_callsV (kd l0 l1 l2 l3 kd' d' n' p' i' k' : Nat) (w : World) (h : ofN kd l0 l1 l2 l3 = ⟨kd', d', n', p', i', k'⟩) : Calls Tryd.prog 27 #[.int .u8 kd, .agg #[.int .u64 l0, .int .u64 l1, .int .u64 l2, .int .u64 l3]] w fun e w' => e = .returned (.agg #[.int .u8 kd', .int .u64 d', .int .u64 n', .int .u64 p', .int .u64 i', .int .u64 k']) ∧ Below w.heap.size w w' := by
  refine (of_calls kd l0 l1 l2 l3 w).mono ?_
  rintro e w' ⟨rfl, hb⟩
  rw [h]
  exact ⟨rfl, hb⟩

set_option maxHeartbeats 2000000 in
set_option maxRecDepth 100000 in
theorem numbers_calls (kd d n p i k : Nat) (w : World) : Calls Tryd.prog 32 #[.agg #[.int .u8 kd, .int .u64 d, .int .u64 n, .int .u64 p, .int .u64 i, .int .u64 k]] w fun e w' => e = .returned (.agg #[.int .u64 (num0 ⟨kd, d, n, p, i, k⟩), .int .u64 (num1 ⟨kd, d, n, p, i, k⟩), .int .u64 (num2 ⟨kd, d, n, p, i, k⟩), .int .u64 (num3 ⟨kd, d, n, p, i, k⟩)]) ∧ Below w.heap.size w w' := by
  by_cases h1 : kd = 1
  · subst h1
    go_enter Tryd.func32, Tryd.ntmps32
    go_wp2
    refine bodyPost_ret (v := .agg #[.int .u64 d, .int .u64 n, .int .u64 0, .int .u64 0]) (by simp [results, Tryd.results32, go_sem]) rfl ⟨rfl, ?_⟩
    exact below_alloc (below_alloc (Below.refl _ _) _) _
  · by_cases h2 : kd = 2
    · subst h2
      go_enter Tryd.func32, Tryd.ntmps32
      go_wp2
      refine bodyPost_ret (v := .agg #[.int .u64 d, .int .u64 n, .int .u64 0, .int .u64 0]) (by simp [results, Tryd.results32, go_sem]) rfl ⟨rfl, ?_⟩
      exact below_alloc (below_alloc (Below.refl _ _) _) _
    · by_cases h3 : kd = 3
      · subst h3
        go_enter Tryd.func32, Tryd.ntmps32
        go_wp2
        refine bodyPost_ret (v := .agg #[.int .u64 p, .int .u64 i, .int .u64 k, .int .u64 0]) (by simp [results, Tryd.results32, go_sem]) rfl ⟨rfl, ?_⟩
        exact below_alloc (below_alloc (Below.refl _ _) _) _
      · have e0 : num0 ⟨kd, d, n, p, i, k⟩ = d := if_neg h3
        have e1 : num1 ⟨kd, d, n, p, i, k⟩ = p := by unfold num1; rw [if_neg (show ¬ (kd = 1 ∨ kd = 2) by omega), if_neg h3]
        have e2 : num2 ⟨kd, d, n, p, i, k⟩ = i := by unfold num2; rw [if_neg (show ¬ (kd = 1 ∨ kd = 2) by omega), if_neg h3]
        have e3 : num3 ⟨kd, d, n, p, i, k⟩ = k := by unfold num3; rw [if_neg (show ¬ (kd = 1 ∨ kd = 2) by omega), if_neg h3]
        rw [e0, e1, e2, e3]
        clear e0 e1 e2 e3
        have k1 : ((kd : Int) == 1) = false := beq_eq_false_iff_ne.mpr (by omega)
        have k2 : ((kd : Int) == 2) = false := beq_eq_false_iff_ne.mpr (by omega)
        have k3 : ((kd : Int) == 3) = false := beq_eq_false_iff_ne.mpr (by omega)
        have d1 : ¬ (kd : Int) = 1 := by omega
        have d2 : ¬ (kd : Int) = 2 := by omega
        have d3 : ¬ (kd : Int) = 3 := by omega
        go_enter Tryd.func32, Tryd.ntmps32
        go_wp2
        refine bodyPost_ret (v := .agg #[.int .u64 d, .int .u64 p, .int .u64 i, .int .u64 k]) (by simp [results, Tryd.results32, go_sem]) rfl ⟨rfl, ?_⟩
        exact below_alloc (below_alloc (Below.refl _ _) _) _
theorem nm_if (kd' d' n' p' i' k' kd d n p i k : Nat) (w : World) : (if (kd' : Int) = kd then if (d' : Int) = d then if (n' : Int) = n then if (p' : Int) = p then if (i' : Int) = i then if (k' : Int) = k then Result.ok (Next.value (Value.bool true)) w else Result.ok (Next.value (Value.bool false)) w else Result.ok (Next.value (Value.bool false)) w else Result.ok (Next.value (Value.bool false)) w else Result.ok (Next.value (Value.bool false)) w else Result.ok (Next.value (Value.bool false)) w else Result.ok (Next.value (Value.bool false)) w) = Result.ok (Next.value (Value.bool (decide ((⟨kd', d', n', p', i', k'⟩ : Nm) = ⟨kd, d, n, p, i, k⟩)))) w := by
  simp only [Nm.mk.injEq, Int.ofNat_inj]
  by_cases h1 : kd' = kd <;> by_cases h2 : d' = d <;> by_cases h3 : n' = n <;> by_cases h4 : p' = p <;> by_cases h5 : i' = i <;> by_cases h6 : k' = k <;> simp [h1, h2, h3, h4, h5, h6]

set_option maxHeartbeats 4000000 in
set_option maxRecDepth 100000 in
theorem may_calls (kd d n p i k : Nat) (w : World) : Calls Tryd.prog 17 #[.agg #[.int .u8 kd, .int .u64 d, .int .u64 n, .int .u64 p, .int .u64 i, .int .u64 k]] w fun e w' => e = .returned (.bool (mayB ⟨kd, d, n, p, i, k⟩)) ∧ Below w.heap.size w w' := by
  by_cases h1 : 1 ≤ kd
  · have c1 : decide ((1 : Int) ≤ kd) = true := decide_eq_true (by omega)
    have c1' : (1 : Int) ≤ kd := by omega
    by_cases h4 : kd ≤ 4
    · have c2 : decide ((kd : Int) ≤ 4) = true := decide_eq_true (by omega)
      have c2' : (kd : Int) ≤ 4 := by omega
      have em : mayB ⟨kd, d, n, p, i, k⟩ = decide (ofN kd (num0 ⟨kd, d, n, p, i, k⟩) (num1 ⟨kd, d, n, p, i, k⟩) (num2 ⟨kd, d, n, p, i, k⟩) (num3 ⟨kd, d, n, p, i, k⟩) = ⟨kd, d, n, p, i, k⟩) := by
        unfold mayB
        simp [h1, h4]
      rw [em]
      clear em
      generalize ho : ofN kd (num0 ⟨kd, d, n, p, i, k⟩) (num1 ⟨kd, d, n, p, i, k⟩) (num2 ⟨kd, d, n, p, i, k⟩) (num3 ⟨kd, d, n, p, i, k⟩) = o
      obtain ⟨kd', d', n', p', i', k'⟩ := o
      have HO := Aside0.mk ho
      clear ho
      go_enter Tryd.func17, Tryd.ntmps17
      go_upto_region 1 with fail
      generalize hw1 : w.alloc (.cells #[.int .u8 kd, .int .u64 d, .int .u64 n, .int .u64 p, .int .u64 i, .int .u64 k] 25) = w1
      have hc0 : w1.drew.cell? ⟨w.heap.size, 0, none⟩ = some (.int .u8 kd) := by subst hw1; go_simp
      have hc1 : w1.drew.cell? ⟨w.heap.size, 1, none⟩ = some (.int .u64 d) := by subst hw1; go_simp
      have hc2 : w1.drew.cell? ⟨w.heap.size, 2, none⟩ = some (.int .u64 n) := by subst hw1; go_simp
      have hc3 : w1.drew.cell? ⟨w.heap.size, 3, none⟩ = some (.int .u64 p) := by subst hw1; go_simp
      have hc4 : w1.drew.cell? ⟨w.heap.size, 4, none⟩ = some (.int .u64 i) := by subst hw1; go_simp
      have hc5 : w1.drew.cell? ⟨w.heap.size, 5, none⟩ = some (.int .u64 k) := by subst hw1; go_simp
      have HBW : Aside0 (Below w.heap.size w w1) := Aside0.mk (by subst hw1; exact below_alloc (Below.refl _ _) _)
      have HBD := Aside0.mk (below_drew (Below.refl w1.heap.size w1))
      clear hw1
      refine start_ (n := 18) (S := fun w' => w'.cell? ⟨w.heap.size, 0, none⟩ = some (.int .u8 kd) ∧ w'.cell? ⟨w.heap.size, 1, none⟩ = some (.int .u64 d) ∧ w'.cell? ⟨w.heap.size, 2, none⟩ = some (.int .u64 n) ∧ w'.cell? ⟨w.heap.size, 3, none⟩ = some (.int .u64 p) ∧ w'.cell? ⟨w.heap.size, 4, none⟩ = some (.int .u64 i) ∧ w'.cell? ⟨w.heap.size, 5, none⟩ = some (.int .u64 k)) (ds := []) #[false, false, false, false, false, false, false, false, false, false, false, false, false, false, false, false, false, false] (by kernel_rfl) rfl rfl ⟨hc0, hc1, hc2, hc3, hc4, hc5⟩ (fun hHeld => ?_)
      refine pure_ (i := 0) (N := some 3) (v := ?_) (a' := ?_) #[true, false, false, false, false, false, false, false, false, false, false, false, false, false, false, false, false, false] rfl rfl (by kernel_rfl) (fun _ _ _ h => h) (Or.inl ⟨by rfl, ?_⟩) ?_ ?_
      rotate_left
      · intro w'
        go_simp
        with_reducible rfl
      rotate_left
      · simp only [Act.put, List.setIfInBounds_toArray, List.set_cons_zero, List.set_cons_succ, i64_w, i32_w]
        rfl
      refine take_ (i := 1) (N := some 4) (v := ?_) (a' := ?_) #[true, true, false, false, false, false, false, false, false, false, false, false, false, false, false, false, false, false] rfl rfl (by kernel_rfl) (fun _ _ _ h => h) (Or.inl ⟨by rfl, ?_⟩) hHeld ?_ ?_
      rotate_left
      · rintro w' ⟨s0, s1, s2, s3, s4, s5⟩
        go_simp
        with_reducible rfl
      rotate_left
      · simp only [Act.put, List.setIfInBounds_toArray, List.set_cons_zero, List.set_cons_succ, i64_w, i32_w]
        rfl
      refine pure_ (i := 2) (N := some 5) (v := ?_) (a' := ?_) #[true, true, true, false, false, false, false, false, false, false, false, false, false, false, false, false, false, false] rfl rfl (by kernel_rfl) (fun _ _ _ h => h) (Or.inl ⟨by rfl, ?_⟩) ?_ ?_
      rotate_left
      · intro w'
        go_simp
        with_reducible rfl
      rotate_left
      · simp only [Act.put, List.setIfInBounds_toArray, List.set_cons_zero, List.set_cons_succ, i64_w, i32_w]
        rfl
      refine pure_ (i := 3) (N := some 6) (v := ?_) (a' := ?_) #[true, true, true, true, false, false, false, false, false, false, false, false, false, false, false, false, false, false] rfl rfl (by kernel_rfl) (fun _ _ _ h => h) (Or.inl ⟨by rfl, ?_⟩) ?_ ?_
      rotate_left
      · intro w'
        go_simp
        with_reducible rfl
      rotate_left
      · simp only [Act.put, List.setIfInBounds_toArray, List.set_cons_zero, List.set_cons_succ, i64_w, i32_w]
        rfl
      refine pure_ (i := 4) (N := some 7) (v := ?_) (a' := ?_) #[true, true, true, true, true, false, false, false, false, false, false, false, false, false, false, false, false, false] rfl rfl (by kernel_rfl) (fun _ _ _ h => h) (Or.inl ⟨by rfl, ?_⟩) ?_ ?_
      rotate_left
      · intro w'
        go_simp
        with_reducible rfl
      rotate_left
      · simp only [Act.put, List.setIfInBounds_toArray, List.set_cons_zero, List.set_cons_succ, i64_w, i32_w]
        rfl
      refine take_ (i := 5) (N := some 8) (v := ?_) (a' := ?_) #[true, true, true, true, true, true, false, false, false, false, false, false, false, false, false, false, false, false] rfl rfl (by kernel_rfl) (fun _ _ _ h => h) (Or.inl ⟨by rfl, ?_⟩) hHeld ?_ ?_
      rotate_left
      · rintro w' ⟨s0, s1, s2, s3, s4, s5⟩
        go_simp
        with_reducible rfl
      rotate_left
      · simp only [Act.put, List.setIfInBounds_toArray, List.set_cons_zero, List.set_cons_succ, i64_w, i32_w]
        rfl
      refine pure_ (i := 6) (N := some 9) (v := ?_) (a' := ?_) #[true, true, true, true, true, true, true, false, false, false, false, false, false, false, false, false, false, false] rfl rfl (by kernel_rfl) (fun _ _ _ h => h) (Or.inl ⟨by rfl, ?_⟩) ?_ ?_
      rotate_left
      · intro w'
        go_simp
        with_reducible rfl
      rotate_left
      · simp only [Act.put, List.setIfInBounds_toArray, List.set_cons_zero, List.set_cons_succ, i64_w, i32_w]
        rfl
      refine pure_ (i := 7) (N := some 10) (v := ?_) (a' := ?_) #[true, true, true, true, true, true, true, true, false, false, false, false, false, false, false, false, false, false] rfl rfl (by kernel_rfl) (fun _ _ _ h => h) (Or.inl ⟨by rfl, ?_⟩) ?_ ?_
      rotate_left
      · intro w'
        go_simp
        with_reducible rfl
      rotate_left
      · simp only [Act.put, List.setIfInBounds_toArray, List.set_cons_zero, List.set_cons_succ, i64_w, i32_w]
        rfl
      refine pure_ (i := 8) (N := some 11) (v := ?_) (a' := ?_) #[true, true, true, true, true, true, true, true, true, false, false, false, false, false, false, false, false, false] rfl rfl (by kernel_rfl) (fun _ _ _ h => h) (Or.inl ⟨by rfl, ?_⟩) ?_ ?_
      rotate_left
      · intro w'
        go_simp
        with_reducible rfl
      rotate_left
      · simp only [Act.put, List.setIfInBounds_toArray, List.set_cons_zero, List.set_cons_succ, i64_w, i32_w]
        rfl
      refine pure_ (i := 9) (N := some 12) (v := ?_) (a' := ?_) #[true, true, true, true, true, true, true, true, true, true, false, false, false, false, false, false, false, false] rfl rfl (by kernel_rfl) (fun _ _ _ h => h) (Or.inl ⟨by rfl, ?_⟩) ?_ ?_
      rotate_left
      · intro w'
        go_simp
        with_reducible rfl
      rotate_left
      · simp only [Act.put, List.setIfInBounds_toArray, List.set_cons_zero, List.set_cons_succ, i64_w, i32_w]
        rfl
      refine take_ (i := 10) (N := some 13) (v := ?_) (a' := ?_) #[true, true, true, true, true, true, true, true, true, true, true, false, false, false, false, false, false, false] rfl rfl (by kernel_rfl) (fun _ _ _ h => h) (Or.inl ⟨by rfl, ?_⟩) hHeld ?_ ?_
      rotate_left
      · rintro w' ⟨s0, s1, s2, s3, s4, s5⟩
        go_simp
        with_reducible rfl
      rotate_left
      · simp only [Act.put, List.setIfInBounds_toArray, List.set_cons_zero, List.set_cons_succ, i64_w, i32_w]
        rfl
      refine take_ (i := 11) (N := some 14) (v := ?_) (a' := ?_) #[true, true, true, true, true, true, true, true, true, true, true, true, false, false, false, false, false, false] rfl rfl (by kernel_rfl) (fun _ _ _ h => h) (Or.inl ⟨by rfl, ?_⟩) hHeld ?_ ?_
      rotate_left
      · rintro w' ⟨s0, s1, s2, s3, s4, s5⟩
        go_simp
        with_reducible rfl
      rotate_left
      · simp only [Act.put, List.setIfInBounds_toArray, List.set_cons_zero, List.set_cons_succ, i64_w, i32_w]
        rfl
      refine take_ (i := 14) (N := some 17) (v := ?_) (a' := ?_) #[true, true, true, true, true, true, true, true, true, true, true, true, false, false, true, false, false, false] rfl rfl (by kernel_rfl) (fun _ _ _ h => h) (Or.inl ⟨by rfl, ?_⟩) hHeld ?_ ?_
      rotate_left
      · rintro w' ⟨s0, s1, s2, s3, s4, s5⟩
        go_simp
        with_reducible rfl
      rotate_left
      · simp only [Act.put, List.setIfInBounds_toArray, List.set_cons_zero, List.set_cons_succ, i64_w, i32_w]
        rfl
      refine one_ (i := 12) (N := some 15) #[true, true, true, true, true, true, true, true, true, true, true, true, true, false, true, false, false, false] rfl rfl (by kernel_rfl) (by decide) (fun K hK => ?_)
      refine goes_ Tryd.func32 (by kernel_rfl) rfl #[.agg #[.int .u8 kd, .int .u64 d, .int .u64 n, .int .u64 p, .int .u64 i, .int .u64 k]] (by rfl) rfl rfl (by (try simp only [List.map_toArray, List.map_cons, List.map_nil]); first | done | rfl) ?_
      with_reducible refine (numbers_calls kd d n p i k _).mono ?_
      rintro e wq12 ⟨rfl, hbq⟩
      refine ⟨_, rfl, ?_⟩
      have HBq12 := Aside0.mk (below_step HBD.out hbq)
      clear hbq
      refine hK.out _ _ ⟨pw_cell_below HBq12.out hc0, pw_cell_below HBq12.out hc1, pw_cell_below HBq12.out hc2, pw_cell_below HBq12.out hc3, pw_cell_below HBq12.out hc4, pw_cell_below HBq12.out hc5⟩ (fun hHeld => ?_)
      clear hK K
      refine norm_ (a' := ?_) ?_ ?_
      rotate_left
      · show Act.put _ (some 15) _ = _
        simp only [Act.put, List.setIfInBounds_toArray, List.set_cons_zero, List.set_cons_succ, i64_w, i32_w]
        rfl
      refine one_ (i := 13) (N := some 16) #[true, true, true, true, true, true, true, true, true, true, true, true, true, true, true, false, false, false] rfl rfl (by kernel_rfl) (by decide) (fun K hK => ?_)
      refine goes_ Tryd.func27 (by kernel_rfl) rfl #[.int .u8 kd, .agg #[.int .u64 (num0 ⟨kd, d, n, p, i, k⟩), .int .u64 (num1 ⟨kd, d, n, p, i, k⟩), .int .u64 (num2 ⟨kd, d, n, p, i, k⟩), .int .u64 (num3 ⟨kd, d, n, p, i, k⟩)]] (by rfl) rfl rfl (by (try simp only [List.map_toArray, List.map_cons, List.map_nil]); first | done | rfl) ?_
      with_reducible refine (of_callsV kd _ _ _ _ kd' d' n' p' i' k' _ HO.out).mono ?_
      rintro e wq13 ⟨rfl, hbq⟩
      refine ⟨_, rfl, ?_⟩
      have HBq13 := Aside0.mk (below_step HBq12.out hbq)
      clear hbq
      refine hK.out _ _ ⟨pw_cell_below HBq13.out hc0, pw_cell_below HBq13.out hc1, pw_cell_below HBq13.out hc2, pw_cell_below HBq13.out hc3, pw_cell_below HBq13.out hc4, pw_cell_below HBq13.out hc5⟩ (fun hHeld => ?_)
      clear hK K
      refine norm_ (a' := ?_) ?_ ?_
      rotate_left
      · show Act.put _ (some 16) _ = _
        simp only [Act.put, List.setIfInBounds_toArray, List.set_cons_zero, List.set_cons_succ, i64_w, i32_w]
        rfl
      refine one_ (i := 15) (N := some 18) #[true, true, true, true, true, true, true, true, true, true, true, true, true, true, true, true, false, false] rfl rfl (by kernel_rfl) (by decide) (fun K hK => ?_)
      refine value_ (w1 := wq13) (v := .bool (decide ((⟨kd', d', n', p', i', k'⟩ : Nm) = ⟨kd, d, n, p, i, k⟩))) (by rfl) rfl ?_ ?_
      · refine Eq.trans ?_ (nm_if kd' d' n' p' i' k' kd d n p i k wq13)
        go_simp
      refine hK.out _ _ ⟨pw_cell_below HBq13.out hc0, pw_cell_below HBq13.out hc1, pw_cell_below HBq13.out hc2, pw_cell_below HBq13.out hc3, pw_cell_below HBq13.out hc4, pw_cell_below HBq13.out hc5⟩ (fun hHeld => ?_)
      clear hK K
      refine norm_ (a' := ?_) ?_ ?_
      rotate_left
      · show Act.put _ (some 18) _ = _
        simp only [Act.put, List.setIfInBounds_toArray, List.set_cons_zero, List.set_cons_succ, i64_w, i32_w]
        rfl
      refine pure_ (i := 16) (N := some 19) (v := ?_) (a' := ?_) #[true, true, true, true, true, true, true, true, true, true, true, true, true, true, true, true, true, false] rfl rfl (by kernel_rfl) (fun _ _ _ h => h) (Or.inl ⟨by rfl, ?_⟩) ?_ ?_
      rotate_left
      · intro w'
        go_simp
        with_reducible rfl
      rotate_left
      · simp only [Act.put, List.setIfInBounds_toArray, List.set_cons_zero, List.set_cons_succ, i64_w, i32_w]
        rfl
      refine pure_ (i := 17) (N := some 2) (v := ?_) (a' := ?_) #[true, true, true, true, true, true, true, true, true, true, true, true, true, true, true, true, true, true] rfl rfl (by kernel_rfl) (fun _ _ _ h => h) (Or.inl ⟨by rfl, ?_⟩) ?_ ?_
      rotate_left
      · intro w'
        go_simp
        with_reducible rfl
      rotate_left
      · simp only [Act.put, List.setIfInBounds_toArray, List.set_cons_zero, List.set_cons_succ, i64_w, i32_w]
        rfl
      refine done_ (by kernel_rfl) ?_
      go_wp2
      go_ret
      exact ⟨by simp [Nm.mk.injEq, go_sem], below_step HBW.out HBq13.out⟩
    · have c2 : decide ((kd : Int) ≤ 4) = false := decide_eq_false (by omega)
      have e : mayB ⟨kd, d, n, p, i, k⟩ = false := decide_eq_false (by simp only; omega)
      rw [e]
      clear e
      go_enter Tryd.func17, Tryd.ntmps17
      go_upto_region 1 with fail
      go_quiet (fail)
      go_wp2
      go_ret
      exact ⟨rfl, pw_below_drewN (below_alloc (Below.refl _ _) _) _⟩
  · have c1 : decide ((1 : Int) ≤ kd) = false := decide_eq_false (by omega)
    have e : mayB ⟨kd, d, n, p, i, k⟩ = false := decide_eq_false (by simp only; omega)
    rw [e]
    clear e
    go_enter Tryd.func17, Tryd.ntmps17
    go_upto_region 1 with fail
    go_quiet (fail)
    go_wp2
    go_ret
    exact ⟨rfl, pw_below_drewN (below_alloc (Below.refl _ _) _) _⟩

theorem may_callsV (kd d n p i k : Nat) (b : Bool) (w : World) (h : mayB ⟨kd, d, n, p, i, k⟩ = b) : Calls Tryd.prog 17 #[.agg #[.int .u8 kd, .int .u64 d, .int .u64 n, .int .u64 p, .int .u64 i, .int .u64 k]] w fun e w' => e = .returned (.bool b) ∧ Below w.heap.size w w' := by
  rw [← h]
  exact may_calls kd d n p i k w
theorem numbers_callsV (kd d n p i k n0 n1 n2 n3 : Nat) (w : World) (h0 : num0 ⟨kd, d, n, p, i, k⟩ = n0) (h1 : num1 ⟨kd, d, n, p, i, k⟩ = n1) (h2 : num2 ⟨kd, d, n, p, i, k⟩ = n2) (h3 : num3 ⟨kd, d, n, p, i, k⟩ = n3) : Calls Tryd.prog 32 #[.agg #[.int .u8 kd, .int .u64 d, .int .u64 n, .int .u64 p, .int .u64 i, .int .u64 k]] w fun e w' => e = .returned (.agg #[.int .u64 n0, .int .u64 n1, .int .u64 n2, .int .u64 n3]) ∧ Below w.heap.size w w' := by
  rw [← h0, ← h1, ← h2, ← h3]
  exact numbers_calls kd d n p i k w
end Go.Proofs.YtkpfpgggkbaefaaDoor
