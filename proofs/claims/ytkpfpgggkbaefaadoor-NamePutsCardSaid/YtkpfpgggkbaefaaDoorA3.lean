import Derived.Test.YtkpfpgggkbaefaaDoorA2
import Derived.Test.YtkpfpgggkbaefaaDoorD1
/-! name: Put. -/
set_option linter.unusedVariables false
set_option linter.unusedSimpArgs false
namespace Go.Proofs.YtkpfpgggkbaefaaDoor
open Go.RowKit Go.Proofs.YtkpfpgggkbaefaaDoorW.PrintWords Go.Proofs.YtkpfpgggkbaefaaDoorW.PrintLast Go.Proofs.YtkpfpgggkbaefaaDoorW.PrintMore Go.Lib Plain

theorem eInfoStr : (Tryd.prog.info? 9).map (fun i => (i.zero, i.size, i.bytes)) = some (some (.string ⟨#[]⟩), 1, 16) := by kernel_rfl
theorem cell_allocs {w : World} {a : Addr} {v : Value} (h : w.cell? a = some v) : ∀ o, (w.alloc o).cell? a = some v := fun o => pw_cell_below (below_alloc (Below.refl _ _) o) h
def headOf (kd : Nat) : UInt8 := if kd = 1 then 115 else if kd = 2 then 98 else if kd = 3 then 116 else 106
def cntOf (kd : Nat) : Nat := if kd = 1 ∨ kd = 2 then 2 else if kd = 3 then 3 else 4
def numL (a : Nm) : List Nat := [num0 a, num1 a, num2 a, num3 a].take (cntOf a.kd)
def putB (a : Nm) : List UInt8 := if mayB a then glue ([headOf a.kd] :: (numL a).map decDigits) else []
theorem join_glue : ∀ (l : List (List UInt8)), Lib.join l [45] = glue l
  | [] => rfl
  | [x] => Lib.join_one x [45]
  | x :: y :: r => by
    rw [Lib.join_cons]
    have ih := join_glue (y :: r)
    rw [Lib.join_cons] at ih
    show _ = x ++ 45 :: glue (y :: r)
    rw [← ih]
    simp [Lib.joinTail]
def strL (ws : List (List UInt8)) : List Value := ws.map fun x => .string ⟨x.toArray⟩

theorem idx_heads (j : Nat) (hj : j < 5) (W : World) : (Instr.index 48 (.agg #[.string ⟨#[]⟩, .string ⟨#[115]⟩, .string ⟨#[98]⟩, .string ⟨#[116]⟩, .string ⟨#[106]⟩]) (.int .u8 j)).run Tryd.prog W = .ok (#[Value.string ⟨#[]⟩, .string ⟨#[115]⟩, .string ⟨#[98]⟩, .string ⟨#[116]⟩, .string ⟨#[106]⟩].getD j .nilIface) W := by
  have h : j = 0 ∨ j = 1 ∨ j = 2 ∨ j = 3 ∨ j = 4 := by omega
  rcases h with rfl | rfl | rfl | rfl | rfl <;> (change _ = _; kernel_rfl)
theorem idx_counts (j : Nat) (hj : j < 5) (W : World) : (Instr.index 51 (.agg #[.int .i64 0, .int .i64 2, .int .i64 2, .int .i64 3, .int .i64 4]) (.int .u8 j)).run Tryd.prog W = .ok (#[Value.int .i64 0, .int .i64 2, .int .i64 2, .int .i64 3, .int .i64 4].getD j .nilIface) W := by
  have h : j = 0 ∨ j = 1 ∨ j = 2 ∨ j = 3 ∨ j = 4 := by omega
  rcases h with rfl | rfl | rfl | rfl | rfl <;> (change _ = _; kernel_rfl)
theorem idx_countsI (j : Nat) (hj : j < 5) (W : World) : (Instr.index 51 (.agg #[.int .i64 0, .int .i64 2, .int .i64 2, .int .i64 3, .int .i64 4]) (.int .i64 j)).run Tryd.prog W = .ok (#[Value.int .i64 0, .int .i64 2, .int .i64 2, .int .i64 3, .int .i64 4].getD j .nilIface) W := by
  have h : j = 0 ∨ j = 1 ∨ j = 2 ∨ j = 3 ∨ j = 4 := by omega
  rcases h with rfl | rfl | rfl | rfl | rfl <;> (change _ = _; kernel_rfl)

theorem glue_len : ∀ (ws : List (List UInt8)), (∀ x ∈ ws, x.length ≤ 20) → (glue ws).length ≤ 21 * ws.length
  | [], _ => by simp [glue]
  | [x], h => by have := h x (by simp); simp [glue]; omega
  | x :: y :: r, h => by
    have h1 := h x (by simp)
    have h2 := glue_len (y :: r) (fun z hz => h z (by simp [hz]))
    show (x ++ 45 :: glue (y :: r)).length ≤ _
    rw [List.length_append, List.length_cons]
    simp only [List.length_cons] at *
    omega
theorem joinV_calls (bk c m base : Nat) (ws : List (List UInt8)) (w : World) (hm : ws.length = m) (h5 : m ≤ 5) (hw : ∀ x ∈ ws, x.length ≤ 20) (h0 : 0 < m)
    (HO : w.ownsRow base 9 1 (.slice (some ⟨bk, 0, none⟩) m c) (strL ws).length (strL ws)) :
    Calls Tryd.prog 33 #[.slice (some ⟨bk, 0, none⟩) m c, .string ⟨#[45]⟩] w fun e w' => e = .returned (.string ⟨(glue ws).toArray⟩) ∧ Below w.heap.size w w' := by
  subst hm
  have hcells := fun (j : Nat) (x : Value) (hx : (strL ws)[j]? = some x) => HO.cells (g := bk) rfl j x hx
  rcases HO.2 with ⟨h, _⟩ | ⟨g', cap', cur, h, hb, hh, hle, hle2, _⟩
  · cases h
  · injection h with h1 h2 h3
    injection h1 with h1
    injection h1 with h1
    subst h1; subst h3
    have hg := glue_len ws hw
    have hmm : (ws.map fun x => (⟨x.toArray⟩ : ByteArray)).map (·.data.toList) = ws := by rw [List.map_map]; exact (List.map_congr_left (fun x _ => rfl)).trans (List.map_id ws)
    have h := Tryd.strings_Join bk 0 c (ws.map fun x => (⟨x.toArray⟩ : ByteArray)) ⟨#[45]⟩ w (fun j x hx => by
      rw [List.getElem?_map, Option.map_eq_some_iff] at hx
      obtain ⟨y, hy, rfl⟩ := hx
      have := hcells j (.string ⟨y.toArray⟩) (by simp [strL, hy])
      rw [Lib.add_plain] at this
      exact this) (Array.getElem?_eq_some_iff.1 hh).1 (by rw [List.length_map]; omega) (by rw [List.length_map]; simpa [strL] using hle) (by rw [hmm]; show (Lib.join ws [45]).length ≤ _; rw [join_glue]; omega)
    rw [hmm] at h
    rw [List.length_map] at h
    have e : Lib.join ws (⟨#[45]⟩ : ByteArray).data.toList = glue ws := join_glue ws
    rw [e] at h
    exact h
theorem strL_append (a b : List (List UInt8)) : strL (a ++ b) = strL a ++ strL b := by simp [strL]
theorem arr4 {w : World} {g : Nat} {n0 n1 n2 n3 : Nat} {t : TypeId} (h : w.heap[g]? = some (.cells #[.int .u64 n0, .int .u64 n1, .int .u64 n2, .int .u64 n3] t (0, 0))) (j : Nat) (hj : j < 4) : w.cell? ⟨g, j, none⟩ = some (.int .u64 ([n0, n1, n2, n3].getD j 0 : Nat)) := by
  have h4 : j = 0 ∨ j = 1 ∨ j = 2 ∨ j = 3 := by omega
  rcases h4 with rfl | rfl | rfl | rfl <;> simp [World.cell?, h]
theorem take_step {m l : List Nat} {c j : Nat} (hl : l = m.take c) (hm : m.length = 4) (hj : j < c) (hc : c ≤ 4) : l.take (j + 1) = l.take j ++ [m.getD j 0] ∧ m.getD j 0 ∈ l := by
  subst hl
  have hj4 : j < m.length := by omega
  have hjl : j < (m.take c).length := by rw [List.length_take]; omega
  have e : m.getD j 0 = (m.take c)[j] := by simp [List.getD_eq_getElem?_getD, List.getElem?_eq_getElem hj4]
  rw [e]
  exact ⟨List.take_succ_eq_append_getElem hjl, List.getElem_mem hjl⟩

set_option maxHeartbeats 4000000 in
set_option maxRecDepth 100000 in
theorem put_1 (kd d n p i k n0 n1 n2 n3 : Nat) (hkd : kd = 1) (hm : mayB ⟨kd, d, n, p, i, k⟩ = true) (h0 : num0 ⟨kd, d, n, p, i, k⟩ = n0) (h1 : num1 ⟨kd, d, n, p, i, k⟩ = n1) (h2 : num2 ⟨kd, d, n, p, i, k⟩ = n2) (h3 : num3 ⟨kd, d, n, p, i, k⟩ = n3)
    (l : List Nat) (hl : l = [n0, n1, n2, n3].take (cntOf kd)) (hfit : ∀ x ∈ l, x < 18446744073709551616) (w : World) (hG : Glob w) :
    Calls Tryd.prog 16 #[.agg #[.int .u8 kd, .int .u64 d, .int .u64 n, .int .u64 p, .int .u64 i, .int .u64 k]] w fun e w' => e = .returned (.string ⟨(glue ([headOf kd] :: l.map decDigits)).toArray⟩) ∧ Below w.heap.size w w' := by
  have HM := Aside0.mk hm
  have HN0 := Aside0.mk h0
  have HN1 := Aside0.mk h1
  have HN2 := Aside0.mk h2
  have HN3 := Aside0.mk h3
  have HL := Aside0.mk hl
  have HF := Aside0.mk hfit
  have HG := Aside0.mk hG
  clear hm h0 h1 h2 h3 hl hfit hG
  subst hkd
  have hix : ∀ W, (Instr.index 48 (.agg #[.string ⟨#[]⟩, .string ⟨#[115]⟩, .string ⟨#[98]⟩, .string ⟨#[116]⟩, .string ⟨#[106]⟩]) (.int .u8 1)).run Tryd.prog W = .ok (.string ⟨#[115]⟩) W := idx_heads 1 (by decide)
  have hcx : ∀ W, (Instr.index 51 (.agg #[.int .i64 0, .int .i64 2, .int .i64 2, .int .i64 3, .int .i64 4]) (.int .u8 1)).run Tryd.prog W = .ok (.int .i64 2) W := idx_counts 1 (by decide)
  go_enter Tryd.func16, Tryd.ntmps16
  go_upto_region 3 with (go_at_call 17; refine (may_callsV _ d n p i k true _ HM.out).mono ?_; rintro e w1 ⟨rfl, hb⟩; have HB1 := Aside0.mk (below_step (below_alloc (Below.refl _ _) _) hb); have hc0 := pw_cell_below hb (a := ⟨w.heap.size, 0, none⟩) (by go_simp; rfl); have hc1 := pw_cell_below hb (a := ⟨w.heap.size, 1, none⟩) (by go_simp; rfl); have hc2 := pw_cell_below hb (a := ⟨w.heap.size, 2, none⟩) (by go_simp; rfl); have hc3 := pw_cell_below hb (a := ⟨w.heap.size, 3, none⟩) (by go_simp; rfl); have hc4 := pw_cell_below hb (a := ⟨w.heap.size, 4, none⟩) (by go_simp; rfl); have hc5 := pw_cell_below hb (a := ⟨w.heap.size, 5, none⟩) (by go_simp; rfl); clear hb)
  have hd0 : w1.drew.cell? ⟨w.heap.size, 0, none⟩ = _ := hc0
  have hd1 : w1.drew.cell? ⟨w.heap.size, 1, none⟩ = _ := hc1
  have hd2 : w1.drew.cell? ⟨w.heap.size, 2, none⟩ = _ := hc2
  have hd3 : w1.drew.cell? ⟨w.heap.size, 3, none⟩ = _ := hc3
  have hd4 : w1.drew.cell? ⟨w.heap.size, 4, none⟩ = _ := hc4
  have hd5 : w1.drew.cell? ⟨w.heap.size, 5, none⟩ = _ := hc5
  have HBD := Aside0.mk (below_drew (Below.refl w1.heap.size w1))
  refine start_ (n := 6) (S := fun w' => w'.cell? ⟨w.heap.size, 0, none⟩ = some (.int .u8 1) ∧ w'.cell? ⟨w.heap.size, 1, none⟩ = some (.int .u64 d) ∧ w'.cell? ⟨w.heap.size, 2, none⟩ = some (.int .u64 n) ∧ w'.cell? ⟨w.heap.size, 3, none⟩ = some (.int .u64 p) ∧ w'.cell? ⟨w.heap.size, 4, none⟩ = some (.int .u64 i) ∧ w'.cell? ⟨w.heap.size, 5, none⟩ = some (.int .u64 k)) (ds := []) #[false, false, false, false, false, false] (by kernel_rfl) rfl rfl ⟨hd0, hd1, hd2, hd3, hd4, hd5⟩ (fun hHeld => ?_)
  refine pure_ (i := 1) (N := some 11) (v := ?_) (a' := ?_) #[false, true, false, false, false, false] rfl rfl (by kernel_rfl) (fun _ _ _ h => h) (Or.inl ⟨by rfl, ?_⟩) ?_ ?_
  rotate_left
  · intro w'
    go_simp
    with_reducible rfl
  rotate_left
  · simp only [Act.put, List.setIfInBounds_toArray, List.set_cons_zero, List.set_cons_succ, i64_w, i32_w]
    rfl
  refine take_ (i := 2) (N := some 12) (v := ?_) (a' := ?_) #[false, true, true, false, false, false] rfl rfl (by kernel_rfl) (fun _ _ _ h => h) (Or.inl ⟨by rfl, ?_⟩) hHeld ?_ ?_
  rotate_left
  · rintro w' ⟨s0, s1, s2, s3, s4, s5⟩
    go_simp
    with_reducible rfl
  rotate_left
  · simp only [Act.put, List.setIfInBounds_toArray, List.set_cons_zero, List.set_cons_succ, i64_w, i32_w]
    rfl
  refine one_ (i := 0) (N := some 10) #[true, true, true, false, false, false] rfl rfl (by kernel_rfl) (by decide) (fun K hK => ?_)
  refine goes_ Tryd.func22 (by kernel_rfl) rfl #[] (by rfl) rfl rfl (by (try simp only [List.map_toArray, List.map_cons, List.map_nil]); first | done | rfl) ?_
  with_reducible refine (heads_calls _).mono ?_
  rintro e wq0 ⟨rfl, hbq⟩
  refine ⟨_, rfl, ?_⟩
  have HBq0 := Aside0.mk (below_step HBD.out hbq)
  clear hbq
  refine hK.out _ _ ⟨pw_cell_below HBq0.out hd0, pw_cell_below HBq0.out hd1, pw_cell_below HBq0.out hd2, pw_cell_below HBq0.out hd3, pw_cell_below HBq0.out hd4, pw_cell_below HBq0.out hd5⟩ (fun hHeld => ?_)
  clear hK K
  refine norm_ (a' := ?_) ?_ ?_
  rotate_left
  · show Act.put _ (some 10) _ = _
    simp only [Act.put, List.setIfInBounds_toArray, List.set_cons_zero, List.set_cons_succ, i64_w, i32_w]
    rfl
  refine take_ (i := 3) (N := some 13) (v := ?_) (a' := ?_) #[true, true, true, true, false, false] rfl rfl (by kernel_rfl) (fun _ _ _ h => h) (Or.inl ⟨by rfl, ?_⟩) hHeld ?_ ?_
  rotate_left
  · rintro w' ⟨s0, s1, s2, s3, s4, s5⟩
    go_simp
    with_reducible rfl
  rotate_left
  · simp only [Act.put, List.setIfInBounds_toArray, List.set_cons_zero, List.set_cons_succ, i64_w, i32_w]
    rfl
  refine one_ (i := 4) (N := some 14) #[true, true, true, true, true, false] rfl rfl (by kernel_rfl) (by decide) (fun K hK => ?_)
  refine value_ (w1 := ?_) (v := ?_) (by rfl) rfl ?_ ?_
  rotate_left 2
  · go_simp
    constructor
    · rfl
    · rfl
  refine hK.out _ _ ⟨cell_allocs (pw_cell_below HBq0.out hd0) _, cell_allocs (pw_cell_below HBq0.out hd1) _, cell_allocs (pw_cell_below HBq0.out hd2) _, cell_allocs (pw_cell_below HBq0.out hd3) _, cell_allocs (pw_cell_below HBq0.out hd4) _, cell_allocs (pw_cell_below HBq0.out hd5) _⟩ (fun hHeld => ?_)
  clear hK K
  refine norm_ (a' := ?_) ?_ ?_
  rotate_left
  · show Act.put _ (some 14) _ = _
    simp only [Act.put, List.setIfInBounds_toArray, List.set_cons_zero, List.set_cons_succ, i64_w, i32_w]
    rfl
  refine pure_ (i := 5) (N := some 3) (v := ?_) (a' := ?_) #[true, true, true, true, true, true] rfl rfl (by kernel_rfl) (fun _ _ _ h => h) (Or.inl ⟨by rfl, ?_⟩) ?_ ?_
  rotate_left
  · intro w'
    go_simp
    with_reducible rfl
  rotate_left
  · simp only [Act.put, List.setIfInBounds_toArray, List.set_cons_zero, List.set_cons_succ, i64_w, i32_w]
    rfl
  refine done_ (by kernel_rfl) ?_
  have HO2 := Aside0.mk (World.ownsRow_lit (base := w.heap.size) (e := 9) (size := 1) wq0 #[.string ⟨#[115]⟩] 1 (Nat.le_trans HB1.out.size HBq0.out.size) (by decide) rfl)
  have HB2 := Aside0.mk (below_step HB1.out (below_alloc HBq0.out (.cells #[.string ⟨#[115]⟩] 9)))
  clear hc0 hc1 hc2 hc3 hc4 hc5 hd0 hd1 hd2 hd3 hd4 hd5 HBD
  obtain ⟨hc0, hc1, hc2, hc3, hc4, hc5⟩ := hHeld
  generalize Value.slice (some ⟨wq0.heap.size, 0, none⟩) 1 1 = v0 at HO2 ⊢
  generalize wq0.alloc (.cells #[.string ⟨#[115]⟩] 9) = w2 at HO2 HB2 hc0 hc1 hc2 hc3 hc4 hc5 ⊢
  go_upto_region 5 with (go_at_call 32; refine (numbers_callsV _ d n p i k n0 n1 n2 n3 _ HN0.out HN1.out HN2.out HN3.out).mono ?_; rintro e w3 ⟨rfl, hb⟩; have HB3 := Aside0.mk (below_step HB2.out hb); have HO3 := Aside0.mk (pw_own_below HO2.out hb); replace hc0 := pw_cell_below hb hc0; clear hb hc1 hc2 hc3 hc4 hc5 HO2)
  have HB4 := Aside0.mk (below_alloc HB3.out (.cells #[.int .u64 n0, .int .u64 n1, .int .u64 n2, .int .u64 n3] 53))
  have HO4 := Aside0.mk (World.ownsRow.alloc HO3.out (.cells #[.int .u64 n0, .int .u64 n1, .int .u64 n2, .int .u64 n3] 53))
  have HA4 := Aside0.mk (heap_alloc_new w3 (.cells #[.int .u64 n0, .int .u64 n1, .int .u64 n2, .int .u64 n3] 53))
  replace hc0 := cell_allocs hc0 (.cells #[.int .u64 n0, .int .u64 n1, .int .u64 n2, .int .u64 n3] 53)
  generalize w3.alloc (.cells #[.int .u64 n0, .int .u64 n1, .int .u64 n2, .int .u64 n3] 53) = w4 at HB4 HO4 HA4 hc0 ⊢
  generalize w3.heap.size = g4 at HA4 ⊢
  clear HB3 HO3 HB2
  have hd0 : w4.drew.cell? ⟨w.heap.size, 0, none⟩ = _ := hc0
  have HBD := Aside0.mk (below_drew (Below.refl w4.heap.size w4))
  have hal : Tryd.prog.arrayLen 53 = 4 := by kernel_rfl
  have hsl : ∀ W, (Instr.sliceAt 53 (.pointer (some ⟨g4, 0, none⟩)) none (some (.int .i64 2)) none).run Tryd.prog W = .ok (.slice (some ⟨g4, 0, none⟩) 2 4) W := fun W => by
    rw [run_sliceAt_array_h W 53 ⟨g4, 0, none⟩ (by rw [hal]; kernel_rfl) .i64 2 (by omega) (by rw [hal]; omega)]
    go_simp
  clear hal
  refine start_ (n := 7) (S := fun w' => w'.cell? ⟨w.heap.size, 0, none⟩ = some (.int .u8 1)) (ds := []) #[false, false, false, false, false, false, false] (by kernel_rfl) rfl rfl (hd0) (fun hHeld => ?_)
  refine pure_ (i := 1) (N := some 18) (v := ?_) (a' := ?_) #[false, true, false, false, false, false, false] rfl rfl (by kernel_rfl) (fun _ _ _ h => h) (Or.inl ⟨by rfl, ?_⟩) ?_ ?_
  rotate_left
  · intro w'
    go_simp
    with_reducible rfl
  rotate_left
  · simp only [Act.put, List.setIfInBounds_toArray, List.set_cons_zero, List.set_cons_succ, i64_w, i32_w]
    rfl
  refine pure_ (i := 6) (N := some 23) (v := ?_) (a' := ?_) #[false, true, false, false, false, false, true] rfl rfl (by kernel_rfl) (fun _ _ _ h => h) (Or.inl ⟨by rfl, ?_⟩) ?_ ?_
  rotate_left
  · intro w'
    go_simp
    with_reducible rfl
  rotate_left
  · simp only [Act.put, List.setIfInBounds_toArray, List.set_cons_zero, List.set_cons_succ, i64_w, i32_w]
    rfl
  refine take_ (i := 2) (N := some 19) (v := ?_) (a' := ?_) #[false, true, true, false, false, false, true] rfl rfl (by kernel_rfl) (fun _ _ _ h => h) (Or.inl ⟨by rfl, ?_⟩) hHeld ?_ ?_
  rotate_left
  · intro w' s0
    go_simp
    with_reducible rfl
  rotate_left
  · simp only [Act.put, List.setIfInBounds_toArray, List.set_cons_zero, List.set_cons_succ, i64_w, i32_w]
    rfl
  refine one_ (i := 0) (N := some 17) #[true, true, true, false, false, false, true] rfl rfl (by kernel_rfl) (by decide) (fun K hK => ?_)
  refine goes_ Tryd.func24 (by kernel_rfl) rfl #[] (by rfl) rfl rfl (by (try simp only [List.map_toArray, List.map_cons, List.map_nil]); first | done | rfl) ?_
  with_reducible refine (counts_calls _).mono ?_
  rintro e wq0 ⟨rfl, hbq⟩
  refine ⟨_, rfl, ?_⟩
  have HBq0 := Aside0.mk (below_step HBD.out hbq)
  clear hbq
  refine hK.out _ _ (pw_cell_below HBq0.out hd0) (fun hHeld => ?_)
  clear hK K
  refine norm_ (a' := ?_) ?_ ?_
  rotate_left
  · show Act.put _ (some 17) _ = _
    simp only [Act.put, List.setIfInBounds_toArray, List.set_cons_zero, List.set_cons_succ, i64_w, i32_w]
    rfl
  refine take_ (i := 3) (N := some 20) (v := ?_) (a' := ?_) #[true, true, true, true, false, false, true] rfl rfl (by kernel_rfl) (fun _ _ _ h => h) (Or.inl ⟨by rfl, ?_⟩) hHeld ?_ ?_
  rotate_left
  · intro w' s0
    go_simp
    with_reducible rfl
  rotate_left
  · simp only [Act.put, List.setIfInBounds_toArray, List.set_cons_zero, List.set_cons_succ, i64_w, i32_w]
    rfl
  refine pure_ (i := 4) (N := some 21) (v := ?_) (a' := ?_) #[true, true, true, true, true, false, true] rfl rfl (by kernel_rfl) (fun _ _ _ h => h) (Or.inl ⟨by rfl, ?_⟩) ?_ ?_
  rotate_left
  · intro w'
    go_simp
    with_reducible rfl
  rotate_left
  · simp only [Act.put, List.setIfInBounds_toArray, List.set_cons_zero, List.set_cons_succ, i64_w, i32_w]
    rfl
  refine pure_ (i := 5) (N := some 22) (v := ?_) (a' := ?_) #[true, true, true, true, true, true, true] rfl rfl (by kernel_rfl) (fun _ _ _ h => h) (Or.inl ⟨by rfl, ?_⟩) ?_ ?_
  rotate_left
  · intro w'
    go_simp
    with_reducible rfl
  rotate_left
  · simp only [Act.put, List.setIfInBounds_toArray, List.set_cons_zero, List.set_cons_succ, i64_w, i32_w]
    rfl
  refine done_ (by kernel_rfl) ?_
  have HB5 := Aside0.mk (below_step HB4.out HBq0.out)
  have HO5 := Aside0.mk (pw_own_below HO4.out HBq0.out)
  have HA5 := Aside0.mk ((HBq0.out.block g4 (Array.getElem?_eq_some_iff.1 HA4.out).1).trans HA4.out)
  clear hHeld HBq0 HB4 HO4 HA4 HBD hc0 hd0
  have hc0 : True := trivial
  clear hc0
  generalize wq0 = w5 at HB5 HO5 HA5 ⊢
  go_wp2
  go_loopw [3, 23] (fun v3 v23 wr => ∃ (j : Nat) (ws : List (List UInt8)), j ≤ 2 ∧ v23 = .int .i64 j ∧ Aside0 (ws = [115] :: (l.take j).map decDigits) ∧ Aside0 (wr.ownsRow w.heap.size 9 1 v3 (strL ws).length (strL ws)) ∧ Aside0 (Below w.heap.size w wr) ∧ Aside0 (wr.heap[g4]? = some (.cells #[.int .u64 n0, .int .u64 n1, .int .u64 n2, .int .u64 n3] 53 (0, 0)))) (fun _ v23 _ => 2 - (RowKit.intOf v23).toNat)
  case atStart => exact ⟨0, _, by omega, rfl, ⟨rfl⟩, HO5, HB5, HA5⟩
  case round =>
    obtain ⟨j, ws, hj, rfl, HW6, HO6, HB6, HA6⟩ := hrel
    by_cases hlt : j < 2
    · have hltI : (j : Int) < 2 := by omega
      have HTS := Aside0.mk (take_step HL.out rfl hlt (by decide))
      have hcell := arr4 HA6.out j (by omega)
      generalize [n0, n1, n2, n3].getD j 0 = x at HTS hcell
      have HX64 := Aside0.mk (HF.out x HTS.out.2)
      go_upto_region 8 with fail
      clear hcell
      go_wp2_with (first
        | (go_at_call 26; (with_reducible show Calls _ _ #[_, _] _ _); refine (fmt_calls x HX64.out _ (Glob.below HG.out HB6.out)).mono ?_; rintro e w7 ⟨rfl, hb⟩; have HB7 := Aside0.mk (below_step HB6.out hb); have HO7 := Aside0.mk (pw_own_below HO6.out hb); have HA7 := Aside0.mk ((hb.block g4 (Array.getElem?_eq_some_iff.1 HA6.out).1).trans HA6.out); clear hb HO6 HB6 HA6)
        | ((with_reducible refine gate_builtin (b := .append) (xs := #[.tmp 27, .tmp 30]) rfl ?_); go_must (refine print_append (w0 := w) w.heap.size rfl (.tmp 27) (.tmp 30) 37 9 (.string ⟨#[]⟩) 16 rfl Tryd.underlying37 eInfoStr rfl (by decide) u3 (strL ws) (.string ⟨(decDigits x).toArray⟩) rfl rfl rfl HO7.out HB7.out HB7.out.size (by have := HW6.out; subst this; simp [strL]; omega) ?_; intro v1 w8 hN hB hg hat; have HN8 := Aside0.mk hN; have HB8 := Aside0.mk hB; have HA8 := Aside0.mk ((hg.block g4 (Array.getElem?_eq_some_iff.1 HA7.out).1 (own_ne HO7.out HA7.out (by decide))).trans HA7.out); clear hN hB hg hat HO7 HB7 HA7)))
      exact ⟨⟨j + 1, ws ++ [decDigits x], by omega, by go_num, ⟨by rw [HW6.out, HTS.out.1, List.map_append]; rfl⟩, ⟨by rw [strL_append]; exact HN8.out⟩, HB8, HA8⟩, by simp [RowKit.intOf]; omega⟩
    · obtain rfl : j = 2 := by omega
      have hlen : (strL ws).length = 3 := by rw [HW6.out, HL.out]; rfl
      have hw20 := Aside0.mk (show ∀ x ∈ ws, x.length ≤ 20 by
        intro x hx
        rw [HW6.out] at hx
        rcases List.mem_cons.mp hx with rfl | hx
        · simp
        · obtain ⟨y, hy, rfl⟩ := List.mem_map.mp hx
          exact dec_len (HF.out y (List.mem_of_mem_take hy)))
      have hfin := Aside0.mk (show ws = [headOf 1] :: l.map decDigits by rw [HW6.out, List.take_of_length_le (by rw [HL.out]; exact Nat.le_refl 2)]; rfl)
      obtain ⟨g, cap, rfl⟩ : ∃ g cap, u3 = .slice (some ⟨g, 0, none⟩) 3 cap := by
        rcases HO6.out.2 with ⟨h, h2⟩ | ⟨g, cap, cur, h, _⟩
        · rw [hlen] at h2; cases h2
        · rw [hlen] at h; exact ⟨g, cap, h⟩
      have HJ := Aside0.mk (joinV_calls g cap 3 w.heap.size ws _ (by simpa [strL] using hlen) (by decide) hw20.out (by decide) HO6.out)
      clear hlen HO6
      go_wp2_with (go_at_call 33; refine HJ.out.mono ?_; rintro e w7 ⟨rfl, hb⟩; have HB7 := Aside0.mk (below_step HB6.out hb); clear hb)
      go_ret
      exact ⟨by rw [← hfin.out]; rfl, HB7.out⟩
set_option maxHeartbeats 4000000 in
set_option maxRecDepth 100000 in
theorem put_2 (kd d n p i k n0 n1 n2 n3 : Nat) (hkd : kd = 2) (hm : mayB ⟨kd, d, n, p, i, k⟩ = true) (h0 : num0 ⟨kd, d, n, p, i, k⟩ = n0) (h1 : num1 ⟨kd, d, n, p, i, k⟩ = n1) (h2 : num2 ⟨kd, d, n, p, i, k⟩ = n2) (h3 : num3 ⟨kd, d, n, p, i, k⟩ = n3)
    (l : List Nat) (hl : l = [n0, n1, n2, n3].take (cntOf kd)) (hfit : ∀ x ∈ l, x < 18446744073709551616) (w : World) (hG : Glob w) :
    Calls Tryd.prog 16 #[.agg #[.int .u8 kd, .int .u64 d, .int .u64 n, .int .u64 p, .int .u64 i, .int .u64 k]] w fun e w' => e = .returned (.string ⟨(glue ([headOf kd] :: l.map decDigits)).toArray⟩) ∧ Below w.heap.size w w' := by
  have HM := Aside0.mk hm
  have HN0 := Aside0.mk h0
  have HN1 := Aside0.mk h1
  have HN2 := Aside0.mk h2
  have HN3 := Aside0.mk h3
  have HL := Aside0.mk hl
  have HF := Aside0.mk hfit
  have HG := Aside0.mk hG
  clear hm h0 h1 h2 h3 hl hfit hG
  subst hkd
  have hix : ∀ W, (Instr.index 48 (.agg #[.string ⟨#[]⟩, .string ⟨#[115]⟩, .string ⟨#[98]⟩, .string ⟨#[116]⟩, .string ⟨#[106]⟩]) (.int .u8 2)).run Tryd.prog W = .ok (.string ⟨#[98]⟩) W := idx_heads 2 (by decide)
  have hcx : ∀ W, (Instr.index 51 (.agg #[.int .i64 0, .int .i64 2, .int .i64 2, .int .i64 3, .int .i64 4]) (.int .u8 2)).run Tryd.prog W = .ok (.int .i64 2) W := idx_counts 2 (by decide)
  go_enter Tryd.func16, Tryd.ntmps16
  go_upto_region 3 with (go_at_call 17; refine (may_callsV _ d n p i k true _ HM.out).mono ?_; rintro e w1 ⟨rfl, hb⟩; have HB1 := Aside0.mk (below_step (below_alloc (Below.refl _ _) _) hb); have hc0 := pw_cell_below hb (a := ⟨w.heap.size, 0, none⟩) (by go_simp; rfl); have hc1 := pw_cell_below hb (a := ⟨w.heap.size, 1, none⟩) (by go_simp; rfl); have hc2 := pw_cell_below hb (a := ⟨w.heap.size, 2, none⟩) (by go_simp; rfl); have hc3 := pw_cell_below hb (a := ⟨w.heap.size, 3, none⟩) (by go_simp; rfl); have hc4 := pw_cell_below hb (a := ⟨w.heap.size, 4, none⟩) (by go_simp; rfl); have hc5 := pw_cell_below hb (a := ⟨w.heap.size, 5, none⟩) (by go_simp; rfl); clear hb)
  have hd0 : w1.drew.cell? ⟨w.heap.size, 0, none⟩ = _ := hc0
  have hd1 : w1.drew.cell? ⟨w.heap.size, 1, none⟩ = _ := hc1
  have hd2 : w1.drew.cell? ⟨w.heap.size, 2, none⟩ = _ := hc2
  have hd3 : w1.drew.cell? ⟨w.heap.size, 3, none⟩ = _ := hc3
  have hd4 : w1.drew.cell? ⟨w.heap.size, 4, none⟩ = _ := hc4
  have hd5 : w1.drew.cell? ⟨w.heap.size, 5, none⟩ = _ := hc5
  have HBD := Aside0.mk (below_drew (Below.refl w1.heap.size w1))
  refine start_ (n := 6) (S := fun w' => w'.cell? ⟨w.heap.size, 0, none⟩ = some (.int .u8 2) ∧ w'.cell? ⟨w.heap.size, 1, none⟩ = some (.int .u64 d) ∧ w'.cell? ⟨w.heap.size, 2, none⟩ = some (.int .u64 n) ∧ w'.cell? ⟨w.heap.size, 3, none⟩ = some (.int .u64 p) ∧ w'.cell? ⟨w.heap.size, 4, none⟩ = some (.int .u64 i) ∧ w'.cell? ⟨w.heap.size, 5, none⟩ = some (.int .u64 k)) (ds := []) #[false, false, false, false, false, false] (by kernel_rfl) rfl rfl ⟨hd0, hd1, hd2, hd3, hd4, hd5⟩ (fun hHeld => ?_)
  refine pure_ (i := 1) (N := some 11) (v := ?_) (a' := ?_) #[false, true, false, false, false, false] rfl rfl (by kernel_rfl) (fun _ _ _ h => h) (Or.inl ⟨by rfl, ?_⟩) ?_ ?_
  rotate_left
  · intro w'
    go_simp
    with_reducible rfl
  rotate_left
  · simp only [Act.put, List.setIfInBounds_toArray, List.set_cons_zero, List.set_cons_succ, i64_w, i32_w]
    rfl
  refine take_ (i := 2) (N := some 12) (v := ?_) (a' := ?_) #[false, true, true, false, false, false] rfl rfl (by kernel_rfl) (fun _ _ _ h => h) (Or.inl ⟨by rfl, ?_⟩) hHeld ?_ ?_
  rotate_left
  · rintro w' ⟨s0, s1, s2, s3, s4, s5⟩
    go_simp
    with_reducible rfl
  rotate_left
  · simp only [Act.put, List.setIfInBounds_toArray, List.set_cons_zero, List.set_cons_succ, i64_w, i32_w]
    rfl
  refine one_ (i := 0) (N := some 10) #[true, true, true, false, false, false] rfl rfl (by kernel_rfl) (by decide) (fun K hK => ?_)
  refine goes_ Tryd.func22 (by kernel_rfl) rfl #[] (by rfl) rfl rfl (by (try simp only [List.map_toArray, List.map_cons, List.map_nil]); first | done | rfl) ?_
  with_reducible refine (heads_calls _).mono ?_
  rintro e wq0 ⟨rfl, hbq⟩
  refine ⟨_, rfl, ?_⟩
  have HBq0 := Aside0.mk (below_step HBD.out hbq)
  clear hbq
  refine hK.out _ _ ⟨pw_cell_below HBq0.out hd0, pw_cell_below HBq0.out hd1, pw_cell_below HBq0.out hd2, pw_cell_below HBq0.out hd3, pw_cell_below HBq0.out hd4, pw_cell_below HBq0.out hd5⟩ (fun hHeld => ?_)
  clear hK K
  refine norm_ (a' := ?_) ?_ ?_
  rotate_left
  · show Act.put _ (some 10) _ = _
    simp only [Act.put, List.setIfInBounds_toArray, List.set_cons_zero, List.set_cons_succ, i64_w, i32_w]
    rfl
  refine take_ (i := 3) (N := some 13) (v := ?_) (a' := ?_) #[true, true, true, true, false, false] rfl rfl (by kernel_rfl) (fun _ _ _ h => h) (Or.inl ⟨by rfl, ?_⟩) hHeld ?_ ?_
  rotate_left
  · rintro w' ⟨s0, s1, s2, s3, s4, s5⟩
    go_simp
    with_reducible rfl
  rotate_left
  · simp only [Act.put, List.setIfInBounds_toArray, List.set_cons_zero, List.set_cons_succ, i64_w, i32_w]
    rfl
  refine one_ (i := 4) (N := some 14) #[true, true, true, true, true, false] rfl rfl (by kernel_rfl) (by decide) (fun K hK => ?_)
  refine value_ (w1 := ?_) (v := ?_) (by rfl) rfl ?_ ?_
  rotate_left 2
  · go_simp
    constructor
    · rfl
    · rfl
  refine hK.out _ _ ⟨cell_allocs (pw_cell_below HBq0.out hd0) _, cell_allocs (pw_cell_below HBq0.out hd1) _, cell_allocs (pw_cell_below HBq0.out hd2) _, cell_allocs (pw_cell_below HBq0.out hd3) _, cell_allocs (pw_cell_below HBq0.out hd4) _, cell_allocs (pw_cell_below HBq0.out hd5) _⟩ (fun hHeld => ?_)
  clear hK K
  refine norm_ (a' := ?_) ?_ ?_
  rotate_left
  · show Act.put _ (some 14) _ = _
    simp only [Act.put, List.setIfInBounds_toArray, List.set_cons_zero, List.set_cons_succ, i64_w, i32_w]
    rfl
  refine pure_ (i := 5) (N := some 3) (v := ?_) (a' := ?_) #[true, true, true, true, true, true] rfl rfl (by kernel_rfl) (fun _ _ _ h => h) (Or.inl ⟨by rfl, ?_⟩) ?_ ?_
  rotate_left
  · intro w'
    go_simp
    with_reducible rfl
  rotate_left
  · simp only [Act.put, List.setIfInBounds_toArray, List.set_cons_zero, List.set_cons_succ, i64_w, i32_w]
    rfl
  refine done_ (by kernel_rfl) ?_
  have HO2 := Aside0.mk (World.ownsRow_lit (base := w.heap.size) (e := 9) (size := 1) wq0 #[.string ⟨#[98]⟩] 1 (Nat.le_trans HB1.out.size HBq0.out.size) (by decide) rfl)
  have HB2 := Aside0.mk (below_step HB1.out (below_alloc HBq0.out (.cells #[.string ⟨#[98]⟩] 9)))
  clear hc0 hc1 hc2 hc3 hc4 hc5 hd0 hd1 hd2 hd3 hd4 hd5 HBD
  obtain ⟨hc0, hc1, hc2, hc3, hc4, hc5⟩ := hHeld
  generalize Value.slice (some ⟨wq0.heap.size, 0, none⟩) 1 1 = v0 at HO2 ⊢
  generalize wq0.alloc (.cells #[.string ⟨#[98]⟩] 9) = w2 at HO2 HB2 hc0 hc1 hc2 hc3 hc4 hc5 ⊢
  go_upto_region 5 with (go_at_call 32; refine (numbers_callsV _ d n p i k n0 n1 n2 n3 _ HN0.out HN1.out HN2.out HN3.out).mono ?_; rintro e w3 ⟨rfl, hb⟩; have HB3 := Aside0.mk (below_step HB2.out hb); have HO3 := Aside0.mk (pw_own_below HO2.out hb); replace hc0 := pw_cell_below hb hc0; clear hb hc1 hc2 hc3 hc4 hc5 HO2)
  have HB4 := Aside0.mk (below_alloc HB3.out (.cells #[.int .u64 n0, .int .u64 n1, .int .u64 n2, .int .u64 n3] 53))
  have HO4 := Aside0.mk (World.ownsRow.alloc HO3.out (.cells #[.int .u64 n0, .int .u64 n1, .int .u64 n2, .int .u64 n3] 53))
  have HA4 := Aside0.mk (heap_alloc_new w3 (.cells #[.int .u64 n0, .int .u64 n1, .int .u64 n2, .int .u64 n3] 53))
  replace hc0 := cell_allocs hc0 (.cells #[.int .u64 n0, .int .u64 n1, .int .u64 n2, .int .u64 n3] 53)
  generalize w3.alloc (.cells #[.int .u64 n0, .int .u64 n1, .int .u64 n2, .int .u64 n3] 53) = w4 at HB4 HO4 HA4 hc0 ⊢
  generalize w3.heap.size = g4 at HA4 ⊢
  clear HB3 HO3 HB2
  have hd0 : w4.drew.cell? ⟨w.heap.size, 0, none⟩ = _ := hc0
  have HBD := Aside0.mk (below_drew (Below.refl w4.heap.size w4))
  have hal : Tryd.prog.arrayLen 53 = 4 := by kernel_rfl
  have hsl : ∀ W, (Instr.sliceAt 53 (.pointer (some ⟨g4, 0, none⟩)) none (some (.int .i64 2)) none).run Tryd.prog W = .ok (.slice (some ⟨g4, 0, none⟩) 2 4) W := fun W => by
    rw [run_sliceAt_array_h W 53 ⟨g4, 0, none⟩ (by rw [hal]; kernel_rfl) .i64 2 (by omega) (by rw [hal]; omega)]
    go_simp
  clear hal
  refine start_ (n := 7) (S := fun w' => w'.cell? ⟨w.heap.size, 0, none⟩ = some (.int .u8 2)) (ds := []) #[false, false, false, false, false, false, false] (by kernel_rfl) rfl rfl (hd0) (fun hHeld => ?_)
  refine pure_ (i := 1) (N := some 18) (v := ?_) (a' := ?_) #[false, true, false, false, false, false, false] rfl rfl (by kernel_rfl) (fun _ _ _ h => h) (Or.inl ⟨by rfl, ?_⟩) ?_ ?_
  rotate_left
  · intro w'
    go_simp
    with_reducible rfl
  rotate_left
  · simp only [Act.put, List.setIfInBounds_toArray, List.set_cons_zero, List.set_cons_succ, i64_w, i32_w]
    rfl
  refine pure_ (i := 6) (N := some 23) (v := ?_) (a' := ?_) #[false, true, false, false, false, false, true] rfl rfl (by kernel_rfl) (fun _ _ _ h => h) (Or.inl ⟨by rfl, ?_⟩) ?_ ?_
  rotate_left
  · intro w'
    go_simp
    with_reducible rfl
  rotate_left
  · simp only [Act.put, List.setIfInBounds_toArray, List.set_cons_zero, List.set_cons_succ, i64_w, i32_w]
    rfl
  refine take_ (i := 2) (N := some 19) (v := ?_) (a' := ?_) #[false, true, true, false, false, false, true] rfl rfl (by kernel_rfl) (fun _ _ _ h => h) (Or.inl ⟨by rfl, ?_⟩) hHeld ?_ ?_
  rotate_left
  · intro w' s0
    go_simp
    with_reducible rfl
  rotate_left
  · simp only [Act.put, List.setIfInBounds_toArray, List.set_cons_zero, List.set_cons_succ, i64_w, i32_w]
    rfl
  refine one_ (i := 0) (N := some 17) #[true, true, true, false, false, false, true] rfl rfl (by kernel_rfl) (by decide) (fun K hK => ?_)
  refine goes_ Tryd.func24 (by kernel_rfl) rfl #[] (by rfl) rfl rfl (by (try simp only [List.map_toArray, List.map_cons, List.map_nil]); first | done | rfl) ?_
  with_reducible refine (counts_calls _).mono ?_
  rintro e wq0 ⟨rfl, hbq⟩
  refine ⟨_, rfl, ?_⟩
  have HBq0 := Aside0.mk (below_step HBD.out hbq)
  clear hbq
  refine hK.out _ _ (pw_cell_below HBq0.out hd0) (fun hHeld => ?_)
  clear hK K
  refine norm_ (a' := ?_) ?_ ?_
  rotate_left
  · show Act.put _ (some 17) _ = _
    simp only [Act.put, List.setIfInBounds_toArray, List.set_cons_zero, List.set_cons_succ, i64_w, i32_w]
    rfl
  refine take_ (i := 3) (N := some 20) (v := ?_) (a' := ?_) #[true, true, true, true, false, false, true] rfl rfl (by kernel_rfl) (fun _ _ _ h => h) (Or.inl ⟨by rfl, ?_⟩) hHeld ?_ ?_
  rotate_left
  · intro w' s0
    go_simp
    with_reducible rfl
  rotate_left
  · simp only [Act.put, List.setIfInBounds_toArray, List.set_cons_zero, List.set_cons_succ, i64_w, i32_w]
    rfl
  refine pure_ (i := 4) (N := some 21) (v := ?_) (a' := ?_) #[true, true, true, true, true, false, true] rfl rfl (by kernel_rfl) (fun _ _ _ h => h) (Or.inl ⟨by rfl, ?_⟩) ?_ ?_
  rotate_left
  · intro w'
    go_simp
    with_reducible rfl
  rotate_left
  · simp only [Act.put, List.setIfInBounds_toArray, List.set_cons_zero, List.set_cons_succ, i64_w, i32_w]
    rfl
  refine pure_ (i := 5) (N := some 22) (v := ?_) (a' := ?_) #[true, true, true, true, true, true, true] rfl rfl (by kernel_rfl) (fun _ _ _ h => h) (Or.inl ⟨by rfl, ?_⟩) ?_ ?_
  rotate_left
  · intro w'
    go_simp
    with_reducible rfl
  rotate_left
  · simp only [Act.put, List.setIfInBounds_toArray, List.set_cons_zero, List.set_cons_succ, i64_w, i32_w]
    rfl
  refine done_ (by kernel_rfl) ?_
  have HB5 := Aside0.mk (below_step HB4.out HBq0.out)
  have HO5 := Aside0.mk (pw_own_below HO4.out HBq0.out)
  have HA5 := Aside0.mk ((HBq0.out.block g4 (Array.getElem?_eq_some_iff.1 HA4.out).1).trans HA4.out)
  clear hHeld HBq0 HB4 HO4 HA4 HBD hc0 hd0
  have hc0 : True := trivial
  clear hc0
  generalize wq0 = w5 at HB5 HO5 HA5 ⊢
  go_wp2
  go_loopw [3, 23] (fun v3 v23 wr => ∃ (j : Nat) (ws : List (List UInt8)), j ≤ 2 ∧ v23 = .int .i64 j ∧ Aside0 (ws = [98] :: (l.take j).map decDigits) ∧ Aside0 (wr.ownsRow w.heap.size 9 1 v3 (strL ws).length (strL ws)) ∧ Aside0 (Below w.heap.size w wr) ∧ Aside0 (wr.heap[g4]? = some (.cells #[.int .u64 n0, .int .u64 n1, .int .u64 n2, .int .u64 n3] 53 (0, 0)))) (fun _ v23 _ => 2 - (RowKit.intOf v23).toNat)
  case atStart => exact ⟨0, _, by omega, rfl, ⟨rfl⟩, HO5, HB5, HA5⟩
  case round =>
    obtain ⟨j, ws, hj, rfl, HW6, HO6, HB6, HA6⟩ := hrel
    by_cases hlt : j < 2
    · have hltI : (j : Int) < 2 := by omega
      have HTS := Aside0.mk (take_step HL.out rfl hlt (by decide))
      have hcell := arr4 HA6.out j (by omega)
      generalize [n0, n1, n2, n3].getD j 0 = x at HTS hcell
      have HX64 := Aside0.mk (HF.out x HTS.out.2)
      go_upto_region 8 with fail
      clear hcell
      go_wp2_with (first
        | (go_at_call 26; (with_reducible show Calls _ _ #[_, _] _ _); refine (fmt_calls x HX64.out _ (Glob.below HG.out HB6.out)).mono ?_; rintro e w7 ⟨rfl, hb⟩; have HB7 := Aside0.mk (below_step HB6.out hb); have HO7 := Aside0.mk (pw_own_below HO6.out hb); have HA7 := Aside0.mk ((hb.block g4 (Array.getElem?_eq_some_iff.1 HA6.out).1).trans HA6.out); clear hb HO6 HB6 HA6)
        | ((with_reducible refine gate_builtin (b := .append) (xs := #[.tmp 27, .tmp 30]) rfl ?_); go_must (refine print_append (w0 := w) w.heap.size rfl (.tmp 27) (.tmp 30) 37 9 (.string ⟨#[]⟩) 16 rfl Tryd.underlying37 eInfoStr rfl (by decide) u3 (strL ws) (.string ⟨(decDigits x).toArray⟩) rfl rfl rfl HO7.out HB7.out HB7.out.size (by have := HW6.out; subst this; simp [strL]; omega) ?_; intro v1 w8 hN hB hg hat; have HN8 := Aside0.mk hN; have HB8 := Aside0.mk hB; have HA8 := Aside0.mk ((hg.block g4 (Array.getElem?_eq_some_iff.1 HA7.out).1 (own_ne HO7.out HA7.out (by decide))).trans HA7.out); clear hN hB hg hat HO7 HB7 HA7)))
      exact ⟨⟨j + 1, ws ++ [decDigits x], by omega, by go_num, ⟨by rw [HW6.out, HTS.out.1, List.map_append]; rfl⟩, ⟨by rw [strL_append]; exact HN8.out⟩, HB8, HA8⟩, by simp [RowKit.intOf]; omega⟩
    · obtain rfl : j = 2 := by omega
      have hlen : (strL ws).length = 3 := by rw [HW6.out, HL.out]; rfl
      have hw20 := Aside0.mk (show ∀ x ∈ ws, x.length ≤ 20 by
        intro x hx
        rw [HW6.out] at hx
        rcases List.mem_cons.mp hx with rfl | hx
        · simp
        · obtain ⟨y, hy, rfl⟩ := List.mem_map.mp hx
          exact dec_len (HF.out y (List.mem_of_mem_take hy)))
      have hfin := Aside0.mk (show ws = [headOf 2] :: l.map decDigits by rw [HW6.out, List.take_of_length_le (by rw [HL.out]; exact Nat.le_refl 2)]; rfl)
      obtain ⟨g, cap, rfl⟩ : ∃ g cap, u3 = .slice (some ⟨g, 0, none⟩) 3 cap := by
        rcases HO6.out.2 with ⟨h, h2⟩ | ⟨g, cap, cur, h, _⟩
        · rw [hlen] at h2; cases h2
        · rw [hlen] at h; exact ⟨g, cap, h⟩
      have HJ := Aside0.mk (joinV_calls g cap 3 w.heap.size ws _ (by simpa [strL] using hlen) (by decide) hw20.out (by decide) HO6.out)
      clear hlen HO6
      go_wp2_with (go_at_call 33; refine HJ.out.mono ?_; rintro e w7 ⟨rfl, hb⟩; have HB7 := Aside0.mk (below_step HB6.out hb); clear hb)
      go_ret
      exact ⟨by rw [← hfin.out]; rfl, HB7.out⟩
set_option maxHeartbeats 4000000 in
set_option maxRecDepth 100000 in
theorem put_3 (kd d n p i k n0 n1 n2 n3 : Nat) (hkd : kd = 3) (hm : mayB ⟨kd, d, n, p, i, k⟩ = true) (h0 : num0 ⟨kd, d, n, p, i, k⟩ = n0) (h1 : num1 ⟨kd, d, n, p, i, k⟩ = n1) (h2 : num2 ⟨kd, d, n, p, i, k⟩ = n2) (h3 : num3 ⟨kd, d, n, p, i, k⟩ = n3)
    (l : List Nat) (hl : l = [n0, n1, n2, n3].take (cntOf kd)) (hfit : ∀ x ∈ l, x < 18446744073709551616) (w : World) (hG : Glob w) :
    Calls Tryd.prog 16 #[.agg #[.int .u8 kd, .int .u64 d, .int .u64 n, .int .u64 p, .int .u64 i, .int .u64 k]] w fun e w' => e = .returned (.string ⟨(glue ([headOf kd] :: l.map decDigits)).toArray⟩) ∧ Below w.heap.size w w' := by
  have HM := Aside0.mk hm
  have HN0 := Aside0.mk h0
  have HN1 := Aside0.mk h1
  have HN2 := Aside0.mk h2
  have HN3 := Aside0.mk h3
  have HL := Aside0.mk hl
  have HF := Aside0.mk hfit
  have HG := Aside0.mk hG
  clear hm h0 h1 h2 h3 hl hfit hG
  subst hkd
  have hix : ∀ W, (Instr.index 48 (.agg #[.string ⟨#[]⟩, .string ⟨#[115]⟩, .string ⟨#[98]⟩, .string ⟨#[116]⟩, .string ⟨#[106]⟩]) (.int .u8 3)).run Tryd.prog W = .ok (.string ⟨#[116]⟩) W := idx_heads 3 (by decide)
  have hcx : ∀ W, (Instr.index 51 (.agg #[.int .i64 0, .int .i64 2, .int .i64 2, .int .i64 3, .int .i64 4]) (.int .u8 3)).run Tryd.prog W = .ok (.int .i64 3) W := idx_counts 3 (by decide)
  go_enter Tryd.func16, Tryd.ntmps16
  go_upto_region 3 with (go_at_call 17; refine (may_callsV _ d n p i k true _ HM.out).mono ?_; rintro e w1 ⟨rfl, hb⟩; have HB1 := Aside0.mk (below_step (below_alloc (Below.refl _ _) _) hb); have hc0 := pw_cell_below hb (a := ⟨w.heap.size, 0, none⟩) (by go_simp; rfl); have hc1 := pw_cell_below hb (a := ⟨w.heap.size, 1, none⟩) (by go_simp; rfl); have hc2 := pw_cell_below hb (a := ⟨w.heap.size, 2, none⟩) (by go_simp; rfl); have hc3 := pw_cell_below hb (a := ⟨w.heap.size, 3, none⟩) (by go_simp; rfl); have hc4 := pw_cell_below hb (a := ⟨w.heap.size, 4, none⟩) (by go_simp; rfl); have hc5 := pw_cell_below hb (a := ⟨w.heap.size, 5, none⟩) (by go_simp; rfl); clear hb)
  have hd0 : w1.drew.cell? ⟨w.heap.size, 0, none⟩ = _ := hc0
  have hd1 : w1.drew.cell? ⟨w.heap.size, 1, none⟩ = _ := hc1
  have hd2 : w1.drew.cell? ⟨w.heap.size, 2, none⟩ = _ := hc2
  have hd3 : w1.drew.cell? ⟨w.heap.size, 3, none⟩ = _ := hc3
  have hd4 : w1.drew.cell? ⟨w.heap.size, 4, none⟩ = _ := hc4
  have hd5 : w1.drew.cell? ⟨w.heap.size, 5, none⟩ = _ := hc5
  have HBD := Aside0.mk (below_drew (Below.refl w1.heap.size w1))
  refine start_ (n := 6) (S := fun w' => w'.cell? ⟨w.heap.size, 0, none⟩ = some (.int .u8 3) ∧ w'.cell? ⟨w.heap.size, 1, none⟩ = some (.int .u64 d) ∧ w'.cell? ⟨w.heap.size, 2, none⟩ = some (.int .u64 n) ∧ w'.cell? ⟨w.heap.size, 3, none⟩ = some (.int .u64 p) ∧ w'.cell? ⟨w.heap.size, 4, none⟩ = some (.int .u64 i) ∧ w'.cell? ⟨w.heap.size, 5, none⟩ = some (.int .u64 k)) (ds := []) #[false, false, false, false, false, false] (by kernel_rfl) rfl rfl ⟨hd0, hd1, hd2, hd3, hd4, hd5⟩ (fun hHeld => ?_)
  refine pure_ (i := 1) (N := some 11) (v := ?_) (a' := ?_) #[false, true, false, false, false, false] rfl rfl (by kernel_rfl) (fun _ _ _ h => h) (Or.inl ⟨by rfl, ?_⟩) ?_ ?_
  rotate_left
  · intro w'
    go_simp
    with_reducible rfl
  rotate_left
  · simp only [Act.put, List.setIfInBounds_toArray, List.set_cons_zero, List.set_cons_succ, i64_w, i32_w]
    rfl
  refine take_ (i := 2) (N := some 12) (v := ?_) (a' := ?_) #[false, true, true, false, false, false] rfl rfl (by kernel_rfl) (fun _ _ _ h => h) (Or.inl ⟨by rfl, ?_⟩) hHeld ?_ ?_
  rotate_left
  · rintro w' ⟨s0, s1, s2, s3, s4, s5⟩
    go_simp
    with_reducible rfl
  rotate_left
  · simp only [Act.put, List.setIfInBounds_toArray, List.set_cons_zero, List.set_cons_succ, i64_w, i32_w]
    rfl
  refine one_ (i := 0) (N := some 10) #[true, true, true, false, false, false] rfl rfl (by kernel_rfl) (by decide) (fun K hK => ?_)
  refine goes_ Tryd.func22 (by kernel_rfl) rfl #[] (by rfl) rfl rfl (by (try simp only [List.map_toArray, List.map_cons, List.map_nil]); first | done | rfl) ?_
  with_reducible refine (heads_calls _).mono ?_
  rintro e wq0 ⟨rfl, hbq⟩
  refine ⟨_, rfl, ?_⟩
  have HBq0 := Aside0.mk (below_step HBD.out hbq)
  clear hbq
  refine hK.out _ _ ⟨pw_cell_below HBq0.out hd0, pw_cell_below HBq0.out hd1, pw_cell_below HBq0.out hd2, pw_cell_below HBq0.out hd3, pw_cell_below HBq0.out hd4, pw_cell_below HBq0.out hd5⟩ (fun hHeld => ?_)
  clear hK K
  refine norm_ (a' := ?_) ?_ ?_
  rotate_left
  · show Act.put _ (some 10) _ = _
    simp only [Act.put, List.setIfInBounds_toArray, List.set_cons_zero, List.set_cons_succ, i64_w, i32_w]
    rfl
  refine take_ (i := 3) (N := some 13) (v := ?_) (a' := ?_) #[true, true, true, true, false, false] rfl rfl (by kernel_rfl) (fun _ _ _ h => h) (Or.inl ⟨by rfl, ?_⟩) hHeld ?_ ?_
  rotate_left
  · rintro w' ⟨s0, s1, s2, s3, s4, s5⟩
    go_simp
    with_reducible rfl
  rotate_left
  · simp only [Act.put, List.setIfInBounds_toArray, List.set_cons_zero, List.set_cons_succ, i64_w, i32_w]
    rfl
  refine one_ (i := 4) (N := some 14) #[true, true, true, true, true, false] rfl rfl (by kernel_rfl) (by decide) (fun K hK => ?_)
  refine value_ (w1 := ?_) (v := ?_) (by rfl) rfl ?_ ?_
  rotate_left 2
  · go_simp
    constructor
    · rfl
    · rfl
  refine hK.out _ _ ⟨cell_allocs (pw_cell_below HBq0.out hd0) _, cell_allocs (pw_cell_below HBq0.out hd1) _, cell_allocs (pw_cell_below HBq0.out hd2) _, cell_allocs (pw_cell_below HBq0.out hd3) _, cell_allocs (pw_cell_below HBq0.out hd4) _, cell_allocs (pw_cell_below HBq0.out hd5) _⟩ (fun hHeld => ?_)
  clear hK K
  refine norm_ (a' := ?_) ?_ ?_
  rotate_left
  · show Act.put _ (some 14) _ = _
    simp only [Act.put, List.setIfInBounds_toArray, List.set_cons_zero, List.set_cons_succ, i64_w, i32_w]
    rfl
  refine pure_ (i := 5) (N := some 3) (v := ?_) (a' := ?_) #[true, true, true, true, true, true] rfl rfl (by kernel_rfl) (fun _ _ _ h => h) (Or.inl ⟨by rfl, ?_⟩) ?_ ?_
  rotate_left
  · intro w'
    go_simp
    with_reducible rfl
  rotate_left
  · simp only [Act.put, List.setIfInBounds_toArray, List.set_cons_zero, List.set_cons_succ, i64_w, i32_w]
    rfl
  refine done_ (by kernel_rfl) ?_
  have HO2 := Aside0.mk (World.ownsRow_lit (base := w.heap.size) (e := 9) (size := 1) wq0 #[.string ⟨#[116]⟩] 1 (Nat.le_trans HB1.out.size HBq0.out.size) (by decide) rfl)
  have HB2 := Aside0.mk (below_step HB1.out (below_alloc HBq0.out (.cells #[.string ⟨#[116]⟩] 9)))
  clear hc0 hc1 hc2 hc3 hc4 hc5 hd0 hd1 hd2 hd3 hd4 hd5 HBD
  obtain ⟨hc0, hc1, hc2, hc3, hc4, hc5⟩ := hHeld
  generalize Value.slice (some ⟨wq0.heap.size, 0, none⟩) 1 1 = v0 at HO2 ⊢
  generalize wq0.alloc (.cells #[.string ⟨#[116]⟩] 9) = w2 at HO2 HB2 hc0 hc1 hc2 hc3 hc4 hc5 ⊢
  go_upto_region 5 with (go_at_call 32; refine (numbers_callsV _ d n p i k n0 n1 n2 n3 _ HN0.out HN1.out HN2.out HN3.out).mono ?_; rintro e w3 ⟨rfl, hb⟩; have HB3 := Aside0.mk (below_step HB2.out hb); have HO3 := Aside0.mk (pw_own_below HO2.out hb); replace hc0 := pw_cell_below hb hc0; clear hb hc1 hc2 hc3 hc4 hc5 HO2)
  have HB4 := Aside0.mk (below_alloc HB3.out (.cells #[.int .u64 n0, .int .u64 n1, .int .u64 n2, .int .u64 n3] 53))
  have HO4 := Aside0.mk (World.ownsRow.alloc HO3.out (.cells #[.int .u64 n0, .int .u64 n1, .int .u64 n2, .int .u64 n3] 53))
  have HA4 := Aside0.mk (heap_alloc_new w3 (.cells #[.int .u64 n0, .int .u64 n1, .int .u64 n2, .int .u64 n3] 53))
  replace hc0 := cell_allocs hc0 (.cells #[.int .u64 n0, .int .u64 n1, .int .u64 n2, .int .u64 n3] 53)
  generalize w3.alloc (.cells #[.int .u64 n0, .int .u64 n1, .int .u64 n2, .int .u64 n3] 53) = w4 at HB4 HO4 HA4 hc0 ⊢
  generalize w3.heap.size = g4 at HA4 ⊢
  clear HB3 HO3 HB2
  have hd0 : w4.drew.cell? ⟨w.heap.size, 0, none⟩ = _ := hc0
  have HBD := Aside0.mk (below_drew (Below.refl w4.heap.size w4))
  have hal : Tryd.prog.arrayLen 53 = 4 := by kernel_rfl
  have hsl : ∀ W, (Instr.sliceAt 53 (.pointer (some ⟨g4, 0, none⟩)) none (some (.int .i64 3)) none).run Tryd.prog W = .ok (.slice (some ⟨g4, 0, none⟩) 3 4) W := fun W => by
    rw [run_sliceAt_array_h W 53 ⟨g4, 0, none⟩ (by rw [hal]; kernel_rfl) .i64 3 (by omega) (by rw [hal]; omega)]
    go_simp
  clear hal
  refine start_ (n := 7) (S := fun w' => w'.cell? ⟨w.heap.size, 0, none⟩ = some (.int .u8 3)) (ds := []) #[false, false, false, false, false, false, false] (by kernel_rfl) rfl rfl (hd0) (fun hHeld => ?_)
  refine pure_ (i := 1) (N := some 18) (v := ?_) (a' := ?_) #[false, true, false, false, false, false, false] rfl rfl (by kernel_rfl) (fun _ _ _ h => h) (Or.inl ⟨by rfl, ?_⟩) ?_ ?_
  rotate_left
  · intro w'
    go_simp
    with_reducible rfl
  rotate_left
  · simp only [Act.put, List.setIfInBounds_toArray, List.set_cons_zero, List.set_cons_succ, i64_w, i32_w]
    rfl
  refine pure_ (i := 6) (N := some 23) (v := ?_) (a' := ?_) #[false, true, false, false, false, false, true] rfl rfl (by kernel_rfl) (fun _ _ _ h => h) (Or.inl ⟨by rfl, ?_⟩) ?_ ?_
  rotate_left
  · intro w'
    go_simp
    with_reducible rfl
  rotate_left
  · simp only [Act.put, List.setIfInBounds_toArray, List.set_cons_zero, List.set_cons_succ, i64_w, i32_w]
    rfl
  refine take_ (i := 2) (N := some 19) (v := ?_) (a' := ?_) #[false, true, true, false, false, false, true] rfl rfl (by kernel_rfl) (fun _ _ _ h => h) (Or.inl ⟨by rfl, ?_⟩) hHeld ?_ ?_
  rotate_left
  · intro w' s0
    go_simp
    with_reducible rfl
  rotate_left
  · simp only [Act.put, List.setIfInBounds_toArray, List.set_cons_zero, List.set_cons_succ, i64_w, i32_w]
    rfl
  refine one_ (i := 0) (N := some 17) #[true, true, true, false, false, false, true] rfl rfl (by kernel_rfl) (by decide) (fun K hK => ?_)
  refine goes_ Tryd.func24 (by kernel_rfl) rfl #[] (by rfl) rfl rfl (by (try simp only [List.map_toArray, List.map_cons, List.map_nil]); first | done | rfl) ?_
  with_reducible refine (counts_calls _).mono ?_
  rintro e wq0 ⟨rfl, hbq⟩
  refine ⟨_, rfl, ?_⟩
  have HBq0 := Aside0.mk (below_step HBD.out hbq)
  clear hbq
  refine hK.out _ _ (pw_cell_below HBq0.out hd0) (fun hHeld => ?_)
  clear hK K
  refine norm_ (a' := ?_) ?_ ?_
  rotate_left
  · show Act.put _ (some 17) _ = _
    simp only [Act.put, List.setIfInBounds_toArray, List.set_cons_zero, List.set_cons_succ, i64_w, i32_w]
    rfl
  refine take_ (i := 3) (N := some 20) (v := ?_) (a' := ?_) #[true, true, true, true, false, false, true] rfl rfl (by kernel_rfl) (fun _ _ _ h => h) (Or.inl ⟨by rfl, ?_⟩) hHeld ?_ ?_
  rotate_left
  · intro w' s0
    go_simp
    with_reducible rfl
  rotate_left
  · simp only [Act.put, List.setIfInBounds_toArray, List.set_cons_zero, List.set_cons_succ, i64_w, i32_w]
    rfl
  refine pure_ (i := 4) (N := some 21) (v := ?_) (a' := ?_) #[true, true, true, true, true, false, true] rfl rfl (by kernel_rfl) (fun _ _ _ h => h) (Or.inl ⟨by rfl, ?_⟩) ?_ ?_
  rotate_left
  · intro w'
    go_simp
    with_reducible rfl
  rotate_left
  · simp only [Act.put, List.setIfInBounds_toArray, List.set_cons_zero, List.set_cons_succ, i64_w, i32_w]
    rfl
  refine pure_ (i := 5) (N := some 22) (v := ?_) (a' := ?_) #[true, true, true, true, true, true, true] rfl rfl (by kernel_rfl) (fun _ _ _ h => h) (Or.inl ⟨by rfl, ?_⟩) ?_ ?_
  rotate_left
  · intro w'
    go_simp
    with_reducible rfl
  rotate_left
  · simp only [Act.put, List.setIfInBounds_toArray, List.set_cons_zero, List.set_cons_succ, i64_w, i32_w]
    rfl
  refine done_ (by kernel_rfl) ?_
  have HB5 := Aside0.mk (below_step HB4.out HBq0.out)
  have HO5 := Aside0.mk (pw_own_below HO4.out HBq0.out)
  have HA5 := Aside0.mk ((HBq0.out.block g4 (Array.getElem?_eq_some_iff.1 HA4.out).1).trans HA4.out)
  clear hHeld HBq0 HB4 HO4 HA4 HBD hc0 hd0
  have hc0 : True := trivial
  clear hc0
  generalize wq0 = w5 at HB5 HO5 HA5 ⊢
  go_wp2
  go_loopw [3, 23] (fun v3 v23 wr => ∃ (j : Nat) (ws : List (List UInt8)), j ≤ 3 ∧ v23 = .int .i64 j ∧ Aside0 (ws = [116] :: (l.take j).map decDigits) ∧ Aside0 (wr.ownsRow w.heap.size 9 1 v3 (strL ws).length (strL ws)) ∧ Aside0 (Below w.heap.size w wr) ∧ Aside0 (wr.heap[g4]? = some (.cells #[.int .u64 n0, .int .u64 n1, .int .u64 n2, .int .u64 n3] 53 (0, 0)))) (fun _ v23 _ => 3 - (RowKit.intOf v23).toNat)
  case atStart => exact ⟨0, _, by omega, rfl, ⟨rfl⟩, HO5, HB5, HA5⟩
  case round =>
    obtain ⟨j, ws, hj, rfl, HW6, HO6, HB6, HA6⟩ := hrel
    by_cases hlt : j < 3
    · have hltI : (j : Int) < 3 := by omega
      have HTS := Aside0.mk (take_step HL.out rfl hlt (by decide))
      have hcell := arr4 HA6.out j (by omega)
      generalize [n0, n1, n2, n3].getD j 0 = x at HTS hcell
      have HX64 := Aside0.mk (HF.out x HTS.out.2)
      go_upto_region 8 with fail
      clear hcell
      go_wp2_with (first
        | (go_at_call 26; (with_reducible show Calls _ _ #[_, _] _ _); refine (fmt_calls x HX64.out _ (Glob.below HG.out HB6.out)).mono ?_; rintro e w7 ⟨rfl, hb⟩; have HB7 := Aside0.mk (below_step HB6.out hb); have HO7 := Aside0.mk (pw_own_below HO6.out hb); have HA7 := Aside0.mk ((hb.block g4 (Array.getElem?_eq_some_iff.1 HA6.out).1).trans HA6.out); clear hb HO6 HB6 HA6)
        | ((with_reducible refine gate_builtin (b := .append) (xs := #[.tmp 27, .tmp 30]) rfl ?_); go_must (refine print_append (w0 := w) w.heap.size rfl (.tmp 27) (.tmp 30) 37 9 (.string ⟨#[]⟩) 16 rfl Tryd.underlying37 eInfoStr rfl (by decide) u3 (strL ws) (.string ⟨(decDigits x).toArray⟩) rfl rfl rfl HO7.out HB7.out HB7.out.size (by have := HW6.out; subst this; simp [strL]; omega) ?_; intro v1 w8 hN hB hg hat; have HN8 := Aside0.mk hN; have HB8 := Aside0.mk hB; have HA8 := Aside0.mk ((hg.block g4 (Array.getElem?_eq_some_iff.1 HA7.out).1 (own_ne HO7.out HA7.out (by decide))).trans HA7.out); clear hN hB hg hat HO7 HB7 HA7)))
      exact ⟨⟨j + 1, ws ++ [decDigits x], by omega, by go_num, ⟨by rw [HW6.out, HTS.out.1, List.map_append]; rfl⟩, ⟨by rw [strL_append]; exact HN8.out⟩, HB8, HA8⟩, by simp [RowKit.intOf]; omega⟩
    · obtain rfl : j = 3 := by omega
      have hlen : (strL ws).length = 4 := by rw [HW6.out, HL.out]; rfl
      have hw20 := Aside0.mk (show ∀ x ∈ ws, x.length ≤ 20 by
        intro x hx
        rw [HW6.out] at hx
        rcases List.mem_cons.mp hx with rfl | hx
        · simp
        · obtain ⟨y, hy, rfl⟩ := List.mem_map.mp hx
          exact dec_len (HF.out y (List.mem_of_mem_take hy)))
      have hfin := Aside0.mk (show ws = [headOf 3] :: l.map decDigits by rw [HW6.out, List.take_of_length_le (by rw [HL.out]; exact Nat.le_refl 3)]; rfl)
      obtain ⟨g, cap, rfl⟩ : ∃ g cap, u3 = .slice (some ⟨g, 0, none⟩) 4 cap := by
        rcases HO6.out.2 with ⟨h, h2⟩ | ⟨g, cap, cur, h, _⟩
        · rw [hlen] at h2; cases h2
        · rw [hlen] at h; exact ⟨g, cap, h⟩
      have HJ := Aside0.mk (joinV_calls g cap 4 w.heap.size ws _ (by simpa [strL] using hlen) (by decide) hw20.out (by decide) HO6.out)
      clear hlen HO6
      go_wp2_with (go_at_call 33; refine HJ.out.mono ?_; rintro e w7 ⟨rfl, hb⟩; have HB7 := Aside0.mk (below_step HB6.out hb); clear hb)
      go_ret
      exact ⟨by rw [← hfin.out]; rfl, HB7.out⟩
set_option maxHeartbeats 4000000 in
set_option maxRecDepth 100000 in
theorem put_4 (kd d n p i k n0 n1 n2 n3 : Nat) (hkd : kd = 4) (hm : mayB ⟨kd, d, n, p, i, k⟩ = true) (h0 : num0 ⟨kd, d, n, p, i, k⟩ = n0) (h1 : num1 ⟨kd, d, n, p, i, k⟩ = n1) (h2 : num2 ⟨kd, d, n, p, i, k⟩ = n2) (h3 : num3 ⟨kd, d, n, p, i, k⟩ = n3)
    (l : List Nat) (hl : l = [n0, n1, n2, n3].take (cntOf kd)) (hfit : ∀ x ∈ l, x < 18446744073709551616) (w : World) (hG : Glob w) :
    Calls Tryd.prog 16 #[.agg #[.int .u8 kd, .int .u64 d, .int .u64 n, .int .u64 p, .int .u64 i, .int .u64 k]] w fun e w' => e = .returned (.string ⟨(glue ([headOf kd] :: l.map decDigits)).toArray⟩) ∧ Below w.heap.size w w' := by
  have HM := Aside0.mk hm
  have HN0 := Aside0.mk h0
  have HN1 := Aside0.mk h1
  have HN2 := Aside0.mk h2
  have HN3 := Aside0.mk h3
  have HL := Aside0.mk hl
  have HF := Aside0.mk hfit
  have HG := Aside0.mk hG
  clear hm h0 h1 h2 h3 hl hfit hG
  subst hkd
  have hix : ∀ W, (Instr.index 48 (.agg #[.string ⟨#[]⟩, .string ⟨#[115]⟩, .string ⟨#[98]⟩, .string ⟨#[116]⟩, .string ⟨#[106]⟩]) (.int .u8 4)).run Tryd.prog W = .ok (.string ⟨#[106]⟩) W := idx_heads 4 (by decide)
  have hcx : ∀ W, (Instr.index 51 (.agg #[.int .i64 0, .int .i64 2, .int .i64 2, .int .i64 3, .int .i64 4]) (.int .u8 4)).run Tryd.prog W = .ok (.int .i64 4) W := idx_counts 4 (by decide)
  go_enter Tryd.func16, Tryd.ntmps16
  go_upto_region 3 with (go_at_call 17; refine (may_callsV _ d n p i k true _ HM.out).mono ?_; rintro e w1 ⟨rfl, hb⟩; have HB1 := Aside0.mk (below_step (below_alloc (Below.refl _ _) _) hb); have hc0 := pw_cell_below hb (a := ⟨w.heap.size, 0, none⟩) (by go_simp; rfl); have hc1 := pw_cell_below hb (a := ⟨w.heap.size, 1, none⟩) (by go_simp; rfl); have hc2 := pw_cell_below hb (a := ⟨w.heap.size, 2, none⟩) (by go_simp; rfl); have hc3 := pw_cell_below hb (a := ⟨w.heap.size, 3, none⟩) (by go_simp; rfl); have hc4 := pw_cell_below hb (a := ⟨w.heap.size, 4, none⟩) (by go_simp; rfl); have hc5 := pw_cell_below hb (a := ⟨w.heap.size, 5, none⟩) (by go_simp; rfl); clear hb)
  have hd0 : w1.drew.cell? ⟨w.heap.size, 0, none⟩ = _ := hc0
  have hd1 : w1.drew.cell? ⟨w.heap.size, 1, none⟩ = _ := hc1
  have hd2 : w1.drew.cell? ⟨w.heap.size, 2, none⟩ = _ := hc2
  have hd3 : w1.drew.cell? ⟨w.heap.size, 3, none⟩ = _ := hc3
  have hd4 : w1.drew.cell? ⟨w.heap.size, 4, none⟩ = _ := hc4
  have hd5 : w1.drew.cell? ⟨w.heap.size, 5, none⟩ = _ := hc5
  have HBD := Aside0.mk (below_drew (Below.refl w1.heap.size w1))
  refine start_ (n := 6) (S := fun w' => w'.cell? ⟨w.heap.size, 0, none⟩ = some (.int .u8 4) ∧ w'.cell? ⟨w.heap.size, 1, none⟩ = some (.int .u64 d) ∧ w'.cell? ⟨w.heap.size, 2, none⟩ = some (.int .u64 n) ∧ w'.cell? ⟨w.heap.size, 3, none⟩ = some (.int .u64 p) ∧ w'.cell? ⟨w.heap.size, 4, none⟩ = some (.int .u64 i) ∧ w'.cell? ⟨w.heap.size, 5, none⟩ = some (.int .u64 k)) (ds := []) #[false, false, false, false, false, false] (by kernel_rfl) rfl rfl ⟨hd0, hd1, hd2, hd3, hd4, hd5⟩ (fun hHeld => ?_)
  refine pure_ (i := 1) (N := some 11) (v := ?_) (a' := ?_) #[false, true, false, false, false, false] rfl rfl (by kernel_rfl) (fun _ _ _ h => h) (Or.inl ⟨by rfl, ?_⟩) ?_ ?_
  rotate_left
  · intro w'
    go_simp
    with_reducible rfl
  rotate_left
  · simp only [Act.put, List.setIfInBounds_toArray, List.set_cons_zero, List.set_cons_succ, i64_w, i32_w]
    rfl
  refine take_ (i := 2) (N := some 12) (v := ?_) (a' := ?_) #[false, true, true, false, false, false] rfl rfl (by kernel_rfl) (fun _ _ _ h => h) (Or.inl ⟨by rfl, ?_⟩) hHeld ?_ ?_
  rotate_left
  · rintro w' ⟨s0, s1, s2, s3, s4, s5⟩
    go_simp
    with_reducible rfl
  rotate_left
  · simp only [Act.put, List.setIfInBounds_toArray, List.set_cons_zero, List.set_cons_succ, i64_w, i32_w]
    rfl
  refine one_ (i := 0) (N := some 10) #[true, true, true, false, false, false] rfl rfl (by kernel_rfl) (by decide) (fun K hK => ?_)
  refine goes_ Tryd.func22 (by kernel_rfl) rfl #[] (by rfl) rfl rfl (by (try simp only [List.map_toArray, List.map_cons, List.map_nil]); first | done | rfl) ?_
  with_reducible refine (heads_calls _).mono ?_
  rintro e wq0 ⟨rfl, hbq⟩
  refine ⟨_, rfl, ?_⟩
  have HBq0 := Aside0.mk (below_step HBD.out hbq)
  clear hbq
  refine hK.out _ _ ⟨pw_cell_below HBq0.out hd0, pw_cell_below HBq0.out hd1, pw_cell_below HBq0.out hd2, pw_cell_below HBq0.out hd3, pw_cell_below HBq0.out hd4, pw_cell_below HBq0.out hd5⟩ (fun hHeld => ?_)
  clear hK K
  refine norm_ (a' := ?_) ?_ ?_
  rotate_left
  · show Act.put _ (some 10) _ = _
    simp only [Act.put, List.setIfInBounds_toArray, List.set_cons_zero, List.set_cons_succ, i64_w, i32_w]
    rfl
  refine take_ (i := 3) (N := some 13) (v := ?_) (a' := ?_) #[true, true, true, true, false, false] rfl rfl (by kernel_rfl) (fun _ _ _ h => h) (Or.inl ⟨by rfl, ?_⟩) hHeld ?_ ?_
  rotate_left
  · rintro w' ⟨s0, s1, s2, s3, s4, s5⟩
    go_simp
    with_reducible rfl
  rotate_left
  · simp only [Act.put, List.setIfInBounds_toArray, List.set_cons_zero, List.set_cons_succ, i64_w, i32_w]
    rfl
  refine one_ (i := 4) (N := some 14) #[true, true, true, true, true, false] rfl rfl (by kernel_rfl) (by decide) (fun K hK => ?_)
  refine value_ (w1 := ?_) (v := ?_) (by rfl) rfl ?_ ?_
  rotate_left 2
  · go_simp
    constructor
    · rfl
    · rfl
  refine hK.out _ _ ⟨cell_allocs (pw_cell_below HBq0.out hd0) _, cell_allocs (pw_cell_below HBq0.out hd1) _, cell_allocs (pw_cell_below HBq0.out hd2) _, cell_allocs (pw_cell_below HBq0.out hd3) _, cell_allocs (pw_cell_below HBq0.out hd4) _, cell_allocs (pw_cell_below HBq0.out hd5) _⟩ (fun hHeld => ?_)
  clear hK K
  refine norm_ (a' := ?_) ?_ ?_
  rotate_left
  · show Act.put _ (some 14) _ = _
    simp only [Act.put, List.setIfInBounds_toArray, List.set_cons_zero, List.set_cons_succ, i64_w, i32_w]
    rfl
  refine pure_ (i := 5) (N := some 3) (v := ?_) (a' := ?_) #[true, true, true, true, true, true] rfl rfl (by kernel_rfl) (fun _ _ _ h => h) (Or.inl ⟨by rfl, ?_⟩) ?_ ?_
  rotate_left
  · intro w'
    go_simp
    with_reducible rfl
  rotate_left
  · simp only [Act.put, List.setIfInBounds_toArray, List.set_cons_zero, List.set_cons_succ, i64_w, i32_w]
    rfl
  refine done_ (by kernel_rfl) ?_
  have HO2 := Aside0.mk (World.ownsRow_lit (base := w.heap.size) (e := 9) (size := 1) wq0 #[.string ⟨#[106]⟩] 1 (Nat.le_trans HB1.out.size HBq0.out.size) (by decide) rfl)
  have HB2 := Aside0.mk (below_step HB1.out (below_alloc HBq0.out (.cells #[.string ⟨#[106]⟩] 9)))
  clear hc0 hc1 hc2 hc3 hc4 hc5 hd0 hd1 hd2 hd3 hd4 hd5 HBD
  obtain ⟨hc0, hc1, hc2, hc3, hc4, hc5⟩ := hHeld
  generalize Value.slice (some ⟨wq0.heap.size, 0, none⟩) 1 1 = v0 at HO2 ⊢
  generalize wq0.alloc (.cells #[.string ⟨#[106]⟩] 9) = w2 at HO2 HB2 hc0 hc1 hc2 hc3 hc4 hc5 ⊢
  go_upto_region 5 with (go_at_call 32; refine (numbers_callsV _ d n p i k n0 n1 n2 n3 _ HN0.out HN1.out HN2.out HN3.out).mono ?_; rintro e w3 ⟨rfl, hb⟩; have HB3 := Aside0.mk (below_step HB2.out hb); have HO3 := Aside0.mk (pw_own_below HO2.out hb); replace hc0 := pw_cell_below hb hc0; clear hb hc1 hc2 hc3 hc4 hc5 HO2)
  have HB4 := Aside0.mk (below_alloc HB3.out (.cells #[.int .u64 n0, .int .u64 n1, .int .u64 n2, .int .u64 n3] 53))
  have HO4 := Aside0.mk (World.ownsRow.alloc HO3.out (.cells #[.int .u64 n0, .int .u64 n1, .int .u64 n2, .int .u64 n3] 53))
  have HA4 := Aside0.mk (heap_alloc_new w3 (.cells #[.int .u64 n0, .int .u64 n1, .int .u64 n2, .int .u64 n3] 53))
  replace hc0 := cell_allocs hc0 (.cells #[.int .u64 n0, .int .u64 n1, .int .u64 n2, .int .u64 n3] 53)
  generalize w3.alloc (.cells #[.int .u64 n0, .int .u64 n1, .int .u64 n2, .int .u64 n3] 53) = w4 at HB4 HO4 HA4 hc0 ⊢
  generalize w3.heap.size = g4 at HA4 ⊢
  clear HB3 HO3 HB2
  have hd0 : w4.drew.cell? ⟨w.heap.size, 0, none⟩ = _ := hc0
  have HBD := Aside0.mk (below_drew (Below.refl w4.heap.size w4))
  have hal : Tryd.prog.arrayLen 53 = 4 := by kernel_rfl
  have hsl : ∀ W, (Instr.sliceAt 53 (.pointer (some ⟨g4, 0, none⟩)) none (some (.int .i64 4)) none).run Tryd.prog W = .ok (.slice (some ⟨g4, 0, none⟩) 4 4) W := fun W => by
    rw [run_sliceAt_array_h W 53 ⟨g4, 0, none⟩ (by rw [hal]; kernel_rfl) .i64 4 (by omega) (by rw [hal]; omega)]
    go_simp
  clear hal
  refine start_ (n := 7) (S := fun w' => w'.cell? ⟨w.heap.size, 0, none⟩ = some (.int .u8 4)) (ds := []) #[false, false, false, false, false, false, false] (by kernel_rfl) rfl rfl (hd0) (fun hHeld => ?_)
  refine pure_ (i := 1) (N := some 18) (v := ?_) (a' := ?_) #[false, true, false, false, false, false, false] rfl rfl (by kernel_rfl) (fun _ _ _ h => h) (Or.inl ⟨by rfl, ?_⟩) ?_ ?_
  rotate_left
  · intro w'
    go_simp
    with_reducible rfl
  rotate_left
  · simp only [Act.put, List.setIfInBounds_toArray, List.set_cons_zero, List.set_cons_succ, i64_w, i32_w]
    rfl
  refine pure_ (i := 6) (N := some 23) (v := ?_) (a' := ?_) #[false, true, false, false, false, false, true] rfl rfl (by kernel_rfl) (fun _ _ _ h => h) (Or.inl ⟨by rfl, ?_⟩) ?_ ?_
  rotate_left
  · intro w'
    go_simp
    with_reducible rfl
  rotate_left
  · simp only [Act.put, List.setIfInBounds_toArray, List.set_cons_zero, List.set_cons_succ, i64_w, i32_w]
    rfl
  refine take_ (i := 2) (N := some 19) (v := ?_) (a' := ?_) #[false, true, true, false, false, false, true] rfl rfl (by kernel_rfl) (fun _ _ _ h => h) (Or.inl ⟨by rfl, ?_⟩) hHeld ?_ ?_
  rotate_left
  · intro w' s0
    go_simp
    with_reducible rfl
  rotate_left
  · simp only [Act.put, List.setIfInBounds_toArray, List.set_cons_zero, List.set_cons_succ, i64_w, i32_w]
    rfl
  refine one_ (i := 0) (N := some 17) #[true, true, true, false, false, false, true] rfl rfl (by kernel_rfl) (by decide) (fun K hK => ?_)
  refine goes_ Tryd.func24 (by kernel_rfl) rfl #[] (by rfl) rfl rfl (by (try simp only [List.map_toArray, List.map_cons, List.map_nil]); first | done | rfl) ?_
  with_reducible refine (counts_calls _).mono ?_
  rintro e wq0 ⟨rfl, hbq⟩
  refine ⟨_, rfl, ?_⟩
  have HBq0 := Aside0.mk (below_step HBD.out hbq)
  clear hbq
  refine hK.out _ _ (pw_cell_below HBq0.out hd0) (fun hHeld => ?_)
  clear hK K
  refine norm_ (a' := ?_) ?_ ?_
  rotate_left
  · show Act.put _ (some 17) _ = _
    simp only [Act.put, List.setIfInBounds_toArray, List.set_cons_zero, List.set_cons_succ, i64_w, i32_w]
    rfl
  refine take_ (i := 3) (N := some 20) (v := ?_) (a' := ?_) #[true, true, true, true, false, false, true] rfl rfl (by kernel_rfl) (fun _ _ _ h => h) (Or.inl ⟨by rfl, ?_⟩) hHeld ?_ ?_
  rotate_left
  · intro w' s0
    go_simp
    with_reducible rfl
  rotate_left
  · simp only [Act.put, List.setIfInBounds_toArray, List.set_cons_zero, List.set_cons_succ, i64_w, i32_w]
    rfl
  refine pure_ (i := 4) (N := some 21) (v := ?_) (a' := ?_) #[true, true, true, true, true, false, true] rfl rfl (by kernel_rfl) (fun _ _ _ h => h) (Or.inl ⟨by rfl, ?_⟩) ?_ ?_
  rotate_left
  · intro w'
    go_simp
    with_reducible rfl
  rotate_left
  · simp only [Act.put, List.setIfInBounds_toArray, List.set_cons_zero, List.set_cons_succ, i64_w, i32_w]
    rfl
  refine pure_ (i := 5) (N := some 22) (v := ?_) (a' := ?_) #[true, true, true, true, true, true, true] rfl rfl (by kernel_rfl) (fun _ _ _ h => h) (Or.inl ⟨by rfl, ?_⟩) ?_ ?_
  rotate_left
  · intro w'
    go_simp
    with_reducible rfl
  rotate_left
  · simp only [Act.put, List.setIfInBounds_toArray, List.set_cons_zero, List.set_cons_succ, i64_w, i32_w]
    rfl
  refine done_ (by kernel_rfl) ?_
  have HB5 := Aside0.mk (below_step HB4.out HBq0.out)
  have HO5 := Aside0.mk (pw_own_below HO4.out HBq0.out)
  have HA5 := Aside0.mk ((HBq0.out.block g4 (Array.getElem?_eq_some_iff.1 HA4.out).1).trans HA4.out)
  clear hHeld HBq0 HB4 HO4 HA4 HBD hc0 hd0
  have hc0 : True := trivial
  clear hc0
  generalize wq0 = w5 at HB5 HO5 HA5 ⊢
  go_wp2
  go_loopw [3, 23] (fun v3 v23 wr => ∃ (j : Nat) (ws : List (List UInt8)), j ≤ 4 ∧ v23 = .int .i64 j ∧ Aside0 (ws = [106] :: (l.take j).map decDigits) ∧ Aside0 (wr.ownsRow w.heap.size 9 1 v3 (strL ws).length (strL ws)) ∧ Aside0 (Below w.heap.size w wr) ∧ Aside0 (wr.heap[g4]? = some (.cells #[.int .u64 n0, .int .u64 n1, .int .u64 n2, .int .u64 n3] 53 (0, 0)))) (fun _ v23 _ => 4 - (RowKit.intOf v23).toNat)
  case atStart => exact ⟨0, _, by omega, rfl, ⟨rfl⟩, HO5, HB5, HA5⟩
  case round =>
    obtain ⟨j, ws, hj, rfl, HW6, HO6, HB6, HA6⟩ := hrel
    by_cases hlt : j < 4
    · have hltI : (j : Int) < 4 := by omega
      have HTS := Aside0.mk (take_step HL.out rfl hlt (by decide))
      have hcell := arr4 HA6.out j (by omega)
      generalize [n0, n1, n2, n3].getD j 0 = x at HTS hcell
      have HX64 := Aside0.mk (HF.out x HTS.out.2)
      go_upto_region 8 with fail
      clear hcell
      go_wp2_with (first
        | (go_at_call 26; (with_reducible show Calls _ _ #[_, _] _ _); refine (fmt_calls x HX64.out _ (Glob.below HG.out HB6.out)).mono ?_; rintro e w7 ⟨rfl, hb⟩; have HB7 := Aside0.mk (below_step HB6.out hb); have HO7 := Aside0.mk (pw_own_below HO6.out hb); have HA7 := Aside0.mk ((hb.block g4 (Array.getElem?_eq_some_iff.1 HA6.out).1).trans HA6.out); clear hb HO6 HB6 HA6)
        | ((with_reducible refine gate_builtin (b := .append) (xs := #[.tmp 27, .tmp 30]) rfl ?_); go_must (refine print_append (w0 := w) w.heap.size rfl (.tmp 27) (.tmp 30) 37 9 (.string ⟨#[]⟩) 16 rfl Tryd.underlying37 eInfoStr rfl (by decide) u3 (strL ws) (.string ⟨(decDigits x).toArray⟩) rfl rfl rfl HO7.out HB7.out HB7.out.size (by have := HW6.out; subst this; simp [strL]; omega) ?_; intro v1 w8 hN hB hg hat; have HN8 := Aside0.mk hN; have HB8 := Aside0.mk hB; have HA8 := Aside0.mk ((hg.block g4 (Array.getElem?_eq_some_iff.1 HA7.out).1 (own_ne HO7.out HA7.out (by decide))).trans HA7.out); clear hN hB hg hat HO7 HB7 HA7)))
      exact ⟨⟨j + 1, ws ++ [decDigits x], by omega, by go_num, ⟨by rw [HW6.out, HTS.out.1, List.map_append]; rfl⟩, ⟨by rw [strL_append]; exact HN8.out⟩, HB8, HA8⟩, by simp [RowKit.intOf]; omega⟩
    · obtain rfl : j = 4 := by omega
      have hlen : (strL ws).length = 5 := by rw [HW6.out, HL.out]; rfl
      have hw20 := Aside0.mk (show ∀ x ∈ ws, x.length ≤ 20 by
        intro x hx
        rw [HW6.out] at hx
        rcases List.mem_cons.mp hx with rfl | hx
        · simp
        · obtain ⟨y, hy, rfl⟩ := List.mem_map.mp hx
          exact dec_len (HF.out y (List.mem_of_mem_take hy)))
      have hfin := Aside0.mk (show ws = [headOf 4] :: l.map decDigits by rw [HW6.out, List.take_of_length_le (by rw [HL.out]; exact Nat.le_refl 4)]; rfl)
      obtain ⟨g, cap, rfl⟩ : ∃ g cap, u3 = .slice (some ⟨g, 0, none⟩) 5 cap := by
        rcases HO6.out.2 with ⟨h, h2⟩ | ⟨g, cap, cur, h, _⟩
        · rw [hlen] at h2; cases h2
        · rw [hlen] at h; exact ⟨g, cap, h⟩
      have HJ := Aside0.mk (joinV_calls g cap 5 w.heap.size ws _ (by simpa [strL] using hlen) (by decide) hw20.out (by decide) HO6.out)
      clear hlen HO6
      go_wp2_with (go_at_call 33; refine HJ.out.mono ?_; rintro e w7 ⟨rfl, hb⟩; have HB7 := Aside0.mk (below_step HB6.out hb); clear hb)
      go_ret
      exact ⟨by rw [← hfin.out]; rfl, HB7.out⟩

set_option maxHeartbeats 4000000 in
set_option maxRecDepth 100000 in
theorem put_none (kd d n p i k : Nat) (hm : mayB ⟨kd, d, n, p, i, k⟩ = false) (w : World) :
    Calls Tryd.prog 16 #[.agg #[.int .u8 kd, .int .u64 d, .int .u64 n, .int .u64 p, .int .u64 i, .int .u64 k]] w fun e w' => e = .returned (.string ⟨#[]⟩) ∧ Below w.heap.size w w' := by
  have HM := Aside0.mk hm
  clear hm
  go_enter Tryd.func16, Tryd.ntmps16
  go_wp2_with (go_at_call 17; refine (may_callsV _ d n p i k false _ HM.out).mono ?_; rintro e w1 ⟨rfl, hb⟩; have HB1 := Aside0.mk (below_step (below_alloc (Below.refl _ _) _) hb); clear hb)
  go_ret
  exact ⟨rfl, HB1.out⟩
theorem num_fits {a : Nm} (hf : a.Fits) : ∀ x ∈ numL a, x < 18446744073709551616 := by
  intro x hx
  have h := List.mem_of_mem_take hx
  simp only [List.mem_cons, List.not_mem_nil, or_false] at h
  have h1 := hf.d; have h2 := hf.n; have h3 := hf.p; have h4 := hf.i; have h5 := hf.k
  rcases h with rfl | rfl | rfl | rfl
  · unfold num0; (repeat split) <;> omega
  · unfold num1
    split
    · omega
    · split <;> omega
  · unfold num2
    split
    · omega
    · split <;> omega
  · unfold num3
    split
    · omega
    · split <;> omega
theorem mayB_kd {a : Nm} (h : mayB a = true) : a.kd = 1 ∨ a.kd = 2 ∨ a.kd = 3 ∨ a.kd = 4 := by
  have := of_decide_eq_true h
  omega
theorem put_calls (kd d n p i k : Nat) (hf : (⟨kd, d, n, p, i, k⟩ : Nm).Fits) (w : World) (hG : Glob w) :
    Calls Tryd.prog 16 #[.agg #[.int .u8 kd, .int .u64 d, .int .u64 n, .int .u64 p, .int .u64 i, .int .u64 k]] w fun e w' => e = .returned (.string ⟨(putB ⟨kd, d, n, p, i, k⟩).toArray⟩) ∧ Below w.heap.size w w' := by
  cases hm : mayB ⟨kd, d, n, p, i, k⟩ with
  | false =>
    refine (put_none kd d n p i k hm w).mono ?_
    rintro e w' ⟨rfl, hb⟩
    exact ⟨by rw [putB, hm]; rfl, hb⟩
  | true =>
    have e : putB ⟨kd, d, n, p, i, k⟩ = glue ([headOf kd] :: (numL ⟨kd, d, n, p, i, k⟩).map decDigits) := by rw [putB, hm]; rfl
    rw [e]
    have hl := num_fits hf
    rcases mayB_kd hm with h | h | h | h
    · exact put_1 kd d n p i k _ _ _ _ h hm rfl rfl rfl rfl _ rfl hl w hG
    · exact put_2 kd d n p i k _ _ _ _ h hm rfl rfl rfl rfl _ rfl hl w hG
    · exact put_3 kd d n p i k _ _ _ _ h hm rfl rfl rfl rfl _ rfl hl w hG
    · exact put_4 kd d n p i k _ _ _ _ h hm rfl rfl rfl rfl _ rfl hl w hG
end Go.Proofs.YtkpfpgggkbaefaaDoor
