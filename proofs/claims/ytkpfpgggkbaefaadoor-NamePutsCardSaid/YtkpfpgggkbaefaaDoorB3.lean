import Derived.Test.YtkpfpgggkbaefaaDoorB2
/-! The reference of chapter 04: May, Put. -/
set_option linter.unusedVariables false
set_option linter.unusedSimpArgs false
namespace Go.Proofs.YtkpfpgggkbaefaaDoor
open Go.RowKit Go.Proofs.YtkpfpgggkbaefaaDoorW.PrintWords Go.Proofs.YtkpfpgggkbaefaaDoorW.PrintLast Go.Proofs.YtkpfpgggkbaefaaDoorW.PrintMore Go.Lib Plain

set_option maxHeartbeats 2000000 in
set_option maxRecDepth 100000 in
theorem rmay_calls (kd d n p i k : Nat) (w : World) : Calls Tryd.prog 18 #[.agg #[.int .u8 kd, .int .u64 d, .int .u64 n, .int .u64 p, .int .u64 i, .int .u64 k]] w fun e w' => e = .returned (.bool (mayB ⟨kd, d, n, p, i, k⟩)) ∧ Below w.heap.size w w' := by
  go_enter Tryd.func18, Tryd.ntmps18
  go_wp2_with (go_at_call 30; refine (nums_calls kd d n p i k _).mono ?_; rintro e w1 ⟨v, rfl, _, hb⟩; have HB1 := Aside0.mk (below_step (below_alloc (Below.refl _ _) _) hb); clear hb)
  go_ret
  exact ⟨rfl, HB1.out⟩
theorem rdigitsV (u : Nat) (s : List UInt8) (hs : decDigits u = s) (hu : u < 18446744073709551616) (w : World) : Calls Tryd.prog 31 #[.int .u64 u] w fun e w' => e = .returned (.string ⟨s.toArray⟩) ∧ Below w.heap.size w w' := by
  rw [← hs]
  exact rdigits_calls u hu w
theorem glue_flat : ∀ (w : List UInt8) (ws : List (List UInt8)), glue (w :: ws) = w ++ ws.flatMap (45 :: ·)
  | w, [] => by simp [glue]
  | w, x :: r => by
    show w ++ 45 :: glue (x :: r) = _
    rw [glue_flat x r]
    simp
theorem add_str (a b c : List UInt8) (h : a ++ b = c) (ha : a.length ≤ 8000) (hb : b.length ≤ 8000) (W : World) : (Op.stringOp .add ⟨a.toArray⟩ ⟨b.toArray⟩).run Tryd.prog W = .ok (.string ⟨c.toArray⟩) W := by
  rw [← h]
  exact run_string_add_lists W a b (by omega) (by omega)
theorem flat_len : ∀ (l : List Nat), (∀ x ∈ l, x < 18446744073709551616) → ((l.map decDigits).flatMap (45 :: ·)).length ≤ 21 * l.length
  | [], _ => by simp
  | x :: r, h => by
    have h1 := flat_len r (fun y hy => h y (by simp [hy]))
    have h2 := dec_len (h x (by simp))
    rw [List.map_cons, List.flatMap_cons, List.length_append, List.length_cons, List.length_cons]
    omega
theorem arrC_cell {w : World} {g : Nat} {t : TypeId} {l : List Nat} (h : w.heap[g]? = some (.cells (arrC l) t (0, 0))) (j : Nat) (hj : j < l.length) : w.cell? ⟨g, j, none⟩ = some (.int .u64 (l[j] : Nat)) := by
  simp [World.cell?, h, arrC, hj]
theorem hfitj {l : List Nat} (h : ∀ x ∈ l, x < 18446744073709551616) (j : Nat) (hj : j < l.length) : l[j] < 18446744073709551616 := h _ (List.getElem_mem hj)
set_option maxHeartbeats 2000000 in
set_option maxRecDepth 100000 in
theorem rput_none (kd d n p i k : Nat) (hm : mayB ⟨kd, d, n, p, i, k⟩ = false) (w : World) : Calls Tryd.prog 15 #[.agg #[.int .u8 kd, .int .u64 d, .int .u64 n, .int .u64 p, .int .u64 i, .int .u64 k]] w fun e w' => e = .returned (.string ⟨#[]⟩) ∧ Below w.heap.size w w' := by
  have HN := Aside0.mk (fun W => nums_calls kd d n p i k W)
  have HM := Aside0.mk hm
  clear hm
  go_enter Tryd.func15, Tryd.ntmps15
  go_wp2_with (go_at_call 30; refine (HN.out _).mono ?_; rintro e w1 ⟨v, rfl, _, hb⟩; rw [HM.out]; have HB1 := Aside0.mk (below_step (below_alloc (Below.refl _ _) _) hb); clear hb)
  go_ret
  exact ⟨rfl, HB1.out⟩
set_option maxHeartbeats 4000000 in
set_option maxRecDepth 100000 in
theorem rput_1 (d n p i k : Nat) (hm : mayB ⟨1, d, n, p, i, k⟩ = true) (l : List Nat) (hl : numL ⟨1, d, n, p, i, k⟩ = l) (hl4 : l.length ≤ 4) (hfit : ∀ x ∈ l, x < 18446744073709551616) (w : World) : Calls Tryd.prog 15 #[.agg #[.int .u8 1, .int .u64 d, .int .u64 n, .int .u64 p, .int .u64 i, .int .u64 k]] w fun e w' => e = .returned (.string ⟨(glue ([115] :: l.map decDigits)).toArray⟩) ∧ Below w.heap.size w w' := by
  have HN := Aside0.mk (fun W => nums_calls 1 d n p i k W)
  have HM := Aside0.mk hm
  have HL := Aside0.mk hl
  have HF := Aside0.mk hfit
  have HL4 := Aside0.mk hl4
  clear hm hl hfit hl4
  go_enter Tryd.func15, Tryd.ntmps15
  go_upto_region 4 with (go_at_call 30; refine (HN.out _).mono ?_; rintro e w1 ⟨v, rfl, hv, hb⟩; obtain ⟨g, rfl, hg⟩ := hv HM.out; rw [HM.out]; rw [HL.out] at hg; have HG1 := Aside0.mk hg; have HB1 := Aside0.mk (below_step (below_alloc (Below.refl _ _) _) hb); have hc0 := pw_cell_below hb (a := ⟨w.heap.size, 0, none⟩) (v := .int .u8 1) (by go_simp); clear hb hg hv; rw [HL.out])
  have hc1 := cell_allocs hc0 (.cells #[.string ⟨#[]⟩, .string ⟨#[115]⟩, .string ⟨#[98]⟩, .string ⟨#[116]⟩, .string ⟨#[106]⟩] 9)
  have hbx := below_alloc (Below.refl _ w1) (.cells #[.string ⟨#[]⟩, .string ⟨#[115]⟩, .string ⟨#[98]⟩, .string ⟨#[116]⟩, .string ⟨#[106]⟩] 9)
  have HB2 := Aside0.mk (below_step HB1.out hbx)
  have HG2 := Aside0.mk ((hbx.block g (Array.getElem?_eq_some_iff.1 HG1.out).1).trans HG1.out)
  clear hbx
  go_upto_region 6 with fail
  clear hc0 hc1 HB1 HG1
  change Code.wp _ _ _ _ (w1.alloc (.cells #[.string ⟨#[]⟩, .string ⟨#[115]⟩, .string ⟨#[98]⟩, .string ⟨#[116]⟩, .string ⟨#[106]⟩] 9)) at ⊢
  generalize w1.alloc (.cells #[.string ⟨#[]⟩, .string ⟨#[115]⟩, .string ⟨#[98]⟩, .string ⟨#[116]⟩, .string ⟨#[106]⟩] 9) = w2 at HB2 HG2 ⊢
  generalize hN : l.length = N
  have HN2 := Aside0.mk hN
  clear hN
  go_loopw [5, 6] (fun v5 v6 wr => ∃ (j : Nat) (s : List UInt8), j ≤ N ∧ v6 = .int .i64 j ∧ v5 = .string ⟨s.toArray⟩ ∧ Aside0 (s = [115] ++ ((l.take j).map decDigits).flatMap (45 :: ·)) ∧ Aside0 (Below w.heap.size w wr) ∧ Aside0 (wr.heap[g]? = some (.cells (arrC l) 23 (0, 0)))) (fun _ v6 _ => N - (RowKit.intOf v6).toNat)
  case atStart => exact ⟨0, [115], Nat.zero_le _, rfl, rfl, ⟨by simp⟩, HB2, HG2⟩
  case round =>
    obtain ⟨j, s, hj, rfl, rfl, HS, HB3, HG3⟩ := hrel
    by_cases hlt : j < N
    · have hltI : (j : Int) < (N : Int) := by omega
      have hjl : j < l.length := by rw [HN2.out]; exact hlt
      have hcell := arrC_cell HG3.out j hjl
      have HTK := Aside0.mk (List.take_succ_eq_append_getElem hjl)
      have HX := Aside0.mk (hfitj HF.out j hjl)
      have HSL := Aside0.mk (show s.length ≤ 100 by
        rw [HS.out, List.length_append]
        have h1 := flat_len (l.take j) (fun x hx => HF.out x (List.mem_of_mem_take hx))
        have h2 : (l.take j).length ≤ 4 := by rw [List.length_take]; have := HL4.out; have := HN2.out; omega
        simp only [List.length_cons, List.length_nil]
        omega)
      generalize l[j] = x at hcell HTK HX
      obtain ⟨dx, hdx⟩ : ∃ t, decDigits x = t := ⟨_, rfl⟩
      obtain ⟨s2, hs2⟩ : ∃ t, s ++ [45] = t := ⟨_, rfl⟩
      obtain ⟨s3, hs3⟩ : ∃ t, s2 ++ dx = t := ⟨_, rfl⟩
      have hdl : dx.length ≤ 20 := by rw [← hdx]; exact dec_len HX.out
      have hadd1 := add_str s [45] s2 hs2 (by have := HSL.out; omega) (by simp)
      have hadd2 := add_str s2 dx s3 hs3 (by rw [← hs2, List.length_append]; have := HSL.out; simp only [List.length_cons, List.length_nil]; omega) (by omega)
      have HD := Aside0.mk hdx
      have H3 := Aside0.mk (show s3 = [115] ++ ((l.take (j + 1)).map decDigits).flatMap (45 :: ·) by
        rw [HTK.out, List.map_append, List.flatMap_append, ← hs3, ← hs2, HS.out]
        simp [hdx])
      clear hdx hs2 hs3 hdl hjl
      go_upto_region 7 with (go_at_call 31; refine (rdigitsV x dx HD.out HX.out _).mono ?_; rintro e w4 ⟨rfl, hb⟩; have HB4 := Aside0.mk (below_step HB3.out hb); have HG4 := Aside0.mk ((hb.block g (Array.getElem?_eq_some_iff.1 HG3.out).1).trans HG3.out); clear hb)
      clear hadd1 hadd2 hcell
      have hw1 : wrap64 ((j : Int) + 1) = ((j + 1 : Nat) : Int) := by unfold wrap64; have := HL4.out; have := HN2.out; omega
      go_wp2
      rw [hw1]
      exact ⟨⟨j + 1, s3, by omega, rfl, rfl, H3, HB4, HG4⟩, by show N - (j + 1) < N - j; omega⟩
    · obtain rfl : j = N := by omega
      have hfin := Aside0.mk (show s = glue ([115] :: l.map decDigits) by rw [HS.out, glue_flat, List.take_of_length_le (by rw [HN2.out]; exact Nat.le_refl _)])
      go_wp2
      go_ret
      exact ⟨by rw [← hfin.out]; rfl, HB3.out⟩
set_option maxHeartbeats 4000000 in
set_option maxRecDepth 100000 in
theorem rput_2 (d n p i k : Nat) (hm : mayB ⟨2, d, n, p, i, k⟩ = true) (l : List Nat) (hl : numL ⟨2, d, n, p, i, k⟩ = l) (hl4 : l.length ≤ 4) (hfit : ∀ x ∈ l, x < 18446744073709551616) (w : World) : Calls Tryd.prog 15 #[.agg #[.int .u8 2, .int .u64 d, .int .u64 n, .int .u64 p, .int .u64 i, .int .u64 k]] w fun e w' => e = .returned (.string ⟨(glue ([98] :: l.map decDigits)).toArray⟩) ∧ Below w.heap.size w w' := by
  have HN := Aside0.mk (fun W => nums_calls 2 d n p i k W)
  have HM := Aside0.mk hm
  have HL := Aside0.mk hl
  have HF := Aside0.mk hfit
  have HL4 := Aside0.mk hl4
  clear hm hl hfit hl4
  go_enter Tryd.func15, Tryd.ntmps15
  go_upto_region 4 with (go_at_call 30; refine (HN.out _).mono ?_; rintro e w1 ⟨v, rfl, hv, hb⟩; obtain ⟨g, rfl, hg⟩ := hv HM.out; rw [HM.out]; rw [HL.out] at hg; have HG1 := Aside0.mk hg; have HB1 := Aside0.mk (below_step (below_alloc (Below.refl _ _) _) hb); have hc0 := pw_cell_below hb (a := ⟨w.heap.size, 0, none⟩) (v := .int .u8 2) (by go_simp); clear hb hg hv; rw [HL.out])
  have hc1 := cell_allocs hc0 (.cells #[.string ⟨#[]⟩, .string ⟨#[115]⟩, .string ⟨#[98]⟩, .string ⟨#[116]⟩, .string ⟨#[106]⟩] 9)
  have hbx := below_alloc (Below.refl _ w1) (.cells #[.string ⟨#[]⟩, .string ⟨#[115]⟩, .string ⟨#[98]⟩, .string ⟨#[116]⟩, .string ⟨#[106]⟩] 9)
  have HB2 := Aside0.mk (below_step HB1.out hbx)
  have HG2 := Aside0.mk ((hbx.block g (Array.getElem?_eq_some_iff.1 HG1.out).1).trans HG1.out)
  clear hbx
  go_upto_region 6 with fail
  clear hc0 hc1 HB1 HG1
  change Code.wp _ _ _ _ (w1.alloc (.cells #[.string ⟨#[]⟩, .string ⟨#[115]⟩, .string ⟨#[98]⟩, .string ⟨#[116]⟩, .string ⟨#[106]⟩] 9)) at ⊢
  generalize w1.alloc (.cells #[.string ⟨#[]⟩, .string ⟨#[115]⟩, .string ⟨#[98]⟩, .string ⟨#[116]⟩, .string ⟨#[106]⟩] 9) = w2 at HB2 HG2 ⊢
  generalize hN : l.length = N
  have HN2 := Aside0.mk hN
  clear hN
  go_loopw [5, 6] (fun v5 v6 wr => ∃ (j : Nat) (s : List UInt8), j ≤ N ∧ v6 = .int .i64 j ∧ v5 = .string ⟨s.toArray⟩ ∧ Aside0 (s = [98] ++ ((l.take j).map decDigits).flatMap (45 :: ·)) ∧ Aside0 (Below w.heap.size w wr) ∧ Aside0 (wr.heap[g]? = some (.cells (arrC l) 23 (0, 0)))) (fun _ v6 _ => N - (RowKit.intOf v6).toNat)
  case atStart => exact ⟨0, [98], Nat.zero_le _, rfl, rfl, ⟨by simp⟩, HB2, HG2⟩
  case round =>
    obtain ⟨j, s, hj, rfl, rfl, HS, HB3, HG3⟩ := hrel
    by_cases hlt : j < N
    · have hltI : (j : Int) < (N : Int) := by omega
      have hjl : j < l.length := by rw [HN2.out]; exact hlt
      have hcell := arrC_cell HG3.out j hjl
      have HTK := Aside0.mk (List.take_succ_eq_append_getElem hjl)
      have HX := Aside0.mk (hfitj HF.out j hjl)
      have HSL := Aside0.mk (show s.length ≤ 100 by
        rw [HS.out, List.length_append]
        have h1 := flat_len (l.take j) (fun x hx => HF.out x (List.mem_of_mem_take hx))
        have h2 : (l.take j).length ≤ 4 := by rw [List.length_take]; have := HL4.out; have := HN2.out; omega
        simp only [List.length_cons, List.length_nil]
        omega)
      generalize l[j] = x at hcell HTK HX
      obtain ⟨dx, hdx⟩ : ∃ t, decDigits x = t := ⟨_, rfl⟩
      obtain ⟨s2, hs2⟩ : ∃ t, s ++ [45] = t := ⟨_, rfl⟩
      obtain ⟨s3, hs3⟩ : ∃ t, s2 ++ dx = t := ⟨_, rfl⟩
      have hdl : dx.length ≤ 20 := by rw [← hdx]; exact dec_len HX.out
      have hadd1 := add_str s [45] s2 hs2 (by have := HSL.out; omega) (by simp)
      have hadd2 := add_str s2 dx s3 hs3 (by rw [← hs2, List.length_append]; have := HSL.out; simp only [List.length_cons, List.length_nil]; omega) (by omega)
      have HD := Aside0.mk hdx
      have H3 := Aside0.mk (show s3 = [98] ++ ((l.take (j + 1)).map decDigits).flatMap (45 :: ·) by
        rw [HTK.out, List.map_append, List.flatMap_append, ← hs3, ← hs2, HS.out]
        simp [hdx])
      clear hdx hs2 hs3 hdl hjl
      go_upto_region 7 with (go_at_call 31; refine (rdigitsV x dx HD.out HX.out _).mono ?_; rintro e w4 ⟨rfl, hb⟩; have HB4 := Aside0.mk (below_step HB3.out hb); have HG4 := Aside0.mk ((hb.block g (Array.getElem?_eq_some_iff.1 HG3.out).1).trans HG3.out); clear hb)
      clear hadd1 hadd2 hcell
      have hw1 : wrap64 ((j : Int) + 1) = ((j + 1 : Nat) : Int) := by unfold wrap64; have := HL4.out; have := HN2.out; omega
      go_wp2
      rw [hw1]
      exact ⟨⟨j + 1, s3, by omega, rfl, rfl, H3, HB4, HG4⟩, by show N - (j + 1) < N - j; omega⟩
    · obtain rfl : j = N := by omega
      have hfin := Aside0.mk (show s = glue ([98] :: l.map decDigits) by rw [HS.out, glue_flat, List.take_of_length_le (by rw [HN2.out]; exact Nat.le_refl _)])
      go_wp2
      go_ret
      exact ⟨by rw [← hfin.out]; rfl, HB3.out⟩
set_option maxHeartbeats 4000000 in
set_option maxRecDepth 100000 in
theorem rput_3 (d n p i k : Nat) (hm : mayB ⟨3, d, n, p, i, k⟩ = true) (l : List Nat) (hl : numL ⟨3, d, n, p, i, k⟩ = l) (hl4 : l.length ≤ 4) (hfit : ∀ x ∈ l, x < 18446744073709551616) (w : World) : Calls Tryd.prog 15 #[.agg #[.int .u8 3, .int .u64 d, .int .u64 n, .int .u64 p, .int .u64 i, .int .u64 k]] w fun e w' => e = .returned (.string ⟨(glue ([116] :: l.map decDigits)).toArray⟩) ∧ Below w.heap.size w w' := by
  have HN := Aside0.mk (fun W => nums_calls 3 d n p i k W)
  have HM := Aside0.mk hm
  have HL := Aside0.mk hl
  have HF := Aside0.mk hfit
  have HL4 := Aside0.mk hl4
  clear hm hl hfit hl4
  go_enter Tryd.func15, Tryd.ntmps15
  go_upto_region 4 with (go_at_call 30; refine (HN.out _).mono ?_; rintro e w1 ⟨v, rfl, hv, hb⟩; obtain ⟨g, rfl, hg⟩ := hv HM.out; rw [HM.out]; rw [HL.out] at hg; have HG1 := Aside0.mk hg; have HB1 := Aside0.mk (below_step (below_alloc (Below.refl _ _) _) hb); have hc0 := pw_cell_below hb (a := ⟨w.heap.size, 0, none⟩) (v := .int .u8 3) (by go_simp); clear hb hg hv; rw [HL.out])
  have hc1 := cell_allocs hc0 (.cells #[.string ⟨#[]⟩, .string ⟨#[115]⟩, .string ⟨#[98]⟩, .string ⟨#[116]⟩, .string ⟨#[106]⟩] 9)
  have hbx := below_alloc (Below.refl _ w1) (.cells #[.string ⟨#[]⟩, .string ⟨#[115]⟩, .string ⟨#[98]⟩, .string ⟨#[116]⟩, .string ⟨#[106]⟩] 9)
  have HB2 := Aside0.mk (below_step HB1.out hbx)
  have HG2 := Aside0.mk ((hbx.block g (Array.getElem?_eq_some_iff.1 HG1.out).1).trans HG1.out)
  clear hbx
  go_upto_region 6 with fail
  clear hc0 hc1 HB1 HG1
  change Code.wp _ _ _ _ (w1.alloc (.cells #[.string ⟨#[]⟩, .string ⟨#[115]⟩, .string ⟨#[98]⟩, .string ⟨#[116]⟩, .string ⟨#[106]⟩] 9)) at ⊢
  generalize w1.alloc (.cells #[.string ⟨#[]⟩, .string ⟨#[115]⟩, .string ⟨#[98]⟩, .string ⟨#[116]⟩, .string ⟨#[106]⟩] 9) = w2 at HB2 HG2 ⊢
  generalize hN : l.length = N
  have HN2 := Aside0.mk hN
  clear hN
  go_loopw [5, 6] (fun v5 v6 wr => ∃ (j : Nat) (s : List UInt8), j ≤ N ∧ v6 = .int .i64 j ∧ v5 = .string ⟨s.toArray⟩ ∧ Aside0 (s = [116] ++ ((l.take j).map decDigits).flatMap (45 :: ·)) ∧ Aside0 (Below w.heap.size w wr) ∧ Aside0 (wr.heap[g]? = some (.cells (arrC l) 23 (0, 0)))) (fun _ v6 _ => N - (RowKit.intOf v6).toNat)
  case atStart => exact ⟨0, [116], Nat.zero_le _, rfl, rfl, ⟨by simp⟩, HB2, HG2⟩
  case round =>
    obtain ⟨j, s, hj, rfl, rfl, HS, HB3, HG3⟩ := hrel
    by_cases hlt : j < N
    · have hltI : (j : Int) < (N : Int) := by omega
      have hjl : j < l.length := by rw [HN2.out]; exact hlt
      have hcell := arrC_cell HG3.out j hjl
      have HTK := Aside0.mk (List.take_succ_eq_append_getElem hjl)
      have HX := Aside0.mk (hfitj HF.out j hjl)
      have HSL := Aside0.mk (show s.length ≤ 100 by
        rw [HS.out, List.length_append]
        have h1 := flat_len (l.take j) (fun x hx => HF.out x (List.mem_of_mem_take hx))
        have h2 : (l.take j).length ≤ 4 := by rw [List.length_take]; have := HL4.out; have := HN2.out; omega
        simp only [List.length_cons, List.length_nil]
        omega)
      generalize l[j] = x at hcell HTK HX
      obtain ⟨dx, hdx⟩ : ∃ t, decDigits x = t := ⟨_, rfl⟩
      obtain ⟨s2, hs2⟩ : ∃ t, s ++ [45] = t := ⟨_, rfl⟩
      obtain ⟨s3, hs3⟩ : ∃ t, s2 ++ dx = t := ⟨_, rfl⟩
      have hdl : dx.length ≤ 20 := by rw [← hdx]; exact dec_len HX.out
      have hadd1 := add_str s [45] s2 hs2 (by have := HSL.out; omega) (by simp)
      have hadd2 := add_str s2 dx s3 hs3 (by rw [← hs2, List.length_append]; have := HSL.out; simp only [List.length_cons, List.length_nil]; omega) (by omega)
      have HD := Aside0.mk hdx
      have H3 := Aside0.mk (show s3 = [116] ++ ((l.take (j + 1)).map decDigits).flatMap (45 :: ·) by
        rw [HTK.out, List.map_append, List.flatMap_append, ← hs3, ← hs2, HS.out]
        simp [hdx])
      clear hdx hs2 hs3 hdl hjl
      go_upto_region 7 with (go_at_call 31; refine (rdigitsV x dx HD.out HX.out _).mono ?_; rintro e w4 ⟨rfl, hb⟩; have HB4 := Aside0.mk (below_step HB3.out hb); have HG4 := Aside0.mk ((hb.block g (Array.getElem?_eq_some_iff.1 HG3.out).1).trans HG3.out); clear hb)
      clear hadd1 hadd2 hcell
      have hw1 : wrap64 ((j : Int) + 1) = ((j + 1 : Nat) : Int) := by unfold wrap64; have := HL4.out; have := HN2.out; omega
      go_wp2
      rw [hw1]
      exact ⟨⟨j + 1, s3, by omega, rfl, rfl, H3, HB4, HG4⟩, by show N - (j + 1) < N - j; omega⟩
    · obtain rfl : j = N := by omega
      have hfin := Aside0.mk (show s = glue ([116] :: l.map decDigits) by rw [HS.out, glue_flat, List.take_of_length_le (by rw [HN2.out]; exact Nat.le_refl _)])
      go_wp2
      go_ret
      exact ⟨by rw [← hfin.out]; rfl, HB3.out⟩
set_option maxHeartbeats 4000000 in
set_option maxRecDepth 100000 in
theorem rput_4 (d n p i k : Nat) (hm : mayB ⟨4, d, n, p, i, k⟩ = true) (l : List Nat) (hl : numL ⟨4, d, n, p, i, k⟩ = l) (hl4 : l.length ≤ 4) (hfit : ∀ x ∈ l, x < 18446744073709551616) (w : World) : Calls Tryd.prog 15 #[.agg #[.int .u8 4, .int .u64 d, .int .u64 n, .int .u64 p, .int .u64 i, .int .u64 k]] w fun e w' => e = .returned (.string ⟨(glue ([106] :: l.map decDigits)).toArray⟩) ∧ Below w.heap.size w w' := by
  have HN := Aside0.mk (fun W => nums_calls 4 d n p i k W)
  have HM := Aside0.mk hm
  have HL := Aside0.mk hl
  have HF := Aside0.mk hfit
  have HL4 := Aside0.mk hl4
  clear hm hl hfit hl4
  go_enter Tryd.func15, Tryd.ntmps15
  go_upto_region 4 with (go_at_call 30; refine (HN.out _).mono ?_; rintro e w1 ⟨v, rfl, hv, hb⟩; obtain ⟨g, rfl, hg⟩ := hv HM.out; rw [HM.out]; rw [HL.out] at hg; have HG1 := Aside0.mk hg; have HB1 := Aside0.mk (below_step (below_alloc (Below.refl _ _) _) hb); have hc0 := pw_cell_below hb (a := ⟨w.heap.size, 0, none⟩) (v := .int .u8 4) (by go_simp); clear hb hg hv; rw [HL.out])
  have hc1 := cell_allocs hc0 (.cells #[.string ⟨#[]⟩, .string ⟨#[115]⟩, .string ⟨#[98]⟩, .string ⟨#[116]⟩, .string ⟨#[106]⟩] 9)
  have hbx := below_alloc (Below.refl _ w1) (.cells #[.string ⟨#[]⟩, .string ⟨#[115]⟩, .string ⟨#[98]⟩, .string ⟨#[116]⟩, .string ⟨#[106]⟩] 9)
  have HB2 := Aside0.mk (below_step HB1.out hbx)
  have HG2 := Aside0.mk ((hbx.block g (Array.getElem?_eq_some_iff.1 HG1.out).1).trans HG1.out)
  clear hbx
  go_upto_region 6 with fail
  clear hc0 hc1 HB1 HG1
  change Code.wp _ _ _ _ (w1.alloc (.cells #[.string ⟨#[]⟩, .string ⟨#[115]⟩, .string ⟨#[98]⟩, .string ⟨#[116]⟩, .string ⟨#[106]⟩] 9)) at ⊢
  generalize w1.alloc (.cells #[.string ⟨#[]⟩, .string ⟨#[115]⟩, .string ⟨#[98]⟩, .string ⟨#[116]⟩, .string ⟨#[106]⟩] 9) = w2 at HB2 HG2 ⊢
  generalize hN : l.length = N
  have HN2 := Aside0.mk hN
  clear hN
  go_loopw [5, 6] (fun v5 v6 wr => ∃ (j : Nat) (s : List UInt8), j ≤ N ∧ v6 = .int .i64 j ∧ v5 = .string ⟨s.toArray⟩ ∧ Aside0 (s = [106] ++ ((l.take j).map decDigits).flatMap (45 :: ·)) ∧ Aside0 (Below w.heap.size w wr) ∧ Aside0 (wr.heap[g]? = some (.cells (arrC l) 23 (0, 0)))) (fun _ v6 _ => N - (RowKit.intOf v6).toNat)
  case atStart => exact ⟨0, [106], Nat.zero_le _, rfl, rfl, ⟨by simp⟩, HB2, HG2⟩
  case round =>
    obtain ⟨j, s, hj, rfl, rfl, HS, HB3, HG3⟩ := hrel
    by_cases hlt : j < N
    · have hltI : (j : Int) < (N : Int) := by omega
      have hjl : j < l.length := by rw [HN2.out]; exact hlt
      have hcell := arrC_cell HG3.out j hjl
      have HTK := Aside0.mk (List.take_succ_eq_append_getElem hjl)
      have HX := Aside0.mk (hfitj HF.out j hjl)
      have HSL := Aside0.mk (show s.length ≤ 100 by
        rw [HS.out, List.length_append]
        have h1 := flat_len (l.take j) (fun x hx => HF.out x (List.mem_of_mem_take hx))
        have h2 : (l.take j).length ≤ 4 := by rw [List.length_take]; have := HL4.out; have := HN2.out; omega
        simp only [List.length_cons, List.length_nil]
        omega)
      generalize l[j] = x at hcell HTK HX
      obtain ⟨dx, hdx⟩ : ∃ t, decDigits x = t := ⟨_, rfl⟩
      obtain ⟨s2, hs2⟩ : ∃ t, s ++ [45] = t := ⟨_, rfl⟩
      obtain ⟨s3, hs3⟩ : ∃ t, s2 ++ dx = t := ⟨_, rfl⟩
      have hdl : dx.length ≤ 20 := by rw [← hdx]; exact dec_len HX.out
      have hadd1 := add_str s [45] s2 hs2 (by have := HSL.out; omega) (by simp)
      have hadd2 := add_str s2 dx s3 hs3 (by rw [← hs2, List.length_append]; have := HSL.out; simp only [List.length_cons, List.length_nil]; omega) (by omega)
      have HD := Aside0.mk hdx
      have H3 := Aside0.mk (show s3 = [106] ++ ((l.take (j + 1)).map decDigits).flatMap (45 :: ·) by
        rw [HTK.out, List.map_append, List.flatMap_append, ← hs3, ← hs2, HS.out]
        simp [hdx])
      clear hdx hs2 hs3 hdl hjl
      go_upto_region 7 with (go_at_call 31; refine (rdigitsV x dx HD.out HX.out _).mono ?_; rintro e w4 ⟨rfl, hb⟩; have HB4 := Aside0.mk (below_step HB3.out hb); have HG4 := Aside0.mk ((hb.block g (Array.getElem?_eq_some_iff.1 HG3.out).1).trans HG3.out); clear hb)
      clear hadd1 hadd2 hcell
      have hw1 : wrap64 ((j : Int) + 1) = ((j + 1 : Nat) : Int) := by unfold wrap64; have := HL4.out; have := HN2.out; omega
      go_wp2
      rw [hw1]
      exact ⟨⟨j + 1, s3, by omega, rfl, rfl, H3, HB4, HG4⟩, by show N - (j + 1) < N - j; omega⟩
    · obtain rfl : j = N := by omega
      have hfin := Aside0.mk (show s = glue ([106] :: l.map decDigits) by rw [HS.out, glue_flat, List.take_of_length_le (by rw [HN2.out]; exact Nat.le_refl _)])
      go_wp2
      go_ret
      exact ⟨by rw [← hfin.out]; rfl, HB3.out⟩
theorem rput_calls (kd d n p i k : Nat) (hf : (⟨kd, d, n, p, i, k⟩ : Nm).Fits) (w : World) : Calls Tryd.prog 15 #[.agg #[.int .u8 kd, .int .u64 d, .int .u64 n, .int .u64 p, .int .u64 i, .int .u64 k]] w fun e w' => e = .returned (.string ⟨(putB ⟨kd, d, n, p, i, k⟩).toArray⟩) ∧ Below w.heap.size w w' := by
  cases hm : mayB ⟨kd, d, n, p, i, k⟩ with
  | false =>
    refine (rput_none kd d n p i k hm w).mono ?_
    rintro e w' ⟨rfl, hb⟩
    exact ⟨by rw [put_none_empty hm], hb⟩
  | true =>
    have e : putB ⟨kd, d, n, p, i, k⟩ = glue ([headOf kd] :: (numL ⟨kd, d, n, p, i, k⟩).map decDigits) := by rw [putB, hm]; rfl
    rw [e]
    have hl := num_fits hf
    have hl4 : (numL ⟨kd, d, n, p, i, k⟩).length ≤ 4 := by unfold numL; rw [List.length_take]; exact Nat.min_le_right _ _
    rcases mayB_kd hm with h | h | h | h
    · obtain rfl : kd = 1 := h
      exact rput_1 d n p i k hm _ rfl hl4 hl w
    · obtain rfl : kd = 2 := h
      exact rput_2 d n p i k hm _ rfl hl4 hl w
    · obtain rfl : kd = 3 := h
      exact rput_3 d n p i k hm _ rfl hl4 hl w
    · obtain rfl : kd = 4 := h
      exact rput_4 d n p i k hm _ rfl hl4 hl w
end Go.Proofs.YtkpfpgggkbaefaaDoor
