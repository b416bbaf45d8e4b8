import Derived.Test.YtbpnbhccdpobpaaV9
import Derived.Shelf.SlicesE.Clone
/-! direct: New, Copy; what a directory that is not there answers. -/
set_option linter.unusedVariables false
set_option linter.unusedSimpArgs false
namespace Go.Proofs.Ytbpnbhccdpobpaa
open Go Go.RowKit Go.Proofs.YtbpnbhccdpobpaaW.PrintWords Go.Proofs.YtbpnbhccdpobpaaW.PrintLast Go.Proofs.YtbpnbhccdpobpaaW.PrintMore PDirectKnown Go.Maps

theorem raw_below {e base n : Nat} {w W : World} {ok : Nat → Prop} {v : Value} {xs : List (List Value)} (h : (Kd.raw n).R e w base ok v xs) (hb : Below w.heap.size w W) : (Kd.raw n).R e W base ok v xs :=
  R_own_step rfl h (fun k hk => hb.block k (Kd.R_lt h k hk))
theorem cloneActs_calls (v : Value) (okr : Nat → Prop) (xs : List (List Value)) (w : World) (h : Kd.R (Kd.raw 3) 106 w 0 okr v xs) (hl : xs.length < 100000) :
    Calls Try.prog 57 #[v] w fun e w' => ∃ v', e = .returned v' ∧ Kd.R (Kd.raw 3) 106 w' w.heap.size (fun _ => True) v' xs ∧ Below w.heap.size w w' := by
  obtain ⟨_, inner, ⟨hlen, hown⟩, hr⟩ := h
  rcases hown with ⟨h1, h2⟩ | ⟨g, cap, cur, h1, h0, hb, hnc, hcm, hcs, ht⟩
  · subst h1
    refine (AnyE.slices_Clone_nil Try.layActs 0 0 w).mono ?_
    rintro e w' ⟨rfl, rfl⟩
    obtain rfl := List.length_eq_zero_iff.mp h2
    exact ⟨_, rfl, Kd.R_nil _ _ _ _ _, Below.refl _ _⟩
  · subst h1
    have hone : ∀ u ∈ inner, u.oneCell' = true := by
      intro u hu
      obtain ⟨t, ht0, htu⟩ := List.getElem_of_mem hu
      have ht3 : t < xs.length * 3 := by have h9 : inner.length = xs.length * 3 := hlen; omega
      have hq : t / 3 < xs.length := by omega
      have hx := hr.2 (t / 3) _ (List.getElem?_eq_getElem hq)
      refine hx.2.2 u ?_
      have e : ((inner.drop (t / 3 * 3)).take 3)[t % 3]? = some u := by
        rw [List.getElem?_take_of_lt (Nat.mod_lt _ (by decide)), List.getElem?_drop, show t / 3 * 3 + t % 3 = t by omega, List.getElem?_eq_getElem ht0, htu]
      exact List.mem_of_getElem? e
    obtain ⟨i0, hi0, he0⟩ := Option.map_eq_some_iff.mp eInfoAct8
    simp only [Prod.mk.injEq] at he0
    refine (AnyE.slices_Clone Try.layActs i0 (.agg #[.string ⟨#[]⟩, .int .i64 0, .nilFunc]) 3 32 hi0 he0.1 he0.2.1 he0.2.2 rfl (by decide) (fun w => by kernel_rfl) g 0 xs.length cap inner w hlen (by unfold maxLen; omega) (by omega) ?_ hone).mono ?_
    · intro j u hj
      have hjl : j < xs.length * 3 := by have h9 : inner.length = xs.length * 3 := hlen; have := (List.getElem?_eq_some_iff.mp hj).1; omega
      rw [Nat.zero_add, blk_cell hb j, ← hj, ← ht, List.getElem?_take_of_lt (show j < xs.length * (Kd.raw 3).sz from hjl), Array.getElem?_toList]
    · rintro e w' ⟨v', rfl, hown', _, hbel⟩
      exact ⟨v', rfl, ⟨fun _ _ => trivial, inner, hown', hr⟩, hbel⟩
set_option maxHeartbeats 2000000 in
theorem new_calls8 (w : World) : Calls Try.prog 31 #[] w fun e w' => (∃ p, e = .returned (.pointer (some ⟨p, 0, none⟩)) ∧ DirAt w' p (fun k => w.heap.size ≤ k) [] [] 0) ∧ Below w.heap.size w w' := by
  have hmm := @run_makeMap Try.prog
  go_enter Try.func31, Try.ntmps31
  go_wp2
  go_ret
  refine ⟨⟨_, rfl, ⟨⟨w.heap.size, w.heap.size + 1, .slice none 0 0, 0, 0, fun _ => False, ⟨?_, ?_, ?_, Kd.R_nil _ _ _ _ _, by omega⟩, by omega, Nat.le_refl _, by omega, fun _ h => h.elim, Nat.le_refl _, Nat.le_refl _⟩, List.Pairwise.nil, trivial, fun e he => by cases he⟩⟩, ?_⟩
  · have := heap_alloc_new ((w.alloc (.map #[] 0)).alloc (.map #[] 0)) (.cells #[.map (some w.heap.size), .map (some (w.heap.size + 1)), .slice none 0 0] 97)
    simpa only [World.size_alloc, Nat.add_assoc] using this
  · refine ⟨.map [], ?_, Rep.empty⟩
    exact ((World.ownsMap_made w Try.prog 9 (plainElem Try.prog 3)).alloc _).alloc _
  · refine ⟨.map [], ?_, Rep.empty⟩
    have := (World.ownsMap_made (w.alloc (.map #[] 0)) Try.prog 9 (plainElem (H := Unit) Try.prog 3)).alloc (.cells #[.map (some w.heap.size), .map (some (w.heap.size + 1)), .slice none 0 0] 97)
    simpa only [World.size_alloc] using this
  · exact below_alloc (below_alloc (below_alloc (Below.refl _ w) _) _) _
set_option maxHeartbeats 8000000 in
set_option maxRecDepth 100000 in
theorem copy_calls (p : Nat) (ok : Nat → Prop) (dur : List En) (acts : List Ac) (c : Nat) (w : World) (hd : DirAt w p ok dur acts c) (hc : c < 100000) :
    Calls Try.prog 36 #[.pointer (some ⟨p, 0, none⟩)] w fun e w' => (∃ q, e = .returned (.pointer (some ⟨q, 0, none⟩)) ∧ DirAt w' q (fun k => w.heap.size ≤ k) dur acts c) ∧ Below w.heap.size w w' := by
  obtain ⟨bd, bn, v, n1, n2, okr, hin, o1, o2, o3, o4, h2, h3⟩ := hd.out
  have HD := Aside0.mk hd
  have HIN := Aside0.mk hin
  have HLC := Aside0.mk (show n1 + acts.length ≤ c ∧ n2 ≤ c by omega)
  have HL := Aside0.mk (show acts.length < 100000 by omega)
  have hq0 : w.drew.cell? ⟨p, 0, none⟩ = some (.map (some bd)) := cell_of_blk hin.cells 0 rfl
  have hq1 : w.drew.cell? ⟨p, 1, none⟩ = some (.map (some bn)) := cell_of_blk hin.cells 1 rfl
  have hq2 : w.drew.cell? ⟨p, 2, none⟩ = some v := cell_of_blk hin.cells 2 rfl
  clear hd hin h2 h3 o1 o2 o3 o4 hc
  go_enter Try.func36, Try.ntmps36
  go_upto_region 3 with fail
  refine start_ (n := 18) (S := fun w' => w'.cell? ⟨p, 0, none⟩ = some (.map (some bd)) ∧ w'.cell? ⟨p, 1, none⟩ = some (.map (some bn)) ∧ w'.cell? ⟨p, 2, none⟩ = some v) (ds := []) #[false, false, false, false, false, false, false, false, false, false, false, false, false, false, false, false, false, false] (by kernel_rfl) rfl rfl ⟨hq0, hq1, hq2⟩ (fun hHeld => ?_)
  refine pure_ (i := 0) (N := some 5) (v := ?_) (a' := ?_) #[true, false, false, false, false, false, false, false, false, false, false, false, false, false, false, false, false, false] rfl rfl (by kernel_rfl) (fun _ _ _ h => h) (Or.inl ⟨by rfl, ?_⟩) ?_ ?_
  rotate_left
  · intro w'
    go_simp
    with_reducible rfl
  rotate_left
  · simp only [Act.put, List.setIfInBounds_toArray, List.set_cons_zero, List.set_cons_succ, i64_w, i32_w]
    rfl
  refine pure_ (i := 1) (N := some 6) (v := ?_) (a' := ?_) #[true, true, false, false, false, false, false, false, false, false, false, false, false, false, false, false, false, false] rfl rfl (by kernel_rfl) (fun _ _ _ h => h) (Or.inl ⟨by rfl, ?_⟩) ?_ ?_
  rotate_left
  · intro w'
    go_simp
    with_reducible rfl
  rotate_left
  · simp only [Act.put, List.setIfInBounds_toArray, List.set_cons_zero, List.set_cons_succ, i64_w, i32_w]
    rfl
  refine pure_ (i := 2) (N := some 7) (v := ?_) (a' := ?_) #[true, true, true, false, false, false, false, false, false, false, false, false, false, false, false, false, false, false] rfl rfl (by kernel_rfl) (fun _ _ _ h => h) (Or.inl ⟨by rfl, ?_⟩) ?_ ?_
  rotate_left
  · intro w'
    go_simp
    with_reducible rfl
  rotate_left
  · simp only [Act.put, List.setIfInBounds_toArray, List.set_cons_zero, List.set_cons_succ, i64_w, i32_w]
    rfl
  refine pure_ (i := 5) (N := some 10) (v := ?_) (a' := ?_) #[true, true, true, false, false, true, false, false, false, false, false, false, false, false, false, false, false, false] rfl rfl (by kernel_rfl) (fun _ _ _ h => h) (Or.inl ⟨by rfl, ?_⟩) ?_ ?_
  rotate_left
  · intro w'
    go_simp
    with_reducible rfl
  rotate_left
  · simp only [Act.put, List.setIfInBounds_toArray, List.set_cons_zero, List.set_cons_succ, i64_w, i32_w]
    rfl
  refine pure_ (i := 6) (N := some 11) (v := ?_) (a' := ?_) #[true, true, true, false, false, true, true, false, false, false, false, false, false, false, false, false, false, false] rfl rfl (by kernel_rfl) (fun _ _ _ h => h) (Or.inl ⟨by rfl, ?_⟩) ?_ ?_
  rotate_left
  · intro w'
    go_simp
    with_reducible rfl
  rotate_left
  · simp only [Act.put, List.setIfInBounds_toArray, List.set_cons_zero, List.set_cons_succ, i64_w, i32_w]
    rfl
  refine pure_ (i := 7) (N := some 12) (v := ?_) (a' := ?_) #[true, true, true, false, false, true, true, true, false, false, false, false, false, false, false, false, false, false] rfl rfl (by kernel_rfl) (fun _ _ _ h => h) (Or.inl ⟨by rfl, ?_⟩) ?_ ?_
  rotate_left
  · intro w'
    go_simp
    with_reducible rfl
  rotate_left
  · simp only [Act.put, List.setIfInBounds_toArray, List.set_cons_zero, List.set_cons_succ, i64_w, i32_w]
    rfl
  refine pure_ (i := 10) (N := some 15) (v := ?_) (a' := ?_) #[true, true, true, false, false, true, true, true, false, false, true, false, false, false, false, false, false, false] rfl rfl (by kernel_rfl) (fun _ _ _ h => h) (Or.inl ⟨by rfl, ?_⟩) ?_ ?_
  rotate_left
  · intro w'
    go_simp
    with_reducible rfl
  rotate_left
  · simp only [Act.put, List.setIfInBounds_toArray, List.set_cons_zero, List.set_cons_succ, i64_w, i32_w]
    rfl
  refine pure_ (i := 11) (N := some 16) (v := ?_) (a' := ?_) #[true, true, true, false, false, true, true, true, false, false, true, true, false, false, false, false, false, false] rfl rfl (by kernel_rfl) (fun _ _ _ h => h) (Or.inl ⟨by rfl, ?_⟩) ?_ ?_
  rotate_left
  · intro w'
    go_simp
    with_reducible rfl
  rotate_left
  · simp only [Act.put, List.setIfInBounds_toArray, List.set_cons_zero, List.set_cons_succ, i64_w, i32_w]
    rfl
  refine pure_ (i := 12) (N := some 17) (v := ?_) (a' := ?_) #[true, true, true, false, false, true, true, true, false, false, true, true, true, false, false, false, false, false] rfl rfl (by kernel_rfl) (fun _ _ _ h => h) (Or.inl ⟨by rfl, ?_⟩) ?_ ?_
  rotate_left
  · intro w'
    go_simp
    with_reducible rfl
  rotate_left
  · simp only [Act.put, List.setIfInBounds_toArray, List.set_cons_zero, List.set_cons_succ, i64_w, i32_w]
    rfl
  refine take_ (i := 3) (N := some 8) (v := ?_) (a' := ?_) #[true, true, true, true, false, true, true, true, false, false, true, true, true, false, false, false, false, false] rfl rfl (by kernel_rfl) (fun _ _ _ h => h) (Or.inl ⟨by rfl, ?_⟩) hHeld ?_ ?_
  rotate_left
  · rintro w' ⟨s0, s1, s2⟩
    go_simp
    with_reducible rfl
  rotate_left
  · simp only [Act.put, List.setIfInBounds_toArray, List.set_cons_zero, List.set_cons_succ, i64_w, i32_w]
    rfl
  refine take_ (i := 8) (N := some 13) (v := ?_) (a' := ?_) #[true, true, true, true, false, true, true, true, true, false, true, true, true, false, false, false, false, false] rfl rfl (by kernel_rfl) (fun _ _ _ h => h) (Or.inl ⟨by rfl, ?_⟩) hHeld ?_ ?_
  rotate_left
  · rintro w' ⟨s0, s1, s2⟩
    go_simp
    with_reducible rfl
  rotate_left
  · simp only [Act.put, List.setIfInBounds_toArray, List.set_cons_zero, List.set_cons_succ, i64_w, i32_w]
    rfl
  refine take_ (i := 13) (N := some 18) (v := ?_) (a' := ?_) #[true, true, true, true, false, true, true, true, true, false, true, true, true, true, false, false, false, false] rfl rfl (by kernel_rfl) (fun _ _ _ h => h) (Or.inl ⟨by rfl, ?_⟩) hHeld ?_ ?_
  rotate_left
  · rintro w' ⟨s0, s1, s2⟩
    go_simp
    with_reducible rfl
  rotate_left
  · simp only [Act.put, List.setIfInBounds_toArray, List.set_cons_zero, List.set_cons_succ, i64_w, i32_w]
    rfl
  refine one_ (i := 4) (N := some 9) #[true, true, true, true, true, true, true, true, true, false, true, true, true, true, false, false, false, false] rfl rfl (by kernel_rfl) (by decide) (fun K hK => ?_)
  refine goes_ Try.func56 (by kernel_rfl) rfl #[.map (some bd)] (by rfl) rfl rfl (by (try simp only [List.map_toArray, List.map_cons, List.map_nil]); first | done | rfl) ?_
  with_reducible refine (mclone_calls bd n1 dur w.drew (HIN.out.md.step rfl)).mono ?_
  rintro e w2 ⟨rfl, hm, hb⟩
  refine ⟨_, rfl, ?_⟩
  have HM2 := Aside0.mk hm
  have HB2 := Aside0.mk hb
  have HC2 := Aside0.mk (blk_below (show w.drew.heap[p]? = _ from HIN.out.cells) hb)
  have hx0 := cell_of_blk HC2.out 0 rfl
  have hx1 := cell_of_blk HC2.out 1 rfl
  have hx2 := cell_of_blk HC2.out 2 rfl
  clear hm hb
  refine hK.out _ _ ⟨hx0, hx1, hx2⟩ (fun hHeld => ?_)
  clear hK K
  refine norm_ (a' := ?_) ?_ ?_
  rotate_left
  · show Act.put _ (some 9) _ = _
    simp only [Act.put, List.setIfInBounds_toArray, List.set_cons_zero, List.set_cons_succ, i64_w, i32_w]
    rfl
  refine one_ (i := 9) (N := some 14) #[true, true, true, true, true, true, true, true, true, true, true, true, true, true, false, false, false, false] rfl rfl (by kernel_rfl) (by decide) (fun K hK => ?_)
  refine goes_ Try.func56 (by kernel_rfl) rfl #[.map (some bn)] (by rfl) rfl rfl (by (try simp only [List.map_toArray, List.map_cons, List.map_nil]); first | done | rfl) ?_
  with_reducible refine (mclone_calls bn n2 (afterE dur acts) _ ((show MapAt w.drew bn n2 (afterE dur acts) from HIN.out.mn.step rfl).step (HB2.out.block bn (by rw [World.size_drew]; exact HIN.out.mn.lt)))).mono ?_
  rintro e w3 ⟨rfl, hm, hb⟩
  refine ⟨_, rfl, ?_⟩
  have HM3 := Aside0.mk hm
  have HB3 := Aside0.mk hb
  have HC3 := Aside0.mk (blk_below HC2.out hb)
  have hy0 := cell_of_blk HC3.out 0 rfl
  have hy1 := cell_of_blk HC3.out 1 rfl
  have hy2 := cell_of_blk HC3.out 2 rfl
  clear hm hb
  refine hK.out _ _ ⟨hy0, hy1, hy2⟩ (fun hHeld => ?_)
  clear hK K
  refine norm_ (a' := ?_) ?_ ?_
  rotate_left
  · show Act.put _ (some 14) _ = _
    simp only [Act.put, List.setIfInBounds_toArray, List.set_cons_zero, List.set_cons_succ, i64_w, i32_w]
    rfl
  refine one_ (i := 14) (N := some 19) #[true, true, true, true, true, true, true, true, true, true, true, true, true, true, true, false, false, false] rfl rfl (by kernel_rfl) (by decide) (fun K hK => ?_)
  refine goes_ Try.func57 (by kernel_rfl) rfl #[v] (by rfl) rfl rfl (by (try simp only [List.map_toArray, List.map_cons, List.map_nil]); first | done | rfl) ?_
  with_reducible refine (cloneActs_calls v okr (acts.map encA) _ (raw_below (raw_below (Kd.R_drew HIN.out.row) HB2.out) HB3.out) (by have := HL.out; rw [List.length_map]; omega)).mono ?_
  rintro e w4 ⟨v4, rfl, hr, hb⟩
  refine ⟨_, rfl, ?_⟩
  have HR4 := Aside0.mk hr
  have HB4 := Aside0.mk hb
  have HC4 := Aside0.mk (blk_below HC3.out hb)
  have hz0 := cell_of_blk HC4.out 0 rfl
  have hz1 := cell_of_blk HC4.out 1 rfl
  have hz2 := cell_of_blk HC4.out 2 rfl
  obtain ⟨A4, c4, hv4⟩ : ∃ A c, v4 = Value.slice A acts.length c := (by obtain ⟨A, c, h⟩ := Kd.R_slice HR4.out; rw [List.length_map] at h; exact ⟨A, c, h⟩)
  subst hv4
  clear hr hb
  refine hK.out _ _ ⟨hz0, hz1, hz2⟩ (fun hHeld => ?_)
  clear hK K
  refine norm_ (a' := ?_) ?_ ?_
  rotate_left
  · show Act.put _ (some 19) _ = _
    simp only [Act.put, List.setIfInBounds_toArray, List.set_cons_zero, List.set_cons_succ, i64_w, i32_w]
    rfl
  refine pure_ (i := 15) (N := some 20) (v := ?_) (a' := ?_) #[true, true, true, true, true, true, true, true, true, true, true, true, true, true, true, true, false, false] rfl rfl (by kernel_rfl) (fun _ _ _ h => h) (Or.inl ⟨by rfl, ?_⟩) ?_ ?_
  rotate_left
  · intro w'
    go_simp
    with_reducible rfl
  rotate_left
  · simp only [Act.put, List.setIfInBounds_toArray, List.set_cons_zero, List.set_cons_succ, i64_w, i32_w]
    rfl
  refine one_ (i := 16) (N := some 21) #[true, true, true, true, true, true, true, true, true, true, true, true, true, true, true, true, true, false] rfl rfl (by kernel_rfl) (by decide) (fun K hK => ?_)
  refine value_ (w1 := ?_) (v := ?_) (by rfl) rfl ?_ ?_
  rotate_left 2
  · go_simp
    constructor
    · rfl
    · rfl
  refine hK.out _ _ ⟨cell_allocs hz0 _, cell_allocs hz1 _, cell_allocs hz2 _⟩ (fun hHeld => ?_)
  clear hK K
  refine norm_ (a' := ?_) ?_ ?_
  rotate_left
  · show Act.put _ (some 21) _ = _
    simp only [Act.put, List.setIfInBounds_toArray, List.set_cons_zero, List.set_cons_succ, i64_w, i32_w]
    rfl
  refine pure_ (i := 17) (N := some 2) (v := ?_) (a' := ?_) #[true, true, true, true, true, true, true, true, true, true, true, true, true, true, true, true, true, true] rfl rfl (by kernel_rfl) (fun _ _ _ h => h) (Or.inl ⟨by rfl, ?_⟩) ?_ ?_
  rotate_left
  · intro w'
    go_simp
    with_reducible rfl
  rotate_left
  · simp only [Act.put, List.setIfInBounds_toArray, List.set_cons_zero, List.set_cons_succ, i64_w, i32_w]
    rfl
  refine done_ (by kernel_rfl) ?_
  go_wp2
  go_ret
  have hc2 := HB2.out
  have hc3 := HB3.out
  have hc4 := HB4.out
  have s2 : w.heap.size ≤ w2.heap.size := hc2.size
  have s3 := hc3.size
  have s4 := hc4.size
  have hb4 : Below w.heap.size w w4 := below_step (below_step (show Below w.heap.size w w2 from ⟨hc2.os, hc2.tape, hc2.output, hc2.size, hc2.block⟩) hc3) hc4
  have hlc := HLC.out
  refine ⟨⟨_, rfl, ⟨⟨w.heap.size, w2.heap.size, .slice A4 acts.length c4, n1, n2, fun k => w.heap.size ≤ k, ⟨?_, ?_, ?_, ?_, ?_⟩, ?_, Nat.le_refl _, s2, fun _ h => h, hlc.1, hlc.2⟩, HD.out.srt, HD.out.va, HD.out.fine⟩⟩, ?_⟩
  · exact heap_alloc_new w4 _
  · exact ((HM2.out.step (hc3.block _ HM2.out.lt)).step (hc4.block _ (HM2.out.step (hc3.block _ HM2.out.lt)).lt)).step ((below_alloc (Below.refl _ w4) _).block _ ((HM2.out.step (hc3.block _ HM2.out.lt)).step (hc4.block _ (HM2.out.step (hc3.block _ HM2.out.lt)).lt)).lt)
  · exact (HM3.out.step (hc4.block _ HM3.out.lt)).step ((below_alloc (Below.refl _ w4) _).block _ (HM3.out.step (hc4.block _ HM3.out.lt)).lt)
  · have hr := Kd.R_alloc HR4.out (.cells #[.map (some w.heap.size), .map (some w2.heap.size), .slice A4 acts.length c4] 97)
    obtain ⟨_, inner, hown, hrr⟩ := hr
    refine ⟨fun k hk => ?_, inner, ⟨hown.1, ?_⟩, hrr⟩
    · have := Kd.R_base HR4.out k hk
      show w.heap.size ≤ k
      omega
    · rcases hown.2 with h | ⟨g, cap, cur, h1, _, h3⟩
      · exact .inl h
      · exact .inr ⟨g, cap, cur, h1, Nat.zero_le _, h3⟩
  · have := HM2.out.lt
    show w.heap.size ≠ w2.heap.size
    have e : w.drew.heap.size = w.heap.size := rfl
    omega
  · show w.heap.size ≤ w4.heap.size
    omega
  · exact below_alloc hb4 _
end Go.Proofs.Ytbpnbhccdpobpaa
