import Derived.Test.YtkpfpgggkbaefaaDoorB7
import Derived.Test.YtkpfpgggkbaefaaDoorB3
import Derived.Test.YtkpfpgggkbaefaaDoorA9
/-! law 04: NamePuts. -/
set_option linter.unusedVariables false
set_option linter.unusedSimpArgs false
namespace Go.Proofs.YtkpfpgggkbaefaaDoor
open Go.RowKit Go.Proofs.YtkpfpgggkbaefaaDoorW.PrintWords Go.Proofs.YtkpfpgggkbaefaaDoorW.PrintLast Go.Proofs.YtkpfpgggkbaefaaDoorW.PrintMore Go.Lib Plain

theorem set6 {w : World} {g : Nat} {t : TypeId} {a0 a1 a2 a3 a4 a5 : Value} (h : w.heap[g]? = some (.cells #[a0, a1, a2, a3, a4, a5] t (0, 0))) (u0 u1 u2 u3 u4 u5 : Value) :
    ((((((w.setCell ⟨g, 0, none⟩ u0).setCell ⟨g, 1, none⟩ u1).setCell ⟨g, 2, none⟩ u2).setCell ⟨g, 3, none⟩ u3).setCell ⟨g, 4, none⟩ u4).setCell ⟨g, 5, none⟩ u5).heap[g]? = some (.cells #[u0, u1, u2, u3, u4, u5] t (0, 0)) :=
  blk_set (blk_set (blk_set (blk_set (blk_set (blk_set h 0 u0) 1 u1) 2 u2) 3 u3) 4 u4) 5 u5
theorem set6_ne {w : World} {g b : Nat} {t : TypeId} {cs : Array Value} (h : w.heap[g]? = some (.cells cs t (0, 0))) (hne : g ≠ b) (u0 u1 u2 u3 u4 u5 : Value) :
    ((((((w.setCell ⟨b, 0, none⟩ u0).setCell ⟨b, 1, none⟩ u1).setCell ⟨b, 2, none⟩ u2).setCell ⟨b, 3, none⟩ u3).setCell ⟨b, 4, none⟩ u4).setCell ⟨b, 5, none⟩ u5).heap[g]? = some (.cells cs t (0, 0)) :=
  blk_far (blk_far (blk_far (blk_far (blk_far (blk_far h (p := ⟨b, 0, none⟩) hne u0) (p := ⟨b, 1, none⟩) hne u1) (p := ⟨b, 2, none⟩) hne u2) (p := ⟨b, 3, none⟩) hne u3) (p := ⟨b, 4, none⟩) hne u4) (p := ⟨b, 5, none⟩) hne u5
theorem size6 {w : World} {x b : Nat} {u0 u1 u2 u3 u4 u5 : Value} (h : x < w.heap.size) : x < ((((((w.setCell ⟨b, 0, none⟩ u0).setCell ⟨b, 1, none⟩ u1).setCell ⟨b, 2, none⟩ u2).setCell ⟨b, 3, none⟩ u3).setCell ⟨b, 4, none⟩ u4).setCell ⟨b, 5, none⟩ u5).heap.size := by
  simp only [World.size_setCell]
  exact h
theorem rmayV_calls (kd d n p i k : Nat) (b : Bool) (h : mayB ⟨kd, d, n, p, i, k⟩ = b) (w : World) : Calls Tryd.prog 18 #[.agg #[.int .u8 kd, .int .u64 d, .int .u64 n, .int .u64 p, .int .u64 i, .int .u64 k]] w fun e w' => e = .returned (.bool b) ∧ Below w.heap.size w w' := by
  rw [← h]
  exact rmay_calls kd d n p i k w
theorem rputX_calls (kd e n p i k : Nat) (t : List UInt8) (ht : putB ⟨kd, e, n, p, i, k⟩ = t) (hf : (⟨kd, e, n, p, i, k⟩ : Nm).Fits) (w : World) : Calls Tryd.prog 15 #[.agg #[.int .u8 kd, .int .u64 e, .int .u64 n, .int .u64 p, .int .u64 i, .int .u64 k]] w fun e w' => e = .returned (.string ⟨t.toArray⟩) ∧ Below w.heap.size w w' := by
  rw [← ht]
  exact rput_calls kd e n p i k hf w
theorem rcmp_round (xs ys : List Int) (i k : Nat) (h6 : i < 6) (hx : xs.length = 6) (hy : ys.length = 6) : PNamePuts.chartroomref04_Compare.l0 (k + 1) xs ys i = if rd xs i < rd ys i then some (-1) else if rd ys i < rd xs i then some 1 else PNamePuts.chartroomref04_Compare.l0 k xs ys (i + 1 : Nat) := by
  have hw : wrap64 ((i : Int) + 1) = ((i + 1 : Nat) : Int) := by unfold wrap64; omega
  simp only [PNamePuts.chartroomref04_Compare.l0]
  rw [if_pos (by omega), if_pos (by omega), if_pos (by rw [hx]; omega), if_pos (by rw [hy]; omega), hw]
theorem rcmp_end (xs ys : List Int) (k : Nat) : PNamePuts.chartroomref04_Compare.l0 (k + 1) xs ys (6 : Nat) = some 0 := by
  simp only [PNamePuts.chartroomref04_Compare.l0]
  rfl
theorem some_cmp (a b : Nat) (r : List Int) (x : Option Int) (h : x = some (orL r)) : (if (a : Int) < (b : Int) then some (-1) else if (b : Int) < (a : Int) then some 1 else x) = some (orL (cmpN a b :: r)) := by
  unfold cmpN
  by_cases h1 : a < b
  · rw [if_pos (by omega), if_pos h1]; rfl
  · rw [if_neg (by omega), if_neg h1]
    by_cases h2 : b < a
    · rw [if_pos (by omega), if_pos h2]; rfl
    · rw [if_neg (by omega), if_neg h2, h]; rfl
theorem rcmp_plain (kd d n p i k kd2 d2 n2 p2 i2 k2 : Nat) (hfa : (⟨kd, d, n, p, i, k⟩ : Nm).Fits) (hfb : (⟨kd2, d2, n2, p2, i2, k2⟩ : Nm).Fits) : PNamePuts.chartroomref04_Compare.f 7 kd d n p i k kd2 d2 n2 p2 i2 k2 = some (cmpNm ⟨kd, d, n, p, i, k⟩ ⟨kd2, d2, n2, p2, i2, k2⟩) := by
  have hk1 : (kd : Nat) < 256 := hfa.1
  have hk2 : (kd2 : Nat) < 256 := hfb.1
  have e1 : IntKind.u64.wrap (kd : Int) = kd := by rw [IntKind.wrap_u64]; omega
  have e2 : IntKind.u64.wrap (kd2 : Int) = kd2 := by rw [IntKind.wrap_u64]; omega
  unfold PNamePuts.chartroomref04_Compare.f
  rw [e1, e2]
  show PNamePuts.chartroomref04_Compare.l0 (6 + 1) _ _ ((0 : Nat) : Int) = _
  rw [rcmp_round _ _ 0 6 (by decide) rfl rfl]
  refine some_cmp kd kd2 _ _ ?_
  rw [rcmp_round _ _ 1 5 (by decide) rfl rfl]
  refine some_cmp d d2 _ _ ?_
  rw [rcmp_round _ _ 2 4 (by decide) rfl rfl]
  refine some_cmp n n2 _ _ ?_
  rw [rcmp_round _ _ 3 3 (by decide) rfl rfl]
  refine some_cmp p p2 _ _ ?_
  rw [rcmp_round _ _ 4 2 (by decide) rfl rfl]
  refine some_cmp i i2 _ _ ?_
  rw [rcmp_round _ _ 5 1 (by decide) rfl rfl]
  refine some_cmp k k2 _ _ ?_
  exact rcmp_end _ _ 0
theorem rcmpV (kd d n p i k kd2 d2 n2 p2 i2 k2 : Nat) (c : Int) (hfa : (⟨kd, d, n, p, i, k⟩ : Nm).Fits) (hfb : (⟨kd2, d2, n2, p2, i2, k2⟩ : Nm).Fits) (h : cmpNm ⟨kd, d, n, p, i, k⟩ ⟨kd2, d2, n2, p2, i2, k2⟩ = c) (w : World) : Calls Tryd.prog 20 #[.agg #[.int .u8 kd, .int .u64 d, .int .u64 n, .int .u64 p, .int .u64 i, .int .u64 k], .agg #[.int .u8 kd2, .int .u64 d2, .int .u64 n2, .int .u64 p2, .int .u64 i2, .int .u64 k2]] w fun e w' => e = .returned (.int .i64 c) ∧ Below w.heap.size w w' :=
  PNamePuts.chartroomref04_Compare.calls 7 kd d n p i k kd2 d2 n2 p2 i2 k2 c w (by rw [rcmp_plain kd d n p i k kd2 d2 n2 p2 i2 k2 hfa hfb, h])
def np1.T1 : Bool × List (List Nat × List Nat) := (true, [([], []), ([0], [0]), ([], []), ([2, 1], [2]), ([], []), ([], []), ([4, 1, 3, 0, 1, 4, 5], [1, 4]), ([5, 3, 6, 0, 1, 2, 3, 4, 5, 6], [3, 5])])
def np1.B1 : List Nat := [0, 1, 0, 7, 0, 0, 63, 127]
theorem np1.tab1 : rtab .any (opsOf Tryd.f5 1) = np1.T1 := by kernel_rfl
theorem np1.bits1 : waitsOk np1.T1.2 np1.B1 = true := by kernel_rfl
def np2.T2 : Bool × List (List Nat × List Nat) := (true, [([], []), ([0], [0]), ([], []), ([2, 1], [2]), ([1, 3], [1, 3]), ([4, 3], [4]), ([5], [5]), ([6, 5, 5], [5, 6]), ([5], [5]), ([8, 7, 5], [5, 8]), ([7, 9, 5], [5, 7, 9]), ([5, 10], [5, 10]), ([11, 9], [11]), ([12], [12]), ([12], [12]), ([13, 14, 12, 12], [12, 13, 14]), ([12], [12]), ([12], [12]), ([16, 17, 15, 12], [12, 16, 17]), ([15, 18, 12], [12, 15, 18]), ([12, 19], [12, 19]), ([20, 18], [20]), ([21], [21]), ([21], [21]), ([22, 23, 21, 21], [21, 22, 23]), ([24, 21], [21, 24]), ([21, 25], [21, 25]), ([26, 24], [26]), ([27, 27], [27]), ([27, 28], [27, 28]), ([29, 28, 0, 1, 2, 3, 4, 5, 6, 7, 8, 9, 10, 11, 12, 13, 14, 15, 16, 17, 18, 19, 20, 21, 22, 23, 24, 25, 26, 27, 28, 29], [29])])
def np2.B2 : List Nat := [0, 1, 0, 7, 15, 31, 63, 127, 63, 511, 1023, 2047, 4095, 8191, 8191, 32767, 8191, 8191, 262143, 524287, 1048575, 2097151, 4194303, 4194303, 16777215, 33554431, 67108863, 134217727, 268435455, 536870911, 1073741823]
theorem np2.tab2 : rtab .any (opsOf Tryd.f5 2) = np2.T2 := by kernel_rfl
theorem np2.bits2 : waitsOk np2.T2.2 np2.B2 = true := by kernel_rfl
set_option maxHeartbeats 16000000 in
set_option maxRecDepth 100000 in
theorem puts_calls (kd d n p i k kd2 d2 n2 p2 i2 k2 : Nat) (hfa : (⟨kd, d, n, p, i, k⟩ : Nm).Fits) (hfb : (⟨kd2, d2, n2, p2, i2, k2⟩ : Nm).Fits) (w : World) (hG : Glob w) :
    Calls Tryd.prog 5 #[.agg #[.int .u8 kd, .int .u64 d, .int .u64 n, .int .u64 p, .int .u64 i, .int .u64 k], .agg #[.int .u8 kd2, .int .u64 d2, .int .u64 n2, .int .u64 p2, .int .u64 i2, .int .u64 k2]] w fun e w' => e = .returned (.bool true) ∧ Below w.heap.size w w' := by
  have HG := Aside0.mk hG
  have HFA := Aside0.mk hfa
  have HFB := Aside0.mk hfb
  clear hG hfa hfb
  go_enter Tryd.func5, Tryd.ntmps5
  go_upto_region 1 with fail
  have HB1 := Aside0.mk (below_alloc (below_alloc (Below.refl w.heap.size w) (.cells #[.int .u8 kd, .int .u64 d, .int .u64 n, .int .u64 p, .int .u64 i, .int .u64 k] 25)) (.cells #[.int .u8 kd2, .int .u64 d2, .int .u64 n2, .int .u64 p2, .int .u64 i2, .int .u64 k2] 25))
  have HBA := Aside0.mk (((below_alloc (Below.refl _ (w.alloc (.cells #[.int .u8 kd, .int .u64 d, .int .u64 n, .int .u64 p, .int .u64 i, .int .u64 k] 25))) (.cells #[.int .u8 kd2, .int .u64 d2, .int .u64 n2, .int .u64 p2, .int .u64 i2, .int .u64 k2] 25)).block _ (Array.getElem?_eq_some_iff.1 (heap_alloc_new w _)).1).trans (heap_alloc_new w _))
  have HBB := Aside0.mk (heap_alloc_new (w.alloc (.cells #[.int .u8 kd, .int .u64 d, .int .u64 n, .int .u64 p, .int .u64 i, .int .u64 k] 25)) (.cells #[.int .u8 kd2, .int .u64 d2, .int .u64 n2, .int .u64 p2, .int .u64 i2, .int .u64 k2] 25))
  rw [World.size_alloc] at HBB
  generalize hw1 : (w.alloc (.cells #[.int .u8 kd, .int .u64 d, .int .u64 n, .int .u64 p, .int .u64 i, .int .u64 k] 25)).alloc (.cells #[.int .u8 kd2, .int .u64 d2, .int .u64 n2, .int .u64 p2, .int .u64 i2, .int .u64 k2] 25) = w1 at HB1 HBA HBB ⊢
  have hs1 : w1.heap.size = w.heap.size + 2 := by rw [← hw1]; simp only [World.size_alloc]
  have HLA := Aside0.mk (show w.heap.size < w1.heap.size by omega)
  have HLB := Aside0.mk (show w.heap.size + 1 < w1.heap.size by omega)
  have HP0 := Aside0.mk (show 0 < w1.drew.heap.size from (by omega : 0 < w1.heap.size))
  have HBD := Aside0.mk (below_drew (Below.refl w1.heap.size w1))
  clear hw1 hs1
  generalize w.heap.size + 1 = gb at HBB HLB ⊢
  obtain ⟨ga, hga⟩ : ∃ ga, w.heap.size = ga := ⟨_, rfl⟩
  rw [hga] at HBA HLA
  simp only [hga]
  have HGA := Aside0.mk hga
  clear hga
  have BA := HBA
  have BB := HBB
  have HB := HBD
  have LT5 := HP0
  have LT6 := HP0
  clear HBA HBB HBD HP0
  refine start_ (n := 8) (S := fun w' => True) (ds := []) #[false, false, false, false, false, false, false, false] (by kernel_rfl) rfl rfl trivial (fun hHeld => ?_); refine with_tabW np1.tab1 np1.bits1 (fun HT_ HW_ => ?_)
  refine inv_at [0, 1, 2, 3, 4, 5, 6, 7] (fun a0_ b a w' => ∃ (g5 : Nat) (g6 : Nat) (m4_ : Value) (m5_ : Value), a = putSel a0_ b [(0, 7, .agg #[.int .u8 kd, .int .u64 d, .int .u64 n, .int .u64 p, .int .u64 i, .int .u64 k]), (1, 8, .agg #[.int .u8 kd, .int .u64 d, .int .u64 n, .int .u64 p, .int .u64 i, .int .u64 k]), (2, 9, .agg #[.int .u8 kd2, .int .u64 d2, .int .u64 n2, .int .u64 p2, .int .u64 i2, .int .u64 k2]), (3, 10, .agg #[.int .u8 kd2, .int .u64 d2, .int .u64 n2, .int .u64 p2, .int .u64 i2, .int .u64 k2]), (4, 5, m4_), (5, 6, m5_)] ∧ (w'.heap[ga]? = some (.cells #[.int .u8 kd, .int .u64 d, .int .u64 n, .int .u64 p, .int .u64 i, .int .u64 k] 25 (0, 0))) ∧ (w'.heap[gb]? = some (.cells #[.int .u8 kd2, .int .u64 d2, .int .u64 n2, .int .u64 p2, .int .u64 i2, .int .u64 k2] 25 (0, 0))) ∧ (Below w1.heap.size w1 w') ∧ (g5 < w'.heap.size) ∧ (g6 < w'.heap.size) ∧ (b 4 = true → w1.heap.size ≤ g5) ∧ (b 5 = true → w1.heap.size ≤ g6) ∧ (b 4 = true → b 5 = true → g5 ≠ g6) ∧ (b 4 = true → b 6 = false → w'.heap[g5]? = some (.cells #[.int .u8 0, .int .u64 0, .int .u64 0, .int .u64 0, .int .u64 0, .int .u64 0] 28 (0, 0))) ∧ (b 6 = true → w'.heap[g5]? = some (.cells #[.int .u8 kd, .int .u64 d, .int .u64 n, .int .u64 p, .int .u64 i, .int .u64 k] 28 (0, 0))) ∧ (b 5 = true → b 7 = false → w'.heap[g6]? = some (.cells #[.int .u8 0, .int .u64 0, .int .u64 0, .int .u64 0, .int .u64 0, .int .u64 0] 28 (0, 0))) ∧ (b 7 = true → w'.heap[g6]? = some (.cells #[.int .u8 kd2, .int .u64 d2, .int .u64 n2, .int .u64 p2, .int .u64 i2, .int .u64 k2] 28 (0, 0))) ∧ (b 4 = true → (m4_ : Value) = .pointer (some ⟨g5, 0, none⟩)) ∧ (b 5 = true → (m5_ : Value) = .pointer (some ⟨g6, 0, none⟩))) HT_.out HW_.out (by kernel_rfl) (by kernel_rfl) ?_ ?_ ?_
  · exact ⟨0, 0, .bool false, .bool false, by simp only [putSel, Bool.false_eq_true, if_false], BA.out, BB.out, HB.out, LT5.out, LT6.out, fun h_ => absurd h_ (by decide), fun h_ => absurd h_ (by decide), fun h_ => absurd h_ (by decide), fun h_ => absurd h_ (by decide), fun h_ => absurd h_ (by decide), fun h_ => absurd h_ (by decide), fun h_ => absurd h_ (by decide), fun h_ => absurd h_ (by decide), fun h_ => absurd h_ (by decide)⟩
  · skip
    clear BA BB HB LT5 LT6
    refine steps_cons ?_ ?_
    · rintro b a w' ⟨g5, g6, m4_, m5_, ha, Q_BA, Q_BB, Q_HB, Q_LT5, Q_LT6, Q_G5, Q_G6, Q_NE, Q_Z5, Q_Y5, Q_Z6, Q_Y6, Q_X4_, Q_X5_⟩ hb_ hon hoff
      refine ⟨_, rfl, fun K hK => ?_⟩
      have e2 : a.tmps[2]? = some (.pointer (some ⟨ga, 0, none⟩)) := by rw [ha]; exact (putSel_off rfl).trans rfl
      replace ha := Aside0.mk ha
      have BA := Aside0.mk Q_BA
      have BB := Aside0.mk Q_BB
      have HB := Aside0.mk Q_HB
      have LT5 := Aside0.mk Q_LT5
      have LT6 := Aside0.mk Q_LT6
      have hs0_ : w'.cell? ⟨ga, 0, none⟩ = some (.int .u8 kd) := (blk_cell BA.out 0).trans rfl
      have hs1_ : w'.cell? ⟨ga, 1, none⟩ = some (.int .u64 d) := (blk_cell BA.out 1).trans rfl
      have hs2_ : w'.cell? ⟨ga, 2, none⟩ = some (.int .u64 n) := (blk_cell BA.out 2).trans rfl
      have hs3_ : w'.cell? ⟨ga, 3, none⟩ = some (.int .u64 p) := (blk_cell BA.out 3).trans rfl
      have hs4_ : w'.cell? ⟨ga, 4, none⟩ = some (.int .u64 i) := (blk_cell BA.out 4).trans rfl
      have hs5_ : w'.cell? ⟨ga, 5, none⟩ = some (.int .u64 k) := (blk_cell BA.out 5).trans rfl
      refine value_ (w1 := w') (v := .agg #[.int .u8 kd, .int .u64 d, .int .u64 n, .int .u64 p, .int .u64 i, .int .u64 k]) (by rfl) rfl ?_ ?_
      · go_simp
        (try simp only [i64_w])
        try rfl
      refine hK.out _ _ ⟨g5, g6, m4_, m5_, (by rw [ha.out]; exact putSel_upk 0 hb_ rfl rfl rfl), Q_BA, Q_BB, Q_HB, Q_LT5, Q_LT6, Q_G5, Q_G6, Q_NE, Q_Z5, fun h0_ => absurd ((hoff 6 (by kernel_rfl)).symm.trans h0_) (by decide), Q_Z6, fun h0_ => absurd ((hoff 7 (by kernel_rfl)).symm.trans h0_) (by decide), Q_X4_, Q_X5_⟩
    refine steps_cons ?_ ?_
    · rintro b a w' ⟨g5, g6, m4_, m5_, ha, Q_BA, Q_BB, Q_HB, Q_LT5, Q_LT6, Q_G5, Q_G6, Q_NE, Q_Z5, Q_Y5, Q_Z6, Q_Y6, Q_X4_, Q_X5_⟩ hb_ hon hoff
      refine ⟨_, rfl, fun K hK => ?_⟩
      have e7 : a.tmps[7]? = some (.agg #[.int .u8 kd, .int .u64 d, .int .u64 n, .int .u64 p, .int .u64 i, .int .u64 k]) := by rw [ha]; exact putSel_on (e := (0, 7, .agg #[.int .u8 kd, .int .u64 d, .int .u64 n, .int .u64 p, .int .u64 i, .int .u64 k])) 0 rfl rfl (hon 0 (by kernel_rfl)) rfl
      replace ha := Aside0.mk ha
      have BA := Aside0.mk Q_BA
      have BB := Aside0.mk Q_BB
      have HB := Aside0.mk Q_HB
      have LT5 := Aside0.mk Q_LT5
      have LT6 := Aside0.mk Q_LT6
      refine goes_ Tryd.func10 (by kernel_rfl) rfl #[.agg #[.int .u8 kd, .int .u64 d, .int .u64 n, .int .u64 p, .int .u64 i, .int .u64 k]] (by rfl) rfl rfl (by first | (simp only [List.map_toArray, List.map_cons, List.map_nil, Act.eval, Array.getD_eq_getD_getElem?, Option.getD_some, e7]; done) | (simp only [List.map_toArray, List.map_cons, List.map_nil, Act.eval, Array.getD_eq_getD_getElem?, Option.getD_some, e7]; rfl)) ?_
      with_reducible refine (ref_calls kd d n p i k _).mono ?_
      rintro e w5 ⟨rfl, hb⟩
      refine ⟨_, rfl, ?_⟩
      refine hK.out _ _ ⟨g5, g6, m4_, m5_, (by rw [ha.out]; exact putSel_upk 1 hb_ rfl rfl rfl), (hb.block _ (Array.getElem?_eq_some_iff.1 BA.out).1).trans BA.out, (hb.block _ (Array.getElem?_eq_some_iff.1 BB.out).1).trans BB.out, below_step HB.out hb, Nat.lt_of_lt_of_le LT5.out hb.size, Nat.lt_of_lt_of_le LT6.out hb.size, Q_G5, Q_G6, Q_NE, fun h0_ h1_ => (hb.block _ (Array.getElem?_eq_some_iff.1 (Q_Z5 h0_ h1_)).1).trans (Q_Z5 h0_ h1_), fun h0_ => absurd ((hoff 6 (by kernel_rfl)).symm.trans h0_) (by decide), fun h0_ h1_ => (hb.block _ (Array.getElem?_eq_some_iff.1 (Q_Z6 h0_ h1_)).1).trans (Q_Z6 h0_ h1_), fun h0_ => absurd ((hoff 7 (by kernel_rfl)).symm.trans h0_) (by decide), Q_X4_, Q_X5_⟩
    refine steps_cons ?_ ?_
    · rintro b a w' ⟨g5, g6, m4_, m5_, ha, Q_BA, Q_BB, Q_HB, Q_LT5, Q_LT6, Q_G5, Q_G6, Q_NE, Q_Z5, Q_Y5, Q_Z6, Q_Y6, Q_X4_, Q_X5_⟩ hb_ hon hoff
      refine ⟨_, rfl, fun K hK => ?_⟩
      have e3 : a.tmps[3]? = some (.pointer (some ⟨gb, 0, none⟩)) := by rw [ha]; exact (putSel_off rfl).trans rfl
      replace ha := Aside0.mk ha
      have BA := Aside0.mk Q_BA
      have BB := Aside0.mk Q_BB
      have HB := Aside0.mk Q_HB
      have LT5 := Aside0.mk Q_LT5
      have LT6 := Aside0.mk Q_LT6
      have hs0_ : w'.cell? ⟨gb, 0, none⟩ = some (.int .u8 kd2) := (blk_cell BB.out 0).trans rfl
      have hs1_ : w'.cell? ⟨gb, 1, none⟩ = some (.int .u64 d2) := (blk_cell BB.out 1).trans rfl
      have hs2_ : w'.cell? ⟨gb, 2, none⟩ = some (.int .u64 n2) := (blk_cell BB.out 2).trans rfl
      have hs3_ : w'.cell? ⟨gb, 3, none⟩ = some (.int .u64 p2) := (blk_cell BB.out 3).trans rfl
      have hs4_ : w'.cell? ⟨gb, 4, none⟩ = some (.int .u64 i2) := (blk_cell BB.out 4).trans rfl
      have hs5_ : w'.cell? ⟨gb, 5, none⟩ = some (.int .u64 k2) := (blk_cell BB.out 5).trans rfl
      refine value_ (w1 := w') (v := .agg #[.int .u8 kd2, .int .u64 d2, .int .u64 n2, .int .u64 p2, .int .u64 i2, .int .u64 k2]) (by rfl) rfl ?_ ?_
      · go_simp
        (try simp only [i64_w])
        try rfl
      refine hK.out _ _ ⟨g5, g6, m4_, m5_, (by rw [ha.out]; exact putSel_upk 2 hb_ rfl rfl rfl), Q_BA, Q_BB, Q_HB, Q_LT5, Q_LT6, Q_G5, Q_G6, Q_NE, Q_Z5, fun h0_ => absurd ((hoff 6 (by kernel_rfl)).symm.trans h0_) (by decide), Q_Z6, fun h0_ => absurd ((hoff 7 (by kernel_rfl)).symm.trans h0_) (by decide), Q_X4_, Q_X5_⟩
    refine steps_cons ?_ ?_
    · rintro b a w' ⟨g5, g6, m4_, m5_, ha, Q_BA, Q_BB, Q_HB, Q_LT5, Q_LT6, Q_G5, Q_G6, Q_NE, Q_Z5, Q_Y5, Q_Z6, Q_Y6, Q_X4_, Q_X5_⟩ hb_ hon hoff
      refine ⟨_, rfl, fun K hK => ?_⟩
      have e9 : a.tmps[9]? = some (.agg #[.int .u8 kd2, .int .u64 d2, .int .u64 n2, .int .u64 p2, .int .u64 i2, .int .u64 k2]) := by rw [ha]; exact putSel_on (e := (2, 9, .agg #[.int .u8 kd2, .int .u64 d2, .int .u64 n2, .int .u64 p2, .int .u64 i2, .int .u64 k2])) 2 rfl rfl (hon 2 (by kernel_rfl)) rfl
      replace ha := Aside0.mk ha
      have BA := Aside0.mk Q_BA
      have BB := Aside0.mk Q_BB
      have HB := Aside0.mk Q_HB
      have LT5 := Aside0.mk Q_LT5
      have LT6 := Aside0.mk Q_LT6
      refine goes_ Tryd.func10 (by kernel_rfl) rfl #[.agg #[.int .u8 kd2, .int .u64 d2, .int .u64 n2, .int .u64 p2, .int .u64 i2, .int .u64 k2]] (by rfl) rfl rfl (by first | (simp only [List.map_toArray, List.map_cons, List.map_nil, Act.eval, Array.getD_eq_getD_getElem?, Option.getD_some, e9]; done) | (simp only [List.map_toArray, List.map_cons, List.map_nil, Act.eval, Array.getD_eq_getD_getElem?, Option.getD_some, e9]; rfl)) ?_
      with_reducible refine (ref_calls kd2 d2 n2 p2 i2 k2 _).mono ?_
      rintro e w5 ⟨rfl, hb⟩
      refine ⟨_, rfl, ?_⟩
      refine hK.out _ _ ⟨g5, g6, m4_, m5_, (by rw [ha.out]; exact putSel_upk 3 hb_ rfl rfl rfl), (hb.block _ (Array.getElem?_eq_some_iff.1 BA.out).1).trans BA.out, (hb.block _ (Array.getElem?_eq_some_iff.1 BB.out).1).trans BB.out, below_step HB.out hb, Nat.lt_of_lt_of_le LT5.out hb.size, Nat.lt_of_lt_of_le LT6.out hb.size, Q_G5, Q_G6, Q_NE, fun h0_ h1_ => (hb.block _ (Array.getElem?_eq_some_iff.1 (Q_Z5 h0_ h1_)).1).trans (Q_Z5 h0_ h1_), fun h0_ => absurd ((hoff 6 (by kernel_rfl)).symm.trans h0_) (by decide), fun h0_ h1_ => (hb.block _ (Array.getElem?_eq_some_iff.1 (Q_Z6 h0_ h1_)).1).trans (Q_Z6 h0_ h1_), fun h0_ => absurd ((hoff 7 (by kernel_rfl)).symm.trans h0_) (by decide), Q_X4_, Q_X5_⟩
    refine steps_cons ?_ ?_
    · rintro b a w' ⟨g5, g6, m4_, m5_, ha, Q_BA, Q_BB, Q_HB, Q_LT5, Q_LT6, Q_G5, Q_G6, Q_NE, Q_Z5, Q_Y5, Q_Z6, Q_Y6, Q_X4_, Q_X5_⟩ hb_ hon hoff
      refine ⟨_, rfl, fun K hK => ?_⟩
      replace ha := Aside0.mk ha
      have BA := Aside0.mk Q_BA
      have BB := Aside0.mk Q_BB
      have HB := Aside0.mk Q_HB
      have LT5 := Aside0.mk Q_LT5
      have LT6 := Aside0.mk Q_LT6
      refine value_ (w1 := ?_) (v := ?_) (by rfl) rfl ?_ ?_
      rotate_left 2
      · go_simp
        constructor
        · rfl
        · rfl
      refine hK.out _ _ ⟨w'.heap.size, g6, (.pointer (some ⟨w'.heap.size, 0, none⟩)), m5_, (by rw [ha.out]; exact putSel_upk 4 hb_ rfl rfl rfl), ((below_alloc (Below.refl _ _) _).block _ (Array.getElem?_eq_some_iff.1 BA.out).1).trans BA.out, ((below_alloc (Below.refl _ _) _).block _ (Array.getElem?_eq_some_iff.1 BB.out).1).trans BB.out, below_alloc HB.out _, by simp only [World.size_alloc]; omega, by simp only [World.size_alloc]; have := LT6.out; omega, fun _ => HB.out.size, Q_G6, fun _ _ => Nat.ne_of_gt LT6.out, fun _ _ => heap_alloc_new w' _, fun h0_ => absurd ((hoff 6 (by kernel_rfl)).symm.trans h0_) (by decide), fun h0_ h1_ => ((below_alloc (Below.refl _ _) _).block _ (Array.getElem?_eq_some_iff.1 (Q_Z6 h0_ h1_)).1).trans (Q_Z6 h0_ h1_), fun h0_ => absurd ((hoff 7 (by kernel_rfl)).symm.trans h0_) (by decide), fun _ => rfl, Q_X5_⟩
    refine steps_cons ?_ ?_
    · rintro b a w' ⟨g5, g6, m4_, m5_, ha, Q_BA, Q_BB, Q_HB, Q_LT5, Q_LT6, Q_G5, Q_G6, Q_NE, Q_Z5, Q_Y5, Q_Z6, Q_Y6, Q_X4_, Q_X5_⟩ hb_ hon hoff
      refine ⟨_, rfl, fun K hK => ?_⟩
      replace ha := Aside0.mk ha
      have BA := Aside0.mk Q_BA
      have BB := Aside0.mk Q_BB
      have HB := Aside0.mk Q_HB
      have LT5 := Aside0.mk Q_LT5
      have LT6 := Aside0.mk Q_LT6
      refine value_ (w1 := ?_) (v := ?_) (by rfl) rfl ?_ ?_
      rotate_left 2
      · go_simp
        constructor
        · rfl
        · rfl
      refine hK.out _ _ ⟨g5, w'.heap.size, m4_, (.pointer (some ⟨w'.heap.size, 0, none⟩)), (by rw [ha.out]; exact putSel_upk 5 hb_ rfl rfl rfl), ((below_alloc (Below.refl _ _) _).block _ (Array.getElem?_eq_some_iff.1 BA.out).1).trans BA.out, ((below_alloc (Below.refl _ _) _).block _ (Array.getElem?_eq_some_iff.1 BB.out).1).trans BB.out, below_alloc HB.out _, by simp only [World.size_alloc]; have := LT5.out; omega, by simp only [World.size_alloc]; omega, Q_G5, fun _ => HB.out.size, fun _ _ => Nat.ne_of_lt LT5.out, fun h0_ h1_ => ((below_alloc (Below.refl _ _) _).block _ (Array.getElem?_eq_some_iff.1 (Q_Z5 h0_ h1_)).1).trans (Q_Z5 h0_ h1_), fun h0_ => absurd ((hoff 6 (by kernel_rfl)).symm.trans h0_) (by decide), fun _ _ => heap_alloc_new w' _, fun h0_ => absurd ((hoff 7 (by kernel_rfl)).symm.trans h0_) (by decide), Q_X4_, fun _ => rfl⟩
    refine steps_cons ?_ ?_
    · rintro b a w' ⟨g5, g6, m4_, m5_, ha, Q_BA, Q_BB, Q_HB, Q_LT5, Q_LT6, Q_G5, Q_G6, Q_NE, Q_Z5, Q_Y5, Q_Z6, Q_Y6, Q_X4_, Q_X5_⟩ hb_ hon hoff
      refine ⟨_, rfl, fun K hK => ?_⟩
      have e5 : a.tmps[5]? = some (m4_) := by rw [ha]; exact putSel_on (e := (4, 5, m4_)) 4 rfl rfl (hon 4 (by kernel_rfl)) rfl
      rw [Q_X4_ (hon 4 (by kernel_rfl))] at e5
      have e8 : a.tmps[8]? = some (.agg #[.int .u8 kd, .int .u64 d, .int .u64 n, .int .u64 p, .int .u64 i, .int .u64 k]) := by rw [ha]; exact putSel_on (e := (1, 8, .agg #[.int .u8 kd, .int .u64 d, .int .u64 n, .int .u64 p, .int .u64 i, .int .u64 k])) 1 rfl rfl (hon 1 (by kernel_rfl)) rfl
      replace ha := Aside0.mk ha
      have BA := Aside0.mk Q_BA
      have BB := Aside0.mk Q_BB
      have HB := Aside0.mk Q_HB
      have LT5 := Aside0.mk Q_LT5
      have LT6 := Aside0.mk Q_LT6
      have G5 := Aside0.mk (Q_G5 (hon 4 (by kernel_rfl)))
      have G6 := Aside0.mk (Q_G6 (hon 5 (by kernel_rfl)))
      have NE := Aside0.mk (Q_NE (hon 4 (by kernel_rfl)) (hon 5 (by kernel_rfl)))
      have Z5 := Aside0.mk (Q_Z5 (hon 4 (by kernel_rfl)) hb_)
      have Z6 := Aside0.mk (Q_Z6 (hon 5 (by kernel_rfl)) (hoff 7 (by kernel_rfl)))
      obtain ⟨⟨z0, z1, z2, z3, z4, z5⟩, y0, y1, y2, y3, y4, y5⟩ := zcells Z5.out
      refine skip_ (w1 := ?_) (by rfl) rfl ?_ ?_
      rotate_left
      · go_simp
        rfl
      refine hK.out _ _ ⟨g5, g6, m4_, m5_, (by rw [ha.out]; exact putSel_none (v := undef) rfl), set6_ne BA.out (fun h => by have h1 := HLA.out; have h2 := G5.out; omega) _ _ _ _ _ _, set6_ne BB.out (fun h => by have h1 := HLB.out; have h2 := G5.out; omega) _ _ _ _ _ _, below6 HB.out G5.out _ _ _ _ _ _, size6 LT5.out, size6 LT6.out, Q_G5, Q_G6, Q_NE, fun _ h1_ => absurd ((up_self b 6).symm.trans h1_) (by decide), fun _ => set6 Z5.out _ _ _ _ _ _, fun _ _ => set6_ne Z6.out (Ne.symm NE.out) _ _ _ _ _ _, fun h0_ => absurd ((hoff 7 (by kernel_rfl)).symm.trans h0_) (by decide), Q_X4_, Q_X5_⟩
    refine steps_cons ?_ ?_
    · rintro b a w' ⟨g5, g6, m4_, m5_, ha, Q_BA, Q_BB, Q_HB, Q_LT5, Q_LT6, Q_G5, Q_G6, Q_NE, Q_Z5, Q_Y5, Q_Z6, Q_Y6, Q_X4_, Q_X5_⟩ hb_ hon hoff
      refine ⟨_, rfl, fun K hK => ?_⟩
      have e6 : a.tmps[6]? = some (m5_) := by rw [ha]; exact putSel_on (e := (5, 6, m5_)) 5 rfl rfl (hon 5 (by kernel_rfl)) rfl
      rw [Q_X5_ (hon 5 (by kernel_rfl))] at e6
      have e10 : a.tmps[10]? = some (.agg #[.int .u8 kd2, .int .u64 d2, .int .u64 n2, .int .u64 p2, .int .u64 i2, .int .u64 k2]) := by rw [ha]; exact putSel_on (e := (3, 10, .agg #[.int .u8 kd2, .int .u64 d2, .int .u64 n2, .int .u64 p2, .int .u64 i2, .int .u64 k2])) 3 rfl rfl (hon 3 (by kernel_rfl)) rfl
      replace ha := Aside0.mk ha
      have BA := Aside0.mk Q_BA
      have BB := Aside0.mk Q_BB
      have HB := Aside0.mk Q_HB
      have LT5 := Aside0.mk Q_LT5
      have LT6 := Aside0.mk Q_LT6
      have G5 := Aside0.mk (Q_G5 (hon 4 (by kernel_rfl)))
      have G6 := Aside0.mk (Q_G6 (hon 5 (by kernel_rfl)))
      have NE := Aside0.mk (Q_NE (hon 4 (by kernel_rfl)) (hon 5 (by kernel_rfl)))
      have Y5 := Aside0.mk (Q_Y5 (hon 6 (by kernel_rfl)))
      have Z6 := Aside0.mk (Q_Z6 (hon 5 (by kernel_rfl)) hb_)
      obtain ⟨⟨z0, z1, z2, z3, z4, z5⟩, y0, y1, y2, y3, y4, y5⟩ := zcells Z6.out
      refine skip_ (w1 := ?_) (by rfl) rfl ?_ ?_
      rotate_left
      · go_simp
        rfl
      refine hK.out _ _ ⟨g5, g6, m4_, m5_, (by rw [ha.out]; exact putSel_none (v := undef) rfl), set6_ne BA.out (fun h => by have h1 := HLA.out; have h2 := G6.out; omega) _ _ _ _ _ _, set6_ne BB.out (fun h => by have h1 := HLB.out; have h2 := G6.out; omega) _ _ _ _ _ _, below6 HB.out G6.out _ _ _ _ _ _, size6 LT5.out, size6 LT6.out, Q_G5, Q_G6, Q_NE, fun _ h1_ => absurd ((hon 6 (by kernel_rfl)).symm.trans h1_) (by decide), fun _ => set6_ne Y5.out NE.out _ _ _ _ _ _, fun _ h1_ => absurd ((up_self b 7).symm.trans h1_) (by decide), fun _ => set6 Z6.out _ _ _ _ _ _, Q_X4_, Q_X5_⟩
    exact steps_nil
  rintro b a w4 hall ⟨g5, g6, m4_, m5_, ha, Q_BA, Q_BB, Q_HB, Q_LT5, Q_LT6, Q_G5, Q_G6, Q_NE, Q_Z5, Q_Y5, Q_Z6, Q_Y6, Q_X4_, Q_X5_⟩
  clear BA BB HB LT5 LT6
  have hb0_ := hall 0 (by kernel_rfl)
  have hb1_ := hall 1 (by kernel_rfl)
  have hb2_ := hall 2 (by kernel_rfl)
  have hb3_ := hall 3 (by kernel_rfl)
  have hb4_ := hall 4 (by kernel_rfl)
  have hb5_ := hall 5 (by kernel_rfl)
  have hb6_ := hall 6 (by kernel_rfl)
  have hb7_ := hall 7 (by kernel_rfl)
  subst ha
  obtain rfl := (Q_X4_ hb4_).symm
  obtain rfl := (Q_X5_ hb5_).symm
  simp only [putSel, hb0_, hb1_, hb2_, hb3_, hb4_, hb5_, hb6_, hb7_, if_true, Act.put, List.setIfInBounds_toArray, List.set_cons_zero, List.set_cons_succ]
  have BA := Aside0.mk Q_BA
  clear Q_BA
  have BB := Aside0.mk Q_BB
  clear Q_BB
  have HB := Aside0.mk Q_HB
  clear Q_HB
  have LT5 := Aside0.mk Q_LT5
  clear Q_LT5
  have LT6 := Aside0.mk Q_LT6
  clear Q_LT6
  have G5 := Aside0.mk (Q_G5 hb4_)
  clear Q_G5
  have G6 := Aside0.mk (Q_G6 hb5_)
  clear Q_G6
  have NE := Aside0.mk (Q_NE hb4_ hb5_)
  clear Q_NE
  clear Q_Z5
  have Y5 := Aside0.mk (Q_Y5 hb6_)
  clear Q_Y5
  clear Q_Z6
  have Y6 := Aside0.mk (Q_Y6 hb7_)
  clear Q_Y6
  clear hall hb0_ hb1_ hb2_ hb3_ hb4_ hb5_ hb6_ hb7_
  have HB4 := Aside0.mk (below_step HB1.out HB.out)
  clear HB
  have HB := HB4
  clear HB4 hHeld HT_ HW_
  obtain ⟨mb, hb⟩ : ∃ b, mayB ⟨kd, d, n, p, i, k⟩ = b := ⟨_, rfl⟩
  obtain ⟨ta, hta⟩ : ∃ t, putB ⟨kd, d, n, p, i, k⟩ = t := ⟨_, rfl⟩
  obtain ⟨c, hcc⟩ : ∃ c, cmpNm ⟨kd, d, n, p, i, k⟩ ⟨kd2, d2, n2, p2, i2, k2⟩ = c := ⟨_, rfl⟩
  have HMA := Aside0.mk hb
  have HTA := Aside0.mk hta
  have HCC := Aside0.mk hcc
  have HCA := Aside0.mk ((cmpNm_zero ⟨kd, d, n, p, i, k⟩ ⟨kd, d, n, p, i, k⟩).mpr rfl)
  clear hb hta hcc G5 G6 NE LT5 LT6
  go_upto_region 2 with fail
  replace BA : Aside0 (w4.drew.heap[ga]? = _) := BA
  replace BB : Aside0 (w4.drew.heap[gb]? = _) := BB
  replace Y5 : Aside0 (w4.drew.heap[g5]? = _) := Y5
  replace Y6 : Aside0 (w4.drew.heap[g6]? = _) := Y6
  replace HB := Aside0.mk (below_drew HB.out)
  refine start_ (n := 31) (S := fun w' => True) (ds := []) #[false, false, false, false, false, false, false, false, false, false, false, false, false, false, false, false, false, false, false, false, false, false, false, false, false, false, false, false, false, false, false] (by kernel_rfl) rfl rfl trivial (fun hHeld => ?_); refine with_tabW np2.tab2 np2.bits2 (fun HT_ HW_ => ?_)
  refine inv_at [0, 1, 2, 3, 4, 5, 6, 7, 8, 9, 10, 11, 12, 13, 14, 15, 16, 17, 18, 19, 20, 21, 22, 23, 24, 25, 26, 27, 28, 29, 30] (fun a0_ b a w' => a = putSel a0_ b [(0, 11, .agg #[.int .u8 kd, .int .u64 d, .int .u64 n, .int .u64 p, .int .u64 i, .int .u64 k]), (1, 12, .bool mb), (2, 13, .agg #[.int .u8 kd, .int .u64 d, .int .u64 n, .int .u64 p, .int .u64 i, .int .u64 k]), (3, 14, .bool mb), (4, 15, .bool true), (5, 16, .bool true), (6, 17, .agg #[.int .u8 kd, .int .u64 d, .int .u64 n, .int .u64 p, .int .u64 i, .int .u64 k]), (7, 18, .string ⟨ta.toArray⟩), (8, 19, .agg #[.int .u8 kd, .int .u64 d, .int .u64 n, .int .u64 p, .int .u64 i, .int .u64 k]), (9, 20, .string ⟨ta.toArray⟩), (10, 21, .bool true), (11, 22, .bool true), (12, 23, .bool true), (13, 24, .agg #[.int .u8 kd, .int .u64 d, .int .u64 n, .int .u64 p, .int .u64 i, .int .u64 k]), (14, 25, .agg #[.int .u8 kd2, .int .u64 d2, .int .u64 n2, .int .u64 p2, .int .u64 i2, .int .u64 k2]), (15, 26, .int .i64 c), (16, 27, .agg #[.int .u8 kd, .int .u64 d, .int .u64 n, .int .u64 p, .int .u64 i, .int .u64 k]), (17, 28, .agg #[.int .u8 kd2, .int .u64 d2, .int .u64 n2, .int .u64 p2, .int .u64 i2, .int .u64 k2]), (18, 29, .int .i64 c), (19, 30, .bool true), (20, 31, .bool true), (21, 32, .bool true), (22, 33, .agg #[.int .u8 kd, .int .u64 d, .int .u64 n, .int .u64 p, .int .u64 i, .int .u64 k]), (23, 34, .agg #[.int .u8 kd, .int .u64 d, .int .u64 n, .int .u64 p, .int .u64 i, .int .u64 k]), (24, 35, .int .i64 0), (25, 36, .bool true), (26, 37, .bool true), (27, 38, .bool true), (28, 39, .bool true), (29, 40, .bool true), (30, 4, .bool true)] ∧ (w'.heap[ga]? = some (.cells #[.int .u8 kd, .int .u64 d, .int .u64 n, .int .u64 p, .int .u64 i, .int .u64 k] 25 (0, 0))) ∧ (w'.heap[gb]? = some (.cells #[.int .u8 kd2, .int .u64 d2, .int .u64 n2, .int .u64 p2, .int .u64 i2, .int .u64 k2] 25 (0, 0))) ∧ (w'.heap[g5]? = some (.cells #[.int .u8 kd, .int .u64 d, .int .u64 n, .int .u64 p, .int .u64 i, .int .u64 k] 28 (0, 0))) ∧ (w'.heap[g6]? = some (.cells #[.int .u8 kd2, .int .u64 d2, .int .u64 n2, .int .u64 p2, .int .u64 i2, .int .u64 k2] 28 (0, 0))) ∧ (Below w.heap.size w w')) HT_.out HW_.out (by kernel_rfl) (by kernel_rfl) ?_ ?_ ?_
  · exact ⟨by simp only [putSel, Bool.false_eq_true, if_false], BA.out, BB.out, Y5.out, Y6.out, HB.out⟩
  · skip
    clear BA BB HB Y5 Y6
    refine steps_cons ?_ ?_
    · rintro b a w' ⟨ha, Q_BA, Q_BB, Q_Y5, Q_Y6, Q_HB⟩ hb_ hon hoff
      refine ⟨_, rfl, fun K hK => ?_⟩
      have e2 : a.tmps[2]? = some (.pointer (some ⟨ga, 0, none⟩)) := by rw [ha]; exact (putSel_off rfl).trans rfl
      replace ha := Aside0.mk ha
      have BA := Aside0.mk Q_BA
      have BB := Aside0.mk Q_BB
      have Y5 := Aside0.mk Q_Y5
      have Y6 := Aside0.mk Q_Y6
      have HB := Aside0.mk Q_HB
      have hs0_ : w'.cell? ⟨ga, 0, none⟩ = some (.int .u8 kd) := (blk_cell BA.out 0).trans rfl
      have hs1_ : w'.cell? ⟨ga, 1, none⟩ = some (.int .u64 d) := (blk_cell BA.out 1).trans rfl
      have hs2_ : w'.cell? ⟨ga, 2, none⟩ = some (.int .u64 n) := (blk_cell BA.out 2).trans rfl
      have hs3_ : w'.cell? ⟨ga, 3, none⟩ = some (.int .u64 p) := (blk_cell BA.out 3).trans rfl
      have hs4_ : w'.cell? ⟨ga, 4, none⟩ = some (.int .u64 i) := (blk_cell BA.out 4).trans rfl
      have hs5_ : w'.cell? ⟨ga, 5, none⟩ = some (.int .u64 k) := (blk_cell BA.out 5).trans rfl
      refine value_ (w1 := w') (v := .agg #[.int .u8 kd, .int .u64 d, .int .u64 n, .int .u64 p, .int .u64 i, .int .u64 k]) (by rfl) rfl ?_ ?_
      · go_simp
        (try simp only [i64_w])
        try rfl
      refine hK.out _ _ ⟨(by rw [ha.out]; exact putSel_upk 0 hb_ rfl rfl rfl), Q_BA, Q_BB, Q_Y5, Q_Y6, Q_HB⟩
    refine steps_cons ?_ ?_
    · rintro b a w' ⟨ha, Q_BA, Q_BB, Q_Y5, Q_Y6, Q_HB⟩ hb_ hon hoff
      refine ⟨_, rfl, fun K hK => ?_⟩
      have e11 : a.tmps[11]? = some (.agg #[.int .u8 kd, .int .u64 d, .int .u64 n, .int .u64 p, .int .u64 i, .int .u64 k]) := by rw [ha]; exact putSel_on (e := (0, 11, .agg #[.int .u8 kd, .int .u64 d, .int .u64 n, .int .u64 p, .int .u64 i, .int .u64 k])) 0 rfl rfl (hon 0 (by kernel_rfl)) rfl
      replace ha := Aside0.mk ha
      have BA := Aside0.mk Q_BA
      have BB := Aside0.mk Q_BB
      have Y5 := Aside0.mk Q_Y5
      have Y6 := Aside0.mk Q_Y6
      have HB := Aside0.mk Q_HB
      refine goes_ Tryd.func17 (by kernel_rfl) rfl #[.agg #[.int .u8 kd, .int .u64 d, .int .u64 n, .int .u64 p, .int .u64 i, .int .u64 k]] (by rfl) rfl rfl (by first | (simp only [List.map_toArray, List.map_cons, List.map_nil, Act.eval, Array.getD_eq_getD_getElem?, Option.getD_some, e11]; done) | (simp only [List.map_toArray, List.map_cons, List.map_nil, Act.eval, Array.getD_eq_getD_getElem?, Option.getD_some, e11]; rfl)) ?_
      with_reducible refine (may_callsV kd d n p i k mb _ HMA.out).mono ?_
      rintro e w5 ⟨rfl, hb⟩
      refine ⟨_, rfl, ?_⟩
      refine hK.out _ _ ⟨(by rw [ha.out]; exact putSel_upk 1 hb_ rfl rfl rfl), (hb.block _ (Array.getElem?_eq_some_iff.1 BA.out).1).trans BA.out, (hb.block _ (Array.getElem?_eq_some_iff.1 BB.out).1).trans BB.out, (hb.block _ (Array.getElem?_eq_some_iff.1 Y5.out).1).trans Y5.out, (hb.block _ (Array.getElem?_eq_some_iff.1 Y6.out).1).trans Y6.out, below_step HB.out hb⟩
    refine steps_cons ?_ ?_
    · rintro b a w' ⟨ha, Q_BA, Q_BB, Q_Y5, Q_Y6, Q_HB⟩ hb_ hon hoff
      refine ⟨_, rfl, fun K hK => ?_⟩
      have e5 : a.tmps[5]? = some (.pointer (some ⟨g5, 0, none⟩)) := by rw [ha]; exact (putSel_off rfl).trans rfl
      replace ha := Aside0.mk ha
      have BA := Aside0.mk Q_BA
      have BB := Aside0.mk Q_BB
      have Y5 := Aside0.mk Q_Y5
      have Y6 := Aside0.mk Q_Y6
      have HB := Aside0.mk Q_HB
      have hs0_ : w'.cell? ⟨g5, 0, none⟩ = some (.int .u8 kd) := (blk_cell Y5.out 0).trans rfl
      have hs1_ : w'.cell? ⟨g5, 1, none⟩ = some (.int .u64 d) := (blk_cell Y5.out 1).trans rfl
      have hs2_ : w'.cell? ⟨g5, 2, none⟩ = some (.int .u64 n) := (blk_cell Y5.out 2).trans rfl
      have hs3_ : w'.cell? ⟨g5, 3, none⟩ = some (.int .u64 p) := (blk_cell Y5.out 3).trans rfl
      have hs4_ : w'.cell? ⟨g5, 4, none⟩ = some (.int .u64 i) := (blk_cell Y5.out 4).trans rfl
      have hs5_ : w'.cell? ⟨g5, 5, none⟩ = some (.int .u64 k) := (blk_cell Y5.out 5).trans rfl
      refine value_ (w1 := w') (v := .agg #[.int .u8 kd, .int .u64 d, .int .u64 n, .int .u64 p, .int .u64 i, .int .u64 k]) (by rfl) rfl ?_ ?_
      · go_simp
        (try simp only [i64_w])
        try rfl
      refine hK.out _ _ ⟨(by rw [ha.out]; exact putSel_upk 2 hb_ rfl rfl rfl), Q_BA, Q_BB, Q_Y5, Q_Y6, Q_HB⟩
    refine steps_cons ?_ ?_
    · rintro b a w' ⟨ha, Q_BA, Q_BB, Q_Y5, Q_Y6, Q_HB⟩ hb_ hon hoff
      refine ⟨_, rfl, fun K hK => ?_⟩
      have e13 : a.tmps[13]? = some (.agg #[.int .u8 kd, .int .u64 d, .int .u64 n, .int .u64 p, .int .u64 i, .int .u64 k]) := by rw [ha]; exact putSel_on (e := (2, 13, .agg #[.int .u8 kd, .int .u64 d, .int .u64 n, .int .u64 p, .int .u64 i, .int .u64 k])) 2 rfl rfl (hon 2 (by kernel_rfl)) rfl
      replace ha := Aside0.mk ha
      have BA := Aside0.mk Q_BA
      have BB := Aside0.mk Q_BB
      have Y5 := Aside0.mk Q_Y5
      have Y6 := Aside0.mk Q_Y6
      have HB := Aside0.mk Q_HB
      refine goes_ Tryd.func18 (by kernel_rfl) rfl #[.agg #[.int .u8 kd, .int .u64 d, .int .u64 n, .int .u64 p, .int .u64 i, .int .u64 k]] (by rfl) rfl rfl (by first | (simp only [List.map_toArray, List.map_cons, List.map_nil, Act.eval, Array.getD_eq_getD_getElem?, Option.getD_some, e13]; done) | (simp only [List.map_toArray, List.map_cons, List.map_nil, Act.eval, Array.getD_eq_getD_getElem?, Option.getD_some, e13]; rfl)) ?_
      with_reducible refine (rmayV_calls kd d n p i k mb HMA.out _).mono ?_
      rintro e w5 ⟨rfl, hb⟩
      refine ⟨_, rfl, ?_⟩
      refine hK.out _ _ ⟨(by rw [ha.out]; exact putSel_upk 3 hb_ rfl rfl rfl), (hb.block _ (Array.getElem?_eq_some_iff.1 BA.out).1).trans BA.out, (hb.block _ (Array.getElem?_eq_some_iff.1 BB.out).1).trans BB.out, (hb.block _ (Array.getElem?_eq_some_iff.1 Y5.out).1).trans Y5.out, (hb.block _ (Array.getElem?_eq_some_iff.1 Y6.out).1).trans Y6.out, below_step HB.out hb⟩
    refine steps_cons ?_ ?_
    · rintro b a w' ⟨ha, Q_BA, Q_BB, Q_Y5, Q_Y6, Q_HB⟩ hb_ hon hoff
      refine ⟨_, rfl, fun K hK => ?_⟩
      have e12 : a.tmps[12]? = some (.bool mb) := by rw [ha]; exact putSel_on (e := (1, 12, .bool mb)) 1 rfl rfl (hon 1 (by kernel_rfl)) rfl
      have e14 : a.tmps[14]? = some (.bool mb) := by rw [ha]; exact putSel_on (e := (3, 14, .bool mb)) 3 rfl rfl (hon 3 (by kernel_rfl)) rfl
      replace ha := Aside0.mk ha
      have BA := Aside0.mk Q_BA
      have BB := Aside0.mk Q_BB
      have Y5 := Aside0.mk Q_Y5
      have Y6 := Aside0.mk Q_Y6
      have HB := Aside0.mk Q_HB
      refine value_ (w1 := w') (v := .bool true) (by rfl) rfl ?_ ?_
      · go_simp
        (try simp only [i64_w])
        try rfl
      refine hK.out _ _ ⟨(by rw [ha.out]; exact putSel_upk 4 hb_ rfl rfl rfl), Q_BA, Q_BB, Q_Y5, Q_Y6, Q_HB⟩
    refine steps_cons ?_ ?_
    · rintro b a w' ⟨ha, Q_BA, Q_BB, Q_Y5, Q_Y6, Q_HB⟩ hb_ hon hoff
      refine ⟨_, rfl, fun K hK => ?_⟩
      have e15 : a.tmps[15]? = some (.bool true) := by rw [ha]; exact putSel_on (e := (4, 15, .bool true)) 4 rfl rfl (hon 4 (by kernel_rfl)) rfl
      replace ha := Aside0.mk ha
      have BA := Aside0.mk Q_BA
      have BB := Aside0.mk Q_BB
      have Y5 := Aside0.mk Q_Y5
      have Y6 := Aside0.mk Q_Y6
      have HB := Aside0.mk Q_HB
      refine value_ (w1 := w') (v := .bool true) (by rfl) rfl ?_ ?_
      · go_simp
        (try simp only [i64_w])
        try rfl
      refine hK.out _ _ ⟨(by rw [ha.out]; exact putSel_upk 5 hb_ rfl rfl rfl), Q_BA, Q_BB, Q_Y5, Q_Y6, Q_HB⟩
    refine steps_cons ?_ ?_
    · rintro b a w' ⟨ha, Q_BA, Q_BB, Q_Y5, Q_Y6, Q_HB⟩ hb_ hon hoff
      refine ⟨_, rfl, fun K hK => ?_⟩
      have e2 : a.tmps[2]? = some (.pointer (some ⟨ga, 0, none⟩)) := by rw [ha]; exact (putSel_off rfl).trans rfl
      have e16 : a.tmps[16]? = some (.bool true) := by rw [ha]; exact putSel_on (e := (5, 16, .bool true)) 5 rfl rfl (hon 5 (by kernel_rfl)) rfl
      replace ha := Aside0.mk ha
      have BA := Aside0.mk Q_BA
      have BB := Aside0.mk Q_BB
      have Y5 := Aside0.mk Q_Y5
      have Y6 := Aside0.mk Q_Y6
      have HB := Aside0.mk Q_HB
      have hs0_ : w'.cell? ⟨ga, 0, none⟩ = some (.int .u8 kd) := (blk_cell BA.out 0).trans rfl
      have hs1_ : w'.cell? ⟨ga, 1, none⟩ = some (.int .u64 d) := (blk_cell BA.out 1).trans rfl
      have hs2_ : w'.cell? ⟨ga, 2, none⟩ = some (.int .u64 n) := (blk_cell BA.out 2).trans rfl
      have hs3_ : w'.cell? ⟨ga, 3, none⟩ = some (.int .u64 p) := (blk_cell BA.out 3).trans rfl
      have hs4_ : w'.cell? ⟨ga, 4, none⟩ = some (.int .u64 i) := (blk_cell BA.out 4).trans rfl
      have hs5_ : w'.cell? ⟨ga, 5, none⟩ = some (.int .u64 k) := (blk_cell BA.out 5).trans rfl
      refine value_ (w1 := w') (v := .agg #[.int .u8 kd, .int .u64 d, .int .u64 n, .int .u64 p, .int .u64 i, .int .u64 k]) (wanted_on rfl rfl rfl (e16.trans (by first | rfl | (simp [*]; done)))) rfl ?_ ?_
      · go_simp
        (try simp only [i64_w])
        try rfl
      refine hK.out _ _ ⟨(by rw [ha.out]; exact putSel_upk 6 hb_ rfl rfl rfl), Q_BA, Q_BB, Q_Y5, Q_Y6, Q_HB⟩
    refine steps_cons ?_ ?_
    · rintro b a w' ⟨ha, Q_BA, Q_BB, Q_Y5, Q_Y6, Q_HB⟩ hb_ hon hoff
      refine ⟨_, rfl, fun K hK => ?_⟩
      have e17 : a.tmps[17]? = some (.agg #[.int .u8 kd, .int .u64 d, .int .u64 n, .int .u64 p, .int .u64 i, .int .u64 k]) := by rw [ha]; exact putSel_on (e := (6, 17, .agg #[.int .u8 kd, .int .u64 d, .int .u64 n, .int .u64 p, .int .u64 i, .int .u64 k])) 6 rfl rfl (hon 6 (by kernel_rfl)) rfl
      have e16 : a.tmps[16]? = some (.bool true) := by rw [ha]; exact putSel_on (e := (5, 16, .bool true)) 5 rfl rfl (hon 5 (by kernel_rfl)) rfl
      replace ha := Aside0.mk ha
      have BA := Aside0.mk Q_BA
      have BB := Aside0.mk Q_BB
      have Y5 := Aside0.mk Q_Y5
      have Y6 := Aside0.mk Q_Y6
      have HB := Aside0.mk Q_HB
      refine goes_ Tryd.func16 (by kernel_rfl) rfl #[.agg #[.int .u8 kd, .int .u64 d, .int .u64 n, .int .u64 p, .int .u64 i, .int .u64 k]] (wanted_on rfl rfl rfl (e16.trans (by first | rfl | (simp [*]; done)))) rfl rfl (by first | (simp only [List.map_toArray, List.map_cons, List.map_nil, Act.eval, Array.getD_eq_getD_getElem?, Option.getD_some, e17, e16]; done) | (simp only [List.map_toArray, List.map_cons, List.map_nil, Act.eval, Array.getD_eq_getD_getElem?, Option.getD_some, e17, e16]; rfl)) ?_
      with_reducible refine (putV_calls kd d n p i k ta HTA.out HFA.out _ (HG.out.below HB.out)).mono ?_
      rintro e w5 ⟨rfl, hb⟩
      refine ⟨_, rfl, ?_⟩
      refine hK.out _ _ ⟨(by rw [ha.out]; exact putSel_upk 7 hb_ rfl rfl rfl), (hb.block _ (Array.getElem?_eq_some_iff.1 BA.out).1).trans BA.out, (hb.block _ (Array.getElem?_eq_some_iff.1 BB.out).1).trans BB.out, (hb.block _ (Array.getElem?_eq_some_iff.1 Y5.out).1).trans Y5.out, (hb.block _ (Array.getElem?_eq_some_iff.1 Y6.out).1).trans Y6.out, below_step HB.out hb⟩
    refine steps_cons ?_ ?_
    · rintro b a w' ⟨ha, Q_BA, Q_BB, Q_Y5, Q_Y6, Q_HB⟩ hb_ hon hoff
      refine ⟨_, rfl, fun K hK => ?_⟩
      have e5 : a.tmps[5]? = some (.pointer (some ⟨g5, 0, none⟩)) := by rw [ha]; exact (putSel_off rfl).trans rfl
      have e16 : a.tmps[16]? = some (.bool true) := by rw [ha]; exact putSel_on (e := (5, 16, .bool true)) 5 rfl rfl (hon 5 (by kernel_rfl)) rfl
      replace ha := Aside0.mk ha
      have BA := Aside0.mk Q_BA
      have BB := Aside0.mk Q_BB
      have Y5 := Aside0.mk Q_Y5
      have Y6 := Aside0.mk Q_Y6
      have HB := Aside0.mk Q_HB
      have hs0_ : w'.cell? ⟨g5, 0, none⟩ = some (.int .u8 kd) := (blk_cell Y5.out 0).trans rfl
      have hs1_ : w'.cell? ⟨g5, 1, none⟩ = some (.int .u64 d) := (blk_cell Y5.out 1).trans rfl
      have hs2_ : w'.cell? ⟨g5, 2, none⟩ = some (.int .u64 n) := (blk_cell Y5.out 2).trans rfl
      have hs3_ : w'.cell? ⟨g5, 3, none⟩ = some (.int .u64 p) := (blk_cell Y5.out 3).trans rfl
      have hs4_ : w'.cell? ⟨g5, 4, none⟩ = some (.int .u64 i) := (blk_cell Y5.out 4).trans rfl
      have hs5_ : w'.cell? ⟨g5, 5, none⟩ = some (.int .u64 k) := (blk_cell Y5.out 5).trans rfl
      refine value_ (w1 := w') (v := .agg #[.int .u8 kd, .int .u64 d, .int .u64 n, .int .u64 p, .int .u64 i, .int .u64 k]) (wanted_on rfl rfl rfl (e16.trans (by first | rfl | (simp [*]; done)))) rfl ?_ ?_
      · go_simp
        (try simp only [i64_w])
        try rfl
      refine hK.out _ _ ⟨(by rw [ha.out]; exact putSel_upk 8 hb_ rfl rfl rfl), Q_BA, Q_BB, Q_Y5, Q_Y6, Q_HB⟩
    refine steps_cons ?_ ?_
    · rintro b a w' ⟨ha, Q_BA, Q_BB, Q_Y5, Q_Y6, Q_HB⟩ hb_ hon hoff
      refine ⟨_, rfl, fun K hK => ?_⟩
      have e19 : a.tmps[19]? = some (.agg #[.int .u8 kd, .int .u64 d, .int .u64 n, .int .u64 p, .int .u64 i, .int .u64 k]) := by rw [ha]; exact putSel_on (e := (8, 19, .agg #[.int .u8 kd, .int .u64 d, .int .u64 n, .int .u64 p, .int .u64 i, .int .u64 k])) 8 rfl rfl (hon 8 (by kernel_rfl)) rfl
      have e16 : a.tmps[16]? = some (.bool true) := by rw [ha]; exact putSel_on (e := (5, 16, .bool true)) 5 rfl rfl (hon 5 (by kernel_rfl)) rfl
      replace ha := Aside0.mk ha
      have BA := Aside0.mk Q_BA
      have BB := Aside0.mk Q_BB
      have Y5 := Aside0.mk Q_Y5
      have Y6 := Aside0.mk Q_Y6
      have HB := Aside0.mk Q_HB
      refine goes_ Tryd.func15 (by kernel_rfl) rfl #[.agg #[.int .u8 kd, .int .u64 d, .int .u64 n, .int .u64 p, .int .u64 i, .int .u64 k]] (wanted_on rfl rfl rfl (e16.trans (by first | rfl | (simp [*]; done)))) rfl rfl (by first | (simp only [List.map_toArray, List.map_cons, List.map_nil, Act.eval, Array.getD_eq_getD_getElem?, Option.getD_some, e19, e16]; done) | (simp only [List.map_toArray, List.map_cons, List.map_nil, Act.eval, Array.getD_eq_getD_getElem?, Option.getD_some, e19, e16]; rfl)) ?_
      with_reducible refine (rputX_calls kd d n p i k ta HTA.out HFA.out _).mono ?_
      rintro e w5 ⟨rfl, hb⟩
      refine ⟨_, rfl, ?_⟩
      refine hK.out _ _ ⟨(by rw [ha.out]; exact putSel_upk 9 hb_ rfl rfl rfl), (hb.block _ (Array.getElem?_eq_some_iff.1 BA.out).1).trans BA.out, (hb.block _ (Array.getElem?_eq_some_iff.1 BB.out).1).trans BB.out, (hb.block _ (Array.getElem?_eq_some_iff.1 Y5.out).1).trans Y5.out, (hb.block _ (Array.getElem?_eq_some_iff.1 Y6.out).1).trans Y6.out, below_step HB.out hb⟩
    refine steps_cons ?_ ?_
    · rintro b a w' ⟨ha, Q_BA, Q_BB, Q_Y5, Q_Y6, Q_HB⟩ hb_ hon hoff
      refine ⟨_, rfl, fun K hK => ?_⟩
      have e18 : a.tmps[18]? = some (.string ⟨ta.toArray⟩) := by rw [ha]; exact putSel_on (e := (7, 18, .string ⟨ta.toArray⟩)) 7 rfl rfl (hon 7 (by kernel_rfl)) rfl
      have e20 : a.tmps[20]? = some (.string ⟨ta.toArray⟩) := by rw [ha]; exact putSel_on (e := (9, 20, .string ⟨ta.toArray⟩)) 9 rfl rfl (hon 9 (by kernel_rfl)) rfl
      have e16 : a.tmps[16]? = some (.bool true) := by rw [ha]; exact putSel_on (e := (5, 16, .bool true)) 5 rfl rfl (hon 5 (by kernel_rfl)) rfl
      replace ha := Aside0.mk ha
      have BA := Aside0.mk Q_BA
      have BB := Aside0.mk Q_BB
      have Y5 := Aside0.mk Q_Y5
      have Y6 := Aside0.mk Q_Y6
      have HB := Aside0.mk Q_HB
      refine value_ (w1 := w') (v := .bool true) (wanted_on rfl rfl rfl (e16.trans (by first | rfl | (simp [*]; done)))) rfl ?_ ?_
      · go_simp
        (try simp only [i64_w])
        try rfl
      refine hK.out _ _ ⟨(by rw [ha.out]; exact putSel_upk 10 hb_ rfl rfl rfl), Q_BA, Q_BB, Q_Y5, Q_Y6, Q_HB⟩
    refine steps_cons ?_ ?_
    · rintro b a w' ⟨ha, Q_BA, Q_BB, Q_Y5, Q_Y6, Q_HB⟩ hb_ hon hoff
      refine ⟨_, rfl, fun K hK => ?_⟩
      have e16 : a.tmps[16]? = some (.bool true) := by rw [ha]; exact putSel_on (e := (5, 16, .bool true)) 5 rfl rfl (hon 5 (by kernel_rfl)) rfl
      have e21 : a.tmps[21]? = some (.bool true) := by rw [ha]; exact putSel_on (e := (10, 21, .bool true)) 10 rfl rfl (hon 10 (by kernel_rfl)) rfl
      replace ha := Aside0.mk ha
      have BA := Aside0.mk Q_BA
      have BB := Aside0.mk Q_BB
      have Y5 := Aside0.mk Q_Y5
      have Y6 := Aside0.mk Q_Y6
      have HB := Aside0.mk Q_HB
      refine value_ (w1 := w') (v := .bool true) (by rfl) rfl ?_ ?_
      · go_simp
        (try simp only [i64_w])
        try rfl
      refine hK.out _ _ ⟨(by rw [ha.out]; exact putSel_upk 11 hb_ rfl rfl rfl), Q_BA, Q_BB, Q_Y5, Q_Y6, Q_HB⟩
    refine steps_cons ?_ ?_
    · rintro b a w' ⟨ha, Q_BA, Q_BB, Q_Y5, Q_Y6, Q_HB⟩ hb_ hon hoff
      refine ⟨_, rfl, fun K hK => ?_⟩
      have e22 : a.tmps[22]? = some (.bool true) := by rw [ha]; exact putSel_on (e := (11, 22, .bool true)) 11 rfl rfl (hon 11 (by kernel_rfl)) rfl
      replace ha := Aside0.mk ha
      have BA := Aside0.mk Q_BA
      have BB := Aside0.mk Q_BB
      have Y5 := Aside0.mk Q_Y5
      have Y6 := Aside0.mk Q_Y6
      have HB := Aside0.mk Q_HB
      refine value_ (w1 := w') (v := .bool true) (by rfl) rfl ?_ ?_
      · go_simp
        (try simp only [i64_w])
        try rfl
      refine hK.out _ _ ⟨(by rw [ha.out]; exact putSel_upk 12 hb_ rfl rfl rfl), Q_BA, Q_BB, Q_Y5, Q_Y6, Q_HB⟩
    refine steps_cons ?_ ?_
    · rintro b a w' ⟨ha, Q_BA, Q_BB, Q_Y5, Q_Y6, Q_HB⟩ hb_ hon hoff
      refine ⟨_, rfl, fun K hK => ?_⟩
      have e2 : a.tmps[2]? = some (.pointer (some ⟨ga, 0, none⟩)) := by rw [ha]; exact (putSel_off rfl).trans rfl
      have e23 : a.tmps[23]? = some (.bool true) := by rw [ha]; exact putSel_on (e := (12, 23, .bool true)) 12 rfl rfl (hon 12 (by kernel_rfl)) rfl
      replace ha := Aside0.mk ha
      have BA := Aside0.mk Q_BA
      have BB := Aside0.mk Q_BB
      have Y5 := Aside0.mk Q_Y5
      have Y6 := Aside0.mk Q_Y6
      have HB := Aside0.mk Q_HB
      have hs0_ : w'.cell? ⟨ga, 0, none⟩ = some (.int .u8 kd) := (blk_cell BA.out 0).trans rfl
      have hs1_ : w'.cell? ⟨ga, 1, none⟩ = some (.int .u64 d) := (blk_cell BA.out 1).trans rfl
      have hs2_ : w'.cell? ⟨ga, 2, none⟩ = some (.int .u64 n) := (blk_cell BA.out 2).trans rfl
      have hs3_ : w'.cell? ⟨ga, 3, none⟩ = some (.int .u64 p) := (blk_cell BA.out 3).trans rfl
      have hs4_ : w'.cell? ⟨ga, 4, none⟩ = some (.int .u64 i) := (blk_cell BA.out 4).trans rfl
      have hs5_ : w'.cell? ⟨ga, 5, none⟩ = some (.int .u64 k) := (blk_cell BA.out 5).trans rfl
      refine value_ (w1 := w') (v := .agg #[.int .u8 kd, .int .u64 d, .int .u64 n, .int .u64 p, .int .u64 i, .int .u64 k]) (wanted_on rfl rfl rfl (e23.trans (by first | rfl | (simp [*]; done)))) rfl ?_ ?_
      · go_simp
        (try simp only [i64_w])
        try rfl
      refine hK.out _ _ ⟨(by rw [ha.out]; exact putSel_upk 13 hb_ rfl rfl rfl), Q_BA, Q_BB, Q_Y5, Q_Y6, Q_HB⟩
    refine steps_cons ?_ ?_
    · rintro b a w' ⟨ha, Q_BA, Q_BB, Q_Y5, Q_Y6, Q_HB⟩ hb_ hon hoff
      refine ⟨_, rfl, fun K hK => ?_⟩
      have e3 : a.tmps[3]? = some (.pointer (some ⟨gb, 0, none⟩)) := by rw [ha]; exact (putSel_off rfl).trans rfl
      have e23 : a.tmps[23]? = some (.bool true) := by rw [ha]; exact putSel_on (e := (12, 23, .bool true)) 12 rfl rfl (hon 12 (by kernel_rfl)) rfl
      replace ha := Aside0.mk ha
      have BA := Aside0.mk Q_BA
      have BB := Aside0.mk Q_BB
      have Y5 := Aside0.mk Q_Y5
      have Y6 := Aside0.mk Q_Y6
      have HB := Aside0.mk Q_HB
      have hs0_ : w'.cell? ⟨gb, 0, none⟩ = some (.int .u8 kd2) := (blk_cell BB.out 0).trans rfl
      have hs1_ : w'.cell? ⟨gb, 1, none⟩ = some (.int .u64 d2) := (blk_cell BB.out 1).trans rfl
      have hs2_ : w'.cell? ⟨gb, 2, none⟩ = some (.int .u64 n2) := (blk_cell BB.out 2).trans rfl
      have hs3_ : w'.cell? ⟨gb, 3, none⟩ = some (.int .u64 p2) := (blk_cell BB.out 3).trans rfl
      have hs4_ : w'.cell? ⟨gb, 4, none⟩ = some (.int .u64 i2) := (blk_cell BB.out 4).trans rfl
      have hs5_ : w'.cell? ⟨gb, 5, none⟩ = some (.int .u64 k2) := (blk_cell BB.out 5).trans rfl
      refine value_ (w1 := w') (v := .agg #[.int .u8 kd2, .int .u64 d2, .int .u64 n2, .int .u64 p2, .int .u64 i2, .int .u64 k2]) (wanted_on rfl rfl rfl (e23.trans (by first | rfl | (simp [*]; done)))) rfl ?_ ?_
      · go_simp
        (try simp only [i64_w])
        try rfl
      refine hK.out _ _ ⟨(by rw [ha.out]; exact putSel_upk 14 hb_ rfl rfl rfl), Q_BA, Q_BB, Q_Y5, Q_Y6, Q_HB⟩
    refine steps_cons ?_ ?_
    · rintro b a w' ⟨ha, Q_BA, Q_BB, Q_Y5, Q_Y6, Q_HB⟩ hb_ hon hoff
      refine ⟨_, rfl, fun K hK => ?_⟩
      have e24 : a.tmps[24]? = some (.agg #[.int .u8 kd, .int .u64 d, .int .u64 n, .int .u64 p, .int .u64 i, .int .u64 k]) := by rw [ha]; exact putSel_on (e := (13, 24, .agg #[.int .u8 kd, .int .u64 d, .int .u64 n, .int .u64 p, .int .u64 i, .int .u64 k])) 13 rfl rfl (hon 13 (by kernel_rfl)) rfl
      have e25 : a.tmps[25]? = some (.agg #[.int .u8 kd2, .int .u64 d2, .int .u64 n2, .int .u64 p2, .int .u64 i2, .int .u64 k2]) := by rw [ha]; exact putSel_on (e := (14, 25, .agg #[.int .u8 kd2, .int .u64 d2, .int .u64 n2, .int .u64 p2, .int .u64 i2, .int .u64 k2])) 14 rfl rfl (hon 14 (by kernel_rfl)) rfl
      have e23 : a.tmps[23]? = some (.bool true) := by rw [ha]; exact putSel_on (e := (12, 23, .bool true)) 12 rfl rfl (hon 12 (by kernel_rfl)) rfl
      replace ha := Aside0.mk ha
      have BA := Aside0.mk Q_BA
      have BB := Aside0.mk Q_BB
      have Y5 := Aside0.mk Q_Y5
      have Y6 := Aside0.mk Q_Y6
      have HB := Aside0.mk Q_HB
      refine goes_ Tryd.func19 (by kernel_rfl) rfl #[.agg #[.int .u8 kd, .int .u64 d, .int .u64 n, .int .u64 p, .int .u64 i, .int .u64 k], .agg #[.int .u8 kd2, .int .u64 d2, .int .u64 n2, .int .u64 p2, .int .u64 i2, .int .u64 k2]] (wanted_on rfl rfl rfl (e23.trans (by first | rfl | (simp [*]; done)))) rfl rfl (by first | (simp only [List.map_toArray, List.map_cons, List.map_nil, Act.eval, Array.getD_eq_getD_getElem?, Option.getD_some, e24, e25, e23]; done) | (simp only [List.map_toArray, List.map_cons, List.map_nil, Act.eval, Array.getD_eq_getD_getElem?, Option.getD_some, e24, e25, e23]; rfl)) ?_
      with_reducible refine (cmpV kd d n p i k kd2 d2 n2 p2 i2 k2 c HCC.out _).mono ?_
      rintro e w5 ⟨rfl, hb⟩
      refine ⟨_, rfl, ?_⟩
      refine hK.out _ _ ⟨(by rw [ha.out]; exact putSel_upk 15 hb_ rfl rfl rfl), (hb.block _ (Array.getElem?_eq_some_iff.1 BA.out).1).trans BA.out, (hb.block _ (Array.getElem?_eq_some_iff.1 BB.out).1).trans BB.out, (hb.block _ (Array.getElem?_eq_some_iff.1 Y5.out).1).trans Y5.out, (hb.block _ (Array.getElem?_eq_some_iff.1 Y6.out).1).trans Y6.out, below_step HB.out hb⟩
    refine steps_cons ?_ ?_
    · rintro b a w' ⟨ha, Q_BA, Q_BB, Q_Y5, Q_Y6, Q_HB⟩ hb_ hon hoff
      refine ⟨_, rfl, fun K hK => ?_⟩
      have e5 : a.tmps[5]? = some (.pointer (some ⟨g5, 0, none⟩)) := by rw [ha]; exact (putSel_off rfl).trans rfl
      have e23 : a.tmps[23]? = some (.bool true) := by rw [ha]; exact putSel_on (e := (12, 23, .bool true)) 12 rfl rfl (hon 12 (by kernel_rfl)) rfl
      replace ha := Aside0.mk ha
      have BA := Aside0.mk Q_BA
      have BB := Aside0.mk Q_BB
      have Y5 := Aside0.mk Q_Y5
      have Y6 := Aside0.mk Q_Y6
      have HB := Aside0.mk Q_HB
      have hs0_ : w'.cell? ⟨g5, 0, none⟩ = some (.int .u8 kd) := (blk_cell Y5.out 0).trans rfl
      have hs1_ : w'.cell? ⟨g5, 1, none⟩ = some (.int .u64 d) := (blk_cell Y5.out 1).trans rfl
      have hs2_ : w'.cell? ⟨g5, 2, none⟩ = some (.int .u64 n) := (blk_cell Y5.out 2).trans rfl
      have hs3_ : w'.cell? ⟨g5, 3, none⟩ = some (.int .u64 p) := (blk_cell Y5.out 3).trans rfl
      have hs4_ : w'.cell? ⟨g5, 4, none⟩ = some (.int .u64 i) := (blk_cell Y5.out 4).trans rfl
      have hs5_ : w'.cell? ⟨g5, 5, none⟩ = some (.int .u64 k) := (blk_cell Y5.out 5).trans rfl
      refine value_ (w1 := w') (v := .agg #[.int .u8 kd, .int .u64 d, .int .u64 n, .int .u64 p, .int .u64 i, .int .u64 k]) (wanted_on rfl rfl rfl (e23.trans (by first | rfl | (simp [*]; done)))) rfl ?_ ?_
      · go_simp
        (try simp only [i64_w])
        try rfl
      refine hK.out _ _ ⟨(by rw [ha.out]; exact putSel_upk 16 hb_ rfl rfl rfl), Q_BA, Q_BB, Q_Y5, Q_Y6, Q_HB⟩
    refine steps_cons ?_ ?_
    · rintro b a w' ⟨ha, Q_BA, Q_BB, Q_Y5, Q_Y6, Q_HB⟩ hb_ hon hoff
      refine ⟨_, rfl, fun K hK => ?_⟩
      have e6 : a.tmps[6]? = some (.pointer (some ⟨g6, 0, none⟩)) := by rw [ha]; exact (putSel_off rfl).trans rfl
      have e23 : a.tmps[23]? = some (.bool true) := by rw [ha]; exact putSel_on (e := (12, 23, .bool true)) 12 rfl rfl (hon 12 (by kernel_rfl)) rfl
      replace ha := Aside0.mk ha
      have BA := Aside0.mk Q_BA
      have BB := Aside0.mk Q_BB
      have Y5 := Aside0.mk Q_Y5
      have Y6 := Aside0.mk Q_Y6
      have HB := Aside0.mk Q_HB
      have hs0_ : w'.cell? ⟨g6, 0, none⟩ = some (.int .u8 kd2) := (blk_cell Y6.out 0).trans rfl
      have hs1_ : w'.cell? ⟨g6, 1, none⟩ = some (.int .u64 d2) := (blk_cell Y6.out 1).trans rfl
      have hs2_ : w'.cell? ⟨g6, 2, none⟩ = some (.int .u64 n2) := (blk_cell Y6.out 2).trans rfl
      have hs3_ : w'.cell? ⟨g6, 3, none⟩ = some (.int .u64 p2) := (blk_cell Y6.out 3).trans rfl
      have hs4_ : w'.cell? ⟨g6, 4, none⟩ = some (.int .u64 i2) := (blk_cell Y6.out 4).trans rfl
      have hs5_ : w'.cell? ⟨g6, 5, none⟩ = some (.int .u64 k2) := (blk_cell Y6.out 5).trans rfl
      refine value_ (w1 := w') (v := .agg #[.int .u8 kd2, .int .u64 d2, .int .u64 n2, .int .u64 p2, .int .u64 i2, .int .u64 k2]) (wanted_on rfl rfl rfl (e23.trans (by first | rfl | (simp [*]; done)))) rfl ?_ ?_
      · go_simp
        (try simp only [i64_w])
        try rfl
      refine hK.out _ _ ⟨(by rw [ha.out]; exact putSel_upk 17 hb_ rfl rfl rfl), Q_BA, Q_BB, Q_Y5, Q_Y6, Q_HB⟩
    refine steps_cons ?_ ?_
    · rintro b a w' ⟨ha, Q_BA, Q_BB, Q_Y5, Q_Y6, Q_HB⟩ hb_ hon hoff
      refine ⟨_, rfl, fun K hK => ?_⟩
      have e27 : a.tmps[27]? = some (.agg #[.int .u8 kd, .int .u64 d, .int .u64 n, .int .u64 p, .int .u64 i, .int .u64 k]) := by rw [ha]; exact putSel_on (e := (16, 27, .agg #[.int .u8 kd, .int .u64 d, .int .u64 n, .int .u64 p, .int .u64 i, .int .u64 k])) 16 rfl rfl (hon 16 (by kernel_rfl)) rfl
      have e28 : a.tmps[28]? = some (.agg #[.int .u8 kd2, .int .u64 d2, .int .u64 n2, .int .u64 p2, .int .u64 i2, .int .u64 k2]) := by rw [ha]; exact putSel_on (e := (17, 28, .agg #[.int .u8 kd2, .int .u64 d2, .int .u64 n2, .int .u64 p2, .int .u64 i2, .int .u64 k2])) 17 rfl rfl (hon 17 (by kernel_rfl)) rfl
      have e23 : a.tmps[23]? = some (.bool true) := by rw [ha]; exact putSel_on (e := (12, 23, .bool true)) 12 rfl rfl (hon 12 (by kernel_rfl)) rfl
      replace ha := Aside0.mk ha
      have BA := Aside0.mk Q_BA
      have BB := Aside0.mk Q_BB
      have Y5 := Aside0.mk Q_Y5
      have Y6 := Aside0.mk Q_Y6
      have HB := Aside0.mk Q_HB
      refine goes_ Tryd.func20 (by kernel_rfl) rfl #[.agg #[.int .u8 kd, .int .u64 d, .int .u64 n, .int .u64 p, .int .u64 i, .int .u64 k], .agg #[.int .u8 kd2, .int .u64 d2, .int .u64 n2, .int .u64 p2, .int .u64 i2, .int .u64 k2]] (wanted_on rfl rfl rfl (e23.trans (by first | rfl | (simp [*]; done)))) rfl rfl (by first | (simp only [List.map_toArray, List.map_cons, List.map_nil, Act.eval, Array.getD_eq_getD_getElem?, Option.getD_some, e27, e28, e23]; done) | (simp only [List.map_toArray, List.map_cons, List.map_nil, Act.eval, Array.getD_eq_getD_getElem?, Option.getD_some, e27, e28, e23]; rfl)) ?_
      with_reducible refine (rcmpV kd d n p i k kd2 d2 n2 p2 i2 k2 c HFA.out HFB.out HCC.out _).mono ?_
      rintro e w5 ⟨rfl, hb⟩
      refine ⟨_, rfl, ?_⟩
      refine hK.out _ _ ⟨(by rw [ha.out]; exact putSel_upk 18 hb_ rfl rfl rfl), (hb.block _ (Array.getElem?_eq_some_iff.1 BA.out).1).trans BA.out, (hb.block _ (Array.getElem?_eq_some_iff.1 BB.out).1).trans BB.out, (hb.block _ (Array.getElem?_eq_some_iff.1 Y5.out).1).trans Y5.out, (hb.block _ (Array.getElem?_eq_some_iff.1 Y6.out).1).trans Y6.out, below_step HB.out hb⟩
    refine steps_cons ?_ ?_
    · rintro b a w' ⟨ha, Q_BA, Q_BB, Q_Y5, Q_Y6, Q_HB⟩ hb_ hon hoff
      refine ⟨_, rfl, fun K hK => ?_⟩
      have e26 : a.tmps[26]? = some (.int .i64 c) := by rw [ha]; exact putSel_on (e := (15, 26, .int .i64 c)) 15 rfl rfl (hon 15 (by kernel_rfl)) rfl
      have e29 : a.tmps[29]? = some (.int .i64 c) := by rw [ha]; exact putSel_on (e := (18, 29, .int .i64 c)) 18 rfl rfl (hon 18 (by kernel_rfl)) rfl
      have e23 : a.tmps[23]? = some (.bool true) := by rw [ha]; exact putSel_on (e := (12, 23, .bool true)) 12 rfl rfl (hon 12 (by kernel_rfl)) rfl
      replace ha := Aside0.mk ha
      have BA := Aside0.mk Q_BA
      have BB := Aside0.mk Q_BB
      have Y5 := Aside0.mk Q_Y5
      have Y6 := Aside0.mk Q_Y6
      have HB := Aside0.mk Q_HB
      refine value_ (w1 := w') (v := .bool true) (wanted_on rfl rfl rfl (e23.trans (by first | rfl | (simp [*]; done)))) rfl ?_ ?_
      · go_simp
        (try simp only [i64_w])
        try rfl
      refine hK.out _ _ ⟨(by rw [ha.out]; exact putSel_upk 19 hb_ rfl rfl rfl), Q_BA, Q_BB, Q_Y5, Q_Y6, Q_HB⟩
    refine steps_cons ?_ ?_
    · rintro b a w' ⟨ha, Q_BA, Q_BB, Q_Y5, Q_Y6, Q_HB⟩ hb_ hon hoff
      refine ⟨_, rfl, fun K hK => ?_⟩
      have e23 : a.tmps[23]? = some (.bool true) := by rw [ha]; exact putSel_on (e := (12, 23, .bool true)) 12 rfl rfl (hon 12 (by kernel_rfl)) rfl
      have e30 : a.tmps[30]? = some (.bool true) := by rw [ha]; exact putSel_on (e := (19, 30, .bool true)) 19 rfl rfl (hon 19 (by kernel_rfl)) rfl
      replace ha := Aside0.mk ha
      have BA := Aside0.mk Q_BA
      have BB := Aside0.mk Q_BB
      have Y5 := Aside0.mk Q_Y5
      have Y6 := Aside0.mk Q_Y6
      have HB := Aside0.mk Q_HB
      refine value_ (w1 := w') (v := .bool true) (by rfl) rfl ?_ ?_
      · go_simp
        (try simp only [i64_w])
        try rfl
      refine hK.out _ _ ⟨(by rw [ha.out]; exact putSel_upk 20 hb_ rfl rfl rfl), Q_BA, Q_BB, Q_Y5, Q_Y6, Q_HB⟩
    refine steps_cons ?_ ?_
    · rintro b a w' ⟨ha, Q_BA, Q_BB, Q_Y5, Q_Y6, Q_HB⟩ hb_ hon hoff
      refine ⟨_, rfl, fun K hK => ?_⟩
      have e31 : a.tmps[31]? = some (.bool true) := by rw [ha]; exact putSel_on (e := (20, 31, .bool true)) 20 rfl rfl (hon 20 (by kernel_rfl)) rfl
      replace ha := Aside0.mk ha
      have BA := Aside0.mk Q_BA
      have BB := Aside0.mk Q_BB
      have Y5 := Aside0.mk Q_Y5
      have Y6 := Aside0.mk Q_Y6
      have HB := Aside0.mk Q_HB
      refine value_ (w1 := w') (v := .bool true) (by rfl) rfl ?_ ?_
      · go_simp
        (try simp only [i64_w])
        try rfl
      refine hK.out _ _ ⟨(by rw [ha.out]; exact putSel_upk 21 hb_ rfl rfl rfl), Q_BA, Q_BB, Q_Y5, Q_Y6, Q_HB⟩
    refine steps_cons ?_ ?_
    · rintro b a w' ⟨ha, Q_BA, Q_BB, Q_Y5, Q_Y6, Q_HB⟩ hb_ hon hoff
      refine ⟨_, rfl, fun K hK => ?_⟩
      have e2 : a.tmps[2]? = some (.pointer (some ⟨ga, 0, none⟩)) := by rw [ha]; exact (putSel_off rfl).trans rfl
      have e32 : a.tmps[32]? = some (.bool true) := by rw [ha]; exact putSel_on (e := (21, 32, .bool true)) 21 rfl rfl (hon 21 (by kernel_rfl)) rfl
      replace ha := Aside0.mk ha
      have BA := Aside0.mk Q_BA
      have BB := Aside0.mk Q_BB
      have Y5 := Aside0.mk Q_Y5
      have Y6 := Aside0.mk Q_Y6
      have HB := Aside0.mk Q_HB
      have hs0_ : w'.cell? ⟨ga, 0, none⟩ = some (.int .u8 kd) := (blk_cell BA.out 0).trans rfl
      have hs1_ : w'.cell? ⟨ga, 1, none⟩ = some (.int .u64 d) := (blk_cell BA.out 1).trans rfl
      have hs2_ : w'.cell? ⟨ga, 2, none⟩ = some (.int .u64 n) := (blk_cell BA.out 2).trans rfl
      have hs3_ : w'.cell? ⟨ga, 3, none⟩ = some (.int .u64 p) := (blk_cell BA.out 3).trans rfl
      have hs4_ : w'.cell? ⟨ga, 4, none⟩ = some (.int .u64 i) := (blk_cell BA.out 4).trans rfl
      have hs5_ : w'.cell? ⟨ga, 5, none⟩ = some (.int .u64 k) := (blk_cell BA.out 5).trans rfl
      refine value_ (w1 := w') (v := .agg #[.int .u8 kd, .int .u64 d, .int .u64 n, .int .u64 p, .int .u64 i, .int .u64 k]) (wanted_on rfl rfl rfl (e32.trans (by first | rfl | (simp [*]; done)))) rfl ?_ ?_
      · go_simp
        (try simp only [i64_w])
        try rfl
      refine hK.out _ _ ⟨(by rw [ha.out]; exact putSel_upk 22 hb_ rfl rfl rfl), Q_BA, Q_BB, Q_Y5, Q_Y6, Q_HB⟩
    refine steps_cons ?_ ?_
    · rintro b a w' ⟨ha, Q_BA, Q_BB, Q_Y5, Q_Y6, Q_HB⟩ hb_ hon hoff
      refine ⟨_, rfl, fun K hK => ?_⟩
      have e2 : a.tmps[2]? = some (.pointer (some ⟨ga, 0, none⟩)) := by rw [ha]; exact (putSel_off rfl).trans rfl
      have e32 : a.tmps[32]? = some (.bool true) := by rw [ha]; exact putSel_on (e := (21, 32, .bool true)) 21 rfl rfl (hon 21 (by kernel_rfl)) rfl
      replace ha := Aside0.mk ha
      have BA := Aside0.mk Q_BA
      have BB := Aside0.mk Q_BB
      have Y5 := Aside0.mk Q_Y5
      have Y6 := Aside0.mk Q_Y6
      have HB := Aside0.mk Q_HB
      have hs0_ : w'.cell? ⟨ga, 0, none⟩ = some (.int .u8 kd) := (blk_cell BA.out 0).trans rfl
      have hs1_ : w'.cell? ⟨ga, 1, none⟩ = some (.int .u64 d) := (blk_cell BA.out 1).trans rfl
      have hs2_ : w'.cell? ⟨ga, 2, none⟩ = some (.int .u64 n) := (blk_cell BA.out 2).trans rfl
      have hs3_ : w'.cell? ⟨ga, 3, none⟩ = some (.int .u64 p) := (blk_cell BA.out 3).trans rfl
      have hs4_ : w'.cell? ⟨ga, 4, none⟩ = some (.int .u64 i) := (blk_cell BA.out 4).trans rfl
      have hs5_ : w'.cell? ⟨ga, 5, none⟩ = some (.int .u64 k) := (blk_cell BA.out 5).trans rfl
      refine value_ (w1 := w') (v := .agg #[.int .u8 kd, .int .u64 d, .int .u64 n, .int .u64 p, .int .u64 i, .int .u64 k]) (wanted_on rfl rfl rfl (e32.trans (by first | rfl | (simp [*]; done)))) rfl ?_ ?_
      · go_simp
        (try simp only [i64_w])
        try rfl
      refine hK.out _ _ ⟨(by rw [ha.out]; exact putSel_upk 23 hb_ rfl rfl rfl), Q_BA, Q_BB, Q_Y5, Q_Y6, Q_HB⟩
    refine steps_cons ?_ ?_
    · rintro b a w' ⟨ha, Q_BA, Q_BB, Q_Y5, Q_Y6, Q_HB⟩ hb_ hon hoff
      refine ⟨_, rfl, fun K hK => ?_⟩
      have e33 : a.tmps[33]? = some (.agg #[.int .u8 kd, .int .u64 d, .int .u64 n, .int .u64 p, .int .u64 i, .int .u64 k]) := by rw [ha]; exact putSel_on (e := (22, 33, .agg #[.int .u8 kd, .int .u64 d, .int .u64 n, .int .u64 p, .int .u64 i, .int .u64 k])) 22 rfl rfl (hon 22 (by kernel_rfl)) rfl
      have e34 : a.tmps[34]? = some (.agg #[.int .u8 kd, .int .u64 d, .int .u64 n, .int .u64 p, .int .u64 i, .int .u64 k]) := by rw [ha]; exact putSel_on (e := (23, 34, .agg #[.int .u8 kd, .int .u64 d, .int .u64 n, .int .u64 p, .int .u64 i, .int .u64 k])) 23 rfl rfl (hon 23 (by kernel_rfl)) rfl
      have e32 : a.tmps[32]? = some (.bool true) := by rw [ha]; exact putSel_on (e := (21, 32, .bool true)) 21 rfl rfl (hon 21 (by kernel_rfl)) rfl
      replace ha := Aside0.mk ha
      have BA := Aside0.mk Q_BA
      have BB := Aside0.mk Q_BB
      have Y5 := Aside0.mk Q_Y5
      have Y6 := Aside0.mk Q_Y6
      have HB := Aside0.mk Q_HB
      refine goes_ Tryd.func19 (by kernel_rfl) rfl #[.agg #[.int .u8 kd, .int .u64 d, .int .u64 n, .int .u64 p, .int .u64 i, .int .u64 k], .agg #[.int .u8 kd, .int .u64 d, .int .u64 n, .int .u64 p, .int .u64 i, .int .u64 k]] (wanted_on rfl rfl rfl (e32.trans (by first | rfl | (simp [*]; done)))) rfl rfl (by first | (simp only [List.map_toArray, List.map_cons, List.map_nil, Act.eval, Array.getD_eq_getD_getElem?, Option.getD_some, e33, e34, e32]; done) | (simp only [List.map_toArray, List.map_cons, List.map_nil, Act.eval, Array.getD_eq_getD_getElem?, Option.getD_some, e33, e34, e32]; rfl)) ?_
      with_reducible refine (cmpV kd d n p i k kd d n p i k 0 HCA.out _).mono ?_
      rintro e w5 ⟨rfl, hb⟩
      refine ⟨_, rfl, ?_⟩
      refine hK.out _ _ ⟨(by rw [ha.out]; exact putSel_upk 24 hb_ rfl rfl rfl), (hb.block _ (Array.getElem?_eq_some_iff.1 BA.out).1).trans BA.out, (hb.block _ (Array.getElem?_eq_some_iff.1 BB.out).1).trans BB.out, (hb.block _ (Array.getElem?_eq_some_iff.1 Y5.out).1).trans Y5.out, (hb.block _ (Array.getElem?_eq_some_iff.1 Y6.out).1).trans Y6.out, below_step HB.out hb⟩
    refine steps_cons ?_ ?_
    · rintro b a w' ⟨ha, Q_BA, Q_BB, Q_Y5, Q_Y6, Q_HB⟩ hb_ hon hoff
      refine ⟨_, rfl, fun K hK => ?_⟩
      have e35 : a.tmps[35]? = some (.int .i64 0) := by rw [ha]; exact putSel_on (e := (24, 35, .int .i64 0)) 24 rfl rfl (hon 24 (by kernel_rfl)) rfl
      have e32 : a.tmps[32]? = some (.bool true) := by rw [ha]; exact putSel_on (e := (21, 32, .bool true)) 21 rfl rfl (hon 21 (by kernel_rfl)) rfl
      replace ha := Aside0.mk ha
      have BA := Aside0.mk Q_BA
      have BB := Aside0.mk Q_BB
      have Y5 := Aside0.mk Q_Y5
      have Y6 := Aside0.mk Q_Y6
      have HB := Aside0.mk Q_HB
      refine value_ (w1 := w') (v := .bool true) (wanted_on rfl rfl rfl (e32.trans (by first | rfl | (simp [*]; done)))) rfl ?_ ?_
      · go_simp
        (try simp only [i64_w])
        try rfl
      refine hK.out _ _ ⟨(by rw [ha.out]; exact putSel_upk 25 hb_ rfl rfl rfl), Q_BA, Q_BB, Q_Y5, Q_Y6, Q_HB⟩
    refine steps_cons ?_ ?_
    · rintro b a w' ⟨ha, Q_BA, Q_BB, Q_Y5, Q_Y6, Q_HB⟩ hb_ hon hoff
      refine ⟨_, rfl, fun K hK => ?_⟩
      have e32 : a.tmps[32]? = some (.bool true) := by rw [ha]; exact putSel_on (e := (21, 32, .bool true)) 21 rfl rfl (hon 21 (by kernel_rfl)) rfl
      have e36 : a.tmps[36]? = some (.bool true) := by rw [ha]; exact putSel_on (e := (25, 36, .bool true)) 25 rfl rfl (hon 25 (by kernel_rfl)) rfl
      replace ha := Aside0.mk ha
      have BA := Aside0.mk Q_BA
      have BB := Aside0.mk Q_BB
      have Y5 := Aside0.mk Q_Y5
      have Y6 := Aside0.mk Q_Y6
      have HB := Aside0.mk Q_HB
      refine value_ (w1 := w') (v := .bool true) (by rfl) rfl ?_ ?_
      · go_simp
        (try simp only [i64_w])
        try rfl
      refine hK.out _ _ ⟨(by rw [ha.out]; exact putSel_upk 26 hb_ rfl rfl rfl), Q_BA, Q_BB, Q_Y5, Q_Y6, Q_HB⟩
    refine steps_cons ?_ ?_
    · rintro b a w' ⟨ha, Q_BA, Q_BB, Q_Y5, Q_Y6, Q_HB⟩ hb_ hon hoff
      refine ⟨_, rfl, fun K hK => ?_⟩
      have e37 : a.tmps[37]? = some (.bool true) := by rw [ha]; exact putSel_on (e := (26, 37, .bool true)) 26 rfl rfl (hon 26 (by kernel_rfl)) rfl
      replace ha := Aside0.mk ha
      have BA := Aside0.mk Q_BA
      have BB := Aside0.mk Q_BB
      have Y5 := Aside0.mk Q_Y5
      have Y6 := Aside0.mk Q_Y6
      have HB := Aside0.mk Q_HB
      refine value_ (w1 := w') (v := .bool true) (by rfl) rfl ?_ ?_
      · go_simp
        (try simp only [i64_w])
        try rfl
      refine hK.out _ _ ⟨(by rw [ha.out]; exact putSel_upk 27 hb_ rfl rfl rfl), Q_BA, Q_BB, Q_Y5, Q_Y6, Q_HB⟩
    refine steps_cons ?_ ?_
    · rintro b a w' ⟨ha, Q_BA, Q_BB, Q_Y5, Q_Y6, Q_HB⟩ hb_ hon hoff
      refine ⟨_, rfl, fun K hK => ?_⟩
      have e38 : a.tmps[38]? = some (.bool true) := by rw [ha]; exact putSel_on (e := (27, 38, .bool true)) 27 rfl rfl (hon 27 (by kernel_rfl)) rfl
      replace ha := Aside0.mk ha
      have BA := Aside0.mk Q_BA
      have BB := Aside0.mk Q_BB
      have Y5 := Aside0.mk Q_Y5
      have Y6 := Aside0.mk Q_Y6
      have HB := Aside0.mk Q_HB
      refine goes_ Tryd.func7 (by kernel_rfl) rfl #[] (wanted_on rfl rfl rfl (e38.trans (by first | rfl | (simp [*]; done)))) rfl rfl (by first | (simp only [List.map_toArray, List.map_cons, List.map_nil, Act.eval, Array.getD_eq_getD_getElem?, Option.getD_some, e38]; done) | (simp only [List.map_toArray, List.map_cons, List.map_nil, Act.eval, Array.getD_eq_getD_getElem?, Option.getD_some, e38]; rfl)) ?_
      with_reducible refine (works_calls _ (HG.out.below HB.out)).mono ?_
      rintro e w5 ⟨rfl, hb⟩
      refine ⟨_, rfl, ?_⟩
      refine hK.out _ _ ⟨(by rw [ha.out]; exact putSel_upk 28 hb_ rfl rfl rfl), (hb.block _ (Array.getElem?_eq_some_iff.1 BA.out).1).trans BA.out, (hb.block _ (Array.getElem?_eq_some_iff.1 BB.out).1).trans BB.out, (hb.block _ (Array.getElem?_eq_some_iff.1 Y5.out).1).trans Y5.out, (hb.block _ (Array.getElem?_eq_some_iff.1 Y6.out).1).trans Y6.out, below_step HB.out hb⟩
    refine steps_cons ?_ ?_
    · rintro b a w' ⟨ha, Q_BA, Q_BB, Q_Y5, Q_Y6, Q_HB⟩ hb_ hon hoff
      refine ⟨_, rfl, fun K hK => ?_⟩
      have e38 : a.tmps[38]? = some (.bool true) := by rw [ha]; exact putSel_on (e := (27, 38, .bool true)) 27 rfl rfl (hon 27 (by kernel_rfl)) rfl
      have e39 : a.tmps[39]? = some (.bool true) := by rw [ha]; exact putSel_on (e := (28, 39, .bool true)) 28 rfl rfl (hon 28 (by kernel_rfl)) rfl
      replace ha := Aside0.mk ha
      have BA := Aside0.mk Q_BA
      have BB := Aside0.mk Q_BB
      have Y5 := Aside0.mk Q_Y5
      have Y6 := Aside0.mk Q_Y6
      have HB := Aside0.mk Q_HB
      refine value_ (w1 := w') (v := .bool true) (by rfl) rfl ?_ ?_
      · go_simp
        (try simp only [i64_w])
        try rfl
      refine hK.out _ _ ⟨(by rw [ha.out]; exact putSel_upk 29 hb_ rfl rfl rfl), Q_BA, Q_BB, Q_Y5, Q_Y6, Q_HB⟩
    refine steps_cons ?_ ?_
    · rintro b a w' ⟨ha, Q_BA, Q_BB, Q_Y5, Q_Y6, Q_HB⟩ hb_ hon hoff
      refine ⟨_, rfl, fun K hK => ?_⟩
      have e40 : a.tmps[40]? = some (.bool true) := by rw [ha]; exact putSel_on (e := (29, 40, .bool true)) 29 rfl rfl (hon 29 (by kernel_rfl)) rfl
      replace ha := Aside0.mk ha
      have BA := Aside0.mk Q_BA
      have BB := Aside0.mk Q_BB
      have Y5 := Aside0.mk Q_Y5
      have Y6 := Aside0.mk Q_Y6
      have HB := Aside0.mk Q_HB
      refine value_ (w1 := w') (v := .bool true) (by rfl) rfl ?_ ?_
      · go_simp
        (try simp only [i64_w])
        try rfl
      refine hK.out _ _ ⟨(by rw [ha.out]; exact putSel_upk 30 hb_ rfl rfl rfl), Q_BA, Q_BB, Q_Y5, Q_Y6, Q_HB⟩
    exact steps_nil
  rintro b a w6 hall ⟨ha, Q_BA, Q_BB, Q_Y5, Q_Y6, Q_HB⟩
  clear BA BB HB Y5 Y6
  have hb0_ := hall 0 (by kernel_rfl)
  have hb1_ := hall 1 (by kernel_rfl)
  have hb2_ := hall 2 (by kernel_rfl)
  have hb3_ := hall 3 (by kernel_rfl)
  have hb4_ := hall 4 (by kernel_rfl)
  have hb5_ := hall 5 (by kernel_rfl)
  have hb6_ := hall 6 (by kernel_rfl)
  have hb7_ := hall 7 (by kernel_rfl)
  have hb8_ := hall 8 (by kernel_rfl)
  have hb9_ := hall 9 (by kernel_rfl)
  have hb10_ := hall 10 (by kernel_rfl)
  have hb11_ := hall 11 (by kernel_rfl)
  have hb12_ := hall 12 (by kernel_rfl)
  have hb13_ := hall 13 (by kernel_rfl)
  have hb14_ := hall 14 (by kernel_rfl)
  have hb15_ := hall 15 (by kernel_rfl)
  have hb16_ := hall 16 (by kernel_rfl)
  have hb17_ := hall 17 (by kernel_rfl)
  have hb18_ := hall 18 (by kernel_rfl)
  have hb19_ := hall 19 (by kernel_rfl)
  have hb20_ := hall 20 (by kernel_rfl)
  have hb21_ := hall 21 (by kernel_rfl)
  have hb22_ := hall 22 (by kernel_rfl)
  have hb23_ := hall 23 (by kernel_rfl)
  have hb24_ := hall 24 (by kernel_rfl)
  have hb25_ := hall 25 (by kernel_rfl)
  have hb26_ := hall 26 (by kernel_rfl)
  have hb27_ := hall 27 (by kernel_rfl)
  have hb28_ := hall 28 (by kernel_rfl)
  have hb29_ := hall 29 (by kernel_rfl)
  have hb30_ := hall 30 (by kernel_rfl)
  subst ha
  simp only [putSel, hb0_, hb1_, hb2_, hb3_, hb4_, hb5_, hb6_, hb7_, hb8_, hb9_, hb10_, hb11_, hb12_, hb13_, hb14_, hb15_, hb16_, hb17_, hb18_, hb19_, hb20_, hb21_, hb22_, hb23_, hb24_, hb25_, hb26_, hb27_, hb28_, hb29_, hb30_, if_true, Act.put, List.setIfInBounds_toArray, List.set_cons_zero, List.set_cons_succ]
  have BA := Aside0.mk Q_BA
  clear Q_BA
  have BB := Aside0.mk Q_BB
  clear Q_BB
  have Y5 := Aside0.mk Q_Y5
  clear Q_Y5
  have Y6 := Aside0.mk Q_Y6
  clear Q_Y6
  have HB := Aside0.mk Q_HB
  clear Q_HB
  clear hall hb0_ hb1_ hb2_ hb3_ hb4_ hb5_ hb6_ hb7_ hb8_ hb9_ hb10_ hb11_ hb12_ hb13_ hb14_ hb15_ hb16_ hb17_ hb18_ hb19_ hb20_ hb21_ hb22_ hb23_ hb24_ hb25_ hb26_ hb27_ hb28_ hb29_ hb30_
  go_wp2
  go_ret
  exact ⟨rfl, HB.out⟩
end Go.Proofs.YtkpfpgggkbaefaaDoor
