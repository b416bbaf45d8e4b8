import Derived.Test.YtkpfpgggkbaefaaDoorB6
import Derived.Test.YtkpfpgggkbaefaaDoorD5
/-! The reference of chapter 04: Parse. -/
set_option linter.unusedVariables false
set_option linter.unusedSimpArgs false
namespace Go.Proofs.YtkpfpgggkbaefaaDoor
open Go.RowKit Go.Proofs.YtkpfpgggkbaefaaDoorW.PrintWords Go.Proofs.YtkpfpgggkbaefaaDoorW.PrintLast Go.Proofs.YtkpfpgggkbaefaaDoorW.PrintMore Go.Lib Plain

theorem eInfoU64 : (Tryd.prog.info? 23).map (fun i => (i.zero, i.size, i.bytes)) = some (some (.int .u64 0), 1, 8) := by kernel_rfl
theorem numberV (x : List UInt8) (u : Nat) (ok : Bool) (hx : x.length ≤ 200) (hu : nval x = u) (hok : okNum x = ok) (w : World) : Calls Tryd.prog 29 #[.string ⟨x.toArray⟩] w fun e w' => e = .returned (.tuple #[.int .u64 u, .bool ok]) ∧ Below w.heap.size w w' := by
  subst hu hok
  exact number_calls x hx w
theorem rputW_calls (kd e n p i k : Nat) (t : List UInt8) (ht : putB ⟨kd, e, n, p, i, k⟩ = t) (hf : (⟨kd, e, n, p, i, k⟩ : Nm).Fits) (w : World) : Calls Tryd.prog 15 #[.agg #[.int .u8 kd, .int .u64 e, .int .u64 n, .int .u64 p, .int .u64 i, .int .u64 k]] w fun e w' => e = .returned (.string ⟨t.toArray⟩) ∧ Below w.heap.size w w' := by
  rw [← ht]
  exact rput_calls kd e n p i k hf w
def intL (l : List Nat) : List Int := l.map fun (x : Nat) => (x : Int)
theorem intL_append (a b : List Nat) : intL (a ++ b) = intL a ++ intL b := by simp [intL]
theorem intL_len (a : List Nat) : (intL a).length = a.length := by simp [intL]
def candC (a b c d : Nat) : Array Value := #[.int .u8 1, .int .u64 a, .int .u64 b, .int .u64 0, .int .u64 0, .int .u64 0, .int .u8 2, .int .u64 a, .int .u64 b, .int .u64 0, .int .u64 0, .int .u64 0, .int .u8 3, .int .u64 0, .int .u64 0, .int .u64 a, .int .u64 b, .int .u64 c, .int .u8 4, .int .u64 a, .int .u64 0, .int .u64 b, .int .u64 c, .int .u64 d]
theorem cand_at (L : List Nat) (j : Nat) (hj : j < 4) (w : World) (gl : Nat) (tl : TypeId) (hl : w.heap[gl]? = some (.cells (candC (L.getD 0 0) (L.getD 1 0) (L.getD 2 0) (L.getD 3 0)) tl (0, 0))) :
    ∃ (kd e n p i k : Nat), cand L j = ⟨kd, e, n, p, i, k⟩ ∧ w.cell? ⟨gl, 6 * j, none⟩ = some (.int .u8 kd) ∧ w.cell? ⟨gl, 6 * j + 1, none⟩ = some (.int .u64 e) ∧ w.cell? ⟨gl, 6 * j + 2, none⟩ = some (.int .u64 n) ∧ w.cell? ⟨gl, 6 * j + 3, none⟩ = some (.int .u64 p) ∧ w.cell? ⟨gl, 6 * j + 4, none⟩ = some (.int .u64 i) ∧ w.cell? ⟨gl, 6 * j + 5, none⟩ = some (.int .u64 k) := by
  have h4 : j = 0 ∨ j = 1 ∨ j = 2 ∨ j = 3 := by omega
  rcases h4 with rfl | rfl | rfl | rfl
  all_goals exact ⟨_, _, _, _, _, _, rfl, by simp [World.cell?, hl, candC], by simp [World.cell?, hl, candC], by simp [World.cell?, hl, candC], by simp [World.cell?, hl, candC], by simp [World.cell?, hl, candC], by simp [World.cell?, hl, candC]⟩
theorem nums_pad (L : List Nat) (j : Nat) (hj : j < L.length + 2) : (nums .u64 (intL L ++ [0, 0]))[j]? = some (.int .u64 (L.getD j 0 : Nat)) := by
  rw [nums_append]
  by_cases h : j < L.length
  · rw [List.getElem?_append_left (by rw [nums_length, intL_len]; exact h)]
    simp [nums, intL, List.getD_eq_getElem?_getD, h]
  · rw [List.getElem?_append_right (by rw [nums_length, intL_len]; omega), nums_length, intL_len, List.getD_eq_getElem?_getD, show L[j]? = none from List.getElem?_eq_none (by omega)]
    obtain ⟨k, hk⟩ : ∃ k, j - L.length = k := ⟨_, rfl⟩
    rw [hk]
    rcases (show k = 0 ∨ k = 1 by omega) with rfl | rfl <;> rfl
/-- What the first loop leaves: the cell of the result, the words, the numbers read. -/
structure RP (w w2 W : World) (v : Value) (ws : List (List UInt8)) (i : Nat) (L : List Nat) : Prop where
  own : W.ownsRow w2.heap.size 23 1 v (intL L).length (nums .u64 (intL L))
  kb : Below w2.heap.size w2 W
  lis : L = ((ws.tail).take (i - 1)).map nval
  oks : ∀ x ∈ (ws.tail).take (i - 1), okNum x = true
theorem RP.to {w w2 W W2 : World} {v : Value} {ws : List (List UInt8)} {i : Nat} {L : List Nat} (H : RP w w2 W v ws i L) (hb : Below W.heap.size W W2) : RP w w2 W2 v ws i L :=
  ⟨pw_own_below H.own hb, below_step H.kb hb, H.lis, H.oks⟩
theorem RP.step {w w2 W W2 : World} {v v1 : Value} {ws : List (List UInt8)} {i : Nat} {L : List Nat} {x : List UInt8} {u : Nat} (H : RP w w2 W v ws i L) (hN : W2.ownsRow w2.heap.size 23 1 v1 (intL L ++ [(u : Int)]).length (nums .u64 (intL L ++ [(u : Int)]))) (hB : Below w2.heap.size w2 W2)
    (hm : ws.tail.take (i + 1 - 1) = ws.tail.take (i - 1) ++ [x]) (hu : nval x = u) (hok : okNum x = true) : RP w w2 W2 v1 ws (i + 1) (L ++ [u]) := by
  refine ⟨by rw [intL_append]; exact hN, hB, ?_, ?_⟩
  · rw [hm, List.map_append, ← H.lis, List.map_singleton, hu]
  · intro y hy
    rw [hm] at hy
    rcases List.mem_append.mp hy with hy | hy
    · exact H.oks y hy
    · rw [List.mem_singleton.mp hy]
      exact hok
set_option maxHeartbeats 8000000 in
set_option maxRecDepth 100000 in
theorem rparse_calls (l : List UInt8) (hl : l.length ≤ 200) (w : World) : Calls Tryd.prog 9 #[.string ⟨l.toArray⟩] w fun e w' => e = .returned (.tuple #[.agg (parseN l).cells, .bool (parseOk l)]) ∧ Below w.heap.size w w' := by
  have HL := Aside0.mk hl
  clear hl
  go_enter Tryd.func9, Tryd.ntmps9
  go_wp2_with (go_at_call 28; refine (split_calls l HL.out _).mono ?_; rintro e w2 ⟨⟨v4, rfl, ho⟩, hb⟩; have HB2 := Aside0.mk (below_step (below_alloc (Below.refl _ _) _) hb); have HZ2 := Aside0.mk ((hb.block w.heap.size (by simp only [World.size_alloc]; omega)).trans (heap_alloc_new w _)); have HO2 := Aside0.mk ho; clear hb ho)
  obtain ⟨ws, hws⟩ : ∃ ws, Plain.cut l = ws := ⟨_, rfl⟩
  have hne : ws ≠ [] := hws ▸ cut_ne l
  have hcl : ws.length ≤ 201 := by have h1 := cut_count l; have h2 := HL.out; rw [hws] at h1; omega
  have hwl : ∀ x ∈ ws, x.length ≤ 200 := fun x hx => by have h1 := cut_len l x (by rw [hws]; exact hx); have h2 := HL.out; omega
  rw [hws] at HO2
  have HC := Aside0.mk hws
  have HWL := Aside0.mk hwl
  clear hws hwl
  obtain ⟨n, hn⟩ : ∃ n, ws.length = n := ⟨_, rfl⟩
  have hn0 : 0 < n := by rw [← hn]; exact List.length_pos_iff.mpr hne
  have hn201 : n ≤ 201 := by omega
  have hsl : (strL ws).length = n := by simp [strL, hn]
  obtain ⟨g, cap, rfl⟩ : ∃ g cap, v4 = .slice (some ⟨g, 0, none⟩) n cap := by
    rcases HO2.out.2 with ⟨_, h2⟩ | ⟨g, cap, cur, h, _⟩
    · rw [hsl] at h2; omega
    · rw [hsl] at h; exact ⟨g, cap, h⟩
  have HCELL := Aside0.mk (show ∀ i (h : i < ws.length), w2.cell? ⟨g, i, none⟩ = some (.string ⟨(ws[i]).toArray⟩) from fun i h => by
    have h1 := HO2.out.cells (g := g) rfl i (.string ⟨(ws[i]).toArray⟩) (by simp [strL, h])
    rwa [Lib.add_plain, Nat.zero_add] at h1)
  have HN := Aside0.mk hn
  clear hne hn hsl hcl
  have hn1 : (1 : Int) ≤ (n : Int) := by omega
  go_wp2
  go_loopw [5, 6] (fun v5 v6 wr => ∃ (i : Nat) (L : List Nat), 1 ≤ i ∧ i ≤ n ∧ v6 = .int .i64 i ∧ Aside0 (RP w w2 wr v5 ws i L)) (fun _ v6 _ => n - (RowKit.intOf v6).toNat)
  case atStart => exact ⟨1, [], by omega, by omega, rfl, ⟨⟨World.ownsRow_nil w2 w2.heap.size 23 1, Below.refl _ _, rfl, fun x hx => by simp at hx⟩⟩⟩
  case round =>
    obtain ⟨i, L, hi1, hin, rfl, HR⟩ := hrel
    by_cases hlt : i < n
    · have hltI : (i : Int) < (n : Int) := by omega
      have hil : i < ws.length := by rw [HN.out]; exact hlt
      have hcell := pw_cell_below HR.out.kb (HCELL.out i hil)
      have HMEM := Aside0.mk (show ws[i] ∈ ws.tail ∧ ws.tail.take (i + 1 - 1) = ws.tail.take (i - 1) ++ [ws[i]] by
        obtain ⟨m, rfl⟩ : ∃ m, i = m + 1 := ⟨i - 1, by omega⟩
        have hm : m < ws.tail.length := by rw [List.length_tail]; omega
        have e : ws.tail[m] = ws[m + 1] := List.getElem_tail ..
        refine ⟨e ▸ List.getElem_mem hm, ?_⟩
        show ws.tail.take (m + 1) = ws.tail.take m ++ _
        rw [List.take_succ_eq_append_getElem hm, e])
      have HX2 := Aside0.mk (HWL.out ws[i] (List.getElem_mem hil))
      generalize ws[i] = x at hcell HMEM HX2
      obtain ⟨u, hu⟩ : ∃ u, nval x = u := ⟨_, rfl⟩
      have HU := Aside0.mk hu
      have HLL := Aside0.mk (show L.length ≤ 201 by rw [HR.out.lis, List.length_map, List.length_take, List.length_tail, HN.out]; omega)
      cases hok : okNum x with
      | false =>
        have HPN := Aside0.mk (show parseB l = none from parse_none_bad (by rw [HC.out]; exact HMEM.out.1) hok)
        have HOK := Aside0.mk hok
        clear hok hu
        go_wp2_with (go_at_call 29; refine (numberV x u false HX2.out HU.out HOK.out _).mono ?_; rintro e w4 ⟨rfl, hb⟩; have HR4 := Aside0.mk (HR.out.to hb); clear hb; obtain ⟨⟨z0, z1, z2, z3, z4, z5⟩, y0, y1, y2, y3, y4, y5⟩ := zcells ((HR4.out.kb.block _ (Array.getElem?_eq_some_iff.1 HZ2.out).1).trans HZ2.out))
        refine bodyPost_ret (v := .tuple #[.agg nm0.cells, .bool false]) (by simp [results, Tryd.results9, go_sem, nm0, Nm.cells, z0, z1, z2, z3, z4, z5]) rfl ⟨by rw [parseN, parseOk, HPN.out]; rfl, ?_⟩
        exact below6 (below_step HB2.out HR4.out.kb) (Nat.le_refl _) _ _ _ _ _ _
      | true =>
        have HOK := Aside0.mk hok
        clear hok hu
        go_wp2_with (first
          | (go_at_call 29; refine (numberV x u true HX2.out HU.out HOK.out _).mono ?_; rintro e w4 ⟨rfl, hb⟩; have HR4 := Aside0.mk (HR.out.to hb); clear hb)
          | ((with_reducible refine gate_builtin (b := .append) (xs := #[.tmp 30, .tmp 32]) rfl ?_); go_must (refine print_append_num (w0 := w2) w2.heap.size rfl (.tmp 30) (.tmp 32) 61 23 .u64 8 rfl Tryd.underlying61 eInfoU64 (by decide) u5 (intL L) (u : Int) rfl rfl HR4.out.own HR4.out.kb HR4.out.kb.size (by have := HLL.out; rw [intL_len]; omega) ?_; intro v1 w8 hN hB hg hat; have HR8 := Aside0.mk (RP.step HR4.out hN hB HMEM.out.2 HU.out HOK.out); clear hN hB hg hat)))
        exact ⟨⟨i + 1, L ++ [u], by omega, by omega, by go_num, HR8⟩, by simp [RowKit.intOf]; omega⟩
    · obtain rfl : n = i := by omega
      have HL5 := Aside0.mk (show L.length + 1 = n by rw [HR.out.lis, List.length_map, List.length_take, List.length_tail, HN.out]; omega)
      have HLall := Aside0.mk (show L = (Plain.cut l).tail.map nval by rw [HC.out, HR.out.lis, List.take_of_length_le (by rw [List.length_tail, HN.out]; exact Nat.le_refl _)])
      have HF64 := Aside0.mk (show ∀ x ∈ L, x < 18446744073709551616 by rw [HLall.out]; intro x hx; obtain ⟨y, _, rfl⟩ := List.mem_map.mp hx; exact nval_lt y)
      obtain ⟨m, hm⟩ : ∃ m, L.length = m := ⟨_, rfl⟩
      have hmn : m + 1 = n := by rw [← hm]; exact HL5.out
      have HM := Aside0.mk hm
      obtain ⟨A5, c5, rfl⟩ : ∃ A c, u5 = .slice A m c := by
        rcases HR.out.own.2 with ⟨h1, h2⟩ | ⟨g, cap, cur, h, _⟩
        · exact ⟨none, 0, by rw [h1, ← hm, ← intL_len L, h2]⟩
        · exact ⟨_, cap, by rw [h, intL_len, hm]⟩
      clear hm
      by_cases hbad : m < 2 ∨ 4 < m
      · have HPN := Aside0.mk (show parseB l = none from parse_none_len (by have h1 := congrArg List.length HLall.out; rw [List.length_map, HM.out] at h1; omega))
        obtain ⟨⟨z0, z1, z2, z3, z4, z5⟩, y0, y1, y2, y3, y4, y5⟩ := zcells ((HR.out.kb.block _ (Array.getElem?_eq_some_iff.1 HZ2.out).1).trans HZ2.out)
        have hbad2 : m < 2 ∨ (2 ≤ m ∧ 4 < m) := by omega
        clear hbad
        rcases hbad2 with h2 | ⟨h2, h4⟩
        · have hI : (m : Int) < 2 := by omega
          go_wp2
          refine bodyPost_ret (v := .tuple #[.agg nm0.cells, .bool false]) (by simp [results, Tryd.results9, go_sem, nm0, Nm.cells, z0, z1, z2, z3, z4, z5]) rfl ⟨by rw [parseN, parseOk, HPN.out]; rfl, ?_⟩
          exact below6 (below_step HB2.out HR.out.kb) (Nat.le_refl _) _ _ _ _ _ _
        · have hI : ¬ (m : Int) < 2 := by omega
          have hJ : (m : Int) > 4 := by omega
          go_wp2
          refine bodyPost_ret (v := .tuple #[.agg nm0.cells, .bool false]) (by simp [results, Tryd.results9, go_sem, nm0, Nm.cells, z0, z1, z2, z3, z4, z5]) rfl ⟨by rw [parseN, parseOk, HPN.out]; rfl, ?_⟩
          exact below6 (below_step HB2.out HR.out.kb) (Nat.le_refl _) _ _ _ _ _ _
      · have hI : ¬ (m : Int) < 2 := by omega
        have hJ : ¬ (m : Int) > 4 := by omega
        have hm2 : 2 ≤ m := by omega
        have hm4 : m ≤ 4 := by omega
        clear hbad
        go_upto_region 13 with ((with_reducible refine gate_builtin (b := .append) (xs := #[.tmp 43, .tmp 44]) rfl ?_); go_must (refine print_append_row (w0 := w2) w2.heap.size rfl (.tmp 43) (.tmp 44) 61 23 .u64 8 rfl Tryd.underlying61 eInfoU64 (by decide) (.slice A5 m c5) (intL L) [0, 0] (some ⟨wr.heap.size, 0, none⟩) 2 2 rfl rfl (World.ownsRow.alloc HR.out.own _) ⟨rfl, by decide, fun _ => ⟨_, rfl, fun j hj => by rcases (by omega : j = 0 ∨ j = 1) with rfl | rfl <;> first | (go_simp; done) | (go_simp; rfl)⟩⟩ (HR.out.kb.alloc HR.out.kb.size _) (by simp only [World.size_alloc]; have := HR.out.kb.size; omega) (by rw [intL_len, HM.out]; omega) ?_; intro v1 w8 hN hB hg hat; have HN8 := Aside0.mk hN; have HB8 := Aside0.mk hB; clear hN hB hg hat))
        have hl2 : (intL L ++ [0, 0]).length = m + 2 := by rw [List.length_append, intL_len, HM.out]; rfl
        obtain ⟨g5, c6, rfl⟩ : ∃ g c, v1 = Value.slice (some ⟨g, 0, none⟩) (m + 2) c := by
          rcases HN8.out.2 with ⟨_, h2⟩ | ⟨g, cap, cur, h, _⟩
          · rw [hl2] at h2; omega
          · rw [hl2] at h; exact ⟨g, cap, h⟩
        have hcl : ∀ j, j < m + 2 → w8.drew.cell? ⟨g5, j, none⟩ = some (.int .u64 (L.getD j 0 : Nat)) := fun j hj => by
          have h1 := HN8.out.cells (g := g5) rfl j (.int .u64 (L.getD j 0 : Nat)) (nums_pad L j (by rw [HM.out]; exact hj))
          rwa [Lib.add_plain, Nat.zero_add] at h1
        have hq0 := hcl 0 (by omega)
        have hq1 := hcl 1 (by omega)
        have hq2 := hcl 2 (by omega)
        have hq3 := hcl 3 (by omega)
        have HCA := Aside0.mk (fun (W : World) (g : Nat) (t : TypeId) => cand_at L (w := W) (gl := g) (tl := t))
        have HB9 := Aside0.mk (below_step HB2.out HB8.out)
        have HZ9 := Aside0.mk ((HB8.out.block _ (Array.getElem?_eq_some_iff.1 HZ2.out).1).trans HZ2.out)
        clear hcl hl2 HN8 HB8 HZ2 HB2 HR HO2 HCELL HN
        generalize L.getD 0 0 = m0 at hq0 HCA
        generalize L.getD 1 0 = m1 at hq1 HCA
        generalize L.getD 2 0 = m2 at hq2 HCA
        generalize L.getD 3 0 = m3 at hq3 HCA
        have h0a : (0 : Int) < (m : Int) + 2 := by omega
        have h1a : (1 : Int) < (m : Int) + 2 := by omega
        have h2a : (2 : Int) < (m : Int) + 2 := by omega
        have h3a : (3 : Int) < (m : Int) + 2 := by omega
        refine start_ (n := 39) (S := fun w' => w'.cell? ⟨g5, 0, none⟩ = some (.int .u64 m0) ∧ w'.cell? ⟨g5, 1, none⟩ = some (.int .u64 m1) ∧ w'.cell? ⟨g5, 2, none⟩ = some (.int .u64 m2) ∧ w'.cell? ⟨g5, 3, none⟩ = some (.int .u64 m3)) (ds := []) #[false, false, false, false, false, false, false, false, false, false, false, false, false, false, false, false, false, false, false, false, false, false, false, false, false, false, false, false, false, false, false, false, false, false, false, false, false, false, false] (by kernel_rfl) rfl rfl ⟨hq0, hq1, hq2, hq3⟩ (fun hHeld => ?_)
        refine pure_ (i := 0) (N := some 46) (v := ?_) (a' := ?_) #[true, false, false, false, false, false, false, false, false, false, false, false, false, false, false, false, false, false, false, false, false, false, false, false, false, false, false, false, false, false, false, false, false, false, false, false, false, false, false] rfl rfl (by kernel_rfl) (fun _ _ _ h => h) (Or.inl ⟨by rfl, ?_⟩) ?_ ?_
        rotate_left
        · intro w'
          go_simp
          with_reducible rfl
        rotate_left
        · simp only [Act.put, List.setIfInBounds_toArray, List.set_cons_zero, List.set_cons_succ, i64_w, i32_w]
          rfl
        refine pure_ (i := 1) (N := some 47) (v := ?_) (a' := ?_) #[true, true, false, false, false, false, false, false, false, false, false, false, false, false, false, false, false, false, false, false, false, false, false, false, false, false, false, false, false, false, false, false, false, false, false, false, false, false, false] rfl rfl (by kernel_rfl) (fun _ _ _ h => h) (Or.inl ⟨by rfl, ?_⟩) ?_ ?_
        rotate_left
        · intro w'
          go_simp
          with_reducible rfl
        rotate_left
        · simp only [Act.put, List.setIfInBounds_toArray, List.set_cons_zero, List.set_cons_succ, i64_w, i32_w]
          rfl
        refine pure_ (i := 3) (N := some 49) (v := ?_) (a' := ?_) #[true, true, false, true, false, false, false, false, false, false, false, false, false, false, false, false, false, false, false, false, false, false, false, false, false, false, false, false, false, false, false, false, false, false, false, false, false, false, false] rfl rfl (by kernel_rfl) (fun _ _ _ h => h) (Or.inl ⟨by rfl, ?_⟩) ?_ ?_
        rotate_left
        · intro w'
          go_simp
          with_reducible rfl
        rotate_left
        · simp only [Act.put, List.setIfInBounds_toArray, List.set_cons_zero, List.set_cons_succ, i64_w, i32_w]
          rfl
        refine pure_ (i := 4) (N := some 50) (v := ?_) (a' := ?_) #[true, true, false, true, true, false, false, false, false, false, false, false, false, false, false, false, false, false, false, false, false, false, false, false, false, false, false, false, false, false, false, false, false, false, false, false, false, false, false] rfl rfl (by kernel_rfl) (fun _ _ _ h => h) (Or.inl ⟨by rfl, ?_⟩) ?_ ?_
        rotate_left
        · intro w'
          go_simp
          with_reducible rfl
        rotate_left
        · simp only [Act.put, List.setIfInBounds_toArray, List.set_cons_zero, List.set_cons_succ, i64_w, i32_w]
          rfl
        refine pure_ (i := 7) (N := some 53) (v := ?_) (a' := ?_) #[true, true, false, true, true, false, false, true, false, false, false, false, false, false, false, false, false, false, false, false, false, false, false, false, false, false, false, false, false, false, false, false, false, false, false, false, false, false, false] rfl rfl (by kernel_rfl) (fun _ _ _ h => h) (Or.inl ⟨by rfl, ?_⟩) ?_ ?_
        rotate_left
        · intro w'
          go_simp
          with_reducible rfl
        rotate_left
        · simp only [Act.put, List.setIfInBounds_toArray, List.set_cons_zero, List.set_cons_succ, i64_w, i32_w]
          rfl
        refine pure_ (i := 8) (N := some 54) (v := ?_) (a' := ?_) #[true, true, false, true, true, false, false, true, true, false, false, false, false, false, false, false, false, false, false, false, false, false, false, false, false, false, false, false, false, false, false, false, false, false, false, false, false, false, false] rfl rfl (by kernel_rfl) (fun _ _ _ h => h) (Or.inl ⟨by rfl, ?_⟩) ?_ ?_
        rotate_left
        · intro w'
          go_simp
          with_reducible rfl
        rotate_left
        · simp only [Act.put, List.setIfInBounds_toArray, List.set_cons_zero, List.set_cons_succ, i64_w, i32_w]
          rfl
        refine pure_ (i := 10) (N := some 56) (v := ?_) (a' := ?_) #[true, true, false, true, true, false, false, true, true, false, true, false, false, false, false, false, false, false, false, false, false, false, false, false, false, false, false, false, false, false, false, false, false, false, false, false, false, false, false] rfl rfl (by kernel_rfl) (fun _ _ _ h => h) (Or.inl ⟨by rfl, ?_⟩) ?_ ?_
        rotate_left
        · intro w'
          go_simp
          with_reducible rfl
        rotate_left
        · simp only [Act.put, List.setIfInBounds_toArray, List.set_cons_zero, List.set_cons_succ, i64_w, i32_w]
          rfl
        refine pure_ (i := 11) (N := some 57) (v := ?_) (a' := ?_) #[true, true, false, true, true, false, false, true, true, false, true, true, false, false, false, false, false, false, false, false, false, false, false, false, false, false, false, false, false, false, false, false, false, false, false, false, false, false, false] rfl rfl (by kernel_rfl) (fun _ _ _ h => h) (Or.inl ⟨by rfl, ?_⟩) ?_ ?_
        rotate_left
        · intro w'
          go_simp
          with_reducible rfl
        rotate_left
        · simp only [Act.put, List.setIfInBounds_toArray, List.set_cons_zero, List.set_cons_succ, i64_w, i32_w]
          rfl
        refine pure_ (i := 14) (N := some 60) (v := ?_) (a' := ?_) #[true, true, false, true, true, false, false, true, true, false, true, true, false, false, true, false, false, false, false, false, false, false, false, false, false, false, false, false, false, false, false, false, false, false, false, false, false, false, false] rfl rfl (by kernel_rfl) (fun _ _ _ h => h) (Or.inl ⟨by rfl, ?_⟩) ?_ ?_
        rotate_left
        · intro w'
          go_simp
          with_reducible rfl
        rotate_left
        · simp only [Act.put, List.setIfInBounds_toArray, List.set_cons_zero, List.set_cons_succ, i64_w, i32_w]
          rfl
        refine pure_ (i := 15) (N := some 61) (v := ?_) (a' := ?_) #[true, true, false, true, true, false, false, true, true, false, true, true, false, false, true, true, false, false, false, false, false, false, false, false, false, false, false, false, false, false, false, false, false, false, false, false, false, false, false] rfl rfl (by kernel_rfl) (fun _ _ _ h => h) (Or.inl ⟨by rfl, ?_⟩) ?_ ?_
        rotate_left
        · intro w'
          go_simp
          with_reducible rfl
        rotate_left
        · simp only [Act.put, List.setIfInBounds_toArray, List.set_cons_zero, List.set_cons_succ, i64_w, i32_w]
          rfl
        refine pure_ (i := 17) (N := some 63) (v := ?_) (a' := ?_) #[true, true, false, true, true, false, false, true, true, false, true, true, false, false, true, true, false, true, false, false, false, false, false, false, false, false, false, false, false, false, false, false, false, false, false, false, false, false, false] rfl rfl (by kernel_rfl) (fun _ _ _ h => h) (Or.inl ⟨by rfl, ?_⟩) ?_ ?_
        rotate_left
        · intro w'
          go_simp
          with_reducible rfl
        rotate_left
        · simp only [Act.put, List.setIfInBounds_toArray, List.set_cons_zero, List.set_cons_succ, i64_w, i32_w]
          rfl
        refine pure_ (i := 18) (N := some 64) (v := ?_) (a' := ?_) #[true, true, false, true, true, false, false, true, true, false, true, true, false, false, true, true, false, true, true, false, false, false, false, false, false, false, false, false, false, false, false, false, false, false, false, false, false, false, false] rfl rfl (by kernel_rfl) (fun _ _ _ h => h) (Or.inl ⟨by rfl, ?_⟩) ?_ ?_
        rotate_left
        · intro w'
          go_simp
          with_reducible rfl
        rotate_left
        · simp only [Act.put, List.setIfInBounds_toArray, List.set_cons_zero, List.set_cons_succ, i64_w, i32_w]
          rfl
        refine pure_ (i := 20) (N := some 66) (v := ?_) (a' := ?_) #[true, true, false, true, true, false, false, true, true, false, true, true, false, false, true, true, false, true, true, false, true, false, false, false, false, false, false, false, false, false, false, false, false, false, false, false, false, false, false] rfl rfl (by kernel_rfl) (fun _ _ _ h => h) (Or.inl ⟨by rfl, ?_⟩) ?_ ?_
        rotate_left
        · intro w'
          go_simp
          with_reducible rfl
        rotate_left
        · simp only [Act.put, List.setIfInBounds_toArray, List.set_cons_zero, List.set_cons_succ, i64_w, i32_w]
          rfl
        refine pure_ (i := 21) (N := some 67) (v := ?_) (a' := ?_) #[true, true, false, true, true, false, false, true, true, false, true, true, false, false, true, true, false, true, true, false, true, true, false, false, false, false, false, false, false, false, false, false, false, false, false, false, false, false, false] rfl rfl (by kernel_rfl) (fun _ _ _ h => h) (Or.inl ⟨by rfl, ?_⟩) ?_ ?_
        rotate_left
        · intro w'
          go_simp
          with_reducible rfl
        rotate_left
        · simp only [Act.put, List.setIfInBounds_toArray, List.set_cons_zero, List.set_cons_succ, i64_w, i32_w]
          rfl
        refine pure_ (i := 24) (N := some 70) (v := ?_) (a' := ?_) #[true, true, false, true, true, false, false, true, true, false, true, true, false, false, true, true, false, true, true, false, true, true, false, false, true, false, false, false, false, false, false, false, false, false, false, false, false, false, false] rfl rfl (by kernel_rfl) (fun _ _ _ h => h) (Or.inl ⟨by rfl, ?_⟩) ?_ ?_
        rotate_left
        · intro w'
          go_simp
          with_reducible rfl
        rotate_left
        · simp only [Act.put, List.setIfInBounds_toArray, List.set_cons_zero, List.set_cons_succ, i64_w, i32_w]
          rfl
        refine pure_ (i := 25) (N := some 71) (v := ?_) (a' := ?_) #[true, true, false, true, true, false, false, true, true, false, true, true, false, false, true, true, false, true, true, false, true, true, false, false, true, true, false, false, false, false, false, false, false, false, false, false, false, false, false] rfl rfl (by kernel_rfl) (fun _ _ _ h => h) (Or.inl ⟨by rfl, ?_⟩) ?_ ?_
        rotate_left
        · intro w'
          go_simp
          with_reducible rfl
        rotate_left
        · simp only [Act.put, List.setIfInBounds_toArray, List.set_cons_zero, List.set_cons_succ, i64_w, i32_w]
          rfl
        refine pure_ (i := 27) (N := some 73) (v := ?_) (a' := ?_) #[true, true, false, true, true, false, false, true, true, false, true, true, false, false, true, true, false, true, true, false, true, true, false, false, true, true, false, true, false, false, false, false, false, false, false, false, false, false, false] rfl rfl (by kernel_rfl) (fun _ _ _ h => h) (Or.inl ⟨by rfl, ?_⟩) ?_ ?_
        rotate_left
        · intro w'
          go_simp
          with_reducible rfl
        rotate_left
        · simp only [Act.put, List.setIfInBounds_toArray, List.set_cons_zero, List.set_cons_succ, i64_w, i32_w]
          rfl
        refine pure_ (i := 28) (N := some 74) (v := ?_) (a' := ?_) #[true, true, false, true, true, false, false, true, true, false, true, true, false, false, true, true, false, true, true, false, true, true, false, false, true, true, false, true, true, false, false, false, false, false, false, false, false, false, false] rfl rfl (by kernel_rfl) (fun _ _ _ h => h) (Or.inl ⟨by rfl, ?_⟩) ?_ ?_
        rotate_left
        · intro w'
          go_simp
          with_reducible rfl
        rotate_left
        · simp only [Act.put, List.setIfInBounds_toArray, List.set_cons_zero, List.set_cons_succ, i64_w, i32_w]
          rfl
        refine pure_ (i := 30) (N := some 76) (v := ?_) (a' := ?_) #[true, true, false, true, true, false, false, true, true, false, true, true, false, false, true, true, false, true, true, false, true, true, false, false, true, true, false, true, true, false, true, false, false, false, false, false, false, false, false] rfl rfl (by kernel_rfl) (fun _ _ _ h => h) (Or.inl ⟨by rfl, ?_⟩) ?_ ?_
        rotate_left
        · intro w'
          go_simp
          with_reducible rfl
        rotate_left
        · simp only [Act.put, List.setIfInBounds_toArray, List.set_cons_zero, List.set_cons_succ, i64_w, i32_w]
          rfl
        refine pure_ (i := 31) (N := some 77) (v := ?_) (a' := ?_) #[true, true, false, true, true, false, false, true, true, false, true, true, false, false, true, true, false, true, true, false, true, true, false, false, true, true, false, true, true, false, true, true, false, false, false, false, false, false, false] rfl rfl (by kernel_rfl) (fun _ _ _ h => h) (Or.inl ⟨by rfl, ?_⟩) ?_ ?_
        rotate_left
        · intro w'
          go_simp
          with_reducible rfl
        rotate_left
        · simp only [Act.put, List.setIfInBounds_toArray, List.set_cons_zero, List.set_cons_succ, i64_w, i32_w]
          rfl
        refine pure_ (i := 33) (N := some 79) (v := ?_) (a' := ?_) #[true, true, false, true, true, false, false, true, true, false, true, true, false, false, true, true, false, true, true, false, true, true, false, false, true, true, false, true, true, false, true, true, false, true, false, false, false, false, false] rfl rfl (by kernel_rfl) (fun _ _ _ h => h) (Or.inl ⟨by rfl, ?_⟩) ?_ ?_
        rotate_left
        · intro w'
          go_simp
          with_reducible rfl
        rotate_left
        · simp only [Act.put, List.setIfInBounds_toArray, List.set_cons_zero, List.set_cons_succ, i64_w, i32_w]
          rfl
        refine pure_ (i := 34) (N := some 80) (v := ?_) (a' := ?_) #[true, true, false, true, true, false, false, true, true, false, true, true, false, false, true, true, false, true, true, false, true, true, false, false, true, true, false, true, true, false, true, true, false, true, true, false, false, false, false] rfl rfl (by kernel_rfl) (fun _ _ _ h => h) (Or.inl ⟨by rfl, ?_⟩) ?_ ?_
        rotate_left
        · intro w'
          go_simp
          with_reducible rfl
        rotate_left
        · simp only [Act.put, List.setIfInBounds_toArray, List.set_cons_zero, List.set_cons_succ, i64_w, i32_w]
          rfl
        refine take_ (i := 2) (N := some 48) (v := ?_) (a' := ?_) #[true, true, true, true, true, false, false, true, true, false, true, true, false, false, true, true, false, true, true, false, true, true, false, false, true, true, false, true, true, false, true, true, false, true, true, false, false, false, false] rfl rfl (by kernel_rfl) (fun _ _ _ h => h) (Or.inl ⟨by rfl, ?_⟩) hHeld ?_ ?_
        rotate_left
        · rintro w' ⟨s0, s1, s2, s3⟩
          go_simp
          with_reducible rfl
        rotate_left
        · simp only [Act.put, List.setIfInBounds_toArray, List.set_cons_zero, List.set_cons_succ, i64_w, i32_w]
          rfl
        refine take_ (i := 5) (N := some 51) (v := ?_) (a' := ?_) #[true, true, true, true, true, true, false, true, true, false, true, true, false, false, true, true, false, true, true, false, true, true, false, false, true, true, false, true, true, false, true, true, false, true, true, false, false, false, false] rfl rfl (by kernel_rfl) (fun _ _ _ h => h) (Or.inl ⟨by rfl, ?_⟩) hHeld ?_ ?_
        rotate_left
        · rintro w' ⟨s0, s1, s2, s3⟩
          go_simp
          with_reducible rfl
        rotate_left
        · simp only [Act.put, List.setIfInBounds_toArray, List.set_cons_zero, List.set_cons_succ, i64_w, i32_w]
          rfl
        refine pure_ (i := 6) (N := some 52) (v := ?_) (a' := ?_) #[true, true, true, true, true, true, true, true, true, false, true, true, false, false, true, true, false, true, true, false, true, true, false, false, true, true, false, true, true, false, true, true, false, true, true, false, false, false, false] rfl rfl (by kernel_rfl) (fun _ _ _ h => h) (Or.inl ⟨by rfl, ?_⟩) ?_ ?_
        rotate_left
        · intro w'
          go_simp
          with_reducible rfl
        rotate_left
        · simp only [Act.put, List.setIfInBounds_toArray, List.set_cons_zero, List.set_cons_succ, i64_w, i32_w]
          rfl
        refine take_ (i := 9) (N := some 55) (v := ?_) (a' := ?_) #[true, true, true, true, true, true, true, true, true, true, true, true, false, false, true, true, false, true, true, false, true, true, false, false, true, true, false, true, true, false, true, true, false, true, true, false, false, false, false] rfl rfl (by kernel_rfl) (fun _ _ _ h => h) (Or.inl ⟨by rfl, ?_⟩) hHeld ?_ ?_
        rotate_left
        · rintro w' ⟨s0, s1, s2, s3⟩
          go_simp
          with_reducible rfl
        rotate_left
        · simp only [Act.put, List.setIfInBounds_toArray, List.set_cons_zero, List.set_cons_succ, i64_w, i32_w]
          rfl
        refine take_ (i := 12) (N := some 58) (v := ?_) (a' := ?_) #[true, true, true, true, true, true, true, true, true, true, true, true, true, false, true, true, false, true, true, false, true, true, false, false, true, true, false, true, true, false, true, true, false, true, true, false, false, false, false] rfl rfl (by kernel_rfl) (fun _ _ _ h => h) (Or.inl ⟨by rfl, ?_⟩) hHeld ?_ ?_
        rotate_left
        · rintro w' ⟨s0, s1, s2, s3⟩
          go_simp
          with_reducible rfl
        rotate_left
        · simp only [Act.put, List.setIfInBounds_toArray, List.set_cons_zero, List.set_cons_succ, i64_w, i32_w]
          rfl
        refine pure_ (i := 13) (N := some 59) (v := ?_) (a' := ?_) #[true, true, true, true, true, true, true, true, true, true, true, true, true, true, true, true, false, true, true, false, true, true, false, false, true, true, false, true, true, false, true, true, false, true, true, false, false, false, false] rfl rfl (by kernel_rfl) (fun _ _ _ h => h) (Or.inl ⟨by rfl, ?_⟩) ?_ ?_
        rotate_left
        · intro w'
          go_simp
          with_reducible rfl
        rotate_left
        · simp only [Act.put, List.setIfInBounds_toArray, List.set_cons_zero, List.set_cons_succ, i64_w, i32_w]
          rfl
        refine take_ (i := 16) (N := some 62) (v := ?_) (a' := ?_) #[true, true, true, true, true, true, true, true, true, true, true, true, true, true, true, true, true, true, true, false, true, true, false, false, true, true, false, true, true, false, true, true, false, true, true, false, false, false, false] rfl rfl (by kernel_rfl) (fun _ _ _ h => h) (Or.inl ⟨by rfl, ?_⟩) hHeld ?_ ?_
        rotate_left
        · rintro w' ⟨s0, s1, s2, s3⟩
          go_simp
          with_reducible rfl
        rotate_left
        · simp only [Act.put, List.setIfInBounds_toArray, List.set_cons_zero, List.set_cons_succ, i64_w, i32_w]
          rfl
        refine take_ (i := 19) (N := some 65) (v := ?_) (a' := ?_) #[true, true, true, true, true, true, true, true, true, true, true, true, true, true, true, true, true, true, true, true, true, true, false, false, true, true, false, true, true, false, true, true, false, true, true, false, false, false, false] rfl rfl (by kernel_rfl) (fun _ _ _ h => h) (Or.inl ⟨by rfl, ?_⟩) hHeld ?_ ?_
        rotate_left
        · rintro w' ⟨s0, s1, s2, s3⟩
          go_simp
          with_reducible rfl
        rotate_left
        · simp only [Act.put, List.setIfInBounds_toArray, List.set_cons_zero, List.set_cons_succ, i64_w, i32_w]
          rfl
        refine take_ (i := 22) (N := some 68) (v := ?_) (a' := ?_) #[true, true, true, true, true, true, true, true, true, true, true, true, true, true, true, true, true, true, true, true, true, true, true, false, true, true, false, true, true, false, true, true, false, true, true, false, false, false, false] rfl rfl (by kernel_rfl) (fun _ _ _ h => h) (Or.inl ⟨by rfl, ?_⟩) hHeld ?_ ?_
        rotate_left
        · rintro w' ⟨s0, s1, s2, s3⟩
          go_simp
          with_reducible rfl
        rotate_left
        · simp only [Act.put, List.setIfInBounds_toArray, List.set_cons_zero, List.set_cons_succ, i64_w, i32_w]
          rfl
        refine pure_ (i := 23) (N := some 69) (v := ?_) (a' := ?_) #[true, true, true, true, true, true, true, true, true, true, true, true, true, true, true, true, true, true, true, true, true, true, true, true, true, true, false, true, true, false, true, true, false, true, true, false, false, false, false] rfl rfl (by kernel_rfl) (fun _ _ _ h => h) (Or.inl ⟨by rfl, ?_⟩) ?_ ?_
        rotate_left
        · intro w'
          go_simp
          with_reducible rfl
        rotate_left
        · simp only [Act.put, List.setIfInBounds_toArray, List.set_cons_zero, List.set_cons_succ, i64_w, i32_w]
          rfl
        refine take_ (i := 26) (N := some 72) (v := ?_) (a' := ?_) #[true, true, true, true, true, true, true, true, true, true, true, true, true, true, true, true, true, true, true, true, true, true, true, true, true, true, true, true, true, false, true, true, false, true, true, false, false, false, false] rfl rfl (by kernel_rfl) (fun _ _ _ h => h) (Or.inl ⟨by rfl, ?_⟩) hHeld ?_ ?_
        rotate_left
        · rintro w' ⟨s0, s1, s2, s3⟩
          go_simp
          with_reducible rfl
        rotate_left
        · simp only [Act.put, List.setIfInBounds_toArray, List.set_cons_zero, List.set_cons_succ, i64_w, i32_w]
          rfl
        refine take_ (i := 29) (N := some 75) (v := ?_) (a' := ?_) #[true, true, true, true, true, true, true, true, true, true, true, true, true, true, true, true, true, true, true, true, true, true, true, true, true, true, true, true, true, true, true, true, false, true, true, false, false, false, false] rfl rfl (by kernel_rfl) (fun _ _ _ h => h) (Or.inl ⟨by rfl, ?_⟩) hHeld ?_ ?_
        rotate_left
        · rintro w' ⟨s0, s1, s2, s3⟩
          go_simp
          with_reducible rfl
        rotate_left
        · simp only [Act.put, List.setIfInBounds_toArray, List.set_cons_zero, List.set_cons_succ, i64_w, i32_w]
          rfl
        refine take_ (i := 32) (N := some 78) (v := ?_) (a' := ?_) #[true, true, true, true, true, true, true, true, true, true, true, true, true, true, true, true, true, true, true, true, true, true, true, true, true, true, true, true, true, true, true, true, true, true, true, false, false, false, false] rfl rfl (by kernel_rfl) (fun _ _ _ h => h) (Or.inl ⟨by rfl, ?_⟩) hHeld ?_ ?_
        rotate_left
        · rintro w' ⟨s0, s1, s2, s3⟩
          go_simp
          with_reducible rfl
        rotate_left
        · simp only [Act.put, List.setIfInBounds_toArray, List.set_cons_zero, List.set_cons_succ, i64_w, i32_w]
          rfl
        refine take_ (i := 35) (N := some 81) (v := ?_) (a' := ?_) #[true, true, true, true, true, true, true, true, true, true, true, true, true, true, true, true, true, true, true, true, true, true, true, true, true, true, true, true, true, true, true, true, true, true, true, true, false, false, false] rfl rfl (by kernel_rfl) (fun _ _ _ h => h) (Or.inl ⟨by rfl, ?_⟩) hHeld ?_ ?_
        rotate_left
        · rintro w' ⟨s0, s1, s2, s3⟩
          go_simp
          with_reducible rfl
        rotate_left
        · simp only [Act.put, List.setIfInBounds_toArray, List.set_cons_zero, List.set_cons_succ, i64_w, i32_w]
          rfl
        refine pure_ (i := 36) (N := some 82) (v := ?_) (a' := ?_) #[true, true, true, true, true, true, true, true, true, true, true, true, true, true, true, true, true, true, true, true, true, true, true, true, true, true, true, true, true, true, true, true, true, true, true, true, true, false, false] rfl rfl (by kernel_rfl) (fun _ _ _ h => h) (Or.inl ⟨by rfl, ?_⟩) ?_ ?_
        rotate_left
        · intro w'
          go_simp
          with_reducible rfl
        rotate_left
        · simp only [Act.put, List.setIfInBounds_toArray, List.set_cons_zero, List.set_cons_succ, i64_w, i32_w]
          rfl
        refine one_ (i := 37) (N := some 83) #[true, true, true, true, true, true, true, true, true, true, true, true, true, true, true, true, true, true, true, true, true, true, true, true, true, true, true, true, true, true, true, true, true, true, true, true, true, true, false] rfl rfl (by kernel_rfl) (by decide) (fun K hK => ?_)
        refine value_ (w1 := ?_) (v := ?_) (by rfl) rfl ?_ ?_
        rotate_left 2
        · go_simp
          constructor
          · rfl
          · rfl
        refine hK.out _ _ ⟨cell_allocs hq0 _, cell_allocs hq1 _, cell_allocs hq2 _, cell_allocs hq3 _⟩ (fun hHeld => ?_)
        clear hK K
        refine norm_ (a' := ?_) ?_ ?_
        rotate_left
        · show Act.put _ (some 83) _ = _
          simp only [Act.put, List.setIfInBounds_toArray, List.set_cons_zero, List.set_cons_succ, i64_w, i32_w]
          rfl
        refine pure_ (i := 38) (N := some 9) (v := ?_) (a' := ?_) #[true, true, true, true, true, true, true, true, true, true, true, true, true, true, true, true, true, true, true, true, true, true, true, true, true, true, true, true, true, true, true, true, true, true, true, true, true, true, true] rfl rfl (by kernel_rfl) (fun _ _ _ h => h) (Or.inl ⟨by rfl, ?_⟩) ?_ ?_
        rotate_left
        · intro w'
          go_simp
          with_reducible rfl
        rotate_left
        · simp only [Act.put, List.setIfInBounds_toArray, List.set_cons_zero, List.set_cons_succ, i64_w, i32_w]
          rfl
        refine done_ (by kernel_rfl) ?_
        generalize wr.heap.size = gz
        clear wr hq0 hq1 hq2 hq3
        have HB10 : Aside0 (Below w.heap.size w (w8.alloc (.cells #[.int .u8 1, .int .u64 m0, .int .u64 m1, .int .u64 0, .int .u64 0, .int .u64 0, .int .u8 2, .int .u64 m0, .int .u64 m1, .int .u64 0, .int .u64 0, .int .u64 0, .int .u8 3, .int .u64 0, .int .u64 0, .int .u64 m0, .int .u64 m1, .int .u64 m2, .int .u8 4, .int .u64 m0, .int .u64 0, .int .u64 m1, .int .u64 m2, .int .u64 m3] 28)).drew) := Aside0.mk (below_drew (below_alloc HB9.out (.cells #[.int .u8 1, .int .u64 m0, .int .u64 m1, .int .u64 0, .int .u64 0, .int .u64 0, .int .u8 2, .int .u64 m0, .int .u64 m1, .int .u64 0, .int .u64 0, .int .u64 0, .int .u8 3, .int .u64 0, .int .u64 0, .int .u64 m0, .int .u64 m1, .int .u64 m2, .int .u8 4, .int .u64 m0, .int .u64 0, .int .u64 m1, .int .u64 m2, .int .u64 m3] 28)))
        have HZ10 : Aside0 ((w8.alloc (.cells #[.int .u8 1, .int .u64 m0, .int .u64 m1, .int .u64 0, .int .u64 0, .int .u64 0, .int .u8 2, .int .u64 m0, .int .u64 m1, .int .u64 0, .int .u64 0, .int .u64 0, .int .u8 3, .int .u64 0, .int .u64 0, .int .u64 m0, .int .u64 m1, .int .u64 m2, .int .u8 4, .int .u64 m0, .int .u64 0, .int .u64 m1, .int .u64 m2, .int .u64 m3] 28)).drew.heap[w.heap.size]? = _) := Aside0.mk (((below_alloc (Below.refl w8.heap.size w8) (.cells #[.int .u8 1, .int .u64 m0, .int .u64 m1, .int .u64 0, .int .u64 0, .int .u64 0, .int .u8 2, .int .u64 m0, .int .u64 m1, .int .u64 0, .int .u64 0, .int .u64 0, .int .u8 3, .int .u64 0, .int .u64 0, .int .u64 m0, .int .u64 m1, .int .u64 m2, .int .u8 4, .int .u64 m0, .int .u64 0, .int .u64 m1, .int .u64 m2, .int .u64 m3] 28)).block _ (Array.getElem?_eq_some_iff.1 HZ9.out).1).trans HZ9.out)
        have HA10 : Aside0 ((w8.alloc (.cells #[.int .u8 1, .int .u64 m0, .int .u64 m1, .int .u64 0, .int .u64 0, .int .u64 0, .int .u8 2, .int .u64 m0, .int .u64 m1, .int .u64 0, .int .u64 0, .int .u64 0, .int .u8 3, .int .u64 0, .int .u64 0, .int .u64 m0, .int .u64 m1, .int .u64 m2, .int .u8 4, .int .u64 m0, .int .u64 0, .int .u64 m1, .int .u64 m2, .int .u64 m3] 28)).drew.heap[w8.heap.size]? = some (.cells (candC m0 m1 m2 m3) 28 (0, 0))) := Aside0.mk (heap_alloc_new w8 (.cells #[.int .u8 1, .int .u64 m0, .int .u64 m1, .int .u64 0, .int .u64 0, .int .u64 0, .int .u8 2, .int .u64 m0, .int .u64 m1, .int .u64 0, .int .u64 0, .int .u64 0, .int .u8 3, .int .u64 0, .int .u64 0, .int .u64 m0, .int .u64 m1, .int .u64 m2, .int .u8 4, .int .u64 m0, .int .u64 0, .int .u64 m1, .int .u64 m2, .int .u64 m3] 28))
        clear HB9 HZ9
        generalize (w8.alloc (.cells #[.int .u8 1, .int .u64 m0, .int .u64 m1, .int .u64 0, .int .u64 0, .int .u64 0, .int .u8 2, .int .u64 m0, .int .u64 m1, .int .u64 0, .int .u64 0, .int .u64 0, .int .u8 3, .int .u64 0, .int .u64 0, .int .u64 m0, .int .u64 m1, .int .u64 m2, .int .u8 4, .int .u64 m0, .int .u64 0, .int .u64 m1, .int .u64 m2, .int .u64 m3] 28)).drew = w10 at HB10 HZ10 HA10 ⊢
        generalize w8.heap.size = g9 at HA10 ⊢
        repeat clear hHeld
        clear w8
        go_wp2
        go_loopw [10] (fun v10 wr => ∃ j : Nat, j ≤ 4 ∧ v10 = .int .i64 j ∧ Aside0 (Below w.heap.size w wr) ∧ Aside0 (wr.heap[w.heap.size]? = some (.cells #[.int .u8 0, .int .u64 0, .int .u64 0, .int .u64 0, .int .u64 0, .int .u64 0] 28 (0, 0))) ∧ Aside0 (wr.heap[g9]? = some (.cells (candC m0 m1 m2 m3) 28 (0, 0))) ∧ Aside0 (∀ i, i < j → putB (cand L i) ≠ l)) (fun v10 _ => 4 - (RowKit.intOf v10).toNat)
        case atStart => exact ⟨0, by omega, rfl, HB10, HZ10, HA10, ⟨fun i h => by omega⟩⟩
        case round =>
          obtain ⟨j, hj, rfl, HB, HZ, HA, HNO⟩ := hrel
          clear HB10 HZ10 HA10
          by_cases hlt : j < 4
          · obtain ⟨kd, e, n', p, i, k, hcand, g1, g2, g3, g4, g5', g6⟩ := HCA.out wr g9 _ j hlt HA.out
            obtain ⟨hmay, hfit⟩ := cand_may L hlt HF64.out
            rw [hcand] at hmay hfit
            have HCD := Aside0.mk hcand
            have HFT := Aside0.mk hfit
            obtain ⟨t, ht⟩ : ∃ t, putB ⟨kd, e, n', p, i, k⟩ = t := ⟨_, rfl⟩
            have HT := Aside0.mk ht
            have h4 : j = 0 ∨ j = 1 ∨ j = 2 ∨ j = 3 := by omega
            have HLT := Aside0.mk hlt
            clear hcand hmay hfit ht hlt hj
            rcases h4 with rfl | rfl | rfl | rfl
            all_goals
              simp only [Nat.reduceMul, Nat.reduceAdd] at g1 g2 g3 g4 g5' g6
              by_cases heq : t = l
              · have hbq : (t == l) = true := by rw [heq]; exact beq_self_eq_true l
                have HPN := Aside0.mk (show parseB l = some ⟨kd, e, n', p, i, k⟩ from by rw [← HCD.out]; exact parse_cand_some HLT.out HF64.out (by rw [HCD.out]; exact HT.out.trans heq))
                clear heq
                go_wp2_with (go_at_call 15; refine (rputW_calls kd e n' p i k t HT.out HFT.out _).mono ?_; rintro e w11 ⟨rfl, hb⟩; have HB11 := Aside0.mk (below_step HB.out hb); have HZ11 := Aside0.mk ((hb.block _ (Array.getElem?_eq_some_iff.1 HZ.out).1).trans HZ.out); replace g1 := pw_cell_below hb g1; replace g2 := pw_cell_below hb g2; replace g3 := pw_cell_below hb g3; replace g4 := pw_cell_below hb g4; replace g5' := pw_cell_below hb g5'; replace g6 := pw_cell_below hb g6; clear hb; obtain ⟨⟨z0, z1, z2, z3, z4, z5⟩, y0, y1, y2, y3, y4, y5⟩ := zcells HZ11.out)
                refine bodyPost_ret (v := .tuple #[.agg (⟨kd, e, n', p, i, k⟩ : Nm).cells, .bool true]) (by simp [results, Tryd.results9, go_sem, Nm.cells, z0, z1, z2, z3, z4, z5]) rfl ⟨by rw [parseN, parseOk, HPN.out]; rfl, ?_⟩
                exact below6 HB11.out (Nat.le_refl _) _ _ _ _ _ _
              · have hbq : (t == l) = false := beq_eq_false_iff_ne.mpr heq
                have HNE := Aside0.mk heq
                clear heq
                go_wp2_with (go_at_call 15; refine (rputW_calls kd e n' p i k t HT.out HFT.out _).mono ?_; rintro e w11 ⟨rfl, hb⟩; have HB11 := Aside0.mk (below_step HB.out hb); have HZ11 := Aside0.mk ((hb.block _ (Array.getElem?_eq_some_iff.1 HZ.out).1).trans HZ.out); have HA11 := Aside0.mk ((hb.block _ (Array.getElem?_eq_some_iff.1 HA.out).1).trans HA.out); clear hb)
                refine ⟨⟨_, ?_, rfl, HB11, HZ11, HA11, ⟨fun i' hi' => ?_⟩⟩, by decide⟩
                · decide
                · rcases Nat.lt_succ_iff_lt_or_eq.mp hi' with h | h
                  · exact HNO.out i' h
                  · subst h; rw [HCD.out, HT.out]; exact HNE.out
          · obtain rfl : j = 4 := by omega
            have HPN := Aside0.mk (show parseB l = none from parse_none_cand HLall.out HNO.out)
            obtain ⟨⟨z0, z1, z2, z3, z4, z5⟩, y0, y1, y2, y3, y4, y5⟩ := zcells HZ.out
            clear hj hlt
            go_wp2
            refine bodyPost_ret (v := .tuple #[.agg nm0.cells, .bool false]) (by simp [results, Tryd.results9, go_sem, nm0, Nm.cells, z0, z1, z2, z3, z4, z5]) rfl ⟨by rw [parseN, parseOk, HPN.out]; rfl, ?_⟩
            exact below6 HB.out (Nat.le_refl _) _ _ _ _ _ _
end Go.Proofs.YtkpfpgggkbaefaaDoor
