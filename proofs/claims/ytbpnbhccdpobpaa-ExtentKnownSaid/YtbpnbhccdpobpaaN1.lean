import Derived.Test.YtbpnbhccdpobpaaO1
/-! ExtentKnown. -/
set_option linter.unusedVariables false
set_option linter.unusedSimpArgs false
namespace Go.Proofs.Ytbpnbhccdpobpaa
open Go.RowKit Go.Proofs.YtbpnbhccdpobpaaW.PrintWords Go.Proofs.YtbpnbhccdpobpaaW.PrintLast Go.Proofs.YtbpnbhccdpobpaaW.PrintMore PExtentKnown

set_option maxHeartbeats 400000 in
set_option maxRecDepth 100000 in
theorem fail_nil_calls (A : Option Addr) (n c : Nat) (w : World) : Calls Try.prog 19 #[.pointer none, .slice A n c] w fun e w' => e = .returned (.tuple #[]) ∧ w = w' := by
  go_enter Try.func19, Try.ntmps19
  go_step3
  go_wp2
  rw [Exit.noGoto_ret]
  first | go_end0 | refine bodyPost_ret (results_none rfl _ _ _) rfl ?_
  exact ⟨rfl, rfl⟩
/-- A row laid just now, by its cells. -/
theorem F_lit {α : Type} {d : Kd α} {e : Nat} {w : World} {okp : Nat → Prop} (cs : Array Value) (n : Nat) (xs : List α) (hl : xs.length = n) (hs : cs.size = n * d.sz) (hm : n ≤ maxLen) (hr : Reps (Kd.FK d (w.alloc (.cells cs e)) okp) d.sz xs cs.toList) (hok : ∀ k, okp k → k ≠ w.heap.size) :
    Kd.F d (w.alloc (.cells cs e)) (fun k => okp k ∨ k = w.heap.size) (some ⟨w.heap.size, 0, none⟩) n xs := by
  subst hl
  have ho := World.ownsRow_lit (base := w.heap.size) (e := e) (size := d.sz) w cs xs.length (Nat.le_refl _) hm hs
  exact Kd.N_F (N_of_reps ho hr (fun k hk => .inr (by injection hk with hk; exact hk.symm)) (fun k hk => ⟨.inl hk, fun he => hok k hk (by injection he)⟩))
theorem pow_bd (n : Nat) (h : n < 6) : wrap64 (2 ^ (2 * n)) ≤ 1024 := by
  exact match n, h with
  | 0, _ => by decide +kernel
  | 1, _ => by decide +kernel
  | 2, _ => by decide +kernel
  | 3, _ => by decide +kernel
  | 4, _ => by decide +kernel
  | 5, _ => by decide +kernel
/-- Three rows that grow, side by side. -/
structure K3 (w W : World) (v3 v4 v5 : Value) (ps : List S52) (ks : List Bool) (l : List S40) : Prop where
  fr : Fr w W (fun _ => False)
  n3 : Kd.N k52 52 W w.heap.size (fun k => some k ≠ v4.ownBlock ∧ some k ≠ v5.ownBlock) v3 ps
  n4 : Kd.N Kd.bool 4 W w.heap.size (fun k => some k ≠ v3.ownBlock ∧ some k ≠ v5.ownBlock) v4 ks
  n5 : Kd.N k40 40 W w.heap.size (fun k => some k ≠ v3.ownBlock ∧ some k ≠ v4.ownBlock) v5 l
section
variable {w W W0 W1 : World} {v3 v4 v5 u : Value} {ps ps' : List S52} {ks ks' : List Bool} {l l' : List S40}
theorem K3.nil (w : World) {W : World} (h : Fr w W (fun _ => False)) : K3 w W (.slice none 0 0) (.slice none 0 0) (.slice none 0 0) [] [] [] := ⟨h, Kd.N_nil _ _ _ _ _, Kd.N_nil _ _ _ _ _, Kd.N_nil _ _ _ _ _⟩
theorem K3.below (h : K3 w W v3 v4 v5 ps ks l) (hb : Below W.heap.size W W1) : K3 w W1 v3 v4 v5 ps ks l := ⟨h.fr.then_below hb, Kd.N_below h.n3 hb, Kd.N_below h.n4 hb, Kd.N_below h.n5 hb⟩
theorem K3.app3 (h : K3 w W v3 v4 v5 ps ks l) (hB : Below w.heap.size w W1) (hg : W.grownBy W1 v3.ownBlock) (hat : u.ownBlock = v3.ownBlock ∨ ∃ b, u.ownBlock = some b ∧ W.heap.size ≤ b) (hN : Kd.N k52 52 W1 w.heap.size (fun k => some k ≠ v4.ownBlock ∧ some k ≠ v5.ownBlock) u ps') : K3 w W1 u v4 v5 ps' ks l :=
  ⟨Fr.of_below hB _, hN, Kd.N_mono (Kd.N_after (Kd.N_mono h.n4 (fun k hk => ⟨hk.2, hk.1⟩)) hg hat) (fun k hk => ⟨hk.2, hk.1⟩), Kd.N_mono (Kd.N_after (Kd.N_mono h.n5 (fun k hk => ⟨hk.2, hk.1⟩)) hg hat) (fun k hk => ⟨hk.2, hk.1⟩)⟩
theorem K3.app4 (h : K3 w W v3 v4 v5 ps ks l) (hB : Below w.heap.size w W1) (hg : W.grownBy W1 v4.ownBlock) (hat : u.ownBlock = v4.ownBlock ∨ ∃ b, u.ownBlock = some b ∧ W.heap.size ≤ b) (hN : Kd.N Kd.bool 4 W1 w.heap.size (fun k => some k ≠ v3.ownBlock ∧ some k ≠ v5.ownBlock) u ks') : K3 w W1 v3 u v5 ps ks' l :=
  ⟨Fr.of_below hB _, Kd.N_mono (Kd.N_after (Kd.N_mono h.n3 (fun k hk => ⟨hk.2, hk.1⟩)) hg hat) (fun k hk => ⟨hk.2, hk.1⟩), hN, Kd.N_after h.n5 hg hat⟩
theorem K3.app5 (h : K3 w W v3 v4 v5 ps ks l) (hB : Below w.heap.size w W1) (hg : W.grownBy W1 v5.ownBlock) (hat : u.ownBlock = v5.ownBlock ∨ ∃ b, u.ownBlock = some b ∧ W.heap.size ≤ b) (hN : Kd.N k40 40 W1 w.heap.size (fun k => some k ≠ v3.ownBlock ∧ some k ≠ v4.ownBlock) u l') : K3 w W1 v3 v4 u ps ks l' :=
  ⟨Fr.of_below hB _, Kd.N_after h.n3 hg hat, Kd.N_after h.n4 hg hat, hN⟩
theorem K3.fresh (h : K3 w W v3 v4 v5 ps ks l) (k : Nat) (hk : W.heap.size ≤ k) : some k ≠ v3.ownBlock ∧ some k ≠ v4.ownBlock ∧ some k ≠ v5.ownBlock :=
  ⟨fun he => by have := Kd.N_lt h.n3 k he.symm; omega, fun he => by have := Kd.N_lt h.n4 k he.symm; omega, fun he => by have := Kd.N_lt h.n5 k he.symm; omega⟩
theorem K3.apart {g : Nat} {v u : Value} {W : World} (h : some g ≠ v.ownBlock) (hl : g < W.heap.size) (hat : u.ownBlock = v.ownBlock ∨ ∃ b, u.ownBlock = some b ∧ W.heap.size ≤ b) : some g ≠ u.ownBlock := by
  rcases hat with h1 | ⟨b, h1, h2⟩
  · rw [h1]; exact h
  · rw [h1]; intro he; injection he with he; omega
end
theorem rows3 (wb : World) : Kd.F (Kd.slice 5 (Kd.int .u8)) (((wb.alloc (.cells #[.int .u8 1] 5)).alloc (.cells #[.int .u8 2, .int .u8 3] 5)).alloc (.cells #[.slice (some ⟨wb.heap.size, 0, none⟩) 1 1, .slice none 0 0, .slice (some ⟨wb.heap.size + 1, 0, none⟩) 2 2] 26))
    (fun k => wb.heap.size ≤ k ∧ k ≤ wb.heap.size + 2) (some ⟨wb.heap.size + 2, 0, none⟩) 3 [[1], [], [2, 3]] := by
  have h1 := F_const (Value.int .u8) (h1 := fun _ => rfl) wb [1] 5 (0, 0) (by simp)
  have h2 := F_const (Value.int .u8) (h1 := fun _ => rfl) (wb.alloc (.cells #[.int .u8 1] 5)) [2, 3] 5 (0, 0) (by simp)
  rw [World.size_alloc] at h2
  have h1' := Kd.F_alloc (Kd.F_alloc h1 (.cells #[.int .u8 2, .int .u8 3] 5)) (.cells #[.slice (some ⟨wb.heap.size, 0, none⟩) 1 1, .slice none 0 0, .slice (some ⟨wb.heap.size + 1, 0, none⟩) 2 2] 26)
  have h2' := Kd.F_alloc h2 (.cells #[.slice (some ⟨wb.heap.size, 0, none⟩) 1 1, .slice none 0 0, .slice (some ⟨wb.heap.size + 1, 0, none⟩) 2 2] 26)
  have h3 := F_lit (d := Kd.slice 5 (Kd.int .u8)) (e := 26) (w := (wb.alloc (.cells #[.int .u8 1] 5)).alloc (.cells #[.int .u8 2, .int .u8 3] 5)) (okp := fun k => k = wb.heap.size ∨ k = wb.heap.size + 1)
    #[.slice (some ⟨wb.heap.size, 0, none⟩) 1 1, .slice none 0 0, .slice (some ⟨wb.heap.size + 1, 0, none⟩) 2 2] 3 [[1], [], [2, 3]] rfl rfl (by decide)
    (Reps.one (fun W' hW => ⟨_, 1, rfl, Nat.le_refl 1, Kd.F_mono h1' (fun k hk => .inl hk) W' hW⟩) (Reps.one (fun W' hW => ⟨none, 0, rfl, Nat.le_refl 0, Kd.F_nil _ _ _ W' hW⟩) (Reps.one (fun W' hW => ⟨_, 2, rfl, Nat.le_refl 2, Kd.F_mono h2' (fun k hk => .inr hk) W' hW⟩) (Reps.none _ _))))
    (fun k hk => by simp only [World.size_alloc]; omega)
  simp only [World.size_alloc] at h3
  exact Kd.F_mono h3 (fun k hk => by omega)
theorem kconst1 (b0 : Int) (w : World) : (convert 26 26 (.slice (some ⟨w.heap.size, 0, none⟩) 1 1)).run Try.prog (w.alloc (.cells #[.int .u8 b0] 5)) = .ok (.slice (some ⟨w.heap.size, 0, none⟩) 1 1) (w.alloc (.cells #[.int .u8 b0] 5 (1, 2))) :=
  Lib.run_convert_bytes_const (P := Try.prog) w 26 5 #[.int .u8 b0] 1 1 Try.underlying26 Try.underlying5
theorem parts3 (wb : World) : Kd.F k52 ((wb.alloc (.cells #[.int .u8 120] 5 (1, 2))).alloc (.cells #[.slice none 0 0, .bool false, .slice (some ⟨wb.heap.size, 0, none⟩) 1 1, .bool false, .slice none 0 0, .bool true] 52))
    (fun k => wb.heap.size ≤ k) (some ⟨wb.heap.size + 1, 0, none⟩) 3 [⟨[], false⟩, ⟨[120], false⟩, ⟨[], true⟩] := by
  have h1 := F_const (Value.int .u8) (h1 := fun _ => rfl) wb [120] 5 (1, 2) (by simp)
  have h1' := Kd.F_alloc h1 (.cells #[.slice none 0 0, .bool false, .slice (some ⟨wb.heap.size, 0, none⟩) 1 1, .bool false, .slice none 0 0, .bool true] 52)
  have h3 := F_lit (d := k52) (e := 52) (w := wb.alloc (.cells #[.int .u8 120] 5 (1, 2))) (okp := fun k => k = wb.heap.size)
    #[.slice none 0 0, .bool false, .slice (some ⟨wb.heap.size, 0, none⟩) 1 1, .bool false, .slice none 0 0, .bool true] 3 [⟨[], false⟩, ⟨[120], false⟩, ⟨[], true⟩] rfl rfl (by decide)
    (Reps.c2 (k52_mkF _ _ ⟨[], false⟩ (A0 := none) (c0 := 0) (Nat.le_refl 0) (Kd.F_nil _ _ _)) (Reps.c2 (k52_mkF _ _ ⟨[120], false⟩ (c0 := 1) (Nat.le_refl 1) h1') (Reps.c2 (k52_mkF _ _ ⟨[], true⟩ (A0 := none) (c0 := 0) (Nat.le_refl 0) (Kd.F_nil _ _ _)) (Reps.none _ _))))
    (fun k hk => by rw [World.size_alloc]; omega)
  rw [World.size_alloc] at h3
  exact Kd.F_mono h3 (fun k hk => by omega)
theorem eInfoAct : (Try.prog.info? 40).map (fun i => (i.zero, i.size, i.bytes)) = some (some (.agg #[.int .i64 0, .slice none 0 0, .slice none 0 0]), 3, 56) := by kernel_rfl

set_option maxHeartbeats 4000000 in
set_option maxRecDepth 100000 in
theorem known_calls (HW : Works) (w : World) : Calls Try.prog 5 #[] w fun e w' => e = .returned (.bool true) ∧ Below w.heap.size w w' := by
  go_enter Try.func5, Try.ntmps5
  go_wp2
  go_loopw [1] (fun v1 wr => ∃ n : Nat, n ≤ 6 ∧ v1 = .int .i64 n ∧ Aside0 (Fr w wr (fun _ => False))) (fun v1 _ => 6 - (intOf v1).toNat)
  case atStart => exact ⟨0, by omega, rfl, ⟨Fr.refl _ _⟩⟩
  case round =>
    obtain ⟨n, hn, rfl, HFR⟩ := hrel
    by_cases hlt : n < 6
    · obtain ⟨wo, rfl⟩ : ∃ wo : World, wo = wr := ⟨_, rfl⟩
      have hltB : decide ((n : Int) < 6) = true := by simp; omega
      go_wp2
      go_loopw [2] (fun v2 wr => ∃ m : Nat, m ≤ 2000 ∧ v2 = .int .i64 m ∧ Aside0 (Fr w wr (fun _ => False))) (fun v2 _ => 2000 - (intOf v2).toNat)
      case atStart => exact ⟨0, by omega, rfl, HFR⟩
      case round =>
        obtain ⟨m, hm, rfl, HFR2⟩ := hrel
        have hM := pow_bd n hlt
        by_cases hmt : (m : Int) < wrap64 (2 ^ (2 * n))
        · have hm1 : m < 1024 := by omega
          have HM := Aside0.mk hM
          clear hM
          go_wp2
          obtain ⟨wo2, rfl⟩ : ∃ wo2 : World, wo2 = wr := ⟨_, rfl⟩
          go_loopw [3, 4, 5, 6] (fun v3 v4 v5 v6 wr => ∃ i : Nat, i ≤ n ∧ v6 = .int .i64 i ∧ ∃ (ps : List S52) (ks : List Bool) (l : List S40), Aside0 (K3 w wr v3 v4 v5 ps ks l) ∧ ps.length = i ∧ ks.length = i ∧ l.length = i) (fun _ _ _ v6 _ => n - (intOf v6).toNat)
          case atStart => exact ⟨0, Nat.zero_le _, rfl, [], [], [], ⟨K3.nil w HFR2.out⟩, rfl, rfl, rfl⟩
          case round =>
            obtain ⟨i, hi, rfl, ps, ks, l, HK, hpl, hkl, hll⟩ := hrel
            have HPL := Aside0.mk hpl
            have HKL := Aside0.mk hkl
            have HLL := Aside0.mk hll
            clear hpl hkl hll
            by_cases hit : i < n
            · have hr : ∃ r1 : Nat, wrap64 (1 + Int.tmod (i : Int) 2) = (r1 : Int) ∧ r1 ≤ 2 := by
                have h1 := Int.tmod_nonneg 2 (Int.natCast_nonneg i)
                have h2 := Int.tmod_lt_of_pos (i : Int) (show (0 : Int) < 2 by omega)
                refine ⟨(1 + Int.tmod (i : Int) 2).toNat, ?_, by omega⟩
                unfold wrap64; omega
              obtain ⟨r1, hr, hr1⟩ := hr
              have hrI : (r1 : Int) ≤ 2 := by omega
              go_upto_region 14 with fail
              generalize wrap64 ((i : Int) * (m : Int)) % 256 = x1
              generalize 97 + (i : Int) = x0
              have HFD := Aside0.mk (F_const (Value.int .u8) (h1 := fun _ => rfl) wr [x0, x1] 5 (0, 0) (by simp))
              have HKW := Aside0.mk (HK.out.below (below_alloc (Below.refl _ _) (.cells #[.int .u8 x0, .int .u8 x1] 5)))
              have HG := Aside0.mk (HK.out.fresh wr.heap.size (Nat.le_refl _))
              have HGL := Aside0.mk (show wr.heap.size < (wr.alloc (.cells #[.int .u8 x0, .int .u8 x1] 5)).heap.size by rw [World.size_alloc]; omega)
              change Aside0 (Kd.F (Kd.int .u8) (wr.alloc (.cells #[.int .u8 x0, .int .u8 x1] 5)) (fun k => k = wr.heap.size) (some ⟨wr.heap.size, 0, none⟩) 2 [x0, x1]) at HFD
              generalize wr.alloc (.cells #[.int .u8 x0, .int .u8 x1] 5) = W at HFD HKW HGL ⊢
              generalize wr.heap.size = g at HFD HG HGL ⊢
              clear HK
              have HKD := Aside0.mk (HKW.out.below (below_drew (Below.refl W.heap.size W)))
              have HPK : Aside0 (∀ b, Kd.FK k52 W.drew (fun j => j = g) ⟨([x0, x1] : List Int).take r1, b⟩ [.slice (some ⟨g, 0, none⟩) r1 2, .bool b]) := ⟨fun b => by
                have h1 := Kd.F_take (m := r1) (Kd.F_drew HFD.out) (by simpa using hr1)
                have h2 : (([x0, x1] : List Int).take r1).length = r1 := by rw [List.length_take]; simp; omega
                have h3 := k52_mkF W.drew (fun j => j = g) ⟨([x0, x1] : List Int).take r1, b⟩ (c0 := 2) (show (([x0, x1] : List Int).take r1).length ≤ 2 by omega) h1
                simp only [h2] at h3
                exact h3⟩
              refine start_ (n := 15) (S := fun w' => True) (ds := []) #[false, false, false, false, false, false, false, false, false, false, false, false, false, false, false] (by kernel_rfl) rfl rfl trivial (fun hHeld => ?_)
              replace HFD := Aside0.mk (Kd.F_drew HFD.out)
              have HGLD : Aside0 (g < W.drew.heap.size) := HGL
              clear HGL HKW
              generalize W.drew = wd at HKD HFD HPK HGLD ⊢
              refine pure_ (i := 0) (N := some 37) (v := ?_) (a' := ?_) #[true, false, false, false, false, false, false, false, false, false, false, false, false, false, false] rfl rfl (by kernel_rfl) (fun _ _ _ h => h) (Or.inl ⟨by rfl, ?_⟩) ?_ ?_
              rotate_left
              · intro w'
                go_simp
                with_reducible rfl
              rotate_left
              · simp only [Act.put, List.setIfInBounds_toArray, List.set_cons_zero, List.set_cons_succ, i64_w, i32_w]
                rfl
              refine pure_ (i := 1) (N := some 38) (v := ?_) (a' := ?_) #[true, true, false, false, false, false, false, false, false, false, false, false, false, false, false] rfl rfl (by kernel_rfl) (fun _ _ _ h => h) (Or.inl ⟨by rfl, ?_⟩) ?_ ?_
              rotate_left
              · intro w'
                go_simp
                with_reducible rfl
              rotate_left
              · simp only [Act.put, List.setIfInBounds_toArray, List.set_cons_zero, List.set_cons_succ, i64_w, i32_w]
                rfl
              refine pure_ (i := 2) (N := some 39) (v := ?_) (a' := ?_) #[true, true, true, false, false, false, false, false, false, false, false, false, false, false, false] rfl rfl (by kernel_rfl) (fun _ _ _ h => h) (Or.inl ⟨by rfl, ?_⟩) ?_ ?_
              rotate_left
              · intro w'
                go_simp
                with_reducible rfl
              rotate_left
              · simp only [Act.put, List.setIfInBounds_toArray, List.set_cons_zero, List.set_cons_succ, i64_w, i32_w]
                rfl
              refine pure_ (i := 3) (N := some 40) (v := ?_) (a' := ?_) #[true, true, true, true, false, false, false, false, false, false, false, false, false, false, false] rfl rfl (by kernel_rfl) (fun _ _ _ h => h) (Or.inl ⟨by rfl, ?_⟩) ?_ ?_
              rotate_left
              · intro w'
                go_simp
                with_reducible rfl
              rotate_left
              · simp only [Act.put, List.setIfInBounds_toArray, List.set_cons_zero, List.set_cons_succ, i64_w, i32_w]
                rfl
              refine pure_ (i := 4) (N := some 41) (v := ?_) (a' := ?_) #[true, true, true, true, true, false, false, false, false, false, false, false, false, false, false] rfl rfl (by kernel_rfl) (fun _ _ _ h => h) (Or.inl ⟨by rfl, ?_⟩) ?_ ?_
              rotate_left
              · intro w'
                go_simp
                with_reducible rfl
              rotate_left
              · simp only [Act.put, List.setIfInBounds_toArray, List.set_cons_zero, List.set_cons_succ, i64_w, i32_w]
                rfl
              refine pure_ (i := 5) (N := some 42) (v := ?_) (a' := ?_) #[true, true, true, true, true, true, false, false, false, false, false, false, false, false, false] rfl rfl (by kernel_rfl) (fun _ _ _ h => h) (Or.inl ⟨by rfl, ?_⟩) ?_ ?_
              rotate_left
              · intro w'
                go_simp
                with_reducible rfl
              rotate_left
              · simp only [Act.put, List.setIfInBounds_toArray, List.set_cons_zero, List.set_cons_succ, i64_w, i32_w]
                rfl
              refine pure_ (i := 6) (N := some 43) (v := ?_) (a' := ?_) #[true, true, true, true, true, true, true, false, false, false, false, false, false, false, false] rfl rfl (by kernel_rfl) (fun _ _ _ h => h) (Or.inl ⟨by rfl, ?_⟩) ?_ ?_
              rotate_left
              · intro w'
                go_simp
                with_reducible rfl
              rotate_left
              · simp only [Act.put, List.setIfInBounds_toArray, List.set_cons_zero, List.set_cons_succ, i64_w, i32_w]
                rfl
              refine pure_ (i := 7) (N := some 44) (v := ?_) (a' := ?_) #[true, true, true, true, true, true, true, true, false, false, false, false, false, false, false] rfl rfl (by kernel_rfl) (fun _ _ _ h => h) (Or.inl ⟨by rfl, ?_⟩) ?_ ?_
              rotate_left
              · intro w'
                go_simp
                with_reducible rfl
              rotate_left
              · simp only [Act.put, List.setIfInBounds_toArray, List.set_cons_zero, List.set_cons_succ, i64_w, i32_w]
                rfl
              refine pure_ (i := 8) (N := some 45) (v := ?_) (a' := ?_) #[true, true, true, true, true, true, true, true, true, false, false, false, false, false, false] rfl rfl (by kernel_rfl) (fun _ _ _ h => h) (Or.inl ⟨by rfl, ?_⟩) ?_ ?_
              rotate_left
              · intro w'
                go_simp
                with_reducible rfl
              rotate_left
              · simp only [Act.put, List.setIfInBounds_toArray, List.set_cons_zero, List.set_cons_succ, i64_w, i32_w]
                rfl
              refine pure_ (i := 9) (N := some 46) (v := ?_) (a' := ?_) #[true, true, true, true, true, true, true, true, true, true, false, false, false, false, false] rfl rfl (by kernel_rfl) (fun _ _ _ h => h) (Or.inl ⟨by rfl, ?_⟩) ?_ ?_
              rotate_left
              · intro w'
                go_simp
                with_reducible rfl
              rotate_left
              · simp only [Act.put, List.setIfInBounds_toArray, List.set_cons_zero, List.set_cons_succ, i64_w, i32_w]
                rfl
              refine pure_ (i := 10) (N := some 47) (v := ?_) (a' := ?_) #[true, true, true, true, true, true, true, true, true, true, true, false, false, false, false] rfl rfl (by kernel_rfl) (fun _ _ _ h => h) (Or.inl ⟨by rfl, ?_⟩) ?_ ?_
              rotate_left
              · intro w'
                go_simp
                with_reducible rfl
              rotate_left
              · simp only [Act.put, List.setIfInBounds_toArray, List.set_cons_zero, List.set_cons_succ, i64_w, i32_w]
                rfl
              refine pure_ (i := 11) (N := some 48) (v := ?_) (a' := ?_) #[true, true, true, true, true, true, true, true, true, true, true, true, false, false, false] rfl rfl (by kernel_rfl) (fun _ _ _ h => h) (Or.inl ⟨by rfl, ?_⟩) ?_ ?_
              rotate_left
              · intro w'
                go_simp
                with_reducible rfl
              rotate_left
              · simp only [Act.put, List.setIfInBounds_toArray, List.set_cons_zero, List.set_cons_succ, i64_w, i32_w]
                rfl
              refine one_ (i := 12) (N := some 49) #[true, true, true, true, true, true, true, true, true, true, true, true, true, false, false] rfl rfl (by kernel_rfl) (by decide) (fun K hK => ?_)
              refine value_ (w1 := ?_) (v := ?_) (by rfl) rfl ?_ ?_
              rotate_left 2
              · go_simp
                constructor
                · rfl
                · rfl
              refine hK.out _ _ trivial (fun hHeld => ?_)
              clear hK K
              refine norm_ (a' := ?_) ?_ ?_
              rotate_left
              · show Act.put _ (some 49) _ = _
                simp only [Act.put, List.setIfInBounds_toArray, List.set_cons_zero, List.set_cons_succ, i64_w, i32_w]
                rfl
              refine one_ (i := 13) (N := some 50) #[true, true, true, true, true, true, true, true, true, true, true, true, true, true, false] rfl rfl (by kernel_rfl) (by decide) (fun K hK => ?_)
              generalize (Int.tmod ((m : Int) / 2 ^ i) 2 == 1) = x2
              refine Kd.N_append_step k52 (w0 := w) w.heap.size rfl (.tmp 37) (.tmp 49) 28 52 _ 32 rfl Try.underlying28 eInfoPart rfl (by decide) (by decide) u3 ps ⟨([x0, x1] : List Int).take r1, x2⟩ [.slice (some ⟨g, 0, none⟩) r1 2, .bool x2] (fun k => some k ≠ u4.ownBlock ∧ some k ≠ u5.ownBlock) (fun j => j = g) rfl rfl ?n1 ?n2 ?n3 ?n4 ?n5 ?n6 (by have := HPL.out; omega) ?_
              (case n1 => exact HPK.out _)
              (case n2 => exact fun j hj => (by subst hj; exact ⟨⟨HG.out.2.1, HG.out.2.2⟩, HG.out.1⟩))
              (case n3 => exact fun j hj => ⟨(HKD.out.fresh _ hj).2.1, (HKD.out.fresh _ hj).2.2⟩)
              (case n4 => exact HKD.out.n3)
              (case n5 => exact HKD.out.fr.below (fun _ h => h.elim))
              (case n6 => exact HKD.out.fr.1)
              intro v1 w6 hN hB hg hat
              have HK6 := Aside0.mk (HKD.out.app3 hB hg hat hN)
              have HF6 := Aside0.mk (Kd.F_grown HFD.out hg (fun k hk => by subst hk; exact HG.out.1))
              have HG6 := Aside0.mk (And.intro (K3.apart HG.out.1 HGLD.out hat) HG.out.2)
              have HL6 := Aside0.mk (show g < w6.heap.size from Nat.lt_of_lt_of_le HGLD.out hg.size)
              clear hN hB hg hat
              refine hK.out _ _ trivial (fun hHeld => ?_)
              clear hK K
              refine norm_ (a' := ?_) ?_ ?_
              rotate_left
              · show Act.put _ (some 50) _ = _
                simp only [Act.put, List.setIfInBounds_toArray, List.set_cons_zero, List.set_cons_succ, i64_w, i32_w]
                rfl
              refine pure_ (i := 14) (N := some 3) (v := ?_) (a' := ?_) #[true, true, true, true, true, true, true, true, true, true, true, true, true, true, true] rfl rfl (by kernel_rfl) (fun _ _ _ h => h) (Or.inl ⟨by rfl, ?_⟩) ?_ ?_
              rotate_left
              · intro w'
                go_simp
                with_reducible rfl
              rotate_left
              · simp only [Act.put, List.setIfInBounds_toArray, List.set_cons_zero, List.set_cons_succ, i64_w, i32_w]
                rfl
              refine done_ (by kernel_rfl) ?_
              clear hHeld HKD HFD HPK HG HGLD
              go_upto_region 16 with ((with_reducible refine gate_builtin (b := .append) (xs := #[.tmp 51, .tmp 59]) rfl ?_); go_must (generalize (Int.tmod ((m : Int) / 2 ^ (n + i)) 2 == 1) = x3; (refine Kd.N_append Kd.bool (w0 := w) w.heap.size rfl (.tmp 51) (.tmp 59) 38 4 _ 1 rfl Try.underlying38 eInfoBool rfl (by decide) (by decide) u4 ks x3 [.bool x3] (fun k => some k ≠ v1.ownBlock ∧ some k ≠ u5.ownBlock) (fun k => False) rfl rfl (fun _ _ => rfl) (fun k hk => hk.elim) (fun k hk => ⟨(HK6.out.fresh _ hk).1, (HK6.out.fresh _ hk).2.2⟩) HK6.out.n4 (HK6.out.fr.below (fun _ h => h.elim)) HK6.out.fr.1 (by have := HKL.out; omega) ?_); intro v2 w7 hN hB hg hat; have HK7 := Aside0.mk (HK6.out.app4 hB hg hat hN); have HF7 := Aside0.mk (Kd.F_grown HF6.out hg (fun k hk => by subst hk; exact HG6.out.2.1)); have HG7 := Aside0.mk (And.intro HG6.out.1 (And.intro (K3.apart HG6.out.2.1 HL6.out hat) HG6.out.2.2)); have HL7 := Aside0.mk (show g < w7.heap.size from Nat.lt_of_lt_of_le HL6.out hg.size); clear hN hB hg hat HK6 HF6 HG6 HL6))
              have HAK : Aside0 (∀ y, Kd.FK k40 w7 (fun j => j = g) ⟨y, [x0, x1], []⟩ [.int .i64 y, .slice (some ⟨g, 0, none⟩) 2 2, .slice none 0 0]) := ⟨fun y => k40_mkF w7 (fun j => j = g) ⟨y, [x0, x1], []⟩ (c1 := 2) (Nat.le_refl 2) HF7.out (A2 := none) (c2 := 0) (Nat.le_refl 0) (Kd.F_nil _ _ _)⟩
              go_wp2_with ((with_reducible refine gate_builtin (b := .append) (xs := #[.tmp 61, .tmp 69]) rfl ?_); go_must (generalize wrap64 (Int.tmod ((m : Int) / 2 ^ i) 2 * 2) = y4; (refine Kd.N_append k40 (w0 := w) w.heap.size rfl (.tmp 61) (.tmp 69) 23 40 _ 56 rfl Try.underlying23 eInfoAct rfl (by decide) (by decide) u5 l ⟨y4, [x0, x1], []⟩ [.int .i64 y4, .slice (some ⟨g, 0, none⟩) 2 2, .slice none 0 0] (fun k => some k ≠ v1.ownBlock ∧ some k ≠ v2.ownBlock) (fun j => j = g) rfl rfl (HAK.out _) (fun k hk => by subst hk; exact ⟨⟨HG7.out.1, HG7.out.2.1⟩, HG7.out.2.2⟩) (fun k hk => ⟨(HK7.out.fresh _ hk).1, (HK7.out.fresh _ hk).2.1⟩) HK7.out.n5 (HK7.out.fr.below (fun _ h => h.elim)) HK7.out.fr.1 (by have := HLL.out; omega) ?_); intro v3 w8 hN hB hg hat; have HK8 := Aside0.mk (HK7.out.app5 hB hg hat hN); clear hN hB hg hat))
              exact ⟨⟨i + 1, hit, by go_num, _, _, _, HK8, by rw [List.length_append, HPL.out]; rfl, by rw [List.length_append, HKL.out]; rfl, by rw [List.length_append, HLL.out]; rfl⟩, by simp [intOf]; omega⟩
            · obtain rfl : i = n := by omega
              obtain ⟨A3, c3, rfl⟩ := Kd.N_slice HK.out.n3
              obtain ⟨A4, c4, rfl⟩ := Kd.N_slice HK.out.n4
              obtain ⟨A5, c5, rfl⟩ := Kd.N_slice HK.out.n5
              have HF3 := Aside0.mk (Kd.N_F HK.out.n3)
              have HF4 := Aside0.mk (Kd.N_F HK.out.n4)
              have HF5 := Aside0.mk (Kd.N_F HK.out.n5)
              have HC3 := Aside0.mk (Kd.N_reads' HK.out.n3).2.1
              have HC4 := Aside0.mk (Kd.N_reads' HK.out.n4).2.1
              have HC5 := Aside0.mk (Kd.N_reads' HK.out.n5).2.1
              have hq : ((i : Int) / 2) ≤ (c4 : Int) := by have := HKL.out; have := HC4.out; omega
              have hq2 : i / 2 ≤ c4 := by omega
              have HFT : Aside0 (Kd.F Kd.bool wr (fun k => some k ≠ (Value.slice A3 ps.length c3).ownBlock ∧ some k ≠ (Value.slice A5 l.length c5).ownBlock) A4 (i / 2) (ks.take (i / 2))) := ⟨by
                have hk := HKL.out
                have h := Kd.F_take (m := i / 2) HF4.out (by omega)
                have h2 : (ks.take (i / 2)).length = i / 2 := by rw [List.length_take]; omega
                rw [h2] at h
                exact h⟩
              have HLA := Aside0.mk (Kd.N_base HK.out.n5)
              have HLB := Aside0.mk (Kd.N_lt HK.out.n5)
              go_upto_region 6 with first
                | (go_at_call 28; (refine (odd_calls HW A3 ps.length c3 ps _ 3 none 0 [] A4 c4 ks _ wr HF3.out HC3.out (Kd.F_nil _ _ _) (Nat.le_refl 0) HF4.out HC4.out).mono ?_); rintro e wa ⟨rfl, hba⟩; have HBA := Aside0.mk hba; clear hba)
                | (go_at_call 4; (refine (keeps_calls HW A5 l.length c5 l A4 ks.length c4 ks A4 (i / 2) c4 (ks.take (i / 2)) _ _ _ wa (Kd.F_below (Kd.F_bound HF5.out) HBA.out) HC5.out (Kd.F_below (Kd.F_bound HF4.out) HBA.out) HC4.out (Kd.F_below (Kd.F_bound HFT.out) HBA.out) hq2).mono ?_); rintro e wb ⟨rfl, hbb⟩; have HBB := Aside0.mk (below_step HBA.out hbb); clear hbb)
                | ((with_reducible refine gate_builtin (b := .append) (xs := #[.tmp 91, .tmp 94]) rfl ?_); refine gate_guard (by rfl) ?_; dsimp only; go_must ((refine Kd.N_append k40 (w0 := w) w.heap.size rfl (.tmp 91) (.tmp 94) 23 40 _ 56 rfl Try.underlying23 eInfoAct rfl (by decide) (by decide) (.slice A5 l.length c5) l ⟨3, [], ks⟩ [.int .i64 3, .slice none 0 0, .slice A4 ks.length c4] (fun k => some k ≠ (Value.slice A3 ps.length c3).ownBlock) (fun k => (some k ≠ (Value.slice A3 ps.length c3).ownBlock ∧ some k ≠ (Value.slice A5 l.length c5).ownBlock) ∧ k < wr.heap.size) rfl ?e2 ?n1 ?n2 ?n3 ?n4 ?n5 ?n6 (by have := HLL.out; omega) ?_); (case e2 => show Value.slice (some ⟨wb.heap.size + 3, 0, none⟩) 1 1 = _; simp only [World.size_alloc]); (case n1 => exact k40_mkF _ _ ⟨3, [], ks⟩ (A1 := none) (c1 := 0) (Nat.le_refl 0) (Kd.F_nil _ _ _) HC4.out (Kd.F_alloc (Kd.F_alloc (Kd.F_alloc (Kd.F_below (Kd.F_bound HF4.out) HBB.out) _) _) _)); (case n2 => exact fun k hk => ⟨hk.1.1, hk.1.2⟩); (case n3 => exact fun k hk => (HK.out.fresh k (by have := HBB.out.size; simp only [World.size_alloc] at hk; omega)).1); (case n4 => exact Kd.N_alloc (Kd.N_alloc (Kd.N_alloc (Kd.N_below (Kd.N_mono HK.out.n5 (fun k hk => hk.1)) HBB.out) _) _) _); (case n5 => exact ((((HK.out.fr.then_below HBB.out).alloc _).alloc _).alloc _).below (fun _ h => h.elim)); (case n6 => exact ((((HK.out.fr.then_below HBB.out).alloc _).alloc _).alloc _).1); intro v9 w9 hN hB hg hat; obtain ⟨A9, n9, c9, rfl⟩ : ∃ A n c, v9 = .slice A n c := (by obtain ⟨A, c, h⟩ := Kd.N_slice hN; exact ⟨A, _, c, h⟩); have HC9 := Aside0.mk (Kd.N_reads' hN).2.1; have HF9 := Aside0.mk (Kd.N_F hN); have HB9 := Aside0.mk hB; have HR9 := Aside0.mk (Kd.F_grown (rows3 wb) hg (fun k hk he => by have := HLB.out k he.symm; have := HBB.out.size; omega)); clear hN hB hg hat))
                | (go_at_call 3; (refine (plays_calls HW (some ⟨wb.heap.size + 2, 0, none⟩) 3 3 [[1], [], [2, 3]] A9 n9 c9 _ _ _ w9 HR9.out (Nat.le_refl 3) HF9.out HC9.out).mono ?_); rintro e wc ⟨rfl, hbc⟩; have HBC := Aside0.mk (Fr.of_below (belowThen HB9.out hbc) (fun _ => False)); clear hbc)
              go_wp2
              refine ⟨⟨m + 1 + i / 4 * 5, by omega, ?_, HBC⟩, by simp [intOf]; omega⟩
              rw [show ((m + 1 + i / 4 * 5 : Nat) : Int) = (m : Int) + 1 + (i : Int) / 4 * 5 by omega]
        · go_wp2
          exact ⟨⟨n + 1, hlt, by go_num, HFR2⟩, by simp [intOf]; omega⟩
    · have k1 := kconst1 97
      have k2 := kconst1 120
      go_wp2_with first
        | (go_at_call 21; (refine (append_nil_calls _ _ _ _).mono ?_); rintro e wa ⟨rfl, rfl⟩)
        | (go_at_call 17; (refine (sync_nil_calls _).mono ?_); rintro e wa ⟨rfl, rfl⟩)
        | (go_at_call 19; (refine (fail_nil_calls _ _ _ _).mono ?_); rintro e wa ⟨rfl, rfl⟩)
        | (go_at_call 3; (refine (plays_calls HW none 0 0 [] none 0 0 [] (fun _ => False) (fun _ => False) _ (Kd.F_nil _ _ _) (Nat.le_refl 0) (Kd.F_nil _ _ _) (Nat.le_refl 0)).mono ?_); rintro e wp ⟨rfl, hbp⟩; have HBP := Aside0.mk hbp; clear hbp)
        | (go_at_call 28; (refine (odd_calls HW (some ⟨wp.heap.size + 1, 0, none⟩) 3 3 [⟨[], false⟩, ⟨[120], false⟩, ⟨[], true⟩] _ 2 none 0 [] none 0 [] (fun _ => False) _ (parts3 wp) (Nat.le_refl 3) (Kd.F_nil _ _ _) (Nat.le_refl 0) (Kd.F_nil _ _ _) (Nat.le_refl 0)).mono ?_); rintro e wq ⟨rfl, hbq⟩; have HBQ := Aside0.mk hbq; clear hbq)
        | (go_at_call 4; (refine (keeps_calls HW none 0 0 [] none 0 0 [] none 0 0 [] (fun _ => False) (fun _ => False) (fun _ => False) _ (Kd.F_nil _ _ _) (Nat.le_refl 0) (Kd.F_nil _ _ _) (Nat.le_refl 0) (Kd.F_nil _ _ _) (Nat.le_refl 0)).mono ?_); rintro e wk ⟨rfl, hbk⟩; have HBK := Aside0.mk hbk; clear hbk)
        | (go_at_call 11; (refine (HW _).mono ?_); rintro e wz ⟨rfl, hbz⟩; have HBZ := Aside0.mk hbz; clear hbz)
      go_ret
      exact ⟨rfl, (((((((((HFR.out.alloc _).alloc _).then_below HBP.out).alloc _).alloc _).then_below HBQ.out).then_below HBK.out).then_below HBZ.out)).below (fun _ h => h.elim)⟩
end Go.Proofs.Ytbpnbhccdpobpaa
