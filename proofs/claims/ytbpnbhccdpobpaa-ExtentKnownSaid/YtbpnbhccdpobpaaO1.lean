import Derived.Test.YtbpnbhccdpobpaaK2
import Derived.Deep.RegionHeld3
import Derived.Deep.RegionLaw
/-! ExtentOdd: files that were made by hand. -/
set_option linter.unusedVariables false
set_option linter.unusedSimpArgs false
namespace Go.Proofs.Ytbpnbhccdpobpaa
open Go.RowKit Go.Proofs.YtbpnbhccdpobpaaW.PrintWords Go.Proofs.YtbpnbhccdpobpaaW.PrintLast Go.Proofs.YtbpnbhccdpobpaaW.PrintMore PExtentKnown

/-- A row of one element, laid just now. -/
theorem F_row1 {α : Type} {d : Kd α} {w : World} {ok : Nat → Prop} {x : α} {cs : List Value} (h : Kd.FK d w ok x cs) (hl : cs.length = d.sz) (t : TypeId) (mk : Nat × Nat) :
    Kd.F d (w.alloc (.cells cs.toArray t mk)) (fun k => (ok k ∧ k < w.heap.size) ∨ k = w.heap.size) (some ⟨w.heap.size, 0, none⟩) 1 [x] := fun W' hW => by
  have hb := hW w.heap.size (.inr rfl) (by rw [World.size_alloc]; omega)
  rw [blk_new] at hb
  have hK : d.K W' x cs := Kd.FK_now (Kd.FK_step (Kd.FK_bound h) (fun k hk hlt => (hW k (.inl hk) (by rw [World.size_alloc]; omega)).trans (Below.heap_alloc w _ k hlt)))
  refine ⟨rfl, by decide, fun hp => ⟨_, rfl, fun j p hj => ?_⟩⟩
  match j, hj with
  | 0, hj =>
    simp only [List.getElem?_cons_zero, Option.some.injEq] at hj
    subst hj
    refine ⟨cs, hl, hK, fun i u hi => ?_⟩
    have hlt : i < cs.length := (List.getElem?_eq_some_iff.mp hi).1
    rw [Nat.zero_mul, Nat.zero_add]
    rw [add_plain]
    simp [World.cell?, hb, hi]
structure OddS (w W : World) (g2 g3 : Nat) (v0 k1 v1 v2 : Value) : Prop where
  fr : Fr w W (fun _ => False)
  ge2 : w.heap.size ≤ g2
  ge3 : w.heap.size ≤ g3
  b2 : W.heap[g2]? = some (.cells #[v0] 30 (0, 0))
  b3 : W.heap[g3]? = some (.cells #[k1, v1, v2] 40 (0, 0))
theorem OddS.below {w W W' : World} {g2 g3 : Nat} {v0 k1 v1 v2 : Value} (h : OddS w W g2 g3 v0 k1 v1 v2) (hb : Below W.heap.size W W') : OddS w W' g2 g3 v0 k1 v1 v2 :=
  ⟨h.fr.then_below hb, h.ge2, h.ge3, blk_below h.b2 hb, blk_below h.b3 hb⟩
theorem OddS.kept {w W W' : World} {g2 g3 g : Nat} {v0 k1 v1 v2 : Value} (h : OddS w W g2 g3 v0 k1 v1 v2) (hk : Fr W W' (fun k => k = g)) (hg : w.heap.size ≤ g) (h2 : g2 ≠ g) (h3 : g3 ≠ g) : OddS w W' g2 g3 v0 k1 v1 v2 :=
  ⟨h.fr.then_ hk (fun k hk => .inr (by omega)), h.ge2, h.ge3, (hk.2.1 g2 (blk_lt h.b2) h2).trans h.b2, (hk.2.1 g3 (blk_lt h.b3) h3).trans h.b3⟩
theorem OddS.start (w : World) (v0 k1 v1 v2 : Value) : OddS w ((w.alloc (.cells #[v0] 30)).alloc (.cells #[k1, v1, v2] 40)) w.heap.size (w.heap.size + 1) v0 k1 v1 v2 :=
  ⟨((Fr.refl w _).alloc _).alloc _, Nat.le_refl _, Nat.le_succ _, blk_below (blk_new w _) (below_alloc (Below.refl _ _) _), by
    have := blk_new (w.alloc (.cells #[v0] 30)) (.cells #[k1, v1, v2] 40)
    rw [World.size_alloc] at this
    exact this⟩
theorem OddS.c2 {w W : World} {g2 g3 : Nat} {v0 k1 v1 v2 : Value} (h : OddS w W g2 g3 v0 k1 v1 v2) : W.cell? ⟨g2, 0, none⟩ = some v0 ∧ W.frozen? ⟨g2, 0, none⟩ = false := ⟨by simp [World.cell?, h.b2], by simp [World.frozen?, h.b2]⟩
theorem OddS.c3 {w W : World} {g2 g3 : Nat} {v0 k1 v1 v2 : Value} (h : OddS w W g2 g3 v0 k1 v1 v2) : W.cell? ⟨g3, 0, none⟩ = some k1 ∧ W.cell? ⟨g3, 1, none⟩ = some v1 ∧ W.cell? ⟨g3, 2, none⟩ = some v2 := ⟨by simp [World.cell?, h.b3], by simp [World.cell?, h.b3], by simp [World.cell?, h.b3]⟩

theorem ref_calls (A : Option Addr) (n c : Nat) (ps : List S52) (w : World) (hC : Kd.C k52 w A n ps) (hn : n ≤ c) (hf : Few (ps.map toR)) :
    Calls Try.prog 49 #[.agg #[.slice A n c]] w fun e w' => ∃ A' n' c', e = .returned (.agg #[.slice A' n' c']) ∧ n' ≤ c' ∧ Kd.F k85 w' (fun k => w.heap.size ≤ k) A' n' (ps.map toR) ∧ Below w.heap.size w w' := by
  have hl : ps.length = n := hC.1
  subst hl
  obtain ⟨K, hk⟩ := ref_ev ps hf
  refine (chartroomlaw07_ref.calls K A c ps _ w hC hn (hk K (Nat.le_refl _))).mono ?_
  rintro e w' ⟨v, rfl, hS, hb⟩
  obtain ⟨A', c', rfl⟩ := Kd.S_slice hS
  exact ⟨A', _, c', rfl, (Kd.S_reads' hS).2.1, Kd.F_mono (Kd.S_F (Kd.S_bound hS)) (fun k hk => hk.2.1), hb⟩
theorem cell_grown {W w1 : World} {row : Option Nat} (hg : W.grownBy w1 row) {a : Addr} {v : Value} (h : W.cell? a = some v) (hne : some a.block ≠ row) : w1.cell? a = some v := by
  rw [← h]; exact World.cell?_of_block (hg.block _ (World.block_lt_of_cell? W a h) hne)
theorem add_block (a : Addr) (n : Nat) : (a.add n).block = a.block := by unfold Addr.add; split <;> rfl
theorem ebs_calls (A : Option Addr) (n c : Nat) (ps : List S52) (w : World) (hF : Kd.C k52 w A n ps) (hn : n ≤ c) (hf : Few (ps.map toR)) :
    Calls Try.prog 25 #[.agg #[.slice A n c]] w fun e w' => ∃ A' n' c', e = .returned (.slice A' n' c') ∧ (n' ≤ c' ∧ Kd.F (Kd.int .u8) w' (fun _ => True) A' n' (bsOf ps)) ∧ Below w.heap.size w w' := by
  refine (ebytes_calls A n c ps w hF hn hf).mono ?_
  rintro e w' ⟨A', c', rfl, -, hc, hR, hb⟩
  exact ⟨A', _, c', rfl, ⟨hc, Kd.R_F hR⟩, hb⟩
theorem rbs_calls (A : Option Addr) (n c : Nat) (ps : List S52) (w : World) (hF : Kd.C k85 w A n (ps.map toR)) (hn : n ≤ c) (hf : Few (ps.map toR)) :
    Calls Try.prog 50 #[.agg #[.slice A n c]] w fun e w' => ∃ A' n' c', e = .returned (.slice A' n' c') ∧ (n' ≤ c' ∧ Kd.F (Kd.int .u8) w' (fun _ => True) A' n' (bsOf ps)) ∧ Below w.heap.size w w' := by
  have hl : (ps.map toR).length = n := hF.1
  subst hl
  obtain ⟨K, hk⟩ := rbytes_ev (ps.map toR) hf
  refine (chartroomref07_Bytes.calls K A c _ _ w hF hn (hk K (Nat.le_refl _))).mono ?_
  rintro e w' ⟨v, rfl, hR, hb⟩
  obtain ⟨A', c', rfl⟩ := Kd.R_slice hR
  exact ⟨A', _, c', rfl, ⟨(Kd.R_reads' hR).2.1, Kd.R_F hR⟩, hb⟩
theorem rbs2_calls (A : Option Addr) (n c : Nat) (ps : List S52) (w : World) (hF : Kd.C k85 w A n (ps.map toR)) (hn : n ≤ c) (hf : Few (ps.map toR)) (m : Nat) (hm : (bsOf ps).length = m) :
    Calls Try.prog 50 #[.agg #[.slice A n c]] w fun e w' => ∃ A' c', e = .returned (.slice A' m c') ∧ Below w.heap.size w w' := by
  refine (rbs_calls A n c ps w hF hn hf).mono ?_
  rintro e w' ⟨A', n', c', rfl, ⟨_, hF'⟩, hb⟩
  have := Kd.F_len hF'
  obtain rfl : m = n' := by omega
  exact ⟨A', c', rfl, hb⟩
theorem klenV_calls (A : Option Addr) (n c : Nat) (ps : List S52) (w : World) (hF : Kd.C k52 w A n ps) (hn : n ≤ c) (hf : Few (ps.map toR)) (m : Nat) (hm : (bsOf ps).length = m) :
    Calls Try.prog 24 #[.agg #[.slice A n c]] w fun e w' => e = .returned (.int .i64 (m : Int)) ∧ Below w.heap.size w w' := klen_calls A n c ps w hF hn hf m (by rw [hm])
theorem kvolV_calls (A : Option Addr) (n c : Nat) (ps : List S52) (w : World) (hF : Kd.C k52 w A n ps) (hn : n ≤ c) (hf : Few (ps.map toR)) :
    Calls Try.prog 26 #[.agg #[.slice A n c]] w fun e w' => e = .returned (.int .i64 (volOf (ps.map toR) : Int)) ∧ Below w.heap.size w w' := evol_calls A n c ps w hF hn hf
theorem rvolV_calls (A : Option Addr) (n c : Nat) (ps : List S52) (w : World) (hF : Kd.C k85 w A n (ps.map toR)) (hn : n ≤ c) (hf : Few (ps.map toR)) :
    Calls Try.prog 51 #[.agg #[.slice A n c]] w fun e w' => e = .returned (.int .i64 (volOf (ps.map toR) : Int)) ∧ Below w.heap.size w w' := by
  have hl : (ps.map toR).length = n := hF.1
  subst hl
  obtain ⟨K, hk⟩ := rvol_ev (ps.map toR) hf
  exact chartroomref07_Volatile.calls K A c _ _ w hF hn (hk K (Nat.le_refl _))
structure Odd2 (w W : World) (g2 g3 g6 g7 N : Nat) (v0 k1 v1 v2 : Value) (A6 : Option Addr) (n6 c6 : Nat) (ps : List S52) (k : Nat) (u7 : Value) : Prop where
  odd : OddS w W g2 g3 v0 k1 v1 v2
  ne6 : w.heap.size ≤ g6
  ne7 : w.heap.size ≤ g7
  l2 : g2 < g6
  l3 : g3 < g6
  l6 : g6 < g7
  l7 : g7 < N
  lN : N ≤ W.heap.size
  b6 : W.heap[g6]? = some (.cells #[.slice A6 n6 c6] 34 (0, 0))
  b7 : W.heap[g7]? = some (.cells #[u7] 30 (0, 0))
  ref : Kd.F k85 W (fun k => k < g6) A6 n6 (ps.map toR)
  own : Kd.N k52 52 W w.heap.size (fun k => N ≤ k) u7 (ps.take k)
theorem Odd2.grow {w W W1 : World} {g2 g3 g6 g7 N : Nat} {v0 k1 v1 v2 : Value} {A6 : Option Addr} {n6 c6 : Nat} {ps : List S52} {k k' : Nat} {u7 u8 : Value} (h : Odd2 w W g2 g3 g6 g7 N v0 k1 v1 v2 A6 n6 c6 ps k u7)
    {W0 : World} (hb : Below W.heap.size W W0) (hfr : Below w.heap.size w W1) (hg : W0.grownBy W1 u7.ownBlock) (hN : Kd.N k52 52 W1 w.heap.size (fun k => N ≤ k) u8 (ps.take k')) : Odd2 w (W1.setCell ⟨g7, 0, none⟩ u8) g2 g3 g6 g7 N v0 k1 v1 v2 A6 n6 c6 ps k' u8 := by
  have h2 := h.l2
  have h3 := h.l3
  have h6 := h.l6
  have h7 := h.l7
  have hl := h.lN
  have hkeep : ∀ j, j < N → j < W.heap.size → W1.heap[j]? = W.heap[j]? := fun j hj hlt =>
    (hg.block j (Nat.lt_of_lt_of_le hlt hb.size) (fun he => by have := h.own.1 j he.symm; omega)).trans (hb.block j hlt)
  have hset : ∀ j, j ≠ g7 → (W1.setCell ⟨g7, 0, none⟩ u8).heap[j]? = W1.heap[j]? := fun j hj => Below.heap_setCell _ _ _ _ hj
  have hb7 := (hkeep g7 h7 (by omega)).trans h.b7
  refine ⟨⟨(Fr.of_below hfr _).setCell (.inr h.ne7) _, h.odd.ge2, h.odd.ge3, ?_, ?_⟩, h.ne6, h.ne7, h2, h3, h6, h7, ?_, ?_, blk_set hb7 0 u8, ?_, ?_⟩
  · rw [hset _ (by omega), hkeep _ (by omega) (blk_lt h.odd.b2)]; exact h.odd.b2
  · rw [hset _ (by omega), hkeep _ (by omega) (blk_lt h.odd.b3)]; exact h.odd.b3
  · have := hb.size; have := hg.size; simp [World.setCell]; omega
  · rw [hset _ (by omega), hkeep _ (by omega) (blk_lt h.b6)]; exact h.b6
  · exact Kd.F_step h.ref (fun j hj hlt => by rw [hset _ (by omega), hkeep _ (by omega) hlt])
  · exact Kd.N_far hN (fun j hj => by show j ≠ g7; omega) _

theorem refV_calls (A : Option Addr) (n c : Nat) (ps : List S52) (w : World) (hC : Kd.C k52 w A n ps) (hn : n ≤ c) (hf : Few (ps.map toR)) :
    Calls Try.prog 49 #[.agg #[.slice A n c]] w fun e w' => ∃ A' n' c', e = .returned (.agg #[.slice A' n' c']) ∧ (n' ≤ c' ∧ Kd.F k85 w' (fun _ => True) A' n' (ps.map toR)) ∧ Below w.heap.size w w' := by
  refine (ref_calls A n c ps w hC hn hf).mono ?_
  rintro e w' ⟨A', n', c', rfl, h1, h2, hb⟩
  exact ⟨A', n', c', rfl, ⟨h1, Kd.F_mono h2 (fun _ _ => trivial)⟩, hb⟩
theorem rsyncV_calls (A : Option Addr) (n c : Nat) (ps : List S52) (w : World) (hC : Kd.C k85 w A n (ps.map toR)) (hn : n ≤ c) (hf : Few (ps.map toR)) (qs : List S52) (hq : (tidyOf ps).map dur = qs) :
    Calls Try.prog 18 #[.agg #[.slice A n c]] w fun e w' => ∃ A' n' c', e = .returned (.agg #[.slice A' n' c']) ∧ (n' ≤ c' ∧ Kd.F k85 w' (fun _ => True) A' n' (qs.map toR)) ∧ Below w.heap.size w w' := by
  subst hq
  refine (rsync_calls A n c ps w hC hn hf).mono ?_
  rintro e w' ⟨A', n', c', rfl, h1, h2, hb⟩
  exact ⟨A', n', c', rfl, ⟨h1, Kd.F_mono h2 (fun _ _ => trivial)⟩, hb⟩
theorem rfailV_calls (A : Option Addr) (n c : Nat) (ps : List S52) (Ak : Option Addr) (ck : Nat) (keep : List Bool) (w : World) (hC : Kd.F k85 w (fun _ => True) A n (ps.map toR)) (hn : n ≤ c) (hf : Few (ps.map toR)) (hk : Kd.bool.C w Ak keep.length keep) (hck : keep.length ≤ ck) (hkl : keep.length ≤ 30) (qs : List S52) (hq : failOf (tidyOf ps) keep = qs) :
    Calls Try.prog 20 #[.agg #[.slice A n c], .slice Ak keep.length ck] w fun e w' => ∃ A' n' c', e = .returned (.agg #[.slice A' n' c']) ∧ (n' ≤ c' ∧ Kd.F k85 w' (fun _ => True) A' n' (qs.map toR)) ∧ Below w.heap.size w w' := by
  subst hq
  refine (rfail2_calls _ A n c ps Ak keep.length ck keep w hC hn hf hk hck (by omega)).mono ?_
  rintro e w' ⟨A', n', c', rfl, h1, h2, hb⟩
  exact ⟨A', n', c', rfl, ⟨h1, Kd.F_mono h2 (fun _ _ => trivial)⟩, hb⟩
theorem rappV_calls (A : Option Addr) (n c : Nat) (ps : List S52) (Ab : Option Addr) (cb : Nat) (b : List Int) (w : World) (hC : Kd.C k85 w A n (ps.map toR)) (hn : n ≤ c) (hf : Few (ps.map toR)) (hb : (Kd.int .u8).C w Ab b.length b) (hcb : b.length ≤ cb) (hbl : b.length ≤ 30) (qs : List S52) (hq : tidyOf (ps ++ [⟨b, false⟩]) = qs) :
    Calls Try.prog 22 #[.agg #[.slice A n c], .slice Ab b.length cb] w fun e w' => ∃ A' n' c', e = .returned (.agg #[.slice A' n' c']) ∧ (n' ≤ c' ∧ Kd.F k85 w' (fun _ => True) A' n' (qs.map toR)) ∧ Below w.heap.size w w' := by
  subst hq
  refine (rapp_calls A n c ps Ab b.length cb b w hC hn hf hb hcb (by omega)).mono ?_
  rintro e w' ⟨A', n', c', rfl, h1, h2, hb⟩
  exact ⟨A', n', c', rfl, ⟨h1, Kd.F_mono h2 (fun _ _ => trivial)⟩, hb⟩
theorem sameV_calls (A : Option Addr) (n c : Nat) (A2 : Option Addr) (n2 c2 : Nat) (qs : List S52) (w : World) (h : Kd.F k85 w (fun _ => True) A n (qs.map toR)) (hc : n ≤ c) (h2 : Kd.F k85 w (fun _ => True) A2 n2 (qs.map toR)) (hc2 : n2 ≤ c2) (hf : Few (qs.map toR)) :
    Calls Try.prog 48 #[.agg #[.slice A n c], .agg #[.slice A2 n2 c2]] w fun e w' => e = .returned (.bool true) ∧ Below w.heap.size w w' := by
  have hx := Kd.F_len h
  have hx2 := Kd.F_len h2
  subst hx; subst hx2
  obtain ⟨K, hk⟩ := same_ev (qs.map toR) hf
  exact chartroomlaw07_same.calls K A c _ A2 c2 _ true w (Kd.F_now h) hc (Kd.F_now h2) hc2 (hk K (Nat.le_refl _))
theorem Odd2.fs {w W : World} {g2 g3 g6 g7 N : Nat} {v0 k1 v1 v2 : Value} {A6 : Option Addr} {n6 c6 : Nat} {ps : List S52} {u7 : Value} (h : Odd2 w W g2 g3 g6 g7 N v0 k1 v1 v2 A6 n6 c6 ps ps.length u7) : Fs w W [g7] [ps] := by
  have hN := h.own
  rw [List.take_length] at hN
  obtain ⟨A7, c7, rfl⟩ := Kd.N_slice hN
  have h7 := h.l7
  have h77 := h.ne7
  exact Fs.one h.odd.fr (Kd.F_mono (Kd.N_F hN) (fun k hk => ⟨by omega, by omega⟩)) (Kd.N_reads' hN).2.1 h.b7 h77
theorem worksV (HW : Works) (w : World) : Calls Try.prog 11 #[] w fun e w' => e = .returned (.bool true) ∧ Below w.heap.size w w' := HW w
/-- What ExtentOdd's end wants of the reference's file and the call. -/
structure Odd3 (w W : World) (g3 g6 g7 : Nat) (k1 v1 v2 : Value) (A6 : Option Addr) (n6 c6 : Nat) (ps : List S52) : Prop where
  c6 : W.cell? ⟨g6, 0, none⟩ = some (.slice A6 n6 c6)
  c30 : W.cell? ⟨g3, 0, none⟩ = some k1
  c31 : W.cell? ⟨g3, 1, none⟩ = some v1
  c32 : W.cell? ⟨g3, 2, none⟩ = some v2
  ref : Kd.F k85 W (fun k => k < g7) A6 n6 (ps.map toR)
  l3 : g3 < g7
  l6 : g6 < g7
theorem Odd3.kept {w W W1 : World} {g3 g6 g7 : Nat} {k1 v1 v2 : Value} {A6 : Option Addr} {n6 c6 : Nat} {ps : List S52} (h : Odd3 w W g3 g6 g7 k1 v1 v2 A6 n6 c6 ps) (hk : Fr W W1 (fun k => k = g7)) : Odd3 w W1 g3 g6 g7 k1 v1 v2 A6 n6 c6 ps := by
  have h3 := h.l3
  have h6 := h.l6
  exact ⟨cellFr hk (show ¬ g6 = g7 by omega) h.c6, cellFr hk (show ¬ g3 = g7 by omega) h.c30, cellFr hk (show ¬ g3 = g7 by omega) h.c31, cellFr hk (show ¬ g3 = g7 by omega) h.c32, Kd.F_kept h.ref hk.kept (fun k hk he => by omega), h3, h6⟩
theorem Odd2.three {w W W1 : World} {g2 g3 g6 g7 N : Nat} {v0 k1 v1 v2 : Value} {A6 : Option Addr} {n6 c6 : Nat} {ps : List S52} {u7 : Value} {k : Nat} (h : Odd2 w W g2 g3 g6 g7 N v0 k1 v1 v2 A6 n6 c6 ps k u7) (hb : Below W.heap.size W W1) : Odd3 w W1 g3 g6 g7 k1 v1 v2 A6 n6 c6 ps := by
  obtain ⟨h1, h2, h3⟩ := h.odd.c3
  have h6 := h.l6
  have h4 := h.l3
  exact ⟨pw_cell_below hb (by simp [World.cell?, h.b6]), pw_cell_below hb h1, pw_cell_below hb h2, pw_cell_below hb h3, Kd.F_mono (Kd.F_below (Kd.F_bound h.ref) hb) (fun k hk => by have := hk.1; omega), by omega, h6⟩

set_option maxHeartbeats 2000000 in
set_option maxRecDepth 100000 in
theorem odd_calls (HW : Works) (A0 : Option Addr) (n0 c0 : Nat) (ps : List S52) (ok0 : Nat → Prop) (kind : Int) (B1 : Option Addr) (b1 : Nat) (bytes : List Int) (B2 : Option Addr) (b2 : Nat) (keep : List Bool) (ok1 : Nat → Prop) (w : World)
    (h0 : Kd.F k52 w ok0 A0 n0 ps) (hc0 : n0 ≤ c0) (hb : Kd.F (Kd.int .u8) w ok1 B1 bytes.length bytes) (hb1 : bytes.length ≤ b1) (hk : Kd.F Kd.bool w ok1 B2 keep.length keep) (hb2 : keep.length ≤ b2) :
    Calls Try.prog 28 #[.agg #[.slice A0 n0 c0], .agg #[.int .i64 kind, .slice B1 bytes.length b1, .slice B2 keep.length b2]] w fun e w' => e = .returned (.bool true) ∧ Below w.heap.size w w' := by
  have H0 := Aside0.mk (Kd.F_bound h0)
  have H1 := Aside0.mk (Kd.F_bound hb)
  have H2 := Aside0.mk (Kd.F_bound hk)
  have hx0 := Kd.F_len h0
  subst hx0
  have HFK := Aside0.mk (k40_mkF w ok1 ⟨kind, bytes, keep⟩ hb1 hb hb2 hk)
  clear h0 hb hk
  obtain ⟨b, hb, hbt⟩ := few_at [(⟨kind, bytes, keep⟩ : S40)] 1 (by omega)
  have HBT := Aside0.mk hbt
  have HBE := Aside0.mk hb
  clear hb hbt
  go_enter Try.func28, Try.ntmps28
  go_upto_region 1 with fail
  have HS := Aside0.mk (OddS.start w (.slice A0 ps.length c0) (.int .i64 kind) (.slice B1 bytes.length b1) (.slice B2 keep.length b2))
  generalize (w.alloc (.cells #[.slice A0 ps.length c0] 30)).alloc (.cells #[.int .i64 kind, .slice B1 bytes.length b1, .slice B2 keep.length b2] 40) = W at HS ⊢
  have hg23 : w.heap.size ≠ w.heap.size + 1 := by omega
  generalize w.heap.size + 1 = g3 at HS hg23 ⊢
  have HN23 := Aside0.mk hg23
  clear hg23
  by_cases h20 : ps.length ≤ 20
  · have hng : ¬ ((ps.length : Int) > 20) := by omega
    obtain ⟨hc2, hz2⟩ := HS.out.c2
    obtain ⟨hc30, hc31, hc32⟩ := HS.out.c3
    have hall := HS.out.b3
    have HFK1 := Aside0.mk (Kd.FK_step HFK.out (W1 := W) (fun k hk hlt => HS.out.fr.2.1 k hlt (fun h => h)))
    cases b with
    | false =>
      go_wp2_with first | (go_at_call 10; refine (chartroomlaw07_few.calls 203 (some ⟨W.heap.size, 0, none⟩) 1 [⟨kind, bytes, keep⟩] 1 _ _ (Kd.F_now (F_row1 HFK1.out rfl 40 (0, 0))) (Nat.le_refl 1) HBE.out).mono ?_; rintro e w1 ⟨rfl, hd1⟩; have HD1 := Aside0.mk hd1.below; clear hd1) | (go_at_call 11; refine (HW _).mono ?_; rintro e w2 ⟨rfl, hb2⟩; have HB2 := Aside0.mk hb2; clear hb2)
      go_ret
      exact ⟨rfl, (((HS.out.fr.alloc _).then_below HD1.out).then_below HB2.out).below (fun k hk => hk.elim)⟩
    | true =>
      obtain ⟨-, hx30⟩ := HBT.out rfl
      have hk30 := hx30 _ (List.mem_singleton.mpr rfl)
      have HK30 := Aside0.mk hk30
      clear hx30 hk30 HBT
      go_wp2_with (go_at_call 10; refine (chartroomlaw07_few.calls 203 (some ⟨W.heap.size, 0, none⟩) 1 [⟨kind, bytes, keep⟩] 1 _ _ (Kd.F_now (F_row1 HFK1.out rfl 40 (0, 0))) (Nat.le_refl 1) HBE.out).mono ?_; rintro e w1 ⟨rfl, hd1⟩; have HD1 := Aside0.mk hd1.below; clear hd1)
      have HS1 := Aside0.mk ((HS.out.below (below_alloc (Below.refl _ _) _)).below HD1.out)
      clear HS HD1 hc2 hz2 hc30 hc31 hc32 hall HFK1 HBE
      obtain ⟨hc2, hz2⟩ := HS1.out.c2
      have HP0 := Aside0.mk (Kd.F_kept H0.out HS1.out.fr.kept (fun _ _ h => h))
      go_loop [5] (fun v5 => ∃ k : Nat, k ≤ ps.length ∧ v5 = .int .i64 k ∧ Aside0 (∀ p ∈ ps.take k, p.f0.length ≤ 30)) (fun v5 => ps.length - (intOf v5).toNat)
      case atStart => exact ⟨0, Nat.zero_le _, rfl, ⟨by simp⟩⟩
      case round =>
        obtain ⟨k, hk, rfl, HLE⟩ := hrel
        by_cases hlt : k < ps.length
        · obtain ⟨ad, d0, d1, rfl, hq0, hq1, hfk, -⟩ := F_at2 HP0.out rfl k hlt
          obtain ⟨A9, c9, hcc, hl9, -⟩ := k52_openF hfk
          injection hcc with he1 he2
          injection he2 with he2 _
          subst he1; subst he2
          clear hfk
          by_cases h30 : ps[k].f0.length ≤ 30
          · have hgt2 : ¬ ((ps[k].f0.length : Int) > 30) := by omega
            go_wp2
            go_round
            case rel =>
              refine ⟨k + 1, hlt, by go_num, ⟨fun p hp => ?_⟩⟩
              rw [List.take_succ_eq_append_getElem hlt] at hp
              rcases List.mem_append.mp hp with hp | hp
              · exact HLE.out p hp
              · rw [List.mem_singleton] at hp; subst hp; exact h30
            case measure => simp [intOf]; omega
          · have hgt2 : (ps[k].f0.length : Int) > 30 := by omega
            go_wp2_with (go_at_call 11; refine (HW _).mono ?_; rintro e w2 ⟨rfl, hb2⟩; have HB2 := Aside0.mk hb2; clear hb2)
            go_ret
            exact ⟨rfl, (HS1.out.fr.then_below HB2.out).below (fun k hk => hk.elim)⟩
        · obtain rfl : k = ps.length := by omega
          have hle := HLE.out
          rw [List.take_length] at hle
          have HLE1 := Aside0.mk hle
          clear hle HLE
          have hsm : Sm 20 30 ps := ⟨h20, HLE1.out⟩
          have HSM := Aside0.mk hsm
          clear hsm
          go_upto_region 9 with (go_at_call 49; refine (ref_calls A0 ps.length c0 ps w1 (Kd.F_now HP0.out) hc0 (HSM.out.few (by omega) (by omega))).mono ?_; rintro e w2 ⟨A6, n6, c6, rfl, hc6, hF6, hb2⟩; have HF6 := Aside0.mk hF6; have HB2 := Aside0.mk hb2; clear hF6 hb2)
          go_upto_region 10 with fail
          have h12 := HB2.out.size
          have hs2 := HS1.out.below HB2.out
          have hO : Odd2 w ((w2.alloc (.cells #[.slice A6 n6 c6] 34)).alloc (.cells #[.slice none 0 0] 30)) w.heap.size g3 w2.heap.size (w2.heap.size + 1) (w2.heap.size + 2) (.slice A0 ps.length c0) (.int .i64 kind) (.slice B1 bytes.length b1) (.slice B2 keep.length b2) A6 n6 c6 ps 0 (.slice none 0 0) := by
            have hw := HS1.out.fr.1
            have q2 := blk_lt hs2.b2
            have q3 := blk_lt hs2.b3
            have e1 : (w2.alloc (.cells #[.slice A6 n6 c6] 34)).heap.size = w2.heap.size + 1 := World.size_alloc _ _
            refine ⟨(hs2.below (below_alloc (Below.refl _ _) _)).below (below_alloc (Below.refl _ _) _), by omega, by omega, q2, q3, by omega, by omega, by rw [World.size_alloc, e1]; omega, blk_below (blk_new w2 _) (below_alloc (Below.refl _ _) _), ?_, ?_, Kd.N_nil _ _ _ _ _⟩
            · have := blk_new (w2.alloc (.cells #[.slice A6 n6 c6] 34)) (.cells #[.slice none 0 0] 30)
              rw [e1] at this
              exact this
            · exact Kd.F_mono (Kd.F_below (Kd.F_below (Kd.F_bound HF6.out) (below_alloc (Below.refl _ _) _)) (below_alloc (Below.refl _ _) _)) (fun k hk => hk.2)
          have HO := Aside0.mk hO
          clear hO hs2 h12
          generalize (w2.alloc (.cells #[.slice A6 n6 c6] 34)).alloc (.cells #[.slice none 0 0] 30) = W2 at HO ⊢
          generalize w2.heap.size + 2 = N7 at HO
          generalize w2.heap.size + 1 = g7 at HO ⊢
          generalize w2.heap.size = g6 at HO ⊢
          clear HS1 HP0 HF6 HB2 hc2 hz2
          have hlr : n6 = ps.length := by have := Kd.F_len HO.out.ref; rw [List.length_map] at this; exact this.symm
          subst hlr
          go_wp2
          go_loopw [8] (fun v8 wr => ∃ (k : Nat) (u7 : Value), k ≤ ps.length ∧ v8 = .int .i64 k ∧ Aside0 (Odd2 w wr w.heap.size g3 g6 g7 N7 (.slice A0 ps.length c0) (.int .i64 kind) (.slice B1 bytes.length b1) (.slice B2 keep.length b2) A6 ps.length c6 ps k u7)) (fun v8 _ => ps.length - (intOf v8).toNat)
          case atStart => exact ⟨0, _, Nat.zero_le _, rfl, HO⟩
          case round =>
            obtain ⟨k, u7, hk, rfl, HO1⟩ := hrel
            have hc6' : wr.cell? ⟨g6, 0, none⟩ = some (.slice A6 ps.length c6) := by simp [World.cell?, HO1.out.b6]
            have hc7' : wr.cell? ⟨g7, 0, none⟩ = some u7 := by simp [World.cell?, HO1.out.b7]
            have hz7' : wr.frozen? ⟨g7, 0, none⟩ = false := by simp [World.frozen?, HO1.out.b7]
            by_cases hlt : k < ps.length
            · have hltI : (k : Int) < (ps.length : Int) := by omega
              obtain ⟨ad, d0, d1, rfl, hq0, hq1, hfk, hadb⟩ := F_at2 HO1.out.ref rfl k (by rw [List.length_map]; exact hlt)
              rw [List.getElem_map] at hfk
              obtain ⟨A9, c9, hcc, hl9, hF9⟩ := k85_openF hfk
              injection hcc with he1 he2
              injection he2 with he2 _
              subst he1; subst he2
              have hl30 := HLE1.out _ (List.getElem_mem hlt)
              have HF9 := Aside0.mk hF9
              have HTK := Aside0.mk (List.take_succ_eq_append_getElem hlt)
              clear hfk hF9
              generalize hp : ps[k] = p at hq0 hq1 hl9 HF9 HTK hl30
              clear hp
              replace HF9 : Aside0 (Kd.F (Kd.int .u8) wr (fun k => k < g6) A9 p.f0.length p.f0) := HF9
              change p.f0.length ≤ c9 at hl9
              change wr.cell? (ad.add (k * 2)) = some (.slice A9 p.f0.length c9) at hq0
              change wr.cell? ⟨(ad.add (k * 2)).block, (ad.add (k * 2)).off + 1, none⟩ = some (.bool p.f1) at hq1
              go_upto_region 13 with fail
              have hsp := HO1.out.odd.fr.1
              have hsN := HO1.out.lN
              have htl : (ps.take k).length ≤ 20 := by rw [List.length_take]; omega
              refine start_ (n := 20) (S := fun w' => w'.cell? ⟨g7, 0, none⟩ = some u7 ∧ w'.cell? ⟨g6, 0, none⟩ = some (.slice (some ad) ps.length c6) ∧ w'.cell? (ad.add (k * 2)) = some (.slice A9 p.f0.length c9) ∧ w'.cell? ⟨(ad.add (k * 2)).block, (ad.add (k * 2)).off + 1, none⟩ = some (.bool p.f1)) (ds := [19]) #[false, false, false, false, false, false, false, false, false, false, false, false, false, false, false, false, false, false, false, false] (by kernel_rfl) rfl rfl ⟨hc7', hc6', hq0, hq1⟩ (fun hHeld => ?_)
              refine pure_ (i := 0) (N := some 46) (v := ?_) (a' := ?_) #[true, false, false, false, false, false, false, false, false, false, false, false, false, false, false, false, false, false, false, false] rfl rfl (by kernel_rfl) (fun _ _ _ h => h) (Or.inl ⟨by rfl, ?_⟩) ?_ ?_
              rotate_left
              · intro w'
                go_simp
                with_reducible rfl
              rotate_left
              · simp only [Act.put, List.setIfInBounds_toArray, List.set_cons_zero, List.set_cons_succ, i64_w, i32_w]
                rfl
              refine pure_ (i := 2) (N := some 48) (v := ?_) (a' := ?_) #[true, false, true, false, false, false, false, false, false, false, false, false, false, false, false, false, false, false, false, false] rfl rfl (by kernel_rfl) (fun _ _ _ h => h) (Or.inl ⟨by rfl, ?_⟩) ?_ ?_
              rotate_left
              · intro w'
                go_simp
                with_reducible rfl
              rotate_left
              · simp only [Act.put, List.setIfInBounds_toArray, List.set_cons_zero, List.set_cons_succ, i64_w, i32_w]
                rfl
              refine pure_ (i := 4) (N := some 50) (v := ?_) (a' := ?_) #[true, false, true, false, true, false, false, false, false, false, false, false, false, false, false, false, false, false, false, false] rfl rfl (by kernel_rfl) (fun _ _ _ h => h) (Or.inl ⟨by rfl, ?_⟩) ?_ ?_
              rotate_left
              · intro w'
                go_simp
                with_reducible rfl
              rotate_left
              · simp only [Act.put, List.setIfInBounds_toArray, List.set_cons_zero, List.set_cons_succ, i64_w, i32_w]
                rfl
              refine pure_ (i := 9) (N := some 55) (v := ?_) (a' := ?_) #[true, false, true, false, true, false, false, false, false, true, false, false, false, false, false, false, false, false, false, false] rfl rfl (by kernel_rfl) (fun _ _ _ h => h) (Or.inl ⟨by rfl, ?_⟩) ?_ ?_
              rotate_left
              · intro w'
                go_simp
                with_reducible rfl
              rotate_left
              · simp only [Act.put, List.setIfInBounds_toArray, List.set_cons_zero, List.set_cons_succ, i64_w, i32_w]
                rfl
              refine pure_ (i := 11) (N := some 57) (v := ?_) (a' := ?_) #[true, false, true, false, true, false, false, false, false, true, false, true, false, false, false, false, false, false, false, false] rfl rfl (by kernel_rfl) (fun _ _ _ h => h) (Or.inl ⟨by rfl, ?_⟩) ?_ ?_
              rotate_left
              · intro w'
                go_simp
                with_reducible rfl
              rotate_left
              · simp only [Act.put, List.setIfInBounds_toArray, List.set_cons_zero, List.set_cons_succ, i64_w, i32_w]
                rfl
              refine take_ (i := 1) (N := some 47) (v := ?_) (a' := ?_) #[true, true, true, false, true, false, false, false, false, true, false, true, false, false, false, false, false, false, false, false] rfl rfl (by kernel_rfl) (fun _ _ _ h => h) (Or.inl ⟨by rfl, ?_⟩) hHeld ?_ ?_
              rotate_left
              · rintro w' ⟨s0, s1, s2, s3⟩
                go_simp
                with_reducible rfl
              rotate_left
              · simp only [Act.put, List.setIfInBounds_toArray, List.set_cons_zero, List.set_cons_succ, i64_w, i32_w]
                rfl
              refine take_ (i := 3) (N := some 49) (v := ?_) (a' := ?_) #[true, true, true, true, true, false, false, false, false, true, false, true, false, false, false, false, false, false, false, false] rfl rfl (by kernel_rfl) (fun _ _ _ h => h) (Or.inl ⟨by rfl, ?_⟩) hHeld ?_ ?_
              rotate_left
              · rintro w' ⟨s0, s1, s2, s3⟩
                go_simp
                with_reducible rfl
              rotate_left
              · simp only [Act.put, List.setIfInBounds_toArray, List.set_cons_zero, List.set_cons_succ, i64_w, i32_w]
                rfl
              refine pure_ (i := 5) (N := some 51) (v := ?_) (a' := ?_) #[true, true, true, true, true, true, false, false, false, true, false, true, false, false, false, false, false, false, false, false] rfl rfl (by kernel_rfl) (fun _ _ _ h => h) (Or.inl ⟨by rfl, ?_⟩) ?_ ?_
              rotate_left
              · intro w'
                go_simp
                with_reducible rfl
              rotate_left
              · simp only [Act.put, List.setIfInBounds_toArray, List.set_cons_zero, List.set_cons_succ, i64_w, i32_w]
                rfl
              refine pure_ (i := 6) (N := some 52) (v := ?_) (a' := ?_) #[true, true, true, true, true, true, true, false, false, true, false, true, false, false, false, false, false, false, false, false] rfl rfl (by kernel_rfl) (fun _ _ _ h => h) (Or.inl ⟨by rfl, ?_⟩) ?_ ?_
              rotate_left
              · intro w'
                go_simp
                with_reducible rfl
              rotate_left
              · simp only [Act.put, List.setIfInBounds_toArray, List.set_cons_zero, List.set_cons_succ, i64_w, i32_w]
                rfl
              refine take_ (i := 7) (N := some 53) (v := ?_) (a' := ?_) #[true, true, true, true, true, true, true, true, false, true, false, true, false, false, false, false, false, false, false, false] rfl rfl (by kernel_rfl) (fun _ _ _ h => h) (Or.inl ⟨by rfl, ?_⟩) hHeld ?_ ?_
              rotate_left
              · rintro w' ⟨s0, s1, s2, s3⟩
                go_simp
                with_reducible rfl
              rotate_left
              · simp only [Act.put, List.setIfInBounds_toArray, List.set_cons_zero, List.set_cons_succ, i64_w, i32_w]
                rfl
              refine take_ (i := 10) (N := some 56) (v := ?_) (a' := ?_) #[true, true, true, true, true, true, true, true, false, true, true, true, false, false, false, false, false, false, false, false] rfl rfl (by kernel_rfl) (fun _ _ _ h => h) (Or.inl ⟨by rfl, ?_⟩) hHeld ?_ ?_
              rotate_left
              · rintro w' ⟨s0, s1, s2, s3⟩
                go_simp
                with_reducible rfl
              rotate_left
              · simp only [Act.put, List.setIfInBounds_toArray, List.set_cons_zero, List.set_cons_succ, i64_w, i32_w]
                rfl
              refine pure_ (i := 12) (N := some 58) (v := ?_) (a' := ?_) #[true, true, true, true, true, true, true, true, false, true, true, true, true, false, false, false, false, false, false, false] rfl rfl (by kernel_rfl) (fun _ _ _ h => h) (Or.inl ⟨by rfl, ?_⟩) ?_ ?_
              rotate_left
              · intro w'
                go_simp
                with_reducible rfl
              rotate_left
              · simp only [Act.put, List.setIfInBounds_toArray, List.set_cons_zero, List.set_cons_succ, i64_w, i32_w]
                rfl
              refine pure_ (i := 13) (N := some 59) (v := ?_) (a' := ?_) #[true, true, true, true, true, true, true, true, false, true, true, true, true, true, false, false, false, false, false, false] rfl rfl (by kernel_rfl) (fun _ _ _ h => h) (Or.inl ⟨by rfl, ?_⟩) ?_ ?_
              rotate_left
              · intro w'
                go_simp
                with_reducible rfl
              rotate_left
              · simp only [Act.put, List.setIfInBounds_toArray, List.set_cons_zero, List.set_cons_succ, i64_w, i32_w]
                rfl
              refine take_ (i := 14) (N := some 60) (v := ?_) (a' := ?_) #[true, true, true, true, true, true, true, true, false, true, true, true, true, true, true, false, false, false, false, false] rfl rfl (by kernel_rfl) (fun _ _ _ h => h) (Or.inl ⟨by rfl, ?_⟩) hHeld ?_ ?_
              rotate_left
              · rintro w' ⟨s0, s1, s2, s3⟩
                go_simp
                with_reducible rfl
              rotate_left
              · simp only [Act.put, List.setIfInBounds_toArray, List.set_cons_zero, List.set_cons_succ, i64_w, i32_w]
                rfl
              refine one_ (i := 8) (N := some 54) #[true, true, true, true, true, true, true, true, true, true, true, true, true, true, true, false, false, false, false, false] rfl rfl (by kernel_rfl) (by decide) (fun K hK => ?_)
              refine goes_ Try.func12 (by kernel_rfl) rfl #[.slice A9 p.f0.length c9] (by rfl) rfl rfl (by (try simp only [List.map_toArray, List.map_cons, List.map_nil]); first | done | rfl) ?_
              with_reducible refine (own_calls A9 p.f0.length c9 p.f0 _ ?hc hl9 (by omega)).mono ?_
              (case hc => exact Kd.F_now (Kd.F_drew HF9.out))
              rintro e w5 ⟨A2, c2, rfl, hlc2, hR2, hb2⟩
              refine ⟨_, rfl, ?_⟩
              have HR2 := Aside0.mk hR2
              have HB5 := Aside0.mk hb2
              have h5 : wr.heap.size ≤ w5.heap.size := hb2.size
              have hx1 := pw_cell_below hb2 hc7'
              have hx2 := pw_cell_below hb2 hc6'
              have hx3 := pw_cell_below hb2 hq0
              have hx4 := pw_cell_below hb2 hq1
              clear hR2 hb2
              refine hK.out _ _ ⟨hx1, hx2, hx3, hx4⟩ (fun hHeld => ?_)
              clear hK K
              refine norm_ (a' := ?_) ?_ ?_
              rotate_left
              · show Act.put _ (some 54) _ = _
                simp only [Act.put, List.setIfInBounds_toArray, List.set_cons_zero, List.set_cons_succ, i64_w, i32_w]
                rfl
              refine pure_ (i := 15) (N := some 61) (v := ?_) (a' := ?_) #[true, true, true, true, true, true, true, true, true, true, true, true, true, true, true, true, false, false, false, false] rfl rfl (by kernel_rfl) (fun _ _ _ h => h) (Or.inl ⟨by rfl, ?_⟩) ?_ ?_
              rotate_left
              · intro w'
                go_simp
                with_reducible rfl
              rotate_left
              · simp only [Act.put, List.setIfInBounds_toArray, List.set_cons_zero, List.set_cons_succ, i64_w, i32_w]
                rfl
              refine one_ (i := 16) (N := some 62) #[true, true, true, true, true, true, true, true, true, true, true, true, true, true, true, true, true, false, false, false] rfl rfl (by kernel_rfl) (by decide) (fun K hK => ?_)
              refine value_ (w1 := ?_) (v := ?_) (by rfl) rfl ?_ ?_
              rotate_left 2
              · go_simp
                constructor
                · rfl
                · rfl
              refine hK.out _ _ ⟨cell_allocs hx1 _, cell_allocs hx2 _, cell_allocs hx3 _, cell_allocs hx4 _⟩ (fun hHeld => ?_)
              clear hK K
              refine norm_ (a' := ?_) ?_ ?_
              rotate_left
              · show Act.put _ (some 62) _ = _
                simp only [Act.put, List.setIfInBounds_toArray, List.set_cons_zero, List.set_cons_succ, i64_w, i32_w]
                rfl
              refine one_ (i := 17) (N := some 63) #[true, true, true, true, true, true, true, true, true, true, true, true, true, true, true, true, true, true, false, false] rfl rfl (by kernel_rfl) (by decide) (fun K hK => ?_)
              refine Kd.N_append_step k52 (w0 := w) w.heap.size rfl (.tmp 47) (.tmp 62) 28 52 _ 32 rfl Try.underlying28 eInfoPart rfl (by decide) (by decide) u7 (ps.take k) p [.slice A2 p.f0.length c2, .bool p.f1] (fun j => N7 ≤ j) (fun j => wr.heap.size ≤ j) rfl rfl ?n1 ?n2 ?n3 ?n4 ?n5 ?n6 (by omega) ?_
              (case n1 => exact k52_mkF _ _ p hlc2 (Kd.F_mono (Kd.R_F (Kd.R_tight rfl HR2.out)) (fun j hj => Kd.R_base HR2.out j hj.symm)))
              (case n2 => exact fun j hj => ⟨by omega, fun he => by have := Kd.N_lt HO1.out.own j he.symm; omega⟩)
              (case n3 => exact fun j hj => by omega)
              (case n4 => exact Kd.N_below (Kd.N_drew HO1.out.own) HB5.out)
              (case n5 => exact ((Fr.drew HO1.out.odd.fr).then_below HB5.out).below (fun _ h => h.elim))
              (case n6 => omega)
              intro v1 w6 hN hB hg hat
              obtain ⟨A1x, n1x, c1x, rfl⟩ : ∃ A n c, v1 = .slice A n c := (by obtain ⟨A, c, h⟩ := Kd.N_slice hN; exact ⟨A, _, c, h⟩)
              have HN6 := Aside0.mk hN
              have HB6 := Aside0.mk hB
              have HG6 := Aside0.mk hg
              have hown := fun j hj => HO1.out.own.1 j hj
              have hh6 := HO1.out.l6
              have hh7 := HO1.out.l7
              have hy1 : w6.cell? ⟨g7, 0, none⟩ = some u7 := cell_grown hg hx1 (fun he => by have := hown g7 he.symm; omega)
              have hy2 := cell_grown hg hx2 (fun he => by have := hown g6 he.symm; omega)
              have hy3 := cell_grown hg hx3 (fun he => by rw [add_block] at he; have := hown ad.block he.symm; omega)
              have hy4 := cell_grown hg hx4 (fun he => by rw [show (Addr.mk (ad.add (k * 2)).block ((ad.add (k * 2)).off + 1) none).block = ad.block from add_block _ _] at he; have := hown ad.block he.symm; omega)
              have hy5 : w6.frozen? ⟨g7, 0, none⟩ = false := (World.frozen?_of_block (a := ⟨g7, 0, none⟩) ((hg.block g7 (show g7 < w5.heap.size by omega) (fun he => by have := hown g7 he.symm; omega)).trans (HB5.out.block g7 (show g7 < wr.heap.size by omega)))).trans hz7'
              clear hN hB hg hat hown
              refine hK.out _ _ ⟨hy1, hy2, hy3, hy4⟩ (fun hHeld => ?_)
              clear hK K
              refine norm_ (a' := ?_) ?_ ?_
              rotate_left
              · show Act.put _ (some 63) _ = _
                simp only [Act.put, List.setIfInBounds_toArray, List.set_cons_zero, List.set_cons_succ, i64_w, i32_w]
                rfl
              refine pure_ (i := 18) (N := some 64) (v := ?_) (a' := ?_) #[true, true, true, true, true, true, true, true, true, true, true, true, true, true, true, true, true, true, true, false] rfl rfl (by kernel_rfl) (fun _ _ _ h => h) (Or.inl ⟨by rfl, ?_⟩) ?_ ?_
              rotate_left
              · intro w'
                go_simp
                with_reducible rfl
              rotate_left
              · simp only [Act.put, List.setIfInBounds_toArray, List.set_cons_zero, List.set_cons_succ, i64_w, i32_w]
                rfl
              refine last_ (i := 19) (N := none) #[true, true, true, true, true, true, true, true, true, true, true, true, true, true, true, true, true, true, true, true] rfl rfl (by kernel_rfl) (by decide) (fun K hK => ?_)
              refine skip_ (w1 := ?_) (by rfl) rfl ?_ ?_
              rotate_left
              · go_simp
                rfl
              refine hK.out _ _ ?_
              clear hK K
              refine done_ (by kernel_rfl) ?_
              have HO2 := Aside0.mk (HO1.out.grow (k' := k + 1) (below_step (below_drew (Below.refl wr.heap.size wr)) HB5.out) HB6.out HG6.out (by rw [HTK.out]; exact HN6.out))
              clear HO1 hx1 hx2 hx3 hx4 hy1 hy2 hy3 hy4 hy5 hc6' hc7' hz7' HN6 HB6 HG6
              generalize w6.setCell ⟨g7, 0, none⟩ (.slice A1x n1x c1x) = w7 at HO2 ⊢
              go_wp2
              exact ⟨⟨k + 1, _, hlt, by go_num, HO2⟩, by simp [intOf]; omega⟩
            · obtain rfl : k = ps.length := by omega
              go_upto_region 14 with fail
              obtain ⟨hc2', hz2'⟩ := HO1.out.odd.c2
              have HP0 := Aside0.mk (Kd.F_mono (Kd.F_kept H0.out HO1.out.odd.fr.kept (fun _ _ h => h)) (fun _ _ => trivial))
              have HR0 := Aside0.mk HO1.out.ref
              have hlc6 := hc6
              have HFW := Aside0.mk (HSM.out.few (by omega) (by omega))
              have HBD := Aside0.mk (below_drew (Below.refl wr.heap.size wr))
              generalize hm : (bsOf ps).length = m
              have HM := Aside0.mk hm
              clear hm
              refine start_ (n := 21) (S := fun w' => w'.cell? ⟨w.heap.size, 0, none⟩ = some (.slice A0 ps.length c0) ∧ w'.cell? ⟨g6, 0, none⟩ = some (.slice A6 ps.length c6)) (ds := []) #[false, false, false, false, false, false, false, false, false, false, false, false, false, false, false, false, false, false, false, false, false] (by kernel_rfl) rfl rfl ⟨hc2', hc6'⟩ (fun hHeld => ?_)
              refine take_ (i := 0) (N := some 65) (v := ?_) (a' := ?_) #[true, false, false, false, false, false, false, false, false, false, false, false, false, false, false, false, false, false, false, false, false] rfl rfl (by kernel_rfl) (fun _ _ _ h => h) (Or.inl ⟨by rfl, ?_⟩) hHeld ?_ ?_
              rotate_left
              · rintro w' ⟨s0, s1⟩
                go_simp
                with_reducible rfl
              rotate_left
              · simp only [Act.put, List.setIfInBounds_toArray, List.set_cons_zero, List.set_cons_succ, i64_w, i32_w]
                rfl
              refine take_ (i := 2) (N := some 67) (v := ?_) (a' := ?_) #[true, false, true, false, false, false, false, false, false, false, false, false, false, false, false, false, false, false, false, false, false] rfl rfl (by kernel_rfl) (fun _ _ _ h => h) (Or.inl ⟨by rfl, ?_⟩) hHeld ?_ ?_
              rotate_left
              · rintro w' ⟨s0, s1⟩
                go_simp
                with_reducible rfl
              rotate_left
              · simp only [Act.put, List.setIfInBounds_toArray, List.set_cons_zero, List.set_cons_succ, i64_w, i32_w]
                rfl
              refine one_ (i := 1) (N := some 66) #[true, true, true, false, false, false, false, false, false, false, false, false, false, false, false, false, false, false, false, false, false] rfl rfl (by kernel_rfl) (by decide) (fun K hK => ?_)
              refine goes_ Try.func25 (by kernel_rfl) rfl #[.agg #[.slice A0 ps.length c0]] (by rfl) rfl rfl (by (try simp only [List.map_toArray, List.map_cons, List.map_nil]); first | done | rfl) ?_
              with_reducible refine (ebs_calls A0 ps.length c0 ps _ ?hq1 hc0 HFW.out).mono ?_
              (case hq1 => exact Kd.F_now (Kd.F_below (Kd.F_bound HP0.out) HBD.out))
              rintro e wq1 ⟨A66, n66, c66, rfl, hpq, hbq⟩
              refine ⟨_, rfl, ?_⟩
              have HBq1 := Aside0.mk (below_step HBD.out hbq)
              have HP66 := Aside0.mk hpq
              clear hbq hpq
              have HN66 := Aside0.mk (show n66 ≤ 1000000 by have h1 := Kd.F_len HP66.out.2; have h2 := bsOf_le HSM.out; omega)
              refine hK.out _ _ ⟨pw_cell_below HBq1.out hc2', pw_cell_below HBq1.out hc6'⟩ (fun hHeld => ?_)
              clear hK K
              refine norm_ (a' := ?_) ?_ ?_
              rotate_left
              · show Act.put _ (some 66) _ = _
                simp only [Act.put, List.setIfInBounds_toArray, List.set_cons_zero, List.set_cons_succ, i64_w, i32_w]
                rfl
              refine one_ (i := 3) (N := some 68) #[true, true, true, true, false, false, false, false, false, false, false, false, false, false, false, false, false, false, false, false, false] rfl rfl (by kernel_rfl) (by decide) (fun K hK => ?_)
              refine goes_ Try.func50 (by kernel_rfl) rfl #[.agg #[.slice A6 ps.length c6]] (by rfl) rfl rfl (by (try simp only [List.map_toArray, List.map_cons, List.map_nil]); first | done | rfl) ?_
              with_reducible refine (rbs_calls A6 ps.length c6 ps _ ?hq2 hlc6 HFW.out).mono ?_
              (case hq2 => exact Kd.F_now (Kd.F_below (Kd.F_bound HR0.out) HBq1.out))
              rintro e wq3 ⟨A68, n68, c68, rfl, hpq, hbq⟩
              refine ⟨_, rfl, ?_⟩
              have HBq3 := Aside0.mk (below_step HBq1.out hbq)
              replace HP66 := Aside0.mk (And.intro HP66.out.1 (Kd.F_mono (ok' := fun _ => True) (Kd.F_below (Kd.F_bound HP66.out.2) hbq) (fun _ _ => trivial)))
              have HP68 := Aside0.mk hpq
              clear hbq hpq
              refine hK.out _ _ ⟨pw_cell_below HBq3.out hc2', pw_cell_below HBq3.out hc6'⟩ (fun hHeld => ?_)
              clear hK K
              refine norm_ (a' := ?_) ?_ ?_
              rotate_left
              · show Act.put _ (some 68) _ = _
                simp only [Act.put, List.setIfInBounds_toArray, List.set_cons_zero, List.set_cons_succ, i64_w, i32_w]
                rfl
              refine one_ (i := 4) (N := some 69) #[true, true, true, true, true, false, false, false, false, false, false, false, false, false, false, false, false, false, false, false, false] rfl rfl (by kernel_rfl) (by decide) (fun K hK => ?_)
              refine goes_ Try.func27 (by kernel_rfl) rfl #[.slice A66 n66 c66, .slice A68 n68 c68] (by rfl) rfl rfl (by (try simp only [List.map_toArray, List.map_cons, List.map_nil]); first | done | rfl) ?_
              with_reducible refine (ksame_calls A66 n66 c66 A68 n68 c68 (bsOf ps) _ _ _ HP66.out.2 HP66.out.1 HP68.out.2 HP68.out.1 HN66.out).mono ?_
              rintro e wq4 ⟨rfl, hbq⟩
              refine ⟨_, rfl, ?_⟩
              have HBq4 := Aside0.mk (below_step HBq3.out hbq)
              clear hbq
              refine hK.out _ _ ⟨pw_cell_below HBq4.out hc2', pw_cell_below HBq4.out hc6'⟩ (fun hHeld => ?_)
              clear hK K
              refine norm_ (a' := ?_) ?_ ?_
              rotate_left
              · show Act.put _ (some 69) _ = _
                simp only [Act.put, List.setIfInBounds_toArray, List.set_cons_zero, List.set_cons_succ, i64_w, i32_w]
                rfl
              refine pure_ (i := 5) (N := some 70) (v := ?_) (a' := ?_) #[true, true, true, true, true, true, false, false, false, false, false, false, false, false, false, false, false, false, false, false, false] rfl rfl (by kernel_rfl) (fun _ _ _ h => h) (Or.inl ⟨by rfl, ?_⟩) ?_ ?_
              rotate_left
              · intro w'
                go_simp
                with_reducible rfl
              rotate_left
              · simp only [Act.put, List.setIfInBounds_toArray, List.set_cons_zero, List.set_cons_succ, i64_w, i32_w]
                rfl
              refine pure_ (i := 6) (N := some 71) (v := ?_) (a' := ?_) #[true, true, true, true, true, true, true, false, false, false, false, false, false, false, false, false, false, false, false, false, false] rfl rfl (by kernel_rfl) (fun _ _ _ h => h) (Or.inl ⟨by rfl, ?_⟩) ?_ ?_
              rotate_left
              · intro w'
                go_simp
                with_reducible rfl
              rotate_left
              · simp only [Act.put, List.setIfInBounds_toArray, List.set_cons_zero, List.set_cons_succ, i64_w, i32_w]
                rfl
              refine take_ (i := 7) (N := some 72) (v := ?_) (a' := ?_) #[true, true, true, true, true, true, true, true, false, false, false, false, false, false, false, false, false, false, false, false, false] rfl rfl (by kernel_rfl) (fun _ _ _ h => h) (Or.inl ⟨by rfl, ?_⟩) hHeld ?_ ?_
              rotate_left
              · rintro w' ⟨s0, s1⟩
                go_simp
                with_reducible rfl
              rotate_left
              · simp only [Act.put, List.setIfInBounds_toArray, List.set_cons_zero, List.set_cons_succ, i64_w, i32_w]
                rfl
              refine take_ (i := 9) (N := some 74) (v := ?_) (a' := ?_) #[true, true, true, true, true, true, true, true, false, true, false, false, false, false, false, false, false, false, false, false, false] rfl rfl (by kernel_rfl) (fun _ _ _ h => h) (Or.inl ⟨by rfl, ?_⟩) hHeld ?_ ?_
              rotate_left
              · rintro w' ⟨s0, s1⟩
                go_simp
                with_reducible rfl
              rotate_left
              · simp only [Act.put, List.setIfInBounds_toArray, List.set_cons_zero, List.set_cons_succ, i64_w, i32_w]
                rfl
              refine one_ (i := 8) (N := some 73) #[true, true, true, true, true, true, true, true, true, true, false, false, false, false, false, false, false, false, false, false, false] rfl rfl (by kernel_rfl) (by decide) (fun K hK => ?_)
              refine goes_ Try.func24 (by kernel_rfl) rfl #[.agg #[.slice A0 ps.length c0]] (by rfl) rfl rfl (by (try simp only [List.map_toArray, List.map_cons, List.map_nil]); first | done | rfl) ?_
              with_reducible refine (klenV_calls A0 ps.length c0 ps _ ?hq3 hc0 HFW.out m HM.out).mono ?_
              (case hq3 => exact Kd.F_now (Kd.F_below (Kd.F_bound HP0.out) HBq4.out))
              rintro e wq8 ⟨rfl, hbq⟩
              refine ⟨_, rfl, ?_⟩
              have HBq8 := Aside0.mk (below_step HBq4.out hbq)
              clear hbq
              refine hK.out _ _ ⟨pw_cell_below HBq8.out hc2', pw_cell_below HBq8.out hc6'⟩ (fun hHeld => ?_)
              clear hK K
              refine norm_ (a' := ?_) ?_ ?_
              rotate_left
              · show Act.put _ (some 73) _ = _
                simp only [Act.put, List.setIfInBounds_toArray, List.set_cons_zero, List.set_cons_succ, i64_w, i32_w]
                rfl
              refine one_ (i := 10) (N := some 75) #[true, true, true, true, true, true, true, true, true, true, true, false, false, false, false, false, false, false, false, false, false] rfl rfl (by kernel_rfl) (by decide) (fun K hK => ?_)
              refine goes_ Try.func50 (by kernel_rfl) rfl #[.agg #[.slice A6 ps.length c6]] (by rfl) rfl rfl (by (try simp only [List.map_toArray, List.map_cons, List.map_nil]); first | done | rfl) ?_
              with_reducible refine (rbs2_calls A6 ps.length c6 ps _ ?hq4 hlc6 HFW.out m HM.out).mono ?_
              (case hq4 => exact Kd.F_now (Kd.F_below (Kd.F_bound HR0.out) HBq8.out))
              rintro e wq10 ⟨A75, c75, rfl, hbq⟩
              refine ⟨_, rfl, ?_⟩
              have HBq10 := Aside0.mk (below_step HBq8.out hbq)
              clear hbq
              refine hK.out _ _ ⟨pw_cell_below HBq10.out hc2', pw_cell_below HBq10.out hc6'⟩ (fun hHeld => ?_)
              clear hK K
              refine norm_ (a' := ?_) ?_ ?_
              rotate_left
              · show Act.put _ (some 75) _ = _
                simp only [Act.put, List.setIfInBounds_toArray, List.set_cons_zero, List.set_cons_succ, i64_w, i32_w]
                rfl
              refine pure_ (i := 11) (N := some 76) (v := ?_) (a' := ?_) #[true, true, true, true, true, true, true, true, true, true, true, true, false, false, false, false, false, false, false, false, false] rfl rfl (by kernel_rfl) (fun _ _ _ h => h) (Or.inl ⟨by rfl, ?_⟩) ?_ ?_
              rotate_left
              · intro w'
                go_simp
                with_reducible rfl
              rotate_left
              · simp only [Act.put, List.setIfInBounds_toArray, List.set_cons_zero, List.set_cons_succ, i64_w, i32_w]
                rfl
              refine pure_ (i := 12) (N := some 77) (v := ?_) (a' := ?_) #[true, true, true, true, true, true, true, true, true, true, true, true, true, false, false, false, false, false, false, false, false] rfl rfl (by kernel_rfl) (fun _ _ _ h => h) (Or.inl ⟨by rfl, ?_⟩) ?_ ?_
              rotate_left
              · intro w'
                go_simp
                with_reducible rfl
              rotate_left
              · simp only [Act.put, List.setIfInBounds_toArray, List.set_cons_zero, List.set_cons_succ, i64_w, i32_w]
                rfl
              refine pure_ (i := 13) (N := some 78) (v := ?_) (a' := ?_) #[true, true, true, true, true, true, true, true, true, true, true, true, true, true, false, false, false, false, false, false, false] rfl rfl (by kernel_rfl) (fun _ _ _ h => h) (Or.inl ⟨by rfl, ?_⟩) ?_ ?_
              rotate_left
              · intro w'
                go_simp
                with_reducible rfl
              rotate_left
              · simp only [Act.put, List.setIfInBounds_toArray, List.set_cons_zero, List.set_cons_succ, i64_w, i32_w]
                rfl
              refine pure_ (i := 14) (N := some 79) (v := ?_) (a' := ?_) #[true, true, true, true, true, true, true, true, true, true, true, true, true, true, true, false, false, false, false, false, false] rfl rfl (by kernel_rfl) (fun _ _ _ h => h) (Or.inl ⟨by rfl, ?_⟩) ?_ ?_
              rotate_left
              · intro w'
                go_simp
                with_reducible rfl
              rotate_left
              · simp only [Act.put, List.setIfInBounds_toArray, List.set_cons_zero, List.set_cons_succ, i64_w, i32_w]
                rfl
              refine take_ (i := 15) (N := some 80) (v := ?_) (a' := ?_) #[true, true, true, true, true, true, true, true, true, true, true, true, true, true, true, true, false, false, false, false, false] rfl rfl (by kernel_rfl) (fun _ _ _ h => h) (Or.inl ⟨by rfl, ?_⟩) hHeld ?_ ?_
              rotate_left
              · rintro w' ⟨s0, s1⟩
                go_simp
                with_reducible rfl
              rotate_left
              · simp only [Act.put, List.setIfInBounds_toArray, List.set_cons_zero, List.set_cons_succ, i64_w, i32_w]
                rfl
              refine take_ (i := 17) (N := some 82) (v := ?_) (a' := ?_) #[true, true, true, true, true, true, true, true, true, true, true, true, true, true, true, true, false, true, false, false, false] rfl rfl (by kernel_rfl) (fun _ _ _ h => h) (Or.inl ⟨by rfl, ?_⟩) hHeld ?_ ?_
              rotate_left
              · rintro w' ⟨s0, s1⟩
                go_simp
                with_reducible rfl
              rotate_left
              · simp only [Act.put, List.setIfInBounds_toArray, List.set_cons_zero, List.set_cons_succ, i64_w, i32_w]
                rfl
              refine one_ (i := 16) (N := some 81) #[true, true, true, true, true, true, true, true, true, true, true, true, true, true, true, true, true, true, false, false, false] rfl rfl (by kernel_rfl) (by decide) (fun K hK => ?_)
              refine goes_ Try.func26 (by kernel_rfl) rfl #[.agg #[.slice A0 ps.length c0]] (by rfl) rfl rfl (by (try simp only [List.map_toArray, List.map_cons, List.map_nil]); first | done | rfl) ?_
              with_reducible refine (kvolV_calls A0 ps.length c0 ps _ ?hq5 hc0 HFW.out).mono ?_
              (case hq5 => exact Kd.F_now (Kd.F_below (Kd.F_bound HP0.out) HBq10.out))
              rintro e wq16 ⟨rfl, hbq⟩
              refine ⟨_, rfl, ?_⟩
              have HBq16 := Aside0.mk (below_step HBq10.out hbq)
              clear hbq
              refine hK.out _ _ ⟨pw_cell_below HBq16.out hc2', pw_cell_below HBq16.out hc6'⟩ (fun hHeld => ?_)
              clear hK K
              refine norm_ (a' := ?_) ?_ ?_
              rotate_left
              · show Act.put _ (some 81) _ = _
                simp only [Act.put, List.setIfInBounds_toArray, List.set_cons_zero, List.set_cons_succ, i64_w, i32_w]
                rfl
              refine one_ (i := 18) (N := some 83) #[true, true, true, true, true, true, true, true, true, true, true, true, true, true, true, true, true, true, true, false, false] rfl rfl (by kernel_rfl) (by decide) (fun K hK => ?_)
              refine goes_ Try.func51 (by kernel_rfl) rfl #[.agg #[.slice A6 ps.length c6]] (by rfl) rfl rfl (by (try simp only [List.map_toArray, List.map_cons, List.map_nil]); first | done | rfl) ?_
              with_reducible refine (rvolV_calls A6 ps.length c6 ps _ ?hq6 hlc6 HFW.out).mono ?_
              (case hq6 => exact Kd.F_now (Kd.F_below (Kd.F_bound HR0.out) HBq16.out))
              rintro e wq18 ⟨rfl, hbq⟩
              refine ⟨_, rfl, ?_⟩
              have HBq18 := Aside0.mk (below_step HBq16.out hbq)
              clear hbq
              refine hK.out _ _ ⟨pw_cell_below HBq18.out hc2', pw_cell_below HBq18.out hc6'⟩ (fun hHeld => ?_)
              clear hK K
              refine norm_ (a' := ?_) ?_ ?_
              rotate_left
              · show Act.put _ (some 83) _ = _
                simp only [Act.put, List.setIfInBounds_toArray, List.set_cons_zero, List.set_cons_succ, i64_w, i32_w]
                rfl
              refine pure_ (i := 19) (N := some 84) (v := ?_) (a' := ?_) #[true, true, true, true, true, true, true, true, true, true, true, true, true, true, true, true, true, true, true, true, false] rfl rfl (by kernel_rfl) (fun _ _ _ h => h) (Or.inl ⟨by rfl, ?_⟩) ?_ ?_
              rotate_left
              · intro w'
                go_simp
                with_reducible rfl
              rotate_left
              · simp only [Act.put, List.setIfInBounds_toArray, List.set_cons_zero, List.set_cons_succ, i64_w, i32_w]
                rfl
              refine pure_ (i := 20) (N := some 85) (v := ?_) (a' := ?_) #[true, true, true, true, true, true, true, true, true, true, true, true, true, true, true, true, true, true, true, true, true] rfl rfl (by kernel_rfl) (fun _ _ _ h => h) (Or.inl ⟨by rfl, ?_⟩) ?_ ?_
              rotate_left
              · intro w'
                go_simp
                with_reducible rfl
              rotate_left
              · simp only [Act.put, List.setIfInBounds_toArray, List.set_cons_zero, List.set_cons_succ, i64_w, i32_w]
                rfl
              refine done_ (by kernel_rfl) ?_
              clear hHeld
              have HSQ := Aside0.mk (HO1.out.fs.below HBq18.out)
              have HT := Aside0.mk (HO1.out.three HBq18.out)
              have HBB0 := Aside0.mk (Kd.F_kept H1.out HSQ.out.fr.kept (fun _ _ h => h))
              have HKK0 := Aside0.mk (Kd.F_kept H2.out HSQ.out.fr.kept (fun _ _ h => h))
              have HG7 := Aside0.mk HSQ.out.ge1.1
              clear hc2' hz2' hc6' HP0 HR0 HBD HM HBq1 HBq3 HBq4 HBq8 HBq10 HBq16 HN66 HO1 HBq18 hc7' hz7' hk hlt
              clear HO
              obtain ⟨p, hp⟩ := pick_calls kind
              have HP := Aside0.mk hp
              clear hp
              have hck := HT.out.c30
              by_cases h2 : p = 2
              · subst h2
                go_upto_region 18 with (go_at_call 16; refine (HP.out _).mono ?_; rintro e wp ⟨rfl, hbp⟩; have HBP := Aside0.mk hbp; clear hbp)
                have HT1 := Aside0.mk (HT.out.kept (Fr.of_below HBP.out (fun k => k = g7)))
                have HS1 := Aside0.mk (HSQ.out.below HBP.out)
                have HBB1 := Aside0.mk (Kd.F_below (Kd.F_bound HBB0.out) HBP.out)
                have HKK1 := Aside0.mk (Kd.F_below (Kd.F_bound HKK0.out) HBP.out)
                have hcx := HT1.out.c31
                clear HSQ HT HBB0 HKK0 hck
                go_upto_region 19 with (go_at_call 17; refine (HS1.out.sync1 (by omega)).mono ?_; rintro e ws ⟨rfl, hy, hfr⟩; have HS2 := Aside0.mk hy; have HFR := Aside0.mk hfr; clear hy hfr)
                have HT2 := Aside0.mk (HT1.out.kept HFR.out)
                have HBB := Aside0.mk (Kd.F_kept HBB1.out HFR.out.kept (fun k hk he => by have := hk.1.2; have := HG7.out; omega))
                have HKK := Aside0.mk (Kd.F_kept HKK1.out HFR.out.kept (fun k hk he => by have := hk.1.2; have := HG7.out; omega))
                generalize hqs : (tidyOf ps).map dur = qs at HS2
                have HQS := Aside0.mk hqs
                have HFQ := Aside0.mk (show Few (qs.map toR) by rw [← HQS.out]; exact (HSM.out.tidy.dur).few (by omega) (by omega))
                obtain ⟨A7, n7, c7, hc7, hz7, hlc7, hf7⟩ := HS2.out.get1
                have HF7 := Aside0.mk hf7
                have HRR := Aside0.mk HT2.out.ref
                have hc6' := HT2.out.c6
                clear hcx
                have hcx := HT2.out.c31
                have HBD := Aside0.mk (below_drew (Below.refl ws.heap.size ws))
                clear hf7 hqs HT1 HS1 HBB1 HKK1 HFR HT2
                refine start_ (n := 9) (S := fun w' => w'.cell? ⟨g7, 0, none⟩ = some (.slice A7 n7 c7) ∧ w'.cell? ⟨g6, 0, none⟩ = some (.slice A6 ps.length c6)) (ds := []) #[false, false, false, false, false, false, false, false, false] (by kernel_rfl) rfl rfl ⟨hc7, hc6'⟩ (fun hHeld => ?_)
                refine take_ (i := 0) (N := some 92) (v := ?_) (a' := ?_) #[true, false, false, false, false, false, false, false, false] rfl rfl (by kernel_rfl) (fun _ _ _ h => h) (Or.inl ⟨by rfl, ?_⟩) hHeld ?_ ?_
                rotate_left
                · rintro w' ⟨s0, s1⟩
                  go_simp
                  with_reducible rfl
                rotate_left
                · simp only [Act.put, List.setIfInBounds_toArray, List.set_cons_zero, List.set_cons_succ, i64_w, i32_w]
                  rfl
                refine take_ (i := 2) (N := some 94) (v := ?_) (a' := ?_) #[true, false, true, false, false, false, false, false, false] rfl rfl (by kernel_rfl) (fun _ _ _ h => h) (Or.inl ⟨by rfl, ?_⟩) hHeld ?_ ?_
                rotate_left
                · rintro w' ⟨s0, s1⟩
                  go_simp
                  with_reducible rfl
                rotate_left
                · simp only [Act.put, List.setIfInBounds_toArray, List.set_cons_zero, List.set_cons_succ, i64_w, i32_w]
                  rfl
                refine one_ (i := 1) (N := some 93) #[true, true, true, false, false, false, false, false, false] rfl rfl (by kernel_rfl) (by decide) (fun K hK => ?_)
                refine goes_ Try.func49 (by kernel_rfl) rfl #[.agg #[.slice A7 n7 c7]] (by rfl) rfl rfl (by (try simp only [List.map_toArray, List.map_cons, List.map_nil]); first | done | rfl) ?_
                with_reducible refine (refV_calls A7 n7 c7 qs _ ?hq1 hlc7 HFQ.out).mono ?_
                (case hq1 => exact Kd.F_now (Kd.F_below (Kd.F_bound HF7.out) HBD.out))
                rintro e wq1 ⟨A66, n66, c66, rfl, hpq, hbq⟩
                refine ⟨_, rfl, ?_⟩
                have HBq1 := Aside0.mk (below_step HBD.out hbq)
                have HP66 := Aside0.mk hpq
                clear hbq hpq
                refine hK.out _ _ ⟨pw_cell_below HBq1.out hc7, pw_cell_below HBq1.out hc6'⟩ (fun hHeld => ?_)
                clear hK K
                refine norm_ (a' := ?_) ?_ ?_
                rotate_left
                · show Act.put _ (some 93) _ = _
                  simp only [Act.put, List.setIfInBounds_toArray, List.set_cons_zero, List.set_cons_succ, i64_w, i32_w]
                  rfl
                refine one_ (i := 3) (N := some 95) #[true, true, true, true, false, false, false, false, false] rfl rfl (by kernel_rfl) (by decide) (fun K hK => ?_)
                refine goes_ Try.func18 (by kernel_rfl) rfl #[.agg #[.slice A6 ps.length c6]] (by rfl) rfl rfl (by (try simp only [List.map_toArray, List.map_cons, List.map_nil]); first | done | rfl) ?_
                with_reducible refine (rsyncV_calls A6 ps.length c6 ps _ ?hq2 hlc6 HFW.out qs HQS.out).mono ?_
                (case hq2 => exact Kd.F_now (Kd.F_below (Kd.F_bound HRR.out) HBq1.out))
                rintro e wq3 ⟨A68, n68, c68, rfl, hpq, hbq⟩
                refine ⟨_, rfl, ?_⟩
                have HBq3 := Aside0.mk (below_step HBq1.out hbq)
                replace HP66 := Aside0.mk (And.intro HP66.out.1 (Kd.F_mono (ok' := fun _ => True) (Kd.F_below (Kd.F_bound HP66.out.2) hbq) (fun _ _ => trivial)))
                have HP68 := Aside0.mk hpq
                clear hbq hpq
                refine hK.out _ _ ⟨pw_cell_below HBq3.out hc7, pw_cell_below HBq3.out hc6'⟩ (fun hHeld => ?_)
                clear hK K
                refine norm_ (a' := ?_) ?_ ?_
                rotate_left
                · show Act.put _ (some 95) _ = _
                  simp only [Act.put, List.setIfInBounds_toArray, List.set_cons_zero, List.set_cons_succ, i64_w, i32_w]
                  rfl
                refine one_ (i := 4) (N := some 96) #[true, true, true, true, true, false, false, false, false] rfl rfl (by kernel_rfl) (by decide) (fun K hK => ?_)
                refine goes_ Try.func48 (by kernel_rfl) rfl #[.agg #[.slice A66 n66 c66], .agg #[.slice A68 n68 c68]] (by rfl) rfl rfl (by (try simp only [List.map_toArray, List.map_cons, List.map_nil]); first | done | rfl) ?_
                with_reducible refine (sameV_calls A66 n66 c66 A68 n68 c68 qs _ HP66.out.2 HP66.out.1 HP68.out.2 HP68.out.1 HFQ.out).mono ?_
                rintro e wq4 ⟨rfl, hbq⟩
                refine ⟨_, rfl, ?_⟩
                have HBq4 := Aside0.mk (below_step HBq3.out hbq)
                clear hbq
                refine hK.out _ _ ⟨pw_cell_below HBq4.out hc7, pw_cell_below HBq4.out hc6'⟩ (fun hHeld => ?_)
                clear hK K
                refine norm_ (a' := ?_) ?_ ?_
                rotate_left
                · show Act.put _ (some 96) _ = _
                  simp only [Act.put, List.setIfInBounds_toArray, List.set_cons_zero, List.set_cons_succ, i64_w, i32_w]
                  rfl
                refine pure_ (i := 5) (N := some 97) (v := ?_) (a' := ?_) #[true, true, true, true, true, true, false, false, false] rfl rfl (by kernel_rfl) (fun _ _ _ h => h) (Or.inl ⟨by rfl, ?_⟩) ?_ ?_
                rotate_left
                · intro w'
                  go_simp
                  with_reducible rfl
                rotate_left
                · simp only [Act.put, List.setIfInBounds_toArray, List.set_cons_zero, List.set_cons_succ, i64_w, i32_w]
                  rfl
                refine one_ (i := 6) (N := some 98) #[true, true, true, true, true, true, true, false, false] rfl rfl (by kernel_rfl) (by decide) (fun K hK => ?_)
                refine goes_ Try.func11 (by kernel_rfl) rfl #[] (by rfl) rfl rfl (by (try simp only [List.map_toArray, List.map_cons, List.map_nil]); first | done | rfl) ?_
                with_reducible refine (worksV HW _).mono ?_
                rintro e wq6 ⟨rfl, hbq⟩
                refine ⟨_, rfl, ?_⟩
                have HBq6 := Aside0.mk (below_step HBq4.out hbq)
                clear hbq
                refine hK.out _ _ ⟨pw_cell_below HBq6.out hc7, pw_cell_below HBq6.out hc6'⟩ (fun hHeld => ?_)
                clear hK K
                refine norm_ (a' := ?_) ?_ ?_
                rotate_left
                · show Act.put _ (some 98) _ = _
                  simp only [Act.put, List.setIfInBounds_toArray, List.set_cons_zero, List.set_cons_succ, i64_w, i32_w]
                  rfl
                refine pure_ (i := 7) (N := some 99) (v := ?_) (a' := ?_) #[true, true, true, true, true, true, true, true, false] rfl rfl (by kernel_rfl) (fun _ _ _ h => h) (Or.inl ⟨by rfl, ?_⟩) ?_ ?_
                rotate_left
                · intro w'
                  go_simp
                  with_reducible rfl
                rotate_left
                · simp only [Act.put, List.setIfInBounds_toArray, List.set_cons_zero, List.set_cons_succ, i64_w, i32_w]
                  rfl
                refine pure_ (i := 8) (N := some 4) (v := ?_) (a' := ?_) #[true, true, true, true, true, true, true, true, true] rfl rfl (by kernel_rfl) (fun _ _ _ h => h) (Or.inl ⟨by rfl, ?_⟩) ?_ ?_
                rotate_left
                · intro w'
                  go_simp
                  with_reducible rfl
                rotate_left
                · simp only [Act.put, List.setIfInBounds_toArray, List.set_cons_zero, List.set_cons_succ, i64_w, i32_w]
                  rfl
                refine done_ (by kernel_rfl) ?_
                clear hHeld
                go_wp2
                go_ret
                exact ⟨rfl, (HS2.out.fr.then_below HBq6.out).below (fun k hk => hk.elim)⟩
              · by_cases h3 : p = 3
                · subst h3
                  go_upto_region 21 with (go_at_call 16; refine (HP.out _).mono ?_; rintro e wp ⟨rfl, hbp⟩; have HBP := Aside0.mk hbp; clear hbp)
                  have HT1 := Aside0.mk (HT.out.kept (Fr.of_below HBP.out (fun k => k = g7)))
                  have HS1 := Aside0.mk (HSQ.out.below HBP.out)
                  have HBB1 := Aside0.mk (Kd.F_below (Kd.F_bound HBB0.out) HBP.out)
                  have HKK1 := Aside0.mk (Kd.F_below (Kd.F_bound HKK0.out) HBP.out)
                  have hcx := HT1.out.c32
                  clear HSQ HT HBB0 HKK0 hck
                  go_upto_region 22 with (go_at_call 19; refine (HS1.out.fail1 (by omega) (fun q hq => by have := HSM.out.each q hq; omega) B2 keep.length b2 keep _ HKK1.out hb2 (fun j hj => ⟨by have := hj.2; have := HBP.out.size; omega, by have := hj.1.2; have := HG7.out; omega⟩)).mono ?_; rintro e ws ⟨rfl, hy, hfr⟩; have HS2 := Aside0.mk hy; have HFR := Aside0.mk hfr; clear hy hfr)
                  have HT2 := Aside0.mk (HT1.out.kept HFR.out)
                  have HBB := Aside0.mk (Kd.F_kept HBB1.out HFR.out.kept (fun k hk he => by have := hk.1.2; have := HG7.out; omega))
                  have HKK := Aside0.mk (Kd.F_kept HKK1.out HFR.out.kept (fun k hk he => by have := hk.1.2; have := HG7.out; omega))
                  generalize hqs : failOf (tidyOf ps) keep = qs at HS2
                  have HQS := Aside0.mk hqs
                  have HFQ := Aside0.mk (show Few (qs.map toR) by rw [← HQS.out]; exact (HSM.out.tidy.fail keep).few (by omega) (by omega))
                  obtain ⟨A7, n7, c7, hc7, hz7, hlc7, hf7⟩ := HS2.out.get1
                  have HF7 := Aside0.mk hf7
                  have HRR := Aside0.mk HT2.out.ref
                  have hc6' := HT2.out.c6
                  clear hcx
                  have hcx := HT2.out.c32
                  have HBD := Aside0.mk (below_drew (Below.refl ws.heap.size ws))
                  clear hf7 hqs HT1 HS1 HBB1 HKK1 HFR HT2
                  refine start_ (n := 11) (S := fun w' => w'.cell? ⟨g7, 0, none⟩ = some (.slice A7 n7 c7) ∧ w'.cell? ⟨g6, 0, none⟩ = some (.slice A6 ps.length c6) ∧ w'.cell? ⟨g3, 2, none⟩ = some (.slice B2 keep.length b2)) (ds := []) #[false, false, false, false, false, false, false, false, false, false, false] (by kernel_rfl) rfl rfl ⟨hc7, hc6', hcx⟩ (fun hHeld => ?_)
                  refine pure_ (i := 3) (N := some 108) (v := ?_) (a' := ?_) #[false, false, false, true, false, false, false, false, false, false, false] rfl rfl (by kernel_rfl) (fun _ _ _ h => h) (Or.inl ⟨by rfl, ?_⟩) ?_ ?_
                  rotate_left
                  · intro w'
                    go_simp
                    with_reducible rfl
                  rotate_left
                  · simp only [Act.put, List.setIfInBounds_toArray, List.set_cons_zero, List.set_cons_succ, i64_w, i32_w]
                    rfl
                  refine take_ (i := 0) (N := some 105) (v := ?_) (a' := ?_) #[true, false, false, true, false, false, false, false, false, false, false] rfl rfl (by kernel_rfl) (fun _ _ _ h => h) (Or.inl ⟨by rfl, ?_⟩) hHeld ?_ ?_
                  rotate_left
                  · rintro w' ⟨s0, s1, s2⟩
                    go_simp
                    with_reducible rfl
                  rotate_left
                  · simp only [Act.put, List.setIfInBounds_toArray, List.set_cons_zero, List.set_cons_succ, i64_w, i32_w]
                    rfl
                  refine take_ (i := 2) (N := some 107) (v := ?_) (a' := ?_) #[true, false, true, true, false, false, false, false, false, false, false] rfl rfl (by kernel_rfl) (fun _ _ _ h => h) (Or.inl ⟨by rfl, ?_⟩) hHeld ?_ ?_
                  rotate_left
                  · rintro w' ⟨s0, s1, s2⟩
                    go_simp
                    with_reducible rfl
                  rotate_left
                  · simp only [Act.put, List.setIfInBounds_toArray, List.set_cons_zero, List.set_cons_succ, i64_w, i32_w]
                    rfl
                  refine take_ (i := 4) (N := some 109) (v := ?_) (a' := ?_) #[true, false, true, true, true, false, false, false, false, false, false] rfl rfl (by kernel_rfl) (fun _ _ _ h => h) (Or.inl ⟨by rfl, ?_⟩) hHeld ?_ ?_
                  rotate_left
                  · rintro w' ⟨s0, s1, s2⟩
                    go_simp
                    with_reducible rfl
                  rotate_left
                  · simp only [Act.put, List.setIfInBounds_toArray, List.set_cons_zero, List.set_cons_succ, i64_w, i32_w]
                    rfl
                  refine one_ (i := 1) (N := some 106) #[true, true, true, true, true, false, false, false, false, false, false] rfl rfl (by kernel_rfl) (by decide) (fun K hK => ?_)
                  refine goes_ Try.func49 (by kernel_rfl) rfl #[.agg #[.slice A7 n7 c7]] (by rfl) rfl rfl (by (try simp only [List.map_toArray, List.map_cons, List.map_nil]); first | done | rfl) ?_
                  with_reducible refine (refV_calls A7 n7 c7 qs _ ?hq1 hlc7 HFQ.out).mono ?_
                  (case hq1 => exact Kd.F_now (Kd.F_below (Kd.F_bound HF7.out) HBD.out))
                  rintro e wq1 ⟨A66, n66, c66, rfl, hpq, hbq⟩
                  refine ⟨_, rfl, ?_⟩
                  have HBq1 := Aside0.mk (below_step HBD.out hbq)
                  have HP66 := Aside0.mk hpq
                  clear hbq hpq
                  refine hK.out _ _ ⟨pw_cell_below HBq1.out hc7, pw_cell_below HBq1.out hc6', pw_cell_below HBq1.out hcx⟩ (fun hHeld => ?_)
                  clear hK K
                  refine norm_ (a' := ?_) ?_ ?_
                  rotate_left
                  · show Act.put _ (some 106) _ = _
                    simp only [Act.put, List.setIfInBounds_toArray, List.set_cons_zero, List.set_cons_succ, i64_w, i32_w]
                    rfl
                  refine one_ (i := 5) (N := some 110) #[true, true, true, true, true, true, false, false, false, false, false] rfl rfl (by kernel_rfl) (by decide) (fun K hK => ?_)
                  refine goes_ Try.func20 (by kernel_rfl) rfl #[.agg #[.slice A6 ps.length c6], .slice B2 keep.length b2] (by rfl) rfl rfl (by (try simp only [List.map_toArray, List.map_cons, List.map_nil]); first | done | rfl) ?_
                  with_reducible refine (rfailV_calls A6 ps.length c6 ps B2 b2 keep _ ?hq2 hlc6 HFW.out ?hq3 hb2 HK30.out.2 qs HQS.out).mono ?_
                  (case hq2 => exact Kd.F_mono (Kd.F_below (Kd.F_bound HRR.out) HBq1.out) (fun _ _ => trivial))
                  (case hq3 => exact Kd.F_now (Kd.F_below (Kd.F_bound HKK.out) HBq1.out))
                  rintro e wq5 ⟨A68, n68, c68, rfl, hpq, hbq⟩
                  refine ⟨_, rfl, ?_⟩
                  have HBq5 := Aside0.mk (below_step HBq1.out hbq)
                  replace HP66 := Aside0.mk (And.intro HP66.out.1 (Kd.F_mono (ok' := fun _ => True) (Kd.F_below (Kd.F_bound HP66.out.2) hbq) (fun _ _ => trivial)))
                  have HP68 := Aside0.mk hpq
                  clear hbq hpq
                  refine hK.out _ _ ⟨pw_cell_below HBq5.out hc7, pw_cell_below HBq5.out hc6', pw_cell_below HBq5.out hcx⟩ (fun hHeld => ?_)
                  clear hK K
                  refine norm_ (a' := ?_) ?_ ?_
                  rotate_left
                  · show Act.put _ (some 110) _ = _
                    simp only [Act.put, List.setIfInBounds_toArray, List.set_cons_zero, List.set_cons_succ, i64_w, i32_w]
                    rfl
                  refine one_ (i := 6) (N := some 111) #[true, true, true, true, true, true, true, false, false, false, false] rfl rfl (by kernel_rfl) (by decide) (fun K hK => ?_)
                  refine goes_ Try.func48 (by kernel_rfl) rfl #[.agg #[.slice A66 n66 c66], .agg #[.slice A68 n68 c68]] (by rfl) rfl rfl (by (try simp only [List.map_toArray, List.map_cons, List.map_nil]); first | done | rfl) ?_
                  with_reducible refine (sameV_calls A66 n66 c66 A68 n68 c68 qs _ HP66.out.2 HP66.out.1 HP68.out.2 HP68.out.1 HFQ.out).mono ?_
                  rintro e wq6 ⟨rfl, hbq⟩
                  refine ⟨_, rfl, ?_⟩
                  have HBq6 := Aside0.mk (below_step HBq5.out hbq)
                  clear hbq
                  refine hK.out _ _ ⟨pw_cell_below HBq6.out hc7, pw_cell_below HBq6.out hc6', pw_cell_below HBq6.out hcx⟩ (fun hHeld => ?_)
                  clear hK K
                  refine norm_ (a' := ?_) ?_ ?_
                  rotate_left
                  · show Act.put _ (some 111) _ = _
                    simp only [Act.put, List.setIfInBounds_toArray, List.set_cons_zero, List.set_cons_succ, i64_w, i32_w]
                    rfl
                  refine pure_ (i := 7) (N := some 112) (v := ?_) (a' := ?_) #[true, true, true, true, true, true, true, true, false, false, false] rfl rfl (by kernel_rfl) (fun _ _ _ h => h) (Or.inl ⟨by rfl, ?_⟩) ?_ ?_
                  rotate_left
                  · intro w'
                    go_simp
                    with_reducible rfl
                  rotate_left
                  · simp only [Act.put, List.setIfInBounds_toArray, List.set_cons_zero, List.set_cons_succ, i64_w, i32_w]
                    rfl
                  refine one_ (i := 8) (N := some 113) #[true, true, true, true, true, true, true, true, true, false, false] rfl rfl (by kernel_rfl) (by decide) (fun K hK => ?_)
                  refine goes_ Try.func11 (by kernel_rfl) rfl #[] (by rfl) rfl rfl (by (try simp only [List.map_toArray, List.map_cons, List.map_nil]); first | done | rfl) ?_
                  with_reducible refine (worksV HW _).mono ?_
                  rintro e wq8 ⟨rfl, hbq⟩
                  refine ⟨_, rfl, ?_⟩
                  have HBq8 := Aside0.mk (below_step HBq6.out hbq)
                  clear hbq
                  refine hK.out _ _ ⟨pw_cell_below HBq8.out hc7, pw_cell_below HBq8.out hc6', pw_cell_below HBq8.out hcx⟩ (fun hHeld => ?_)
                  clear hK K
                  refine norm_ (a' := ?_) ?_ ?_
                  rotate_left
                  · show Act.put _ (some 113) _ = _
                    simp only [Act.put, List.setIfInBounds_toArray, List.set_cons_zero, List.set_cons_succ, i64_w, i32_w]
                    rfl
                  refine pure_ (i := 9) (N := some 114) (v := ?_) (a' := ?_) #[true, true, true, true, true, true, true, true, true, true, false] rfl rfl (by kernel_rfl) (fun _ _ _ h => h) (Or.inl ⟨by rfl, ?_⟩) ?_ ?_
                  rotate_left
                  · intro w'
                    go_simp
                    with_reducible rfl
                  rotate_left
                  · simp only [Act.put, List.setIfInBounds_toArray, List.set_cons_zero, List.set_cons_succ, i64_w, i32_w]
                    rfl
                  refine pure_ (i := 10) (N := some 4) (v := ?_) (a' := ?_) #[true, true, true, true, true, true, true, true, true, true, true] rfl rfl (by kernel_rfl) (fun _ _ _ h => h) (Or.inl ⟨by rfl, ?_⟩) ?_ ?_
                  rotate_left
                  · intro w'
                    go_simp
                    with_reducible rfl
                  rotate_left
                  · simp only [Act.put, List.setIfInBounds_toArray, List.set_cons_zero, List.set_cons_succ, i64_w, i32_w]
                    rfl
                  refine done_ (by kernel_rfl) ?_
                  clear hHeld
                  go_wp2
                  go_ret
                  exact ⟨rfl, (HS2.out.fr.then_below HBq8.out).below (fun k hk => hk.elim)⟩
                · skip
                  go_upto_region 23 with (go_at_call 16; refine (HP.out _).mono ?_; rintro e wp ⟨rfl, hbp⟩; have HBP := Aside0.mk hbp; clear hbp)
                  have HT1 := Aside0.mk (HT.out.kept (Fr.of_below HBP.out (fun k => k = g7)))
                  have HS1 := Aside0.mk (HSQ.out.below HBP.out)
                  have HBB1 := Aside0.mk (Kd.F_below (Kd.F_bound HBB0.out) HBP.out)
                  have HKK1 := Aside0.mk (Kd.F_below (Kd.F_bound HKK0.out) HBP.out)
                  have hcx := HT1.out.c31
                  clear HSQ HT HBB0 HKK0 hck
                  go_upto_region 24 with (go_at_call 21; refine (HS1.out.app1 (by omega) B1 bytes.length b1 bytes _ HBB1.out hb1 (by have := HK30.out.1; omega)).mono ?_; rintro e ws ⟨rfl, hy, hfr⟩; have HS2 := Aside0.mk hy; have HFR := Aside0.mk hfr; clear hy hfr)
                  have HT2 := Aside0.mk (HT1.out.kept HFR.out)
                  have HBB := Aside0.mk (Kd.F_kept HBB1.out HFR.out.kept (fun k hk he => by have := hk.1.2; have := HG7.out; omega))
                  have HKK := Aside0.mk (Kd.F_kept HKK1.out HFR.out.kept (fun k hk he => by have := hk.1.2; have := HG7.out; omega))
                  generalize hqs : tidyOf (ps ++ [⟨bytes, false⟩]) = qs at HS2
                  have HQS := Aside0.mk hqs
                  have HFQ := Aside0.mk (show Few (qs.map toR) by rw [← HQS.out]; exact ((HSM.out.app (b := bytes) HK30.out.1 false).tidy).few (by omega) (by omega))
                  obtain ⟨A7, n7, c7, hc7, hz7, hlc7, hf7⟩ := HS2.out.get1
                  have HF7 := Aside0.mk hf7
                  have HRR := Aside0.mk HT2.out.ref
                  have hc6' := HT2.out.c6
                  clear hcx
                  have hcx := HT2.out.c31
                  have HBD := Aside0.mk (below_drew (Below.refl ws.heap.size ws))
                  clear hf7 hqs HT1 HS1 HBB1 HKK1 HFR HT2
                  refine start_ (n := 11) (S := fun w' => w'.cell? ⟨g7, 0, none⟩ = some (.slice A7 n7 c7) ∧ w'.cell? ⟨g6, 0, none⟩ = some (.slice A6 ps.length c6) ∧ w'.cell? ⟨g3, 1, none⟩ = some (.slice B1 bytes.length b1)) (ds := []) #[false, false, false, false, false, false, false, false, false, false, false] (by kernel_rfl) rfl rfl ⟨hc7, hc6', hcx⟩ (fun hHeld => ?_)
                  refine pure_ (i := 3) (N := some 121) (v := ?_) (a' := ?_) #[false, false, false, true, false, false, false, false, false, false, false] rfl rfl (by kernel_rfl) (fun _ _ _ h => h) (Or.inl ⟨by rfl, ?_⟩) ?_ ?_
                  rotate_left
                  · intro w'
                    go_simp
                    with_reducible rfl
                  rotate_left
                  · simp only [Act.put, List.setIfInBounds_toArray, List.set_cons_zero, List.set_cons_succ, i64_w, i32_w]
                    rfl
                  refine take_ (i := 0) (N := some 118) (v := ?_) (a' := ?_) #[true, false, false, true, false, false, false, false, false, false, false] rfl rfl (by kernel_rfl) (fun _ _ _ h => h) (Or.inl ⟨by rfl, ?_⟩) hHeld ?_ ?_
                  rotate_left
                  · rintro w' ⟨s0, s1, s2⟩
                    go_simp
                    with_reducible rfl
                  rotate_left
                  · simp only [Act.put, List.setIfInBounds_toArray, List.set_cons_zero, List.set_cons_succ, i64_w, i32_w]
                    rfl
                  refine take_ (i := 2) (N := some 120) (v := ?_) (a' := ?_) #[true, false, true, true, false, false, false, false, false, false, false] rfl rfl (by kernel_rfl) (fun _ _ _ h => h) (Or.inl ⟨by rfl, ?_⟩) hHeld ?_ ?_
                  rotate_left
                  · rintro w' ⟨s0, s1, s2⟩
                    go_simp
                    with_reducible rfl
                  rotate_left
                  · simp only [Act.put, List.setIfInBounds_toArray, List.set_cons_zero, List.set_cons_succ, i64_w, i32_w]
                    rfl
                  refine take_ (i := 4) (N := some 122) (v := ?_) (a' := ?_) #[true, false, true, true, true, false, false, false, false, false, false] rfl rfl (by kernel_rfl) (fun _ _ _ h => h) (Or.inl ⟨by rfl, ?_⟩) hHeld ?_ ?_
                  rotate_left
                  · rintro w' ⟨s0, s1, s2⟩
                    go_simp
                    with_reducible rfl
                  rotate_left
                  · simp only [Act.put, List.setIfInBounds_toArray, List.set_cons_zero, List.set_cons_succ, i64_w, i32_w]
                    rfl
                  refine one_ (i := 1) (N := some 119) #[true, true, true, true, true, false, false, false, false, false, false] rfl rfl (by kernel_rfl) (by decide) (fun K hK => ?_)
                  refine goes_ Try.func49 (by kernel_rfl) rfl #[.agg #[.slice A7 n7 c7]] (by rfl) rfl rfl (by (try simp only [List.map_toArray, List.map_cons, List.map_nil]); first | done | rfl) ?_
                  with_reducible refine (refV_calls A7 n7 c7 qs _ ?hq1 hlc7 HFQ.out).mono ?_
                  (case hq1 => exact Kd.F_now (Kd.F_below (Kd.F_bound HF7.out) HBD.out))
                  rintro e wq1 ⟨A66, n66, c66, rfl, hpq, hbq⟩
                  refine ⟨_, rfl, ?_⟩
                  have HBq1 := Aside0.mk (below_step HBD.out hbq)
                  have HP66 := Aside0.mk hpq
                  clear hbq hpq
                  refine hK.out _ _ ⟨pw_cell_below HBq1.out hc7, pw_cell_below HBq1.out hc6', pw_cell_below HBq1.out hcx⟩ (fun hHeld => ?_)
                  clear hK K
                  refine norm_ (a' := ?_) ?_ ?_
                  rotate_left
                  · show Act.put _ (some 119) _ = _
                    simp only [Act.put, List.setIfInBounds_toArray, List.set_cons_zero, List.set_cons_succ, i64_w, i32_w]
                    rfl
                  refine one_ (i := 5) (N := some 123) #[true, true, true, true, true, true, false, false, false, false, false] rfl rfl (by kernel_rfl) (by decide) (fun K hK => ?_)
                  refine goes_ Try.func22 (by kernel_rfl) rfl #[.agg #[.slice A6 ps.length c6], .slice B1 bytes.length b1] (by rfl) rfl rfl (by (try simp only [List.map_toArray, List.map_cons, List.map_nil]); first | done | rfl) ?_
                  with_reducible refine (rappV_calls A6 ps.length c6 ps B1 b1 bytes _ ?hq2 hlc6 HFW.out ?hq3 hb1 HK30.out.1 qs HQS.out).mono ?_
                  (case hq2 => exact Kd.F_now (Kd.F_below (Kd.F_bound HRR.out) HBq1.out))
                  (case hq3 => exact Kd.F_now (Kd.F_below (Kd.F_bound HBB.out) HBq1.out))
                  rintro e wq5 ⟨A68, n68, c68, rfl, hpq, hbq⟩
                  refine ⟨_, rfl, ?_⟩
                  have HBq5 := Aside0.mk (below_step HBq1.out hbq)
                  replace HP66 := Aside0.mk (And.intro HP66.out.1 (Kd.F_mono (ok' := fun _ => True) (Kd.F_below (Kd.F_bound HP66.out.2) hbq) (fun _ _ => trivial)))
                  have HP68 := Aside0.mk hpq
                  clear hbq hpq
                  refine hK.out _ _ ⟨pw_cell_below HBq5.out hc7, pw_cell_below HBq5.out hc6', pw_cell_below HBq5.out hcx⟩ (fun hHeld => ?_)
                  clear hK K
                  refine norm_ (a' := ?_) ?_ ?_
                  rotate_left
                  · show Act.put _ (some 123) _ = _
                    simp only [Act.put, List.setIfInBounds_toArray, List.set_cons_zero, List.set_cons_succ, i64_w, i32_w]
                    rfl
                  refine one_ (i := 6) (N := some 124) #[true, true, true, true, true, true, true, false, false, false, false] rfl rfl (by kernel_rfl) (by decide) (fun K hK => ?_)
                  refine goes_ Try.func48 (by kernel_rfl) rfl #[.agg #[.slice A66 n66 c66], .agg #[.slice A68 n68 c68]] (by rfl) rfl rfl (by (try simp only [List.map_toArray, List.map_cons, List.map_nil]); first | done | rfl) ?_
                  with_reducible refine (sameV_calls A66 n66 c66 A68 n68 c68 qs _ HP66.out.2 HP66.out.1 HP68.out.2 HP68.out.1 HFQ.out).mono ?_
                  rintro e wq6 ⟨rfl, hbq⟩
                  refine ⟨_, rfl, ?_⟩
                  have HBq6 := Aside0.mk (below_step HBq5.out hbq)
                  clear hbq
                  refine hK.out _ _ ⟨pw_cell_below HBq6.out hc7, pw_cell_below HBq6.out hc6', pw_cell_below HBq6.out hcx⟩ (fun hHeld => ?_)
                  clear hK K
                  refine norm_ (a' := ?_) ?_ ?_
                  rotate_left
                  · show Act.put _ (some 124) _ = _
                    simp only [Act.put, List.setIfInBounds_toArray, List.set_cons_zero, List.set_cons_succ, i64_w, i32_w]
                    rfl
                  refine pure_ (i := 7) (N := some 125) (v := ?_) (a' := ?_) #[true, true, true, true, true, true, true, true, false, false, false] rfl rfl (by kernel_rfl) (fun _ _ _ h => h) (Or.inl ⟨by rfl, ?_⟩) ?_ ?_
                  rotate_left
                  · intro w'
                    go_simp
                    with_reducible rfl
                  rotate_left
                  · simp only [Act.put, List.setIfInBounds_toArray, List.set_cons_zero, List.set_cons_succ, i64_w, i32_w]
                    rfl
                  refine one_ (i := 8) (N := some 126) #[true, true, true, true, true, true, true, true, true, false, false] rfl rfl (by kernel_rfl) (by decide) (fun K hK => ?_)
                  refine goes_ Try.func11 (by kernel_rfl) rfl #[] (by rfl) rfl rfl (by (try simp only [List.map_toArray, List.map_cons, List.map_nil]); first | done | rfl) ?_
                  with_reducible refine (worksV HW _).mono ?_
                  rintro e wq8 ⟨rfl, hbq⟩
                  refine ⟨_, rfl, ?_⟩
                  have HBq8 := Aside0.mk (below_step HBq6.out hbq)
                  clear hbq
                  refine hK.out _ _ ⟨pw_cell_below HBq8.out hc7, pw_cell_below HBq8.out hc6', pw_cell_below HBq8.out hcx⟩ (fun hHeld => ?_)
                  clear hK K
                  refine norm_ (a' := ?_) ?_ ?_
                  rotate_left
                  · show Act.put _ (some 126) _ = _
                    simp only [Act.put, List.setIfInBounds_toArray, List.set_cons_zero, List.set_cons_succ, i64_w, i32_w]
                    rfl
                  refine pure_ (i := 9) (N := some 127) (v := ?_) (a' := ?_) #[true, true, true, true, true, true, true, true, true, true, false] rfl rfl (by kernel_rfl) (fun _ _ _ h => h) (Or.inl ⟨by rfl, ?_⟩) ?_ ?_
                  rotate_left
                  · intro w'
                    go_simp
                    with_reducible rfl
                  rotate_left
                  · simp only [Act.put, List.setIfInBounds_toArray, List.set_cons_zero, List.set_cons_succ, i64_w, i32_w]
                    rfl
                  refine pure_ (i := 10) (N := some 4) (v := ?_) (a' := ?_) #[true, true, true, true, true, true, true, true, true, true, true] rfl rfl (by kernel_rfl) (fun _ _ _ h => h) (Or.inl ⟨by rfl, ?_⟩) ?_ ?_
                  rotate_left
                  · intro w'
                    go_simp
                    with_reducible rfl
                  rotate_left
                  · simp only [Act.put, List.setIfInBounds_toArray, List.set_cons_zero, List.set_cons_succ, i64_w, i32_w]
                    rfl
                  refine done_ (by kernel_rfl) ?_
                  clear hHeld
                  go_wp2
                  go_ret
                  exact ⟨rfl, (HS2.out.fr.then_below HBq8.out).below (fun k hk => hk.elim)⟩
  · have hng : (ps.length : Int) > 20 := by omega
    obtain ⟨hc2, hz2⟩ := HS.out.c2
    go_wp2_with (go_at_call 11; refine (HW _).mono ?_; rintro e w2 ⟨rfl, hb2⟩; have HB2 := Aside0.mk hb2; clear hb2)
    go_ret
    exact ⟨rfl, (HS.out.fr.then_below HB2.out).below (fun k hk => hk.elim)⟩
end Go.Proofs.Ytbpnbhccdpobpaa
