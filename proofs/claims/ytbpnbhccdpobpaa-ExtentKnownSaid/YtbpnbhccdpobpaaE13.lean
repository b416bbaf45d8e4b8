import Derived.Test.YtbpnbhccdpobpaaE12
import Derived.Deep.DeepCutAuto
import Derived.Deep.CutRange
import Derived.Deep.LoopGhost
import Derived.Deep.RegionHeld3
import Derived.RegionTactic
import Derived.BigRegion
import Derived.ChangeAlike
/-! works: the chapter's examples. -/
set_option linter.unusedVariables false
set_option linter.unusedSimpArgs false
namespace Go.Proofs.Ytbpnbhccdpobpaa
open Go.RowKit Go.Proofs.YtbpnbhccdpobpaaW.PrintWords PExtentKnown

/-- A row of four files, of which the first k hold "ab". -/
def Ls (w wr : World) (gl k : Nat) : Prop := ∃ cs : List Value, cs.length = 4 ∧ wr.heap[gl]? = some (.cells cs.toArray 30 (0, 0)) ∧ ∀ j, j < k → ∃ A c, cs[j]? = some (.slice A 1 c) ∧ 1 ≤ c ∧
  Kd.F k52 wr (fun b => w.heap.size ≤ b ∧ b ≠ gl) A 1 [⟨[97, 98], true⟩]
theorem Ls.cell {w wr : World} {gl k : Nat} (h : Ls w wr gl k) (j : Nat) (hj : j < 4) : (∃ v, wr.cell? ⟨gl, j, none⟩ = some v) ∧ wr.frozen? ⟨gl, j, none⟩ = false := by
  obtain ⟨cs, hl, hb, _⟩ := h
  refine ⟨⟨cs[j]'(by omega), ?_⟩, ?_⟩
  · simp [World.cell?, hb, List.getElem?_eq_getElem (show j < cs.length by omega)]
  · simp [World.frozen?, hb]
theorem Ls.below {w wr W : World} {gl k : Nat} (h : Ls w wr gl k) (hb : Below wr.heap.size wr W) : Ls w W gl k := by
  obtain ⟨cs, hl, hc, h2⟩ := h
  refine ⟨cs, hl, blk_below hc hb, fun j hj => ?_⟩
  obtain ⟨A, c, h3, h4, h5⟩ := h2 j hj
  exact ⟨A, c, h3, h4, Kd.F_mono (Kd.F_below (Kd.F_bound h5) hb) (fun k hk => hk.1)⟩
theorem Ls.set {w wr : World} {gl k : Nat} (h : Ls w wr gl k) (hk : k < 4) {A : Option Addr} {c : Nat} (hc : 1 ≤ c) (hF : Kd.F k52 wr (fun b => w.heap.size ≤ b ∧ b ≠ gl) A 1 [⟨[97, 98], true⟩]) : Ls w (wr.setCell ⟨gl, k, none⟩ (.slice A 1 c)) gl (k + 1) := by
  obtain ⟨cs, hl, hb, h2⟩ := h
  have hb2 := blk_set hb k (.slice A 1 c)
  rw [List.setIfInBounds_toArray] at hb2
  refine ⟨cs.set k (.slice A 1 c), by rw [List.length_set]; exact hl, hb2, fun j hj => ?_⟩
  by_cases he : j = k
  · subst he
    exact ⟨A, c, List.getElem?_set_self (by omega), hc, Kd.F_far hF (fun k hk => hk.2) _⟩
  · obtain ⟨A2, c2, h3, h4, h5⟩ := h2 j (by omega)
    exact ⟨A2, c2, (List.getElem?_set_ne (fun h => he h.symm)).trans h3, h4, Kd.F_far h5 (fun k hk => hk.2) _⟩
theorem Ls.at0 (w w7 : World) (a b c d : Value) : Ls w (w7.alloc (.cells #[a, b, c, d] 30)) w7.heap.size 0 := ⟨[a, b, c, d], rfl, blk_new w7 _, fun j hj => absurd hj (Nat.not_lt_zero _)⟩
theorem Ls.four {w wr : World} {gl : Nat} (h : Ls w wr gl 4) : ∃ a0 c0 a1 c1 a2 c2 a3 c3, wr.heap[gl]? = some (.cells #[.slice a0 1 c0, .slice a1 1 c1, .slice a2 1 c2, .slice a3 1 c3] 30 (0, 0)) ∧
    (1 ≤ c0 ∧ Kd.F k52 wr (fun b => w.heap.size ≤ b ∧ b ≠ gl) a0 1 [⟨[97, 98], true⟩]) ∧ (1 ≤ c1 ∧ Kd.F k52 wr (fun b => w.heap.size ≤ b ∧ b ≠ gl) a1 1 [⟨[97, 98], true⟩]) ∧
    (1 ≤ c2 ∧ Kd.F k52 wr (fun b => w.heap.size ≤ b ∧ b ≠ gl) a2 1 [⟨[97, 98], true⟩]) ∧ (1 ≤ c3 ∧ Kd.F k52 wr (fun b => w.heap.size ≤ b ∧ b ≠ gl) a3 1 [⟨[97, 98], true⟩]) := by
  obtain ⟨cs, hl, hb, h2⟩ := h
  match cs, hl with
  | [x0, x1, x2, x3], _ =>
    obtain ⟨a0, c0, h0, k0⟩ := h2 0 (by omega)
    obtain ⟨a1, c1, h1, k1⟩ := h2 1 (by omega)
    obtain ⟨a2, c2, h2', k2⟩ := h2 2 (by omega)
    obtain ⟨a3, c3, h3, k3⟩ := h2 3 (by omega)
    simp at h0 h1 h2' h3
    subst h0; subst h1; subst h2'; subst h3
    exact ⟨a0, c0, a1, c1, a2, c2, a3, c3, hb, k0, k1, k2, k3⟩
theorem four_blk (wr : World) (A B C D : Obj) : (((((wr.alloc A).alloc B).alloc C).alloc D).drew).heap[wr.heap.size]? = some A ∧ (((((wr.alloc A).alloc B).alloc C).alloc D).drew).heap[wr.heap.size + 1]? = some B ∧
    (((((wr.alloc A).alloc B).alloc C).alloc D).drew).heap[wr.heap.size + 1 + 1]? = some C ∧ (((((wr.alloc A).alloc B).alloc C).alloc D).drew).heap[wr.heap.size + 1 + 1 + 1]? = some D := by
  have h0 := blk_new wr A
  have h1 := blk_new (wr.alloc A) B
  have h2 := blk_new ((wr.alloc A).alloc B) C
  have h3 := blk_new (((wr.alloc A).alloc B).alloc C) D
  simp only [World.size_alloc] at h1 h2 h3
  exact ⟨blk_alloc (blk_alloc (blk_alloc h0 B) C) D, blk_alloc (blk_alloc h1 C) D, blk_alloc h2 D, h3⟩
theorem Fs.four {w wr W : World} {gl g4 g5 g6 g7 : Nat} {a0 a1 a2 a3 : Option Addr} {c0 c1 c2 c3 : Nat} (hfr : Fr w wr (fun _ => False)) (hb : Below wr.heap.size wr W)
    (h0 : Aside0 (1 ≤ c0 ∧ Kd.F k52 wr (fun b => w.heap.size ≤ b ∧ b ≠ gl) a0 1 [⟨[97, 98], true⟩])) (h1 : Aside0 (1 ≤ c1 ∧ Kd.F k52 wr (fun b => w.heap.size ≤ b ∧ b ≠ gl) a1 1 [⟨[97, 98], true⟩]))
    (h2 : Aside0 (1 ≤ c2 ∧ Kd.F k52 wr (fun b => w.heap.size ≤ b ∧ b ≠ gl) a2 1 [⟨[97, 98], true⟩])) (h3 : Aside0 (1 ≤ c3 ∧ Kd.F k52 wr (fun b => w.heap.size ≤ b ∧ b ≠ gl) a3 1 [⟨[97, 98], true⟩]))
    (hn : [g4, g5, g6, g7].Nodup) (hge : ∀ g ∈ [g4, g5, g6, g7], wr.heap.size ≤ g)
    (b0 : W.heap[g4]? = some (.cells #[.slice a0 1 c0] 30 (0, 0))) (b1 : W.heap[g5]? = some (.cells #[.slice a1 1 c1] 30 (0, 0))) (b2 : W.heap[g6]? = some (.cells #[.slice a2 1 c2] 30 (0, 0))) (b3 : W.heap[g7]? = some (.cells #[.slice a3 1 c3] 30 (0, 0))) :
    Fs w W [g4, g5, g6, g7] [[⟨[97, 98], true⟩], [⟨[97, 98], true⟩], [⟨[97, 98], true⟩], [⟨[97, 98], true⟩]] := by
  have hk : ∀ {A : Option Addr} {g c : Nat}, Aside0 (1 ≤ c ∧ Kd.F k52 wr (fun b => w.heap.size ≤ b ∧ b ≠ gl) A 1 [⟨[97, 98], true⟩]) → g ∈ [g4, g5, g6, g7] → W.heap[g]? = some (.cells #[.slice A 1 c] 30 (0, 0)) →
      FileAt W g (fun k => w.heap.size ≤ k ∧ k ∉ [g4, g5, g6, g7]) [⟨[97, 98], true⟩] := fun h hm hc =>
    ⟨⟨_, _, hc, h.out.1, Kd.F_mono (Kd.F_below (Kd.F_bound h.out.2) hb) (fun k hk => ⟨hk.1.1, fun hin => by have := hge k hin; omega⟩), fun hh => hh.2 hm⟩⟩
  refine ⟨hfr.then_below hb, fun g hg => Nat.le_trans hfr.1 (hge g hg), rfl, hn, fun i g ps hg hp => ?_⟩
  match i, hg, hp with
  | 0, hg, hp => simp only [List.getElem?_cons_zero, Option.some.injEq] at hg hp; subst hg; subst hp; exact hk h0 (by simp) b0
  | 1, hg, hp => simp only [List.getElem?_cons_succ, List.getElem?_cons_zero, Option.some.injEq] at hg hp; subst hg; subst hp; exact hk h1 (by simp) b1
  | 2, hg, hp => simp only [List.getElem?_cons_succ, List.getElem?_cons_zero, Option.some.injEq] at hg hp; subst hg; subst hp; exact hk h2 (by simp) b2
  | 3, hg, hp => simp only [List.getElem?_cons_succ, List.getElem?_cons_zero, Option.some.injEq] at hg hp; subst hg; subst hp; exact hk h3 (by simp) b3
theorem belowThen {w W W2 : World} (h : Below w.heap.size w W) (k : Below W.heap.size W W2) : Below w.heap.size w W2 := ((Fr.of_below h (fun _ => False)).then_below k).below (fun _ hk => hk.elim)
theorem kconst (b0 b1 : Int) (w : World) : (convert 26 26 (.slice (some ⟨w.heap.size, 0, none⟩) 2 2)).run Try.prog (w.alloc (.cells #[.int .u8 b0, .int .u8 b1] 5)) = .ok (.slice (some ⟨w.heap.size, 0, none⟩) 2 2) (w.alloc (.cells #[.int .u8 b0, .int .u8 b1] 5 (2, 3))) :=
  Lib.run_convert_bytes_const (P := Try.prog) w 26 5 #[.int .u8 b0, .int .u8 b1] 2 2 Try.underlying26 Try.underlying5

set_option maxHeartbeats 20000000 in
set_option maxRecDepth 100000 in
theorem works_calls (w : World) : Calls Try.prog 11 #[] w fun e w' => e = .returned (.bool true) ∧ Below w.heap.size w w' := by
  have k1 := kconst 97 98
  have k2 := kconst 99 100
  have k3 := kconst 101 102
  go_enter Try.func11, Try.ntmps11
  go_upto_region 2 with (go_at_call 13; refine (of_const _ _ _).mono ?_; rintro e w1 ⟨A1, c1, rfl, hb1, hc1, hF1⟩; have HB1 := Aside0.mk hb1; have HF1 := Aside0.mk hF1; clear hb1 hF1)
  have HS : Aside0 (Fs w (w1.alloc (.cells #[.slice A1 1 c1] 30)) [w1.heap.size] [[⟨[97, 98], true⟩]]) := ⟨Fs.one (Fr.alloc (Fr.of_below HB1.out _) _) (Kd.F_mono (Kd.F_below (Kd.F_bound HF1.out) (below_alloc (Below.refl _ _) _)) (fun k hk => ⟨hk.1, by omega⟩)) hc1 (blk_new _ _) HB1.out.size⟩
  generalize w1.alloc (.cells #[.slice A1 1 c1] 30) = W at HS ⊢
  generalize w1.heap.size = g at HS ⊢
  clear HB1 HF1 hc1
  go_upto_region 3 with (go_at_call 21; refine (Fs.app2 HS.out 0 g [⟨[97, 98], true⟩] 99 100 [[⟨[97, 98], true⟩, ⟨[99, 100], false⟩]] rfl rfl (by simp) rfl).mono ?_; rintro e w2 ⟨rfl, hs2⟩; have HS2 := Aside0.mk hs2; clear hs2 HS)
  go_upto_region 4 with (go_at_call 21; refine (Fs.app2 HS2.out 0 g [⟨[97, 98], true⟩, ⟨[99, 100], false⟩] 101 102 [[⟨[97, 98], true⟩, ⟨[99, 100], false⟩, ⟨[101, 102], false⟩]] rfl rfl (by simp) rfl).mono ?_; rintro e w3 ⟨rfl, hs3⟩; have HS3 := Aside0.mk hs3; clear hs3 HS2)
  obtain ⟨A3, c3, hcell3, hfz3, hc3, hF3⟩ := HS3.out.get2 0 g 3 _ rfl rfl rfl
  have HF3 := Aside0.mk hF3
  clear hF3
  go_upto_region 6 with first | (go_at_call 25; refine (estr_calls A3 3 c3 _ w3 (Kd.F_now HF3.out) hc3 (Few.small _ (by simp) (by decide)) ⟨#[97, 98, 99, 100, 101, 102]⟩ (by decide)).mono ?_; rintro e w4 ⟨v4, rfl, hv4, hb4⟩; have HB4 := Aside0.mk hb4; have hcell4 := pw_cell_below hb4 hcell3; clear hb4) | (go_at_call 26; refine (evol2_calls A3 3 c3 _ w4 (Kd.F_now (Kd.F_below (Kd.F_bound HF3.out) HB4.out)) hc3 (Few.small _ (by simp) (by decide)) 2 (by decide)).mono ?_; rintro e w5 ⟨rfl, hb5⟩; have HB5 := Aside0.mk hb5; clear hb5)
  have HB : Aside0 (Fr w w5 (fun _ => False)) := ⟨(HS3.out.fr.then_below HB4.out).then_below HB5.out⟩
  clear HS3 HF3 HB4 HB5 hcell3 hcell4 hfz3 hc3 hv4
  go_upto_region 7 with (go_at_call 13; refine (of_nil _).mono ?_; rintro e w7 ⟨B, d, rfl, hb7⟩; replace HB := Aside0.mk (HB.out.then_below hb7); clear hb7)
  have HG := Aside0.mk HB.out.1
  go_wp2
  go_loopw [3] (fun v3 wr => ∃ k : Nat, k ≤ 4 ∧ v3 = .int .i64 k ∧ Aside0 (Ls w wr w7.heap.size k) ∧ Aside0 (Fr w wr (fun _ => False)) ∧ Aside0 (w7.heap.size < wr.heap.size)) (fun v3 _ => 4 - (intOf v3).toNat)
  case atStart => exact ⟨0, Nat.zero_le _, rfl, ⟨Ls.at0 _ _ _ _ _ _⟩, ⟨HB.out.alloc _⟩, ⟨by rw [World.size_alloc]; omega⟩⟩
  case round =>
    obtain ⟨k, hk, rfl, HL1, HB1, HG1⟩ := hrel
    by_cases hlt : k < 4
    · go_wp2_with (go_at_call 13; refine (of_const _ _ wr).mono ?_; rintro e w8 ⟨A8, c8, rfl, hb8, hc8, hF8⟩; have HB8 := Aside0.mk hb8; have HF8 := Aside0.mk hF8; obtain ⟨⟨v, hcv8⟩, hfv8⟩ := (HL1.out.below hb8).cell k hlt; have HC8 := Aside0.mk hc8; clear hb8 hF8 hc8)
      have hg1 := HG1.out
      have hw1 := HB1.out.1
      refine ⟨⟨k + 1, by omega, by go_num, ⟨(HL1.out.below HB8.out).set hlt HC8.out (Kd.F_mono HF8.out (fun j hj => ⟨by omega, by omega⟩))⟩, ⟨(HB1.out.then_below HB8.out).setCell (.inr HG.out) _⟩, ⟨by have := HB8.out.size; simp [World.setCell]; omega⟩⟩, ?_⟩
      simp [intOf]; omega
    · obtain rfl : k = 4 := by omega
      have HL4 := HL1.out
      generalize w7.heap.size = gl at HL4 HG HG1 ⊢
      clear HL1 HB
      go_upto_region 11 with (fail)
      obtain ⟨a0, c0, a1, c1, a2, c2, a3, c3, hbl, h0, h1, h2, h3⟩ := HL4.four
      have H0 := Aside0.mk h0
      have H1 := Aside0.mk h1
      have H2 := Aside0.mk h2
      have H3 := Aside0.mk h3
      have q0 : wr.cell? ⟨gl, 0, none⟩ = some (.slice a0 1 c0) := by simp [World.cell?, hbl]
      have q1 : wr.cell? ⟨gl, 1, none⟩ = some (.slice a1 1 c1) := by simp [World.cell?, hbl]
      have q2 : wr.cell? ⟨gl, 2, none⟩ = some (.slice a2 1 c2) := by simp [World.cell?, hbl]
      have q3 : wr.cell? ⟨gl, 3, none⟩ = some (.slice a3 1 c3) := by simp [World.cell?, hbl]
      clear HL4 h0 h1 h2 h3 hbl hk hlt
      have hG1 := HG1.out
      go_cut [4, 5, 6, 7] (fun v4 v5 v6 v7 wx => ∃ g4 g5 g6 g7 : Nat, v4 = .pointer (some ⟨g4, 0, none⟩) ∧ v5 = .pointer (some ⟨g5, 0, none⟩) ∧ v6 = .pointer (some ⟨g6, 0, none⟩) ∧ v7 = .pointer (some ⟨g7, 0, none⟩) ∧
        Aside0 (Fs w wx [g4, g5, g6, g7] [[⟨[97, 98], true⟩], [⟨[97, 98], true⟩], [⟨[97, 98], true⟩], [⟨[97, 98], true⟩]]))
      case first =>
        go_region_held3 (fun w' => w'.cell? ⟨gl, 0, none⟩ = some (.slice a0 1 c0) ∧ w'.cell? ⟨gl, 1, none⟩ = some (.slice a1 1 c1) ∧ w'.cell? ⟨gl, 2, none⟩ = some (.slice a2 1 c2) ∧ w'.cell? ⟨gl, 3, none⟩ = some (.slice a3 1 c3))
          (first | (go_split_ands; exact ⟨cell_allocs (by assumption) _, cell_allocs (by assumption) _, cell_allocs (by assumption) _, cell_allocs (by assumption) _⟩) | exact ⟨cell_allocs (cell_allocs (cell_allocs (cell_allocs q0 _) _) _) _, cell_allocs (cell_allocs (cell_allocs (cell_allocs q1 _) _) _) _, cell_allocs (cell_allocs (cell_allocs (cell_allocs q2 _) _) _) _, cell_allocs (cell_allocs (cell_allocs (cell_allocs q3 _) _) _) _⟩ | go_keep) (first | fail)
        all_goals (go_wp2_with fail; go_meet)
        all_goals exact ⟨_, _, _, _, rfl, rfl, rfl, rfl, ⟨Fs.four HB1.out (below_drew (below_alloc (below_alloc (below_alloc (below_alloc (Below.refl _ _) _) _) _) _)) H0 H1 H2 H3 (by simp <;> omega) (by simp <;> omega)
          (by first | exact (four_blk wr _ _ _ _).1 | exact (four_blk wr _ _ _ _).2.1 | exact (four_blk wr _ _ _ _).2.2.1 | exact (four_blk wr _ _ _ _).2.2.2) (by first | exact (four_blk wr _ _ _ _).1 | exact (four_blk wr _ _ _ _).2.1 | exact (four_blk wr _ _ _ _).2.2.1 | exact (four_blk wr _ _ _ _).2.2.2)
          (by first | exact (four_blk wr _ _ _ _).1 | exact (four_blk wr _ _ _ _).2.1 | exact (four_blk wr _ _ _ _).2.2.1 | exact (four_blk wr _ _ _ _).2.2.2) (by first | exact (four_blk wr _ _ _ _).1 | exact (four_blk wr _ _ _ _).2.1 | exact (four_blk wr _ _ _ _).2.2.1 | exact (four_blk wr _ _ _ _).2.2.2)⟩⟩
      case rest =>
        obtain ⟨g4, g5, g6, g7, rfl, rfl, rfl, rfl, HS⟩ := hcut
        go_upto_region 13 with (go_at_call 21; refine (Fs.app2 HS.out 0 g4 [⟨[97, 98], true⟩] 99 100 [[⟨[97, 98], true⟩, ⟨[99, 100], false⟩], [⟨[97, 98], true⟩], [⟨[97, 98], true⟩], [⟨[97, 98], true⟩]] rfl rfl (by simp) rfl).mono ?_; rintro e wt1 ⟨rfl, ht⟩; have HT1 := Aside0.mk ht; clear ht HS)
        go_upto_region 14 with (go_at_call 21; refine (Fs.app2 HT1.out 0 g4 [⟨[97, 98], true⟩, ⟨[99, 100], false⟩] 101 102 [[⟨[97, 98], true⟩, ⟨[99, 100], false⟩, ⟨[101, 102], false⟩], [⟨[97, 98], true⟩], [⟨[97, 98], true⟩], [⟨[97, 98], true⟩]] rfl rfl (by simp) rfl).mono ?_; rintro e wt2 ⟨rfl, ht⟩; have HT2 := Aside0.mk ht; clear ht HT1)
        go_upto_region 15 with (go_at_call 19; refine (Fs.failc2 HT2.out 0 g4 [⟨[97, 98], true⟩, ⟨[99, 100], false⟩, ⟨[101, 102], false⟩] [false, true] 2 [[⟨[97, 98], true⟩, ⟨[0, 0], true⟩, ⟨[101, 102], true⟩], [⟨[97, 98], true⟩], [⟨[97, 98], true⟩], [⟨[97, 98], true⟩]] rfl rfl (by simp) (by simp) rfl (by simp) rfl).mono ?_; rintro e wt3 ⟨rfl, ht⟩; have HT3 := Aside0.mk ht; clear ht HT2)
        go_upto_region 16 with (go_at_call 21; refine (Fs.app2 HT3.out 1 g5 [⟨[97, 98], true⟩] 99 100 [[⟨[97, 98], true⟩, ⟨[0, 0], true⟩, ⟨[101, 102], true⟩], [⟨[97, 98], true⟩, ⟨[99, 100], false⟩], [⟨[97, 98], true⟩], [⟨[97, 98], true⟩]] rfl rfl (by simp) rfl).mono ?_; rintro e wt4 ⟨rfl, ht⟩; have HT4 := Aside0.mk ht; clear ht HT3)
        go_upto_region 17 with (go_at_call 21; refine (Fs.app2 HT4.out 1 g5 [⟨[97, 98], true⟩, ⟨[99, 100], false⟩] 101 102 [[⟨[97, 98], true⟩, ⟨[0, 0], true⟩, ⟨[101, 102], true⟩], [⟨[97, 98], true⟩, ⟨[99, 100], false⟩, ⟨[101, 102], false⟩], [⟨[97, 98], true⟩], [⟨[97, 98], true⟩]] rfl rfl (by simp) rfl).mono ?_; rintro e wt5 ⟨rfl, ht⟩; have HT5 := Aside0.mk ht; clear ht HT4)
        go_upto_region 18 with (go_at_call 19; refine (Fs.failc2 HT5.out 1 g5 [⟨[97, 98], true⟩, ⟨[99, 100], false⟩, ⟨[101, 102], false⟩] [true] 1 [[⟨[97, 98], true⟩, ⟨[0, 0], true⟩, ⟨[101, 102], true⟩], [⟨[97, 98], true⟩, ⟨[99, 100], true⟩], [⟨[97, 98], true⟩], [⟨[97, 98], true⟩]] rfl rfl (by simp) (by simp) rfl (by simp) rfl).mono ?_; rintro e wt6 ⟨rfl, ht⟩; have HT6 := Aside0.mk ht; clear ht HT5)
        go_upto_region 19 with (go_at_call 21; refine (Fs.app2 HT6.out 2 g6 [⟨[97, 98], true⟩] 99 100 [[⟨[97, 98], true⟩, ⟨[0, 0], true⟩, ⟨[101, 102], true⟩], [⟨[97, 98], true⟩, ⟨[99, 100], true⟩], [⟨[97, 98], true⟩, ⟨[99, 100], false⟩], [⟨[97, 98], true⟩]] rfl rfl (by simp) rfl).mono ?_; rintro e wt7 ⟨rfl, ht⟩; have HT7 := Aside0.mk ht; clear ht HT6)
        go_upto_region 20 with (go_at_call 21; refine (Fs.app2 HT7.out 2 g6 [⟨[97, 98], true⟩, ⟨[99, 100], false⟩] 101 102 [[⟨[97, 98], true⟩, ⟨[0, 0], true⟩, ⟨[101, 102], true⟩], [⟨[97, 98], true⟩, ⟨[99, 100], true⟩], [⟨[97, 98], true⟩, ⟨[99, 100], false⟩, ⟨[101, 102], false⟩], [⟨[97, 98], true⟩]] rfl rfl (by simp) rfl).mono ?_; rintro e wt8 ⟨rfl, ht⟩; have HT8 := Aside0.mk ht; clear ht HT7)
        go_upto_region 21 with (go_at_call 19; refine (Fs.failn2 HT8.out 2 g6 [⟨[97, 98], true⟩, ⟨[99, 100], false⟩, ⟨[101, 102], false⟩] [[⟨[97, 98], true⟩, ⟨[0, 0], true⟩, ⟨[101, 102], true⟩], [⟨[97, 98], true⟩, ⟨[99, 100], true⟩], [⟨[97, 98], true⟩], [⟨[97, 98], true⟩]] rfl rfl (by simp) (by simp) rfl).mono ?_; rintro e wt9 ⟨rfl, ht⟩; have HT9 := Aside0.mk ht; clear ht HT8)
        go_upto_region 22 with (go_at_call 21; refine (Fs.app2 HT9.out 3 g7 [⟨[97, 98], true⟩] 99 100 [[⟨[97, 98], true⟩, ⟨[0, 0], true⟩, ⟨[101, 102], true⟩], [⟨[97, 98], true⟩, ⟨[99, 100], true⟩], [⟨[97, 98], true⟩], [⟨[97, 98], true⟩, ⟨[99, 100], false⟩]] rfl rfl (by simp) rfl).mono ?_; rintro e wt10 ⟨rfl, ht⟩; have HT10 := Aside0.mk ht; clear ht HT9)
        go_upto_region 23 with (go_at_call 21; refine (Fs.app2 HT10.out 3 g7 [⟨[97, 98], true⟩, ⟨[99, 100], false⟩] 101 102 [[⟨[97, 98], true⟩, ⟨[0, 0], true⟩, ⟨[101, 102], true⟩], [⟨[97, 98], true⟩, ⟨[99, 100], true⟩], [⟨[97, 98], true⟩], [⟨[97, 98], true⟩, ⟨[99, 100], false⟩, ⟨[101, 102], false⟩]] rfl rfl (by simp) rfl).mono ?_; rintro e wt11 ⟨rfl, ht⟩; have HT11 := Aside0.mk ht; clear ht HT10)
        go_upto_region 24 with (go_at_call 17; refine (Fs.sync2 HT11.out 3 g7 [⟨[97, 98], true⟩, ⟨[99, 100], false⟩, ⟨[101, 102], false⟩] [[⟨[97, 98], true⟩, ⟨[0, 0], true⟩, ⟨[101, 102], true⟩], [⟨[97, 98], true⟩, ⟨[99, 100], true⟩], [⟨[97, 98], true⟩], [⟨[97, 98], true⟩, ⟨[99, 100], true⟩, ⟨[101, 102], true⟩]] rfl rfl (by simp) rfl).mono ?_; rintro e wt12 ⟨rfl, ht⟩; have HT12 := Aside0.mk ht; clear ht HT11)
        go_upto_region 25 with (go_at_call 19; refine (Fs.failn2 HT12.out 3 g7 [⟨[97, 98], true⟩, ⟨[99, 100], true⟩, ⟨[101, 102], true⟩] [[⟨[97, 98], true⟩, ⟨[0, 0], true⟩, ⟨[101, 102], true⟩], [⟨[97, 98], true⟩, ⟨[99, 100], true⟩], [⟨[97, 98], true⟩], [⟨[97, 98], true⟩, ⟨[99, 100], true⟩, ⟨[101, 102], true⟩]] rfl rfl (by simp) (by simp) rfl).mono ?_; rintro e wt13 ⟨rfl, ht⟩; have HT13 := Aside0.mk ht; clear ht HT12)
        obtain ⟨F0, e0, hc0, hz0, hle0, hF0⟩ := HT13.out.get2 0 g4 3 [⟨[97, 98], true⟩, ⟨[0, 0], true⟩, ⟨[101, 102], true⟩] rfl rfl rfl
        have KF0 := Aside0.mk (Kd.F_bound hF0)
        clear hF0
        obtain ⟨F1, e1, hc1, hz1, hle1, hF1⟩ := HT13.out.get2 1 g5 2 [⟨[97, 98], true⟩, ⟨[99, 100], true⟩] rfl rfl rfl
        have KF1 := Aside0.mk (Kd.F_bound hF1)
        clear hF1
        obtain ⟨F2, e2, hc2, hz2, hle2, hF2⟩ := HT13.out.get2 2 g6 1 [⟨[97, 98], true⟩] rfl rfl rfl
        have KF2 := Aside0.mk (Kd.F_bound hF2)
        clear hF2
        obtain ⟨F3, e3, hc3, hz3, hle3, hF3⟩ := HT13.out.get2 3 g7 3 [⟨[97, 98], true⟩, ⟨[99, 100], true⟩, ⟨[101, 102], true⟩] rfl rfl rfl
        have KF3 := Aside0.mk (Kd.F_bound hF3)
        clear hF3
        go_wp2_with first
          | (go_at_call 25; (with_reducible show Calls _ _ #[Value.agg #[Value.slice F0 3 e0]] _ _); refine (estr_calls F0 3 e0 [⟨[97, 98], true⟩, ⟨[0, 0], true⟩, ⟨[101, 102], true⟩] wt13 (Kd.F_now KF0.out) hle0 (Few.small _ (by simp) (by decide)) ⟨#[97, 98, 0, 0, 101, 102]⟩ (by decide)).mono ?_; rintro e y1 ⟨x0, rfl, hx0, hy⟩; have HY1 := Aside0.mk hy; clear hy; have c1_0 := pw_cell_below HY1.out hc0; have c1_1 := pw_cell_below HY1.out hc1; have c1_2 := pw_cell_below HY1.out hc2; have c1_3 := pw_cell_below HY1.out hc3)
          | (go_at_call 26; (with_reducible show Calls _ _ #[Value.agg #[Value.slice F0 3 e0]] _ _); refine (evol2_calls F0 3 e0 [⟨[97, 98], true⟩, ⟨[0, 0], true⟩, ⟨[101, 102], true⟩] y1 (Kd.F_now (Kd.F_below KF0.out HY1.out)) hle0 (Few.small _ (by simp) (by decide)) 0 (by decide)).mono ?_; rintro e y2 ⟨rfl, hy⟩; have HY2 := Aside0.mk (belowThen HY1.out hy); clear hy; have c2_1 := pw_cell_below HY2.out hc1; have c2_2 := pw_cell_below HY2.out hc2; have c2_3 := pw_cell_below HY2.out hc3)
          | (go_at_call 25; (with_reducible show Calls _ _ #[Value.agg #[Value.slice F1 2 e1]] _ _); refine (estr_calls F1 2 e1 [⟨[97, 98], true⟩, ⟨[99, 100], true⟩] y2 (Kd.F_now (Kd.F_below KF1.out HY2.out)) hle1 (Few.small _ (by simp) (by decide)) ⟨#[97, 98, 99, 100]⟩ (by decide)).mono ?_; rintro e y3 ⟨x2, rfl, hx2, hy⟩; have HY3 := Aside0.mk (belowThen HY2.out hy); clear hy; have c3_2 := pw_cell_below HY3.out hc2; have c3_3 := pw_cell_below HY3.out hc3)
          | (go_at_call 25; (with_reducible show Calls _ _ #[Value.agg #[Value.slice F2 1 e2]] _ _); refine (estr_calls F2 1 e2 [⟨[97, 98], true⟩] y3 (Kd.F_now (Kd.F_below KF2.out HY3.out)) hle2 (Few.small _ (by simp) (by decide)) ⟨#[97, 98]⟩ (by decide)).mono ?_; rintro e y4 ⟨x3, rfl, hx3, hy⟩; have HY4 := Aside0.mk (belowThen HY3.out hy); clear hy; have c4_3 := pw_cell_below HY4.out hc3)
          | (go_at_call 25; (with_reducible show Calls _ _ #[Value.agg #[Value.slice F3 3 e3]] _ _); refine (estr_calls F3 3 e3 [⟨[97, 98], true⟩, ⟨[99, 100], true⟩, ⟨[101, 102], true⟩] y4 (Kd.F_now (Kd.F_below KF3.out HY4.out)) hle3 (Few.small _ (by simp) (by decide)) ⟨#[97, 98, 99, 100, 101, 102]⟩ (by decide)).mono ?_; rintro e y5 ⟨x4, rfl, hx4, hy⟩; have HY5 := Aside0.mk (belowThen HY4.out hy); clear hy)
        go_ret
        exact ⟨rfl, (HT13.out.fr.then_below HY5.out).below (fun k hk => hk.elim)⟩
end Go.Proofs.Ytbpnbhccdpobpaa
