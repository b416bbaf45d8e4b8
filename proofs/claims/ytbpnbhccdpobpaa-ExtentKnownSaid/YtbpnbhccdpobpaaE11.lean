import Derived.Test.YtbpnbhccdpobpaaE10
import Derived.Lib.SlBytesConst
/-! Calls with constants, as works has them. -/
set_option linter.unusedVariables false
set_option linter.unusedSimpArgs false
namespace Go.Proofs.Ytbpnbhccdpobpaa
open Go.RowKit Go.Proofs.YtbpnbhccdpobpaaW.PrintWords PExtentKnown

theorem F_const {α : Type} (enc : α → Value) {h1 : ∀ x : α, (enc x).oneCell' = true} (w : World) (xs : List α) (t : TypeId) (mk : Nat × Nat) (hl : xs.length ≤ 1000000) :
    Kd.F (Kd.scalar enc h1) (w.alloc (.cells (xs.map enc).toArray t mk)) (fun k => k = w.heap.size) (some ⟨w.heap.size, 0, none⟩) xs.length xs := fun W' hW => by
  have hb := hW w.heap.size rfl (by rw [World.size_alloc]; omega)
  rw [blk_new] at hb
  refine ⟨rfl, by omega, fun hp => ⟨_, rfl, fun j p hj => ⟨[enc p], rfl, rfl, fun i u hi => ?_⟩⟩⟩
  match i, hi with
  | 0, hi =>
    simp only [List.getElem?_cons_zero, Option.some.injEq] at hi
    subst hi
    rw [show (Kd.scalar enc h1).sz = 1 from rfl, Nat.mul_one, Nat.add_zero, add_plain]
    simp [World.cell?, hb, hj]
theorem F_rowOf {α : Type} {d : Kd α} {e : Nat} {w : World} {ok : Nat → Prop} {A : Option Addr} {n c : Nat} {xs : List α} (h : Kd.F d w ok A n xs) (hc : n ≤ c) (t : TypeId) (mk : Nat × Nat) :
    Kd.F (Kd.slice e d) (w.alloc (.cells #[.slice A n c] t mk)) (fun k => (ok k ∧ k < w.heap.size) ∨ k = w.heap.size) (some ⟨w.heap.size, 0, none⟩) 1 [xs] := fun W' hW => by
  have hb := hW w.heap.size (.inr rfl) (by rw [World.size_alloc]; omega)
  rw [blk_new] at hb
  have hn := Kd.F_len h
  subst hn
  have hC : d.C W' A xs.length xs := (Kd.F_bound h) W' (fun k hk hlt => (hW k (.inl hk) (by rw [World.size_alloc]; omega)).trans (Below.heap_alloc w _ k hlt))
  refine ⟨rfl, by decide, fun hp => ⟨_, rfl, fun j p hj => ?_⟩⟩
  match j, hj with
  | 0, hj =>
    simp only [List.getElem?_cons_zero, Option.some.injEq] at hj
    subst hj
    refine ⟨[.slice A xs.length c], rfl, ⟨A, c, rfl, hc, hC⟩, fun i u hi => ?_⟩
    match i, hi with
    | 0, hi =>
      simp only [List.getElem?_cons_zero, Option.some.injEq] at hi
      subst hi
      simp [World.cell?, hb, Addr.add]
theorem app_const (g : Nat) (ok : Nat → Prop) (ps : List S52) (b0 b1 : Int) (w : World) (hf : FileAt w g ok ps) (hl : ps.length ≤ 1000000) :
    Calls Try.prog 21 #[.pointer (some ⟨g, 0, none⟩), .slice (some ⟨w.heap.size, 0, none⟩) 2 2] (w.alloc (.cells #[.int .u8 b0, .int .u8 b1] 5 (2, 3))) fun e w' => e = .returned (.tuple #[]) ∧ Fr w w' (fun k => k = g) ∧
      FileAt w' g (fun k => (ok k ∨ w.heap.size ≤ k) ∧ k ≠ g) (tidyOf (ps ++ [⟨[b0, b1], false⟩])) := by
  have hF := F_const (Value.int .u8) (h1 := fun _ => rfl) w [b0, b1] 5 (2, 3) (by simp)
  refine (append_calls g ok ps (some ⟨w.heap.size, 0, none⟩) 2 2 [b0, b1] _ _ (hf.below (below_alloc (Below.refl _ _) _)) hl hF (Nat.le_refl _) (Nat.le_of_ble_eq_true rfl)).mono ?_
  rintro e w' ⟨rfl, hk, hfa⟩
  refine ⟨rfl, (Fr.alloc (Fr.refl w (fun k => k = g)) _).then_ hk (fun k hk => .inl hk), hfa.mono (fun k hk => ⟨?_, hk.2⟩) (fun h => h.2 rfl)⟩
  rcases hk.1 with h | h
  · exact .inl h
  · rw [World.size_alloc] at h; exact .inr (by omega)
theorem of_const (b0 b1 : Int) (w : World) :
    Calls Try.prog 13 #[.slice (some ⟨w.heap.size + 1, 0, none⟩) 1 1] ((w.alloc (.cells #[.int .u8 b0, .int .u8 b1] 5 (2, 3))).alloc (.cells #[.slice (some ⟨w.heap.size, 0, none⟩) 2 2] 26 (0, 0))) fun e w' => ∃ A' c', e = .returned (.agg #[.slice A' 1 c']) ∧ Below w.heap.size w w' ∧ 1 ≤ c' ∧ Kd.F k52 w' (fun k => w.heap.size ≤ k) A' 1 [⟨[b0, b1], true⟩] := by
  have hF := F_rowOf (e := 5) (c := 2) (F_const (Value.int .u8) (h1 := fun _ => rfl) w [b0, b1] 5 (2, 3) (by simp)) (Nat.le_refl 2) 26 (0, 0)
  rw [World.size_alloc] at hF
  refine (of_calls (some ⟨w.heap.size + 1, 0, none⟩) 1 1 [[b0, b1]] _ _ hF (Nat.le_refl _) (by decide) (by intro b hb; simp at hb; subst hb; exact Nat.le_of_ble_eq_true rfl)).mono ?_
  rintro e w' ⟨A', n', c', rfl, hb, hc, hn, hFF⟩
  have ho : ofOf [[b0, b1]] = [⟨[b0, b1], true⟩] := rfl
  rw [ho] at hn hFF
  subst hn
  simp only [World.size_alloc] at hb hFF
  refine ⟨A', c', rfl, ?_, hc, Kd.F_mono hFF (fun k hk => by omega)⟩
  exact ⟨hb.os, hb.tape, hb.output, Nat.le_trans (by simp; omega) hb.size, fun k hk => (hb.block k (by omega)).trans ((Below.heap_alloc _ _ k (by rw [World.size_alloc]; omega)).trans (Below.heap_alloc w _ k hk))⟩
theorem of_nil (w : World) : Calls Try.prog 13 #[.slice none 0 0] w fun e w' => ∃ A' c', e = .returned (.agg #[.slice A' 0 c']) ∧ Below w.heap.size w w' := by
  refine (of_calls none 0 0 [] (fun _ => True) w (Kd.F_nil _ _ _) (Nat.le_refl _) (by decide) (by intro b hb; cases hb)).mono ?_
  rintro e w' ⟨A', n', c', rfl, hb, hc, hn, hFF⟩
  have ho : ofOf [] = [] := rfl
  rw [ho] at hn
  subst hn
  exact ⟨A', c', rfl, hb⟩
end Go.Proofs.Ytbpnbhccdpobpaa
