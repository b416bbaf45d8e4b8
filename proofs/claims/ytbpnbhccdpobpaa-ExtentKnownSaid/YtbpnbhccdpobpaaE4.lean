import Derived.Test.YtbpnbhccdpobpaaE3
import Derived.ArgAppend
/-! extent.File: Append. -/
set_option linter.unusedVariables false
set_option linter.unusedSimpArgs false
namespace Go.Proofs.Ytbpnbhccdpobpaa
open Go.RowKit Go.Proofs.YtbpnbhccdpobpaaW.PrintWords PExtentKnown

theorem FileAt.of_tidy {w w' : World} {g : Nat} {ok : Nat → Prop} {ps : List S52} {A : Option Addr} {n c : Nat} (hb : w'.heap[g]? = some (.cells #[.slice A n c] 30 (0, 0))) (hN : Kd.N k52 52 w' w.heap.size (fun k => (ok k ∨ w.heap.size ≤ k) ∧ k ≠ g) (.slice A n c) ps) :
    FileAt w' g (fun k => (ok k ∨ w.heap.size ≤ k) ∧ k ≠ g) ps := by
  obtain ⟨hn, hc, _⟩ := Kd.N_reads' hN
  subst hn
  exact ⟨⟨A, c, hb, hc, Kd.N_F hN, fun h => h.2 rfl⟩⟩

set_option maxHeartbeats 1000000 in
set_option maxRecDepth 100000 in
theorem append_nil_calls (A : Option Addr) (n c : Nat) (w : World) : Calls Try.prog 21 #[.pointer none, .slice A n c] w fun e w' => e = .returned (.tuple #[]) ∧ w = w' := by
  go_enter Try.func21, Try.ntmps21
  go_wp2
  first | go_end0 | refine bodyPost_ret (results_none rfl _ _ _) rfl ?_
  exact ⟨rfl, rfl⟩

theorem append_built (g : Nat) (ok : Nat → Prop) (ps : List S52) (A : Option Addr) (c : Nat) (inner : List Value) (A1 : Option Addr) (c1 : Nat) (bs : List Int) (w w1 w2 : World) (hlt : g < w.heap.size) (hg : ¬ ok g)
    (hir : Reps (Kd.FK k52 w ok) k52.sz ps inner) (hR : (Kd.int .u8).R 5 w1 w.heap.size (fun k => w.heap.size ≤ k) (.slice A1 bs.length c1) bs) (hb1 : Below w.heap.size w w1) (A2 : Option Addr) (c2 : Nat)
    (ho2 : w2.ownsRow (w1.alloc (.cells #[.slice A1 bs.length c1, .bool false] 52)).heap.size 52 2 (.slice A2 (ps.length + 1) c2) (ps.length + 1) (inner ++ [.slice A1 bs.length c1, .bool false]))
    (hg2 : (w1.alloc (.cells #[.slice A1 bs.length c1, .bool false] 52)).grownBy w2 none) (hb2 : w2.heap[g]? = some (.cells #[.slice A ps.length c] 30 (0, 0))) :
    FileAt (w2.setCell ⟨g, 0, none⟩ (.slice A2 (ps.length + 1) c2)) g (fun k => (ok k ∨ w.heap.size ≤ k) ∧ k ≠ g) (ps ++ [⟨bs, false⟩]) := by
  have hs1 := hb1.size
  have hsz : (w1.alloc (.cells #[.slice A1 bs.length c1, .bool false] 52)).heap.size = w1.heap.size + 1 := by simp
  have hb12 : Below w1.heap.size w1 w2 := pw_below_grown (below_alloc (Below.refl _ _) _) none (by simp) hg2 (by simp)
  have hb02 : Below w.heap.size w w2 := below_step hb1 hb12
  have hnew : Kd.FK k52 w2 (fun k => (ok k ∨ w.heap.size ≤ k) ∧ k < w1.heap.size + 1) (⟨bs, false⟩ : S52) [.slice A1 bs.length c1, .bool false] :=
    k52_mkF w2 _ (⟨bs, false⟩ : S52) (Kd.R_reads' hR).2.1 (Kd.F_mono (Kd.F_below (Kd.F_bound (Kd.R_F hR)) hb12) (fun k hk => ⟨.inr hk.1, by have := hk.2; omega⟩))
  have hold : Reps (Kd.FK k52 w2 (fun k => (ok k ∨ w.heap.size ≤ k) ∧ k < w1.heap.size + 1)) k52.sz ps inner :=
    hir.imp_ (fun p cc hp => Kd.FK_mono (Kd.FK_below (Kd.FK_bound hp) hb02) (fun k hk => ⟨.inl hk.1, by have := hk.2; omega⟩))
  have hrep := Reps.snoc hold hnew rfl
  have hl : (ps ++ [(⟨bs, false⟩ : S52)]).length = ps.length + 1 := by simp
  have hN := N_of_reps (d := k52) (ok := fun k => ok k ∨ w.heap.size ≤ k) (v := .slice A2 (ps.length + 1) c2) (by rw [hl]; exact ho2) hrep (fun k hk => by
    have := own_base ho2 k hk; right; omega) (fun k hk => ⟨hk.1, fun he => by have := own_base ho2 k he.symm; have := hk.2; omega⟩)
  have hN3 := Kd.N_mono hN (ok' := fun k => (ok k ∨ w.heap.size ≤ k) ∧ k ≠ g) (fun k hk => ⟨hk, fun he => by
    subst he
    rcases hk with h | h
    · exact hg h
    · omega⟩)
  have hN4 := Kd.N_far (p := ⟨g, 0, none⟩) hN3 (fun _ hk => hk.2) (.slice A2 (ps.length + 1) c2)
  exact ⟨⟨A2, c2, by rw [hl]; exact blk_put hb2 0 _ rfl, by rw [hl]; exact (Kd.N_reads' hN).2.1, by rw [hl]; exact Kd.N_F hN4, fun h => h.2 rfl⟩⟩

set_option maxHeartbeats 1000000 in
set_option maxRecDepth 100000 in
theorem append_calls (g : Nat) (ok : Nat → Prop) (ps : List S52) (Ab : Option Addr) (nb cb : Nat) (bs : List Int) (okb : Nat → Prop) (w : World) (hf : FileAt w g ok ps) (hl : ps.length ≤ 1000000) (hb : Kd.F (Kd.int .u8) w okb Ab nb bs) (hnb : nb ≤ cb) (hlb : nb ≤ 1000000) :
    Calls Try.prog 21 #[.pointer (some ⟨g, 0, none⟩), .slice Ab nb cb] w fun e w' => e = .returned (.tuple #[]) ∧ Fr w w' (fun k => k = g) ∧
      FileAt w' g (fun k => (ok k ∨ w.heap.size ≤ k) ∧ k ≠ g) (tidyOf (ps ++ [⟨bs, false⟩])) := by
  have hlt := hf.lt
  obtain ⟨A, c, hbk, hc, hF, hg⟩ := hf.out
  have hcell := blk_cell hbk 0
  simp at hcell
  have HG := Aside0.mk hg
  have HF := Aside0.mk hF
  have HB := Aside0.mk hbk
  have HL := Aside0.mk hlt
  have HBY := Aside0.mk hb
  clear hbk hF hg hlt hb
  obtain ⟨inner, hil, hir, hic⟩ := F_flat HF.out
  have HIL := Aside0.mk hil
  have HIR := Aside0.mk hir
  have HIC := Aside0.mk hic
  obtain ⟨i0, hi, hz0, hz1, hz2⟩ := info_parts eInfoPart
  have HI0 := Aside0.mk hi
  have HI1 := Aside0.mk hz0
  have HI2 := Aside0.mk hz1
  have HI3 := Aside0.mk hz2
  clear hil hir hic hi hz0 hz1 hz2
  go_enter Try.func21, Try.ntmps21
  go_wp2_with (first
    | (go_at_call 46; refine (clipPart_calls A ps.length c w hc (by omega)).mono ?_; rintro e w1 ⟨rfl, rfl⟩)
    | (go_at_call 47; refine (cloneByte_calls Ab nb cb bs w okb HBY.out hnb (by omega)).mono ?_; rintro e w1 ⟨v1, rfl, hN, hb1⟩; obtain ⟨A1, c1, rfl⟩ := Kd.R_slice hN; have HN := Aside0.mk hN; have HB1 := Aside0.mk hb1; clear hN hb1)
    | (at_builtin; go_must ((refine wpList_append_grows _ rfl (.tmp 11) (.tmp 15) 28 rfl 52 i0 _ 2 32 Try.underlying28 HI0.out HI1.out HI2.out HI3.out rfl (by decide) A ps.length ps.length inner rfl ?c1 HIL.out ?c2 ⟨w1.heap.size, 0, none⟩ 1 1 [.slice A1 bs.length c1, .bool false] rfl rfl ?c3 ?c4 (by omega) (by simp only [maxLen]; omega) (by omega) ?_); (case c1 => intro he; subst he; exact ⟨(F_nilA HF.out).1, (F_nilA HF.out).1⟩); (case c2 => exact fun b hb j u hj => by have h1 := HIC.out b hb j u hj; have h2 := pw_cell_below HB1.out h1; exact pw_cell_below (below_alloc (Below.refl _ _) _) h2); (case c3 => exact fun j u hj => by rw [add_plain]; exact (blk_cell (blk_new w1 _) j).trans (by simpa using hj)); (case c4 => intro u hu; simp at hu; rcases hu with rfl | rfl <;> rfl); intro v2 w2 ho2 hg2; obtain ⟨A2, c2, rfl⟩ := own_slice ho2; have hb2 := (hg2.block g (by have := HL.out; have := HB1.out.size; simp; omega) (by simp)).trans (blk_alloc (blk_below HB.out HB1.out) _); have hcell2 := blk_cell hb2 0; have hfr2 := blk_frozen hb2 0; simp at hcell2; have HB2 := Aside0.mk hb2; have HO2 := Aside0.mk ho2; have HG2 := Aside0.mk hg2; clear ho2 hg2 hb2))
    | (go_at_call 45; go_must ((refine (tidy_calls g (fun k => (ok k ∨ w.heap.size ≤ k) ∧ k ≠ g) (ps ++ [⟨bs, false⟩]) _ (append_built g ok ps A c inner A1 c1 bs w w1 w2 HL.out HG.out HIR.out HN.out HB1.out A2 c2 HO2.out HG2.out HB2.out) (by simp; omega)).mono ?_); rintro e w3 ⟨rfl, hk3, A3, n3, c3, hb3, hN3⟩; have HK3 := Aside0.mk hk3; have HB3 := Aside0.mk hb3; have HN3 := Aside0.mk hN3; clear hk3 hb3 hN3)))
  go_end0
  have hs1 := HB1.out.size
  have hs2 := HG2.out.size
  rw [World.size_alloc] at hs2
  have hk2 : Fr w w2 (fun k => k = g) := Fr.of_grown HG2.out (Fr.alloc (Fr.of_below HB1.out _) _) (fun k hk => by cases hk)
  refine ⟨rfl, Fr.then_ (Fr.setCell (S := fun k => k = g) (p := ⟨g, 0, none⟩) hk2 (.inl rfl) _) HK3.out (fun k hk => .inl hk), ?_⟩
  refine FileAt.mono (FileAt.of_tidy HB3.out HN3.out) (fun k hk => ?_) (fun h => h.2 rfl)
  refine ⟨?_, hk.2⟩
  rcases hk.1 with h | h
  · exact h.1
  · right
    simp [World.setCell] at h
    omega
end Go.Proofs.Ytbpnbhccdpobpaa
