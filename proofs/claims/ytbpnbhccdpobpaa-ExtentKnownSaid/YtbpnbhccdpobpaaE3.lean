import Derived.Test.YtbpnbhccdpobpaaE2
import Derived.BigQuiet
import Derived.Deep.QuietTactic
/-! extent.File: tidy, Sync, Append. -/
set_option linter.unusedVariables false
set_option linter.unusedSimpArgs false
namespace Go.Proofs.Ytbpnbhccdpobpaa
open Go.RowKit Go.Proofs.YtbpnbhccdpobpaaW.PrintWords PExtentKnown

/-- A file behind a pointer: block g holds the slice of its parts, which lead to blocks of ok. -/
structure FileAt (w : World) (g : Nat) (ok : Nat → Prop) (ps : List S52) : Prop where mk_ ::
  out : ∃ A c, w.heap[g]? = some (.cells #[.slice A ps.length c] 30 (0, 0)) ∧ ps.length ≤ c ∧ Kd.F k52 w ok A ps.length ps ∧ ¬ ok g
theorem FileAt.lt {w : World} {g : Nat} {ok : Nat → Prop} {ps : List S52} (h : FileAt w g ok ps) : g < w.heap.size := by
  obtain ⟨A, c, hb, _⟩ := h.out
  exact blk_lt hb
theorem FileAt.step {w w' : World} {g : Nat} {ok : Nat → Prop} {ps : List S52} (h : FileAt w g ok ps) (hm : ∀ k, (ok k ∨ k = g) → k < w.heap.size → w'.heap[k]? = w.heap[k]?) : FileAt w' g ok ps := by
  have hlt := h.lt
  obtain ⟨A, c, hb, hc, hF, hg⟩ := h.out
  exact ⟨⟨A, c, (hm g (.inr rfl) hlt).trans hb, hc, Kd.F_step hF (fun k hk hl => hm k (.inl hk) hl), hg⟩⟩
theorem FileAt.below {w w' : World} {g : Nat} {ok : Nat → Prop} {ps : List S52} (h : FileAt w g ok ps) (hb : Below w.heap.size w w') : FileAt w' g ok ps := h.step (fun k _ hl => hb.block k hl)
theorem FileAt.kept {w w' : World} {g : Nat} {ok S : Nat → Prop} {ps : List S52} (h : FileAt w g ok ps) (hk : Fr w w' S) (h1 : ∀ k, ok k → ¬ S k) (h2 : ¬ S g) : FileAt w' g ok ps :=
  h.step (fun k ho hl => hk.2.1 k hl (fun hs => ho.elim (fun h => h1 k h hs) (fun h => h2 (h ▸ hs))))
theorem FileAt.mono {w : World} {g : Nat} {ok ok' : Nat → Prop} {ps : List S52} (h : FileAt w g ok ps) (h1 : ∀ k, ok k → ok' k) (h2 : ¬ ok' g) : FileAt w g ok' ps := by
  obtain ⟨A, c, hb, hc, hF, hg⟩ := h.out
  exact ⟨⟨A, c, hb, hc, Kd.F_mono hF h1, h2⟩⟩
/-- What lies in memory that is there. -/
theorem FileAt.bound {w : World} {g : Nat} {ok : Nat → Prop} {ps : List S52} (h : FileAt w g ok ps) : FileAt w g (fun k => ok k ∧ k < w.heap.size) ps := by
  obtain ⟨A, c, hb, hc, hF, hg⟩ := h.out
  exact ⟨⟨A, c, hb, hc, Kd.F_bound hF, fun h => hg h.1⟩⟩

set_option maxHeartbeats 400000 in
set_option maxRecDepth 100000 in
/-- tidy's closure: is a part empty? -/
theorem tidy1_calls (W : World) (x : S52) (c : List Value) (okx : Nat → Prop) (h : Kd.FK k52 W okx x c) :
    Calls Try.prog 69 #[.agg c.toArray] W fun e w' => e = .returned (.bool (x.f0.length == 0)) ∧ Below W.heap.size W w' := by
  obtain ⟨A0, c0, rfl, hl0, -⟩ := k52_openF h
  have H := Aside0.mk h
  clear h
  have hz : ((x.f0.length : Int) == 0) = (x.f0.length == 0) := by
    rw [Bool.eq_iff_iff]; simp
  have HZ := Aside0.mk hz
  clear hz
  go_enter Try.func69, Try.ntmps69
  go_wp2
  go_ret
  exact ⟨by rw [← HZ.out]; rfl, below_alloc (Below.refl _ _) _⟩

def tidyOf (ps : List S52) : List S52 := ps.filter fun x => !(x.f0.length == 0)

set_option maxHeartbeats 1000000 in
set_option maxRecDepth 100000 in
theorem tidy_calls (g : Nat) (ok : Nat → Prop) (ps : List S52) (w : World) (hf : FileAt w g ok ps) (hl : ps.length ≤ 1000000000) :
    Calls Try.prog 45 #[.pointer (some ⟨g, 0, none⟩)] w fun e w' => e = .returned (.tuple #[]) ∧ Fr w w' (fun k => k = g) ∧
      ∃ A n c, w'.heap[g]? = some (.cells #[.slice A n c] 30 (0, 0)) ∧ Kd.N k52 52 w' w.heap.size (fun k => (ok k ∨ w.heap.size ≤ k) ∧ k ≠ g) (.slice A n c) (tidyOf ps) := by
  have hlt := hf.lt
  obtain ⟨A, c, hb, hc, hF, hg⟩ := hf.out
  have hcell := blk_cell hb 0
  simp at hcell
  have HG := Aside0.mk hg
  have HF := Aside0.mk hF
  have HB := Aside0.mk hb
  have HL := Aside0.mk hlt
  clear hb hF hg hlt
  go_enter Try.func45, Try.ntmps45
  go_wp2_with (first
    | (go_at_call 68; refine (clonePart_calls k52 rfl A ps.length c ps w ok HF.out hc hl).mono ?_; rintro e w1 ⟨v1, rfl, hN, hb1⟩; obtain ⟨A1, c1, rfl⟩ := Kd.N_slice hN; have HN := Aside0.mk hN; have HB1 := Aside0.mk hb1; clear hN hb1)
    | (go_at_call 67; refine (delPart_calls (fun x => x.f0.length == 0) tidy1_calls A1 ps.length c1 ps w1 w.heap.size _ HN.out hl).mono ?_; rintro e w2 ⟨m, rfl, hN2, hk2⟩; have hb2 := blk_kept (blk_below HB.out HB1.out) hk2.kept (fun he => by have := Kd.N_base HN.out g he.symm; have := HL.out; omega); have hcell2 := blk_cell hb2 0; have hfr2 := blk_frozen hb2 0; simp at hcell2; have HN2 := Aside0.mk hN2; have HK2 := Aside0.mk hk2; have HB2 := Aside0.mk hb2; clear hN2 hk2 hb2))
  go_end0
  have hK : Fr w w2 (fun _ => False) := Fr.then_ (Fr.of_below HB1.out _) HK2.out (fun k hk => .inr (Kd.N_base HN.out k hk.symm))
  refine ⟨rfl, Fr.setCell (S := fun k => k = g) (p := ⟨g, 0, none⟩) (hK.mono (fun _ h => h.elim)) (.inl rfl) _, A1, m, c1, blk_put HB2.out 0 _ rfl, ?_⟩
  have hN3 := Kd.N_mono HN2.out (ok' := fun k => (ok k ∨ w.heap.size ≤ k) ∧ k ≠ g) (fun k hk => ⟨hk, fun he => by
    subst he
    rcases hk with h | h
    · exact HG.out h
    · have := HL.out; omega⟩)
  exact Kd.N_far (p := ⟨g, 0, none⟩) hN3 (fun _ hk => hk.2) _
end Go.Proofs.Ytbpnbhccdpobpaa
