import Derived.Test.YtbpnbhccdpobpaaE12
/-! A file and the reference's beside it, behind two pointers: what each operation leaves. -/
set_option linter.unusedVariables false
set_option linter.unusedSimpArgs false
namespace Go.Proofs.Ytbpnbhccdpobpaa
open Go.RowKit Go.Proofs.YtbpnbhccdpobpaaW.PrintWords PExtentKnown

structure Sys (w0 W : World) (G : Nat → Prop) (g7 g8 : Nat) (ps : List S52) (rs : List S85) : Prop where
  fr : Fr w0 W (fun _ => False)
  ne : g7 ≠ g8
  ge7 : w0.heap.size ≤ g7
  ge8 : w0.heap.size ≤ g8
  in7 : G g7
  in8 : G g8
  file : FileAt W g7 (fun k => w0.heap.size ≤ k ∧ ¬ G k) ps
  ref : ∃ A c, W.heap[g8]? = some (.cells #[.slice A rs.length c] 34 (0, 0)) ∧ rs.length ≤ c ∧ Kd.F k85 W (fun k => w0.heap.size ≤ k ∧ ¬ G k) A rs.length rs
namespace Sys
variable {w0 W W1 : World} {G G' : Nat → Prop} {g7 g8 : Nat} {ps ps' : List S52} {rs rs' : List S85}
theorem lt7 (h : Sys w0 W G g7 g8 ps rs) : g7 < W.heap.size := h.file.lt
theorem lt8 (h : Sys w0 W G g7 g8 ps rs) : g8 < W.heap.size := by obtain ⟨A, c, hb, _⟩ := h.ref; exact blk_lt hb
theorem below (h : Sys w0 W G g7 g8 ps rs) (hb : Below W.heap.size W W1) : Sys w0 W1 G g7 g8 ps rs := by
  obtain ⟨A, c, h1, h2, h3⟩ := h.ref
  exact ⟨h.fr.then_below hb, h.ne, h.ge7, h.ge8, h.in7, h.in8, h.file.below hb, A, c, blk_below h1 hb, h2, Kd.F_mono (Kd.F_below (Kd.F_bound h3) hb) (fun k hk => hk.1)⟩
/-- What is made between two worlds is set aside. -/
theorem reserve (h : Sys w0 W G g7 g8 ps rs) (hb : Below W.heap.size W W1) : Sys w0 W1 (fun k => G k ∨ (W.heap.size ≤ k ∧ k < W1.heap.size)) g7 g8 ps rs := by
  obtain ⟨A, c, h1, h2, h3⟩ := h.ref
  refine ⟨h.fr.then_below hb, h.ne, h.ge7, h.ge8, .inl h.in7, .inl h.in8, (h.file.bound.below hb).mono (fun k hk => ⟨hk.1.1, fun hg => hg.elim hk.1.2 (fun hh => by omega)⟩) (fun hh => hh.2 (.inl h.in7)), A, c, blk_below h1 hb, h2,
    Kd.F_mono (Kd.F_below (Kd.F_bound h3) hb) (fun k hk => ⟨hk.1.1, fun hg => hg.elim hk.1.2 (fun hh => by omega)⟩)⟩
theorem weaken (h : Sys w0 W G g7 g8 ps rs) (hg : ∀ k, G' k → G k) (h7 : G' g7) (h8 : G' g8) : Sys w0 W G' g7 g8 ps rs := by
  obtain ⟨A, c, h1, h2, h3⟩ := h.ref
  exact ⟨h.fr, h.ne, h.ge7, h.ge8, h7, h8, h.file.mono (fun k hk => ⟨hk.1, fun hh => hk.2 (hg k hh)⟩) (fun hh => hh.2 h7), A, c, h1, h2, Kd.F_mono h3 (fun k hk => ⟨hk.1, fun hh => hk.2 (hg k hh)⟩)⟩
/-- What is set aside may be changed, but the two pointers' blocks. -/
theorem touch {S : Nat → Prop} (h : Sys w0 W G g7 g8 ps rs) (hk : Fr W W1 S) (hS : ∀ k, S k → G k ∧ k ≠ g7 ∧ k ≠ g8 ∧ w0.heap.size ≤ k) : Sys w0 W1 G g7 g8 ps rs := by
  have h8 := h.lt8
  obtain ⟨A, c, h1, h2, h3⟩ := h.ref
  refine ⟨h.fr.then_ hk (fun k hs => .inr (hS k hs).2.2.2), h.ne, h.ge7, h.ge8, h.in7, h.in8, h.file.kept hk (fun k ho hs => ho.2 (hS k hs).1) (fun hs => (hS _ hs).2.1 rfl), A, c, (hk.2.1 _ h8 (fun hs => (hS _ hs).2.2.1 rfl)).trans h1, h2, ?_⟩
  exact Kd.F_step h3 (fun k ho hl => hk.2.1 k hl (fun hs => ho.2 (hS k hs).1))
theorem updF (h : Sys w0 W G g7 g8 ps rs) (hk : Fr W W1 (fun k => k = g7)) (hf : FileAt W1 g7 (fun k => ((w0.heap.size ≤ k ∧ ¬ G k) ∨ W.heap.size ≤ k) ∧ k ≠ g7) ps') (hG : ∀ k, G k → k < W.heap.size) : Sys w0 W1 G g7 g8 ps' rs := by
  have h8 := h.lt8
  have hw := h.fr.1
  obtain ⟨A, c, h1, h2, h3⟩ := h.ref
  refine ⟨h.fr.then_ hk (fun k hs => .inr (hs ▸ h.ge7)), h.ne, h.ge7, h.ge8, h.in7, h.in8, hf.mono (fun k hh => ?_) (fun hh => hh.2 h.in7), A, c, (hk.2.1 _ h8 (fun hs => h.ne hs.symm)).trans h1, h2, ?_⟩
  · rcases hh.1 with h4 | h4
    · exact h4
    · exact ⟨by omega, fun hg => by have := hG k hg; omega⟩
  · exact Kd.F_step h3 (fun k ho hl => hk.2.1 k hl (fun hs => ho.2 (hs ▸ h.in7)))
theorem updR {A : Option Addr} {n c : Nat} (h : Sys w0 W G g7 g8 ps rs) (hn : n ≤ c) (hF : Kd.F k85 W (fun k => w0.heap.size ≤ k ∧ ¬ G k) A n rs') : Sys w0 (W.setCell ⟨g8, 0, none⟩ (.slice A n c)) G g7 g8 ps rs' := by
  have hl := Kd.F_len hF
  subst hl
  obtain ⟨A1, c1, h1, _, _⟩ := h.ref
  have hb := blk_set h1 0 (.slice A rs'.length c)
  refine ⟨h.fr.setCell (.inr h.ge8) _, h.ne, h.ge7, h.ge8, h.in7, h.in8, h.file.step (fun k hk hl => Below.heap_setCell _ _ _ _ (fun he => ?_)), A, c, hb, hn, Kd.F_far hF (fun k hk he => hk.2 (he ▸ h.in8)) _⟩
  rcases hk with hk | hk
  · exact hk.2 (he ▸ h.in8)
  · exact h.ne (hk.symm.trans he)
end Sys
end Go.Proofs.Ytbpnbhccdpobpaa
