import Derived.Test.YtkpfpgggkbaefaaDoorD2
/-! What stands between the strokes of a longer text. -/
set_option linter.unusedVariables false
set_option linter.unusedSimpArgs false
namespace Go.Proofs.YtkpfpgggkbaefaaDoor.Plain
open Go.Lib

theorem cut_end_stroke : ∀ (p : List UInt8), Plain.cut (p ++ [45]) = Plain.cut p ++ [[]]
  | [] => rfl
  | c :: p => by
    by_cases hc : c = 45
    · subst hc
      rw [List.cons_append, cut_stroke, cut_stroke, cut_end_stroke p]
      rfl
    · obtain ⟨a, t, h1, h2⟩ := cut_other hc p
      obtain ⟨a', t', h1', h2'⟩ := cut_other hc (p ++ [45])
      rw [List.cons_append, h2', h2]
      rw [cut_end_stroke p, h1] at h1'
      injection h1' with h3 h4
      rw [← h3, ← h4]
      rfl
theorem cut_end_other {x : UInt8} (hx : x ≠ 45) : ∀ (p : List UInt8), ∃ b, Plain.cut p = (Plain.cut p).dropLast ++ [b] ∧ Plain.cut (p ++ [x]) = (Plain.cut p).dropLast ++ [b ++ [x]]
  | [] => ⟨[], rfl, by
      obtain ⟨a, t, h1, h2⟩ := cut_other hx []
      have h3 : Plain.cut [] = [[]] := rfl
      rw [h3] at h1
      injection h1 with h4 h5
      show Plain.cut [x] = _
      rw [h2, ← h4, ← h5]
      rfl⟩
  | c :: p => by
    obtain ⟨b, hb1, hb2⟩ := cut_end_other hx p
    by_cases hc : c = 45
    · subst hc
      refine ⟨b, ?_, ?_⟩
      · rw [cut_stroke, List.dropLast_cons_of_ne_nil (cut_ne p), List.cons_append, ← hb1]
      · rw [List.cons_append, cut_stroke, cut_stroke, List.dropLast_cons_of_ne_nil (cut_ne p), hb2]
        rfl
    · obtain ⟨a, t, h1, h2⟩ := cut_other hc p
      obtain ⟨a', t', h1', h2'⟩ := cut_other hc (p ++ [x])
      rw [hb2, h1] at h1'
      rw [List.cons_append, h2', h2]
      cases t with
      | nil =>
        rw [h1] at hb1
        have e : b = a := by simpa using hb1.symm
        subst e
        have e2 : a' = b ++ [x] ∧ t' = [] := by
          injection h1' with e3 e4
          exact ⟨e3.symm, e4.symm⟩
        rw [e2.1, e2.2]
        exact ⟨c :: b, rfl, rfl⟩
      | cons y t2 =>
        have e : (a :: y :: t2).dropLast = a :: (y :: t2).dropLast := rfl
        rw [e, List.cons_append] at h1'
        injection h1' with e3 e4
        rw [h1, e, List.cons_append] at hb1
        injection hb1 with _ hb3
        refine ⟨b, ?_, ?_⟩
        · show (c :: a) :: y :: t2 = (c :: a) :: ((y :: t2).dropLast ++ [b])
          rw [← hb3]
        · rw [← e3, ← e4]
          rfl
end Go.Proofs.YtkpfpgggkbaefaaDoor.Plain
