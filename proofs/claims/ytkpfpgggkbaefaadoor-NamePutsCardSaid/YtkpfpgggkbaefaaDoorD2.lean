import Derived.Test.YtkpfpgggkbaefaaDoorD1
import Derived.Lib.SplitLaws
/-! What strings.Split cuts is what stands between the strokes; a name's text, read. -/
set_option linter.unusedVariables false
set_option linter.unusedSimpArgs false
namespace Go.Proofs.YtkpfpgggkbaefaaDoor.Plain
open Go.Lib

theorem index_at : ∀ (a r : List UInt8), (45 : UInt8) ∉ a → Lib.index (a ++ 45 :: r) [45] = a.length
  | [], r, _ => by simp [Lib.index]
  | b :: a, r, h => by
    have hb : ¬ (45 : UInt8) = b := fun he => h (by simp [he])
    have ih := index_at a r (fun hm => h (by simp [hm]))
    rw [List.cons_append]
    unfold Lib.index
    rw [if_neg (by simp [List.isPrefixOf, hb]), ih, if_neg (by simp)]
    simp
theorem split_cut : ∀ (n : Nat) (s : List UInt8), s.length ≤ n → Lib.split s [45] = cut s := by
  intro n
  induction n with
  | zero =>
    intro s h
    obtain rfl : s = [] := List.length_eq_zero_iff.mp (by omega)
    rfl
  | succ n ih =>
    intro s h
    by_cases hm : (45 : UInt8) ∈ s
    · obtain ⟨a, r, rfl, ha⟩ := List.eq_append_cons_of_mem hm
      rw [cut_app ha]
      have hc : Lib.count (a ++ 45 :: r) [45] = Lib.count r [45] + 1 := by
        rw [count_one, count_one, List.count_append, List.count_eq_zero.mpr ha, List.count_cons_self]
        omega
      have hi := index_at a r ha
      have hr := ih r (by simp at h; omega)
      unfold Lib.split at hr ⊢
      rw [hc, splitK, if_neg (by rw [hi]; simp), hi]
      have e1 : ((a.length : Int).toNat + 0) = a.length := by omega
      have e2 : ((a.length : Int).toNat + [(45 : UInt8)].length) = a.length + 1 := by simp
      rw [e1, e2, List.take_left]
      have e3 : (a ++ 45 :: r).drop (a.length + 1) = r := by
        rw [show a ++ 45 :: r = (a ++ [45]) ++ r by simp]
        exact List.drop_left' (by simp)
      rw [e3, hr]
    · rw [cut_word hm]
      unfold Lib.split
      rw [count_one, List.count_eq_zero.mpr hm]
      rfl
end Go.Proofs.YtkpfpgggkbaefaaDoor.Plain
