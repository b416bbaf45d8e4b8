import Derived.WalkKit
import Derived.Laws.Cover1
/-! Two strings, compared by '>': the other one is less. -/
set_option linter.unusedVariables false
set_option linter.unusedSimpArgs false
namespace Go.Proofs.Ytbpnbhccdpobpaa
open Go Go.RowKit

theorem less_flip : ∀ (x y : List UInt8), (!(Op.bytesLess x y || x == y)) = Op.bytesLess y x
  | [], [] => rfl
  | [], _ :: _ => rfl
  | _ :: _, [] => rfl
  | a :: x, b :: y => by
    have ih := less_flip x y
    show (!((decide (a < b) || (a == b && Op.bytesLess x y)) || (a :: x == b :: y))) = (decide (b < a) || (b == a && Op.bytesLess y x))
    rw [← ih]
    rcases Nat.lt_trichotomy a.toNat b.toNat with h | h | h
    · have h1 : a < b := UInt8.lt_iff_toNat_lt.mpr h
      have h2 : ¬ b < a := fun hh => by have := UInt8.lt_iff_toNat_lt.mp hh; omega
      have h3 : b ≠ a := fun hh => by subst hh; omega
      have h4 : (b == a) = false := beq_eq_false_iff_ne.mpr h3
      simp [h1, h2, h4]
    · obtain rfl : a = b := UInt8.toNat_inj.mp h
      have h2 : ¬ a < a := fun hh => by have := UInt8.lt_iff_toNat_lt.mp hh; omega
      simp [h2]
    · have h1 : ¬ a < b := fun hh => by have := UInt8.lt_iff_toNat_lt.mp hh; omega
      have h2 : b < a := UInt8.lt_iff_toNat_lt.mpr h
      have h3 : a ≠ b := fun hh => by subst hh; omega
      have h4 : (a == b) = false := beq_eq_false_iff_ne.mpr h3
      simp [h1, h2, h4, h3]
theorem gtr_less (t : TypeId) (a b : ByteArray) : binOp .gtr t (.string a) (.string b) = pure (.bool (Op.bytesLess b.toList a.toList)) := by
  rw [binOp_string_gtr, less_flip]
end Go.Proofs.Ytbpnbhccdpobpaa
