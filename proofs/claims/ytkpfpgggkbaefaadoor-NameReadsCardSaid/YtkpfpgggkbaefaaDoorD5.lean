import Derived.Test.YtkpfpgggkbaefaaDoorD3
import Derived.Test.YtkpfpgggkbaefaaDoorB5
/-! The reference's Parse in plain Lean: the first of the four kinds whose name the text is. -/
set_option linter.unusedVariables false
set_option linter.unusedSimpArgs false
namespace Go.Proofs.YtkpfpgggkbaefaaDoor
open Go.RowKit Go.Lib Plain

def nval (w : List UInt8) : Nat := wrapVal 0 (w.take 20)
theorem nval_lt (w : List UInt8) : nval w < 18446744073709551616 := wrapVal_lt _ 0 (by decide)
theorem okNum_some {w : List UInt8} (h : okNum w = true) : numOf w = some (nval w) := by
  have h1 : decDigits (wrapVal 0 (w.take 20)) = w := of_decide_eq_true h
  obtain ⟨u, hu⟩ := (number_is w).1.mp h1
  rw [hu]
  exact congrArg some ((number_is w).2 u hu).symm
theorem okNum_none {w : List UInt8} (h : okNum w = false) : numOf w = none := by
  cases hn : numOf w with
  | none => rfl
  | some u =>
    have h1 : decDigits (wrapVal 0 (w.take 20)) = w := (number_is w).1.mpr ⟨u, hn⟩
    exact absurd h1 (of_decide_eq_false h)
theorem nval_dec {u : Nat} (h : u < 18446744073709551616) : nval (decDigits u) = u ∧ okNum (decDigits u) = true := by
  have hs : numOf (decDigits u) = some u := numOf_some.mpr ⟨h, rfl⟩
  exact ⟨(number_is _).2 u hs, decide_eq_true ((number_is _).1.mpr ⟨u, hs⟩)⟩
/-- The Name of the kind j + 1 with these numbers. -/
def cand (L : List Nat) (j : Nat) : Nm := ofN (j + 1) (L.getD 0 0) (L.getD 1 0) (L.getD 2 0) (L.getD 3 0)
theorem getD_lt {L : List Nat} (h : ∀ x ∈ L, x < 18446744073709551616) (i : Nat) : L.getD i 0 < 18446744073709551616 := by
  rw [List.getD_eq_getElem?_getD]
  cases hg : L[i]? with
  | none => decide
  | some x => exact h x (List.mem_of_getElem? hg)
theorem cand_may (L : List Nat) {j : Nat} (hj : j < 4) (h : ∀ x ∈ L, x < 18446744073709551616) : mayB (cand L j) = true ∧ (cand L j).Fits := by
  have z : (0 : Nat) < 18446744073709551616 := by decide
  have g0 := getD_lt h 0
  have g1 := getD_lt h 1
  have g2 := getD_lt h 2
  have g3 := getD_lt h 3
  have h4 : j = 0 ∨ j = 1 ∨ j = 2 ∨ j = 3 := by omega
  rcases h4 with rfl | rfl | rfl | rfl
  · exact ⟨by show mayB ⟨1, _, _, 0, 0, 0⟩ = true; rw [may_of]; simp, ⟨by show (1 : Nat) < 256; decide, g0, g1, z, z, z⟩⟩
  · exact ⟨by show mayB ⟨2, _, _, 0, 0, 0⟩ = true; rw [may_of]; simp, ⟨by show (2 : Nat) < 256; decide, g0, g1, z, z, z⟩⟩
  · exact ⟨by show mayB ⟨3, 0, 0, _, _, _⟩ = true; rw [may_of]; simp, ⟨by show (3 : Nat) < 256; decide, z, z, g0, g1, g2⟩⟩
  · exact ⟨by show mayB ⟨4, _, 0, _, _, _⟩ = true; rw [may_of]; simp, ⟨by show (4 : Nat) < 256; decide, g0, z, g1, g2, g3⟩⟩
theorem parse_cand_some {s : List UInt8} {L : List Nat} {j : Nat} (hj : j < 4) (h : ∀ x ∈ L, x < 18446744073709551616) (hp : putB (cand L j) = s) : parseB s = some (cand L j) := by
  obtain ⟨h1, h2⟩ := cand_may L hj h
  rw [← hp]
  exact parse_put h1 h2
theorem parse_words {s : List UInt8} {a : Nm} (h : parseB s = some a) : (Plain.cut s).tail = (numL a).map decDigits ∧ (∀ x ∈ numL a, x < 18446744073709551616) ∧ mayB a = true ∧ putB a = s := by
  obtain ⟨hm, hp, hf⟩ := put_parse h
  refine ⟨?_, num_fits hf, hm, hp⟩
  rw [← hp, cut_put hm]
  rfl
theorem parse_none_bad {s w : List UInt8} (hw : w ∈ (Plain.cut s).tail) (hb : okNum w = false) : parseB s = none := by
  cases hp : parseB s with
  | none => rfl
  | some a =>
    obtain ⟨h1, h2, _, _⟩ := parse_words hp
    rw [h1] at hw
    obtain ⟨u, hu, rfl⟩ := List.mem_map.mp hw
    rw [(nval_dec (h2 u hu)).2] at hb
    cases hb
theorem parse_none_len {s : List UInt8} (h : (Plain.cut s).tail.length < 2 ∨ 4 < (Plain.cut s).tail.length) : parseB s = none := by
  cases hp : parseB s with
  | none => rfl
  | some a =>
    obtain ⟨h1, _, h3, _⟩ := parse_words hp
    rw [h1, List.length_map, numL_len] at h
    unfold cntOf at h
    split at h
    · omega
    · split at h <;> omega
theorem parse_none_cand {s : List UInt8} {L : List Nat} (hL : L = (Plain.cut s).tail.map nval) (h : ∀ j, j < 4 → putB (cand L j) ≠ s) : parseB s = none := by
  cases hp : parseB s with
  | none => rfl
  | some a =>
    obtain ⟨h1, h2, h3, h4⟩ := parse_words hp
    have hk : 1 ≤ a.kd ∧ a.kd ≤ 4 := by rcases mayB_kd h3 with e | e | e | e <;> omega
    have hl : L = numL a := by
      rw [hL, h1, List.map_map]
      have : ∀ x ∈ numL a, (nval ∘ decDigits) x = x := fun x hx => (nval_dec (h2 x hx)).1
      rw [List.map_congr_left this, List.map_id']
    have hc : cand L (a.kd - 1) = a := by
      unfold cand
      rw [hl, show a.kd - 1 + 1 = a.kd by omega]
      exact of_numL h3
    exact absurd (by rw [hc]; exact h4) (h (a.kd - 1) (by omega))
end Go.Proofs.YtkpfpgggkbaefaaDoor
