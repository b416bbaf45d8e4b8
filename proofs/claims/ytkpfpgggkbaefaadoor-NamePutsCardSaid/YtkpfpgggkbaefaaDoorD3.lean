import Derived.Test.YtkpfpgggkbaefaaDoorA5
import Derived.Test.YtkpfpgggkbaefaaDoorA6
/-! Names in plain Lean: what is put is parsed as it was; what is parsed is put as it was. -/
set_option linter.unusedVariables false
set_option linter.unusedSimpArgs false
namespace Go.Proofs.YtkpfpgggkbaefaaDoor
open Go.RowKit Go.Lib Plain

theorem numsOf_some : ∀ (r : List (List UInt8)) (l : List Nat), numsOf r = some l ↔ (r = l.map decDigits ∧ ∀ x ∈ l, x < 18446744073709551616)
  | [], l => by
    constructor
    · intro h
      injection h with h
      subst h
      simp
    · rintro ⟨h, _⟩
      cases l with
      | nil => rfl
      | cons a b => cases h
  | w :: r, l => by
    have ih := numsOf_some r
    constructor
    · intro h
      simp only [numsOf] at h
      cases hw : numOf w with
      | none => rw [hw] at h; cases h
      | some x =>
        cases hr : numsOf r with
        | none => rw [hw, hr] at h; cases h
        | some b =>
          rw [hw, hr] at h
          simp only [Option.some.injEq] at h
          subst h
          obtain ⟨h1, h2⟩ := (ih b).mp hr
          obtain ⟨h3, h4⟩ := numOf_some.mp hw
          refine ⟨by rw [List.map_cons, ← h1, ← h4], ?_⟩
          intro y hy
          rcases List.mem_cons.mp hy with rfl | hy
          · exact h3
          · exact h2 y hy
    · rintro ⟨h1, h2⟩
      cases l with
      | nil => cases h1
      | cons x b =>
        rw [List.map_cons] at h1
        injection h1 with h3 h4
        simp only [numsOf]
        rw [numOf_some.mpr ⟨h2 x (by simp), h3⟩, (ih b).mpr ⟨h4, fun y hy => h2 y (by simp [hy])⟩]
theorem kindOf_head {k : Nat} (h : k = 1 ∨ k = 2 ∨ k = 3 ∨ k = 4) : kindOf [headOf k] = k := by
  rcases h with rfl | rfl | rfl | rfl <;> decide
theorem head_kindOf {h : List UInt8} (h0 : kindOf h ≠ 0) : [headOf (kindOf h)] = h := by
  unfold kindOf at h0 ⊢
  repeat' split
  all_goals simp_all [headOf]
theorem head_stroke (k : Nat) : (45 : UInt8) ∉ [headOf k] := by
  unfold headOf
  repeat' split
  all_goals decide
theorem numL_len {a : Nm} : (numL a).length = cntOf a.kd := by
  unfold numL cntOf
  rw [List.length_take]
  simp only [List.length_cons, List.length_nil]
  repeat' split
  all_goals rfl
theorem cut_put {a : Nm} (h : mayB a = true) : Plain.cut (putB a) = [headOf a.kd] :: (numL a).map decDigits := by
  unfold putB
  rw [if_pos h]
  refine cut_glue _ (by simp) ?_
  intro w hw
  rcases List.mem_cons.mp hw with rfl | hw
  · exact head_stroke _
  · obtain ⟨x, _, rfl⟩ := List.mem_map.mp hw
    exact dec_stroke x
theorem of_numL {a : Nm} (h : mayB a = true) : ofN a.kd ((numL a).getD 0 0) ((numL a).getD 1 0) ((numL a).getD 2 0) ((numL a).getD 3 0) = a := by
  have h1 := (of_decide_eq_true h).2.2
  have hk := mayB_kd h
  obtain ⟨kd, d, n, p, i, k⟩ := a
  simp only at hk h1
  rw [← h1]
  rcases hk with rfl | rfl | rfl | rfl <;> simp [numL, cntOf, ofN, num0, num1, num2, num3]
theorem parse_put {a : Nm} (h : mayB a = true) (hf : a.Fits) : parseB (putB a) = some a := by
  have hk := mayB_kd h
  unfold parseB
  rw [cut_put h]
  simp only
  rw [kindOf_head hk, if_neg (by omega), List.length_map, numL_len, if_pos rfl, (numsOf_some _ _).mpr ⟨rfl, num_fits hf⟩]
  simp only
  rw [of_numL h]
theorem of_may {k l0 l1 l2 l3 : Nat} (hk : k = 1 ∨ k = 2 ∨ k = 3 ∨ k = 4) (h2 : k ≠ 4 → l3 = 0) (h3 : k = 1 ∨ k = 2 → l2 = 0) : mayB (ofN k l0 l1 l2 l3) = true ∧ (ofN k l0 l1 l2 l3).kd = k ∧ numL (ofN k l0 l1 l2 l3) = [l0, l1, l2, l3].take (cntOf k) := by
  rcases hk with rfl | rfl | rfl | rfl
  · have := h2 (by decide); have := h3 (by decide); subst_vars; simp [mayB, ofN, num0, num1, num2, num3, numL, cntOf]
  · have := h2 (by decide); have := h3 (by decide); subst_vars; simp [mayB, ofN, num0, num1, num2, num3, numL, cntOf]
  · have := h2 (by decide); subst_vars; simp [mayB, ofN, num0, num1, num2, num3, numL, cntOf]
  · simp [mayB, ofN, num0, num1, num2, num3, numL, cntOf]
theorem list_take_getD {l : List Nat} {c : Nat} (h : l.length = c) (hc : c = 2 ∨ c = 3 ∨ c = 4) : [l.getD 0 0, l.getD 1 0, l.getD 2 0, l.getD 3 0].take c = l ∧ (c ≠ 4 → l.getD 3 0 = 0) ∧ (c = 2 → l.getD 2 0 = 0) := by
  rcases hc with rfl | rfl | rfl
  · match l, h with
    | [a, b], _ => simp
  · match l, h with
    | [a, b, c], _ => simp
  · match l, h with
    | [a, b, c, d], _ => simp
theorem put_parse {s : List UInt8} {a : Nm} (h : parseB s = some a) : mayB a = true ∧ putB a = s ∧ a.Fits := by
  unfold parseB at h
  cases hc : Plain.cut s with
  | nil => exact absurd hc (cut_ne _)
  | cons w r =>
    rw [hc] at h
    simp only at h
    split at h
    · cases h
    · rename_i hk0
      split at h
      · rename_i hlen
        cases hn : numsOf r with
        | none => rw [hn] at h; cases h
        | some l =>
          rw [hn] at h
          simp only [Option.some.injEq] at h
          obtain ⟨h1, h2⟩ := (numsOf_some r l).mp hn
          have hk : kindOf w = 1 ∨ kindOf w = 2 ∨ kindOf w = 3 ∨ kindOf w = 4 := by have := kindOf_le w; omega
          have hll : l.length = cntOf (kindOf w) := by rw [← hlen, h1, List.length_map]
          have hcc : cntOf (kindOf w) = 2 ∨ cntOf (kindOf w) = 3 ∨ cntOf (kindOf w) = 4 := by
            rcases hk with hk | hk | hk | hk <;> rw [hk] <;> decide
          obtain ⟨g1, g2, g3⟩ := list_take_getD hll hcc
          obtain ⟨m1, m2, m3⟩ := of_may (l0 := l.getD 0 0) (l1 := l.getD 1 0) (l2 := l.getD 2 0) (l3 := l.getD 3 0) hk (fun hne => g2 (by rcases hk with hk | hk | hk | hk <;> rw [hk] at hne ⊢ <;> first | decide | exact absurd rfl hne)) (fun he => g3 (by rcases he with he | he <;> rw [he] <;> decide))
          rw [h] at m1 m2 m3
          rw [g1] at m3
          refine ⟨m1, ?_, ?_⟩
          · unfold putB
            rw [if_pos m1, m2, m3, head_kindOf hk0, ← h1, ← hc]
            exact glue_cut s
          · have hx : ∀ j, l.getD j 0 < 18446744073709551616 := fun j => by
              rcases Nat.lt_or_ge j l.length with hj | hj
              · rw [List.getD_eq_getElem?_getD, List.getElem?_eq_getElem hj]
                exact h2 _ (List.getElem_mem hj)
              · rw [List.getD_eq_getElem?_getD, List.getElem?_eq_none hj]
                decide
            have x0 := hx 0; have x1 := hx 1; have x2 := hx 2; have x3 := hx 3
            rw [← h]
            unfold ofN
            have hk4 : kindOf w ≤ 4 := by omega
            split
            · exact ⟨by show kindOf w < 256; omega, x0, x1, by show (0 : Nat) < _; decide, by show (0 : Nat) < _; decide, by show (0 : Nat) < _; decide⟩
            · split
              · exact ⟨by show (3 : Nat) < 256; decide, by show (0 : Nat) < _; decide, by show (0 : Nat) < _; decide, x0, x1, x2⟩
              · exact ⟨by show kindOf w < 256; omega, x0, by show (0 : Nat) < _; decide, x1, x2, x3⟩
      · cases h
theorem put_none_empty {a : Nm} (h : mayB a = false) : putB a = [] := by unfold putB; rw [h]; rfl
theorem cmpN_zero (a b : Nat) : cmpN a b = 0 ↔ a = b := by
  unfold cmpN
  split
  · constructor
    · intro h; cases h
    · omega
  · split
    · constructor
      · intro h; cases h
      · omega
    · constructor
      · omega
      · intro _; rfl
theorem cmpN_neg (a b : Nat) : cmpN b a = - cmpN a b := by
  unfold cmpN
  rcases Nat.lt_trichotomy a b with h | h | h
  · simp [h, show ¬ b < a by omega]
  · simp [h]
  · simp [h, show ¬ a < b by omega]
theorem orL_zero : ∀ (l : List Int), orL l = 0 ↔ ∀ x ∈ l, x = 0
  | [] => by simp [orL]
  | c :: r => by
    simp only [orL]
    split
    · rename_i h
      rw [orL_zero r]
      simp [h]
    · rename_i h
      simp [h]
theorem orL_neg : ∀ (l : List Int), orL (l.map (- ·)) = - orL l
  | [] => rfl
  | c :: r => by
    simp only [List.map_cons, orL]
    split
    · rename_i h
      rw [if_pos (by omega), orL_neg r]
    · rename_i h
      rw [if_neg (by omega)]
theorem cmpNm_zero (a b : Nm) : cmpNm a b = 0 ↔ a = b := by
  unfold cmpNm
  rw [orL_zero]
  simp only [List.mem_cons, List.not_mem_nil, or_false, forall_eq_or_imp, forall_eq, cmpN_zero]
  obtain ⟨a1, a2, a3, a4, a5, a6⟩ := a
  obtain ⟨b1, b2, b3, b4, b5, b6⟩ := b
  simp only [Nm.mk.injEq]
theorem cmpNm_neg (a b : Nm) : cmpNm b a = - cmpNm a b := by
  unfold cmpNm
  rw [← orL_neg]
  simp only [List.map_cons, List.map_nil, ← cmpN_neg]
theorem put_inj {a b : Nm} (ha : mayB a = true) (hb : mayB b = true) (fa : a.Fits) (fb : b.Fits) : putB a = putB b ↔ a = b := by
  constructor
  · intro h
    have h1 := parse_put ha fa
    rw [h, parse_put hb fb] at h1
    injection h1 with h1
    exact h1.symm
  · rintro rfl; rfl
end Go.Proofs.YtkpfpgggkbaefaaDoor
