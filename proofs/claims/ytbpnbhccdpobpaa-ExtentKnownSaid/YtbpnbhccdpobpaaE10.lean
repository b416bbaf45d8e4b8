import Derived.Test.YtbpnbhccdpobpaaE9
/-! The plain layer, on. -/
set_option linter.unusedVariables false
set_option linter.unusedSimpArgs false
namespace Go.Proofs.Ytbpnbhccdpobpaa
open Go.RowKit Go.Proofs.YtbpnbhccdpobpaaW.PrintWords PExtentKnown

theorem sameb_from (xs : List Int) (hl : xs.length ≤ 1000000000000) (d : Nat) : ∀ (k i : Nat), i + d = xs.length → d < k → chartroomkit_SameBytes.l0 k xs xs (i : Int) = some true := by
  induction d with
  | zero =>
    intro k i hi hk
    obtain ⟨k, rfl⟩ : ∃ m, k = m + 1 := ⟨k - 1, by omega⟩
    simp only [chartroomkit_SameBytes.l0]
    rw [if_neg (by omega)]
  | succ d ih =>
    intro k i hi hk
    obtain ⟨k, rfl⟩ : ∃ m, k = m + 1 := ⟨k - 1, by omega⟩
    simp only [chartroomkit_SameBytes.l0]
    rw [if_pos (by omega), if_pos (by omega), if_pos (by omega), if_true, w64 (by omega), ih k (i + 1) (by omega) (by omega)]
theorem sameb_at (xs : List Int) (hl : xs.length ≤ 1000000000000) (k : Nat) (hk : xs.length < k) : chartroomkit_SameBytes.f k xs xs = some true := by
  unfold chartroomkit_SameBytes.f
  rw [if_pos rfl]
  exact sameb_from xs hl xs.length k 0 (by omega) hk
theorem sameb_ev (xs : List Int) (hl : xs.length ≤ 1000000000000) : Ev (fun k => chartroomkit_SameBytes.f k xs xs) true := ⟨xs.length + 1, fun k hk => sameb_at xs hl k (by omega)⟩
theorem same_from (xs : List S85) (h : Few xs) (d : Nat) : ∀ (k i : Nat), i + d = xs.length → d + 1000001 < k → chartroomlaw07_same.l0 k (i : Int) xs xs = some true := by
  have hl := h.len
  induction d with
  | zero =>
    intro k i hi hk
    obtain ⟨k, rfl⟩ : ∃ m, k = m + 1 := ⟨k - 1, by omega⟩
    simp only [chartroomlaw07_same.l0]
    rw [if_neg (by omega)]
  | succ d ih =>
    intro k i hi hk
    obtain ⟨k, rfl⟩ : ∃ m, k = m + 1 := ⟨k - 1, by omega⟩
    have hlt : i < xs.length := by omega
    have he := h.each _ (List.getElem_mem hlt)
    simp only [chartroomlaw07_same.l0]
    rw [if_pos (by omega), if_pos (by omega), if_pos (by omega), if_neg (by simp), rdR hlt, sameb_at _ (by omega) k (by omega)]
    simp only [Option.bind_some, if_true]
    rw [w64 (by omega), ih k (i + 1) (by omega) (by omega)]
theorem same_ev (xs : List S85) (h : Few xs) : Ev (fun k => chartroomlaw07_same.f k xs xs) true :=
  ⟨xs.length + 1000002, fun k hk => by
    show (if (xs.length : Int) = (xs.length : Int) then chartroomlaw07_same.l0 k 0 xs xs else some false) = some true
    rw [if_pos rfl]
    exact same_from xs h xs.length k 0 (by omega) (by omega)⟩
theorem ref_from (ps : List S52) (h : Few (ps.map toR)) (d : Nat) : ∀ (k i : Nat), i + d = ps.length → d < k → chartroomlaw07_ref.l0 k (i : Int) ps ((ps.take i).map toR) = some (ps.map toR) := by
  have hl := h.len
  rw [List.length_map] at hl
  induction d with
  | zero =>
    intro k i hi hk
    obtain ⟨k, rfl⟩ : ∃ m, k = m + 1 := ⟨k - 1, by omega⟩
    simp only [chartroomlaw07_ref.l0]
    rw [if_neg (by omega), List.take_of_length_le (by omega)]
  | succ d ih =>
    intro k i hi hk
    obtain ⟨k, rfl⟩ : ∃ m, k = m + 1 := ⟨k - 1, by omega⟩
    have hlt : i < ps.length := by omega
    have he : ps[i].f0.length ≤ 1000000 := h.each (toR ps[i]) (List.mem_map_of_mem (List.getElem_mem hlt))
    simp only [chartroomlaw07_ref.l0]
    rw [if_pos (by omega), if_pos (by omega), rdP hlt, kown_eq _ he]
    simp only [Option.bind_some]
    rw [if_pos (by rw [List.length_map, List.length_take]; omega), w64 (by omega), show (ps.take i).map toR ++ [(⟨ps[i].f0, ps[i].f1⟩ : S85)] = (ps.take (i + 1)).map toR by rw [List.take_succ_eq_append_getElem hlt, List.map_append]; rfl]
    exact ih k (i + 1) (by omega) (by omega)
theorem ref_ev (ps : List S52) (h : Few (ps.map toR)) : Ev (fun k => chartroomlaw07_ref.f k ps) (ps.map toR) :=
  ⟨ps.length + 1, fun k hk => ref_from ps h ps.length k 0 (by omega) (by omega)⟩
theorem spoil_from (d : Nat) : ∀ (k i : Nat) (xs : List Int), i + d = xs.length → xs.length ≤ 1000000000000 → d < k → ∃ r, chartroomkit_Spoil.l0 k xs (i : Int) = some r := by
  induction d with
  | zero =>
    intro k i xs hi hl hk
    obtain ⟨k, rfl⟩ : ∃ m, k = m + 1 := ⟨k - 1, by omega⟩
    simp only [chartroomkit_Spoil.l0]
    rw [if_neg (by omega)]
    exact ⟨_, rfl⟩
  | succ d ih =>
    intro k i xs hi hl hk
    obtain ⟨k, rfl⟩ : ∃ m, k = m + 1 := ⟨k - 1, by omega⟩
    simp only [chartroomkit_Spoil.l0]
    rw [if_pos (by omega), if_pos (by omega), w64 (by omega)]
    exact ih k (i + 1) _ (by rw [List.length_set]; omega) (by rw [List.length_set]; omega) (by omega)
theorem spoil_at (xs : List Int) (hl : xs.length ≤ 1000000000000) (k : Nat) (hk : xs.length < k) : ∃ r, chartroomkit_Spoil.f k xs = some r := spoil_from xs.length k 0 xs (by omega) hl hk
/-- The file is the reference's. -/
theorem is_ev (ps : List S52) (h : Few (ps.map toR)) : Ev (fun k => chartroomlaw07_is.f k ps (ps.map toR)) true := by
  obtain ⟨K1, h1⟩ := ebytes_ev ps h
  obtain ⟨K2, h2⟩ := ref_ev ps h
  obtain ⟨K3, h3⟩ := same_ev _ h
  obtain ⟨K4, h4⟩ := rbytes_ev _ h
  have hc := h.cont
  obtain ⟨K5, h5⟩ := sameb_ev (cont (ps.map toR)) (by omega)
  obtain ⟨K6, h6⟩ := elen_ev ps h
  obtain ⟨K7, h7⟩ := evol_ev ps h
  obtain ⟨K8, h8⟩ := rvol_ev _ h
  refine ⟨K1 + K2 + K3 + K4 + K5 + K6 + K7 + K8 + (cont (ps.map toR)).length + 2, fun k hk => ?_⟩
  obtain ⟨k, rfl⟩ : ∃ m, k = m + 1 := ⟨k - 1, by omega⟩
  obtain ⟨r, hr⟩ := spoil_at (cont (ps.map toR)) (by omega) k (by omega)
  have g1 : ∀ m, k ≤ m → extent_File_Bytes.f m ps = some (cont (ps.map toR)) := fun m hm => h1 m (by omega)
  have g2 : chartroomlaw07_ref.f (k + 1) ps = some (ps.map toR) := h2 _ (by omega)
  have g3 : chartroomlaw07_same.f (k + 1) (ps.map toR) (ps.map toR) = some true := h3 _ (by omega)
  have g4 : ∀ m, k ≤ m → chartroomref07_Bytes.f m (ps.map toR) = some (cont (ps.map toR)) := fun m hm => h4 m (by omega)
  have g5 : ∀ m, k ≤ m → chartroomkit_SameBytes.f m (cont (ps.map toR)) (cont (ps.map toR)) = some true := fun m hm => h5 m (by omega)
  have g6 : extent_File_Len.f (k + 1) ps = some ((cont (ps.map toR)).length : Int) := h6 _ (by omega)
  have g7 : extent_File_Volatile.f (k + 1) ps = some (volOf (ps.map toR) : Int) := h7 _ (by omega)
  have g8 : chartroomref07_Volatile.f (k + 1) (ps.map toR) = some (volOf (ps.map toR) : Int) := h8 _ (by omega)
  show chartroomlaw07_is.f (k + 1) ps (ps.map toR) = some true
  simp only [chartroomlaw07_is.f, g1 (k + 1) (by omega), g2, g3, g4 (k + 1) (by omega), g5 (k + 1) (by omega), g6, g7, g8, Option.bind_some, if_true, chartroomlaw07_is.j0, beq_self_eq_true, hr, g1 k (Nat.le_refl _), g4 k (Nat.le_refl _), g5 k (Nat.le_refl _)]
/-- few: if it says so, they are. -/
theorem few_from (l : List S40) (top : Nat) (ht : top ≤ 99) (d : Nat) : ∀ (k i : Nat), i + d = 100 → 2 * d + 2 < k → (∀ j, (hj : j < l.length) → j < i → l[j].f1.length ≤ 30 ∧ l[j].f2.length ≤ 30) →
    ∃ b, chartroomlaw07_few.l0 k l (top : Int) (i : Int) = some b ∧ (b = true → l.length ≤ top ∧ ∀ x ∈ l, x.f1.length ≤ 30 ∧ x.f2.length ≤ 30) := by
  have fin : ∀ (i : Nat), l.length ≤ i ∨ 100 ≤ i → (∀ j, (hj : j < l.length) → j < i → l[j].f1.length ≤ 30 ∧ l[j].f2.length ≤ 30) → (decide ((l.length : Int) ≤ (top : Int)) = true → l.length ≤ top ∧ ∀ x ∈ l, x.f1.length ≤ 30 ∧ x.f2.length ≤ 30) := by
    intro i hi hall hd
    have h1 : l.length ≤ top := by have := of_decide_eq_true hd; omega
    refine ⟨h1, fun x hx => ?_⟩
    obtain ⟨j, hj, rfl⟩ := List.getElem_of_mem hx
    exact hall j hj (by omega)
  induction d with
  | zero =>
    intro k i hi hk hall
    obtain ⟨k, rfl⟩ : ∃ m, k = m + 1 + 1 := ⟨k - 2, by omega⟩
    simp only [chartroomlaw07_few.l0]
    by_cases h : (i : Int) < (l.length : Int)
    · rw [if_pos h, decide_eq_false (by omega)]
      simp only [chartroomlaw07_few.j1]
      exact ⟨_, rfl, fin i (.inr (by omega)) hall⟩
    · rw [if_neg h]
      simp only [chartroomlaw07_few.j1]
      exact ⟨_, rfl, fin i (.inr (by omega)) hall⟩
  | succ d ih =>
    intro k i hi hk hall
    obtain ⟨k, rfl⟩ : ∃ m, k = m + 1 + 1 := ⟨k - 2, by omega⟩
    simp only [chartroomlaw07_few.l0]
    by_cases h : (i : Int) < (l.length : Int)
    · have hlt : i < l.length := by omega
      have hr : rd_T40 l (i : Int) = l[i] := by unfold rd_T40; rw [Int.toNat_natCast, List.getD_eq_getElem?_getD, List.getElem?_eq_getElem hlt]; rfl
      rw [if_pos h, decide_eq_true (by omega)]
      simp only [chartroomlaw07_few.j1, if_true]
      rw [if_pos (by omega), if_pos h, hr]
      by_cases h1 : (l[i].f1.length : Int) > 30
      · rw [if_pos h1]; exact ⟨false, rfl, fun h => by cases h⟩
      · rw [if_neg h1]
        by_cases h2 : (l[i].f2.length : Int) > 30
        · rw [if_pos h2]; exact ⟨false, rfl, fun h => by cases h⟩
        · rw [if_neg h2, w64 (by omega)]
          refine ih k (i + 1) (by omega) (by omega) (fun j hj hji => ?_)
          rcases Nat.lt_or_ge j i with h3 | h3
          · exact hall j hj h3
          · obtain rfl : j = i := by omega
            exact ⟨by omega, by omega⟩
    · rw [if_neg h]
      simp only [chartroomlaw07_few.j1]
      exact ⟨_, rfl, fin i (.inl (by omega)) hall⟩
theorem few_at (l : List S40) (top : Nat) (ht : top ≤ 99) : ∃ b, chartroomlaw07_few.f 203 l (top : Int) = some b ∧ (b = true → l.length ≤ top ∧ ∀ x ∈ l, x.f1.length ≤ 30 ∧ x.f2.length ≤ 30) :=
  few_from l top ht 100 203 0 rfl (by omega) (fun j _ hj => absurd hj (Nat.not_lt_zero _))
end Go.Proofs.Ytbpnbhccdpobpaa
