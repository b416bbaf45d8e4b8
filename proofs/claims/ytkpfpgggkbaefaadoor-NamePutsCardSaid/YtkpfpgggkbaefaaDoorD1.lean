import Derived.Lib.ItoaNum
import Derived.Lib.ParseIntBCases
import Derived.Lib.Split
/-! Chapter 04 in plain Lean: numbers' digits, and what stands between strokes. -/
set_option linter.unusedVariables false
set_option linter.unusedSimpArgs false
namespace Go.Proofs.YtkpfpgggkbaefaaDoor.Plain
open Go.Lib

/-- What digits spell, behind what was there. -/
def valOf (acc : Nat) (l : List UInt8) : Nat := l.foldl (fun a c => a * 10 + (c.toNat - 48)) acc
def AllDig (l : List UInt8) : Prop := ∀ c ∈ l, 48 ≤ c.toNat ∧ c.toNat ≤ 57
theorem valOf_cons (acc : Nat) (c : UInt8) (l : List UInt8) : valOf acc (c :: l) = valOf (acc * 10 + (c.toNat - 48)) l := by unfold valOf; rw [List.foldl_cons]
theorem valOf_append (acc : Nat) (a b : List UInt8) : valOf acc (a ++ b) = valOf (valOf acc a) b := by simp [valOf]
theorem valOf_le : ∀ (l : List UInt8) (acc : Nat), acc ≤ valOf acc l
  | [], acc => Nat.le_refl _
  | c :: r, acc => by
    rw [valOf_cons]
    have := valOf_le r (acc * 10 + (c.toNat - 48))
    omega
theorem dig_toNat {d : Nat} (h : d < 10) : (UInt8.ofNat (48 + d)).toNat = 48 + d := by
  rw [UInt8.toNat_ofNat']
  omega
theorem dec_all (u : Nat) : AllDig (decDigits u) := by
  induction u using Nat.strongRecOn with
  | _ u ih =>
    rw [decDigits]
    split
    · intro c hc
      rw [List.mem_singleton] at hc
      subst hc
      rw [dig_toNat (by omega)]
      omega
    · intro c hc
      rcases List.mem_append.mp hc with hc | hc
      · exact ih (u / 10) (by omega) c hc
      · rw [List.mem_singleton] at hc
        subst hc
        rw [dig_toNat (by omega)]
        omega
theorem val_dec (u : Nat) : valOf 0 (decDigits u) = u := by
  induction u using Nat.strongRecOn with
  | _ u ih =>
    rw [decDigits]
    split
    · show 0 * 10 + ((UInt8.ofNat (48 + u)).toNat - 48) = u
      rw [dig_toNat (by omega)]
      omega
    · rw [valOf_append, ih (u / 10) (by omega)]
      show u / 10 * 10 + ((UInt8.ofNat (48 + u % 10)).toNat - 48) = u
      rw [dig_toNat (by omega)]
      omega
theorem dec_inj {a b : Nat} (h : decDigits a = decDigits b) : a = b := by rw [← val_dec a, ← val_dec b, h]
theorem dec_ne (u : Nat) : decDigits u ≠ [] := by
  intro h
  have h1 := decDigits_length u
  rw [h] at h1
  have := nDigits_pos u
  simp at h1
  omega
theorem nDigits_le (u k : Nat) (h : u < 10 ^ (k + 1)) : nDigits u ≤ k + 1 := by
  induction k generalizing u with
  | zero => rw [nDigits_small (by simpa using h)]; exact Nat.le_refl _
  | succ k ih =>
    by_cases h10 : u < 10
    · rw [nDigits_small h10]; omega
    · rw [nDigits_big h10]
      have := ih (u / 10) (by rw [Nat.pow_succ] at h; omega)
      omega
theorem dec_len {u : Nat} (h : u < 18446744073709551616) : (decDigits u).length ≤ 20 := by
  rw [decDigits_length]
  exact nDigits_le u 19 (by omega)
theorem parse_all : ∀ (l : List UInt8) (acc : Nat), AllDig l → valOf acc l ≤ 18446744073709551615 → parseUintM 18446744073709551615 acc l = .ok (valOf acc l)
  | [], acc, _, _ => rfl
  | c :: r, acc, h, hv => by
    have hc := h c (by simp)
    rw [valOf_cons] at hv ⊢
    have h1 := valOf_le r (acc * 10 + (c.toNat - 48))
    simp only [parseUintM]
    rw [if_pos hc, if_neg (by omega), if_neg (by omega)]
    exact parse_all r _ (fun d hd => h d (by simp [hd])) hv
theorem parse_dec {u : Nat} (h : u < 18446744073709551616) : parseUintB 64 (decDigits u) = .ok u := by
  have e : (2 : Nat) ^ 64 - 1 = 18446744073709551615 := by decide
  unfold parseUintB
  rw [if_neg (dec_ne u), e, parse_all _ 0 (dec_all u) (by rw [val_dec]; omega), val_dec]
theorem parse_lt {l : List UInt8} {u : Nat} (h : parseUintB 64 l = .ok u) : u < 18446744073709551616 := by
  have e : (2 : Nat) ^ 64 - 1 = 18446744073709551615 := by decide
  unfold parseUintB at h
  split at h
  · cases h
  · rw [e] at h
    have := parseUintM_le 18446744073709551615 l 0 u (Nat.zero_le _) h
    omega
/-- The number whose digits these are. -/
def numOf (l : List UInt8) : Option Nat :=
  match parseUintB 64 l with
  | .ok u => if decDigits u = l then some u else none
  | _ => none
theorem numOf_some {l : List UInt8} {u : Nat} : numOf l = some u ↔ u < 18446744073709551616 ∧ l = decDigits u := by
  unfold numOf
  constructor
  · intro h
    cases hp : parseUintB 64 l with
    | ok v =>
      rw [hp] at h
      simp only at h
      split at h
      · rename_i hd
        injection h with h
        subst h
        exact ⟨parse_lt hp, hd.symm⟩
      · cases h
    | _ => rw [hp] at h; cases h
  · rintro ⟨h, rfl⟩
    rw [parse_dec h]
    simp
/-- A number's, brought into a uint64, from at most twenty bytes; as the reference reckons it. -/
def wrapVal (acc : Nat) (l : List UInt8) : Nat := l.foldl (fun a c => (a * 10 + (c.toNat + 208) % 256) % 18446744073709551616) acc
theorem wrapVal_dig : ∀ (l : List UInt8) (acc : Nat), AllDig l → valOf acc l < 18446744073709551616 → wrapVal acc l = valOf acc l
  | [], acc, _, _ => rfl
  | c :: r, acc, h, hv => by
    have hc := h c (by simp)
    rw [valOf_cons] at hv
    have h1 := valOf_le r (acc * 10 + (c.toNat - 48))
    unfold wrapVal
    rw [List.foldl_cons, valOf_cons]
    show wrapVal ((acc * 10 + (c.toNat + 208) % 256) % 18446744073709551616) r = valOf (acc * 10 + (c.toNat - 48)) r
    rw [show (acc * 10 + (c.toNat + 208) % 256) % 18446744073709551616 = acc * 10 + (c.toNat - 48) by omega]
    exact wrapVal_dig r _ (fun d hd => h d (by simp [hd])) hv
theorem wrapVal_lt : ∀ (l : List UInt8) (acc : Nat), acc < 18446744073709551616 → wrapVal acc l < 18446744073709551616
  | [], acc, h => h
  | c :: r, acc, h => by
    unfold wrapVal
    rw [List.foldl_cons]
    exact wrapVal_lt r _ (Nat.mod_lt _ (by decide))
/-- As the reference tells: are they a number's digits, and which one's. -/
theorem number_is (l : List UInt8) : (decDigits (wrapVal 0 (l.take 20)) = l ↔ ∃ u, numOf l = some u) ∧ ∀ u, numOf l = some u → wrapVal 0 (l.take 20) = u := by
  have hu : ∀ u, numOf l = some u → wrapVal 0 (l.take 20) = u := by
    intro u h
    obtain ⟨hlt, rfl⟩ := numOf_some.mp h
    rw [List.take_of_length_le (dec_len hlt), wrapVal_dig _ 0 (dec_all u) (by rw [val_dec]; exact hlt), val_dec]
  refine ⟨⟨fun h => ⟨_, numOf_some.mpr ⟨wrapVal_lt _ 0 (by decide), h.symm⟩⟩, ?_⟩, hu⟩
  rintro ⟨u, h⟩
  rw [hu u h]
  exact (numOf_some.mp h).2.symm
/-- What stands between the strokes. -/
def cut : List UInt8 → List (List UInt8)
  | [] => [[]]
  | c :: r => if c = 45 then [] :: cut r else match cut r with
    | [] => [[c]]
    | h :: t => (c :: h) :: t
theorem cut_ne (l : List UInt8) : cut l ≠ [] := by
  cases l with
  | nil => simp [cut]
  | cons c r =>
    simp only [cut]
    split
    · simp
    · split <;> simp
theorem cut_stroke (r : List UInt8) : cut (45 :: r) = [] :: cut r := by simp [cut]
theorem cut_other {c : UInt8} (h : c ≠ 45) (r : List UInt8) : ∃ a t, cut r = a :: t ∧ cut (c :: r) = (c :: a) :: t := by
  cases hc : cut r with
  | nil => exact absurd hc (cut_ne r)
  | cons a t => exact ⟨a, t, rfl, by simp only [cut]; rw [if_neg h, hc]⟩
theorem cut_word {w : List UInt8} (h : (45 : UInt8) ∉ w) : cut w = [w] := by
  induction w with
  | nil => rfl
  | cons c r ih =>
    obtain ⟨a, t, h1, h2⟩ := cut_other (c := c) (fun he => h (by simp [he])) r
    rw [h2]
    rw [ih (fun hm => h (by simp [hm]))] at h1
    injection h1 with h3 h4
    subst h3; subst h4
    rfl
theorem cut_app {w : List UInt8} (h : (45 : UInt8) ∉ w) (r : List UInt8) : cut (w ++ 45 :: r) = w :: cut r := by
  induction w with
  | nil => exact cut_stroke r
  | cons c w ih =>
    obtain ⟨a, t, h1, h2⟩ := cut_other (c := c) (fun he => h (by simp [he])) (w ++ 45 :: r)
    rw [List.cons_append, h2]
    rw [ih (fun hm => h (by simp [hm]))] at h1
    injection h1 with h3 h4
    subst h3; subst h4
    rfl
/-- Words, with strokes between them. -/
def glue : List (List UInt8) → List UInt8
  | [] => []
  | [w] => w
  | w :: x :: r => w ++ 45 :: glue (x :: r)
theorem glue_cons (w : List UInt8) {r : List (List UInt8)} (h : r ≠ []) : glue (w :: r) = w ++ 45 :: glue r := by
  cases r with
  | nil => exact absurd rfl h
  | cons x r => rfl
theorem glue_cut (l : List UInt8) : glue (cut l) = l := by
  induction l with
  | nil => rfl
  | cons c r ih =>
    by_cases h : c = 45
    · subst h
      rw [cut_stroke, glue_cons _ (cut_ne r), ih]
      rfl
    · obtain ⟨a, t, h1, h2⟩ := cut_other h r
      rw [h2]
      rw [h1] at ih
      cases t with
      | nil => show c :: a = c :: r; rw [show a = r from ih]
      | cons x t => show c :: (a ++ 45 :: glue (x :: t)) = c :: r; rw [show a ++ 45 :: glue (x :: t) = r from ih]
theorem cut_words (l : List UInt8) : ∀ w ∈ cut l, (45 : UInt8) ∉ w := by
  induction l with
  | nil => intro w hw; simp [cut] at hw; subst hw; simp
  | cons c r ih =>
    by_cases h : c = 45
    · subst h
      rw [cut_stroke]
      intro w hw
      rcases List.mem_cons.mp hw with rfl | hw
      · simp
      · exact ih w hw
    · obtain ⟨a, t, h1, h2⟩ := cut_other h r
      rw [h2]
      rw [h1] at ih
      intro w hw
      rcases List.mem_cons.mp hw with rfl | hw
      · intro hm
        rcases List.mem_cons.mp hm with he | hm
        · exact h he.symm
        · exact ih a (by simp) hm
      · exact ih w (by simp [hw])
theorem cut_glue : ∀ (ws : List (List UInt8)), ws ≠ [] → (∀ w ∈ ws, (45 : UInt8) ∉ w) → cut (glue ws) = ws
  | [], h, _ => absurd rfl h
  | [w], _, h => cut_word (h w (by simp))
  | w :: x :: r, _, h => by
    show cut (w ++ 45 :: glue (x :: r)) = _
    rw [cut_app (h w (by simp)), cut_glue (x :: r) (by simp) (fun v hv => h v (by simp [hv]))]
theorem dec_stroke (u : Nat) : (45 : UInt8) ∉ decDigits u := by
  intro h
  have h1 := (dec_all u 45 h).1
  exact absurd h1 (by decide)
end Go.Proofs.YtkpfpgggkbaefaaDoor.Plain
