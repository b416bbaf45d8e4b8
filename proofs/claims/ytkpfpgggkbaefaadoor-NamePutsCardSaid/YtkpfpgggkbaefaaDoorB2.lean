import Derived.Test.YtkpfpgggkbaefaaDoorB1
/-! The reference of chapter 04: Digits, May, Put. -/
set_option linter.unusedVariables false
set_option linter.unusedSimpArgs false
namespace Go.Proofs.YtkpfpgggkbaefaaDoor
open Go.RowKit Go.Proofs.YtkpfpgggkbaefaaDoorW.PrintWords Go.Proofs.YtkpfpgggkbaefaaDoorW.PrintLast Go.Proofs.YtkpfpgggkbaefaaDoorW.PrintMore Go.Lib Plain

theorem conv_dig (W : World) (m : Nat) (hm : m < 18446744073709551616) : (convert 75 9 (.slice (some ⟨W.heap.size, 0, none⟩) 1 1)).run Tryd.prog (W.alloc (.cells #[.int .u8 (48 + (m : Int) % 10)] 5)) = .ok (.string ⟨#[UInt8.ofNat (48 + m % 10)]⟩) (W.alloc (.cells #[.int .u8 (48 + (m : Int) % 10)] 5)) := by
  have h := run_convert_bytes_back (P := Tryd.prog) (W.alloc (.cells #[.int .u8 (48 + (m : Int) % 10)] 5)) 75 9 5 ⟨W.heap.size, 0, none⟩ 1 [UInt8.ofNat (48 + m % 10)] Tryd.underlying75 Tryd.underlying5 Tryd.underlying9 (fun j hj => by
    have hj0 : j = 0 := by simpa using hj
    subst hj0
    have e : ((([UInt8.ofNat (48 + m % 10)] : List UInt8)[0]'hj).toNat : Int) = 48 + (m : Int) % 10 := by
      show ((UInt8.ofNat (48 + m % 10)).toNat : Int) = _
      rw [dig_toNat (by omega)]
      omega
    rw [Lib.add_plain]
    rw [e]
    have hh := heap_alloc_new W (.cells #[.int .u8 (48 + (m : Int) % 10)] 5)
    simp only [World.cell?, hh]
    rfl)
  exact h
theorem cat_dig (c : UInt8) (t : List UInt8) : (⟨#[c]⟩ : ByteArray) ++ ⟨t.toArray⟩ = ⟨(c :: t).toArray⟩ := by
  apply ByteArray.ext
  simp [ByteArray.data_append]
theorem add_dig (c : UInt8) (t : List UInt8) (ht : t.length ≤ 20) (W : World) : (Op.stringOp .add ⟨#[c]⟩ ⟨t.toArray⟩).run Tryd.prog W = .ok (.string ⟨(c :: t).toArray⟩) W :=
  run_string_add_lists W [c] t (by simp) (by omega)
theorem wrap_u64_nat {x : Nat} (h : x < 18446744073709551616) : IntKind.u64.wrap (x : Int) = x := by
  simp [IntKind.wrap, IntKind.signed, IntKind.bits]
  omega
theorem dig_step {m u : Nat} {t : List UInt8} (hg : m > 0 ∨ t = []) (HT : (m = u ∧ t = []) ∨ (t ≠ [] ∧ (if m = 0 then [] else decDigits m) ++ t = decDigits u)) :
    (if m / 10 = 0 then [] else decDigits (m / 10)) ++ (UInt8.ofNat (48 + m % 10) :: t) = decDigits u := by
  have hd : decDigits m = (if m / 10 = 0 then [] else decDigits (m / 10)) ++ [UInt8.ofNat (48 + m % 10)] := by
    rw [decDigits]
    by_cases h10 : m < 10
    · rw [dif_pos h10, if_pos (by omega), Nat.mod_eq_of_lt h10]; rfl
    · rw [dif_neg h10, if_neg (by omega)]
  rcases HT with ⟨rfl, rfl⟩ | ⟨ht, h⟩
  · rw [hd]
  · rcases hg with hg | hg
    · rw [if_neg (by omega)] at h
      rw [← h, hd, List.append_assoc]
      rfl
    · exact absurd hg ht
def szOf : Value → Nat
  | .string s => if s.size = 0 then 1 else 0
  | _ => 0
set_option maxHeartbeats 2000000 in
set_option maxRecDepth 100000 in
theorem rdigits_calls (u : Nat) (hu : u < 18446744073709551616) (w : World) : Calls Tryd.prog 31 #[.int .u64 u] w fun e w' => e = .returned (.string ⟨(decDigits u).toArray⟩) ∧ Below w.heap.size w w' := by
  have HU := Aside0.mk hu
  clear hu
  go_enter Tryd.func31, Tryd.ntmps31
  go_wp2
  go_loopw [0, 3] (fun v0 v3 wr => ∃ (m : Nat) (t : List UInt8), v0 = .int .u64 m ∧ v3 = .string ⟨t.toArray⟩ ∧ Aside0 (m ≤ u) ∧ Aside0 ((m = u ∧ t = []) ∨ (t ≠ [] ∧ (if m = 0 then [] else decDigits m) ++ t = decDigits u)) ∧ Aside0 (Below w.heap.size w wr)) (fun v0 v3 _ => 2 * (RowKit.intOf v0).toNat + szOf v3)
  case atStart => exact ⟨u, [], rfl, rfl, ⟨Nat.le_refl _⟩, ⟨.inl ⟨rfl, rfl⟩⟩, ⟨Below.refl _ _⟩⟩
  case round =>
    obtain ⟨m, t, rfl, rfl, HM, HT, HB⟩ := hrel
    have hcv := conv_dig wr m (by have h1 := HM.out; have h2 := HU.out; omega)
    have htl : t.length ≤ 20 := by
      have h1 := dec_len HU.out
      rcases HT.out with ⟨_, rfl⟩ | ⟨_, h⟩
      · simp
      · rw [← h, List.length_append] at h1; omega
    have hadd := add_dig (UInt8.ofNat (48 + m % 10)) t htl
    clear htl
    have HM2 := Aside0.mk (show m / 10 ≤ u by have h1 := HM.out; omega)
    have HB2 := Aside0.mk (below_alloc HB.out (.cells #[.int .u8 (48 + (m : Int) % 10)] 5))
    by_cases hm : m > 0
    · have hmI : (m : Int) > 0 := by omega
      have HS := Aside0.mk (dig_step (.inl hm) HT.out)
      clear HT
      generalize UInt8.ofNat (48 + m % 10) = c at hcv hadd HS
      have hwr : IntKind.u64.wrap ((m : Int) / 10) = ((m / 10 : Nat) : Int) := by
        have h1 := HM.out
        have h2 := HU.out
        have e : (m : Int) / 10 = ((m / 10 : Nat) : Int) := by omega
        rw [e]
        exact wrap_u64_nat (by omega)
      have hz : szOf (.string ⟨(c :: t).toArray⟩) = 0 := by
        show (if ((c :: t).toArray).size = 0 then 1 else 0) = 0
        rw [if_neg (by simp)]
      go_wp2
      refine ⟨⟨m / 10, c :: t, by simp, rfl, HM2, ⟨.inr ⟨by simp, HS.out⟩⟩, HB2⟩, ?_⟩
      rw [hz]
      show 2 * ((m : Int) / 10).toNat + 0 < 2 * ((m : Int)).toNat + _
      omega
    · by_cases ht : t = []
      · have HS := Aside0.mk (dig_step (.inr ht) HT.out)
        obtain rfl : m = 0 := by omega
        subst ht
        generalize UInt8.ofNat (48 + 0 % 10) = c at hcv hadd HS
        have hcv0 : (convert 75 9 (.slice (some ⟨wr.heap.size, 0, none⟩) 1 1)).run Tryd.prog (wr.alloc (.cells #[.int .u8 48] 5)) = .ok (.string ⟨#[c]⟩) (wr.alloc (.cells #[.int .u8 48] 5)) := hcv
        clear hcv HT
        go_wp2
        exact ⟨⟨0, [c], rfl, rfl, ⟨Nat.zero_le _⟩, ⟨.inr ⟨by simp, HS.out⟩⟩, HB2⟩, by simp [RowKit.intOf, szOf, ByteArray.size]⟩
      · obtain rfl : m = 0 := by omega
        have hfin := Aside0.mk (show t = decDigits u by
          rcases HT.out with ⟨_, h⟩ | ⟨_, h⟩
          · exact absurd h ht
          · simpa using h)
        have ht2 : (t == []) = false := beq_eq_false_iff_ne.mpr ht
        have ht3 : t.isEmpty = false := by cases t with | nil => exact absurd rfl ht | cons a b => rfl
        clear hcv hadd
        go_wp2
        go_ret
        exact ⟨by rw [← hfin.out]; rfl, HB.out⟩
end Go.Proofs.YtkpfpgggkbaefaaDoor
