import Derived.Test.YtkpfpgggkbaefaaDoorD3
/-! name: OfSlot, OfBase, OfTemp, OfSeg; the examples. -/
set_option linter.unusedVariables false
set_option linter.unusedSimpArgs false
namespace Go.Proofs.YtkpfpgggkbaefaaDoor
open Go.RowKit Go.Proofs.YtkpfpgggkbaefaaDoorW.PrintWords Go.Proofs.YtkpfpgggkbaefaaDoorW.PrintLast Go.Proofs.YtkpfpgggkbaefaaDoorW.PrintMore Go.Lib Plain

theorem putV_calls (kd d n p i k : Nat) (t : List UInt8) (ht : putB ⟨kd, d, n, p, i, k⟩ = t) (hf : (⟨kd, d, n, p, i, k⟩ : Nm).Fits) (w : World) (hG : Glob w) :
    Calls Tryd.prog 16 #[.agg #[.int .u8 kd, .int .u64 d, .int .u64 n, .int .u64 p, .int .u64 i, .int .u64 k]] w fun e w' => e = .returned (.string ⟨t.toArray⟩) ∧ Below w.heap.size w w' := by
  rw [← ht]
  exact put_calls kd d n p i k hf w hG
theorem ofSlot_calls (a b : Nat) (ha : a < 18446744073709551616) (hb : b < 18446744073709551616) (w : World) (hG : Glob w) :
    Calls Tryd.prog 11 #[.int .u64 a, .int .u64 b] w fun e w' => e = .returned (.string ⟨(putB ⟨1, a, b, 0, 0, 0⟩).toArray⟩) ∧ Below w.heap.size w w' := by
  have HP := Aside0.mk (put_calls 1 a b 0 0 0 ⟨(show (1 : Nat) < 256 from by decide), ha, hb, (show (0 : Nat) < 18446744073709551616 from by decide), (show (0 : Nat) < 18446744073709551616 from by decide), (show (0 : Nat) < 18446744073709551616 from by decide)⟩ w hG)
  clear hG
  go_enter Tryd.func11, Tryd.ntmps11
  go_wp2_with (go_at_call 16; refine HP.out.mono ?_; rintro e w1 ⟨rfl, hb⟩; have HB := Aside0.mk hb; clear hb)
  go_ret
  exact ⟨rfl, HB.out⟩
theorem ofBase_calls (a b : Nat) (ha : a < 18446744073709551616) (hb : b < 18446744073709551616) (w : World) (hG : Glob w) :
    Calls Tryd.prog 12 #[.int .u64 a, .int .u64 b] w fun e w' => e = .returned (.string ⟨(putB ⟨2, a, b, 0, 0, 0⟩).toArray⟩) ∧ Below w.heap.size w w' := by
  have HP := Aside0.mk (put_calls 2 a b 0 0 0 ⟨(show (2 : Nat) < 256 from by decide), ha, hb, (show (0 : Nat) < 18446744073709551616 from by decide), (show (0 : Nat) < 18446744073709551616 from by decide), (show (0 : Nat) < 18446744073709551616 from by decide)⟩ w hG)
  clear hG
  go_enter Tryd.func12, Tryd.ntmps12
  go_wp2_with (go_at_call 16; refine HP.out.mono ?_; rintro e w1 ⟨rfl, hb⟩; have HB := Aside0.mk hb; clear hb)
  go_ret
  exact ⟨rfl, HB.out⟩
theorem ofTemp_calls (a b c : Nat) (ha : a < 18446744073709551616) (hb : b < 18446744073709551616) (hc : c < 18446744073709551616) (w : World) (hG : Glob w) :
    Calls Tryd.prog 13 #[.int .u64 a, .int .u64 b, .int .u64 c] w fun e w' => e = .returned (.string ⟨(putB ⟨3, 0, 0, a, b, c⟩).toArray⟩) ∧ Below w.heap.size w w' := by
  have HP := Aside0.mk (put_calls 3 0 0 a b c ⟨(show (3 : Nat) < 256 from by decide), (show (0 : Nat) < 18446744073709551616 from by decide), (show (0 : Nat) < 18446744073709551616 from by decide), ha, hb, hc⟩ w hG)
  clear hG
  go_enter Tryd.func13, Tryd.ntmps13
  go_wp2_with (go_at_call 16; refine HP.out.mono ?_; rintro e w1 ⟨rfl, hb⟩; have HB := Aside0.mk hb; clear hb)
  go_ret
  exact ⟨rfl, HB.out⟩
theorem ofSeg_calls (a b c d : Nat) (ha : a < 18446744073709551616) (hb : b < 18446744073709551616) (hc : c < 18446744073709551616) (hd : d < 18446744073709551616) (w : World) (hG : Glob w) :
    Calls Tryd.prog 14 #[.int .u64 a, .int .u64 b, .int .u64 c, .int .u64 d] w fun e w' => e = .returned (.string ⟨(putB ⟨4, a, 0, b, c, d⟩).toArray⟩) ∧ Below w.heap.size w w' := by
  have HP := Aside0.mk (put_calls 4 a 0 b c d ⟨(show (4 : Nat) < 256 from by decide), ha, (show (0 : Nat) < 18446744073709551616 from by decide), hb, hc, hd⟩ w hG)
  clear hG
  go_enter Tryd.func14, Tryd.ntmps14
  go_wp2_with (go_at_call 16; refine HP.out.mono ?_; rintro e w1 ⟨rfl, hb⟩; have HB := Aside0.mk hb; clear hb)
  go_ret
  exact ⟨rfl, HB.out⟩
theorem parseV_calls (s : ByteArray) (kd d n p i k : Nat) (ok : Bool) (hp : parseN s.data.toList = ⟨kd, d, n, p, i, k⟩) (ho : parseOk s.data.toList = ok) (hs : s.size ≤ 200) (w : World) (hG : Glob w) :
    Calls Tryd.prog 8 #[.string s] w fun e w' => e = .returned (.tuple #[.agg #[.int .u8 kd, .int .u64 d, .int .u64 n, .int .u64 p, .int .u64 i, .int .u64 k], .bool ok]) ∧ Below w.heap.size w w' := by
  refine (parse_calls s hs w hG).mono ?_
  rintro e w' ⟨rfl, hb⟩
  rw [hp, ho]
  exact ⟨rfl, hb⟩
/-! The examples' texts. -/
theorem dec_big : decDigits 18446744073709551615 = [49, 56, 52, 52, 54, 55, 52, 52, 48, 55, 51, 55, 48, 57, 53, 53, 49, 54, 49, 53] := by simp [decDigits]
theorem numOf_bad {l : List UInt8} {v : Nat} (hp : parseUintB 64 l = .ok v) (hd : decDigits v ≠ l) : numOf l = none := by
  unfold numOf
  rw [hp]
  exact if_neg hd
theorem numOf_range {l : List UInt8} (hp : parseUintB 64 l = .range) : numOf l = none := by
  unfold numOf
  rw [hp]
theorem ex1 : parseB [98, 45, 48, 45, 49, 56, 52, 52, 54, 55, 52, 52, 48, 55, 51, 55, 48, 57, 53, 53, 49, 54, 49, 53] = some ⟨2, 0, 18446744073709551615, 0, 0, 0⟩ := by
  have h := parse_put (a := ⟨2, 0, 18446744073709551615, 0, 0, 0⟩) (by decide) ⟨by decide, by decide, by decide, by decide, by decide, by decide⟩
  have e : putB ⟨2, 0, 18446744073709551615, 0, 0, 0⟩ = [98, 45, 48, 45, 49, 56, 52, 52, 54, 55, 52, 52, 48, 55, 51, 55, 48, 57, 53, 53, 49, 54, 49, 53] := by
    unfold putB
    rw [if_pos (by decide)]
    show glue [[98], decDigits 0, decDigits 18446744073709551615] = _
    rw [dec_big, show decDigits 0 = [48] by simp [decDigits]]
    rfl
  rw [e] at h
  exact h
theorem ex2 : parseB [115, 45, 48, 55, 45, 49] = none := by
  have h : numOf [48, 55] = none := numOf_bad (v := 7) (by rfl) (by simp [decDigits])
  have hc : Plain.cut [115, 45, 48, 55, 45, 49] = [[115], [48, 55], [49]] := by rfl
  unfold parseB
  rw [hc]
  simp only
  rw [numsOf_none _ [48, 55] (by simp) h]
  simp
theorem ex3 : parseB [115, 45, 49] = none := by
  have hc : Plain.cut [115, 45, 49] = [[115], [49]] := by rfl
  unfold parseB
  rw [hc]
  simp only
  rw [if_neg (by decide), if_neg (by decide)]
theorem ex4 : parseB [116, 45, 49, 45, 50, 45, 51, 45, 52] = none := by
  have hc : Plain.cut [116, 45, 49, 45, 50, 45, 51, 45, 52] = [[116], [49], [50], [51], [52]] := by rfl
  unfold parseB
  rw [hc]
  simp only
  rw [if_neg (by decide), if_neg (by decide)]
theorem ex5 : parseB [115, 45, 49, 45, 49, 56, 52, 52, 54, 55, 52, 52, 48, 55, 51, 55, 48, 57, 53, 53, 49, 54, 49, 54] = none := by
  have h : numOf [49, 56, 52, 52, 54, 55, 52, 52, 48, 55, 51, 55, 48, 57, 53, 53, 49, 54, 49, 54] = none := numOf_range (by rfl)
  have hc : Plain.cut [115, 45, 49, 45, 49, 56, 52, 52, 54, 55, 52, 52, 48, 55, 51, 55, 48, 57, 53, 53, 49, 54, 49, 54] = [[115], [49], [49, 56, 52, 52, 54, 55, 52, 52, 48, 55, 51, 55, 48, 57, 53, 53, 49, 54, 49, 54]] := by rfl
  unfold parseB
  rw [hc]
  simp only
  rw [numsOf_none _ _ (by simp) h]
  simp
theorem ex6 : putB ⟨1, 7, 12, 0, 0, 0⟩ = [115, 45, 55, 45, 49, 50] := by
  unfold putB
  rw [if_pos (by decide)]
  show glue [[115], decDigits 7, decDigits 12] = _
  rw [show decDigits 7 = [55] by simp [decDigits], show decDigits 12 = [49, 50] by simp [decDigits]]
  rfl
theorem ex7 : putB ⟨4, 1, 0, 2, 3, 4⟩ = [106, 45, 49, 45, 50, 45, 51, 45, 52] := by
  unfold putB
  rw [if_pos (by decide)]
  show glue [[106], decDigits 1, decDigits 2, decDigits 3, decDigits 4] = _
  rw [show decDigits 1 = [49] by simp [decDigits], show decDigits 2 = [50] by simp [decDigits], show decDigits 3 = [51] by simp [decDigits], show decDigits 4 = [52] by simp [decDigits]]
  rfl
end Go.Proofs.YtkpfpgggkbaefaaDoor
