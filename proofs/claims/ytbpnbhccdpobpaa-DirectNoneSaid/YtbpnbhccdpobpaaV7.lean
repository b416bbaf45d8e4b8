import Derived.Test.YtbpnbhccdpobpaaV6
import Derived.Test.YtbpnbhccdpobpaaSK
import Derived.Test.YtbpnbhccdpobpaaLay8
import Derived.Maps.RangeWalk
/-! direct: List. -/
set_option linter.unusedVariables false
set_option linter.unusedSimpArgs false
namespace Go.Proofs.Ytbpnbhccdpobpaa
open Go Go.RowKit Go.Proofs.YtbpnbhccdpobpaaW.PrintWords Go.Proofs.YtbpnbhccdpobpaaW.PrintLast Go.Proofs.YtbpnbhccdpobpaaW.PrintMore PDirectKnown Go.Maps Go.Sort

abbrev De := PDirectKnown.S98
instance : Inhabited De := ⟨⟨⟨#[]⟩, 0⟩⟩
def cmpS (a b : ByteArray) : Int := if less a b = true then -1 else if less b a = true then 1 else 0
theorem nanS_calls (s : ByteArray) (w : World) : Calls Try.prog 72 #[.string s] w fun e w' => e = .returned (.bool false) ∧ w' = w := by
  go_enter Try.func72, Try.ntmps72
  go_wp2
  go_ret
  exact ⟨rfl, rfl⟩
attribute [local go_sem high] gtr_less
set_option maxHeartbeats 2000000 in
theorem cmpS_calls (a b : ByteArray) (c : Int) (h : cmpS a b = c) (w : World) : Calls Try.prog 55 #[.string a, .string b] w fun e w' => e = .returned (.int .i64 c) ∧ w' = w := by
  subst h
  unfold cmpS
  cases h1 : less a b with
  | true =>
    rw [if_pos rfl]
    have h1' : Op.bytesLess a.toList b.toList = true := h1
    clear h1
    go_enter Try.func55, Try.ntmps55
    go_wp2_with (go_at_call 72; refine (nanS_calls _ _).mono ?_; rintro e w1 ⟨rfl, rfl⟩)
    go_ret
    exact ⟨rfl, rfl⟩
  | false =>
    rw [if_neg (by decide)]
    have h1' : Op.bytesLess a.toList b.toList = false := h1
    clear h1
    cases h2 : less b a with
    | true =>
      rw [if_pos rfl]
      have h2' : Op.bytesLess b.toList a.toList = true := h2
      clear h2
      go_enter Try.func55, Try.ntmps55
      go_wp2_with (go_at_call 72; refine (nanS_calls _ _).mono ?_; rintro e w1 ⟨rfl, rfl⟩)
      go_ret
      exact ⟨rfl, rfl⟩
    | false =>
      rw [if_neg (by decide)]
      have h2' : Op.bytesLess b.toList a.toList = false := h2
      clear h2
      go_enter Try.func55, Try.ntmps55
      go_wp2_with (go_at_call 72; refine (nanS_calls _ _).mono ?_; rintro e w1 ⟨rfl, rfl⟩)
      go_ret
      exact ⟨rfl, rfl⟩
def encE (x : De) : List Value := [.string x.f0, .int .i64 x.f1]
def cfE (x y : De) : Int := cmpS x.f0 y.f0
theorem lt_cfE (x y : De) : ltOf cfE x y = less x.f0 y.f0 := by
  unfold ltOf cfE cmpS
  cases h1 : less x.f0 y.f0 with
  | true => rfl
  | false =>
    rw [if_neg (by decide)]
    split <;> rfl
theorem swoE : SWO (ltOf cfE) := by
  refine ⟨fun x => by rw [lt_cfE, less_irrefl], fun x y z h1 h2 => ?_, fun x y z h1 h2 => ?_⟩
  · rw [lt_cfE] at *
    exact less_trans h1 h2
  · rw [lt_cfE] at *
    cases h3 : less x.f0 z.f0 with
    | false => rfl
    | true =>
      rcases less_total x.f0 y.f0 with h | h | h
      · rw [h] at h1; cases h1
      · rw [h] at h3; rw [h3] at h2; cases h2
      · have := less_trans h h3; rw [this] at h2; cases h2
set_option maxHeartbeats 2000000 in
theorem cmpE_calls (x y : De) (w : World) : Calls Try.prog 54 #[.agg #[.string x.f0, .int .i64 x.f1], .agg #[.string y.f0, .int .i64 y.f1]] w fun e w' => e = .returned (.int .i64 (cfE x y)) ∧ ∃ q os, w' = grow (w.drewN q) os := by
  obtain ⟨s, i⟩ := x
  obtain ⟨t, j⟩ := y
  obtain ⟨c, hc⟩ : ∃ c, cmpS s t = c := ⟨_, rfl⟩
  have HC := Aside0.mk hc
  have HE := Aside0.mk (show cfE ⟨s, i⟩ ⟨t, j⟩ = c from hc)
  clear hc
  have HW := Aside0.mk (show ∃ q os, (w.alloc (.cells #[.string s, .int .i64 i] 98)).alloc (.cells #[.string t, .int .i64 j] 98) = grow (w.drewN q) os from ⟨0, #[.cells #[.string s, .int .i64 i] 98, .cells #[.string t, .int .i64 j] 98], by rw [alloc_eq_grow, alloc_eq_grow, grow_grow]; rfl⟩)
  go_enter Try.func54, Try.ntmps54
  go_wp2_with (go_at_call 55; refine (cmpS_calls s t c HC.out _).mono ?_; rintro e w1 ⟨rfl, rfl⟩)
  go_ret
  exact ⟨by rw [HE.out]; rfl, HW.out⟩
theorem aggE (w : World) : (isAgg 98).run Try.prog w = .ok true w := by kernel_rfl
theorem sizeE (w : World) : (Go.sizeOf 98).run Try.prog w = .ok 2 w := by kernel_rfl
/-- slices.SortFunc, by name. -/
theorem sort_calls (v : Value) (base : Nat) (ok : Nat → Prop) (xs : List De) (w : World) (hr : Kd.R k98 98 w base ok v xs) (hx : xs.length < 1000000) :
    Calls Try.prog 53 #[v, .func (.func 54) #[] #[]] w fun e w' => e = .returned (.tuple #[]) ∧ ∃ ys : List De, ys.Perm xs ∧ ys.Pairwise (fun a b => less b.f0 a.f0 = false) ∧ Kd.R k98 98 w' base ok v ys ∧ w.grownBy w' v.ownBlock := by
  have hcases : (v = .slice none 0 0 ∧ xs = []) ∨ ∃ g cap, v = .slice (some ⟨g, 0, none⟩) xs.length cap := by
    obtain ⟨_, inner, ⟨hl, hown⟩, hrr⟩ := hr
    rcases hown with ⟨h1, h2⟩ | ⟨g, cap, cur, h1, _⟩
    · exact .inl ⟨h1, List.length_eq_zero_iff.mp h2⟩
    · exact .inr ⟨g, cap, h1⟩
  rcases hcases with ⟨rfl, rfl⟩ | ⟨g, cap, rfl⟩
  · refine (AnyF.slices_SortFunc_none Try.laySort none 0 _ w).mono ?_
    rintro e w' ⟨rfl, rfl⟩
    exact ⟨rfl, [], List.Perm.refl _, List.Pairwise.nil, hr, ⟨rfl, rfl, rfl, Nat.le_refl _, fun _ _ _ => rfl⟩⟩
  · obtain ⟨hH, hg⟩ := row_holds (enc := encE) (k := 2) rfl (by decide) (fun _ => rfl) (fun w base ok x cs h => k98_openM h) hr
    have hsz : xs.toArray.size = xs.length := List.size_toArray
    have hcon := AnyQ.slices_SortFunc Try.laySort 2 aggE sizeE encE (fun _ => rfl) (fun x v hv => by simp [encE] at hv; rcases hv with rfl | rfl <;> rfl) cfE swoE 54 #[] g 0 cap xs.toArray w
      (enters_of Try.func54 (by kernel_rfl) rfl) (fun m os dk _ x y => (cmpE_calls x y _).mono fun e w' ⟨he, hq⟩ => ⟨he, hq⟩) hH hg (by rw [hsz]; omega)
    rw [hsz] at hcon
    refine hcon.mono ?_
    rintro e w' ⟨rfl, d', n, os, ⟨hp1, _, hp3⟩, hs, rfl⟩
    have hd' : d'.size = xs.length := by rw [hp1, hsz]
    have hperm : d'.toList.Perm xs := by
      have e1 : d'.extract 0 xs.length = d' := by rw [← hd']; simp
      have e2 : xs.toArray.extract 0 xs.length = xs.toArray := by rw [← hsz]; simp
      rw [e1, e2] at hp3
      simpa using hp3
    refine ⟨rfl, d'.toList, hperm, ?_, ?_⟩
    · rw [List.pairwise_iff_getElem]
      intro i j hi hj hij
      rw [Array.length_toList] at hi hj
      have := hs i j (Nat.zero_le _) hij (by omega)
      rw [lt_cfE] at this
      simpa [hi, hj] using this
    · have := row_sorted (enc := encE) (k := 2) (n := n) (os := os) (ys := d'.toList) rfl (by decide) (fun _ => rfl) rfl (fun w base ok x => k98_mkM w base ok x) (by rw [Array.length_toList, hd']) hr
      rw [Array.toArray_toList] at this
      exact this
end Go.Proofs.Ytbpnbhccdpobpaa
