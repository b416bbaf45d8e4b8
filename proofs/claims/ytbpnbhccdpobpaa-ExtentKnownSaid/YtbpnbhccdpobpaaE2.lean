import Derived.Test.YtbpnbhccdpobpaaE1
import Derived.Test.YtbpnbhccdpobpaaPExtentKnownx0
/-! slices.DeleteFunc at extent.Part, the closure of tidy. -/
set_option linter.unusedVariables false
set_option linter.unusedSimpArgs false
namespace Go.Proofs.Ytbpnbhccdpobpaa
open Go.RowKit Go.Proofs.YtbpnbhccdpobpaaW.PrintWords PExtentKnown

structure DelInv {α : Type} (p : α → Bool) (ps xs : List α) (i j : Nat) : Prop where
  len : xs.length = ps.length
  lt : i < j
  le : j ≤ ps.length
  low : xs.take i = (ps.take j).filter fun x => !p x
  high : xs.drop j = ps.drop j
theorem DelInv.at_ {α : Type} {p : α → Bool} {ps xs : List α} {i j : Nat} (h : DelInv p ps xs i j) (hj : j < ps.length) : ∃ hx : j < xs.length, xs[j] = ps[j] := by
  have hx : j < xs.length := by rw [h.len]; exact hj
  refine ⟨hx, ?_⟩
  have := congrArg (fun l => l[0]?) h.high
  simpa [List.getElem?_drop, hx, hj] using this
theorem DelInv.start {α : Type} {p : α → Bool} {ps : List α} {k : Nat} (hk : k < ps.length) (hj : ∀ j, (hj : j < k) → p (ps[j]'(by omega)) = false) (hp : p ps[k] = true) : DelInv p ps ps k (k + 1) := by
  refine ⟨rfl, by omega, by omega, ?_, rfl⟩
  rw [List.take_succ_eq_append_getElem hk, List.filter_append]
  have h1 : (ps.take k).filter (fun x => !p x) = ps.take k := by
    rw [List.filter_eq_self]
    intro a ha
    obtain ⟨i, hi, rfl⟩ := List.getElem_of_mem ha
    rw [List.getElem_take]
    have hi' : i < k := by have := hi; rw [List.length_take] at this; omega
    rw [hj i hi']; rfl
  rw [h1]; simp [hp]
theorem DelInv.keep {α : Type} {p : α → Bool} {ps xs : List α} {i j : Nat} (h : DelInv p ps xs i j) (hj : j < ps.length) (hp : p ps[j] = false) : DelInv p ps (xs.set i ps[j]) (i + 1) (j + 1) := by
  have hlt := h.lt
  have hi : i < xs.length := by rw [h.len]; omega
  refine ⟨by rw [List.length_set, h.len], by omega, by omega, ?_, ?_⟩
  · rw [List.take_succ_eq_append_getElem (by rw [List.length_set]; exact hi), List.getElem_set_self, List.take_set_of_le (by omega), h.low, List.take_succ_eq_append_getElem hj, List.filter_append]
    simp [hp]
  · rw [List.drop_set_of_lt (by omega)]
    have := congrArg (List.drop 1) h.high
    simpa [List.drop_drop, Nat.add_comm] using this
theorem DelInv.skip {α : Type} {p : α → Bool} {ps xs : List α} {i j : Nat} (h : DelInv p ps xs i j) (hj : j < ps.length) (hp : p ps[j] = true) : DelInv p ps xs i (j + 1) := by
  have hlt := h.lt
  refine ⟨h.len, by omega, by omega, ?_, ?_⟩
  · rw [h.low, List.take_succ_eq_append_getElem hj, List.filter_append]; simp [hp]
  · have := congrArg (List.drop 1) h.high
    simpa [List.drop_drop, Nat.add_comm] using this
theorem DelInv.done {α : Type} {p : α → Bool} {ps xs : List α} {i : Nat} (h : DelInv p ps xs i ps.length) : xs.take i = ps.filter fun x => !p x := by
  have := h.low
  rwa [List.take_length] at this
theorem idxOf_cases {α : Type} (p : α → Bool) (ps : List α) : (idxOf p ps 0 = -1 ∧ ps.filter (fun x => !p x) = ps) ∨ ∃ k, ∃ hk : k < ps.length, idxOf p ps 0 = (k : Int) ∧ DelInv p ps ps k (k + 1) := by
  by_cases h : ∃ k, ∃ hk : k < ps.length, p ps[k] = true
  · -- the first one
    obtain ⟨k, hk, hp⟩ := h
    have : ∃ m, (∃ hm : m < ps.length, p ps[m] = true) ∧ ∀ j, (hj : j < ps.length) → j < m → p ps[j] = false := by
      induction k using Nat.strongRecOn with
      | ind k ih =>
        by_cases h2 : ∃ j, ∃ hj : j < ps.length, j < k ∧ p ps[j] = true
        · obtain ⟨j, hj, hlt, hpj⟩ := h2
          exact ih j hlt hj hpj
        · refine ⟨k, ⟨hk, hp⟩, fun j hj hlt => ?_⟩
          cases hb : p ps[j] with
          | false => rfl
          | true => exact absurd ⟨j, hj, hlt, hb⟩ h2
    obtain ⟨m, ⟨hm, hpm⟩, hall⟩ := this
    refine .inr ⟨m, hm, ?_, DelInv.start hm (fun j hj => hall j (by omega) hj) hpm⟩
    rw [idxOf_hit p ps m 0 hm (fun j hj => hall j (by omega) hj) hpm, Nat.zero_add]
  · refine .inl ⟨idxOf_miss p ps 0 (fun j hj => ?_), ?_⟩
    · cases hb : p ps[j] with
      | false => rfl
      | true => exact absurd ⟨j, hj, hb⟩ h
    · rw [List.filter_eq_self]
      intro a ha
      obtain ⟨i, hi, rfl⟩ := List.getElem_of_mem ha
      cases hb : p ps[i] with
      | false => rfl
      | true => exact absurd ⟨i, hi, hb⟩ h

set_option maxHeartbeats 2000000 in
set_option maxRecDepth 100000 in
theorem delPart_calls (p : S52 → Bool)
    (hp : ∀ (W : World) x c okx, Kd.FK k52 W okx x c → Calls Try.prog 69 #[.agg c.toArray] W fun e w' => e = .returned (.bool (p x)) ∧ Below W.heap.size W w')
    (A : Option Addr) (n c : Nat) (ps : List S52) (w : World) (base : Nat) (ok : Nat → Prop) (hN : Kd.N k52 52 w base ok (.slice A n c) ps) (hl : n ≤ 1000000000) :
    Calls Try.prog 67 #[.slice A n c, .func (.func 69) #[] #[]] w fun e w' => ∃ m, e = .returned (.slice A m c) ∧ Kd.N k52 52 w' base ok (.slice A m c) (ps.filter fun x => !p x) ∧ Fr w w' (fun k => some k = (Value.slice A n c).ownBlock) := by
  obtain ⟨hn, hnc, _⟩ := Kd.N_reads' hN
  subst hn
  have hidx := idxPart_calls k52 rfl p hp A ps.length c ps w ok (Kd.N_F hN) hnc hl
  have HN := Aside0.mk hN
  rcases idxOf_cases p ps with ⟨h1, h2⟩ | ⟨k, hk, h1, hD⟩
  · rw [h1] at hidx
    have HI := Aside0.mk hidx
    have H2 := Aside0.mk h2
    clear hidx h1 h2 hN hp
    go_enter Try.func67, Try.ntmps67
    go_wp2_with (go_at_call 76; refine HI.out.mono ?_; rintro e w1 ⟨rfl, hb⟩; have HB := Aside0.mk hb; clear hb)
    go_ret
    refine ⟨ps.length, rfl, ?_, Fr.of_below HB.out _⟩
    rw [H2.out]
    exact Kd.N_below HN.out HB.out
  · cases A with
    | none => exact absurd (Kd.N_F hN) (fun hF => by have := (F_nilA hF).2; subst this; simp at hk)
    | some a =>
      obtain ⟨g, cap, he, _⟩ := Kd.N_form hN (by omega)
      injection he with ha hl2 hc2
      clear hl2
      subst hc2
      injection ha with ha
      subst ha
      rw [h1] at hidx
      have HI := Aside0.mk hidx
      have HD := Aside0.mk hD
      have HP := Aside0.mk hp
      have hn1 : ((k : Int) == -1) = false := beq_eq_false_iff_ne.2 (by omega)
      clear hidx h1 hN hp hD
      go_enter Try.func67, Try.ntmps67
      go_wp2_with (go_at_call 76; refine HI.out.mono ?_; rintro e w1 ⟨rfl, hb⟩; have HB := Aside0.mk hb; clear hb)
      go_loopw [5, 6] (fun v5 v6 wr => ∃ (i j : Nat) (xs : List S52), j ≤ ps.length ∧ i < ps.length ∧ v5 = .int .i64 i ∧ v6 = .int .i64 j ∧ Aside0 (DelInv p ps xs i j) ∧ Aside0 (Kd.N k52 52 wr base ok (.slice (some ⟨g, 0, none⟩) ps.length c) xs) ∧ Aside0 (Fr w wr (fun k => k = g))) (fun _ v6 _ => ps.length - (intOf v6).toNat)
      case atStart => exact ⟨k, k + 1, ps, by omega, hk, rfl, by go_num, HD, ⟨Kd.N_below HN.out HB.out⟩, ⟨Fr.of_below HB.out _⟩⟩
      case round =>
        obtain ⟨i, j, xs, hj, hi, rfl, rfl, HD, HO, HK⟩ := hrel
        by_cases hlt : j < ps.length
        · obtain ⟨hjx, hxj⟩ := HD.out.at_ hlt
          obtain ⟨cc, hcl, hfk, hcc, -⟩ := Kd.N_elem HO.out xs[j] (j : Int) (by omega) (by omega)
          obtain ⟨A0, c0, rfl, hl0, -⟩ := k52_openF (by rwa [Int.toNat_natCast, List.getD_eq_getElem?_getD, List.getElem?_eq_getElem hjx, Option.getD_some, hxj] at hfk)
          rw [Int.toNat_natCast, List.getD_eq_getElem?_getD, List.getElem?_eq_getElem hjx, Option.getD_some, hxj] at hfk
          have h0 := hcc 0 _ rfl
          have h1 := hcc 1 _ rfl
          rw [show k52.sz = 2 from rfl, Int.toNat_natCast] at h0 h1
          rw [Nat.add_zero] at h0
          have HF := Aside0.mk hfk
          clear hcc hfk hcl hxj
          cases hb : p ps[j] with
          | true =>
            have HT := Aside0.mk hb
            clear hb
            have hcall := HP.out (wr.alloc (.cells #[.slice A0 ps[j].f0.length c0, .bool ps[j].f1] 52)) ps[j] [.slice A0 ps[j].f0.length c0, .bool ps[j].f1] _ (Kd.FK_below HF.out (below_alloc (Below.refl _ _) _))
            rw [HT.out] at hcall
            have HC := Aside0.mk hcall
            clear hcall
            go_wp2_with (go_at_call 69; refine HC.out.mono ?_; rintro e w2 ⟨rfl, hb⟩; have HB2 := Aside0.mk hb; clear hb)
            go_roundw
            case rel => exact ⟨i, j + 1, xs, by omega, hi, rfl, by go_num, ⟨HD.out.skip hlt HT.out⟩, ⟨Kd.N_below HO.out (below_step (below_alloc (Below.refl _ _) _) HB2.out)⟩, ⟨HK.out.then_below (below_step (below_alloc (Below.refl _ _) _) HB2.out)⟩⟩
            case measure => simp [intOf]; omega
          | false =>
            have HT := Aside0.mk hb
            clear hb
            have hcall := HP.out (wr.alloc (.cells #[.slice A0 ps[j].f0.length c0, .bool ps[j].f1] 52)) ps[j] [.slice A0 ps[j].f0.length c0, .bool ps[j].f1] _ (Kd.FK_below HF.out (below_alloc (Below.refl _ _) _))
            rw [HT.out] at hcall
            have HC := Aside0.mk hcall
            clear hcall
            go_wp2_with (go_at_call 69; refine HC.out.mono ?_; rintro e w2 ⟨rfl, hb⟩; have HB2 := Aside0.mk hb; have hbx := blk_below (blk_new wr (.cells #[.slice A0 ps[j].f0.length c0, .bool ps[j].f1] 52)) hb; have hx0 := blk_cell hbx 0; have hx1 := blk_cell hbx 1; clear hb hbx; simp at hx0 hx1; obtain ⟨cc, hcl, -, hcc, hfr⟩ := Kd.N_elem (Kd.N_below HO.out (below_step (below_alloc (Below.refl _ _) _) HB2.out)) xs[j] (i : Int) (by omega) (by omega); obtain ⟨o0, o1, rfl⟩ := len2 hcl; have g0 := hcc 0 _ rfl; have g1 := hcc 1 _ rfl; have f0 := hfr 0; have f1 := hfr 1; rw [show k52.sz = 2 from rfl, Int.toNat_natCast] at g0 g1 f0 f1; rw [Nat.add_zero] at g0 f0; clear hcc hcl hfr h0 h1)
            go_roundw
            case rel =>
              have hO2 := Kd.N_below HO.out (below_step (below_alloc (Below.refl _ _) _) HB2.out)
              have hgx : g < w2.heap.size := World.block_lt_of_cell? w2 _ g0
              obtain ⟨cc, hcl, -, hcc, -⟩ := Kd.N_elem hO2 xs[j] (i : Int) (by omega) (by omega)
              have hfk2 := Kd.FK_below HF.out (below_step (below_alloc (Below.refl _ _) _) HB2.out)
              have hseg := Kd.N_seg hO2 (i : Int) (by omega) (by omega) (seg := [.slice A0 ps[j].f0.length c0, .bool ps[j].f1]) (j := 0) (x' := ps[j]) (okp := fun k => ok k ∧ k ≠ g) hcl hcc (Nat.le_refl 2) (by
                rw [List.take_zero, List.nil_append, List.drop_eq_nil_of_le (by rw [hcl]; exact Nat.le_refl 2), List.append_nil]; exact hfk2) (fun k hk => hk)
              exact ⟨i + 1, j + 1, xs.set i ps[j], by omega, by have := HD.out.lt; omega, by go_num, by go_num, ⟨HD.out.keep hlt HT.out⟩, ⟨hseg.1⟩, ⟨Fr.setCell (p := ⟨g, i * 2 + 1, none⟩) (Fr.setCell (p := ⟨g, i * 2, none⟩) (HK.out.then_below (below_step (below_alloc (Below.refl _ _) _) HB2.out)) (.inl rfl) _) (.inl rfl) _⟩⟩
            case measure => simp [intOf]; omega
        · obtain rfl : j = ps.length := by omega
          have hlt2 := HD.out.lt
          obtain ⟨zs, hzl, hclr⟩ := run_clear_cells (P := Try.prog) wr 28 52 (.agg #[.slice none 0 0, .bool false]) Try.underlying28 (fun w => by kernel_rfl) 2 rfl (by decide) (by decide) g (i * 2) (ps.length - i) (c - i) (by omega)
            (fun m hm => by
              obtain ⟨cc, hcl, -, hcc, -⟩ := Kd.N_elem HO.out ⟨[], false⟩ ((i + m / 2 : Nat) : Int) (by omega) (by omega)
              obtain ⟨o0, o1, rfl⟩ := len2 hcl
              have h2 := hcc 0 o0 rfl
              have h3 := hcc 1 o1 rfl
              rw [show k52.sz = 2 from rfl, Int.toNat_natCast] at h2 h3
              rcases (show m % 2 = 0 ∨ m % 2 = 1 by omega) with hm2 | hm2
              · rw [show i * 2 + m = (i + m / 2) * 2 + 0 by omega, h2]; rfl
              · rw [show i * 2 + m = (i + m / 2) * 2 + 1 by omega, h3]; rfl)
            (fun m hm => by
              obtain ⟨cc, hcl, -, -, hfr⟩ := Kd.N_elem HO.out ⟨[], false⟩ (i : Int) (by omega) (by omega)
              have h2 := hfr m
              rw [show k52.sz = 2 from rfl, Int.toNat_natCast] at h2
              exact h2)
          have HC := Aside0.mk hclr
          have HZ := Aside0.mk hzl
          clear hzl
          go_wp2
          go_ret
          have hcl := Kd.N_reads' HO.out
          have hN2 := N_clear HO.out (m := i) (by omega) zs HZ.out
          refine ⟨i, rfl, ?_, ?_⟩
          · skip
            rw [← HD.out.done]
            exact hN2.1
          · exact (Fr.of_grown hN2.2 HK.out (fun k hk => .inl (by injection hk with hk; exact hk.symm))).mono (fun k hk => by subst hk; rfl)
end Go.Proofs.Ytbpnbhccdpobpaa
