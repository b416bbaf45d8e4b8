import Derived.Test.YtbpnbhccdpobpaaG
/-! slices.Clip, Clone, IndexFunc at extent.Part. -/
set_option linter.unusedVariables false
set_option linter.unusedSimpArgs false
namespace Go.Proofs.Ytbpnbhccdpobpaa
open Go.RowKit Go.Proofs.YtbpnbhccdpobpaaW.PrintWords

theorem eInfoPart : (Try.prog.info? 52).map (fun i => (i.zero, i.size, i.bytes)) = some (some (.agg #[(.slice none 0 0), (.bool false)]), 2, 32) := by kernel_rfl
theorem eInfoByte : (Try.prog.info? 5).map (fun i => (i.zero, i.size, i.bytes)) = some (some (.int .u8 0), 1, 1) := by kernel_rfl

set_option maxHeartbeats 400000 in
theorem clipPart_calls (A : Option Addr) (n c : Nat) (w : World) (h : n ≤ c) (hn : n ≤ 9223372036854775807) :
    Calls Try.prog 46 #[.slice A n c] w fun e w' => e = .returned (.slice A n n) ∧ w = w' := by
  go_enter Try.func46, Try.ntmps46
  go_wp2
  go_ret
  exact ⟨rfl, rfl⟩

set_option maxHeartbeats 400000 in
set_option maxRecDepth 100000 in
theorem clonePart_calls {α : Type} (d : Kd α) (hsz : d.sz = 2) (A : Option Addr) (n c : Nat) (ps : List α) (w : World) (ok : Nat → Prop) (hF : Kd.F d w ok A n ps) (hc : n ≤ c) (hl : n ≤ 1000000000) :
    Calls Try.prog 68 #[.slice A n c] w fun e w' => ∃ v, e = .returned v ∧ Kd.N d 52 w' w.heap.size (fun k => ok k ∨ w.heap.size ≤ k) v ps ∧ Below w.heap.size w w' := by
  cases A with
  | none =>
    obtain ⟨rfl, rfl⟩ := F_nilA hF
    have H := Aside0.mk hF
    clear hF
    have he := fun w => Lib.run_eql_slice_nil (P := Try.prog) w 28 52 none 0 c 0 0 Try.underlying28
    go_enter Try.func68, Try.ntmps68
    go_wp2
    go_ret
    exact ⟨_, rfl, Kd.N_nil _ _ _ _ _, Below.refl _ _⟩
  | some a =>
    have H := Aside0.mk hF
    clear hF
    have hI := eInfoPart
    rw [← hsz] at hI
    have HI := Aside0.mk hI
    clear hI
    have HS := Aside0.mk hsz
    clear hsz
    have he := fun w => Lib.run_eql_slice_nil (P := Try.prog) w 28 52 (some a) n c 0 0 Try.underlying28
    go_enter Try.func68, Try.ntmps68
    go_wp2_with (at_builtin; go_must (refine Kd.N_append_rows d (w0 := w) w.heap.size rfl (.tmp 5) (.tmp 6) 28 52 _ 32 rfl Try.underlying28 HI.out HS.out.symm (by rw [HS.out]; decide) (by decide) (.slice (some ⟨w.heap.size, 0, none⟩) 0 0) [] ps (some a) n c (fun k => ok k ∨ w.heap.size ≤ k) (fun k => ok k ∧ k < w.heap.size) rfl rfl (N_empty d 52 w _ (.inr (Nat.le_refl _))) (Kd.F_alloc (Kd.F_bound H.out) _) (fun k hk => ⟨.inl hk.1, fun he => by simp [Value.ownBlock] at he; omega⟩) (fun k hk => .inr (by simp at hk; omega)) (below_alloc (Below.refl _ _) _) (by simp) (by simp; omega) ?_); intro v1 w1 hN hB hg hat; clear hg hat; have HN := Aside0.mk hN; have HB := Aside0.mk hB; clear hN hB)
    go_ret
    exact ⟨_, rfl, HN.out, HB.out⟩

set_option maxHeartbeats 400000 in
set_option maxRecDepth 100000 in
/-- slices.Clone of bytes: new memory. -/
theorem cloneByte_calls (A : Option Addr) (n c : Nat) (bs : List Int) (w : World) (ok : Nat → Prop) (hF : Kd.F (Kd.int .u8) w ok A n bs) (hc : n ≤ c) (hl : n ≤ 1000000000) :
    Calls Try.prog 47 #[.slice A n c] w fun e w' => ∃ v, e = .returned v ∧ Kd.R (Kd.int .u8) 5 w' w.heap.size (fun k => w.heap.size ≤ k) v bs ∧ Below w.heap.size w w' := by
  cases A with
  | none =>
    obtain ⟨rfl, rfl⟩ := F_nilA hF
    have H := Aside0.mk hF
    clear hF
    have he := fun w => Lib.run_eql_slice_nil (P := Try.prog) w 26 5 none 0 c 0 0 Try.underlying26
    go_enter Try.func47, Try.ntmps47
    go_wp2
    go_ret
    exact ⟨_, rfl, Kd.R_nil _ _ _ _ _, Below.refl _ _⟩
  | some a =>
    have H := Aside0.mk hF
    clear hF
    have he := fun w => Lib.run_eql_slice_nil (P := Try.prog) w 26 5 (some a) n c 0 0 Try.underlying26
    go_enter Try.func47, Try.ntmps47
    go_wp2_with (at_builtin; go_must (refine Kd.R_append_rows (Kd.int .u8) (Rr := (Kd.int .u8).K w) (w0 := w) w.heap.size rfl (.tmp 5) (.tmp 6) 26 5 (.int .u8 0) 1 rfl Try.underlying26 eInfoByte rfl (by decide) (by decide) (.slice (some ⟨w.heap.size, 0, none⟩) 0 0) [] bs (some a) n c (fun k => w.heap.size ≤ k) (fun k => False) rfl rfl ?aR ?aC (fun _ _ h => h) (fun _ h => h.elim) (fun k hk => by simp at hk; omega) (below_alloc (Below.refl _ _) _) (by simp) (by simp; omega) ?_); (case aR => exact R_empty _ _ _ _ (Nat.le_refl _)); (case aC => exact Kd.C_alloc (Kd.F_now H.out) _); intro v1 w1 hN hB hg hat; clear hg hat; have HN := Aside0.mk hN; have HB := Aside0.mk hB; clear hN hB)
    go_ret
    exact ⟨_, rfl, HN.out, HB.out⟩

set_option maxHeartbeats 1000000 in
set_option maxRecDepth 100000 in
theorem idxPart_calls {α : Type} (d : Kd α) (hsz : d.sz = 2) (p : α → Bool)
    (hp : ∀ (W : World) x c okx, Kd.FK d W okx x c → Calls Try.prog 69 #[.agg c.toArray] W fun e w' => e = .returned (.bool (p x)) ∧ Below W.heap.size W w')
    (A : Option Addr) (n c : Nat) (ps : List α) (w : World) (ok : Nat → Prop) (hF : Kd.F d w ok A n ps) (hc : n ≤ c) (hl : n ≤ 1000000000) :
    Calls Try.prog 76 #[.slice A n c, .func (.func 69) #[] #[]] w fun e w' => e = .returned (.int .i64 (idxOf p ps 0)) ∧ Below w.heap.size w w' := by
  have hn := Kd.F_len hF
  have HN := Aside0.mk hn
  have HP := Aside0.mk hp
  have HF := Aside0.mk hF
  have HS := Aside0.mk hsz
  clear hn hp hF hsz
  go_enter Try.func76, Try.ntmps76
  go_wp2
  go_loopw [8] (fun v8 wr => ∃ k : Nat, k ≤ n ∧ v8 = .int .i64 k ∧ Aside0 (∀ j, (hj : j < k) → (hj2 : j < ps.length) → p ps[j] = false) ∧ Aside0 (Below w.heap.size w wr)) (fun v8 _ => n - (intOf v8).toNat)
  case atStart => exact ⟨0, Nat.zero_le _, rfl, ⟨fun j hj => absurd hj (Nat.not_lt_zero _)⟩, ⟨Below.refl _ _⟩⟩
  case round =>
    obtain ⟨k, hk, rfl, HJ, HB⟩ := hrel
    by_cases hlt : k < n
    · have hkl : k < ps.length := by have := HN.out; omega
      obtain ⟨ad, c0, c1, rfl, h0, h1, hfk, _⟩ := F_at2 (Kd.F_below HF.out HB.out) HS.out k hkl
      have hcall := HP.out wr ps[k] [c0, c1] _ hfk
      have HC := Aside0.mk hcall
      clear hcall hfk
      cases hb : p ps[k] with
      | true =>
        rw [hb] at HC
        have HB1 := Aside0.mk hb
        clear hb
        go_wp2_with (go_at_call 69; refine HC.out.mono ?_; rintro e w' ⟨rfl, hb'⟩; have HB2 := Aside0.mk hb'; clear hb')
        go_ret
        exact ⟨by rw [idxOf_hit p ps k 0 hkl (fun j hj => HJ.out j hj (by omega)) HB1.out, Nat.zero_add]; rfl, below_step HB.out HB2.out⟩
      | false =>
        rw [hb] at HC
        have HB1 := Aside0.mk hb
        clear hb
        go_wp2_with (go_at_call 69; refine HC.out.mono ?_; rintro e w' ⟨rfl, hb'⟩; have HB2 := Aside0.mk hb'; clear hb')
        go_roundw
        case rel => exact ⟨k + 1, by omega, by go_num, ⟨fun j hj hj2 => by
          rcases Nat.lt_or_ge j k with h | h
          · exact HJ.out j h hj2
          · obtain rfl : j = k := by omega
            exact HB1.out⟩, ⟨below_step HB.out HB2.out⟩⟩
        case measure => simp [intOf]; omega
    · go_wp2
      go_ret
      exact ⟨by rw [idxOf_miss p ps 0 (fun j hj => HJ.out j (by have := HN.out; omega) hj)]; rfl, HB.out⟩
end Go.Proofs.Ytbpnbhccdpobpaa
