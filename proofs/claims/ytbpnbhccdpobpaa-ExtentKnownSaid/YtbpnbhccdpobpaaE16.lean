import Derived.Test.YtbpnbhccdpobpaaE15
import Derived.StillTailTactics
/-! ExtentPlays. -/
set_option linter.unusedVariables false
set_option linter.unusedSimpArgs false
namespace Go.Proofs.Ytbpnbhccdpobpaa
open Go.RowKit Go.Proofs.YtbpnbhccdpobpaaW.PrintWords PExtentKnown

theorem eInfoBytes : (Try.prog.info? 26).map (fun i => (i.zero, i.size, i.bytes)) = some (some (.slice none 0 0), 1, 24) := by kernel_rfl

theorem belowThen {w W W2 : World} (h : Below w.heap.size w W) (k : Below W.heap.size W W2) : Below w.heap.size w W2 := ((Fr.of_below h (fun _ => False)).then_below k).below (fun _ hk => hk.elim)
theorem Sys.make {w0 wr w2 w3 : World} {A6 A8 : Option Addr} {c6 n8 c8 : Nat} {ps : List S52} {rs : List S85} (hfr : Fr w0 wr (fun _ => False)) (hb2 : Below wr.heap.size wr w2) (hF2 : Kd.F k52 w2 (fun k => wr.heap.size ≤ k) A6 ps.length ps) (hc6 : ps.length ≤ c6)
    (hb3 : Below (w2.alloc (.cells #[.slice A6 ps.length c6] 30)).heap.size (w2.alloc (.cells #[.slice A6 ps.length c6] 30)) w3) (hF3 : Kd.F k85 w3 (fun k => (w2.alloc (.cells #[.slice A6 ps.length c6] 30)).heap.size ≤ k) A8 n8 rs) (hc8 : n8 ≤ c8) :
    Sys w0 (w3.alloc (.cells #[.slice A8 n8 c8] 34)) (fun k => k < wr.heap.size ∨ k = w2.heap.size ∨ k = w3.heap.size) w2.heap.size w3.heap.size ps rs := by
  have hl8 := Kd.F_len hF3
  subst hl8
  have h1 := hfr.1
  have h2 := hb2.size
  have h3 := hb3.size
  rw [World.size_alloc] at h3
  have b1 : Below w2.heap.size w2 (w2.alloc (.cells #[.slice A6 ps.length c6] 30)) := below_alloc (Below.refl _ _) _
  have b4 : Below w3.heap.size w3 (w3.alloc (.cells #[.slice A8 rs.length c8] 34)) := below_alloc (Below.refl _ _) _
  refine ⟨(((hfr.then_below hb2).alloc _).then_below hb3).alloc _, by omega, by omega, by omega, .inr (.inl rfl), .inr (.inr rfl), ⟨⟨A6, c6, blk_below (blk_below (blk_new w2 _) hb3) b4, hc6, ?_, fun h => h.2 (.inr (.inl rfl))⟩⟩, A8, c8, blk_new w3 _, hc8, ?_⟩
  · refine Kd.F_mono (Kd.F_below (Kd.F_bound (Kd.F_below (Kd.F_below (Kd.F_bound hF2) b1) hb3)) b4) (fun k hk => ⟨by omega, fun h => by omega⟩)
  · refine Kd.F_mono (Kd.F_below (Kd.F_bound hF3) b4) (fun k hk => ?_)
    rw [World.size_alloc] at hk
    exact ⟨by omega, fun h => by omega⟩
theorem act_at {w : World} {ok : Nat → Prop} {A : Option Addr} {n : Nat} {l : List S40} (h : Kd.F k40 w ok A n l) (k : Nat) (hk : k < l.length) :
    ∃ ad B1 b1 B2 b2, A = some ad ∧ w.cell? (ad.add (k * 3)) = some (.int .i64 l[k].f0) ∧ w.cell? ⟨(ad.add (k * 3)).block, (ad.add (k * 3)).off + 1, none⟩ = some (.slice B1 l[k].f1.length b1) ∧
      w.cell? ⟨(ad.add (k * 3)).block, (ad.add (k * 3)).off + 2, none⟩ = some (.slice B2 l[k].f2.length b2) ∧ l[k].f1.length ≤ b1 ∧ Kd.F (Kd.int .u8) w ok B1 l[k].f1.length l[k].f1 ∧ l[k].f2.length ≤ b2 ∧ Kd.F Kd.bool w ok B2 l[k].f2.length l[k].f2 ∧ ok ad.block := by
  have hl := Kd.F_len h
  obtain ⟨ad, c, e, hcl, hK, hcc, hok⟩ := Kd.F_get h l[k] (k : Int) (by omega) (by omega)
  simp only [Int.toNat_natCast] at hK hcc
  rw [List.getD_eq_getElem?_getD, List.getElem?_eq_getElem hk] at hK
  obtain ⟨B1, b1, B2, b2, rfl, l1, f1, l2, f2⟩ := k40_openF hK
  have h0 := hcc 0 _ rfl
  have h1 := hcc 1 _ rfl
  have h2 := hcc 2 _ rfl
  rw [show k40.sz = 3 from rfl] at h0 h1 h2
  exact ⟨ad, B1, b1, B2, b2, e, by simpa using h0, by rw [← add_field _ _ 1 (by omega)]; exact h1, by rw [← add_field _ _ 2 (by omega)]; exact h2, l1, f1, l2, f2, hok (by first | omega | decide)⟩
theorem cellFr {w W : World} {S : Nat → Prop} {a : Addr} {v : Value} (hk : Fr w W S) (hn : ¬ S a.block) (h : w.cell? a = some v) : W.cell? a = some v := by
  rw [← h]; exact World.cell?_of_block (hk.2.1 _ (World.block_lt_of_cell? w a h) hn)
/-- The examples hold. -/
def Works : Prop := ∀ w : World, Calls Try.prog 11 #[] w fun e w' => e = .returned (.bool true) ∧ Below w.heap.size w w'

set_option maxHeartbeats 1000000 in
set_option maxRecDepth 100000 in
theorem plays_calls (HW : Works) (A0 : Option Addr) (n0 c0 : Nat) (first : List (List Int)) (A1 : Option Addr) (n1 c1 : Nat) (l : List S40) (ok0 ok1 : Nat → Prop) (w : World)
    (h0 : Kd.F (Kd.slice 5 (Kd.int .u8)) w ok0 A0 n0 first) (hc0 : n0 ≤ c0) (h1 : Kd.F k40 w ok1 A1 n1 l) (hc1 : n1 ≤ c1) :
    Calls Try.prog 3 #[.slice A0 n0 c0, .slice A1 n1 c1] w fun e w' => e = .returned (.bool true) ∧ Below w.heap.size w w' := by
  have H0 := Aside0.mk (Kd.F_bound h0)
  have H1 := Aside0.mk (Kd.F_bound h1)
  have hx0 := Kd.F_len h0
  have hx1 := Kd.F_len h1
  subst hx0; subst hx1
  obtain ⟨b, hb, hbt⟩ := few_at l 30 (by omega)
  have HBT := Aside0.mk hbt
  have hcf := chartroomlaw07_few.calls 203 A1 c1 l 30 b w (Kd.F_now h1) hc1 hb
  have HCF := Aside0.mk hcf
  clear h0 h1 hbt hb hcf
  go_enter Try.func3, Try.ntmps3
  cases b with
  | false =>
    go_wp2_with first | (go_at_call 10; refine HCF.out.mono ?_; rintro e w1 ⟨rfl, hd1⟩; have HD1 := Aside0.mk hd1.below; clear hd1) | (go_at_call 11; refine (HW _).mono ?_; rintro e w2 ⟨rfl, hb2⟩; have HB2 := Aside0.mk hb2; clear hb2)
    go_ret
    exact ⟨rfl, belowThen HD1.out HB2.out⟩
  | true =>
    obtain ⟨hl30, hx30⟩ := HBT.out rfl
    have HX := Aside0.mk hx30
    clear hx30 HBT
    by_cases h20 : first.length ≤ 20
    · have hgt : ¬ ((first.length : Int) > 20) := by omega
      go_wp2_with (go_at_call 10; refine HCF.out.mono ?_; rintro e w1 ⟨rfl, hd1⟩; have HD1 := Aside0.mk hd1.below; clear hd1)
      go_loopw [5, 6] (fun v5 v6 wr => ∃ k : Nat, k ≤ first.length ∧ v6 = .int .i64 k ∧ Aside0 (Kd.S (Kd.slice 5 (Kd.int .u8)) 26 wr w.heap.size (fun _ => True) v5 (first.take k)) ∧ Aside0 (Fr w wr (fun _ => False)) ∧ Aside0 (∀ b ∈ first.take k, b.length ≤ 30)) (fun _ v6 _ => first.length - (intOf v6).toNat)
      case atStart => exact ⟨0, Nat.zero_le _, rfl, ⟨Kd.S_nil _ _ _ _ _⟩, ⟨Fr.of_below HD1.out _⟩, ⟨by simp⟩⟩
      case round =>
        obtain ⟨k, hk, rfl, HS, HFR, HLE⟩ := hrel
        by_cases hlt : k < first.length
        · obtain ⟨ad, A', c', rfl, hcell, hlc, hFb⟩ := F_getS (Kd.F_kept H0.out HFR.out.kept (fun _ _ h => h)) k hlt
          have HFb := Aside0.mk hFb
          clear hFb
          by_cases h30 : first[k].length ≤ 30
          · have hgt2 : ¬ ((first[k].length : Int) > 30) := by omega
            have hLK : (first.take k).length ≤ 20 := by rw [List.length_take]; omega
            go_wp2_with first
              | (go_at_call 12; refine (own_calls A' first[k].length c' first[k] wr (Kd.F_now HFb.out) hlc (by omega)).mono ?_; rintro e w2 ⟨A2, c2, rfl, hlc2, hR2, hb2⟩; have HR2 := Aside0.mk (Kd.R_bound hR2); have HB2 := Aside0.mk hb2; clear hR2 hb2)
              | ((with_reducible refine gate_builtin (b := .append) (xs := #[.tmp 34, .tmp 40]) rfl ?_); go_must ((refine Kd.S_append (Kd.slice 5 (Kd.int .u8)) (w0 := w) w.heap.size rfl (.tmp 34) (.tmp 40) 22 26 _ 24 rfl Try.underlying22 eInfoBytes rfl (by decide) (by decide) u5 (first.take k) first[k] [.slice A2 first[k].length c2] (fun _ => True) (fun j => wr.heap.size ≤ j) rfl rfl ⟨_, rfl, Kd.R_mono (Kd.R_lower HR2.out HFR.out.1) (fun j hj => hj.2.1)⟩ (fun j hj => ⟨trivial, fun he => by have := Kd.S_lt HS.out j he.symm; omega⟩) (fun j hj => trivial) (Kd.S_mono (Kd.S_below (Kd.S_bound HS.out) HB2.out) (fun j hj => ⟨trivial, fun h => by have := hj.2.2.1; omega⟩)) ((HFR.out.then_below HB2.out).below (fun _ h => h.elim)) (Nat.le_trans HFR.out.1 HB2.out.size) (by omega) ?_); intro v5 w3 hN hB hg hat; obtain ⟨A5, c5, rfl⟩ := Kd.S_slice hN; have HN3 := Aside0.mk hN; have HB3 := Aside0.mk hB; clear hN hB hg hat))
            have htk : first.take (k + 1) = first.take k ++ [first[k]] := List.take_succ_eq_append_getElem hlt
            refine ⟨⟨k + 1, hlt, by go_num, ⟨?_⟩, ⟨Fr.of_below HB3.out _⟩, ⟨fun b hb => ?_⟩⟩, by simp [intOf]; omega⟩
            · have h := HN3.out
              rw [← htk, List.length_take] at h
              exact h
            · rw [htk] at hb
              rcases List.mem_append.mp hb with hb | hb
              · exact HLE.out b hb
              · rw [List.mem_singleton] at hb; subst hb; exact h30
          · have hgt2 : (first[k].length : Int) > 30 := by omega
            go_wp2_with (go_at_call 11; refine (HW _).mono ?_; rintro e w2 ⟨rfl, hb2⟩; have HB2 := Aside0.mk hb2; clear hb2)
            go_ret
            exact ⟨rfl, (HFR.out.then_below HB2.out).below (fun k hk => hk.elim)⟩
        · obtain rfl : k = first.length := by omega
          have hS := HS.out
          have hLE := HLE.out
          rw [List.take_length] at hS hLE
          obtain ⟨A5, c5, rfl⟩ := Kd.S_slice hS
          have HS5 := Aside0.mk (Kd.S_mono (Kd.S_bound hS) (fun k hk => hk.2.2.1))
          have HLE5 := Aside0.mk hLE
          have hc5 := (Kd.R_reads' (Kd.S_R hS)).2.1
          clear HS hS HLE hLE
          go_upto_region 11 with (go_at_call 13; refine (of_calls A5 first.length c5 first (fun _ => True) wr (Kd.R_F (Kd.S_R (Kd.S_mono HS5.out (fun _ _ => trivial)))) hc5 (by omega) (fun b hb => by have := HLE5.out b hb; omega)).mono ?_; rintro e w2 ⟨A6, n6, c6, rfl, hb2, hc6, hn6, hF6⟩; have HB2 := Aside0.mk hb2; have HF6 := Aside0.mk hF6; have HN6 := Aside0.mk hn6; clear hb2 hF6 hn6)
          obtain rfl := HN6.out
          go_upto_region 12 with (go_at_call 14; refine (rof_calls A0 first.length c0 first _ (Kd.F_now (Kd.F_kept H0.out ((HFR.out.then_below HB2.out).alloc _).kept (fun _ _ h => h))) hc0 (by omega) (fun b hb => by have := HLE5.out b hb; omega)).mono ?_; rintro e w3 ⟨A8, n8, c8, rfl, hc8, hF8, hb3⟩; have HB3 := Aside0.mk hb3; have HF8 := Aside0.mk hF8; clear hb3 hF8)
          have HY := Aside0.mk (Sys.make HFR.out HB2.out HF6.out hc6 HB3.out HF8.out hc8)
          have HKS := Aside0.mk (Kd.S_below (Kd.S_below (Kd.S_below (Kd.S_below HS5.out HB2.out) (below_alloc (Below.refl _ _) _)) HB3.out) (below_alloc (Below.refl _ _) (.cells #[.slice A8 n8 c8] 34)))
          have hN7 := HB2.out.size
          have hN8 : wr.heap.size ≤ w3.heap.size := by have := HB3.out.size; rw [World.size_alloc] at this; omega
          generalize w3.alloc (.cells #[.slice A8 n8 c8] 34) = W at HY HKS ⊢
          have HN7 := Aside0.mk hN7
          have HN8 := Aside0.mk hN8
          have HSM := Aside0.mk (Sm.of h20 HLE5.out)
          clear HB2 HF6 hc6 HB3 HF8 hc8 HN6 hN7 hN8 HS5 HFR
          generalize w2.heap.size = g7 at HY HN7 ⊢
          generalize w3.heap.size = g8 at HY HN8 ⊢
          generalize wr.heap.size = N at HY HKS HN7 HN8
          clear wr
          go_wp2
          go_loopw [9] (fun v9 wr => ∃ k : Nat, k ≤ first.length ∧ v9 = .int .i64 k ∧ Aside0 (Sys w wr (fun k => k < N ∨ k = g7 ∨ k = g8) g7 g8 (ofOf first) ((ofOf first).map toR)) ∧ ∃ xs : List (List Int), Aside0 (Kd.S (Kd.slice 5 (Kd.int .u8)) 26 wr w.heap.size (fun k => k < N) (.slice A5 first.length c5) xs) ∧ Aside0 (∀ b ∈ xs, b.length ≤ 30)) (fun v9 _ => first.length - (intOf v9).toNat)
          case atStart => exact ⟨0, Nat.zero_le _, rfl, HY, first, HKS, HLE5⟩
          case round =>
            obtain ⟨k, hk, rfl, HY1, xs, HS1, HX1⟩ := hrel
            have hxl := (Kd.R_reads' (Kd.S_R HS1.out)).1
            by_cases hlt : k < first.length
            · obtain ⟨gA, capA, he, hgA⟩ := Kd.S_form HS1.out (by omega)
              injection he with hA hl2 hc2
              subst hA
              obtain ⟨oki, cc, hcl, hM, hcc, hoki, hH⟩ := Kd.S_lend HS1.out [] (k : Int) (by omega) (by omega)
              obtain ⟨v, rfl, hR⟩ := hM
              obtain ⟨Av, cv, rfl⟩ := Kd.R_slice hR
              have hcell := hcc 0 _ rfl
              rw [show (Kd.slice 5 (Kd.int .u8)).sz = 1 from rfl, Int.toNat_natCast, Nat.mul_one, Nat.add_zero] at hcell; try rw [Int.toNat_natCast] at hcell
              rw [Int.toNat_natCast] at hR
              rw [Int.toNat_natCast] at hH
              have hx30 : (xs.getD k []).length ≤ 30 := by
                rw [List.getD_eq_getElem?_getD, List.getElem?_eq_getElem (by omega)]
                exact HX1.out _ (List.getElem_mem _)
              generalize xs.getD k [] = x at hR hx30 hcell hH
              clear hxl
              have HR := Aside0.mk hR
              have HH := Aside0.mk hH
              have HOK := Aside0.mk hoki
              clear hR hH hoki hcc hcl hl2 hc2 hgA
              go_wp2_with (go_at_call 15; refine (spoil_calls _ x w.heap.size wr (Kd.R_mono HR.out (fun _ _ => trivial)) (by omega) HY1.out.fr.1).mono ?_; rintro e w4 ⟨rfl, hk4, r4, hr4⟩; have HK4 := Aside0.mk hk4; have HR4 := Aside0.mk hr4; clear hk4 hr4)
              have h4 := HR4.out
              have hrl : r4.length = x.length := (Kd.R_reads' h4).1.symm.trans (Kd.R_reads' HR.out).1
              have hH4 := Kd.H_step HH.out (w1 := w4) (fun j hj hn hlt4 => HK4.out.2.1 j hlt4 (fun he => hn (HR.out.1 j he.symm)))
              have hS4 := Kd.H_back hH4 (x' := r4) (okp := fun j => some j = (Value.slice Av x.length cv).ownBlock) ⟨_, rfl, h4⟩ (fun j hj => HR.out.1 j hj.symm)
              have hn7 := HN7.out
              have hn8 := HN8.out
              have hY4 := HY1.out.touch HK4.out (fun j hj => by
                have h5 := (HOK.out j (HR.out.1 j hj.symm)).1
                have h6 := Kd.R_base HR.out j hj.symm
                exact ⟨.inl h5, by omega, by omega, h6⟩)
              have HY4 := Aside0.mk hY4
              have HS4 := Aside0.mk hS4
              clear hY4 hS4 hH4 h4
              go_roundw
              case rel =>
                refine ⟨k + 1, hlt, by go_num, HY4, _, HS4, ⟨fun b hb => ?_⟩⟩
                rcases List.mem_or_eq_of_mem_set hb with hb | hb
                · exact HX1.out b hb
                · subst hb; omega
              case measure => simp [intOf]; omega
            · obtain rfl : k = first.length := by omega
              have hy := HY1.out.weaken (G' := fun k => k = g7 ∨ k = g8) (fun k hk => .inr hk) (.inl rfl) (.inr rfl)
              have HY2 := Aside0.mk hy
              clear HS1 HX1 HY1 HY HKS hy hxl
              rename World => wo
              go_wp2
              go_loopw [10, 11] (fun v10 v11 wr => ∃ k : Nat, k ≤ l.length ∧ v10 = .int .i64 k ∧ ∃ ps : List S52, Aside0 (Sys w wr (fun k => k = g7 ∨ k = g8) g7 g8 ps (ps.map toR)) ∧ Aside0 (Sm (20 + k) 30 ps)) (fun v10 _ _ => l.length - (intOf v10).toNat)
              case atStart => exact ⟨0, Nat.zero_le _, rfl, _, HY2, HSM⟩
              case round =>
                obtain ⟨k, hk, rfl, ps, HY3, HSM3⟩ := hrel
                have h7 := HY3.out.lt7
                have h8 := HY3.out.lt8
                have hG : ∀ j, (j = g7 ∨ j = g8) → j < wr.heap.size := fun j hj => by rcases hj with hj | hj <;> omega
                have HG := Aside0.mk hG
                have hpl := HSM3.out.len
                have HB3 := Aside0.mk HSM3.out.each
                clear hG
                by_cases hlt : k < l.length
                · obtain ⟨ad, B1, b1, B2, b2, rfl, hq0, hq1, hq2, hl1b, hf1, hl2b, hf2, hadok⟩ := act_at (Kd.F_kept H1.out HY3.out.fr.kept (fun _ _ h => h)) k hlt
                  have hx := HX.out _ (List.getElem_mem hlt)
                  generalize l[k] = x at hq0 hq1 hq2 hl1b hf1 hl2b hf2 hx
                  have HF1 := Aside0.mk hf1
                  have HF2 := Aside0.mk hf2
                  have HQ0 := Aside0.mk hq0
                  clear hf1 hf2
                  obtain ⟨p, hp⟩ := pick_calls x.f0
                  have HP := Aside0.mk hp
                  clear hp
                  by_cases h2 : p = 2
                  · subst h2
                    go_upto_region 25 with (go_at_call 16; refine (HP.out _).mono ?_; rintro e wp ⟨rfl, hbp⟩; have HBP := Aside0.mk hbp; clear hbp)
                    have hgp : ∀ j, (j = g7 ∨ j = g8) → j < wp.heap.size := fun j hj => Nat.lt_of_lt_of_le (HG.out j hj) HBP.out.size
                    have HGP := Aside0.mk hgp
                    have HY4 := Aside0.mk (HY3.out.below HBP.out)
                    clear hgp HY3
                    go_upto_region 26 with (go_at_call 17; refine (Sys.sync HY4.out (by omega) HGP.out).mono ?_; rintro e w4 ⟨rfl, hy, hfr⟩; have HY5 := Aside0.mk hy; have HFR5 := Aside0.mk hfr; clear hy hfr)
                    have hg4 : ∀ j, (j = g7 ∨ j = g8) → j < w4.heap.size := fun j hj => Nat.lt_of_lt_of_le (HGP.out j hj) HFR5.out.1
                    have HG4 := Aside0.mk hg4
                    clear hg4
                    obtain ⟨A8y, n8y, c8y, hc8y, hz8y, hlc8y, hf8y⟩ := HY5.out.get8
                    have HF8Y := Aside0.mk hf8y
                    clear hf8y
                    go_upto_region 30 with (go_at_call 18; refine (rsync_calls A8y n8y c8y ps w4 (Kd.F_now HF8Y.out) hlc8y (HSM3.out.few (by omega) (by omega))).mono ?_; rintro e w5 ⟨A9, n9, c9, rfl, hlc9, hf9, hb9⟩; obtain ⟨Ax, nx, cx, hcx, hzx, -, -⟩ := (HY5.out.below hb9).get8; have HF9 := Aside0.mk hf9; have HB9 := Aside0.mk hb9; clear hf9 hb9)
                    have HY6 := Aside0.mk (HY5.out.rstep HB9.out HG4.out hlc9 (Kd.F_mono HF9.out (fun j hj => .inr hj)))
                    have HS6 := Aside0.mk ((HSM3.out.tidy.dur).mono (show 20 + k ≤ 20 + (k + 1) by omega) (Nat.le_refl 30))
                    generalize w5.setCell ⟨g8, 0, none⟩ (.slice A9 n9 c9) = w6 at HY6 ⊢
                    clear HY4 HY5 HF8Y HF9 HB9 hcx hzx hc8y hz8y
                    obtain ⟨A7, n7, c7, hc7, hz7, hlc7, hf7⟩ := HY6.out.get7
                    obtain ⟨A8x, n8x, c8x, hc8, hz8, hlc8, hf8⟩ := HY6.out.get8
                    have HF7 := Aside0.mk hf7
                    have HF8 := Aside0.mk hf8
                    clear hf7 hf8
                    go_wp2_with (go_at_call 23; refine (is_calls A7 n7 c7 _ A8x n8x c8x w6 (Kd.F_now HF7.out) hlc7 (Kd.F_now HF8.out) hlc8 (HS6.out.few (by omega) (by omega))).mono ?_; rintro e w7 ⟨rfl, hb7⟩; have HB7 := Aside0.mk hb7; clear hb7)
                    refine ⟨⟨k + 1, hlt, by go_num, _, ⟨HY6.out.below HB7.out⟩, HS6⟩, ?_⟩
                    simp [intOf]; omega
                  · by_cases h3 : p = 3
                    · subst h3
                      go_upto_region 28 with (go_at_call 16; refine (HP.out _).mono ?_; rintro e wp ⟨rfl, hbp⟩; have HBP := Aside0.mk hbp; clear hbp)
                      have hgp : ∀ j, (j = g7 ∨ j = g8) → j < wp.heap.size := fun j hj => Nat.lt_of_lt_of_le (HG.out j hj) HBP.out.size
                      have HGP := Aside0.mk hgp
                      have hp2 := pw_cell_below HBP.out hq2
                      have HY4 := Aside0.mk (HY3.out.below HBP.out)
                      have HK4 := Aside0.mk (Kd.F_kept HF2.out (Fr.of_below HBP.out (fun _ => False)).kept (fun _ _ h => h))
                      clear hgp HY3
                      go_upto_region 29 with (go_at_call 19; refine (Sys.fail HY4.out (by omega) (fun q hq => by have := HB3.out q hq; omega) HGP.out B2 x.f2.length b2 x.f2 _ HK4.out hl2b (fun j hj => ⟨by have := HY4.out.fr.1; omega, by have := HY4.out.ge7; omega⟩)).mono ?_; rintro e w4 ⟨rfl, hy, hfr⟩; have HY5 := Aside0.mk hy; have HFR5 := Aside0.mk hfr; clear hy hfr)
                      have hg4 : ∀ j, (j = g7 ∨ j = g8) → j < w4.heap.size := fun j hj => Nat.lt_of_lt_of_le (HGP.out j hj) HFR5.out.1
                      have HG4 := Aside0.mk hg4
                      clear hg4
                      obtain ⟨A8y, n8y, c8y, hc8y, hz8y, hlc8y, hf8y⟩ := HY5.out.get8
                      have HF8Y := Aside0.mk hf8y
                      clear hf8y
                      have h47 : ¬ (ad.add (k * 3)).block = g7 := by rw [show (ad.add (k * 3)).block = ad.block by unfold Addr.add; split <;> rfl]; have := HY4.out.ge7; omega
                      have hp4 := cellFr HFR5.out (a := ⟨(ad.add (k * 3)).block, (ad.add (k * 3)).off + 2, none⟩) h47 hp2
                      go_still_tail 6, (by kernel_rfl)
                      change wpList _ _ _ _ _ w4.drew
                      have HYD := Aside0.mk (HY5.out.below (below_drew (Below.refl w4.heap.size w4)))
                      have HKD := Aside0.mk (Kd.F_below (Kd.F_bound (Kd.F_kept HK4.out HFR5.out.kept (fun j hj hj7 => by have := HY4.out.ge7; omega))) (below_drew (Below.refl w4.heap.size w4)))
                      have HGD : Aside0 (∀ j, (j = g7 ∨ j = g8) → j < w4.drew.heap.size) := ⟨HG4.out⟩
                      have HFD := Aside0.mk (Kd.F_below (Kd.F_bound HF8Y.out) (below_drew (Below.refl w4.heap.size w4)))
                      generalize w4.drew = wd at HYD HKD HGD HFD ⊢
                      go_upto_region 30 with (go_at_call 20; refine (rfail2_calls _ A8y n8y c8y ps B2 x.f2.length b2 x.f2 wd HFD.out hlc8y (HSM3.out.few (by omega) (by omega)) (Kd.F_now HKD.out) hl2b (by omega)).mono ?_; rintro e w5 ⟨A9, n9, c9, rfl, hlc9, hf9, hb9⟩; obtain ⟨Ax, nx, cx, hcx, hzx, -, -⟩ := (HYD.out.below hb9).get8; have HF9 := Aside0.mk hf9; have HB9 := Aside0.mk hb9; clear hf9 hb9)
                      have HY6 := Aside0.mk (HYD.out.rstep HB9.out HGD.out hlc9 (Kd.F_mono HF9.out (fun j hj => hj.imp (fun h => h.1) (fun h => h))))
                      have HS6 := Aside0.mk ((HSM3.out.tidy.fail x.f2).mono (show 20 + k ≤ 20 + (k + 1) by omega) (Nat.le_refl 30))
                      generalize w5.setCell ⟨g8, 0, none⟩ (.slice A9 n9 c9) = w6 at HY6 ⊢
                      clear HY4 HY5 HYD HF8Y HFD HF9 HB9 hcx hzx hc8y hz8y hp4 hp2 HK4 HKD
                      obtain ⟨A7, n7, c7, hc7, hz7, hlc7, hf7⟩ := HY6.out.get7
                      obtain ⟨A8x, n8x, c8x, hc8, hz8, hlc8, hf8⟩ := HY6.out.get8
                      have HF7 := Aside0.mk hf7
                      have HF8 := Aside0.mk hf8
                      clear hf7 hf8
                      go_wp2_with (go_at_call 23; refine (is_calls A7 n7 c7 _ A8x n8x c8x w6 (Kd.F_now HF7.out) hlc7 (Kd.F_now HF8.out) hlc8 (HS6.out.few (by omega) (by omega))).mono ?_; rintro e w7 ⟨rfl, hb7⟩; have HB7 := Aside0.mk hb7; clear hb7)
                      refine ⟨⟨k + 1, hlt, by go_num, _, ⟨HY6.out.below HB7.out⟩, HS6⟩, ?_⟩
                      simp [intOf]; omega
                    · go_upto_region 20 with (go_at_call 16; refine (HP.out _).mono ?_; rintro e wp ⟨rfl, hbp⟩; have HBP := Aside0.mk hbp; clear hbp)
                      have hgp : ∀ j, (j = g7 ∨ j = g8) → j < wp.heap.size := fun j hj => Nat.lt_of_lt_of_le (HG.out j hj) HBP.out.size
                      have hp1 := pw_cell_below HBP.out hq1
                      have HY4 := Aside0.mk (HY3.out.below HBP.out)
                      have HK4 := Aside0.mk (Kd.F_kept HF1.out (Fr.of_below HBP.out (fun _ => False)).kept (fun _ _ h => h))
                      have HGP := Aside0.mk hgp
                      clear hgp HY3
                      go_upto_region 21 with (go_at_call 12; refine (own_calls B1 x.f1.length b1 x.f1 wp (Kd.F_now HK4.out) hl1b (by omega)).mono ?_; rintro e wq ⟨A2, c2, rfl, hlc2, hR2, hb2⟩; have HR2 := Aside0.mk hR2; have HB2 := Aside0.mk hb2; clear hR2 hb2)
                      have HYQ := Aside0.mk (HY4.out.reserve HB2.out)
                      have hgq : ∀ j, ((j = g7 ∨ j = g8) ∨ (wp.heap.size ≤ j ∧ j < wq.heap.size)) → j < wq.heap.size := fun j hj => hj.elim (fun h => Nat.lt_of_lt_of_le (HGP.out j h) HB2.out.size) (fun h => h.2)
                      have HGQ := Aside0.mk hgq
                      have hpq := pw_cell_below HB2.out hp1
                      clear hgq
                      go_upto_region 22 with (go_at_call 21; refine (Sys.app HYQ.out (by omega) HGQ.out A2 x.f1.length c2 x.f1 _ (Kd.R_F HR2.out) hlc2 (by omega)).mono ?_; rintro e w4 ⟨rfl, hy, hfr⟩; have HY5 := Aside0.mk hy; have HFR5 := Aside0.mk hfr; clear hy hfr)
                      obtain ⟨A8y, n8y, c8y, hc8y, hz8y, hlc8y, hf8y⟩ := HY5.out.get8
                      have HF8Y := Aside0.mk hf8y
                      clear hf8y
                      have h47 : ¬ (ad.add (k * 3)).block = g7 := by rw [show (ad.add (k * 3)).block = ad.block by unfold Addr.add; split <;> rfl]; have := HY4.out.ge7; omega
                      have hp4 := cellFr HFR5.out (a := ⟨(ad.add (k * 3)).block, (ad.add (k * 3)).off + 1, none⟩) h47 hpq
                      go_still_tail 6, (by kernel_rfl)
                      change wpList _ _ _ _ _ w4.drew
                      have HYD := Aside0.mk (HY5.out.below (below_drew (Below.refl w4.heap.size w4)))
                      have HKD := Aside0.mk (Kd.F_below (Kd.F_bound (Kd.F_kept (Kd.F_kept HK4.out (Fr.of_below HB2.out (fun _ => False)).kept (fun _ _ h => h)) HFR5.out.kept (fun j hj hj7 => by have := HY4.out.ge7; omega))) (below_drew (Below.refl w4.heap.size w4)))
                      have HGD : Aside0 (∀ j, ((j = g7 ∨ j = g8) ∨ (wp.heap.size ≤ j ∧ j < wq.heap.size)) → j < w4.drew.heap.size) := ⟨fun j hj => Nat.lt_of_lt_of_le (HGQ.out j hj) HFR5.out.1⟩
                      have HFD := Aside0.mk (Kd.F_below (Kd.F_bound HF8Y.out) (below_drew (Below.refl w4.heap.size w4)))
                      have HFRD : Aside0 (Fr wq w4.drew (fun k => k = g7)) := ⟨HFR5.out.drew⟩
                      generalize w4.drew = wd at HYD HKD HGD HFD HFRD ⊢
                      go_upto_region 23 with (go_at_call 22; refine (rapp_calls A8y n8y c8y ps B1 x.f1.length b1 x.f1 wd (Kd.F_now HFD.out) hlc8y (HSM3.out.few (by omega) (by omega)) (Kd.F_now HKD.out) hl1b (by omega)).mono ?_; rintro e w5 ⟨A9, n9, c9, rfl, hlc9, hf9, hb9⟩; obtain ⟨Ax, nx, cx, hcx, hzx, -, -⟩ := (HYD.out.below hb9).get8; have HF9 := Aside0.mk hf9; have HB9 := Aside0.mk hb9; clear hf9 hb9)
                      have HYS := Aside0.mk (HYD.out.rstep HB9.out HGD.out hlc9 (Kd.F_mono HF9.out (fun j hj => .inr hj)))
                      have HS6 := Aside0.mk (((HSM3.out.app (b := x.f1) (by omega) false).tidy).mono (show 20 + k + 1 ≤ 20 + (k + 1) by omega) (Nat.le_refl 30))
                      have hown : ∀ j, (Value.slice A2 x.f1.length c2).ownBlock = some j → wp.heap.size ≤ j ∧ j < wq.heap.size := fun j hj => ⟨Kd.R_base HR2.out j hj, Kd.R_lt HR2.out j hj⟩
                      have HRS := Aside0.mk (R_own_step rfl HR2.out (W := w5.setCell ⟨g8, 0, none⟩ (.slice A9 n9 c9)) (fun j hj => by
                        have h1 := hown j hj
                        have h2 := HGP.out g7 (.inl rfl)
                        have h3 := HGP.out g8 (.inr rfl)
                        have h4 := HFRD.out.1
                        rw [Below.heap_setCell _ _ _ _ (show j ≠ g8 by omega), HB9.out.block j (by omega)]
                        exact HFRD.out.2.1 j h1.2 (by omega)))
                      have hsz : wp.heap.size ≤ (w5.setCell ⟨g8, 0, none⟩ (.slice A9 n9 c9)).heap.size := by have := HB9.out.size; have := HFRD.out.1; have := HB2.out.size; simp [World.setCell]; omega
                      have HOWN := Aside0.mk hown
                      generalize w5.setCell ⟨g8, 0, none⟩ (.slice A9 n9 c9) = ws at HYS HRS hsz ⊢
                      have HSZ := Aside0.mk hsz
                      clear HY5 HYD HF8Y HFD HF9 HB9 hcx hzx hc8y hz8y hp4 hp1 hpq HK4 HKD hown hsz HFR5 HFRD HYQ HR2 hlc2
                      go_upto_region 30 with (go_at_call 15; refine (spoil_calls _ x.f1 wp.heap.size ws HRS.out (by omega) HSZ.out).mono ?_; rintro e w6 ⟨rfl, hk6, -⟩; have HK6 := Aside0.mk hk6; clear hk6)
                      have HY6 := Aside0.mk ((HYS.out.touch HK6.out (fun j hj => by
                        have h1 := HOWN.out j hj.symm
                        have h2 := HGP.out g7 (.inl rfl)
                        have h3 := HGP.out g8 (.inr rfl)
                        have h4 := HY4.out.fr.1
                        exact ⟨.inr h1, by omega, by omega, by omega⟩)).weaken (G' := fun k => k = g7 ∨ k = g8) (fun j hj => .inl hj) (.inl rfl) (.inr rfl))
                      clear HY4 HYS HRS HK6
                      obtain ⟨A7, n7, c7, hc7, hz7, hlc7, hf7⟩ := HY6.out.get7
                      obtain ⟨A8x, n8x, c8x, hc8, hz8, hlc8, hf8⟩ := HY6.out.get8
                      have HF7 := Aside0.mk hf7
                      have HF8 := Aside0.mk hf8
                      clear hf7 hf8
                      go_wp2_with (go_at_call 23; refine (is_calls A7 n7 c7 _ A8x n8x c8x w6 (Kd.F_now HF7.out) hlc7 (Kd.F_now HF8.out) hlc8 (HS6.out.few (by omega) (by omega))).mono ?_; rintro e w7 ⟨rfl, hb7⟩; have HB7 := Aside0.mk hb7; clear hb7)
                      refine ⟨⟨k + 1, hlt, by go_num, _, ⟨HY6.out.below HB7.out⟩, HS6⟩, ?_⟩
                      simp [intOf]; omega
                · obtain rfl : k = l.length := by omega
                  obtain ⟨A7, n7, c7, hc7, hz7, hlc7, hf7⟩ := HY3.out.get7
                  obtain ⟨A8, n8, c8, hc8, hz8, hlc8, hf8⟩ := HY3.out.get8
                  have HF7 := Aside0.mk hf7
                  have HF8 := Aside0.mk hf8
                  clear hf7 hf8
                  go_wp2_with first | (go_at_call 23; refine (is_calls A7 n7 c7 ps A8 n8 c8 wr (Kd.F_now HF7.out) hlc7 (Kd.F_now HF8.out) hlc8 (HSM3.out.few (by omega) (by omega))).mono ?_; rintro e w5 ⟨rfl, hb5⟩; have HB5 := Aside0.mk hb5; clear hb5) | (go_at_call 11; refine (HW _).mono ?_; rintro e w6 ⟨rfl, hb6⟩; have HB6 := Aside0.mk hb6; clear hb6)
                  go_ret
                  exact ⟨rfl, ((HY3.out.fr.then_below HB5.out).then_below HB6.out).below (fun k hk => hk.elim)⟩
    · have hgt : (first.length : Int) > 20 := by omega
      go_wp2_with first | (go_at_call 10; refine HCF.out.mono ?_; rintro e w1 ⟨rfl, hd1⟩; have HD1 := Aside0.mk hd1.below; clear hd1) | (go_at_call 11; refine (HW _).mono ?_; rintro e w2 ⟨rfl, hb2⟩; have HB2 := Aside0.mk hb2; clear hb2)
      go_ret
      exact ⟨rfl, belowThen HD1.out HB2.out⟩
end Go.Proofs.Ytbpnbhccdpobpaa
