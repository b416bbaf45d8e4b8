import Derived.Test.YtbpnbhccdpobpaaE16
import Derived.Test.YtbpnbhccdpobpaaK1
import Derived.BigQuiet
import Derived.Deep.QuietTactic
/-! ExtentKeeps. -/
set_option linter.unusedVariables false
set_option linter.unusedSimpArgs false
namespace Go.Proofs.Ytbpnbhccdpobpaa
open Go.RowKit Go.Proofs.YtbpnbhccdpobpaaW.PrintWords PExtentKnown

/-! One file. -/
section
variable {w0 W W' : World} {g : Nat} {ps : List S52}
theorem Fs.get1 (h : Fs w0 W [g] [ps]) : ∃ A n c, W.cell? ⟨g, 0, none⟩ = some (.slice A n c) ∧ W.frozen? ⟨g, 0, none⟩ = false ∧ n ≤ c ∧ Kd.F k52 W (fun k => w0.heap.size ≤ k ∧ k ∉ [g]) A n ps := by
  obtain ⟨A, c, h1, h2, h3, h4⟩ := h.get 0 g ps rfl rfl
  exact ⟨A, _, c, h1, h2, h3, h4⟩
theorem Fs.sync1 (h : Fs w0 W [g] [ps]) (hl : ps.length ≤ 1000000) :
    Calls Try.prog 17 #[.pointer (some ⟨g, 0, none⟩)] W fun e w' => e = .returned (.tuple #[]) ∧ Fs w0 w' [g] [(tidyOf ps).map dur] ∧ Fr W w' (fun k => k = g) :=
  (sync_calls g _ ps W (h.at_ 0 g ps rfl rfl) hl).mono fun e w' hq => ⟨hq.1, h.upd 0 g rfl _ hq.2.1 hq.2.2, hq.2.1⟩
theorem Fs.app1 (h : Fs w0 W [g] [ps]) (hl : ps.length ≤ 1000000) (Ab : Option Addr) (nb cb : Nat) (bs : List Int) (okb : Nat → Prop) (hb : Kd.F (Kd.int .u8) W okb Ab nb bs) (hnb : nb ≤ cb) (hlb : nb ≤ 1000000) :
    Calls Try.prog 21 #[.pointer (some ⟨g, 0, none⟩), .slice Ab nb cb] W fun e w' => e = .returned (.tuple #[]) ∧ Fs w0 w' [g] [tidyOf (ps ++ [⟨bs, false⟩])] ∧ Fr W w' (fun k => k = g) :=
  (append_calls g _ ps Ab nb cb bs okb W (h.at_ 0 g ps rfl rfl) hl hb hnb hlb).mono fun e w' hq => ⟨hq.1, h.upd 0 g rfl _ hq.2.1 hq.2.2, hq.2.1⟩
theorem Fs.fail1 (h : Fs w0 W [g] [ps]) (hl : ps.length ≤ 1000000) (hlb : ∀ p ∈ ps, p.f0.length ≤ 1000000) (Ak : Option Addr) (nk ck : Nat) (keep : List Bool) (okk : Nat → Prop) (hk : Kd.F Kd.bool W okk Ak nk keep) (hnk : nk ≤ ck) (hokk : ∀ k, okk k → k < W.heap.size ∧ k ≠ g) :
    Calls Try.prog 19 #[.pointer (some ⟨g, 0, none⟩), .slice Ak nk ck] W fun e w' => e = .returned (.tuple #[]) ∧ Fs w0 w' [g] [failOf (tidyOf ps) keep] ∧ Fr W w' (fun k => k = g) :=
  (fail_calls g _ ps Ak nk ck keep okk W (h.at_ 0 g ps rfl rfl) hl hlb hk hnk hokk).mono fun e w' hq => ⟨hq.1, h.upd 0 g rfl _ hq.2.1 hq.2.2, hq.2.1⟩
theorem Fs.ge1 (h : Fs w0 W [g] [ps]) : w0.heap.size ≤ g ∧ g < W.heap.size := ⟨h.new_ g (by simp), h.lt g (by simp)⟩
end
theorem kbytes_calls (g : Nat) (A : Option Addr) (n c : Nat) (ps : List S52) (w : World) (hg : g < w.heap.size) (hF : Kd.C k52 w A n ps) (hn : n ≤ c) (hf : Few (ps.map toR)) :
    Calls Try.prog 25 #[.agg #[.slice A n c]] w fun e w' => ∃ A' n' c', e = .returned (.slice A' n' c') ∧ n' ≤ c' ∧ Kd.F (Kd.int .u8) w' (fun k => k ≠ g) A' n' (bsOf ps) ∧ Below w.heap.size w w' := by
  refine (ebytes_calls A n c ps w hF hn hf).mono ?_
  rintro e w' ⟨A', c', rfl, -, hc, hR, hb⟩
  exact ⟨A', _, c', rfl, hc, Kd.F_mono (Kd.R_F (Kd.R_tight rfl hR)) (fun k hk => by have := Kd.R_base hR k hk.symm; omega), hb⟩
theorem klen_calls (A : Option Addr) (n c : Nat) (ps : List S52) (w : World) (hF : Kd.C k52 w A n ps) (hn : n ≤ c) (hf : Few (ps.map toR)) (m : Int) (hm : ((bsOf ps).length : Int) = m) :
    Calls Try.prog 24 #[.agg #[.slice A n c]] w fun e w' => e = .returned (.int .i64 m) ∧ Below w.heap.size w w' := by
  have hl : ps.length = n := hF.1
  subst hl
  subst hm
  obtain ⟨K, hk⟩ := elen_ev ps hf
  exact extent_File_Len.calls K A c ps _ w hF hn (hk K (Nat.le_refl _))
theorem ksame_calls (A : Option Addr) (n c : Nat) (A2 : Option Addr) (n2 c2 : Nat) (xs : List Int) (ok ok2 : Nat → Prop) (w : World) (h : Kd.F (Kd.int .u8) w ok A n xs) (hc : n ≤ c) (h2 : Kd.F (Kd.int .u8) w ok2 A2 n2 xs) (hc2 : n2 ≤ c2) (hl : n ≤ 1000000) :
    Calls Try.prog 27 #[.slice A n c, .slice A2 n2 c2] w fun e w' => e = .returned (.bool true) ∧ Below w.heap.size w w' := by
  have hx := Kd.F_len h
  have hx2 := Kd.F_len h2
  subst hx; subst hx2
  exact (chartroomkit_SameBytes.calls (xs.length + 1) A c xs A2 c2 xs true w (Kd.F_now h) hc (Kd.F_now h2) hc2 (sameb_at xs (by omega) _ (by omega))).mono fun e w' hq => ⟨hq.1, hq.2.below⟩
theorem bsOf_le {n m : Nat} {ps : List S52} (h : Sm n m ps) : (bsOf ps).length ≤ n * m := by
  have h1 := cont_le (ps.map toR) m (fun p hp => by
    obtain ⟨q, hq, rfl⟩ := List.mem_map.mp hp
    exact h.each q hq)
  rw [List.length_map] at h1
  exact Nat.le_trans h1 (Nat.mul_le_mul_right _ h.len)
theorem volOf_len (ps : List S52) : volOf (ps.map toR) ≤ ps.length := by
  have := List.length_filter_le (fun p : S85 => !(p.f0.length == 0) && !p.f1) (ps.map toR)
  rw [List.length_map] at this
  exact this
theorem F_atI {ok : Nat → Prop} {A : Option Addr} {n : Nat} {w : World} {xs : List Int} (h : Kd.F (Kd.int .u8) w ok A n xs) (k : Nat) (hk : k < n) :
    ∃ ad x, A = some ad ∧ w.cell? (ad.add k) = some (.int .u8 x) ∧ xs[k]? = some x := by
  have hn := Kd.F_len h
  obtain ⟨ad, e, hc, _⟩ := F_get1 (Value.int .u8) h k (by omega)
  exact ⟨ad, _, e, hc, List.getElem?_eq_getElem (by omega)⟩
theorem F_atB {ok : Nat → Prop} {A : Option Addr} {n : Nat} {w : World} {xs : List Bool} (h : Kd.F Kd.bool w ok A n xs) (k : Nat) (hk : k < n) :
    ∃ ad, A = some ad ∧ w.cell? (ad.add k) = some (.bool (xs.getD k false)) := by
  have hn := Kd.F_len h
  obtain ⟨ad, e, hc, _⟩ := F_get1 Value.bool h k (by omega)
  refine ⟨ad, e, ?_⟩
  rw [List.getD_eq_getElem?_getD, List.getElem?_eq_getElem (by omega)]
  exact hc

set_option maxHeartbeats 2000000 in
set_option maxRecDepth 100000 in
theorem keeps_calls (HW : Works) (A0 : Option Addr) (n0 c0 : Nat) (l : List S40) (A1 : Option Addr) (n1 c1 : Nat) (keep : List Bool) (A2 : Option Addr) (n2 c2 : Nat) (again : List Bool) (ok0 ok1 ok2 : Nat → Prop) (w : World)
    (h0 : Kd.F k40 w ok0 A0 n0 l) (hc0 : n0 ≤ c0) (h1 : Kd.F Kd.bool w ok1 A1 n1 keep) (hc1 : n1 ≤ c1) (h2 : Kd.F Kd.bool w ok2 A2 n2 again) (hc2 : n2 ≤ c2) :
    Calls Try.prog 4 #[.slice A0 n0 c0, .slice A1 n1 c1, .slice A2 n2 c2] w fun e w' => e = .returned (.bool true) ∧ Below w.heap.size w w' := by
  have H0 := Aside0.mk (Kd.F_bound h0)
  have H1 := Aside0.mk (Kd.F_bound h1)
  have H2 := Aside0.mk (Kd.F_bound h2)
  have hx0 := Kd.F_len h0
  have HX1 := Aside0.mk (Kd.F_len h1)
  have HX2 := Aside0.mk (Kd.F_len h2)
  subst hx0
  obtain ⟨b, hb, hbt⟩ := few_at l 30 (by omega)
  have HBT := Aside0.mk hbt
  have hcf := chartroomlaw07_few.calls 203 A0 c0 l 30 b w (Kd.F_now h0) hc0 hb
  have HCF := Aside0.mk hcf
  clear h0 h1 h2 hbt hb hcf
  go_enter Try.func4, Try.ntmps4
  cases b with
  | false =>
    go_wp2_with first | (go_at_call 10; refine HCF.out.mono ?_; rintro e w1 ⟨rfl, hd1⟩; have HD1 := Aside0.mk hd1.below; clear hd1) | (go_at_call 11; refine (HW _).mono ?_; rintro e w2 ⟨rfl, hb2⟩; have HB2 := Aside0.mk hb2; clear hb2)
    go_ret
    exact ⟨rfl, belowThen HD1.out HB2.out⟩
  | true =>
    obtain ⟨hl30, hx30⟩ := HBT.out rfl
    have HX := Aside0.mk hx30
    clear hx30 HBT
    by_cases hk30 : n1 ≤ 30
    · have hng1 : ¬ ((n1 : Int) > 30) := by omega
      by_cases ha30 : n2 ≤ 30
      · have hng2 : ¬ ((n2 : Int) > 30) := by omega
        go_upto_region 3 with (go_at_call 10; refine HCF.out.mono ?_; rintro e w1 ⟨rfl, hd1⟩; have HD1 := Aside0.mk hd1.below; clear hd1)
        go_upto_region 4 with (go_at_call 13; refine (of_calls none 0 0 [] (fun _ => False) w1 (Kd.F_nil _ _ _) (Nat.le_refl _) (by omega) (by simp)).mono ?_; rintro e w2 ⟨A6, n6, c6, rfl, hb2, hc6, hn6, hF6⟩; have HB2 := Aside0.mk hb2; have HF6 := Aside0.mk hF6; clear hb2 hF6 hn6)
        have hF0 := Kd.F_below (Kd.F_bound HF6.out) (below_alloc (Below.refl w2.heap.size w2) (.cells #[.slice A6 n6 c6] 30))
        have hS0 := Fs.one (w0 := w) (((Fr.of_below HD1.out (fun _ => False)).then_below HB2.out).alloc (.cells #[.slice A6 n6 c6] 30)) (Kd.F_mono hF0 (fun k hk => ⟨by have := HD1.out.size; omega, by have := hk.2; omega⟩)) hc6 (blk_new w2 _) (by have := HD1.out.size; have := HB2.out.size; omega)
        have HS0 := Aside0.mk hS0
        clear hF0 hS0 HF6 hc6
        generalize w2.alloc (.cells #[.slice A6 n6 c6] 30) = W at HS0 ⊢
        generalize w2.heap.size = g at HS0 ⊢
        clear HB2 HD1 HCF
        go_wp2
        go_loopw [8, 9] (fun v8 v9 wr => ∃ k : Nat, k ≤ l.length ∧ v9 = .int .i64 k ∧ ∃ (s : Nat) (ps : List S52), v8 = .int .i64 s ∧ Aside0 (Fs w wr [g] [ps]) ∧ Aside0 (Sm k 30 ps) ∧ Aside0 (KeepS ps s)) (fun _ v9 _ => l.length - (intOf v9).toNat)
        case atStart => exact ⟨0, Nat.zero_le _, rfl, 0, [], rfl, HS0, ⟨⟨Nat.le_refl _, by simp⟩⟩, ⟨KeepS.nil⟩⟩
        case round =>
          obtain ⟨k, hk, rfl, s, ps, rfl, HS, HSM, HKS⟩ := hrel
          have hpl := HSM.out.len
          by_cases hlt : k < l.length
          · obtain ⟨ad, B1, b1, B2, b2, rfl, hq0, hq1, hq2, hl1b, hf1, -, -, -⟩ := act_at (Kd.F_kept H0.out HS.out.fr.kept (fun _ _ h => h)) k hlt
            have hx := HX.out _ (List.getElem_mem hlt)
            generalize l[k] = x at hq0 hq1 hq2 hl1b hf1 hx
            have HF1 := Aside0.mk hf1
            clear hf1
            obtain ⟨p, hp⟩ := pick_calls x.f0
            have HP := Aside0.mk hp
            clear hp
            by_cases h2 : p = 2
            · subst h2
              go_upto_region 9 with (go_at_call 16; refine (HP.out _).mono ?_; rintro e wp ⟨rfl, hbp⟩; have HBP := Aside0.mk hbp; clear hbp)
              have HS1 := Aside0.mk (HS.out.below HBP.out)
              clear HS
              go_upto_region 10 with (go_at_call 17; refine (HS1.out.sync1 (by omega)).mono ?_; rintro e w4 ⟨rfl, hy, -⟩; have HS2 := Aside0.mk hy; clear hy)
              have HM2 := Aside0.mk (HSM.out.tidy.dur.mono (Nat.le_succ k) (Nat.le_refl 30))
              have HK2 := Aside0.mk (KeepS.sync ps)
              generalize (tidyOf ps).map dur = ps2 at HS2 HM2 HK2
              obtain ⟨A7, n7, c7, hc7, hz7, hlc7, hf7⟩ := HS2.out.get1
              have HF7 := Aside0.mk hf7
              clear hf7
              have hm : ((bsOf ps2).length : Int) = ((bsOf ps2).length : Int) := rfl
              generalize hs2 : (bsOf ps2).length = s2 at HK2 hm
              have HLS := Aside0.mk hs2
              clear hs2 hm
              go_wp2_with (go_at_call 24; refine (klen_calls A7 n7 c7 ps2 w4 (Kd.F_now HF7.out) hlc7 (HM2.out.few (by omega) (by omega)) (s2 : Int) (by rw [HLS.out])).mono ?_; rintro e w5 ⟨rfl, hb5⟩; have HB5 := Aside0.mk hb5; clear hb5)
              refine ⟨⟨k + 1, hlt, by go_num, s2, ps2, rfl, ⟨HS2.out.below HB5.out⟩, HM2, HK2⟩, ?_⟩
              simp [intOf]; omega
            · go_upto_region 11 with (go_at_call 16; refine (HP.out _).mono ?_; rintro e wp ⟨rfl, hbp⟩; have HBP := Aside0.mk hbp; clear hbp)
              have hp1 := pw_cell_below HBP.out hq1
              have HS1 := Aside0.mk (HS.out.below HBP.out)
              have HFB := Aside0.mk (Kd.F_kept HF1.out (Fr.of_below HBP.out (fun _ => False)).kept (fun _ _ h => h))
              clear HS
              go_wp2_with (go_at_call 21; refine (HS1.out.app1 (by omega) B1 x.f1.length b1 x.f1 _ HFB.out hl1b (by omega)).mono ?_; rintro e w4 ⟨rfl, hy, -⟩; have HS2 := Aside0.mk hy; clear hy)
              refine ⟨⟨k + 1, hlt, by go_num, s, _, rfl, HS2, ⟨(HSM.out.app (b := x.f1) (by omega) false).tidy⟩, ⟨HKS.out.app _⟩⟩, ?_⟩
              simp [intOf]; omega
          · obtain rfl : k = l.length := by omega
            clear H0 HX HS0
            have hg := HS.out.ge1
            obtain ⟨A7, n7, c7, hc7, hz7, hlc7, hf7⟩ := HS.out.get1
            have HF7 := Aside0.mk hf7
            have HG := Aside0.mk hg
            clear hf7 hg
            go_upto_region 13 with (go_at_call 25; refine (kbytes_calls g A7 n7 c7 ps wr HG.out.2 (Kd.F_now HF7.out) hlc7 (HSM.out.few (by omega) (by omega))).mono ?_; rintro e wb ⟨A10, n10, c10, rfl, hlc10, hf10, hb10⟩; have HF10 := Aside0.mk hf10; have HB10 := Aside0.mk hb10; clear hf10 hb10)
            have HSB := Aside0.mk (HS.out.below HB10.out)
            have hle10 : n10 ≤ 900 := by
              have h3 := Kd.F_len HF10.out
              have h4 := bsOf_le HSM.out
              have h5 := Nat.mul_le_mul_right 30 hl30
              omega
            clear HS HF7 hc7 hz7 hlc7 HB10
            generalize hV : volOf (ps.map toR) = V
            have hV30 : V ≤ 30 := by have := volOf_len ps; have := HSM.out.len; omega
            have HV := Aside0.mk hV
            clear hV
            rename World => wo
            go_wp2
            go_loopw [11, 12] (fun v11 v12 wr => ∃ k : Nat, k ≤ V ∧ v12 = .int .i64 k ∧ v11 = .bool (allB keep k) ∧ Aside0 (Fs w wr [g] [ps]) ∧ Aside0 (Kd.F (Kd.int .u8) wr (fun k => k ≠ g) A10 n10 (bsOf ps))) (fun _ v12 _ => V - (intOf v12).toNat)
            case atStart => exact ⟨0, Nat.zero_le _, rfl, rfl, HSB, HF10⟩
            case round =>
              obtain ⟨k, hk, rfl, rfl, HS2, HFA⟩ := hrel
              obtain ⟨A7, n7, c7, hc7, hz7, hlc7, hf7⟩ := HS2.out.get1
              have HF7 := Aside0.mk hf7
              have hvv : (volOf (ps.map toR) : Int) = (V : Int) := by rw [HV.out]
              have HVV := Aside0.mk hvv
              clear hf7 hvv
              by_cases hlt : k < V
              · generalize hb : allB keep k = b
                have HBK := Aside0.mk hb
                clear hb
                by_cases hkl : k < n1
                · obtain ⟨ad, rfl, hcell⟩ := F_atB (Kd.F_kept H1.out HS2.out.fr.kept (fun _ _ h => h)) k hkl
                  generalize hq : keep.getD k false = q at hcell
                  have HQ := Aside0.mk hq
                  clear hq
                  go_upto_region 17 with (go_at_call 26; refine (evol2_calls A7 n7 c7 ps wr (Kd.F_now HF7.out) hlc7 (HSM.out.few (by omega) (by omega)) (V : Int) HVV.out).mono ?_; rintro e w5 ⟨rfl, hb5⟩; have HB5 := Aside0.mk hb5; clear hb5)
                  have hcell5 := pw_cell_below HB5.out hcell
                  cases b with
                  | true =>
                    go_wp2
                    refine ⟨⟨k + 1, hlt, by go_num, by rw [show allB keep (k + 1) = (allB keep k && keep.getD k false) from rfl, HBK.out, HQ.out]; rfl, ⟨HS2.out.below HB5.out⟩, ⟨Kd.F_mono (Kd.F_below (Kd.F_bound HFA.out) HB5.out) (fun j hj => hj.1)⟩⟩, ?_⟩
                    simp [intOf]; omega
                  | false =>
                    go_wp2
                    refine ⟨⟨k + 1, hlt, by go_num, by rw [show allB keep (k + 1) = (allB keep k && keep.getD k false) from rfl, HBK.out]; rfl, ⟨HS2.out.below HB5.out⟩, ⟨Kd.F_mono (Kd.F_below (Kd.F_bound HFA.out) HB5.out) (fun j hj => hj.1)⟩⟩, ?_⟩
                    simp [intOf]; omega
                · have hq : keep.getD k false = false := by
                    have := HX1.out
                    rw [List.getD_eq_getElem?_getD, List.getElem?_eq_none (by omega)]; rfl
                  have HQ := Aside0.mk hq
                  clear hq
                  have hnlt : ¬ ((k : Int) < (n1 : Int)) := by omega
                  go_upto_region 17 with (go_at_call 26; refine (evol2_calls A7 n7 c7 ps wr (Kd.F_now HF7.out) hlc7 (HSM.out.few (by omega) (by omega)) (V : Int) HVV.out).mono ?_; rintro e w5 ⟨rfl, hb5⟩; have HB5 := Aside0.mk hb5; clear hb5)
                  cases b with
                  | true =>
                    go_wp2
                    refine ⟨⟨k + 1, hlt, by go_num, by rw [show allB keep (k + 1) = (allB keep k && keep.getD k false) from rfl, HBK.out, HQ.out]; rfl, ⟨HS2.out.below HB5.out⟩, ⟨Kd.F_mono (Kd.F_below (Kd.F_bound HFA.out) HB5.out) (fun j hj => hj.1)⟩⟩, ?_⟩
                    simp [intOf]; omega
                  | false =>
                    go_wp2
                    refine ⟨⟨k + 1, hlt, by go_num, by rw [show allB keep (k + 1) = (allB keep k && keep.getD k false) from rfl, HBK.out]; rfl, ⟨HS2.out.below HB5.out⟩, ⟨Kd.F_mono (Kd.F_below (Kd.F_bound HFA.out) HB5.out) (fun j hj => hj.1)⟩⟩, ?_⟩
                    simp [intOf]; omega
              · obtain rfl : k = V := by omega
                obtain ⟨HD, HFL⟩ := HKS.out.fail keep
                rw [HV.out] at HFL
                have HD0 := Aside0.mk HD
                have HFL0 := Aside0.mk HFL
                clear HD HFL
                go_upto_region 18 with (go_at_call 26; refine (evol2_calls A7 n7 c7 ps wr (Kd.F_now HF7.out) hlc7 (HSM.out.few (by omega) (by omega)) (k : Int) HVV.out).mono ?_; rintro e w5 ⟨rfl, hb5⟩; have HB5 := Aside0.mk hb5; clear hb5)
                have HS3 := Aside0.mk (HS2.out.below HB5.out)
                have HFA3 := Aside0.mk (Kd.F_mono (Kd.F_below (Kd.F_bound HFA.out) HB5.out) (fun j hj => hj.1))
                have HK3 := Aside0.mk (Kd.F_kept H1.out HS3.out.fr.kept (fun _ _ h => h))
                clear HS2 HFA HF7 hc7 hz7 HB5 hlc7
                have hse := HSM.out.each
                have HSE := Aside0.mk hse
                clear hse
                go_upto_region 19 with (go_at_call 19; refine (HS3.out.fail1 (by omega) (fun q hq => by have := HSE.out q hq; omega) A1 n1 c1 keep _ HK3.out hc1 (fun j hj => ⟨by have := HS3.out.fr.1; have := hj.2; omega, by have := HG.out.1; have := hj.2; omega⟩)).mono ?_; rintro e w6 ⟨rfl, hy, hfr⟩; have HS4 := Aside0.mk hy; have HFR4 := Aside0.mk hfr; clear hy hfr)
                have HM4 := Aside0.mk (HSM.out.tidy.fail keep)
                have HFA4 := Aside0.mk (Kd.F_kept HFA3.out HFR4.out.kept (fun j hj h => hj h))
                generalize failOf (tidyOf ps) keep = fs at HS4 HD0 HFL0 HM4
                clear HS3 HFA3 HK3 HFR4 HKS HSM HVV HV
                obtain ⟨A7, n7, c7, hc7, hz7, hlc7, hf7⟩ := HS4.out.get1
                have HF7 := Aside0.mk hf7
                clear hf7
                go_upto_region 20 with (go_at_call 25; refine (kbytes_calls g A7 n7 c7 fs w6 HS4.out.ge1.2 (Kd.F_now HF7.out) hlc7 (HM4.out.few (by omega) (by omega))).mono ?_; rintro e wb ⟨A13, n13, c13, rfl, hlc13, hf13, hb13⟩; have HF13 := Aside0.mk hf13; have HB13 := Aside0.mk hb13; clear hf13 hb13)
                have HS5 := Aside0.mk (HS4.out.below HB13.out)
                have HFA5 := Aside0.mk (Kd.F_mono (Kd.F_below (Kd.F_bound HFA4.out) HB13.out) (fun j hj => hj.1))
                have hle13 : n13 ≤ n10 := by
                  have h3 := Kd.F_len HF13.out
                  have h4 := Kd.F_len HFA5.out
                  have h5 := HFL0.out.le
                  omega
                have hge13 : s ≤ n13 := by
                  have h3 := Kd.F_len HF13.out
                  have h5 := HFL0.out.ge
                  omega
                clear HS4 HFA4 HF7 hc7 hz7 hlc7 HB13
                generalize ha : allB keep k = a at HFL0 ⊢
                have HA := Aside0.mk ha
                clear ha
                have hng10 : ¬ ((n13 : Int) > (n10 : Int)) := by omega
                have hnl8 : ¬ ((n13 : Int) < (s : Int)) := by omega
                obtain ⟨A7, n7, c7, hc7, hz7, hlc7, hf7⟩ := HS5.out.get1
                have HF7 := Aside0.mk hf7
                clear hf7
                have HVZ := Aside0.mk (show (volOf (fs.map toR) : Int) = 0 by rw [HD0.out.vol]; rfl)
                have HEQ := Aside0.mk (show a = true → n13 = n10 by
                  intro ha
                  have h3 := Kd.F_len HF13.out
                  have h4 := Kd.F_len HFA5.out
                  have h5 := HFL0.out.all_ ha
                  rw [← h3, ← h4, h5])
                obtain ⟨wo, rfl⟩ : ∃ wo : World, wo = wr := ⟨_, rfl⟩
                have hne : a = true → ((n13 : Int) != (n10 : Int)) = false := fun h => by simp [HEQ.out h]
                clear HEQ
                cases a
                all_goals
                  first | have hq := hne rfl | skip
                  clear hne
                  go_upto_region 22 with (go_at_call 26; refine (evol2_calls A7 n7 c7 fs wb (Kd.F_now HF7.out) hlc7 (HM4.out.few (by omega) (by omega)) 0 HVZ.out).mono ?_; rintro e w7 ⟨rfl, hb7⟩; have HB7 := Aside0.mk hb7; clear hb7)
                  try clear hq
                  have HS6 := Aside0.mk (HS5.out.below HB7.out)
                  have HFA6 := Aside0.mk (Kd.F_mono (Kd.F_below (Kd.F_bound HFA5.out) HB7.out) (fun j hj => hj.1))
                  have HFB6 := Aside0.mk (Kd.F_mono (Kd.F_below (Kd.F_bound HF13.out) HB7.out) (fun j hj => hj.1))
                  clear HS5 HFA5 HF13 HF7 hc7 hz7 hlc7 HB7
                  go_wp2
                  go_loopw [14] (fun v14 wr => ∃ k : Nat, k ≤ n13 ∧ v14 = .int .i64 k ∧ Aside0 (Below w7.heap.size w7 wr)) (fun v14 _ => n13 - (intOf v14).toNat)
                  case atStart => exact ⟨0, Nat.zero_le _, rfl, ⟨Below.refl _ _⟩⟩
                  case round =>
                    obtain ⟨i, hi, rfl, HBW⟩ := hrel
                    by_cases hlt : i < n13
                    · obtain ⟨ad, x, rfl, hcx, hx⟩ := F_atI (Kd.F_below (Kd.F_bound HFB6.out) HBW.out) i hlt
                      obtain ⟨ad2, y, rfl, hcy, hy⟩ := F_atI (Kd.F_below (Kd.F_bound HFA6.out) HBW.out) i (by omega)
                      have hlt10 : (i : Int) < (n10 : Int) := by omega
                      have hlt13 : (i : Int) < (n13 : Int) := by omega
                      by_cases hxy : x = y
                      · subst hxy
                        have hd : (x != x) = false := by simp
                        clear hx hy
                        go_wp2
                        go_quiet (fail)
                        go_wp2
                        refine ⟨⟨i + 1, hlt, by go_num, ⟨⟨HBW.out.os, HBW.out.tape, HBW.out.output, HBW.out.size, HBW.out.block⟩⟩⟩, ?_⟩
                        simp [intOf]; omega
                      · obtain ⟨rfl, hsi⟩ := HFL0.out.each i x y hx hy hxy
                        first
                          | (exact absurd (Option.some.inj (by rw [← hx, ← hy, HFL0.out.all_ rfl])) hxy)
                          | (have hd : ((0 : Int) != y) = true := by simpa using hxy
                             have hks : decide ((i : Int) < (s : Int)) = false := by simp; omega
                             clear hx hy hxy
                             go_wp2
                             go_quiet (fail)
                             go_wp2
                             refine ⟨⟨i + 1, hlt, by go_num, ⟨⟨HBW.out.os, HBW.out.tape, HBW.out.output, HBW.out.size, HBW.out.block⟩⟩⟩, ?_⟩
                             simp [intOf]; omega)
                    · obtain rfl : n13 = i := by omega
                      have HS7 := Aside0.mk (HS6.out.below HBW.out)
                      have HFA7 := Aside0.mk (Kd.F_mono (Kd.F_below (Kd.F_bound HFA6.out) HBW.out) (fun j hj => hj.1))
                      have HFB7 := Aside0.mk (Kd.F_mono (Kd.F_below (Kd.F_bound HFB6.out) HBW.out) (fun j hj => hj.1))
                      have HG7 := Aside0.mk HS7.out.ge1
                      have hfp := HM4.out.len
                      have HFE := Aside0.mk HM4.out.each
                      have HX13 := Aside0.mk (Kd.F_len HFB7.out)
                      have HX10 := Aside0.mk (Kd.F_len HFA7.out)
                      have HA7 := Aside0.mk (Kd.F_kept H2.out HS7.out.fr.kept (fun _ _ h => h))
                      clear HS6 HFA6 HFB6 HBW HFL0
                      obtain ⟨wo2, rfl⟩ : ∃ wo2 : World, wo2 = wr := ⟨_, rfl⟩
                      have hokA : ∀ j : Nat, j < w.heap.size → j ≠ g := fun j hj => by have := HG7.out.1; omega
                      have HOA := Aside0.mk hokA
                      clear hokA
                      go_upto_region 28 with (go_at_call 19; refine (HS7.out.fail1 (by omega) (fun q hq => by have := HFE.out q hq; omega) A2 n2 c2 again _ HA7.out hc2 (fun j hj => ⟨by have := HS7.out.fr.1; have := hj.2; omega, HOA.out j hj.2⟩)).mono ?_; rintro e w8 ⟨rfl, hy, hfr⟩; have HS8 := Aside0.mk hy; have HFR8 := Aside0.mk hfr; clear hy hfr)
                      have HD8 := Aside0.mk (HD0.out.fail again)
                      have HM8 := Aside0.mk (HM4.out.tidy.fail again)
                      have HFA8 := Aside0.mk (Kd.F_kept HFA7.out HFR8.out.kept (fun j hj h => hj h))
                      have HFB8 := Aside0.mk (Kd.F_kept HFB7.out HFR8.out.kept (fun j hj h => hj h))
                      generalize failOf (tidyOf fs) again = f2 at HS8 HD8 HM8
                      clear HS7 HFA7 HFB7 HFR8 HA7
                      obtain ⟨A7, n7, c7, hc7, hz7, hlc7, hf7⟩ := HS8.out.get1
                      have HF7 := Aside0.mk hf7
                      have HG8 := Aside0.mk HS8.out.ge1.2
                      clear hf7
                      have hle13b : n13 ≤ 900 := by omega
                      go_upto_region 30 with first
                        | (go_at_call 25; refine (kbytes_calls g A7 n7 c7 f2 w8 HG8.out (Kd.F_now HF7.out) hlc7 (HM8.out.few (by omega) (by omega))).mono ?_; rintro e wb ⟨A14, n14, c14, rfl, hlc14, hf14, hb14⟩; have HF14 := Aside0.mk hf14; have HB14 := Aside0.mk hb14; clear hf14 hb14)
                        | (go_at_call 27; refine (ksame_calls A14 n14 c14 A13 n13 c13 (bsOf fs) _ _ wb (by rw [← HD8.out.2]; exact HF14.out) hlc14 (Kd.F_below (Kd.F_bound HFB8.out) HB14.out) hlc13 (by have h3 := Kd.F_len HF14.out; rw [HD8.out.2, HX13.out] at h3; omega)).mono ?_; rintro e w9 ⟨rfl, hb9⟩; have HB9 := Aside0.mk hb9; clear hb9)
                      have HS9 := Aside0.mk ((HS8.out.below HB14.out).below HB9.out)
                      have HFA9 := Aside0.mk (Kd.F_mono (Kd.F_below (Kd.F_bound (Kd.F_below (Kd.F_bound HFA8.out) HB14.out)) HB9.out) (fun j hj => hj.1.1))
                      have HA9 := Aside0.mk (Kd.F_kept H2.out HS9.out.fr.kept (fun _ _ h => h))
                      clear HS8 HF14 HB14 HB9 HF7 hc7 hz7 hlc7 HFB8 HFA8
                      have hp8 := HM8.out.len
                      go_upto_region 31 with (go_at_call 21; refine (HS9.out.app1 (by omega) A10 n10 c10 _ _ HFA9.out hlc10 (by omega)).mono ?_; rintro e wc ⟨rfl, hy, hfr⟩; have HS10 := Aside0.mk hy; have HFR10 := Aside0.mk hfr; clear hy hfr)
                      have hM10 : Sm 32 900 (tidyOf (f2 ++ [⟨bsOf ps, false⟩])) := ((HM8.out.mono (Nat.le_refl _) (show 30 ≤ 900 by omega)).app (b := bsOf ps) (by have := HX10.out; omega) false).tidy.mono (by omega) (Nat.le_refl _)
                      have HM10 := Aside0.mk hM10
                      have hp10 := hM10.len
                      clear hM10
                      go_upto_region 32 with (go_at_call 17; refine (HS10.out.sync1 (by omega)).mono ?_; rintro e wd ⟨rfl, hy, hfr⟩; have HS11 := Aside0.mk hy; have HFR11 := Aside0.mk hfr; clear hy hfr)
                      have HD11 := Aside0.mk (AllD.appSync f2 (bsOf ps))
                      have HM11 := Aside0.mk HM10.out.tidy.dur
                      generalize (tidyOf (tidyOf (f2 ++ [⟨bsOf ps, false⟩]))).map dur = f3 at HS11 HD11 HM11
                      clear HS10 HM10 HS9 HFA9 HFR10 HFR11
                      have hp11 := HM11.out.len
                      have HE11 := Aside0.mk HM11.out.each
                      have HA11 := Aside0.mk (Kd.F_kept H2.out HS11.out.fr.kept (fun _ _ h => h))
                      go_upto_region 33 with (go_at_call 19; refine (HS11.out.fail1 (by omega) (fun q hq => by have := HE11.out q hq; omega) A2 n2 c2 again _ HA11.out hc2 (fun j hj => ⟨by have := HS11.out.fr.1; have := hj.2; omega, HOA.out j hj.2⟩)).mono ?_; rintro e we ⟨rfl, hy, -⟩; have HS12 := Aside0.mk hy; clear hy)
                      have HD12 := Aside0.mk (HD11.out.1.fail again)
                      have HM12 := Aside0.mk (HM11.out.tidy.fail again)
                      generalize failOf (tidyOf f3) again = f4 at HS12 HD12 HM12
                      obtain ⟨A7, n7, c7, hc7, hz7, hlc7, hf7⟩ := HS12.out.get1
                      have HF7 := Aside0.mk hf7
                      clear hf7 HS11 HA11 HA9
                      have HLN := Aside0.mk (show ((bsOf f4).length : Int) = (n13 : Int) + (n10 : Int) by
                        have h1 := HX13.out
                        have h2 := HX10.out
                        rw [HD12.out.2, HD11.out.2, HD8.out.2, List.length_append]; omega)
                      go_wp2_with first
                        | (go_at_call 24; refine (klen_calls A7 n7 c7 f4 we (Kd.F_now HF7.out) hlc7 (HM12.out.few (by omega) (by omega)) _ HLN.out).mono ?_; rintro e wf ⟨rfl, hbf⟩; have HBF := Aside0.mk hbf; clear hbf)
                        | (go_at_call 11; refine (HW _).mono ?_; rintro e wg ⟨rfl, hbg⟩; have HBG := Aside0.mk hbg; clear hbg)
                      go_ret
                      exact ⟨rfl, ((HS12.out.fr.then_below HBF.out).then_below HBG.out).below (fun k hk => hk.elim)⟩
      · have hgt : (n2 : Int) > 30 := by omega
        go_wp2_with first | (go_at_call 10; refine HCF.out.mono ?_; rintro e w1 ⟨rfl, hd1⟩; have HD1 := Aside0.mk hd1.below; clear hd1) | (go_at_call 11; refine (HW _).mono ?_; rintro e w2 ⟨rfl, hb2⟩; have HB2 := Aside0.mk hb2; clear hb2)
        go_ret
        exact ⟨rfl, belowThen HD1.out HB2.out⟩
    · have hgt : (n1 : Int) > 30 := by omega
      go_wp2_with first | (go_at_call 10; refine HCF.out.mono ?_; rintro e w1 ⟨rfl, hd1⟩; have HD1 := Aside0.mk hd1.below; clear hd1) | (go_at_call 11; refine (HW _).mono ?_; rintro e w2 ⟨rfl, hb2⟩; have HB2 := Aside0.mk hb2; clear hb2)
      go_ret
      exact ⟨rfl, belowThen HD1.out HB2.out⟩
end Go.Proofs.Ytbpnbhccdpobpaa
