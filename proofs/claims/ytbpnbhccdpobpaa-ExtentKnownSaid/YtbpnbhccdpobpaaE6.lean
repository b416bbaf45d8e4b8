import Derived.Test.YtbpnbhccdpobpaaE5
import Derived.RegionTactic
import Derived.BigRegion
import Derived.WalkMore
import Derived.Deep.DeepCutAuto
import Derived.Deep.CutRange
import Derived.Deep.LoopGhost
import Derived.ChangeAlike
import Derived.Deep.OwnRows
/-! extent.File: Fail. -/
set_option linter.unusedVariables false
set_option linter.unusedSimpArgs false
namespace Go.Proofs.Ytbpnbhccdpobpaa
open Go.RowKit Go.Proofs.YtbpnbhccdpobpaaW.PrintWords PExtentKnown

def stayOf (d : Bool) (keep : List Bool) : Bool := if d then true else keep.headD false
def nextOf (d : Bool) (keep : List Bool) : List Bool := if d then keep else keep.tail
def staysOf : List S52 → List Bool → List Bool
  | [], _ => []
  | p :: r, keep => stayOf p.f1 keep :: staysOf r (nextOf p.f1 keep)
def restOf : List S52 → List Bool → List Bool
  | [], keep => keep
  | p :: r, keep => restOf r (nextOf p.f1 keep)
theorem staysOf_snoc : ∀ (l : List S52) (p : S52) (keep : List Bool), staysOf (l ++ [p]) keep = staysOf l keep ++ [stayOf p.f1 (restOf l keep)]
  | [], _, _ => rfl
  | q :: r, p, keep => by simp only [List.cons_append, staysOf, restOf, staysOf_snoc r p]
theorem restOf_snoc : ∀ (l : List S52) (p : S52) (keep : List Bool), restOf (l ++ [p]) keep = nextOf p.f1 (restOf l keep)
  | [], _, _ => rfl
  | q :: r, p, keep => by simp only [List.cons_append, restOf, restOf_snoc r p]
theorem staysOf_length : ∀ (l : List S52) (keep : List Bool), (staysOf l keep).length = l.length
  | [], _ => rfl
  | q :: r, keep => by simp only [staysOf, List.length_cons, staysOf_length r]
/-- How many are left if those behind the last that stays go. -/
def upTo : List Bool → Nat
  | [] => 0
  | b :: r => if upTo r = 0 then (if b then 1 else 0) else upTo r + 1
theorem upTo_snoc : ∀ (l : List Bool) (b : Bool), upTo (l ++ [b]) = if b then l.length + 1 else upTo l
  | [], b => by cases b <;> rfl
  | c :: r, b => by
    simp only [List.cons_append, upTo, upTo_snoc r b]
    cases b with
    | true => simp
    | false => simp
theorem upTo_le : ∀ (l : List Bool), upTo l ≤ l.length
  | [] => Nat.le_refl _
  | c :: r => by
    have := upTo_le r
    simp only [upTo, List.length_cons]
    split
    · split <;> omega
    · omega
def blank (p : S52) : S52 := ⟨List.replicate p.f0.length 0, true⟩
def failed (ps : List S52) (stays : List Bool) : List S52 := (ps.zip stays).map fun x => if x.2 then dur x.1 else blank x.1
def failOf (ps : List S52) (keep : List Bool) : List S52 := failed (ps.take (upTo (staysOf ps keep))) (staysOf ps keep)

theorem failed_length (ps : List S52) (s : List Bool) (h : ps.length ≤ s.length) : (failed ps s).length = ps.length := by
  unfold failed; rw [List.length_map, List.length_zip]; omega
theorem failed_at (ps : List S52) (s : List Bool) (k : Nat) (h : k < (failed ps s).length) (h1 : k < ps.length) (h2 : k < s.length) : (failed ps s)[k] = if s[k] then dur ps[k] else blank ps[k] := by
  simp only [failed, List.getElem_map, List.getElem_zip]
theorem fill_step (l : List Bool) (n k : Nat) (hk : k < n) (hl : l.length = k) (b : Bool) : (l ++ List.replicate (n - k) false).set k b = l ++ [b] ++ List.replicate (n - (k + 1)) false := by
  rw [List.set_append, if_neg (by omega), hl, Nat.sub_self, show n - k = (n - (k + 1)) + 1 by omega, List.replicate_succ, List.set_cons_zero, List.append_assoc]
  rfl
theorem fill_again (l : List Bool) (n k : Nat) (hl : l.length = k) (a b : Bool) (r : List Bool) : (l ++ [a] ++ r).set k b = l ++ [b] ++ r := by
  rw [List.append_assoc, List.set_append, if_neg (by omega), hl, Nat.sub_self]
  simp

/-- What holds at the head of Fail's first loop. -/
structure FailRel (g gs : Nat) (ok okk : Nat → Prop) (w : World) (A : Option Addr) (c : Nat) (ps : List S52) (keep : List Bool) (k : Nat) (Ar : Option Addr) (nr cr : Nat) (wr : World) : Prop where
  le : nr ≤ cr
  rest : Kd.F Kd.bool wr okk Ar nr (restOf (ps.take k) keep)
  blk : wr.heap[g]? = some (.cells #[.slice A ps.length c] 30 (0, 0))
  kept : Fr w wr (fun k => k = g)
  parts : Kd.N k52 52 wr w.heap.size (fun k => (ok k ∨ w.heap.size ≤ k) ∧ k ≠ g ∧ k ≠ gs) (.slice A ps.length c) ps
  stays : Kd.bool.R 4 wr w.heap.size (fun k => k = gs) (.slice (some ⟨gs, 0, none⟩) ps.length ps.length) (staysOf (ps.take k) keep ++ List.replicate (ps.length - k) false)
theorem FailRel.step {g gs : Nat} {ok okk : Nat → Prop} {w : World} {A : Option Addr} {c : Nat} {ps : List S52} {keep : List Bool} {k : Nat} {Ar : Option Addr} {nr cr : Nat} {wr : World} (h : FailRel g gs ok okk w A c ps keep k Ar nr cr wr)
    (hgs : w.heap.size ≤ gs) (hgg : g ≠ gs) (hok : ∀ k, okk k → k < w.heap.size ∧ k ≠ g) (hk : k < ps.length) {W : World} (hW : Fr wr W (fun k => k = gs)) {Ar' : Option Addr} {nr' cr' : Nat} (hle : nr' ≤ cr')
    (hr : Kd.F Kd.bool W okk Ar' nr' (nextOf ps[k].f1 (restOf (ps.take k) keep)))
    (hs : Kd.bool.R 4 W w.heap.size (fun k => k = gs) (.slice (some ⟨gs, 0, none⟩) ps.length ps.length) ((staysOf (ps.take k) keep ++ List.replicate (ps.length - k) false).set k (stayOf ps[k].f1 (restOf (ps.take k) keep)))) :
    FailRel g gs ok okk w A c ps keep (k + 1) Ar' nr' cr' W := by
  have ht : ps.take (k + 1) = ps.take k ++ [ps[k]] := List.take_succ_eq_append_getElem hk
  have hlt : g < wr.heap.size := blk_lt h.blk
  refine ⟨hle, by rw [ht, restOf_snoc]; exact hr, (hW.2.1 g hlt hgg).trans h.blk, h.kept.then_ hW (fun k hk => .inr (hk ▸ hgs)), Kd.N_step h.parts (fun i hi hl => hW.2.1 i hl hi.2.2), ?_⟩
  rw [ht, staysOf_snoc, ← fill_step _ _ _ hk (by rw [staysOf_length, List.length_take]; omega)]
  exact hs

set_option maxHeartbeats 4000000 in
set_option maxRecDepth 100000 in
theorem fail_calls (g : Nat) (ok : Nat → Prop) (ps : List S52) (Ak : Option Addr) (nk ck : Nat) (keep : List Bool) (okk : Nat → Prop) (w : World) (hf : FileAt w g ok ps) (hl : ps.length ≤ 1000000) (hlb : ∀ p ∈ ps, p.f0.length ≤ 1000000) (hk : Kd.F Kd.bool w okk Ak nk keep) (hnk : nk ≤ ck) (hokk : ∀ k, okk k → k < w.heap.size ∧ k ≠ g) :
    Calls Try.prog 19 #[.pointer (some ⟨g, 0, none⟩), .slice Ak nk ck] w fun e w' => e = .returned (.tuple #[]) ∧ Fr w w' (fun k => k = g) ∧ FileAt w' g (fun k => (ok k ∨ w.heap.size ≤ k) ∧ k ≠ g) (failOf (tidyOf ps) keep) := by
  have HF := Aside0.mk hf
  have HLT := Aside0.mk hf.lt
  have hlt2 : (tidyOf ps).length ≤ 1000000 := Nat.le_trans (List.length_filter_le _ _) hl
  have HK := Aside0.mk hk
  have HNK := Aside0.mk hnk
  have HOKK := Aside0.mk hokk
  have HLB := Aside0.mk hlb
  clear hf hk hnk hokk hlb
  go_enter Try.func19, Try.ntmps19
  go_step3
  have hmk := fun w => run_make_row' (P := Try.prog) 38 4 (.bool false) 1 Try.underlying38 (by kernel_rfl) rfl .i64 .i64 (tidyOf ps).length (by omega) (by omega) w
  go_wp2_with (go_at_call 45; refine (tidy_calls g ok ps w HF.out (by omega)).mono ?_; rintro e w1 ⟨rfl, hk1, A, n, c, hb1, hN1⟩; obtain ⟨hn, hnc, -⟩ := Kd.N_reads' hN1; subst hn; have hcell1 := blk_cell hb1 0; simp at hcell1; have hca1 := cell_allocs hcell1; have HK1 := Aside0.mk hk1; have HB1 := Aside0.mk hb1; have HN1 := Aside0.mk hN1; clear hk1 hb1 hN1)
  have HGN : Aside0 (g ≠ w1.heap.size) := ⟨by have := HLT.out; have := HK1.out.1; omega⟩
  go_loopg [1, 24] (tidyOf ps).length (fun gg v1 v24 wr => ∃ (k : Nat) (Ar : Option Addr) (nr cr : Nat), k ≤ (tidyOf ps).length ∧ v1 = .slice Ar nr cr ∧ v24 = .int .i64 k ∧ (tidyOf ps).length - k ≤ gg ∧ FailRel g w1.heap.size ok okk w A c (tidyOf ps) keep k Ar nr cr wr)
  case atStart =>
    refine ⟨0, Ak, nk, ck, Nat.zero_le _, rfl, rfl, by omega, HNK.out, ?_, blk_alloc HB1.out _, Fr.alloc HK1.out _, ?_, ?_⟩
    · exact Kd.F_alloc (Kd.F_kept HK.out HK1.out.kept (fun j hj => (HOKK.out j hj).2)) _
    · exact Kd.N_alloc (Kd.N_mono (Kd.N_elderB HN1.out w1.heap.size (Nat.le_refl _)) (fun j hj => ⟨hj.1.1, hj.1.2, hj.2⟩)) _
    · have h := R_made1 Value.bool (h1 := fun _ => rfl) w1 w.heap.size 4 (tidyOf ps).length false HK1.out.1 (by omega)
      rw [List.take_zero, Nat.sub_zero]
      exact h
  case round =>
    obtain ⟨k, Ar, nr, cr, hkl, rfl, rfl, hgg, hR⟩ := hrel
    have HR := Aside0.mk hR
    clear hR
    have hcell := blk_cell HR.out.blk 0
    simp at hcell
    by_cases hlt : k < (tidyOf ps).length
    · obtain ⟨gA, capA, he, -⟩ := Kd.N_form HR.out.parts (by omega)
      injection he with hA hl2 hc2
      clear hl2
      subst hc2
      subst hA
      obtain ⟨cc, hcl, hfk, hcc, -⟩ := Kd.N_elem HR.out.parts ⟨[], false⟩ (k : Int) (by omega) (by omega)
      rw [Int.toNat_natCast, List.getD_eq_getElem?_getD, List.getElem?_eq_getElem hlt, Option.getD_some] at hfk
      obtain ⟨A0, c0, rfl, hl0, hF0⟩ := k52_openF hfk
      have g0 := hcc 0 _ rfl
      have g1 := hcc 1 _ rfl
      rw [show k52.sz = 2 from rfl, Int.toNat_natCast] at g0 g1
      rw [Nat.add_zero] at g0
      clear hcc hcl hfk hl0 hF0
      obtain ⟨e0, e1⟩ := R_get1 Value.bool HR.out.stays k (by rw [List.length_append, staysOf_length, List.length_take, List.length_replicate]; omega)
      have ea0 := cell_allocs e0
      have ea1 := frozen_allocs e0 e1
      have hsl := Kd.R_lt HR.out.stays w1.heap.size rfl
      have hn1 : ¬ wr.heap.size = w1.heap.size := by omega
      have hn2 : ¬ w1.heap.size = wr.heap.size := by omega
      cases hd : (tidyOf ps)[k].f1 with
      | true =>
        rw [hd] at g1
        have HD := Aside0.mk hd
        clear hd
        go_wp2
        go_roundg ((tidyOf ps).length - (k + 1))
        case measure => omega
        case rel =>
          refine ⟨k + 1, Ar, nr, cr, by omega, rfl, by go_num, Nat.le_refl _, HR.out.step HK1.out.1 HGN.out HOKK.out hlt (Fr.alloc (Fr.setCell (p := ⟨w1.heap.size, k, none⟩) (Fr.refl wr (fun j => j = w1.heap.size)) (.inl rfl) _) _) HR.out.le ?_ ?_⟩
          · rw [HD.out]
            exact Kd.F_alloc (Kd.F_far (p := ⟨w1.heap.size, k, none⟩) HR.out.rest (fun i hi he => by have h1 := (HOKK.out i hi).1; have h2 := HK1.out.1; have he' : i = w1.heap.size := he; omega) _) _
          · rw [HD.out]
            exact Kd.R_alloc (R_set1 Value.bool HR.out.stays k hlt true false) _
      | false =>
        rw [hd] at g1
        have HD := Aside0.mk hd
        clear hd
        by_cases hnr : 0 < nr
        · have hrl := Kd.F_len HR.out.rest
          obtain ⟨b0, rk, hrk⟩ : ∃ b0 rk, restOf ((tidyOf ps).take k) keep = b0 :: rk := by
            cases hre : restOf ((tidyOf ps).take k) keep with
            | nil => rw [hre] at hrl; simp at hrl; omega
            | cons b r => exact ⟨b, r, rfl⟩
          have HRK := Aside0.mk hrk
          have HRL := Aside0.mk hrl
          have hF := HR.out.rest
          rw [hrk] at hF
          obtain ⟨ad, rfl, hka, hka2⟩ := F_get1 Value.bool hF 0 (by simp)
          rw [add_zero'] at hka
          simp only [List.getElem_cons_zero] at hka
          have hadl := (HOKK.out _ hka2).1
          have hk1 := HK1.out.1
          have hne : ad.block ≠ w1.heap.size := by omega
          have hkb : ∀ o v, ((wr.setCell ⟨w1.heap.size, k, none⟩ v).alloc o).cell? ad = some (.bool b0) := fun o v => cell_allocs (by
            rw [← hka]; exact World.cell?_of_block (Below.heap_setCell wr ⟨w1.heap.size, k, none⟩ v ad.block hne)) o
          have hF2 : Kd.F Kd.bool wr okk (if cr = 1 then some ad else some ⟨ad.block, ad.off + 1, none⟩) (nr - 1) rk := by
            have h2 := F_cutn (c := cr) hF 1 (by omega) HR.out.le
            rw [show (some ad).map (fun a => a.add (1 * Kd.bool.sz)) = some (⟨ad.block, ad.off + 1, none⟩ : Addr) from rfl] at h2
            exact h2
          have HF2 := Aside0.mk hF2
          have hnr1 : (0 : Int) < (nr : Int) := by omega
          have hnr2 : (1 : Int) ≤ (nr : Int) := by omega
          have hnr3 : 1 ≤ nr := by omega
          clear hrk hrl hF hka hadl hk1 hF2
          go_wp2
          go_region
          generalize (if cr = 1 then some ad else some (⟨ad.block, ad.off + 1, none⟩ : Addr)) = A2 at HF2 ⊢
          go_wp2
          go_roundg ((tidyOf ps).length - (k + 1))
          case measure => omega
          case rel =>
            refine ⟨k + 1, A2, nr - 1, cr - 1, by omega, rfl, by go_num, Nat.le_refl _, HR.out.step (W := (((wr.setCell ⟨w1.heap.size, k, none⟩ (.bool false)).setCell ⟨w1.heap.size, k, none⟩ (.bool b0)).alloc (.cells #[.slice A0 (tidyOf ps)[k].f0.length c0, .bool false] 52)).drew) HK1.out.1 HGN.out HOKK.out hlt (Fr.drew (Fr.alloc (Fr.setCell (p := ⟨w1.heap.size, k, none⟩) (Fr.setCell (p := ⟨w1.heap.size, k, none⟩) (Fr.refl wr (fun j => j = w1.heap.size)) (.inl rfl) _) (.inl rfl) _) _)) (by have := HR.out.le; omega) ?_ ?_⟩
            · rw [HD.out, HRK.out]
              exact Kd.F_drew (Kd.F_alloc (Kd.F_far (p := ⟨w1.heap.size, k, none⟩) (Kd.F_far (p := ⟨w1.heap.size, k, none⟩) HF2.out (fun i hi he => by have h1 := (HOKK.out i hi).1; have h2 := HK1.out.1; have he' : i = w1.heap.size := he; omega) _) (fun i hi he => by have h1 := (HOKK.out i hi).1; have h2 := HK1.out.1; have he' : i = w1.heap.size := he; omega) _) _)
            · rw [HD.out, HRK.out]
              have h2 := Kd.R_drew (Kd.R_alloc (R_set1 Value.bool (R_set1 Value.bool HR.out.stays k hlt false false) k hlt b0 false) (.cells #[.slice A0 (tidyOf ps)[k].f0.length c0, .bool false] 52))
              rw [List.set_set] at h2
              exact h2
        · obtain rfl : nr = 0 := by omega
          go_wp2
          go_roundg ((tidyOf ps).length - (k + 1))
          case measure => omega
          case rel =>
            have hnil : restOf ((tidyOf ps).take k) keep = [] := List.eq_nil_of_length_eq_zero (Kd.F_len HR.out.rest)
            refine ⟨k + 1, Ar, 0, cr, by omega, rfl, by go_num, Nat.le_refl _, HR.out.step HK1.out.1 HGN.out HOKK.out hlt (Fr.alloc (Fr.setCell (p := ⟨w1.heap.size, k, none⟩) (Fr.refl wr (fun j => j = w1.heap.size)) (.inl rfl) _) _) HR.out.le ?_ ?_⟩
            · have hr := HR.out.rest
              rw [HD.out, hnil] at *
              exact Kd.F_alloc (Kd.F_far (p := ⟨w1.heap.size, k, none⟩) hr (fun i hi he => by have h1 := (HOKK.out i hi).1; have h2 := HK1.out.1; have he' : i = w1.heap.size := he; omega) _) _
            · rw [HD.out, hnil]
              exact Kd.R_alloc (R_set1 Value.bool HR.out.stays k hlt false false) _
    · obtain rfl : k = (tidyOf ps).length := by omega
      have hst := HR.out.stays
      rw [Nat.sub_self, List.replicate_zero, List.append_nil, List.take_length] at hst
      have HST := Aside0.mk hst
      clear hst
      go_wp2
      go_step3
      go_upto_block 2 with (fail)
      go_cut [7] from 53 to 61 (fun v7 wc => wc = wr ∧ v7 = .int .i64 (upTo (staysOf (tidyOf ps) keep) : Nat))
      case first =>
        go_wp2
        go_loopg [7] (tidyOf ps).length (fun gg v7 wc => ∃ m : Nat, m ≤ (tidyOf ps).length ∧ m ≤ gg ∧ v7 = .int .i64 m ∧ wc = wr ∧ Aside0 (upTo ((staysOf (tidyOf ps) keep).take m) = upTo (staysOf (tidyOf ps) keep)))
        case atStart => exact ⟨(tidyOf ps).length, Nat.le_refl _, Nat.le_refl _, rfl, rfl, ⟨by rw [List.take_of_length_le (by rw [staysOf_length]; exact Nat.le_refl _)]⟩⟩
        case round =>
          obtain ⟨m, hm, hmg, rfl, rfl, HU⟩ := hrel
          by_cases hm0 : 0 < m
          · have hml : m - 1 < (staysOf (tidyOf ps) keep).length := by rw [staysOf_length]; omega
            obtain ⟨e0, -⟩ := R_get1 Value.bool HST.out (m - 1) hml
            have htk : (staysOf (tidyOf ps) keep).take m = (staysOf (tidyOf ps) keep).take (m - 1) ++ [(staysOf (tidyOf ps) keep)[m - 1]] := by
              rw [← List.take_succ_eq_append_getElem hml, show m - 1 + 1 = m by omega]
            have HTK := Aside0.mk htk
            clear htk
            have hcast : ((m : Int) - 1) = ((m - 1 : Nat) : Int) := by omega
            have HCA := Aside0.mk hcast
            clear hcast
            generalize hb : (staysOf (tidyOf ps) keep)[m - 1] = b at e0 HTK
            clear hb
            cases b with
            | true =>
              go_wp2
              go_meet
              case rel =>
                have h := HU.out
                rw [HTK.out, upTo_snoc, if_pos rfl, List.length_take, Nat.min_eq_left (by omega)] at h
                exact ⟨rfl, by rw [← h, show m - 1 + 1 = m by omega]⟩
            | false =>
              go_wp2
              go_roundg (m - 1)
              case measure => omega
              case rel => exact ⟨m - 1, by omega, Nat.le_refl _, by rw [HCA.out], rfl, ⟨by
                have h := HU.out
                rw [HTK.out, upTo_snoc] at h
                simpa using h⟩⟩
          · obtain rfl : m = 0 := by omega
            go_wp2
            go_meet
            case rel => exact ⟨rfl, by have h := HU.out; rw [← h]; rfl⟩
      case rest =>
        obtain ⟨rfl, rfl⟩ := hcut
        have hup := upTo_le (staysOf (tidyOf ps) keep)
        rw [staysOf_length] at hup
        generalize hm : upTo (staysOf (tidyOf ps) keep) = m at hup ⊢
        have HM := Aside0.mk hm
        clear hm
        have hcell := blk_cell HR.out.blk 0
        have hfr := blk_frozen HR.out.blk 0
        simp at hcell
        have hmc : m ≤ c := by omega
        have hNT := Kd.N_take HR.out.parts (m := m) hup
        have HNT := Aside0.mk hNT
        clear hNT
        have hLl : ((tidyOf ps).take m).length = m := by rw [List.length_take]; omega
        have hFl : (failed ((tidyOf ps).take m) (staysOf (tidyOf ps) keep)).length = m := by rw [failed_length _ _ (by rw [hLl, staysOf_length]; exact hup), hLl]
        have HLl := Aside0.mk hLl
        have HFl := Aside0.mk hFl
        clear hLl hFl
        go_wp2
        go_loopg [76] m (fun gg v76 W => ∃ k : Nat, k ≤ m ∧ m - k ≤ gg ∧ v76 = .int .i64 k ∧ Aside0 (W.heap[g]? = some (.cells #[.slice A m c] 30 (0, 0))) ∧ Aside0 (Fr w W (fun k => k = g)) ∧ Aside0 (Kd.bool.R 4 W w.heap.size (fun k => k = w1.heap.size) (.slice (some ⟨w1.heap.size, 0, none⟩) (tidyOf ps).length (tidyOf ps).length) (staysOf (tidyOf ps) keep)) ∧ Aside0 (Kd.N k52 52 W w.heap.size (fun k => (ok k ∨ w.heap.size ≤ k) ∧ k ≠ g ∧ k ≠ w1.heap.size) (.slice A m c) ((failed ((tidyOf ps).take m) (staysOf (tidyOf ps) keep)).take k ++ ((tidyOf ps).take m).drop k)))
        case atStart => exact ⟨0, Nat.zero_le _, by omega, rfl, ⟨blk_put HR.out.blk 0 _ rfl⟩, ⟨Fr.setCell HR.out.kept (.inl rfl) _⟩, ⟨Kd.R_far (p := ⟨g, 0, none⟩) HST.out (fun i hi he => HGN.out (he.symm.trans hi)) _⟩, ⟨by rw [List.take_zero, List.nil_append, List.drop_zero]; exact Kd.N_far (p := ⟨g, 0, none⟩) HNT.out (fun i hi => hi.2.1) _⟩⟩
        case round =>
          clear hcell hfr
          obtain ⟨k, hkm, hkg, rfl, HB, HKP, HS, HN⟩ := hrel
          have hcell := blk_cell HB.out 0
          simp at hcell
          by_cases hlt : k < m
          · have hLl := HLl.out
            have hFl := HFl.out
            have hkL : k < ((tidyOf ps).take m).length := by omega
            have hkF : k < (failed ((tidyOf ps).take m) (staysOf (tidyOf ps) keep)).length := by omega
            have hkS : k < (staysOf (tidyOf ps) keep).length := by rw [staysOf_length]; omega
            have hFk : (failed ((tidyOf ps).take m) (staysOf (tidyOf ps) keep))[k] = if (staysOf (tidyOf ps) keep)[k] then dur ((tidyOf ps).take m)[k] else blank ((tidyOf ps).take m)[k] := failed_at _ _ k hkF hkL hkS
            have hlen := mix_len _ _ (hFl.trans hLl.symm) k (by omega)
            obtain ⟨gA, capA, he, -⟩ := Kd.N_form HN.out (by omega)
            injection he with hA hl2 hc2
            clear hl2
            subst hc2
            subst hA
            obtain ⟨cc, hcl, hfk, hcc, hfr⟩ := Kd.N_elem HN.out ⟨[], false⟩ (k : Int) (by omega) (by omega)
            rw [Int.toNat_natCast, mix_at _ _ (hFl.trans hLl.symm) k hkL] at hfk
            obtain ⟨A0, c0, rfl, hl0, hF0⟩ := k52_openF hfk
            have g0 := hcc 0 _ rfl
            have g1 := hcc 1 _ rfl
            have f0 := hfr 0
            have f1 := hfr 1
            rw [show k52.sz = 2 from rfl, Int.toNat_natCast] at g0 g1 f0 f1
            rw [Nat.add_zero] at g0 f0
            have HC := Aside0.mk hcc
            have HL0 := Aside0.mk hl0
            have HF0 := Aside0.mk hF0
            obtain ⟨e0, -⟩ := R_get1 Value.bool HS.out k hkS
            have HFK := Aside0.mk hFk
            clear hFk
            clear hcc hfr hcl hfk hl0 hF0 hlen hLl hFl
            generalize (staysOf (tidyOf ps) keep)[k] = b at e0 HFK
            have hbl : ((tidyOf ps).take m)[k].f0.length ≤ 1000000 := HLB.out _ (List.mem_filter.1 (List.mem_of_mem_take (List.getElem_mem hkL))).1
            generalize ((tidyOf ps).take m)[k] = x at g0 g1 HL0 HF0 HFK HC hbl
            have hgA := HN.out.1 gA rfl
            have hgb := Kd.N_base HN.out gA rfl
            cases b with
            | true =>
              clear hgA hgb
              go_wp2
              go_roundg (m - (k + 1))
              case measure => omega
              case rel =>
                have hgA := HN.out.1 gA rfl
                have hgb := Kd.N_base HN.out gA rfl
                have hseg := Kd.N_seg HN.out (k : Int) (by omega) (by omega) (seg := [.bool true]) (j := 1) (x' := dur x) (okp := fun j => ((ok j ∨ w.heap.size ≤ j) ∧ j ≠ g ∧ j ≠ w1.heap.size) ∧ j ≠ gA) rfl HC.out (Nat.le_refl 2) (k52_mkF _ _ (dur x) HL0.out HF0.out) (fun j hj => hj)
                refine ⟨k + 1, by omega, Nat.le_refl _, by go_num, ⟨blk_far HB.out (p := ⟨gA, k * 2 + 1, none⟩) (fun h => hgA.2.1 h.symm) _⟩, ⟨Fr.setCell HKP.out (.inr hgb) _⟩, ⟨Kd.R_far (p := ⟨gA, k * 2 + 1, none⟩) HS.out (fun i hi he => hgA.2.2 (he.symm.trans hi)) _⟩, ⟨?_⟩⟩
                rw [← mix_step _ _ (HFl.out.trans HLl.out.symm) k hkF, HFK.out]
                exact hseg.1
            | false =>
              have hmkb := fun w => run_make_row' (P := Try.prog) 26 5 (.int .u8 0) 1 Try.underlying26 eInfoByte rfl .i64 .i64 x.f0.length (by omega) (by omega) w
              have hlw := World.block_lt_of_cell? wr _ g0
              have hcea := cell_allocs hcell
              have hcg0 := cell_allocs g0
              have hcg1 := cell_allocs g1
              have hcf0 := frozen_allocs g0 f0
              have hcf1 := frozen_allocs g1 f1
              clear hgb hlw
              go_wp2
              go_region
              clear hcell hcea hcg0 hcg1 hcf0 hcf1 g0 g1 f0 f1 e0 hmkb hgA
              have hgA := HN.out.1 gA rfl
              have hgb := Kd.N_base HN.out gA rfl
              have hfz : Kd.F (Kd.int .u8) (wr.alloc (.cells (madeCells #[.int .u8 0] x.f0.length) 5)) (fun j => j = wr.heap.size) (some ⟨wr.heap.size, 0, none⟩) x.f0.length (List.replicate x.f0.length 0) := by
                have ho := own_made wr w.heap.size 5 .u8 x.f0.length HKP.out.1 (by omega)
                rw [show nums .u8 (List.replicate x.f0.length 0) = encs (Value.int .u8) (List.replicate x.f0.length 0) from rfl] at ho
                have hr := Kd.R_of_own (h1 := fun _ => rfl) (ok := fun j => j = wr.heap.size) (xs := List.replicate x.f0.length (0 : Int)) (enc := Value.int .u8) (by rw [List.length_replicate]; exact ho) (fun j hj => by injection hj with hj; exact hj.symm)
                exact Kd.R_F hr
              have hA := Kd.N_alloc HN.out (.cells (madeCells #[.int .u8 0] x.f0.length) 5)
              have hCa : ∀ j u, [Value.slice A0 x.f0.length c0, Value.bool x.f1][j]? = some u → (wr.alloc (.cells (madeCells #[.int .u8 0] x.f0.length) 5)).cell? ⟨gA, (k : Int).toNat * k52.sz + j, none⟩ = some u := fun j u hj => cell_allocs (HC.out j u hj) _
              have hgl : gA < wr.heap.size := Kd.N_lt HN.out gA rfl
              have hseg := Kd.N_seg hA (k : Int) (by omega) (by omega) (seg := [.slice (some ⟨wr.heap.size, 0, none⟩) x.f0.length x.f0.length]) (j := 0) (x' := (⟨List.replicate x.f0.length 0, x.f1⟩ : S52)) (okp := fun j => j = wr.heap.size) rfl hCa (by show 0 + 1 ≤ 2; omega) (by
                have h2 := k52_mkF _ (fun j => j = wr.heap.size) (⟨List.replicate x.f0.length 0, x.f1⟩ : S52) (c0 := x.f0.length) (by simp) (by simpa using hfz)
                simpa using h2) (fun j hj => by
                subst hj
                have hg1 := blk_lt HB.out
                have hg2 := Kd.R_lt HS.out w1.heap.size rfl
                exact ⟨⟨.inr HKP.out.1, by omega, by omega⟩, by omega⟩)
              rw [show k52.sz = 2 from rfl, Int.toNat_natCast] at hseg
              have HB2 := Aside0.mk (show (((wr.alloc (.cells (madeCells #[.int .u8 0] x.f0.length) 5)).setCell ⟨gA, k * 2, none⟩ (.slice (some ⟨wr.heap.size, 0, none⟩) x.f0.length x.f0.length)).drew).heap[g]? = some (.cells #[.slice (some ⟨gA, 0, none⟩) m c] 30 (0, 0)) from blk_far (blk_alloc HB.out _) (p := ⟨gA, k * 2, none⟩) (fun h => hgA.2.1 h.symm) _)
              have HKP2 := Aside0.mk (show Fr w (((wr.alloc (.cells (madeCells #[.int .u8 0] x.f0.length) 5)).setCell ⟨gA, k * 2, none⟩ (.slice (some ⟨wr.heap.size, 0, none⟩) x.f0.length x.f0.length)).drew) (fun k => k = g) from Fr.drew (Fr.setCell (Fr.alloc HKP.out _) (.inr hgb) _))
              have HS2 := Aside0.mk (Kd.R_drew (Kd.R_far (p := ⟨gA, k * 2, none⟩) (Kd.R_alloc HS.out (.cells (madeCells #[.int .u8 0] x.f0.length) 5)) (fun i hi he => hgA.2.2 (he.symm.trans hi)) (.slice (some ⟨wr.heap.size, 0, none⟩) x.f0.length x.f0.length)))
              have HN2 := Aside0.mk (Kd.N_drew hseg.1)
              clear hseg hA hCa hfz hgA hgb hgl
              simp only [World.setCells, Nat.add_zero] at HN2
              generalize ((wr.alloc (.cells (madeCells #[.int .u8 0] x.f0.length) 5)).setCell ⟨gA, k * 2, none⟩ (.slice (some ⟨wr.heap.size, 0, none⟩) x.f0.length x.f0.length)).drew = W2 at HB2 HKP2 HS2 HN2 ⊢
              have hcell := blk_cell HB2.out 0
              simp at hcell
              have hkn : k < ((failed ((tidyOf ps).take m) (staysOf (tidyOf ps) keep)).take k ++ ((tidyOf ps).take m).drop k).length := by rw [mix_len _ _ (HFl.out.trans HLl.out.symm) k (by omega), HLl.out]; exact hlt
              obtain ⟨cc, hcl, hfk, hcc, hfr⟩ := Kd.N_elem HN2.out ⟨[], false⟩ (k : Int) (by omega) (by omega)
              rw [Int.toNat_natCast, List.getD_eq_getElem?_getD, List.getElem?_set_self hkn, Option.getD_some] at hfk
              obtain ⟨A1, c1, rfl, hl0, hF0⟩ := k52_openF hfk
              have g1 := hcc 1 _ rfl
              have f1 := hfr 1
              rw [show k52.sz = 2 from rfl, Int.toNat_natCast] at g1 f1
              have HC2 := Aside0.mk hcc
              have HL2 := Aside0.mk hl0
              have HF2 := Aside0.mk hF0
              clear hcc hfr hcl hfk hl0 hF0 hkn
              go_wp2
              go_roundg (m - (k + 1))
              case measure => omega
              case rel =>
                have hgA := HN2.out.1 gA rfl
                have hgb := Kd.N_base HN2.out gA rfl
                have hseg := Kd.N_seg HN2.out (k : Int) (by omega) (by omega) (seg := [.bool true]) (j := 1) (x' := blank x) (okp := fun j => ((ok j ∨ w.heap.size ≤ j) ∧ j ≠ g ∧ j ≠ w1.heap.size) ∧ j ≠ gA) rfl HC2.out (Nat.le_refl 2) (k52_mkF _ _ (blank x) HL2.out HF2.out) (fun j hj => hj)
                refine ⟨k + 1, by omega, Nat.le_refl _, by go_num, ⟨blk_far HB2.out (p := ⟨gA, k * 2 + 1, none⟩) (fun h => hgA.2.1 h.symm) _⟩, ⟨Fr.setCell HKP2.out (.inr hgb) _⟩, ⟨Kd.R_far (p := ⟨gA, k * 2 + 1, none⟩) HS2.out (fun i hi he => hgA.2.2 (he.symm.trans hi)) _⟩, ⟨?_⟩⟩
                rw [← mix_step _ _ (HFl.out.trans HLl.out.symm) k hkF, HFK.out]
                have h3 := hseg.1
                rw [Int.toNat_natCast, List.set_set] at h3
                exact h3
          · obtain rfl : k = m := by omega
            go_wp2
            rw [Exit.noGoto_normal]
            go_end0
            have hN := HN.out
            rw [List.take_of_length_le (by rw [HFl.out]; exact Nat.le_refl _), List.drop_eq_nil_of_le (by rw [HLl.out]; exact Nat.le_refl _), List.append_nil] at hN
            refine ⟨rfl, HKP.out, ?_⟩
            have he : failOf (tidyOf ps) keep = failed ((tidyOf ps).take k) (staysOf (tidyOf ps) keep) := by unfold failOf; rw [HM.out]
            rw [he]
            exact FileAt.of_tidy HB.out (Kd.N_mono hN (fun j hj => ⟨hj.1, hj.2.1⟩))
end Go.Proofs.Ytbpnbhccdpobpaa
