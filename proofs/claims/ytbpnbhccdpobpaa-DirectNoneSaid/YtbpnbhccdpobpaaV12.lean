import Derived.Test.YtbpnbhccdpobpaaV11
import Derived.Test.YtbpnbhccdpobpaaQ2
import Derived.Test.YtbpnbhccdpobpaaQ3
/-! law 08: a world of directories of one's own; rows written down. -/
set_option linter.unusedVariables false
set_option linter.unusedSimpArgs false
namespace Go.Proofs.Ytbpnbhccdpobpaa
open Go Go.RowKit Go.Proofs.YtbpnbhccdpobpaaW.PrintWords Go.Proofs.YtbpnbhccdpobpaaW.PrintLast Go.Proofs.YtbpnbhccdpobpaaW.PrintMore PDirectKnown Go.Maps

/-- A call's directories: none of what was there is touched. -/
def Wk (w W : World) (ds : List DS) : Prop := Dirs (fun k => k < w.heap.size) W ds ∧ Below w.heap.size w W
theorem Wk.none (w : World) : Wk w w [] := ⟨Dirs.none _ _ (fun _ h => h), Below.refl _ _⟩
theorem Wk.keep {w0 w w' : World} {ds : List DS} (h : Wk w0 w ds) (hb : Below w.heap.size w w') : Wk w0 w' ds := ⟨h.1.keep hb, below_step h.2 hb⟩
theorem below_fr {w0 w w' : World} (h : Below w0.heap.size w0 w) (hf : Fr w w' (fun k => ¬ k < w0.heap.size)) : Below w0.heap.size w0 w' := by
  obtain ⟨h1, h2, h3, h4, h5⟩ := hf
  refine ⟨h3.trans h.os, h4.trans h.tape, h5.trans h.output, Nat.le_trans h.size h1, fun b hb => ?_⟩
  exact (h2 b (Nat.lt_of_lt_of_le hb h.size) (fun hn => hn hb)).trans (h.block b hb)
section
variable {w0 w : World} {ds ds' : List DS} {i : Nat} {p c : Nat} {dur : List En} {acts : List Ac}
theorem newW (h : Wk w0 w ds) : Calls Try.prog 31 #[] w fun e w' => ∃ q, e = .returned (.pointer (some ⟨q, 0, none⟩)) ∧ Wk w0 w' (ds ++ [⟨q, [], [], 0⟩]) :=
  (newD h.1).mono fun e w' ⟨q, he, h1, h2⟩ => ⟨q, he, h1, below_step h.2 h2⟩
theorem copyW (h : Wk w0 w ds) (hi : ds[i]? = some ⟨p, dur, acts, c⟩) (hc : c < 100000) : Calls Try.prog 36 #[.pointer (some ⟨p, 0, none⟩)] w fun e w' => ∃ q, e = .returned (.pointer (some ⟨q, 0, none⟩)) ∧ Wk w0 w' (ds ++ [⟨q, dur, acts, c⟩]) :=
  (copyD h.1 hi hc).mono fun e w' ⟨q, he, h1, h2⟩ => ⟨q, he, h1, below_step h.2 h2⟩
theorem addW (h : Wk w0 w ds) (hi : ds[i]? = some ⟨p, dur, acts, c⟩) (s : ByteArray) (n r : Int) (acts' : List Ac) (hl : s.size ≤ 200) (hn : Wf n) (hc : c < 100000) (hr : addR dur acts s n = r) (ha : addA dur acts s n = acts') (hs : ds.set i ⟨p, dur, acts', c + 1⟩ = ds') :
    Calls Try.prog 43 #[.pointer (some ⟨p, 0, none⟩), .string s, .int .i64 n] w fun e w' => e = .returned (.int .i64 r) ∧ Wk w0 w' ds' := by
  subst ha hs
  exact (addD h.1 hi s n r hl hn hc hr).mono fun e w' ⟨he, h1, h2⟩ => ⟨he, h1, below_fr h.2 h2⟩
theorem removeW (h : Wk w0 w ds) (hi : ds[i]? = some ⟨p, dur, acts, c⟩) (s : ByteArray) (g r : Int) (acts' : List Ac) (hl : s.size ≤ 200) (hc : c < 100000) (hg : (getE (afterE dur acts) s).getD 0 = g) (hr : remR dur acts s = r) (ha : remA dur acts s = acts') (hs : ds.set i ⟨p, dur, acts', c + 1⟩ = ds') :
    Calls Try.prog 41 #[.pointer (some ⟨p, 0, none⟩), .string s] w fun e w' => e = .returned (.tuple #[.int .i64 g, .int .i64 r]) ∧ Wk w0 w' ds' := by
  subst ha hs
  exact (removeD h.1 hi s g r hl hc hg hr).mono fun e w' ⟨he, h1, h2⟩ => ⟨he, h1, below_fr h.2 h2⟩
theorem failW (h : Wk w0 w ds) (hi : ds[i]? = some ⟨p, dur, acts, c⟩) (keep : Int) (dur' : List En) (hc : c < 100000) (hd : afterE dur (acts.take (keepN keep acts.length)) = dur') (hs : ds.set i ⟨p, dur', [], c⟩ = ds') :
    Calls Try.prog 37 #[.pointer (some ⟨p, 0, none⟩), .int .i64 keep] w fun e w' => e = .returned (.tuple #[]) ∧ Wk w0 w' ds' := by
  subst hd hs
  exact (failD h.1 hi keep _ hc rfl).mono fun e w' ⟨he, h1, h2⟩ => ⟨he, h1, below_fr h.2 h2⟩
theorem syncW (h : Wk w0 w ds) (hi : ds[i]? = some ⟨p, dur, acts, c⟩) (dur' : List En) (hc : c < 100000) (hd : afterE dur acts = dur') (hs : ds.set i ⟨p, dur', [], c⟩ = ds') :
    Calls Try.prog 33 #[.pointer (some ⟨p, 0, none⟩)] w fun e w' => e = .returned (.tuple #[]) ∧ Wk w0 w' ds' := by
  subst hd hs
  exact (syncD h.1 hi hc).mono fun e w' ⟨he, h1, h2⟩ => ⟨he, h1, below_fr h.2 h2⟩
theorem listW (h : Wk w0 w ds) (hi : ds[i]? = some ⟨p, dur, acts, c⟩) (ys : List De) (m : Nat) (hy : (afterE dur acts).map toD = ys) (hm : ys.length = m) (hc : c < 100000) :
    Calls Try.prog 34 #[.pointer (some ⟨p, 0, none⟩)] w fun e w' => ∃ A cc, e = .returned (.slice A m cc) ∧ m ≤ cc ∧ Kd.C k98 w' A m ys ∧ Below w.heap.size w w' := by
  refine (listD h.1 hi ys hy hc).mono ?_
  rintro e w' ⟨⟨v, rfl, hR⟩, hb⟩
  obtain ⟨A, cc, rfl, h1, h2⟩ := Kd.R_reads hR
  subst hm
  exact ⟨A, cc, rfl, h1, h2, hb⟩
theorem pendW (h : Wk w0 w ds) (hi : ds[i]? = some ⟨p, dur, acts, c⟩) (m : Nat) (hm : acts.length = m) :
    Calls Try.prog 35 #[.pointer (some ⟨p, 0, none⟩)] w fun e w' => e = .returned (.int .i64 m) ∧ w' = w := pendD h.1 hi m hm
end
/-- Rows that were written down. -/
theorem lit_C1 (w : World) (a : ByteArray) (i : Int) : Kd.C k93 (w.alloc (.cells #[.string a, .int .i64 i] 93)) (some ⟨w.heap.size, 0, none⟩) 1 [⟨a, i⟩] := by
  have ho := World.ownsRow_lit (base := w.heap.size) (e := 93) (size := 2) w #[.string a, .int .i64 i] 1 (Nat.le_refl _) (by decide) rfl
  have hR : Kd.R k93 93 (w.alloc (.cells #[.string a, .int .i64 i] 93)) w.heap.size (fun _ => True) (.slice (some ⟨w.heap.size, 0, none⟩) 1 1) [⟨a, i⟩] := by
    refine ⟨fun _ _ => trivial, _, ho, rfl, ?_⟩
    intro j x hj
    match j, hj with
    | 0, hj =>
      injection hj with hj
      subst hj
      exact ⟨_, _, rfl, rfl, rfl⟩
  exact (Kd.R_reads' hR).2.2
theorem lit_C2 (w : World) (a b : ByteArray) (i j : Int) : Kd.C k93 (w.alloc (.cells #[.string a, .int .i64 i, .string b, .int .i64 j] 93)) (some ⟨w.heap.size, 0, none⟩) 2 [⟨a, i⟩, ⟨b, j⟩] := by
  have ho := World.ownsRow_lit (base := w.heap.size) (e := 93) (size := 2) w #[.string a, .int .i64 i, .string b, .int .i64 j] 2 (Nat.le_refl _) (by decide) rfl
  have hR : Kd.R k93 93 (w.alloc (.cells #[.string a, .int .i64 i, .string b, .int .i64 j] 93)) w.heap.size (fun _ => True) (.slice (some ⟨w.heap.size, 0, none⟩) 2 2) [⟨a, i⟩, ⟨b, j⟩] := by
    refine ⟨fun _ _ => trivial, _, ho, rfl, ?_⟩
    intro t x ht
    match t, ht with
    | 0, ht =>
      injection ht with ht
      subst ht
      exact ⟨_, _, rfl, rfl, rfl⟩
    | 1, ht =>
      injection ht with ht
      subst ht
      exact ⟨_, _, rfl, rfl, rfl⟩
  exact (Kd.R_reads' hR).2.2
theorem k_add1r : addR [] [] ⟨#[97]⟩ 1 = 0 := by kernel_rfl
theorem k_add1a : addA [] [] ⟨#[97]⟩ 1 = [⟨true, ⟨⟨#[97]⟩, 1⟩⟩] := by kernel_rfl
theorem k_sync1 : afterE [] [⟨true, ⟨⟨#[97]⟩, 1⟩⟩] = [⟨⟨#[97]⟩, 1⟩] := by kernel_rfl
theorem k_add2r : addR [⟨⟨#[97]⟩, 1⟩] [] ⟨#[98]⟩ 2 = 0 := by kernel_rfl
theorem k_add2a : addA [⟨⟨#[97]⟩, 1⟩] [] ⟨#[98]⟩ 2 = [⟨true, ⟨⟨#[98]⟩, 2⟩⟩] := by kernel_rfl
theorem k_rem1g : (getE (afterE [⟨⟨#[97]⟩, 1⟩] [⟨true, ⟨⟨#[98]⟩, 2⟩⟩]) ⟨#[97]⟩).getD 0 = 1 := by kernel_rfl
theorem k_rem1r : remR [⟨⟨#[97]⟩, 1⟩] [⟨true, ⟨⟨#[98]⟩, 2⟩⟩] ⟨#[97]⟩ = 0 := by kernel_rfl
theorem k_rem1a : remA [⟨⟨#[97]⟩, 1⟩] [⟨true, ⟨⟨#[98]⟩, 2⟩⟩] ⟨#[97]⟩ = [⟨true, ⟨⟨#[98]⟩, 2⟩⟩, ⟨false, ⟨⟨#[97]⟩, 1⟩⟩] := by kernel_rfl
theorem k_fail1 : afterE [⟨⟨#[97]⟩, 1⟩] (([⟨true, ⟨⟨#[98]⟩, 2⟩⟩, ⟨false, ⟨⟨#[97]⟩, 1⟩⟩] : List Ac).take (keepN 1 ([⟨true, ⟨⟨#[98]⟩, 2⟩⟩, ⟨false, ⟨⟨#[97]⟩, 1⟩⟩] : List Ac).length)) = [⟨⟨#[97]⟩, 1⟩, ⟨⟨#[98]⟩, 2⟩] := by kernel_rfl
theorem k_fail0 : afterE [⟨⟨#[97]⟩, 1⟩] (([⟨true, ⟨⟨#[98]⟩, 2⟩⟩, ⟨false, ⟨⟨#[97]⟩, 1⟩⟩] : List Ac).take (keepN 0 ([⟨true, ⟨⟨#[98]⟩, 2⟩⟩, ⟨false, ⟨⟨#[97]⟩, 1⟩⟩] : List Ac).length)) = [⟨⟨#[97]⟩, 1⟩] := by kernel_rfl
theorem k_fail2 : afterE [⟨⟨#[97]⟩, 1⟩] (([⟨true, ⟨⟨#[98]⟩, 2⟩⟩, ⟨false, ⟨⟨#[97]⟩, 1⟩⟩] : List Ac).take (keepN 2 ([⟨true, ⟨⟨#[98]⟩, 2⟩⟩, ⟨false, ⟨⟨#[97]⟩, 1⟩⟩] : List Ac).length)) = [⟨⟨#[98]⟩, 2⟩] := by kernel_rfl
theorem k_rem2g : (getE (afterE [⟨⟨#[97]⟩, 1⟩] [⟨true, ⟨⟨#[98]⟩, 2⟩⟩, ⟨false, ⟨⟨#[97]⟩, 1⟩⟩]) ⟨#[120]⟩).getD 0 = 0 := by kernel_rfl
theorem k_rem2r : remR [⟨⟨#[97]⟩, 1⟩] [⟨true, ⟨⟨#[98]⟩, 2⟩⟩, ⟨false, ⟨⟨#[97]⟩, 1⟩⟩] ⟨#[120]⟩ = 80 := by kernel_rfl
theorem k_rem2a : remA [⟨⟨#[97]⟩, 1⟩] [⟨true, ⟨⟨#[98]⟩, 2⟩⟩, ⟨false, ⟨⟨#[97]⟩, 1⟩⟩] ⟨#[120]⟩ = [⟨true, ⟨⟨#[98]⟩, 2⟩⟩, ⟨false, ⟨⟨#[97]⟩, 1⟩⟩] := by kernel_rfl
theorem k_add3r : addR [⟨⟨#[97]⟩, 1⟩] [⟨true, ⟨⟨#[98]⟩, 2⟩⟩, ⟨false, ⟨⟨#[97]⟩, 1⟩⟩] ⟨#[98]⟩ 1 = 81 := by kernel_rfl
theorem k_add3a : addA [⟨⟨#[97]⟩, 1⟩] [⟨true, ⟨⟨#[98]⟩, 2⟩⟩, ⟨false, ⟨⟨#[97]⟩, 1⟩⟩] ⟨#[98]⟩ 1 = [⟨true, ⟨⟨#[98]⟩, 2⟩⟩, ⟨false, ⟨⟨#[97]⟩, 1⟩⟩] := by kernel_rfl
theorem k_add4r : addR [⟨⟨#[97]⟩, 1⟩] [⟨true, ⟨⟨#[98]⟩, 2⟩⟩, ⟨false, ⟨⟨#[97]⟩, 1⟩⟩] ⟨#[]⟩ 1 = 2 := by kernel_rfl
theorem k_add4a : addA [⟨⟨#[97]⟩, 1⟩] [⟨true, ⟨⟨#[98]⟩, 2⟩⟩, ⟨false, ⟨⟨#[97]⟩, 1⟩⟩] ⟨#[]⟩ 1 = [⟨true, ⟨⟨#[98]⟩, 2⟩⟩, ⟨false, ⟨⟨#[97]⟩, 1⟩⟩] := by kernel_rfl
theorem k_same1 : chartroomlaw08_same.f 9 [⟨⟨#[97]⟩, 1⟩, ⟨⟨#[98]⟩, 2⟩] [⟨⟨#[97]⟩, 1⟩, ⟨⟨#[98]⟩, 2⟩] = some true := by kernel_rfl
theorem k_same2 : chartroomlaw08_same.f 9 [⟨⟨#[97]⟩, 1⟩] [⟨⟨#[97]⟩, 1⟩] = some true := by kernel_rfl
theorem k_same3 : chartroomlaw08_same.f 9 [⟨⟨#[98]⟩, 2⟩] [⟨⟨#[98]⟩, 2⟩] = some true := by kernel_rfl
theorem sameW (A0 : Option Addr) (c0 : Nat) (l0 : List De) (A1 : Option Addr) (c1 : Nat) (l1 : List En) (m n k : Nat) (r : Bool) (w : World) (hm : l0.length = m) (hn : l1.length = n) (hr0 : Kd.C k98 w A0 m l0) (hc0 : m ≤ c0) (hr1 : Kd.C k93 w A1 n l1) (hc1 : n ≤ c1) (h : chartroomlaw08_same.f k l0 l1 = some r) :
    Calls Try.prog 52 #[.slice A0 m c0, .slice A1 n c1] w fun e w' => e = .returned (.bool r) ∧ Below w.heap.size w w' := by
  subst hm hn
  exact (chartroomlaw08_same.calls k A0 c0 l0 A1 c1 l1 r w hr0 hc0 hr1 hc1 h).mono fun e w' ⟨he, hd⟩ => ⟨he, hd.below⟩
theorem Wk.drew {w0 w : World} {ds : List DS} (h : Wk w0 w ds) : Wk w0 w.drew ds := h.keep (below_drew (Below.refl _ _))
/-- The four directories of works. -/
def wk (n : Nat) (p px py pz : Nat) : List DS := [⟨p, [⟨⟨#[97]⟩, 1⟩], [⟨true, ⟨⟨#[98]⟩, 2⟩⟩, ⟨false, ⟨⟨#[97]⟩, 1⟩⟩], n⟩, ⟨px, [⟨⟨#[97]⟩, 1⟩, ⟨⟨#[98]⟩, 2⟩], [], 3⟩, ⟨py, [⟨⟨#[97]⟩, 1⟩], [], 3⟩, ⟨pz, [⟨⟨#[98]⟩, 2⟩], [], 3⟩]
end Go.Proofs.Ytbpnbhccdpobpaa
