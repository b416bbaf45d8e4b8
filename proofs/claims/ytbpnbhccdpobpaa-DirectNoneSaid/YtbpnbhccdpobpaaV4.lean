import Derived.Test.YtbpnbhccdpobpaaV3
/-! direct: add, remove, Get, Pending. -/
set_option linter.unusedVariables false
set_option linter.unusedSimpArgs false
namespace Go.Proofs.Ytbpnbhccdpobpaa
open Go Go.RowKit Go.Proofs.YtbpnbhccdpobpaaW.PrintWords PDirectKnown Go.Maps

theorem cell_of_blk {w : World} {g : Nat} {t : TypeId} {cs : Array Value} (h : w.heap[g]? = some (.cells cs t (0, 0))) (i : Nat) {v : Value} (hv : cs[i]? = some v) : w.cell? ⟨g, i, none⟩ = some v := (blk_cell h i).trans hv
theorem litI_val {i : Int} (h : Wf i) : plainElem (H := Unit) Try.prog 3 (.int .i64 i) = some (litI i, []) := plainElem_int Try.underlying3 (by unfold Wf at h; exact WalkArith.wf_i64 (by omega))
set_option maxHeartbeats 2000000 in
/-- add puts a name that is not there. -/
theorem add_calls (b n : Nat) (l : List En) (s : ByteArray) (i : Int) (w : World) (hm : MapAt w b n l) (hs : Srt l) (hn : getE l s = none) (hl : s.size ≤ 200) (hi : Wf i) (hb : n < 1000000) :
    Calls Try.prog 65 #[.map (some b), .agg #[.string s, .int .i64 i]] w fun e w' => e = .returned (.tuple #[]) ∧ MapAt w' b (n + 1) (putE l s i) ∧ w.grownBy w' (some b) := by
  obtain ⟨D, hown, hr⟩ := hm
  have HOWN := Aside0.mk (hown.alloc (.cells #[.string s, .int .i64 i] 98))
  have HR := Aside0.mk (hr.put hs hn i)
  have HK := Aside0.mk (keyS hl)
  have HV := Aside0.mk (litI_val hi)
  clear hown hr hn
  go_enter Try.func65, Try.ntmps65
  go_wp2_with (at_mapUpdate; refine wpList_mapUpdate_own _ rfl _ _ _ 94 rfl 9 3 lawS Try.underlying94 _ b n D rfl HOWN.out (by unfold maxLen; omega) _ _ _ rfl rfl HK.out _ [] HV.out ?_; intro w1 hown1 hg1)
  go_end0
  refine ⟨rfl, ⟨_, hown1, HR.out⟩, ?_⟩
  have h0 := World.grownBy_alloc w (.cells #[.string s, .int .i64 i] 98) (some b)
  exact ⟨hg1.os.trans h0.os, hg1.tape.trans h0.tape, hg1.output.trans h0.output, Nat.le_trans h0.size hg1.size, fun k hk hne => (hg1.block k (Nat.lt_of_lt_of_le hk h0.size) hne).trans (h0.block k hk hne)⟩
set_option maxHeartbeats 2000000 in
/-- remove takes a name. -/
theorem remove_calls (b n : Nat) (l : List En) (s : ByteArray) (i : Int) (w : World) (hm : MapAt w b n l) (hs : Srt l) (hl : s.size ≤ 200) :
    Calls Try.prog 64 #[.map (some b), .agg #[.string s, .int .i64 i]] w fun e w' => e = .returned (.tuple #[]) ∧ MapAt w' b n (withoutE l s) ∧ w.grownBy w' (some b) := by
  obtain ⟨D, hown, hr⟩ := hm
  have HOWN := Aside0.mk (hown.alloc (.cells #[.string s, .int .i64 i] 98))
  have HR := Aside0.mk (hr.del hs s)
  have HK := Aside0.mk (keyS hl)
  clear hown hr
  go_enter Try.func64, Try.ntmps64
  go_wp2_with (at_delete; refine wpList_delete_own _ rfl _ _ 94 9 rfl 3 lawS Try.underlying94 _ b n D rfl HOWN.out _ _ rfl HK.out ?_; intro w1 hown1 ht1)
  go_end0
  refine ⟨rfl, ⟨_, hown1, HR.out⟩, ?_⟩
  have hg1 := ht1.grown
  have h0 := World.grownBy_alloc w (.cells #[.string s, .int .i64 i] 98) (some b)
  exact ⟨hg1.os.trans h0.os, hg1.tape.trans h0.tape, hg1.output.trans h0.output, Nat.le_trans h0.size hg1.size, fun k hk hne => (hg1.block k (Nat.lt_of_lt_of_le hk h0.size) hne).trans (h0.block k hk hne)⟩
set_option maxHeartbeats 2000000 in
theorem get_calls (p : Nat) (ok : Nat → Prop) (dur : List En) (acts : List Ac) (c : Nat) (s : ByteArray) (g : Int) (b : Bool) (w : World) (hd : DirAt w p ok dur acts c) (hl : s.size ≤ 200) (hg : (getE (afterE dur acts) s).getD 0 = g) (hb : (getE (afterE dur acts) s).isSome = b) :
    Calls Try.prog 42 #[.pointer (some ⟨p, 0, none⟩), .string s] w fun e w' => e = .returned (.tuple #[.int .i64 g, .bool b]) ∧ w' = w := by
  obtain ⟨bd, bn, v, n1, n2, okr, hin, o1, o2, o3, o4, h2, h3⟩ := hd.out
  obtain ⟨D, hown, hr⟩ := hin.mn
  have hc1 := cell_of_blk hin.cells 1 rfl
  have HOWN := Aside0.mk hown
  have HR := Aside0.mk (fun c hc => (hr.get s (c := c) hc).trans hg)
  have HH := Aside0.mk ((hr.2 s).1.trans hb)
  have HK := Aside0.mk (keyS hl)
  clear hown hr hin hd hg hb
  go_enter Try.func42, Try.ntmps42
  go_wp2_with (at_lookup; refine wpList_lookup_own_ok_int _ rfl _ _ 94 rfl 9 3 .i64 lawS Try.underlying94 Try.underlying3 (zeroI _) bn n2 D rfl HOWN.out _ _ rfl HK.out ?_; intro c0 hat hwc; obtain rfl : c0 = g := HR.out c0 hat; rw [HH.out]; clear hat hwc)
  go_ret2
  exact ⟨rfl, rfl⟩
set_option maxHeartbeats 2000000 in
theorem pending_calls (p : Nat) (ok : Nat → Prop) (dur : List En) (acts : List Ac) (c m : Nat) (w : World) (hd : DirAt w p ok dur acts c) (hm : acts.length = m) :
    Calls Try.prog 35 #[.pointer (some ⟨p, 0, none⟩)] w fun e w' => e = .returned (.int .i64 m) ∧ w' = w := by
  obtain ⟨bd, bn, v, n1, n2, okr, hin, o1, o2, o3, o4, h2, h3⟩ := hd.out
  obtain ⟨A, cp, hv⟩ : ∃ A cp, v = .slice A m cp := by
    obtain ⟨A, cp, h⟩ := Kd.R_slice hin.row
    rw [List.length_map, hm] at h
    exact ⟨A, cp, h⟩
  subst hv
  have hc2 := cell_of_blk hin.cells 2 rfl
  clear hin hd hm h2 h3 o1 o2 o3 o4
  go_enter Try.func35, Try.ntmps35
  go_wp2
  go_ret
  exact ⟨rfl, rfl⟩
end Go.Proofs.Ytbpnbhccdpobpaa
