import Derived.Test.YtbpnbhccdpobpaaV10
/-! A few directories at once; what one that is not there answers. -/
set_option linter.unusedVariables false
set_option linter.unusedSimpArgs false
namespace Go.Proofs.Ytbpnbhccdpobpaa
open Go Go.RowKit Go.Proofs.YtbpnbhccdpobpaaW.PrintWords PDirectKnown Go.Maps

section
variable (w : World)
set_option maxHeartbeats 1000000 in
theorem nil_Add (s : ByteArray) (i : Int) : Calls Try.prog 43 #[.pointer none, .string s, .int .i64 i] w fun e w' => e = .returned (.int .i64 1) ∧ w' = w := by
  go_enter Try.func43, Try.ntmps43
  go_wp2
  go_ret
  exact ⟨rfl, rfl⟩
theorem nil_Remove (s : ByteArray) : Calls Try.prog 41 #[.pointer none, .string s] w fun e w' => e = .returned (.tuple #[.int .i64 0, .int .i64 1]) ∧ w' = w := by
  go_enter Try.func41, Try.ntmps41
  go_wp2
  go_ret2
  exact ⟨rfl, rfl⟩
theorem nil_Get (s : ByteArray) : Calls Try.prog 42 #[.pointer none, .string s] w fun e w' => e = .returned (.tuple #[.int .i64 0, .bool false]) ∧ w' = w := by
  go_enter Try.func42, Try.ntmps42
  go_wp2
  go_ret2
  exact ⟨rfl, rfl⟩
theorem nil_Sync : Calls Try.prog 33 #[.pointer none] w fun e w' => e = .returned (.tuple #[]) ∧ w' = w := by
  go_enter Try.func33, Try.ntmps33
  go_wp2
  first | go_end0 | refine bodyPost_ret (results_none rfl _ _ _) rfl ?_ | refine Go.bodyPost_end (a := ⟨_, []⟩) (results_none rfl _ _ _) rfl ?_
  exact ⟨rfl, rfl⟩
theorem nil_Fail (n : Int) : Calls Try.prog 37 #[.pointer none, .int .i64 n] w fun e w' => e = .returned (.tuple #[]) ∧ w' = w := by
  go_enter Try.func37, Try.ntmps37
  go_wp2
  first | go_end0 | refine bodyPost_ret (results_none rfl _ _ _) rfl ?_ | refine Go.bodyPost_end (a := ⟨_, []⟩) (results_none rfl _ _ _) rfl ?_
  exact ⟨rfl, rfl⟩
theorem nil_List : Calls Try.prog 34 #[.pointer none] w fun e w' => e = .returned (.slice none 0 0) ∧ w' = w := by
  go_enter Try.func34, Try.ntmps34
  go_wp2
  go_ret
  exact ⟨rfl, rfl⟩
theorem nil_Pending : Calls Try.prog 35 #[.pointer none] w fun e w' => e = .returned (.int .i64 0) ∧ w' = w := by
  go_enter Try.func35, Try.ntmps35
  go_wp2
  go_ret
  exact ⟨rfl, rfl⟩
theorem nil_Copy : Calls Try.prog 36 #[.pointer none] w fun e w' => e = .returned (.pointer none) ∧ w' = w := by
  go_enter Try.func36, Try.ntmps36
  go_wp2
  go_ret
  exact ⟨rfl, rfl⟩
end
structure DS where
  p : Nat
  dur : List En
  acts : List Ac
  c : Nat
/-- A few directories, apart from one another and from what is reserved. -/
structure DirsIn (R : Nat → Prop) (w : World) (ds : List DS) (oks : List (Nat → Prop)) : Prop where
  res : ∀ k, R k → k < w.heap.size
  len : oks.length = ds.length
  at_ : ∀ (i : Nat) (d : DS) (ok : Nat → Prop), ds[i]? = some d → oks[i]? = some ok → DirAt w d.p ok d.dur d.acts d.c
  lt : ∀ (i : Nat) (ok : Nat → Prop), oks[i]? = some ok → ∀ k, ok k → k < w.heap.size ∧ ¬ R k
  apart : ∀ (i j : Nat) (oi oj : Nat → Prop), i ≠ j → oks[i]? = some oi → oks[j]? = some oj → ∀ k, oi k → ¬ oj k
def Dirs (R : Nat → Prop) (w : World) (ds : List DS) : Prop := ∃ oks, DirsIn R w ds oks
theorem DirAt.tight {w : World} {p : Nat} {ok : Nat → Prop} {dur : List En} {acts : List Ac} {c : Nat} (h : DirAt w p ok dur acts c) : DirAt w p (fun k => ok k ∧ k < w.heap.size) dur acts c := by
  obtain ⟨bd, bn, v, n1, n2, okr, h1, o1, o2, o3, o4, h2, h3⟩ := h.out
  refine ⟨⟨bd, bn, v, n1, n2, fun k => okr k ∧ k < w.heap.size, ⟨h1.cells, h1.md, h1.mn, ?_, h1.ne⟩, ⟨o1, blk_lt h1.cells⟩, ⟨o2, h1.md.lt⟩, ⟨o3, h1.mn.lt⟩, fun k hk => ⟨o4 k hk.1, hk.2⟩, h2, h3⟩, h.srt, h.va, h.fine⟩
  obtain ⟨r1, inner, hown, hr⟩ := h1.row
  exact ⟨fun k hk => ⟨r1 k hk, Kd.R_lt h1.row k hk⟩, inner, hown, hr⟩
theorem Dirs.pick {R : Nat → Prop} {w : World} {ds : List DS} (h : Dirs R w ds) {i : Nat} {d : DS} (hi : ds[i]? = some d) :
    ∃ ok, DirAt w d.p ok d.dur d.acts d.c ∧ ∀ w' dur' acts' c', DirAt w' d.p (fun k => ok k ∨ w.heap.size ≤ k) dur' acts' c' → Fr w w' ok → Dirs R w' (ds.set i ⟨d.p, dur', acts', c'⟩) ∧ Fr w w' (fun k => ¬ R k) := by
  obtain ⟨oks, hin⟩ := h
  have hil : i < ds.length := (List.getElem?_eq_some_iff.mp hi).1
  obtain ⟨ok, hok⟩ : ∃ ok, oks[i]? = some ok := ⟨_, List.getElem?_eq_getElem (by rw [hin.len]; exact hil)⟩
  refine ⟨ok, hin.at_ i d ok hi hok, fun w' dur' acts' c' hd hf => ⟨⟨oks.set i (fun k => (ok k ∨ w.heap.size ≤ k) ∧ k < w'.heap.size), ?_⟩, hf.mono (fun k hk hr => (hin.lt i ok hok k hk).2 hr)⟩⟩
  have hoi : i < oks.length := by rw [hin.len]; exact hil
  refine ⟨fun k hk => Nat.lt_of_lt_of_le (hin.res k hk) hf.1, by rw [List.length_set, List.length_set, hin.len], ?_, ?_, ?_⟩
  · intro j e oj he hj
    by_cases hij : i = j
    · subst hij
      rw [List.getElem?_set_self hil] at he
      rw [List.getElem?_set_self hoi] at hj
      injection he with he
      injection hj with hj
      subst he hj
      exact hd.tight
    · rw [List.getElem?_set_ne hij] at he hj
      exact (hin.at_ j e oj he hj).fr hf (fun k hk hk2 => hin.apart i j ok oj hij hok hj k hk2 hk)
  · intro j oj hj k hk
    by_cases hij : i = j
    · subst hij
      rw [List.getElem?_set_self hoi] at hj
      injection hj with hj
      subst hj
      refine ⟨hk.2, fun hr => ?_⟩
      rcases hk.1 with h1 | h1
      · exact (hin.lt i ok hok k h1).2 hr
      · have := hin.res k hr; omega
    · rw [List.getElem?_set_ne hij] at hj
      obtain ⟨h1, h2⟩ := hin.lt j oj hj k hk
      exact ⟨Nat.lt_of_lt_of_le h1 hf.1, h2⟩
  · intro j l oj ol hjl hj hl k hkj hkl
    by_cases hij : i = j
    · subst hij
      rw [List.getElem?_set_self hoi] at hj
      rw [List.getElem?_set_ne hjl] at hl
      injection hj with hj
      subst hj
      rcases hkj.1 with h1 | h1
      · exact hin.apart i l ok ol hjl hok hl k h1 hkl
      · have := (hin.lt l ol hl k hkl).1; omega
    · rw [List.getElem?_set_ne hij] at hj
      by_cases hil2 : i = l
      · subst hil2
        rw [List.getElem?_set_self hoi] at hl
        injection hl with hl
        subst hl
        rcases hkl.1 with h1 | h1
        · exact hin.apart j i oj ok hjl hj hok k hkj h1
        · have := (hin.lt j oj hj k hkj).1; omega
      · rw [List.getElem?_set_ne hil2] at hl
        exact hin.apart j l oj ol hjl hj hl k hkj hkl
/-- Whatever makes memory alone leaves them; and what it made may be reserved. -/
theorem Dirs.below {R : Nat → Prop} {w w' : World} {ds : List DS} (h : Dirs R w ds) (hb : Below w.heap.size w w') : Dirs (fun k => R k ∨ (w.heap.size ≤ k ∧ k < w'.heap.size)) w' ds := by
  obtain ⟨oks, hin⟩ := h
  refine ⟨oks, fun k hk => ?_, hin.len, fun i d ok hi hk => (hin.at_ i d ok hi hk).below hb, fun i ok hi k hk => ?_, hin.apart⟩
  · rcases hk with hk | hk
    · exact Nat.lt_of_lt_of_le (hin.res k hk) hb.size
    · exact hk.2
  · obtain ⟨h1, h2⟩ := hin.lt i ok hi k hk
    refine ⟨Nat.lt_of_lt_of_le h1 hb.size, fun hr => ?_⟩
    rcases hr with hr | hr
    · exact h2 hr
    · omega
theorem Dirs.less {R R' : Nat → Prop} {w : World} {ds : List DS} (h : Dirs R w ds) (hs : ∀ k, R' k → R k) : Dirs R' w ds := by
  obtain ⟨oks, hin⟩ := h
  exact ⟨oks, fun k hk => hin.res k (hs k hk), hin.len, hin.at_, fun i ok hi k hk => ⟨(hin.lt i ok hi k hk).1, fun hr => (hin.lt i ok hi k hk).2 (hs k hr)⟩, hin.apart⟩
theorem Dirs.keep {R : Nat → Prop} {w w' : World} {ds : List DS} (h : Dirs R w ds) (hb : Below w.heap.size w w') : Dirs R w' ds := (h.below hb).less (fun k hk => .inl hk)
theorem Dirs.none (R : Nat → Prop) (w : World) (hr : ∀ k, R k → k < w.heap.size) : Dirs R w [] :=
  ⟨[], hr, rfl, fun i d ok hi => by simp at hi, fun i ok hi => by simp at hi, fun i j oi oj _ hi => by simp at hi⟩
/-- One more, all new. -/
theorem Dirs.more {R : Nat → Prop} {w w' : World} {ds : List DS} {p : Nat} {dur : List En} {acts : List Ac} {c : Nat} (h : Dirs R w ds) (hb : Below w.heap.size w w') (hd : DirAt w' p (fun k => w.heap.size ≤ k) dur acts c) : Dirs R w' (ds ++ [⟨p, dur, acts, c⟩]) := by
  obtain ⟨oks, hin⟩ := h
  have hl := hin.len
  refine ⟨oks ++ [fun k => w.heap.size ≤ k ∧ k < w'.heap.size], fun k hk => Nat.lt_of_lt_of_le (hin.res k hk) hb.size, by simp [hl], ?_, ?_, ?_⟩
  · intro i d ok hi hk
    by_cases hlt : i < ds.length
    · rw [List.getElem?_append_left hlt] at hi
      rw [List.getElem?_append_left (by omega)] at hk
      exact (hin.at_ i d ok hi hk).below hb
    · have : i = ds.length := by
        have := (List.getElem?_eq_some_iff.mp hi).1
        simp at this
        omega
      subst this
      rw [List.getElem?_append_right (Nat.le_refl _), Nat.sub_self] at hi
      rw [← hl, List.getElem?_append_right (Nat.le_refl _), Nat.sub_self] at hk
      injection hi with hi
      injection hk with hk
      subst hi hk
      exact hd.tight
  · intro i ok hi k hk
    by_cases hlt : i < oks.length
    · rw [List.getElem?_append_left hlt] at hi
      obtain ⟨h1, h2⟩ := hin.lt i ok hi k hk
      exact ⟨Nat.lt_of_lt_of_le h1 hb.size, h2⟩
    · have : i = oks.length := by
        have := (List.getElem?_eq_some_iff.mp hi).1
        simp at this
        omega
      subst this
      rw [List.getElem?_append_right (Nat.le_refl _), Nat.sub_self] at hi
      injection hi with hi
      subst hi
      exact ⟨hk.2, fun hr => by have := hin.res k hr; omega⟩
  · intro i j oi oj hij hi hj k hki hkj
    by_cases h1 : i < oks.length
    · rw [List.getElem?_append_left h1] at hi
      by_cases h2 : j < oks.length
      · rw [List.getElem?_append_left h2] at hj
        exact hin.apart i j oi oj hij hi hj k hki hkj
      · have : j = oks.length := by
          have := (List.getElem?_eq_some_iff.mp hj).1
          simp at this
          omega
        subst this
        rw [List.getElem?_append_right (Nat.le_refl _), Nat.sub_self] at hj
        injection hj with hj
        subst hj
        have := (hin.lt i oi hi k hki).1
        omega
    · have : i = oks.length := by
        have := (List.getElem?_eq_some_iff.mp hi).1
        simp at this
        omega
      subst this
      rw [List.getElem?_append_right (Nat.le_refl _), Nat.sub_self] at hi
      injection hi with hi
      subst hi
      have h2 : j < oks.length := by
        have := (List.getElem?_eq_some_iff.mp hj).1
        simp at this
        omega
      rw [List.getElem?_append_left h2] at hj
      have := (hin.lt j oj hj k hkj).1
      omega
section
variable {R : Nat → Prop} {w : World} {ds : List DS} {i : Nat} {p c : Nat} {dur : List En} {acts : List Ac}
theorem addD (h : Dirs R w ds) (hi : ds[i]? = some ⟨p, dur, acts, c⟩) (s : ByteArray) (n r : Int) (hl : s.size ≤ 200) (hn : Wf n) (hc : c < 100000) (hr : addR dur acts s n = r) :
    Calls Try.prog 43 #[.pointer (some ⟨p, 0, none⟩), .string s, .int .i64 n] w fun e w' => e = .returned (.int .i64 r) ∧ Dirs R w' (ds.set i ⟨p, dur, addA dur acts s n, c + 1⟩) ∧ Fr w w' (fun k => ¬ R k) := by
  obtain ⟨ok, hd, hk⟩ := h.pick hi
  exact (Add_calls p ok dur acts c s n r w hd hl hn hc hr).mono fun e w' ⟨he, h1, h2⟩ => ⟨he, hk _ _ _ _ h1 h2⟩
theorem removeD (h : Dirs R w ds) (hi : ds[i]? = some ⟨p, dur, acts, c⟩) (s : ByteArray) (g r : Int) (hl : s.size ≤ 200) (hc : c < 100000) (hg : (getE (afterE dur acts) s).getD 0 = g) (hr : remR dur acts s = r) :
    Calls Try.prog 41 #[.pointer (some ⟨p, 0, none⟩), .string s] w fun e w' => e = .returned (.tuple #[.int .i64 g, .int .i64 r]) ∧ Dirs R w' (ds.set i ⟨p, dur, remA dur acts s, c + 1⟩) ∧ Fr w w' (fun k => ¬ R k) := by
  obtain ⟨ok, hd, hk⟩ := h.pick hi
  exact (Remove_calls p ok dur acts c s g r w hd hl hc hg hr).mono fun e w' ⟨he, h1, h2⟩ => ⟨he, hk _ _ _ _ h1 h2⟩
theorem failD (h : Dirs R w ds) (hi : ds[i]? = some ⟨p, dur, acts, c⟩) (keep : Int) (kn : Nat) (hc : c < 100000) (hk : keepN keep acts.length = kn) :
    Calls Try.prog 37 #[.pointer (some ⟨p, 0, none⟩), .int .i64 keep] w fun e w' => e = .returned (.tuple #[]) ∧ Dirs R w' (ds.set i ⟨p, afterE dur (acts.take kn), [], c⟩) ∧ Fr w w' (fun k => ¬ R k) := by
  obtain ⟨ok, hd, hr⟩ := h.pick hi
  exact (fail_calls p ok dur acts c keep kn w hd hc hk).mono fun e w' ⟨he, h1, h2⟩ => ⟨he, hr _ _ _ _ h1 h2⟩
theorem syncD (h : Dirs R w ds) (hi : ds[i]? = some ⟨p, dur, acts, c⟩) (hc : c < 100000) :
    Calls Try.prog 33 #[.pointer (some ⟨p, 0, none⟩)] w fun e w' => e = .returned (.tuple #[]) ∧ Dirs R w' (ds.set i ⟨p, afterE dur acts, [], c⟩) ∧ Fr w w' (fun k => ¬ R k) := by
  obtain ⟨ok, hd, hr⟩ := h.pick hi
  exact (sync_calls8 p ok dur acts c w hd hc).mono fun e w' ⟨he, h1, h2⟩ => ⟨he, hr _ _ _ _ h1 h2⟩
theorem getD8 (h : Dirs R w ds) (hi : ds[i]? = some ⟨p, dur, acts, c⟩) (s : ByteArray) (g : Int) (b : Bool) (hl : s.size ≤ 200) (hg : (getE (afterE dur acts) s).getD 0 = g) (hb : (getE (afterE dur acts) s).isSome = b) :
    Calls Try.prog 42 #[.pointer (some ⟨p, 0, none⟩), .string s] w fun e w' => e = .returned (.tuple #[.int .i64 g, .bool b]) ∧ w' = w := by
  obtain ⟨ok, hd, hr⟩ := h.pick hi
  exact get_calls p ok dur acts c s g b w hd hl hg hb
theorem pendD (h : Dirs R w ds) (hi : ds[i]? = some ⟨p, dur, acts, c⟩) (m : Nat) (hm : acts.length = m) :
    Calls Try.prog 35 #[.pointer (some ⟨p, 0, none⟩)] w fun e w' => e = .returned (.int .i64 m) ∧ w' = w := by
  obtain ⟨ok, hd, hr⟩ := h.pick hi
  exact pending_calls p ok dur acts c m w hd hm
theorem listD (h : Dirs R w ds) (hi : ds[i]? = some ⟨p, dur, acts, c⟩) (ys : List De) (hy : (afterE dur acts).map toD = ys) (hc : c < 100000) :
    Calls Try.prog 34 #[.pointer (some ⟨p, 0, none⟩)] w fun e w' => (∃ v, e = .returned v ∧ Kd.R k98 98 w' w.heap.size (fun _ => True) v ys) ∧ Below w.heap.size w w' := by
  obtain ⟨ok, hd, hr⟩ := h.pick hi
  exact list_calls p ok dur acts c ys w hd hy hc
theorem copyD (h : Dirs R w ds) (hi : ds[i]? = some ⟨p, dur, acts, c⟩) (hc : c < 100000) :
    Calls Try.prog 36 #[.pointer (some ⟨p, 0, none⟩)] w fun e w' => ∃ q, e = .returned (.pointer (some ⟨q, 0, none⟩)) ∧ Dirs R w' (ds ++ [⟨q, dur, acts, c⟩]) ∧ Below w.heap.size w w' := by
  obtain ⟨ok, hd, hr⟩ := h.pick hi
  exact (copy_calls p ok dur acts c w hd hc).mono fun e w' ⟨⟨q, he, h1⟩, hb⟩ => ⟨q, he, h.more hb h1, hb⟩
theorem newD (h : Dirs R w ds) : Calls Try.prog 31 #[] w fun e w' => ∃ q, e = .returned (.pointer (some ⟨q, 0, none⟩)) ∧ Dirs R w' (ds ++ [⟨q, [], [], 0⟩]) ∧ Below w.heap.size w w' :=
  (new_calls8 w).mono fun e w' ⟨⟨q, he, h1⟩, hb⟩ => ⟨q, he, h.more hb h1, hb⟩
theorem Dirs.fine (h : Dirs R w ds) (hi : ds[i]? = some ⟨p, dur, acts, c⟩) : Srt dur ∧ VA dur acts ∧ Fine dur := by
  obtain ⟨ok, hd, _⟩ := h.pick hi
  exact ⟨hd.srt, hd.va, hd.fine⟩
end
end Go.Proofs.Ytbpnbhccdpobpaa
