import Derived.Test.YtbpnbhccdpobpaaE15
/-! ExtentKeeps in plain Lean. -/
set_option linter.unusedVariables false
set_option linter.unusedSimpArgs false
namespace Go.Proofs.Ytbpnbhccdpobpaa
open Go.RowKit Go.Proofs.YtbpnbhccdpobpaaW.PrintWords PExtentKnown

/-- A file's bytes. -/
def bsOf (ps : List S52) : List Int := cont (ps.map toR)
theorem bsOf_cons (p : S52) (r : List S52) : bsOf (p :: r) = p.f0 ++ bsOf r := by simp [bsOf, cont, toR]
theorem bsOf_append (a b : List S52) : bsOf (a ++ b) = bsOf a ++ bsOf b := by simp [bsOf, cont]
theorem bsOf_dur (l : List S52) : bsOf (l.map dur) = bsOf l := by
  induction l with
  | nil => rfl
  | cons p r ih => rw [List.map_cons, bsOf_cons, bsOf_cons, ih]; rfl
theorem bsOf_tidy (l : List S52) : bsOf (tidyOf l) = bsOf l := by
  induction l with
  | nil => rfl
  | cons p r ih =>
    by_cases h : p.f0.length = 0
    · have h2 : tidyOf (p :: r) = tidyOf r := by unfold tidyOf; rw [List.filter_cons_of_neg (by simpa using List.eq_nil_of_length_eq_zero h)]
      rw [h2, ih, bsOf_cons, List.eq_nil_of_length_eq_zero h, List.nil_append]
    · have h2 : tidyOf (p :: r) = p :: tidyOf r := by unfold tidyOf; rw [List.filter_cons_of_pos (by simpa using fun he => h (by rw [he]; rfl))]
      rw [h2, bsOf_cons, bsOf_cons, ih]
theorem staysOf_dur : ∀ (ds vs : List S52) (keep : List Bool), (∀ p ∈ ds, p.f1 = true) → staysOf (ds ++ vs) keep = List.replicate ds.length true ++ staysOf vs keep
  | [], _, _, _ => rfl
  | p :: r, vs, keep, h => by
    have hp := h p (by simp)
    simp only [List.cons_append, staysOf, stayOf, nextOf, hp, if_true, List.length_cons, List.replicate_succ]
    rw [staysOf_dur r vs keep (fun q hq => h q (by simp [hq]))]
theorem upTo_true : ∀ (n : Nat) (l : List Bool), upTo (List.replicate n true ++ l) = n + upTo l
  | 0, l => by simp
  | n + 1, l => by
    rw [List.replicate_succ, List.cons_append]
    simp only [upTo]
    rw [upTo_true n l]
    split
    · simp; omega
    · omega
theorem failed_true : ∀ (ds X : List S52) (s : List Bool), failed (ds ++ X) (List.replicate ds.length true ++ s) = ds.map dur ++ failed X s
  | [], _, _ => rfl
  | p :: r, X, s => by
    have h := failed_true r X s
    simp only [failed, List.cons_append, List.length_cons, List.replicate_succ, List.zip_cons_cons, List.map_cons, if_true] at h ⊢
    rw [h]
theorem failOf_dur (ds vs : List S52) (keep : List Bool) (h : ∀ p ∈ ds, p.f1 = true) : failOf (ds ++ vs) keep = ds.map dur ++ failOf vs keep := by
  unfold failOf
  rw [staysOf_dur _ _ _ h, upTo_true, List.take_append, List.take_of_length_le (by omega), Nat.add_sub_cancel_left, failed_true]
theorem failOf_all (ds : List S52) (keep : List Bool) (h : ∀ p ∈ ds, p.f1 = true) : failOf ds keep = ds.map dur := by
  have := failOf_dur ds [] keep h
  rw [List.append_nil] at this
  rw [this]
  exact List.append_nil _
/-- What a failure leaves of bytes: no more of them, and each as it was, or nought. -/
def Weak (now was : List Int) : Prop := now.length ≤ was.length ∧ ∀ (i : Nat) (x : Int), now[i]? = some x → was[i]? = some x ∨ x = 0
theorem Weak.app {a b c d : List Int} (hl : a.length = b.length) (h1 : Weak a b) (h2 : Weak c d) : Weak (a ++ c) (b ++ d) := by
  refine ⟨by rw [List.length_append, List.length_append]; have := h2.1; omega, fun i x hx => ?_⟩
  by_cases hi : i < a.length
  · rw [List.getElem?_append_left hi] at hx
    rw [List.getElem?_append_left (by omega)]
    exact h1.2 i x hx
  · rw [List.getElem?_append_right (by omega)] at hx
    rw [List.getElem?_append_right (by omega), ← hl]
    exact h2.2 _ x hx
theorem Weak.refl (a : List Int) : Weak a a := ⟨Nat.le_refl _, fun i x hx => .inl hx⟩
theorem failed_weak : ∀ (vs : List S52) (n : Nat) (s : List Bool), Weak (bsOf (failed (vs.take n) s)) (bsOf vs)
  | [], n, s => by
    rw [List.take_nil]
    exact Weak.refl _
  | p :: r, 0, s => ⟨by simp [failed, bsOf, cont], fun i x hx => by simp [failed, bsOf, cont] at hx⟩
  | p :: r, n + 1, [] => ⟨by simp [failed, bsOf, cont], fun i x hx => by simp [failed, bsOf, cont] at hx⟩
  | p :: r, n + 1, b :: s => by
    have ih := failed_weak r n s
    have h1 : failed ((p :: r).take (n + 1)) (b :: s) = (if b then dur p else blank p) :: failed (r.take n) s := rfl
    rw [h1, bsOf_cons, bsOf_cons]
    cases b with
    | true => exact Weak.app (by rfl) (Weak.refl _) ih
    | false =>
      refine Weak.app (by simp [blank]) ⟨by simp [blank], fun i x hx => .inr ?_⟩ ih
      simp only [blank, Bool.false_eq_true, if_false] at hx
      rw [List.getElem?_replicate] at hx
      split at hx
      · injection hx with hx; exact hx.symm
      · cases hx
/-- Are the first n told to stay? -/
def allB (keep : List Bool) : Nat → Bool
  | 0 => true
  | n + 1 => allB keep n && keep.getD n false
theorem allB_at : ∀ (keep : List Bool) (n : Nat), allB keep n = true → ∀ i, i < n → keep.getD i false = true
  | _, 0, _, i, hi => absurd hi (Nat.not_lt_zero _)
  | keep, n + 1, h, i, hi => by
    simp only [allB, Bool.and_eq_true] at h
    rcases Nat.lt_or_ge i n with h1 | h1
    · exact allB_at keep n h.1 i h1
    · obtain rfl : i = n := by omega
      exact h.2
theorem staysOf_vol : ∀ (vs : List S52) (keep : List Bool), (∀ p ∈ vs, p.f1 = false) → (∀ i, i < vs.length → keep.getD i false = true) → staysOf vs keep = List.replicate vs.length true
  | [], _, _, _ => rfl
  | p :: r, keep, h, hk => by
    have hp := h p (by simp)
    have h0 := hk 0 (by simp)
    simp only [staysOf, stayOf, nextOf, hp, Bool.false_eq_true, if_false, List.length_cons, List.replicate_succ]
    rw [staysOf_vol r keep.tail (fun q hq => h q (by simp [hq])) (fun i hi => by
      have := hk (i + 1) (by simp; omega)
      cases keep with
      | nil => simp at this
      | cons a l => simpa using this)]
    cases keep with
    | nil => simp at h0
    | cons a l => simp at h0; simp [h0]
theorem volOf_vol : ∀ (vs : List S52), (∀ p ∈ vs, p.f1 = false) → (∀ p ∈ vs, p.f0.length ≠ 0) → volOf (vs.map toR) = vs.length
  | [], _, _ => rfl
  | p :: r, h, hn => by
    have hp := h p (by simp)
    have h0 := hn p (by simp)
    have ih := volOf_vol r (fun q hq => h q (by simp [hq])) (fun q hq => hn q (by simp [hq]))
    unfold volOf at ih ⊢
    rw [List.map_cons, List.filter_cons_of_pos (by simp [toR, hp]; exact fun he => h0 (by rw [he]; rfl)), List.length_cons, ih, List.length_cons]
theorem volOf_dur : ∀ (ds vs : List S52), (∀ p ∈ ds, p.f1 = true) → volOf ((ds ++ vs).map toR) = volOf (vs.map toR)
  | [], _, _ => rfl
  | p :: r, vs, h => by
    have hp := h p (by simp)
    have ih := volOf_dur r vs (fun q hq => h q (by simp [hq]))
    unfold volOf at ih ⊢
    rw [List.cons_append, List.map_cons, List.filter_cons_of_neg (by simp [toR, hp]), ih]
/-- As ExtentKeeps comes to it: durable parts of s bytes, volatile ones behind, none empty. -/
structure KeepS (ps : List S52) (s : Nat) : Prop where
  out : ∃ ds vs, ps = ds ++ vs ∧ (∀ p ∈ ds, p.f1 = true) ∧ (∀ p ∈ vs, p.f1 = false) ∧ (bsOf ds).length = s
  ne : ∀ p ∈ ps, p.f0.length ≠ 0
theorem tidy_ne {ps : List S52} (h : ∀ p ∈ ps, p.f0.length ≠ 0) : tidyOf ps = ps := by
  unfold tidyOf
  refine List.filter_eq_self.mpr (fun p hp => ?_)
  have := h p hp
  simpa using fun he => this (by rw [he]; rfl)
theorem tidy_all (ps : List S52) : ∀ p ∈ tidyOf ps, p.f0.length ≠ 0 := by
  intro p hp
  have := (List.mem_filter.mp hp).2
  intro he
  rw [he] at this
  exact absurd this (by decide)
theorem dur_ne {ps : List S52} (h : ∀ p ∈ ps, p.f0.length ≠ 0) : ∀ p ∈ ps.map dur, p.f0.length ≠ 0 := by
  intro p hp
  obtain ⟨q, hq, rfl⟩ := List.mem_map.mp hp
  exact h q hq
theorem dur_all (ps : List S52) : ∀ p ∈ ps.map dur, p.f1 = true := by
  intro p hp
  obtain ⟨q, hq, rfl⟩ := List.mem_map.mp hp
  rfl
theorem KeepS.nil : KeepS [] 0 := ⟨⟨[], [], rfl, by simp, by simp, rfl⟩, by simp⟩
theorem KeepS.sync (ps : List S52) : KeepS ((tidyOf ps).map dur) (bsOf ((tidyOf ps).map dur)).length :=
  ⟨⟨_, [], (List.append_nil _).symm, dur_all _, by simp, rfl⟩, dur_ne (tidy_all ps)⟩
theorem KeepS.app {ps : List S52} {s : Nat} (h : KeepS ps s) (b : List Int) : KeepS (tidyOf (ps ++ [⟨b, false⟩])) s := by
  obtain ⟨⟨ds, vs, rfl, h1, h2, h3⟩, hn⟩ := h
  refine ⟨⟨ds, vs ++ tidyOf [⟨b, false⟩], ?_, h1, fun p hp => ?_, h3⟩, tidy_all _⟩
  · rw [tidyOf_append, tidy_ne hn, List.append_assoc]
  · rcases List.mem_append.mp hp with hp | hp
    · exact h2 p hp
    · have := (List.mem_filter.mp hp).1
      rw [List.mem_singleton] at this
      rw [this]
/-- All durable, none empty. -/
structure AllD (ps : List S52) : Prop where
  dur_ : ∀ p ∈ ps, p.f1 = true
  ne : ∀ p ∈ ps, p.f0.length ≠ 0
theorem AllD.vol {ps : List S52} (h : AllD ps) : volOf (ps.map toR) = 0 := by
  have := volOf_dur ps [] h.dur_
  rw [List.append_nil] at this
  rw [this]; rfl
theorem AllD.fail {ps : List S52} (h : AllD ps) (keep : List Bool) : AllD (failOf (tidyOf ps) keep) ∧ bsOf (failOf (tidyOf ps) keep) = bsOf ps := by
  rw [tidy_ne h.ne, failOf_all ps keep h.dur_]
  exact ⟨⟨dur_all _, dur_ne h.ne⟩, bsOf_dur ps⟩
theorem AllD.appSync (ps : List S52) (b : List Int) : AllD ((tidyOf (tidyOf (ps ++ [⟨b, false⟩]))).map dur) ∧ bsOf ((tidyOf (tidyOf (ps ++ [⟨b, false⟩]))).map dur) = bsOf ps ++ b := by
  refine ⟨⟨dur_all _, dur_ne (tidy_all _)⟩, ?_⟩
  rw [bsOf_dur, bsOf_tidy, bsOf_tidy, bsOf_append, bsOf_cons]
  show _ ++ (b ++ []) = _
  rw [List.append_nil]
/-- What a failure does to such a file. -/
structure Failed (now was : List Int) (s : Nat) (all : Bool) : Prop where
  le : now.length ≤ was.length
  ge : s ≤ now.length
  all_ : all = true → now = was
  each : ∀ (i : Nat) (x y : Int), now[i]? = some x → was[i]? = some y → x ≠ y → x = 0 ∧ s ≤ i
theorem failed_ne : ∀ (vs : List S52) (s : List Bool), (∀ p ∈ vs, p.f0.length ≠ 0) → AllD (failed vs s)
  | [], _, _ => ⟨by simp [failed], by simp [failed]⟩
  | p :: r, [], _ => ⟨by simp [failed], by simp [failed]⟩
  | p :: r, b :: s, h => by
    have ih := failed_ne r s (fun q hq => h q (by simp [hq]))
    have h0 := h p (by simp)
    have h1 : failed (p :: r) (b :: s) = (if b then dur p else blank p) :: failed r s := rfl
    rw [h1]
    refine ⟨fun q hq => ?_, fun q hq => ?_⟩
    · rcases List.mem_cons.mp hq with rfl | hq
      · cases b <;> rfl
      · exact ih.dur_ q hq
    · rcases List.mem_cons.mp hq with rfl | hq
      · cases b
        · simpa [blank] using h0
        · exact h0
      · exact ih.ne q hq
theorem KeepS.fail {ps : List S52} {s : Nat} (h : KeepS ps s) (keep : List Bool) : AllD (failOf (tidyOf ps) keep) ∧ Failed (bsOf (failOf (tidyOf ps) keep)) (bsOf ps) s (allB keep (volOf (ps.map toR))) := by
  rw [tidy_ne h.ne]
  obtain ⟨⟨ds, vs, rfl, h1, h2, rfl⟩, hn⟩ := h
  have hnv : ∀ p ∈ vs, p.f0.length ≠ 0 := fun p hp => hn p (List.mem_append_right _ hp)
  refine ⟨failed_ne _ _ (fun p hp => hn p (List.mem_of_mem_take hp)), ?_⟩
  rw [failOf_dur ds vs keep h1, bsOf_append, bsOf_append, bsOf_dur, volOf_dur ds vs h1, volOf_vol vs h2 hnv]
  have hw : Weak (bsOf (failOf vs keep)) (bsOf vs) := failed_weak vs _ _
  refine ⟨by rw [List.length_append, List.length_append]; have := hw.1; omega, by rw [List.length_append]; omega, fun ha => ?_, fun i x y hx hy hne => ?_⟩
  · have hst := staysOf_vol vs keep h2 (allB_at keep _ ha)
    have hu := upTo_true vs.length []
    have hf := failed_true vs [] []
    rw [List.append_nil] at hu hf
    rw [List.append_nil] at hf
    have : failOf vs keep = vs.map dur := by
      unfold failOf
      rw [hst, hu, List.take_of_length_le (show vs.length ≤ vs.length + upTo [] by omega), hf]
      exact List.append_nil _
    rw [this, bsOf_dur]
  · by_cases hi : i < (bsOf ds).length
    · rw [List.getElem?_append_left hi] at hx hy
      exact absurd (Option.some.inj (hx.symm.trans hy)) hne
    · rw [List.getElem?_append_right (by omega)] at hx hy
      rcases hw.2 _ x hx with h3 | h3
      · exact absurd (Option.some.inj (h3.symm.trans hy)) hne
      · exact ⟨h3, by omega⟩
end Go.Proofs.Ytbpnbhccdpobpaa
