import Derived.Test.YtbpnbhccdpobpaaV1
import Derived.Test.YtbpnbhccdpobpaaQ1
/-! Chapter 08 in plain Lean: rows in order, and acts that may be. -/
set_option linter.unusedVariables false
set_option linter.unusedSimpArgs false
namespace Go.Proofs.Ytbpnbhccdpobpaa
open Go Go.RowKit Go.Proofs.YtbpnbhccdpobpaaW.PrintWords PDirectKnown

theorem bl_irrefl : ∀ x : List UInt8, Op.bytesLess x x = false
  | [] => rfl
  | a :: x => by
    show (decide (a < a) || (a == a && Op.bytesLess x x)) = false
    rw [bl_irrefl x]
    have : ¬ a < a := fun hh => by have := UInt8.lt_iff_toNat_lt.mp hh; omega
    simp [this]
theorem bl_trans : ∀ x y z : List UInt8, Op.bytesLess x y = true → Op.bytesLess y z = true → Op.bytesLess x z = true
  | x, [], _, h, _ => by cases x <;> cases h
  | _, _ :: _, [], _, h => by simp [Op.bytesLess] at h
  | [], _ :: _, _ :: _, _, _ => rfl
  | a :: x, b :: y, c :: z, h1, h2 => by
    have ih := bl_trans x y z
    simp only [Op.bytesLess, Bool.or_eq_true, Bool.and_eq_true, decide_eq_true_eq, beq_iff_eq] at h1 h2 ⊢
    rcases h1 with h1 | ⟨rfl, h1⟩
    · rcases h2 with h2 | ⟨rfl, h2⟩
      · exact .inl (UInt8.lt_trans h1 h2)
      · exact .inl h1
    · rcases h2 with h2 | ⟨rfl, h2⟩
      · exact .inl h2
      · exact .inr ⟨rfl, ih h1 h2⟩
theorem less_irrefl (a : ByteArray) : less a a = false := bl_irrefl _
theorem less_trans {a b c : ByteArray} (h1 : less a b = true) (h2 : less b c = true) : less a c = true := bl_trans _ _ _ h1 h2
theorem less_total (a b : ByteArray) : less a b = true ∨ a = b ∨ less b a = true := by
  have h := less_flip a.toList b.toList
  unfold less
  cases h1 : Op.bytesLess a.toList b.toList with
  | true => exact .inl rfl
  | false =>
    rw [h1, Bool.false_or] at h
    cases h2 : (a.toList == b.toList) with
    | true => exact .inr (.inl (toList_inj (beq_iff_eq.mp h2)))
    | false => rw [h2] at h; exact .inr (.inr h.symm)
theorem less_asymm {a b : ByteArray} (h : less a b = true) : less b a = false := by
  cases h2 : less b a with
  | false => rfl
  | true => have := less_trans h h2; rw [less_irrefl] at this; cases this
/-- In order, no name twice. -/
def Srt (l : List En) : Prop := l.Pairwise fun a b => less a.f0 b.f0 = true
theorem getE_nil (s : ByteArray) : getE [] s = none := rfl
theorem getE_cons (e : En) (r : List En) (s : ByteArray) : getE (e :: r) s = if e.f0 = s then some e.f1 else getE r s := by
  unfold getE
  rw [List.find?_cons]
  by_cases h : e.f0 = s <;> simp [h]
theorem getE_none {l : List En} {s : ByteArray} : getE l s = none ↔ ∀ e ∈ l, e.f0 ≠ s := by
  unfold getE
  rw [Option.map_eq_none_iff, List.find?_eq_none]
  simp
theorem getE_some {l : List En} {s : ByteArray} {v : Int} (h : getE l s = some v) : ⟨s, v⟩ ∈ l := by
  unfold getE at h
  obtain ⟨e, he, rfl⟩ := Option.map_eq_some_iff.mp h
  have h1 := List.find?_some he
  have h2 := List.mem_of_find?_eq_some he
  have : e.f0 = s := by simpa using h1
  subst this
  exact h2
theorem Srt.nodup {l : List En} (h : Srt l) {e e' : En} (he : e ∈ l) (he' : e' ∈ l) (hn : e.f0 = e'.f0) : e = e' := by
  induction l with
  | nil => cases he
  | cons x r ih =>
    obtain ⟨h1, h2⟩ := List.pairwise_cons.mp h
    rcases List.mem_cons.mp he with rfl | hr1
    · rcases List.mem_cons.mp he' with rfl | hr2
      · rfl
      · have := h1 e' hr2; rw [hn, less_irrefl] at this; cases this
    · rcases List.mem_cons.mp he' with rfl | hr2
      · have := h1 e hr1; rw [hn, less_irrefl] at this; cases this
      · exact ih h2 hr1 hr2
theorem getE_mem {l : List En} (h : Srt l) {s : ByteArray} {v : Int} : getE l s = some v ↔ ⟨s, v⟩ ∈ l := by
  refine ⟨getE_some, fun hm => ?_⟩
  cases hg : getE l s with
  | none => exact absurd rfl (getE_none.mp hg _ hm)
  | some v' =>
    have := h.nodup (getE_some hg) hm rfl
    injection this with _ h2
    rw [h2]
theorem mem_put {l : List En} {s : ByteArray} {i : Int} {e : En} : e ∈ putE l s i ↔ e = ⟨s, i⟩ ∨ e ∈ l := by
  induction l with
  | nil => simp [putE]
  | cons x r ih =>
    unfold putE
    split
    · simp
    · rw [List.mem_cons, ih, List.mem_cons]
      constructor
      · rintro (h | h | h)
        · exact .inr (.inl h)
        · exact .inl h
        · exact .inr (.inr h)
      · rintro (h | h | h)
        · exact .inr (.inl h)
        · exact .inl h
        · exact .inr (.inr h)
theorem Srt.put {l : List En} (h : Srt l) {s : ByteArray} (hs : getE l s = none) (i : Int) : Srt (putE l s i) := by
  induction l with
  | nil => exact List.pairwise_singleton _ _
  | cons x r ih =>
    obtain ⟨h1, h2⟩ := List.pairwise_cons.mp h
    have hx : x.f0 ≠ s := getE_none.mp hs x (List.mem_cons_self ..)
    have hr : getE r s = none := getE_none.mpr fun e he => getE_none.mp hs e (List.mem_cons_of_mem _ he)
    unfold putE
    by_cases hl : less s x.f0 = true
    · rw [if_pos hl]
      refine List.pairwise_cons.mpr ⟨fun e he => ?_, h⟩
      rcases List.mem_cons.mp he with rfl | he
      · exact hl
      · exact less_trans hl (h1 e he)
    · rw [if_neg hl]
      refine List.pairwise_cons.mpr ⟨fun e he => ?_, ih h2 hr⟩
      rcases mem_put.mp he with rfl | he
      · rcases less_total s x.f0 with h3 | h3 | h3
        · exact absurd h3 hl
        · exact absurd h3.symm hx
        · exact h3
      · exact h1 e he
theorem Srt.without {l : List En} (h : Srt l) (s : ByteArray) : Srt (withoutE l s) := List.Pairwise.filter _ h
theorem getE_put {l : List En} (h : Srt l) {s : ByteArray} (hs : getE l s = none) (i : Int) (s' : ByteArray) : getE (putE l s i) s' = if s' = s then some i else getE l s' := by
  by_cases he : s' = s
  · rw [if_pos he, he]
    exact (getE_mem (h.put hs i)).mpr (mem_put.mpr (.inl rfl))
  · rw [if_neg he]
    cases hg : getE l s' with
    | none =>
      refine getE_none.mpr fun e hm => ?_
      rcases mem_put.mp hm with rfl | hm
      · exact fun h => he h.symm
      · exact getE_none.mp hg e hm
    | some v => exact (getE_mem (h.put hs i)).mpr (mem_put.mpr (.inr (getE_some hg)))
theorem getE_without {l : List En} (h : Srt l) (s s' : ByteArray) : getE (withoutE l s) s' = if s' = s then none else getE l s' := by
  by_cases he : s' = s
  · rw [if_pos he, he]
    refine getE_none.mpr fun e hm => ?_
    have := (List.mem_filter.mp hm).2
    simpa using this
  · rw [if_neg he]
    cases hg : getE l s' with
    | none => exact getE_none.mpr fun e hm => getE_none.mp hg e (List.mem_filter.mp hm).1
    | some v => exact (getE_mem (h.without s)).mpr (List.mem_filter.mpr ⟨getE_some hg, by simp [he]⟩)
def Wf (i : Int) : Prop := -9223372036854775808 ≤ i ∧ i ≤ 9223372036854775807
/-- An act that may be, upon these names. -/
def OkA (l : List En) (a : Ac) : Prop := a.f1.f0.size ≤ 200 ∧ Wf a.f1.f1 ∧ if a.f0 = true then getE l a.f1.f0 = none else (getE l a.f1.f0).isSome = true
def VA : List En → List Ac → Prop
  | _, [] => True
  | l, a :: r => OkA l a ∧ VA (apE l a) r
theorem afterE_nil (l : List En) : afterE l [] = l := rfl
theorem afterE_cons (l : List En) (a : Ac) (r : List Ac) : afterE l (a :: r) = afterE (apE l a) r := rfl
theorem afterE_append (l : List En) (x y : List Ac) : afterE l (x ++ y) = afterE (afterE l x) y := List.foldl_append ..
theorem VA_append : ∀ (x y : List Ac) (l : List En), VA l (x ++ y) ↔ VA l x ∧ VA (afterE l x) y
  | [], y, l => by simp [VA, afterE_nil]
  | a :: x, y, l => by
    rw [List.cons_append]
    show (OkA l a ∧ VA (apE l a) (x ++ y)) ↔ (OkA l a ∧ VA (apE l a) x) ∧ VA (afterE (apE l a) x) y
    rw [VA_append x y (apE l a), and_assoc]
theorem VA_take {l : List En} {x : List Ac} (h : VA l x) (n : Nat) : VA l (x.take n) := by
  have := List.take_append_drop n x
  rw [← this] at h
  exact ((VA_append _ _ _).mp h).1
theorem Srt.ap {l : List En} (h : Srt l) {a : Ac} (ha : OkA l a) : Srt (apE l a) := by
  unfold apE
  split
  · rename_i hf; exact h.put (by have := ha.2.2; rwa [if_pos hf] at this) _
  · exact h.without _
theorem Srt.after : ∀ (x : List Ac) {l : List En}, Srt l → VA l x → Srt (afterE l x)
  | [], _, h, _ => h
  | a :: r, l, h, hv => Srt.after r (h.ap hv.1) hv.2
/-- All entries: names and numbers that may be. -/
def Fine (l : List En) : Prop := ∀ e ∈ l, e.f0.size ≤ 200 ∧ Wf e.f1
theorem Fine.ap {l : List En} (h : Fine l) {a : Ac} (ha : OkA l a) : Fine (apE l a) := by
  unfold apE
  split
  · intro e he
    rcases mem_put.mp he with rfl | he
    · exact ⟨ha.1, ha.2.1⟩
    · exact h e he
  · exact fun e he => h e (List.mem_filter.mp he).1
theorem Fine.after : ∀ (x : List Ac) {l : List En}, Fine l → VA l x → Fine (afterE l x)
  | [], _, h, _ => h
  | a :: r, l, h, hv => Fine.after r (h.ap hv.1) hv.2
/-- Two rows in order with the same entries are one. -/
theorem Srt.ext {l l' : List En} (h : Srt l) (h' : Srt l') (hm : ∀ e, e ∈ l ↔ e ∈ l') : l = l' := by
  induction l generalizing l' with
  | nil =>
    cases l' with
    | nil => rfl
    | cons x r => exact absurd ((hm x).mpr (List.mem_cons_self ..)) (by simp)
  | cons x r ih =>
    cases l' with
    | nil => exact absurd ((hm x).mp (List.mem_cons_self ..)) (by simp)
    | cons y t =>
      obtain ⟨h1, h2⟩ := List.pairwise_cons.mp h
      obtain ⟨h3, h4⟩ := List.pairwise_cons.mp h'
      have hxy : x = y := by
        rcases List.mem_cons.mp ((hm x).mp (List.mem_cons_self ..)) with e | e
        · exact e
        · rcases List.mem_cons.mp ((hm y).mpr (List.mem_cons_self ..)) with e2 | e2
          · exact e2.symm
          · have a1 := h3 x e
            have a2 := h1 y e2
            rw [less_asymm a1] at a2; cases a2
      subst hxy
      rw [ih h2 h4 fun e => ?_]
      constructor
      · intro he
        rcases List.mem_cons.mp ((hm e).mp (List.mem_cons_of_mem _ he)) with rfl | h5
        · have := h1 e he; rw [less_irrefl] at this; cases this
        · exact h5
      · intro he
        rcases List.mem_cons.mp ((hm e).mpr (List.mem_cons_of_mem _ he)) with rfl | h5
        · have := h3 e he; rw [less_irrefl] at this; cases this
        · exact h5
end Go.Proofs.Ytbpnbhccdpobpaa
