import Derived.Test.YtbpnbhccdpobpaaE7
import Derived.Test.YtbpnbhccdpobpaaPExtentKnownx1
import Derived.Test.YtbpnbhccdpobpaaPExtentKnownx2
import Derived.Test.YtbpnbhccdpobpaaPExtentKnownx4
import Derived.Test.YtbpnbhccdpobpaaPExtentKnownx5
import Derived.Test.YtbpnbhccdpobpaaPExtentKnownx6
/-! The plain layer over the printed functions of the law and the reference. -/
set_option linter.unusedVariables false
set_option linter.unusedSimpArgs false
namespace Go.Proofs.Ytbpnbhccdpobpaa
open Go.RowKit Go.Proofs.YtbpnbhccdpobpaaW.PrintWords PExtentKnown

def toR (p : S52) : S85 := ⟨p.f0, p.f1⟩
def durR (p : S85) : S85 := ⟨p.f0, true⟩
def tidyR (ps : List S85) : List S85 := ps.filter fun x => !(x.f0.length == 0)
def cont (ps : List S85) : List Int := ps.flatMap (·.f0)
def volOf (ps : List S85) : Nat := (ps.filter fun p => !(p.f0.length == 0) && !p.f1).length
/-- Not too much. -/
structure Few (ps : List S85) : Prop where
  len : ps.length ≤ 100000
  each : ∀ p ∈ ps, p.f0.length ≤ 1000000
theorem w64 {i : Nat} (h : i ≤ 1000000000000) : wrap64 ((i : Int) + 1) = ((i + 1 : Nat) : Int) := by unfold wrap64; omega
theorem rdP {ps : List S52} {i : Nat} (h : i < ps.length) : rd_T52 ps (i : Int) = ps[i] := by
  unfold rd_T52; rw [Int.toNat_natCast, List.getD_eq_getElem?_getD, List.getElem?_eq_getElem h]; rfl
theorem rdR {ps : List S85} {i : Nat} (h : i < ps.length) : rd_T85 ps (i : Int) = ps[i] := by
  unfold rd_T85; rw [Int.toNat_natCast, List.getD_eq_getElem?_getD, List.getElem?_eq_getElem h]; rfl
theorem rdI {xs : List Int} {i : Nat} (h : i < xs.length) : rd xs (i : Int) = xs[i] := by
  unfold rd; rw [Int.toNat_natCast, List.getD_eq_getElem?_getD, List.getElem?_eq_getElem h]; rfl
theorem cont_le : ∀ (ps : List S85) (N : Nat), (∀ p ∈ ps, p.f0.length ≤ N) → (cont ps).length ≤ ps.length * N
  | [], _, _ => by simp [cont]
  | p :: r, N, h => by
    have h1 := h p (by simp)
    have h2 := cont_le r N (fun q hq => h q (by simp [hq]))
    simp only [cont, List.flatMap_cons, List.length_append, List.length_cons] at *
    rw [Nat.add_mul, Nat.one_mul]
    omega
theorem Few.cont {ps : List S85} (h : Few ps) : (cont ps).length ≤ 100000000000 := by
  have h1 := cont_le ps 1000000 h.each
  have h2 := Nat.mul_le_mul_right 1000000 h.len
  omega
theorem cont_drop (ps : List S85) (i : Nat) (h : i < ps.length) : Go.Proofs.Ytbpnbhccdpobpaa.cont (ps.drop i) = ps[i].f0 ++ Go.Proofs.Ytbpnbhccdpobpaa.cont (ps.drop (i + 1)) := by
  rw [List.drop_eq_getElem_cons h]; rfl

/-! Bytes -/
theorem ebytes_from (ps : List S52) (hl : ps.length ≤ 100000) (d : Nat) : ∀ (k i : Nat) (acc : List Int), i + d = ps.length → d < k → acc.length + (Go.Proofs.Ytbpnbhccdpobpaa.cont ((ps.map toR).drop i)).length < 140737488355328 →
    extent_File_Bytes.l0 k acc ps (ps.length : Int) (i : Int) = some (acc ++ Go.Proofs.Ytbpnbhccdpobpaa.cont ((ps.map toR).drop i)) := by
  induction d with
  | zero =>
    intro k i acc hi hk hb
    obtain ⟨k, rfl⟩ : ∃ m, k = m + 1 := ⟨k - 1, by omega⟩
    simp only [extent_File_Bytes.l0]
    rw [if_neg (by omega), List.drop_eq_nil_of_le (by rw [List.length_map]; omega)]
    simp [Go.Proofs.Ytbpnbhccdpobpaa.cont]
  | succ d ih =>
    intro k i acc hi hk hb
    obtain ⟨k, rfl⟩ : ∃ m, k = m + 1 := ⟨k - 1, by omega⟩
    have hlt : i < ps.length := by omega
    have hc := cont_drop (ps.map toR) i (by rw [List.length_map]; exact hlt)
    rw [List.getElem_map] at hc
    rw [hc, List.length_append] at hb
    have hf : (toR ps[i]).f0 = ps[i].f0 := rfl
    rw [hf] at hc hb
    simp only [extent_File_Bytes.l0]
    rw [if_pos (by omega), if_pos (by omega), if_pos (by omega), rdP hlt, if_pos (by omega), w64 (by omega), ih k (i + 1) (acc ++ ps[i].f0) (by omega) (by omega) (by rw [List.length_append]; omega), hc, List.append_assoc]
theorem ebytes_ev (ps : List S52) (h : Few (ps.map toR)) : Ev (fun k => extent_File_Bytes.f k ps) (Go.Proofs.Ytbpnbhccdpobpaa.cont (ps.map toR)) := by
  refine ⟨ps.length + 1, fun k hk => ?_⟩
  have hl := h.len
  rw [List.length_map] at hl
  have := ebytes_from ps hl ps.length k 0 [] (by omega) (by omega) (by have := h.cont; simp; omega)
  simpa [extent_File_Bytes.f] using this
theorem elen_ev (ps : List S52) (h : Few (ps.map toR)) : Ev (fun k => extent_File_Len.f k ps) ((Go.Proofs.Ytbpnbhccdpobpaa.cont (ps.map toR)).length : Int) := by
  obtain ⟨K, hK⟩ := ebytes_ev ps h
  exact ⟨K, fun k hk => by show (extent_File_Bytes.f k ps).bind _ = _; rw [show extent_File_Bytes.f k ps = _ from hK k hk]; rfl⟩
/-! Volatile -/
theorem evol_from (ps : List S52) (hl : ps.length ≤ 100000) (d : Nat) : ∀ (k i : Nat) (n : Nat), i + d = ps.length → d < k → n + d ≤ 100000 →
    extent_File_Volatile.l0 k (n : Int) ps (ps.length : Int) (i : Int) = some ((n + volOf ((ps.map toR).drop i) : Nat) : Int) := by
  induction d with
  | zero =>
    intro k i n hi hk hb
    obtain ⟨k, rfl⟩ : ∃ m, k = m + 1 := ⟨k - 1, by omega⟩
    simp only [extent_File_Volatile.l0]
    rw [if_neg (by omega), List.drop_eq_nil_of_le (by rw [List.length_map]; omega)]
    simp [volOf]
  | succ d ih =>
    intro k i n hi hk hb
    obtain ⟨k, rfl⟩ : ∃ m, k = m + 1 := ⟨k - 1, by omega⟩
    have hlt : i < ps.length := by omega
    have hc : volOf ((ps.map toR).drop i) = (if (!(ps[i].f0.length == 0) && !ps[i].f1) = true then 1 else 0) + volOf ((ps.map toR).drop (i + 1)) := by
      rw [List.drop_eq_getElem_cons (by rw [List.length_map]; exact hlt), List.getElem_map]
      unfold volOf
      rw [List.filter_cons]
      show (if (!(ps[i].f0.length == 0) && !ps[i].f1) = true then _ else _ : List S85).length = _
      split <;> simp [Nat.add_comm]
    simp only [extent_File_Volatile.l0]
    rw [if_pos (by omega), if_pos (by omega), if_pos (by omega), rdP hlt, hc]
    cases hd : ps[i].f1 with
    | true =>
      rw [if_pos rfl, w64 (by omega), ih k (i + 1) n (by omega) (by omega) (by omega)]
      simp
    | false =>
      rw [if_neg (by simp)]
      by_cases hz : ps[i].f0.length = 0
      · rw [if_neg (by omega), w64 (by omega), ih k (i + 1) n (by omega) (by omega) (by omega)]
        simp [hz]
      · rw [if_pos (by omega), w64 (by omega), w64 (by omega), ih k (i + 1) (n + 1) (by omega) (by omega) (by omega)]
        simp [hz]; omega
theorem evol_ev (ps : List S52) (h : Few (ps.map toR)) : Ev (fun k => extent_File_Volatile.f k ps) (volOf (ps.map toR) : Int) := by
  refine ⟨ps.length + 1, fun k hk => ?_⟩
  have hl := h.len
  rw [List.length_map] at hl
  have := evol_from ps hl ps.length k 0 0 (by omega) (by omega) (by omega)
  simpa [extent_File_Volatile.f] using this

/-! Reference: Bytes -/
theorem rbytes_in (ps : List S85) (i : Nat) (hi : i < ps.length) (hl : ps[i].f0.length ≤ 1000000) (d : Nat) : ∀ (k j : Nat) (acc r : List Int), j + d = ps[i].f0.length → d < k → acc.length + d < 140737488355328 →
    (∀ k', k - (d + 1) ≤ k' → k' ≤ k → chartroomref07_Bytes.l0 k' (acc ++ ps[i].f0.drop j) (wrap64 ((i : Int) + 1)) ps = some r) → chartroomref07_Bytes.l1 k acc (i : Int) (j : Int) ps = some r := by
  induction d with
  | zero =>
    intro k j acc r hj hk hb h
    obtain ⟨k, rfl⟩ : ∃ m, k = m + 1 := ⟨k - 1, by omega⟩
    simp only [chartroomref07_Bytes.l1]
    rw [if_pos (by omega), if_pos (by omega), rdR hi, if_neg (by omega)]
    have h2 := h k (by omega) (by omega)
    rwa [List.drop_eq_nil_of_le (by omega), List.append_nil] at h2
  | succ d ih =>
    intro k j acc r hj hk hb h
    obtain ⟨k, rfl⟩ : ∃ m, k = m + 1 := ⟨k - 1, by omega⟩
    have hjl : j < ps[i].f0.length := by omega
    simp only [chartroomref07_Bytes.l1]
    rw [if_pos (by omega), if_pos (by omega), rdR hi, if_pos (by omega), if_pos (by omega), if_pos (by omega), rdI hjl, w64 (by omega)]
    refine ih k (j + 1) _ r (by omega) (by omega) (by rw [List.length_append]; simp; omega) (fun k' h1 h2 => ?_)
    have h3 := h k' (by omega) (by omega)
    rwa [List.drop_eq_getElem_cons hjl, show acc ++ ps[i].f0[j] :: ps[i].f0.drop (j + 1) = acc ++ [ps[i].f0[j]] ++ ps[i].f0.drop (j + 1) by simp] at h3
theorem rbytes_from (ps : List S85) (h : Few ps) (M : Nat) (hM : 1000003 ≤ M) (d : Nat) : ∀ (k i : Nat) (acc : List Int), i + d = ps.length → d * M < k → acc.length + (cont (ps.drop i)).length < 140737488355328 →
    chartroomref07_Bytes.l0 k acc (i : Int) ps = some (acc ++ cont (ps.drop i)) := by
  have hl := h.len
  induction d with
  | zero =>
    intro k i acc hi hk hb
    obtain ⟨k, rfl⟩ : ∃ m, k = m + 1 := ⟨k - 1, by omega⟩
    simp only [chartroomref07_Bytes.l0]
    rw [if_neg (by omega), List.drop_eq_nil_of_le (by omega)]
    simp [cont]
  | succ d ih =>
    intro k i acc hi hk hb
    obtain ⟨k, rfl⟩ : ∃ m, k = m + 1 := ⟨k - 1, by omega⟩
    have hlt : i < ps.length := by omega
    have he := h.each _ (List.getElem_mem hlt)
    rw [Nat.succ_mul] at hk
    rw [cont_drop ps i hlt, List.length_append] at hb
    simp only [chartroomref07_Bytes.l0]
    rw [if_pos (by omega)]
    have := rbytes_in ps i hlt he ps[i].f0.length k 0 acc (acc ++ cont (ps.drop i)) (by omega) (by omega) (by omega) (fun k' h1 h2 => by
      rw [List.drop_zero, w64 (by omega), ih k' (i + 1) _ (by omega) (by omega) (by rw [List.length_append]; omega), cont_drop ps i hlt, List.append_assoc])
    simpa using this
theorem rbytes_ev (ps : List S85) (h : Few ps) : Ev (fun k => chartroomref07_Bytes.f k ps) (cont ps) := by
  refine ⟨ps.length * 1000003 + 1, fun k hk => ?_⟩
  have := rbytes_from ps h 1000003 (Nat.le_refl _) ps.length k 0 [] (by omega) (Nat.lt_of_succ_le hk) (by have := h.cont; rw [List.length_nil, List.drop_zero]; omega)
  rw [List.nil_append, List.drop_zero] at this
  exact this
/-! Reference: Volatile -/
theorem volOf_drop (ps : List S85) (i : Nat) (hlt : i < ps.length) : volOf (ps.drop i) = (if (!(ps[i].f0.length == 0) && !ps[i].f1) = true then 1 else 0) + volOf (ps.drop (i + 1)) := by
  rw [List.drop_eq_getElem_cons hlt]
  unfold volOf
  rw [List.filter_cons]
  split <;> simp [Nat.add_comm]
theorem rvol_from (ps : List S85) (hl : ps.length ≤ 100000) (d : Nat) : ∀ (k i : Nat) (n : Nat), i + d = ps.length → d < k → n + d ≤ 100000 →
    chartroomref07_Volatile.l0 k (n : Int) (i : Int) ps = some ((n + volOf (ps.drop i) : Nat) : Int) := by
  induction d with
  | zero =>
    intro k i n hi hk hb
    obtain ⟨k, rfl⟩ : ∃ m, k = m + 1 := ⟨k - 1, by omega⟩
    simp only [chartroomref07_Volatile.l0]
    rw [if_neg (by omega), List.drop_eq_nil_of_le (by omega)]
    simp [volOf]
  | succ d ih =>
    intro k i n hi hk hb
    obtain ⟨k, rfl⟩ : ∃ m, k = m + 1 := ⟨k - 1, by omega⟩
    have hlt : i < ps.length := by omega
    have hc := volOf_drop ps i hlt
    simp only [chartroomref07_Volatile.l0]
    rw [if_pos (by omega), if_pos (by omega), rdR hlt, hc]
    by_cases hz : ps[i].f0.length = 0
    · rw [if_neg (by omega), w64 (by omega), ih k (i + 1) n (by omega) (by omega) (by omega)]
      simp [hz]
    · rw [if_pos (by omega)]
      cases hd : ps[i].f1 with
      | true =>
        rw [if_pos rfl, w64 (by omega), ih k (i + 1) n (by omega) (by omega) (by omega)]
        simp
      | false =>
        rw [if_neg (by simp), w64 (by omega), w64 (by omega), ih k (i + 1) (n + 1) (by omega) (by omega) (by omega)]
        simp [hz]; omega
theorem rvol_ev (ps : List S85) (h : Few ps) : Ev (fun k => chartroomref07_Volatile.f k ps) (volOf ps : Int) := by
  refine ⟨ps.length + 1, fun k hk => ?_⟩
  have := rvol_from ps h.len ps.length k 0 0 (by omega) (by omega) (by have := h.len; omega)
  simpa [chartroomref07_Volatile.f] using this
/-! Reference: put, Of, Sync, Append -/
theorem own_eq (b : List Int) (h : b.length ≤ 1000000) : chartroomref07_own.f b = some b := by
  unfold chartroomref07_own.f; rw [if_pos (by simp; omega)]; rfl
theorem kown_eq (b : List Int) (h : b.length ≤ 1000000) : chartroomkit_Own.f b = some b := by
  unfold chartroomkit_Own.f; rw [if_pos (by simp; omega)]; rfl
theorem put_eq (f : List S85) (b : List Int) (d : Bool) (hf : f.length ≤ 1000000) (hb : b.length ≤ 1000000) : chartroomref07_put.f f b d = some (f ++ tidyR [⟨b, d⟩]) := by
  unfold chartroomref07_put.f
  rw [if_pos (by simp; omega)]
  simp only [Option.bind_some, List.nil_append]
  by_cases hz : b.length = 0
  · rw [if_neg (by omega)]; simp [tidyR, hz]
  · rw [if_pos (by omega), own_eq b hb]
    simp only [Option.bind_some]
    rw [if_pos (by omega)]
    simp [tidyR, hz]
theorem tidyR_append (a b : List S85) : tidyR (a ++ b) = tidyR a ++ tidyR b := by unfold tidyR; rw [List.filter_append]
theorem tidyR_length (a : List S85) : (tidyR a).length ≤ a.length := List.length_filter_le _ _
theorem rof_from (l : List (List Int)) (hl : l.length ≤ 100000) (hlb : ∀ b ∈ l, b.length ≤ 1000000) (d : Nat) : ∀ (k i : Nat), i + d = l.length → d < k →
    chartroomref07_Of.l0 k l (i : Int) (tidyR ((l.take i).map fun b => ⟨b, true⟩)) = some (tidyR (l.map fun b => ⟨b, true⟩)) := by
  induction d with
  | zero =>
    intro k i hi hk
    obtain ⟨k, rfl⟩ : ∃ m, k = m + 1 := ⟨k - 1, by omega⟩
    simp only [chartroomref07_Of.l0]
    rw [if_neg (by omega), List.take_of_length_le (by omega)]
  | succ d ih =>
    intro k i hi hk
    obtain ⟨k, rfl⟩ : ∃ m, k = m + 1 := ⟨k - 1, by omega⟩
    have hlt : i < l.length := by omega
    have hr : rd_L2 l (i : Int) = l[i] := by unfold rd_L2; rw [Int.toNat_natCast, List.getD_eq_getElem?_getD, List.getElem?_eq_getElem hlt]; rfl
    simp only [chartroomref07_Of.l0]
    rw [if_pos (by omega), if_pos (by omega), hr, put_eq _ _ _ (Nat.le_trans (tidyR_length _) (by rw [List.length_map, List.length_take]; omega)) (hlb _ (List.getElem_mem hlt))]
    simp only [Option.bind_some]
    rw [w64 (by omega), ← tidyR_append, show (l.take i).map (fun b => (⟨b, true⟩ : S85)) ++ [⟨l[i], true⟩] = (l.take (i + 1)).map (fun b => (⟨b, true⟩ : S85)) by rw [List.take_succ_eq_append_getElem hlt, List.map_append]; rfl]
    exact ih k (i + 1) (by omega) (by omega)
theorem rof_ev (l : List (List Int)) (hl : l.length ≤ 100000) (hlb : ∀ b ∈ l, b.length ≤ 1000000) : Ev (fun k => chartroomref07_Of.f k l) (tidyR (l.map fun b => ⟨b, true⟩)) := by
  refine ⟨l.length + 1, fun k hk => ?_⟩
  have := rof_from l hl hlb l.length k 0 (by omega) (by omega)
  exact this
theorem rsync_from (f : List S85) (h : Few f) (d : Nat) : ∀ (k i : Nat), i + d = f.length → d < k →
    chartroomref07_Sync.l0 k (i : Int) f (tidyR ((f.take i).map durR)) = some (tidyR (f.map durR)) := by
  have hl := h.len
  induction d with
  | zero =>
    intro k i hi hk
    obtain ⟨k, rfl⟩ : ∃ m, k = m + 1 := ⟨k - 1, by omega⟩
    simp only [chartroomref07_Sync.l0]
    rw [if_neg (by omega), List.take_of_length_le (by omega)]
  | succ d ih =>
    intro k i hi hk
    obtain ⟨k, rfl⟩ : ∃ m, k = m + 1 := ⟨k - 1, by omega⟩
    have hlt : i < f.length := by omega
    simp only [chartroomref07_Sync.l0]
    rw [if_pos (by omega), if_pos (by omega), rdR hlt, put_eq _ _ _ (Nat.le_trans (tidyR_length _) (by rw [List.length_map, List.length_take]; omega)) (h.each _ (List.getElem_mem hlt))]
    simp only [Option.bind_some]
    rw [w64 (by omega), ← tidyR_append, show (f.take i).map durR ++ [⟨f[i].f0, true⟩] = (f.take (i + 1)).map durR by rw [List.take_succ_eq_append_getElem hlt, List.map_append]; rfl]
    exact ih k (i + 1) (by omega) (by omega)
theorem rsync_ev (f : List S85) (h : Few f) : Ev (fun k => chartroomref07_Sync.f k f) (tidyR (f.map durR)) :=
  ⟨f.length + 1, fun k hk => rsync_from f h f.length k 0 (by omega) (by omega)⟩
theorem rapp_from (f : List S85) (h : Few f) (b : List Int) (hb : b.length ≤ 1000000) (d : Nat) : ∀ (k i : Nat), i + d = f.length → d < k →
    chartroomref07_Append.l0 k b (i : Int) f (tidyR (f.take i)) = some (tidyR (f ++ [⟨b, false⟩])) := by
  have hl := h.len
  induction d with
  | zero =>
    intro k i hi hk
    obtain ⟨k, rfl⟩ : ∃ m, k = m + 1 := ⟨k - 1, by omega⟩
    simp only [chartroomref07_Append.l0]
    rw [if_neg (by omega), List.take_of_length_le (by omega), put_eq _ _ _ (Nat.le_trans (tidyR_length _) (by omega)) hb, ← tidyR_append]
    rfl
  | succ d ih =>
    intro k i hi hk
    obtain ⟨k, rfl⟩ : ∃ m, k = m + 1 := ⟨k - 1, by omega⟩
    have hlt : i < f.length := by omega
    simp only [chartroomref07_Append.l0]
    rw [if_pos (by omega), if_pos (by omega), rdR hlt, put_eq _ _ _ (Nat.le_trans (tidyR_length _) (by rw [List.length_take]; omega)) (h.each _ (List.getElem_mem hlt))]
    simp only [Option.bind_some]
    rw [w64 (by omega), ← tidyR_append, show f.take i ++ [⟨f[i].f0, f[i].f1⟩] = f.take (i + 1) by rw [List.take_succ_eq_append_getElem hlt]]
    exact ih k (i + 1) (by omega) (by omega)
theorem rapp_ev (f : List S85) (h : Few f) (b : List Int) (hb : b.length ≤ 1000000) : Ev (fun k => chartroomref07_Append.f k f b) (tidyR (f ++ [⟨b, false⟩])) :=
  ⟨f.length + 1, fun k hk => rapp_from f h b hb f.length k 0 (by omega) (by omega)⟩
end Go.Proofs.Ytbpnbhccdpobpaa
