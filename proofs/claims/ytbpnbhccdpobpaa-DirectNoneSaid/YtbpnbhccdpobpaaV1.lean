import Derived.Test.YtbpnbhccdpobpaaQ4
/-! Chapter 08 in plain Lean: what the reference's functions come to. -/
set_option linter.unusedVariables false
set_option linter.unusedSimpArgs false
namespace Go.Proofs.Ytbpnbhccdpobpaa
open Go Go.RowKit Go.Proofs.YtbpnbhccdpobpaaW.PrintWords PDirectKnown

abbrev En := PDirectKnown.S93
abbrev Ac := PDirectKnown.S123
def less (a b : ByteArray) : Bool := Op.bytesLess a.toList b.toList
theorem toList_inj {a b : ByteArray} (h : a.toList = b.toList) : a = b := by
  rw [ByteArray.toList_eq, ByteArray.toList_eq] at h
  cases a; cases b
  exact congrArg ByteArray.mk (Array.toList_inj.mp h)
def putE : List En → ByteArray → Int → List En
  | [], s, i => [⟨s, i⟩]
  | e :: r, s, i => if less s e.f0 then ⟨s, i⟩ :: e :: r else e :: putE r s i
def withoutE (l : List En) (s : ByteArray) : List En := l.filter fun e => !decide (e.f0 = s)
def getE (l : List En) (s : ByteArray) : Option Int := (l.find? fun e => decide (e.f0 = s)).map (·.f1)
def apE (l : List En) (a : Ac) : List En := if a.f0 = true then putE l a.f1.f0 a.f1.f1 else withoutE l a.f1.f0
def afterE (l : List En) (acts : List Ac) : List En := acts.foldl apE l
theorem rd_at (pre r : List En) (e : En) (i : Int) (h : i = (pre.length : Nat)) : rd_T93 (pre ++ e :: r) i = e := by
  subst h
  unfold rd_T93
  rw [Int.toNat_natCast, List.getD_eq_getElem?_getD, List.getElem?_append_right (Nat.le_refl _), Nat.sub_self]
  rfl
theorem wrap_nat (n : Nat) (h : n < 9223372036854775807) : wrap64 ((n : Int) + 1) = ((n + 1 : Nat) : Int) := by unfold wrap64; omega
theorem put_len : ∀ (l : List En) (s : ByteArray) (i : Int), (putE l s i).length = l.length + 1
  | [], _, _ => rfl
  | e :: r, s, i => by
    unfold putE
    split
    · rfl
    · rw [List.length_cons, put_len r s i, List.length_cons]
theorem put_l0 (s : ByteArray) (ino : Int) : ∀ (r pre out : List En) (d : Bool) (k : Nat), r.length < k → pre.length + r.length < 1000000000000 → out.length + r.length + cond d 0 1 < 1000000000000 →
    chartroomref08_put.l0 k (pre ++ r) out d (pre.length : Nat) s ino = some (if d = true then out ++ r else out ++ putE r s ino)
  | [], pre, out, d, k, hk, hp, ho => by
    obtain ⟨k, rfl⟩ : ∃ m, k = m + 1 := ⟨k - 1, by omega⟩
    simp only [chartroomref08_put.l0]
    rw [if_neg (by simp)]
    cases d
    · rw [if_neg (by decide), if_pos (by simp at ho; omega), if_neg (by decide)]; rfl
    · rw [if_pos rfl, if_pos rfl, List.append_nil]
  | e :: r, pre, out, d, k, hk, hp, ho => by
    obtain ⟨k, rfl⟩ : ∃ m, k = m + 1 := ⟨k - 1, by omega⟩
    simp only [List.length_cons] at hk hp ho
    have hrd := rd_at pre r e _ rfl
    have hw := wrap_nat pre.length (by omega)
    have ih := fun out' d' ho' => put_l0 s ino r (pre ++ [e]) out' d' k (by omega) (by rw [List.length_append]; simp; omega) ho'
    simp only [List.append_assoc, List.singleton_append, List.length_append, List.length_singleton] at ih
    have h0 : ((pre.length : Nat) : Int) < ((pre ++ e :: r).length : Int) := by simp; omega
    simp only [chartroomref08_put.l0]
    rw [if_pos h0, hrd, hw]
    cases d
    · rw [if_neg (by decide), if_pos (by omega)]
      by_cases hl : Op.bytesLess s.toList e.f0.toList = true
      · rw [if_pos hl, if_pos (by omega)]
        simp only [Option.bind_some]
        rw [if_pos (by rw [List.length_append]; simp; omega), ih (out ++ [(⟨s, ino⟩ : En)] ++ [(⟨e.f0, e.f1⟩ : En)]) true (by simp; simp at ho; omega), if_pos rfl, if_neg (by decide)]
        have : putE (e :: r) s ino = ⟨s, ino⟩ :: e :: r := if_pos hl
        rw [this]
        simp
      · rw [if_neg hl, if_pos (by omega), ih (out ++ [(⟨e.f0, e.f1⟩ : En)]) false (by simp; simp at ho; omega), if_neg (by decide), if_neg (by decide)]
        have : putE (e :: r) s ino = e :: putE r s ino := if_neg hl
        rw [this]
        simp
    · rw [if_pos rfl, if_pos (by omega), if_pos (by omega), ih (out ++ [(⟨e.f0, e.f1⟩ : En)]) true (by simp; simp at ho; omega), if_pos rfl, if_pos rfl]
      simp
theorem put_f {l : List En} (s : ByteArray) (ino : Int) {k : Nat} (hk : l.length < k) (hl : l.length < 900000000000) : chartroomref08_put.f k l s ino = some (putE l s ino) := by
  unfold chartroomref08_put.f
  have h := put_l0 s ino l [] [] false k hk (by simp; omega) (by simp; omega)
  rw [if_neg (by decide)] at h
  exact h
theorem without_len (l : List En) (s : ByteArray) : (withoutE l s).length ≤ l.length := List.length_filter_le _ _
theorem without_l0 (s : ByteArray) : ∀ (r pre out : List En) (k : Nat), r.length < k → pre.length + r.length < 1000000000000 → out.length + r.length < 1000000000000 →
    chartroomref08_without.l0 k (pre ++ r) s out (pre.length : Nat) = some (out ++ withoutE r s)
  | [], pre, out, k, hk, hp, ho => by
    obtain ⟨k, rfl⟩ : ∃ m, k = m + 1 := ⟨k - 1, by omega⟩
    simp only [chartroomref08_without.l0]
    rw [if_neg (by simp)]
    simp [withoutE]
  | e :: r, pre, out, k, hk, hp, ho => by
    obtain ⟨k, rfl⟩ : ∃ m, k = m + 1 := ⟨k - 1, by omega⟩
    simp only [List.length_cons] at hk hp ho
    have hrd := rd_at pre r e _ rfl
    have hw := wrap_nat pre.length (by omega)
    have ih := fun out' ho' => without_l0 s r (pre ++ [e]) out' k (by omega) (by rw [List.length_append]; simp; omega) ho'
    simp only [List.append_assoc, List.singleton_append, List.length_append, List.length_singleton] at ih
    have h0 : ((pre.length : Nat) : Int) < ((pre ++ e :: r).length : Int) := by simp; omega
    simp only [chartroomref08_without.l0]
    rw [if_pos h0, if_pos (by omega), hrd, hw]
    by_cases he : e.f0.toList = s.toList
    · rw [if_pos he, ih out (by omega)]
      have : withoutE (e :: r) s = withoutE r s := by simp [withoutE, toList_inj he]
      rw [this]
    · rw [if_neg he, if_pos (by omega), ih (out ++ [(⟨e.f0, e.f1⟩ : En)]) (by simp; omega)]
      have : withoutE (e :: r) s = e :: withoutE r s := by
        have hne : e.f0 ≠ s := fun h => he (by rw [h])
        simp [withoutE, hne]
      rw [this]
      simp
theorem without_f {l : List En} (s : ByteArray) {k : Nat} (hk : l.length < k) (hl : l.length < 1000000000000) : chartroomref08_without.f k l s = some (withoutE l s) := by
  unfold chartroomref08_without.f
  exact without_l0 s l [] [] k hk (by simpa using hl) (by simpa using hl)
theorem ap_len (l : List En) (a : Ac) : (apE l a).length ≤ l.length + 1 := by
  unfold apE
  split
  · rw [put_len]; exact Nat.le_refl _
  · have := without_len l a.f1.f0; omega
theorem after_len : ∀ (acts : List Ac) (l : List En), (afterE l acts).length ≤ l.length + acts.length
  | [], l => by simp [afterE]
  | a :: r, l => by
    have h := after_len r (apE l a)
    have h2 := ap_len l a
    unfold afterE at *
    rw [List.foldl_cons, List.length_cons]
    omega
theorem after_l0 (l0 : List En) (acts : List Ac) (n : Nat) (hn : n ≤ acts.length) (ha : acts.length < 100000000000) : ∀ (d i : Nat) (l : List En) (k : Nat), i + d = n → l.length + d < 100000000000 → l.length + d + d < k →
    chartroomref08_Dir_After.l0 k (n : Nat) l (i : Nat) l0 acts = some (afterE l ((acts.take n).drop i))
  | 0, i, l, k, hi, hl, hk => by
    obtain ⟨k, rfl⟩ : ∃ m, k = m + 1 := ⟨k - 1, by omega⟩
    simp only [chartroomref08_Dir_After.l0]
    rw [if_neg (by omega), List.drop_eq_nil_of_le (by rw [List.length_take]; omega)]
    rfl
  | d + 1, i, l, k, hi, hl, hk => by
    obtain ⟨k, rfl⟩ : ∃ m, k = m + 1 := ⟨k - 1, by omega⟩
    have hil : i < acts.length := by omega
    have hrd : rd_T123 acts (i : Nat) = acts[i] := by
      unfold rd_T123
      rw [Int.toNat_natCast, List.getD_eq_getElem?_getD, List.getElem?_eq_getElem hil]
      rfl
    have hw := wrap_nat i (by omega)
    have hdr : (acts.take n).drop i = acts[i] :: (acts.take n).drop (i + 1) := by
      rw [List.drop_eq_getElem_cons (by rw [List.length_take]; omega), List.getElem_take]
    have hap := ap_len l acts[i]
    have ih := after_l0 l0 acts n hn ha d (i + 1) (apE l acts[i]) k (by omega) (by omega) (by omega)
    simp only [chartroomref08_Dir_After.l0]
    rw [if_pos (by omega), if_pos (by omega), if_pos (by omega), hrd, hw, hdr]
    by_cases hf : acts[i].f0 = true
    · rw [if_pos hf, put_f _ _ (by omega) (by omega)]
      simp only [Option.bind_some]
      have : apE l acts[i] = putE l acts[i].f1.f0 acts[i].f1.f1 := if_pos hf
      rw [this] at ih
      rw [ih]
      show _ = some (afterE (apE l acts[i]) _)
      rw [this]
    · rw [if_neg hf, without_f _ (by omega) (by omega)]
      simp only [Option.bind_some]
      have : apE l acts[i] = withoutE l acts[i].f1.f0 := if_neg hf
      rw [this] at ih
      rw [ih]
      show _ = some (afterE (apE l acts[i]) _)
      rw [this]
theorem after_f (l : List En) (acts : List Ac) (n : Nat) (hn : n ≤ acts.length) (k : Nat) (ha : l.length + acts.length < 100000000000) (hk : l.length + n + n < k) : chartroomref08_Dir_After.f k l acts (n : Nat) = some (afterE l (acts.take n)) := by
  unfold chartroomref08_Dir_After.f
  exact after_l0 l acts n hn (by omega) n 0 l k (by omega) (by omega) hk
theorem list_f (l : List En) (acts : List Ac) (k : Nat) (ha : l.length + acts.length < 100000000000) (hk : l.length + acts.length + acts.length < k) : chartroomref08_Dir_List.f k l acts = some (afterE l acts) := by
  unfold chartroomref08_Dir_List.f
  rw [after_f l acts acts.length (Nat.le_refl _) k ha hk, List.take_length]
  rfl
theorem get_l0 (s : ByteArray) : ∀ (r pre : List En) (k : Nat), r.length < k → pre.length + r.length < 1000000000000 →
    chartroomref08_Dir_Get.l0 k s (pre ++ r) (pre.length : Nat) = some ((getE r s).getD 0, (getE r s).isSome)
  | [], pre, k, hk, hp => by
    obtain ⟨k, rfl⟩ : ∃ m, k = m + 1 := ⟨k - 1, by omega⟩
    simp only [chartroomref08_Dir_Get.l0]
    rw [if_neg (by simp)]
    rfl
  | e :: r, pre, k, hk, hp => by
    obtain ⟨k, rfl⟩ : ∃ m, k = m + 1 := ⟨k - 1, by omega⟩
    simp only [List.length_cons] at hk hp
    have hrd := rd_at pre r e _ rfl
    have hw := wrap_nat pre.length (by omega)
    have ih := get_l0 s r (pre ++ [e]) k (by omega) (by rw [List.length_append]; simp; omega)
    simp only [List.append_assoc, List.singleton_append, List.length_append, List.length_singleton] at ih
    have h0 : ((pre.length : Nat) : Int) < ((pre ++ e :: r).length : Int) := by simp; omega
    simp only [chartroomref08_Dir_Get.l0]
    rw [if_pos h0, if_pos (by omega), hrd, hw]
    by_cases he : e.f0.toList = s.toList
    · rw [if_pos he]
      simp [getE, toList_inj he]
    · rw [if_neg he, ih]
      have hne : e.f0 ≠ s := fun h => he (by rw [h])
      simp [getE, hne]
theorem get_f (l : List En) (acts : List Ac) (s : ByteArray) (k : Nat) (ha : l.length + acts.length < 100000000000) (hk : l.length + acts.length + acts.length < k) :
    chartroomref08_Dir_Get.f k l acts s = some ((getE (afterE l acts) s).getD 0, (getE (afterE l acts) s).isSome) := by
  unfold chartroomref08_Dir_Get.f
  rw [list_f l acts k ha hk]
  have hal := after_len acts l
  exact get_l0 s (afterE l acts) [] k (by omega) (by simp; omega)
/-- The reference's Add: what is there then, and the answer. -/
def addA (l : List En) (acts : List Ac) (s : ByteArray) (i : Int) : List Ac := if s.toList = [] ∨ i < 0 ∨ (getE (afterE l acts) s).isSome = true then acts else acts ++ [⟨true, ⟨s, i⟩⟩]
def addR (l : List En) (acts : List Ac) (s : ByteArray) (i : Int) : Int := if s.toList = [] ∨ i < 0 then 2 else if (getE (afterE l acts) s).isSome = true then 81 else 0
theorem with_f (l : List En) (acts : List Ac) (b : Bool) (s : ByteArray) (i : Int) (h : acts.length < 100000000000) : chartroomref08_Dir_with.f l acts b s i = some (l, acts ++ [⟨b, ⟨s, i⟩⟩]) := by
  unfold chartroomref08_Dir_with.f
  rw [if_pos (by simp; omega)]
  simp only [Option.bind_some, List.nil_append]
  rw [if_pos (by omega)]
theorem add_f (l : List En) (acts : List Ac) (s : ByteArray) (i : Int) (k : Nat) (ha : l.length + acts.length < 100000000000) (hk : l.length + acts.length + acts.length + 1 < k) :
    chartroomref08_Dir_Add.f k l acts s i = some (l, addA l acts s i, addR l acts s i) := by
  obtain ⟨k, rfl⟩ : ∃ m, k = m + 1 := ⟨k - 1, by omega⟩
  have hj : chartroomref08_Dir_Add.j0 (k + 1) s i false l acts = some (if (getE (afterE l acts) s).isSome = true then (l, acts, 81) else (l, acts ++ [⟨true, ⟨s, i⟩⟩], 0)) := by
    simp only [chartroomref08_Dir_Add.j0]
    rw [if_neg (by decide), get_f l acts s k ha (by omega)]
    simp only [Option.bind_some]
    by_cases hg : (getE (afterE l acts) s).isSome = true
    · rw [if_pos hg, if_pos hg]
    · rw [if_neg hg, if_neg hg, with_f l acts true s i (by omega)]
      rfl
  have ht : chartroomref08_Dir_Add.j0 (k + 1) s i true l acts = some (l, acts, 2) := by
    simp only [chartroomref08_Dir_Add.j0]
    rw [if_pos trivial]
  unfold chartroomref08_Dir_Add.f addA addR
  by_cases hs : s.toList = []
  · rw [if_pos hs, if_pos (.inl hs), if_pos (.inl hs), ht]
  · rw [if_neg hs]
    by_cases hi : i < 0
    · rw [decide_eq_true hi, if_pos (.inr (.inl hi)), if_pos (.inr hi), ht]
    · rw [decide_eq_false hi, if_neg (show ¬ (s.toList = [] ∨ i < 0) from fun h => h.elim hs hi), hj]
      by_cases hg : (getE (afterE l acts) s).isSome = true
      · rw [if_pos hg, if_pos (.inr (.inr hg)), if_pos hg]
      · rw [if_neg hg, if_neg (fun h => h.elim hs (fun h => h.elim hi hg)), if_neg hg]
def remA (l : List En) (acts : List Ac) (s : ByteArray) : List Ac := match getE (afterE l acts) s with | some i => acts ++ [⟨false, ⟨s, i⟩⟩] | none => acts
def remR (l : List En) (acts : List Ac) (s : ByteArray) : Int := if (getE (afterE l acts) s).isSome = true then 0 else 80
theorem remove_f (l : List En) (acts : List Ac) (s : ByteArray) (k : Nat) (ha : l.length + acts.length < 100000000000) (hk : l.length + acts.length + acts.length < k) :
    chartroomref08_Dir_Remove.f k l acts s = some (l, remA l acts s, (getE (afterE l acts) s).getD 0, remR l acts s) := by
  unfold chartroomref08_Dir_Remove.f remA remR
  rw [get_f l acts s k ha hk]
  simp only [Option.bind_some]
  cases hg : getE (afterE l acts) s with
  | none => rfl
  | some i =>
    simp only [Option.isSome_some, if_true, Option.getD_some]
    rw [with_f l acts false s i (by omega)]
    rfl
def keepN (a : Int) (n : Nat) : Nat := (max 0 (min a n)).toNat
theorem keepN_le (a : Int) (n : Nat) : keepN a n ≤ n := by unfold keepN; omega
theorem fail_f (l : List En) (acts : List Ac) (a : Int) (k : Nat) (ha : l.length + acts.length < 100000000000) (hk : l.length + acts.length + acts.length < k) :
    chartroomref08_Dir_Fail.f k l acts a = some (afterE l (acts.take (keepN a acts.length)), []) := by
  unfold chartroomref08_Dir_Fail.f
  have e : mx 0 (mn a (acts.length : Int)) = (keepN a acts.length : Nat) := by unfold mx mn keepN; omega
  have h := keepN_le a acts.length
  rw [e, after_f l acts _ h k ha (by omega)]
  rfl
end Go.Proofs.Ytbpnbhccdpobpaa
