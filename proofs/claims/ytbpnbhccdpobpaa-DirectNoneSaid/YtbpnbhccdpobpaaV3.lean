import Derived.Test.YtbpnbhccdpobpaaV2
import Derived.Test.YtbpnbhccdpobpaaG
import Derived.Maps.OwnSet
import Derived.StringKeys
/-! A directory in memory: a pointer to two maps and a row of acts. -/
set_option linter.unusedVariables false
set_option linter.unusedSimpArgs false
namespace Go.Proofs.Ytbpnbhccdpobpaa
open Go Go.RowKit Go.Proofs.YtbpnbhccdpobpaaW.PrintWords PDirectKnown Go.Maps

abbrev DU := DataW Unit
def keyL (s : ByteArray) : Lit := .string s.data.toList
theorem keyL_inj {a b : ByteArray} (h : keyL a = keyL b) : a = b := by
  injection h with h
  cases a; cases b
  exact congrArg ByteArray.mk (Array.toList_inj.mp h)
theorem lawS : Keyed Try.prog 9 := string_keyed Try.underlying9
theorem zeroI (w : World) : (zeroValue 3).run Try.prog w = .ok (.int .i64 0) w := by kernel_rfl
theorem keyS {s : ByteArray} (h : s.size ≤ 200) : keyOf Try.prog 9 (.string s) = some (keyL s) := Go.WideMaps.keyOf_string_mk Try.underlying9 (by unfold maxLen; omega)
def litI (v : Int) : DU := .lit (.int .i64 v)
/-- A map, as read, holds the entries of a row. -/
def Rep (D : DU) (l : List En) : Prop := IsMap D ∧ ∀ s : ByteArray, Maps.has D (keyL s) = (getE l s).isSome ∧ ∀ v, getE l s = some v → D.atKey (keyL s) (litI 0) = litI v
theorem Rep.empty : Rep (.map []) [] := ⟨isMap_empty, fun s => ⟨rfl, fun v h => by cases h⟩⟩
theorem Rep.put {D : DU} {l : List En} (h : Rep D l) (hs : Srt l) {s : ByteArray} (hn : getE l s = none) (i : Int) : Rep (D.put (keyL s) (litI i)) (putE l s i) := by
  refine ⟨h.1.put _ _, fun s' => ?_⟩
  rw [getE_put hs hn]
  by_cases he : s' = s
  · subst he
    rw [if_pos rfl]
    refine ⟨has_put_same (k := keyL s') h.1 trivial _, fun v hv => ?_⟩
    injection hv with hv
    subst hv
    exact atKey_put_same (k := keyL s') h.1 trivial _ _
  · rw [if_neg he]
    have hk : keyL s' ≠ keyL s := fun hh => he (keyL_inj hh)
    rw [has_put_other hk]
    refine ⟨(h.2 s').1, fun v hv => ?_⟩
    rw [atKey_put_other hk]
    exact (h.2 s').2 v hv
theorem Rep.del {D : DU} {l : List En} (h : Rep D l) (hs : Srt l) (s : ByteArray) : Rep (D.del (keyL s)) (withoutE l s) := by
  refine ⟨h.1.del _, fun s' => ?_⟩
  rw [getE_without hs]
  by_cases he : s' = s
  · subst he
    rw [if_pos rfl]
    exact ⟨has_del_same, fun v hv => by cases hv⟩
  · rw [if_neg he]
    have hk : keyL s' ≠ keyL s := fun hh => he (keyL_inj hh)
    rw [has_del_other hk]
    refine ⟨(h.2 s').1, fun v hv => ?_⟩
    rw [atKey_del_other hk]
    exact (h.2 s').2 v hv
theorem Rep.get {D : DU} {l : List En} (h : Rep D l) (s : ByteArray) {c : Int} (hc : D.atKey (keyL s) (.lit (.int .i64 0)) = .lit (.int .i64 c)) : c = (getE l s).getD 0 := by
  cases hg : getE l s with
  | none =>
    have h1 := (h.2 s).1
    rw [hg] at h1
    rw [atKey_of_not_has h1] at hc
    injection hc with hc
    injection hc with _ hc
    exact hc.symm
  | some v =>
    have h1 := (h.2 s).2 v hg
    rw [show litI 0 = .lit (.int .i64 0) from rfl, hc] at h1
    injection h1 with h1
    injection h1 with _ h1
def MapAt (w : World) (b n : Nat) (l : List En) : Prop := ∃ D : DU, w.ownsMap Try.prog 9 (plainElem Try.prog 3) b n D ∧ Rep D l
theorem MapAt.lt {w : World} {b n : Nat} {l : List En} (h : MapAt w b n l) : b < w.heap.size := by
  obtain ⟨D, h, _⟩ := h
  exact h.lt
theorem MapAt.step {w w' : World} {b n : Nat} {l : List En} (h : MapAt w b n l) (hm : w'.heap[b]? = w.heap[b]?) : MapAt w' b n l := by
  obtain ⟨D, ⟨es, ck, h1, h2, h3, h4⟩, hr⟩ := h
  exact ⟨D, ⟨es, ck, hm.trans h1, h2, h3, h4⟩, hr⟩
def encA (a : Ac) : List Value := [.string a.f1.f0, .int .i64 a.f1.f1, .func (.func (if a.f0 = true then 65 else 64)) #[] #[]]
/-- What a directory's cells hold, and where. -/
structure DirIn (w : World) (p bd bn : Nat) (v : Value) (n1 n2 : Nat) (okr : Nat → Prop) (dur : List En) (acts : List Ac) : Prop where
  cells : w.heap[p]? = some (.cells #[.map (some bd), .map (some bn), v] 97 (0, 0))
  md : MapAt w bd n1 dur
  mn : MapAt w bn n2 (afterE dur acts)
  row : Kd.R (Kd.raw 3) 106 w 0 okr v (acts.map encA)
  ne : bd ≠ bn
structure DirAt (w : World) (p : Nat) (ok : Nat → Prop) (dur : List En) (acts : List Ac) (c : Nat) : Prop where
  out : ∃ bd bn v n1 n2 okr, DirIn w p bd bn v n1 n2 okr dur acts ∧ ok p ∧ ok bd ∧ ok bn ∧ (∀ k, okr k → ok k) ∧ n1 + acts.length ≤ c ∧ n2 ≤ c
  srt : Srt dur
  va : VA dur acts
  fine : Fine dur
theorem DirIn.step {w w' : World} {p bd bn : Nat} {v : Value} {n1 n2 : Nat} {okr : Nat → Prop} {dur : List En} {acts : List Ac} (h : DirIn w p bd bn v n1 n2 okr dur acts)
    (hm : ∀ k, (k = p ∨ k = bd ∨ k = bn ∨ okr k) → k < w.heap.size → w'.heap[k]? = w.heap[k]?) : DirIn w' p bd bn v n1 n2 okr dur acts :=
  ⟨(hm p (.inl rfl) (blk_lt h.cells)).trans h.cells, h.md.step (hm bd (.inr (.inl rfl)) h.md.lt), h.mn.step (hm bn (.inr (.inr (.inl rfl))) h.mn.lt),
    R_own_step rfl h.row (fun k hk => by
      have hl := Kd.R_lt h.row k hk
      exact hm k (.inr (.inr (.inr (h.row.1 k hk)))) hl), h.ne⟩
theorem DirAt.step {w w' : World} {p : Nat} {ok : Nat → Prop} {dur : List En} {acts : List Ac} {c : Nat} (h : DirAt w p ok dur acts c) (hm : ∀ k, ok k → k < w.heap.size → w'.heap[k]? = w.heap[k]?) : DirAt w' p ok dur acts c := by
  obtain ⟨bd, bn, v, n1, n2, okr, h1, o1, o2, o3, o4, h2, h3⟩ := h.out
  refine ⟨⟨bd, bn, v, n1, n2, okr, h1.step (fun k hk hl => hm k ?_ hl), o1, o2, o3, o4, h2, h3⟩, h.srt, h.va, h.fine⟩
  rcases hk with rfl | rfl | rfl | hk
  · exact o1
  · exact o2
  · exact o3
  · exact o4 k hk
theorem DirAt.fr {w w' : World} {p : Nat} {ok S : Nat → Prop} {dur : List En} {acts : List Ac} {c : Nat} (h : DirAt w p ok dur acts c) (hf : Fr w w' S) (hs : ∀ k, ok k → ¬ S k) : DirAt w' p ok dur acts c :=
  h.step (fun k hk hl => hf.2.1 k hl (hs k hk))
theorem DirAt.below {w w' : World} {p : Nat} {ok : Nat → Prop} {dur : List En} {acts : List Ac} {c : Nat} (h : DirAt w p ok dur acts c) (hb : Below w.heap.size w w') : DirAt w' p ok dur acts c :=
  h.step (fun k _ hl => hb.block k hl)
theorem DirAt.mono {w : World} {p : Nat} {ok ok' : Nat → Prop} {dur : List En} {acts : List Ac} {c c' : Nat} (h : DirAt w p ok dur acts c) (hs : ∀ k, ok k → ok' k) (hc : c ≤ c') : DirAt w p ok' dur acts c' := by
  obtain ⟨bd, bn, v, n1, n2, okr, h1, o1, o2, o3, o4, h2, h3⟩ := h.out
  exact ⟨⟨bd, bn, v, n1, n2, okr, h1, hs _ o1, hs _ o2, hs _ o3, fun k hk => hs k (o4 k hk), by omega, by omega⟩, h.srt, h.va, h.fine⟩
end Go.Proofs.Ytbpnbhccdpobpaa
