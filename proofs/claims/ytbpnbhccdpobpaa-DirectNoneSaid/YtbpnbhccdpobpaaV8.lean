import Derived.Test.YtbpnbhccdpobpaaV7
/-! direct: List. -/
set_option linter.unusedVariables false
set_option linter.unusedSimpArgs false
namespace Go.Proofs.Ytbpnbhccdpobpaa
open Go Go.RowKit Go.Proofs.YtbpnbhccdpobpaaW.PrintWords Go.Proofs.YtbpnbhccdpobpaaW.PrintLast Go.Proofs.YtbpnbhccdpobpaaW.PrintMore PDirectKnown Go.Maps Go.Sort

def toD (e : En) : De := ⟨e.f0, e.f1⟩
def toE (e : De) : En := ⟨e.f0, e.f1⟩
theorem eInfoEnt8 : (Try.prog.info? 98).map (fun i => (i.zero, i.size, i.bytes)) = some (some (.agg #[.string ⟨#[]⟩, .int .i64 0]), 2, 24) := by kernel_rfl
/-- What has come of a map's entries. -/
structure Came (l : List En) (left : Lit → Bool) (xs : List De) : Prop where
  nd : xs.Pairwise fun a b => a.f0 ≠ b.f0
  of : ∀ e ∈ xs, getE l e.f0 = some e.f1 ∧ left (keyL e.f0) = false
  all : ∀ s v, getE l s = some v → left (keyL s) = false → (⟨s, v⟩ : De) ∈ xs
theorem Came.start {D : DU} {l : List En} (h : Rep D l) : Came l (Maps.has D) [] :=
  ⟨List.Pairwise.nil, fun e he => (by cases he), fun s v hg hl => (by rw [(h.2 s).1, hg] at hl; cases hl)⟩
theorem Came.step {l : List En} {left : Lit → Bool} {xs : List De} (h : Came l left xs) {s : ByteArray} {c : Int} (hl : left (keyL s) = true) (hg : getE l s = some c) :
    Came l (fun z => left z && !z.sameKey (keyL s)) (xs ++ [⟨s, c⟩]) := by
  refine ⟨?_, ?_, ?_⟩
  · rw [List.pairwise_append]
    refine ⟨h.nd, List.pairwise_singleton _ _, fun a ha b hb => ?_⟩
    rw [List.mem_singleton.mp hb]
    intro he
    have := (h.of a ha).2
    rw [show a.f0 = s from he, hl] at this
    cases this
  · intro e he
    rcases List.mem_append.mp he with he | he
    · obtain ⟨h1, h2⟩ := h.of e he
      exact ⟨h1, by rw [h2]; rfl⟩
    · rw [List.mem_singleton.mp he]
      exact ⟨hg, by simp [keyL, Lit.sameKey]⟩
  · intro t v ht hlt
    by_cases he : t = s
    · subst he
      rw [hg] at ht
      injection ht with ht
      subst ht
      exact List.mem_append_right _ (List.mem_singleton.mpr rfl)
    · have hk : keyL t ≠ keyL s := fun hh => he (keyL_inj hh)
      rw [sameKey_ne hk] at hlt
      exact List.mem_append_left _ (h.all t v ht (by simpa using hlt))
theorem toE_inj {a b : De} (h : toE a = toE b) : a = b := by
  cases a; cases b
  injection h with h1 h2
  subst h1 h2
  rfl
theorem Came.done {l : List En} {left : Lit → Bool} {xs ys : List De} (h : Came l left xs) (hl : ∀ k, left k = false) (hs : Srt l) (hp : ys.Perm xs) (ho : ys.Pairwise fun a b => less b.f0 a.f0 = false) : ys = l.map toD := by
  have hnd : ys.Pairwise fun a b => a.f0 ≠ b.f0 := (hp.pairwise_iff (fun hab => Ne.symm hab)).mpr h.nd
  have hsr : Srt (ys.map toE) := by
    unfold Srt
    rw [List.pairwise_map]
    refine (ho.and hnd).imp ?_
    rintro a b ⟨h1, h2⟩
    rcases less_total a.f0 b.f0 with h3 | h3 | h3
    · exact h3
    · exact absurd h3 h2
    · rw [h3] at h1; cases h1
  have hm : ∀ e, e ∈ ys.map toE ↔ e ∈ l := by
    intro e
    constructor
    · intro he
      obtain ⟨x, hx, rfl⟩ := List.mem_map.mp he
      exact getE_some (h.of x (hp.mem_iff.mp hx)).1
    · intro he
      refine List.mem_map.mpr ⟨⟨e.f0, e.f1⟩, hp.mem_iff.mpr (h.all e.f0 e.f1 ((getE_mem hs).mpr he) (hl _)), rfl⟩
  have := hsr.ext hs hm
  rw [← this, List.map_map]
  exact (List.map_id' ys).symm
theorem row_ranges_ne {α : Type} {d : Kd α} {e : Nat} {w : World} {base : Nat} {ok : Nat → Prop} {v : Value} {xs : List α} {R : Value → Option (DU × List MemPlace)} {k b r n cnt : Nat} {D : DU} {left : Lit → Bool} (h : d.R e w base ok v xs) (hm : w.ranges Try.prog k R b r n D left cnt) : ∀ j, v.ownBlock = some j → j ≠ b ∧ j ≠ r := by
  intro j hj
  obtain ⟨es, ck, sn, se, c0, h1, _, _, _, h2, _⟩ := hm
  obtain ⟨_, inner, ⟨_, ho⟩, _⟩ := h
  rcases ho with ⟨rfl, _⟩ | ⟨g, cap, cur, rfl, _, hh, _⟩
  · cases hj
  · injection hj with hj
    subst hj
    refine ⟨fun he => ?_, fun he => ?_⟩
    · subst he; rw [h1] at hh; cases hh
    · subst he; rw [h2] at hh; cases hh
theorem invKey (key : Value) (kl : Lit) (h : keyOf Try.prog 9 key = some kl) : ∃ s, key = Value.string s := by
  cases key <;> simp [keyOf, Try.underlying9, mapKey] at h
  exact ⟨_, rfl⟩
theorem keyL_of {s : ByteArray} {kl : Lit} (h : keyOf Try.prog 9 (.string s) = some kl) : kl = keyL s := by
  simp [keyOf, Try.underlying9, mapKey] at h
  exact h.2.symm
theorem invI (v : Value) (y : DU × List MemPlace) (h : plainElem Try.prog 3 v = some y) : ∃ c, v = Value.int .i64 c := by
  obtain ⟨c, rfl, _⟩ := plainElem_int_inv Try.underlying3 h
  exact ⟨c, rfl⟩
set_option maxHeartbeats 4000000 in
set_option maxRecDepth 100000 in
theorem list_calls (p : Nat) (ok : Nat → Prop) (dur : List En) (acts : List Ac) (c : Nat) (ys : List De) (w : World) (hd : DirAt w p ok dur acts c) (hys : (afterE dur acts).map toD = ys) (hc : c < 100000) :
    Calls Try.prog 34 #[.pointer (some ⟨p, 0, none⟩)] w fun e w' => (∃ v, e = .returned v ∧ Kd.R k98 98 w' w.heap.size (fun _ => True) v ys) ∧ Below w.heap.size w w' := by
  obtain ⟨bd, bn, v, n1, n2, okr, hin, o1, o2, o3, o4, h2, h3⟩ := hd.out
  obtain ⟨D, hown, hrp⟩ := hin.mn
  have hc1 := cell_of_blk hin.cells 1 rfl
  have HOWN := Aside0.mk hown
  have HRP := Aside0.mk hrp
  have HSA := Aside0.mk (hd.srt.after acts hd.va)
  have HYS := Aside0.mk hys
  have HN := Aside0.mk (show n2 < 100000 by omega)
  clear hd hin hown hrp hys hc o1 o2 o3 o4 h2 h3
  generalize afterE dur acts = l at *
  go_enter Try.func34, Try.ntmps34
  go_wp2_with (at_range; refine wpList_range_own _ rfl _ 94 rfl 9 3 lawS Try.underlying94 _ bn n2 D rfl HOWN.out ?_; intro w0 hrg0 hg0 hs0)
  go_frame
  have HRG0 := Aside0.mk hrg0
  have HB0 := Aside0.mk (show Below w.heap.size w w0 from ⟨hg0.os, hg0.tape, hg0.output, hg0.size, fun k hk => hg0.block k hk (by simp)⟩)
  clear hrg0 hg0 hs0
  go_loopw [3] (fun v3 wr => ∃ left cnt xs, Aside0 (wr.ranges Try.prog 9 (plainElem Try.prog 3) bn w.heap.size n2 D left cnt) ∧ Aside0 (Kd.R k98 98 wr w.heap.size (fun _ => True) v3 xs) ∧ Aside0 (Came l left xs) ∧ Aside0 (xs.length + cnt ≤ n2) ∧ Aside0 (Below w.heap.size w wr)) (fun _ wr => wr.rangeLeft bn w.heap.size)
  case atStart => exact ⟨_, _, [], HRG0, ⟨Kd.R_nil k98 98 w0 w.heap.size (fun _ => True)⟩, ⟨Came.start HRP.out⟩, ⟨by have := HOWN.out.size_le; simpa using this⟩, HB0⟩
  case round =>
    obtain ⟨left, cnt, xs, HRG, HO, HCM, HLN, HBW⟩ := hrel
    clear HRG0 HB0
    have hrg := HRG.out
    go_wp2_with (at_next; refine wpList_next_ranges _ rfl _ rfl 9 lawS (plainElem Try.prog 3) Value.string (Value.int .i64) invKey invI bn w.heap.size n2 D _ _ rfl hrg ?_ ?_)
    · intro hc0 hl0
      have HL0 := Aside0.mk hl0
      clear hc0 hl0 hrg
      obtain ⟨A3, c3, hv3⟩ : ∃ A c, u3 = Value.slice A xs.length c := Kd.R_slice HO.out
      subst hv3
      go_wp2_with (go_at_call 53; refine (sort_calls _ w.heap.size (fun _ => True) xs _ HO.out (by have := HLN.out; have := HN.out; omega)).mono ?_; rintro e w2 ⟨rfl, ys', hp, ho, hr, hg⟩; have HEQ := Aside0.mk ((HCM.out.done HL0.out HSA.out hp ho).trans HYS.out); have HR2 := Aside0.mk hr; have HB2 := Aside0.mk (Fr.below (Fr.of_grown (S := fun k => w.heap.size ≤ k) hg (Fr.of_below HBW.out _) (fun k hk => .inl (Kd.R_base HO.out k hk))) (fun k hk => hk)); clear hp ho hr hg)
      go_ret
      exact ⟨⟨_, rfl, by rw [← HEQ.out]; exact HR2.out⟩, HB2.out⟩
    · intro x c0 kl y yp w1 cnt1 hkey hlk hv hat hrg1 hlt hg1 hs1 hen
      have hkl := keyL_of hkey
      subst hkl
      obtain ⟨c1, hc1', hy, _⟩ := plainElem_int_inv Try.underlying3 hv
      injection hc1' with _ hc1'
      subst hc1'
      injection hy with hy _
      subst hy
      have hgx : getE l x = some c0 := by
        have h1 := has_true_of_atKey hat
        rw [(HRP.out.2 x).1] at h1
        obtain ⟨v0, hv0⟩ := Option.isSome_iff_exists.mp h1
        have h2 := (HRP.out.2 x).2 v0 hv0
        rw [hat] at h2
        injection h2 with h2
        injection h2 with _ h2
        rw [hv0, h2]
      have HCM1 := Aside0.mk (HCM.out.step hlk hgx)
      have HRG1 := Aside0.mk hrg1
      have HNE := Aside0.mk (row_ranges_ne HO.out HRG.out)
      have HO1 := Aside0.mk (R_own_step (W := w1) rfl HO.out (fun k hk => hg1.block k (Kd.R_lt HO.out k hk) (fun he => (HNE.out k hk).2 (by injection he))))
      have HB1 := Aside0.mk (show Below w.heap.size w w1 from Fr.below (Fr.of_grown (S := fun k => w.heap.size ≤ k) hg1 (Fr.of_below HBW.out _) (fun k hk => by injection hk with hk; exact .inl (Nat.le_of_eq hk))) (fun k hk => hk))
      have HLT := Aside0.mk hlt
      clear hkey hlk hv hat hrg1 hlt hg1 hs1 hgx hrg
      go_wp2_with ((with_reducible refine gate_builtin (b := .append) (xs := #[.tmp 18, .tmp 22]) rfl ?_); at_builtin; refine Kd.R_append k98 (w0 := w) w.heap.size rfl (.tmp 18) (.tmp 22) 60 98 (.agg #[.string ⟨#[]⟩, .int .i64 0]) 24 rfl Try.underlying60 eInfoEnt8 rfl (by decide) (by decide) u3 xs (⟨x, c0⟩ : De) [.string x, .int .i64 c0] (fun _ => True) (fun _ => False) rfl rfl ?aP (fun _ hk => hk.elim) (fun _ _ => trivial) HO1.out HB1.out HB1.out.size (by have := HLN.out; have := HN.out; omega) ?_; (case aP => exact k98_mkM _ _ _ (⟨x, c0⟩ : De)); intro v2 w2 ho hb hg hat; have HO2 := Aside0.mk ho; have HB2 := Aside0.mk hb; have HRG2 := Aside0.mk (HRG1.out.kept hg (fun he => (row_ranges_ne HO1.out HRG1.out _ he.symm).1 rfl) (fun he => (row_ranges_ne HO1.out HRG1.out _ he.symm).2 rfl)); clear ho hb hg hat)
      refine ⟨⟨_, cnt1, xs ++ [⟨x, c0⟩], HRG2, HO2, HCM1, ⟨by have h1 := HLN.out; have h2 := HLT.out; rw [List.length_append, List.length_singleton]; omega⟩, HB2⟩, ?_⟩
      rw [HRG2.out.left_eq, HRG.out.left_eq]
      exact HLT.out
end Go.Proofs.Ytbpnbhccdpobpaa
