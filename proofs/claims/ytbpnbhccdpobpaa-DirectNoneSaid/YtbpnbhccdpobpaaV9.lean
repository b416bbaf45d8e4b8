import Derived.Test.YtbpnbhccdpobpaaV8
import Derived.Laws.EntriesVeiled
/-! direct: Fail, Sync. -/
set_option linter.unusedVariables false
set_option linter.unusedSimpArgs false
namespace Go.Proofs.Ytbpnbhccdpobpaa
open Go Go.RowKit Go.Proofs.YtbpnbhccdpobpaaW.PrintWords Go.Proofs.YtbpnbhccdpobpaaW.PrintLast Go.Proofs.YtbpnbhccdpobpaaW.PrintMore PDirectKnown Go.Maps

theorem MapAt.up {w : World} {b n n' : Nat} {l : List En} (h : MapAt w b n l) (hn : n ≤ n') : MapAt w b n' l := by
  obtain ⟨D, h1, h2⟩ := h
  exact ⟨D, h1.mono hn, h2⟩
theorem act_at {w : World} {base : Nat} {ok : Nat → Prop} {A : Option Addr} {m cp : Nat} {acts : List Ac} (h : Kd.R (Kd.raw 3) 106 w base ok (.slice A m cp) (acts.map encA)) (hm : acts.length = m) (j : Nat) (hj : j < acts.length) :
    ∃ ad, A = some ad ∧ w.cell? (ad.add (j * 3)) = some (.string acts[j].f1.f0) ∧ w.cell? ⟨(ad.add (j * 3)).block, (ad.add (j * 3)).off + 1, none⟩ = some (.int .i64 acts[j].f1.f1) ∧ w.cell? ⟨(ad.add (j * 3)).block, (ad.add (j * 3)).off + 2, none⟩ = some (.func (.func (if acts[j].f0 = true then 65 else 64)) #[] #[]) := by
  have hl : (acts.map encA).length = m := by rw [List.length_map, hm]
  obtain ⟨_, _, hC⟩ := Kd.R_reads' h
  rw [hl] at hC
  obtain ⟨ad, c, e, _, ⟨hK, _⟩, hc⟩ := Kd.C_get hC [] (j : Int) (Int.natCast_nonneg _) (by omega)
  rw [Int.toNat_natCast] at hK hc
  have hx : (acts.map encA).getD j [] = encA acts[j] := by simp [List.getD_eq_getElem?_getD, hj]
  rw [hx] at hK
  subst hK
  have hs : (Kd.raw 3).sz = 3 := rfl
  rw [hs] at hc
  refine ⟨ad, e, hc 0 _ rfl, ?_, ?_⟩
  · rw [← add_field _ _ 1 (by omega)]; exact hc 1 _ rfl
  · rw [← add_field _ _ 2 (by omega)]; exact hc 2 _ rfl
theorem mclone_calls (b n : Nat) (l : List En) (w : World) (h : MapAt w b n l) : Calls Try.prog 56 #[.map (some b)] w fun e w' => e = .returned (.map (some w.heap.size)) ∧ MapAt w' w.heap.size n l ∧ Below w.heap.size w w' := by
  obtain ⟨D, hown, hr⟩ := h
  exact (AnyW.maps_Clone_owns Try.layClone 9 (plainElem Try.prog 3) b n D w hown).mono fun e w' ⟨he, h1, _, hb⟩ => ⟨he, ⟨D, h1, hr⟩, hb⟩
/-- What the loop of Fail leaves. -/
structure Lost (w : World) (ok okr : Nat → Prop) (p bd bn : Nat) (v : Value) (n1 n2 : Nat) (dur : List En) (acts : List Ac) (j : Nat) (W : World) : Prop where
  cells : W.heap[p]? = some (.cells #[.map (some bd), .map (some bn), v] 97 (0, 0))
  md : MapAt W bd (n1 + j) (afterE dur (acts.take j))
  mn : MapAt W bn n2 (afterE dur acts)
  row : Kd.R (Kd.raw 3) 106 W 0 okr v (acts.map encA)
  fr : Fr w W ok
set_option maxHeartbeats 8000000 in
set_option maxRecDepth 100000 in
theorem fail_calls (p : Nat) (ok : Nat → Prop) (dur : List En) (acts : List Ac) (c : Nat) (keep : Int) (kn : Nat) (w : World) (hd : DirAt w p ok dur acts c) (hc : c < 100000) (hk : keepN keep acts.length = kn) :
    Calls Try.prog 37 #[.pointer (some ⟨p, 0, none⟩), .int .i64 keep] w fun e w' => e = .returned (.tuple #[]) ∧ DirAt w' p (fun k => ok k ∨ w.heap.size ≤ k) (afterE dur (acts.take kn)) [] c ∧ Fr w w' ok := by
  obtain ⟨bd, bn, v, n1, n2, okr, hin, o1, o2, o3, o4, h2, h3⟩ := hd.out
  obtain ⟨m, hm⟩ : ∃ m, acts.length = m := ⟨_, rfl⟩
  obtain ⟨A, cp, hv⟩ : ∃ A cp, v = .slice A m cp := by
    obtain ⟨A, cp, h⟩ := Kd.R_slice hin.row
    rw [List.length_map, hm] at h
    exact ⟨A, cp, h⟩
  subst hv
  have hmc : m ≤ cp := by
    obtain ⟨_, inner, ⟨_, ho⟩, _⟩ := hin.row
    rcases ho with ⟨h1, h2⟩ | ⟨g, cap, cur, h1, _, _, h4, _⟩
    · injection h1 with _ h1 _; omega
    · injection h1 with _ _ h1; rw [List.length_map] at h4; omega
  have HD := Aside0.mk hd
  have HIN := Aside0.mk hin
  have HO := Aside0.mk (And.intro o1 (And.intro o2 (And.intro o3 o4)))
  have HLC := Aside0.mk (show n1 + m ≤ c ∧ n2 ≤ c ∧ c < 100000 by omega)
  have HM := Aside0.mk hm
  rw [hm] at hk
  have hkm : kn ≤ m := by rw [← hk]; exact keepN_le _ _
  have hkc : (kn : Int) ≤ (cp : Int) := by omega
  have hk0 : (0 : Int) ≤ (kn : Int) := by omega
  have hmx : max 0 (min keep (m : Int)) = (kn : Int) := by unfold keepN at hk; omega
  have hp2 : w.drew.cell? ⟨p, 2, none⟩ = some (.slice A m cp) := cell_of_blk hin.cells 2 rfl
  clear hd hin o1 o2 o3 o4 h2 h3 hc hk hm
  have HKM := Aside0.mk hkm
  go_enter Try.func37, Try.ntmps37
  go_upto_region 1 with fail
  refine start_ (n := 15) (S := fun w' => w'.cell? ⟨p, 2, none⟩ = some (.slice A m cp)) (ds := []) #[false, false, false, false, false, false, false, false, false, false, false, false, false, false, false] (by kernel_rfl) rfl rfl (hp2) (fun hHeld => ?_)
  refine pure_ (i := 0) (N := some 8) (v := ?_) (a' := ?_) #[true, false, false, false, false, false, false, false, false, false, false, false, false, false, false] rfl rfl (by kernel_rfl) (fun _ _ _ h => h) (Or.inl ⟨by rfl, ?_⟩) ?_ ?_
  rotate_left
  · intro w'
    go_simp
    with_reducible rfl
  rotate_left
  · simp only [Act.put, List.setIfInBounds_toArray, List.set_cons_zero, List.set_cons_succ, i64_w, i32_w]
    rfl
  refine pure_ (i := 1) (N := some 9) (v := ?_) (a' := ?_) #[true, true, false, false, false, false, false, false, false, false, false, false, false, false, false] rfl rfl (by kernel_rfl) (fun _ _ _ h => h) (Or.inl ⟨by rfl, ?_⟩) ?_ ?_
  rotate_left
  · intro w'
    go_simp
    with_reducible rfl
  rotate_left
  · simp only [Act.put, List.setIfInBounds_toArray, List.set_cons_zero, List.set_cons_succ, i64_w, i32_w]
    rfl
  refine pure_ (i := 2) (N := some 10) (v := ?_) (a' := ?_) #[true, true, true, false, false, false, false, false, false, false, false, false, false, false, false] rfl rfl (by kernel_rfl) (fun _ _ _ h => h) (Or.inl ⟨by rfl, ?_⟩) ?_ ?_
  rotate_left
  · intro w'
    go_simp
    with_reducible rfl
  rotate_left
  · simp only [Act.put, List.setIfInBounds_toArray, List.set_cons_zero, List.set_cons_succ, i64_w, i32_w]
    rfl
  refine pure_ (i := 4) (N := some 12) (v := ?_) (a' := ?_) #[true, true, true, false, true, false, false, false, false, false, false, false, false, false, false] rfl rfl (by kernel_rfl) (fun _ _ _ h => h) (Or.inl ⟨by rfl, ?_⟩) ?_ ?_
  rotate_left
  · intro w'
    go_simp
    with_reducible rfl
  rotate_left
  · simp only [Act.put, List.setIfInBounds_toArray, List.set_cons_zero, List.set_cons_succ, i64_w, i32_w]
    rfl
  refine pure_ (i := 5) (N := some 13) (v := ?_) (a' := ?_) #[true, true, true, false, true, true, false, false, false, false, false, false, false, false, false] rfl rfl (by kernel_rfl) (fun _ _ _ h => h) (Or.inl ⟨by rfl, ?_⟩) ?_ ?_
  rotate_left
  · intro w'
    go_simp
    with_reducible rfl
  rotate_left
  · simp only [Act.put, List.setIfInBounds_toArray, List.set_cons_zero, List.set_cons_succ, i64_w, i32_w]
    rfl
  refine pure_ (i := 6) (N := some 14) (v := ?_) (a' := ?_) #[true, true, true, false, true, true, true, false, false, false, false, false, false, false, false] rfl rfl (by kernel_rfl) (fun _ _ _ h => h) (Or.inl ⟨by rfl, ?_⟩) ?_ ?_
  rotate_left
  · intro w'
    go_simp
    with_reducible rfl
  rotate_left
  · simp only [Act.put, List.setIfInBounds_toArray, List.set_cons_zero, List.set_cons_succ, i64_w, i32_w]
    rfl
  refine pure_ (i := 7) (N := some 15) (v := ?_) (a' := ?_) #[true, true, true, false, true, true, true, true, false, false, false, false, false, false, false] rfl rfl (by kernel_rfl) (fun _ _ _ h => h) (Or.inl ⟨by rfl, ?_⟩) ?_ ?_
  rotate_left
  · intro w'
    go_simp
    with_reducible rfl
  rotate_left
  · simp only [Act.put, List.setIfInBounds_toArray, List.set_cons_zero, List.set_cons_succ, i64_w, i32_w]
    rfl
  refine pure_ (i := 14) (N := some 22) (v := ?_) (a' := ?_) #[true, true, true, false, true, true, true, true, false, false, false, false, false, false, true] rfl rfl (by kernel_rfl) (fun _ _ _ h => h) (Or.inl ⟨by rfl, ?_⟩) ?_ ?_
  rotate_left
  · intro w'
    go_simp
    with_reducible rfl
  rotate_left
  · simp only [Act.put, List.setIfInBounds_toArray, List.set_cons_zero, List.set_cons_succ, i64_w, i32_w]
    rfl
  refine take_ (i := 3) (N := some 11) (v := ?_) (a' := ?_) #[true, true, true, true, true, true, true, true, false, false, false, false, false, false, true] rfl rfl (by kernel_rfl) (fun _ _ _ h => h) (Or.inl ⟨by rfl, ?_⟩) hHeld ?_ ?_
  rotate_left
  · intro w' s0
    go_simp
    with_reducible rfl
  rotate_left
  · simp only [Act.put, List.setIfInBounds_toArray, List.set_cons_zero, List.set_cons_succ, i64_w, i32_w]
    rfl
  refine take_ (i := 8) (N := some 16) (v := ?_) (a' := ?_) #[true, true, true, true, true, true, true, true, true, false, false, false, false, false, true] rfl rfl (by kernel_rfl) (fun _ _ _ h => h) (Or.inl ⟨by rfl, ?_⟩) hHeld ?_ ?_
  rotate_left
  · intro w' s0
    go_simp
    with_reducible rfl
  rotate_left
  · simp only [Act.put, List.setIfInBounds_toArray, List.set_cons_zero, List.set_cons_succ, i64_w, i32_w]
    rfl
  refine pure_ (i := 9) (N := some 17) (v := ?_) (a' := ?_) #[true, true, true, true, true, true, true, true, true, true, false, false, false, false, true] rfl rfl (by kernel_rfl) (fun _ _ _ h => h) (Or.inl ⟨by rfl, ?_⟩) ?_ ?_
  rotate_left
  · intro w'
    go_simp
    with_reducible rfl
  rotate_left
  · simp only [Act.put, List.setIfInBounds_toArray, List.set_cons_zero, List.set_cons_succ, i64_w, i32_w]
    rfl
  refine pure_ (i := 10) (N := some 18) (v := ?_) (a' := ?_) #[true, true, true, true, true, true, true, true, true, true, true, false, false, false, true] rfl rfl (by kernel_rfl) (fun _ _ _ h => h) (Or.inl ⟨by rfl, ?_⟩) ?_ ?_
  rotate_left
  · intro w'
    go_simp
    with_reducible rfl
  rotate_left
  · simp only [Act.put, List.setIfInBounds_toArray, List.set_cons_zero, List.set_cons_succ, i64_w, i32_w]
    rfl
  refine pure_ (i := 11) (N := some 19) (v := ?_) (a' := ?_) #[true, true, true, true, true, true, true, true, true, true, true, true, false, false, true] rfl rfl (by kernel_rfl) (fun _ _ _ h => h) (Or.inl ⟨by rfl, ?_⟩) ?_ ?_
  rotate_left
  · intro w'
    go_simp
    with_reducible rfl
  rotate_left
  · simp only [Act.put, List.setIfInBounds_toArray, List.set_cons_zero, List.set_cons_succ, i64_w, i32_w]
    rfl
  refine pure_ (i := 12) (N := some 20) (v := ?_) (a' := ?_) #[true, true, true, true, true, true, true, true, true, true, true, true, true, false, true] rfl rfl (by kernel_rfl) (fun _ _ _ h => h) (Or.inl ⟨by rfl, ?_⟩) ?_ ?_
  rotate_left
  · intro w'
    go_simp
    with_reducible rfl
  rotate_left
  · simp only [Act.put, List.setIfInBounds_toArray, List.set_cons_zero, List.set_cons_succ, i64_w, i32_w]
    rfl
  refine pure_ (i := 13) (N := some 21) (v := ?_) (a' := ?_) #[true, true, true, true, true, true, true, true, true, true, true, true, true, true, true] rfl rfl (by kernel_rfl) (fun _ _ _ h => h) (Or.inl ⟨by rfl, ?_⟩) ?_ ?_
  rotate_left
  · intro w'
    go_simp
    with_reducible rfl
  rotate_left
  · simp only [Act.put, List.setIfInBounds_toArray, List.set_cons_zero, List.set_cons_succ, i64_w, i32_w]
    rfl
  refine done_ (by kernel_rfl) ?_
  clear hmx
  repeat clear hHeld
  clear hp2
  have HL0 := Aside0.mk (show Lost w ok okr p bd bn (.slice A m cp) n1 n2 dur acts 0 w.drew from ⟨HIN.out.cells, by exact HIN.out.md.step rfl, by exact HIN.out.mn.step rfl, Kd.R_drew HIN.out.row, Fr.drew (Fr.refl w ok)⟩)
  go_wp2
  go_loopw [22] (fun v22 wr => ∃ j : Nat, j ≤ kn ∧ v22 = .int .i64 j ∧ Aside0 (Lost w ok okr p bd bn (.slice A m cp) n1 n2 dur acts j wr)) (fun v22 _ => kn - (RowKit.intOf v22).toNat)
  case atStart => exact ⟨0, Nat.zero_le _, rfl, HL0⟩
  case round =>
    obtain ⟨j, hj, rfl, HL⟩ := hrel
    clear HL0
    by_cases hlt : j < kn
    · have hltI : (j : Int) < (kn : Int) := by omega
      have hja : j < acts.length := by rw [HM.out]; omega
      have hw1 : wrap64 ((j : Int) + 1) = ((j + 1 : Nat) : Int) := by have := HLC.out; unfold wrap64; omega
      obtain ⟨ad, hAe, hz0, hz1, hz2⟩ := act_at HL.out.row HM.out j hja
      subst hAe
      have hva := HD.out.va
      have htk : acts.take (j + 1) = acts.take j ++ [acts[j]] := List.take_succ_eq_append_getElem hja
      have hvj : OkA (afterE dur (acts.take j)) acts[j] := by
        have h1 := VA_take hva (j + 1)
        rw [htk] at h1
        exact ((VA_append _ _ _).mp h1).2.1
      have HSJ := Aside0.mk (HD.out.srt.after _ (VA_take hva j))
      have HTE := Aside0.mk (show afterE dur (acts.take (j + 1)) = apE (afterE dur (acts.take j)) acts[j] by rw [htk, afterE_append]; rfl)
      clear htk hva
      generalize acts[j] = a at hz0 hz1 hz2 hvj HTE
      obtain ⟨f, s, i⟩ := a
      have HSL := Aside0.mk hvj.1
      have HI := Aside0.mk hvj.2.1
      have h3 := hvj.2.2
      cases f
      · replace hz2 : wr.cell? ⟨(ad.add (j * 3)).block, (ad.add (j * 3)).off + 2, none⟩ = some (.func (.func 64) #[] #[]) := hz2
        go_upto_region 4 with fail
        have HC3 := Aside0.mk (blk_alloc HL.out.cells (.cells #[.string s, .int .i64 i, .func (.func 64) #[] #[]] 106))
        have HMJ3 := Aside0.mk (show MapAt (wr.alloc (.cells #[.string s, .int .i64 i, .func (.func 64) #[] #[]] 106)) bd (n1 + j) (afterE dur (acts.take j)) from HL.out.md.step ((below_alloc (Below.refl _ wr) _).block _ HL.out.md.lt))
        have HMN3 := Aside0.mk (show MapAt (wr.alloc (.cells #[.string s, .int .i64 i, .func (.func 64) #[] #[]] 106)) bn n2 (afterE dur acts) from HL.out.mn.step ((below_alloc (Below.refl _ wr) _).block _ HL.out.mn.lt))
        have HR3 := Aside0.mk (Kd.R_alloc HL.out.row (.cells #[.string s, .int .i64 i, .func (.func 64) #[] #[]] 106))
        have HF3 := Aside0.mk (Fr.alloc HL.out.fr (.cells #[.string s, .int .i64 i, .func (.func 64) #[] #[]] 106))
        have HBX := Aside0.mk (heap_alloc_new wr (.cells #[.string s, .int .i64 i, .func (.func 64) #[] #[]] 106))
        clear hz0 hz1 hz2
        generalize wr.alloc (.cells #[.string s, .int .i64 i, .func (.func 64) #[] #[]] 106) = w3 at HC3 HMJ3 HMN3 HR3 HF3 HBX ⊢
        generalize wr.heap.size = gb at HBX ⊢
        have HPD := Aside0.mk (blk_map_ne HC3.out HMJ3.out)
        have hq0 : w3.drew.cell? ⟨p, 0, none⟩ = some (.map (some bd)) := cell_of_blk HC3.out 0 rfl
        have hb0 : w3.drew.cell? ⟨gb, 0, none⟩ = some (.string s) := cell_of_blk HBX.out 0 rfl
        have hb1 : w3.drew.cell? ⟨gb, 1, none⟩ = some (.int .i64 i) := cell_of_blk HBX.out 1 rfl
        have HTK := Aside0.mk (show afterE dur (acts.take (j + 1)) = withoutE (afterE dur (acts.take j)) s from HTE.out)
        have hb2 : w3.drew.cell? ⟨gb, 2, none⟩ = some (.func (.func 64) #[] #[]) := cell_of_blk HBX.out 2 rfl
        clear hvj h3
        have HMX : Aside0 (MapAt w3.drew bd (n1 + j) (afterE dur (acts.take j))) := Aside0.mk (HMJ3.out.step rfl)
        refine start_ (n := 9) (S := fun w' => w'.cell? ⟨p, 0, none⟩ = some (.map (some bd)) ∧ w'.cell? ⟨gb, 0, none⟩ = some (.string s) ∧ w'.cell? ⟨gb, 1, none⟩ = some (.int .i64 i) ∧ w'.cell? ⟨gb, 2, none⟩ = some (.func (.func 64) #[] #[])) (ds := [8]) #[false, false, false, false, false, false, false, false, false] (by kernel_rfl) rfl rfl ⟨hq0, hb0, hb1, hb2⟩ (fun hHeld => ?_)
        refine pure_ (i := 0) (N := some 26) (v := ?_) (a' := ?_) #[true, false, false, false, false, false, false, false, false] rfl rfl (by kernel_rfl) (fun _ _ _ h => h) (Or.inl ⟨by rfl, ?_⟩) ?_ ?_
        rotate_left
        · intro w'
          go_simp
          with_reducible rfl
        rotate_left
        · simp only [Act.put, List.setIfInBounds_toArray, List.set_cons_zero, List.set_cons_succ, i64_w, i32_w]
          rfl
        refine pure_ (i := 2) (N := some 28) (v := ?_) (a' := ?_) #[true, false, true, false, false, false, false, false, false] rfl rfl (by kernel_rfl) (fun _ _ _ h => h) (Or.inl ⟨by rfl, ?_⟩) ?_ ?_
        rotate_left
        · intro w'
          go_simp
          with_reducible rfl
        rotate_left
        · simp only [Act.put, List.setIfInBounds_toArray, List.set_cons_zero, List.set_cons_succ, i64_w, i32_w]
          rfl
        refine pure_ (i := 3) (N := some 29) (v := ?_) (a' := ?_) #[true, false, true, true, false, false, false, false, false] rfl rfl (by kernel_rfl) (fun _ _ _ h => h) (Or.inl ⟨by rfl, ?_⟩) ?_ ?_
        rotate_left
        · intro w'
          go_simp
          with_reducible rfl
        rotate_left
        · simp only [Act.put, List.setIfInBounds_toArray, List.set_cons_zero, List.set_cons_succ, i64_w, i32_w]
          rfl
        refine pure_ (i := 4) (N := some 30) (v := ?_) (a' := ?_) #[true, false, true, true, true, false, false, false, false] rfl rfl (by kernel_rfl) (fun _ _ _ h => h) (Or.inl ⟨by rfl, ?_⟩) ?_ ?_
        rotate_left
        · intro w'
          go_simp
          with_reducible rfl
        rotate_left
        · simp only [Act.put, List.setIfInBounds_toArray, List.set_cons_zero, List.set_cons_succ, i64_w, i32_w]
          rfl
        refine pure_ (i := 6) (N := some 32) (v := ?_) (a' := ?_) #[true, false, true, true, true, false, true, false, false] rfl rfl (by kernel_rfl) (fun _ _ _ h => h) (Or.inl ⟨by rfl, ?_⟩) ?_ ?_
        rotate_left
        · intro w'
          go_simp
          with_reducible rfl
        rotate_left
        · simp only [Act.put, List.setIfInBounds_toArray, List.set_cons_zero, List.set_cons_succ, i64_w, i32_w]
          rfl
        refine take_ (i := 1) (N := some 27) (v := ?_) (a' := ?_) #[true, true, true, true, true, false, true, false, false] rfl rfl (by kernel_rfl) (fun _ _ _ h => h) (Or.inl ⟨by rfl, ?_⟩) hHeld ?_ ?_
        rotate_left
        · rintro w' ⟨s0, s1, s2, s3⟩
          go_simp
          with_reducible rfl
        rotate_left
        · simp only [Act.put, List.setIfInBounds_toArray, List.set_cons_zero, List.set_cons_succ, i64_w, i32_w]
          rfl
        refine take_ (i := 5) (N := some 31) (v := ?_) (a' := ?_) #[true, true, true, true, true, true, true, false, false] rfl rfl (by kernel_rfl) (fun _ _ _ h => h) (Or.inl ⟨by rfl, ?_⟩) hHeld ?_ ?_
        rotate_left
        · rintro w' ⟨s0, s1, s2, s3⟩
          go_simp
          with_reducible rfl
        rotate_left
        · simp only [Act.put, List.setIfInBounds_toArray, List.set_cons_zero, List.set_cons_succ, i64_w, i32_w]
          rfl
        refine take_ (i := 7) (N := some 33) (v := ?_) (a' := ?_) #[true, true, true, true, true, true, true, true, false] rfl rfl (by kernel_rfl) (fun _ _ _ h => h) (Or.inl ⟨by rfl, ?_⟩) hHeld ?_ ?_
        rotate_left
        · rintro w' ⟨s0, s1, s2, s3⟩
          go_simp
          with_reducible rfl
        rotate_left
        · simp only [Act.put, List.setIfInBounds_toArray, List.set_cons_zero, List.set_cons_succ, i64_w, i32_w]
          rfl
        refine last_ (i := 8) (N := some 34) #[true, true, true, true, true, true, true, true, true] rfl rfl (by kernel_rfl) (by decide) (fun K hK => ?_)
        refine goesV_ (.tmp 27) Try.func64 (by kernel_rfl) rfl #[.map (some bd), .agg #[.string s, .int .i64 i]] (by rfl) rfl rfl (by rfl) (by (try simp only [List.map_toArray, List.map_cons, List.map_nil]); first | done | rfl) ?_
        with_reducible refine (remove_calls bd (n1 + j) (afterE dur (acts.take j)) s i _ HMX.out HSJ.out HSL.out).mono ?_
        rintro e w6 ⟨rfl, hmn, hg⟩
        refine ⟨_, rfl, ?_⟩
        have HMD6 := Aside0.mk hmn
        have HG6 := Aside0.mk hg
        clear hmn hg
        refine hK.out _ _ ?_
        clear hK K
        refine norm_ (a' := ?_) ?_ ?_
        rotate_left
        · show Act.put _ (some 34) _ = _
          simp only [Act.put, List.setIfInBounds_toArray, List.set_cons_zero, List.set_cons_succ, i64_w, i32_w]
          rfl
        refine done_ (by kernel_rfl) ?_
        go_wp2
        have hg6 := HG6.out
        have hpd := HPD.out
        rw [hw1]
        refine ⟨⟨j + 1, by omega, rfl, ⟨⟨?_, ?_, ?_, ?_, ?_⟩⟩⟩, by show kn - (j + 1) < kn - j; omega⟩
        · exact (hg6.block p (blk_lt HC3.out) (fun he => by injection he with he; exact hpd he)).trans HC3.out
        · rw [HTK.out]
          exact HMD6.out.up (by omega)
        · exact (HMN3.out.step (w' := w3.drew) rfl).step (hg6.block bn HMN3.out.lt (fun he => by injection he with he; exact HIN.out.ne he.symm))
        · exact R_own_step rfl HR3.out (fun k hk => hg6.block k (Kd.R_lt HR3.out k hk) (fun he => by injection he with he; exact row_map_ne HR3.out HMJ3.out _ hk he))
        · exact Fr.of_grown hg6 (Fr.drew HF3.out) (fun k hk => by injection hk with hk; subst hk; exact .inl HO.out.2.1)
      · replace hz2 : wr.cell? ⟨(ad.add (j * 3)).block, (ad.add (j * 3)).off + 2, none⟩ = some (.func (.func 65) #[] #[]) := hz2
        go_upto_region 4 with fail
        have HC3 := Aside0.mk (blk_alloc HL.out.cells (.cells #[.string s, .int .i64 i, .func (.func 65) #[] #[]] 106))
        have HMJ3 := Aside0.mk (show MapAt (wr.alloc (.cells #[.string s, .int .i64 i, .func (.func 65) #[] #[]] 106)) bd (n1 + j) (afterE dur (acts.take j)) from HL.out.md.step ((below_alloc (Below.refl _ wr) _).block _ HL.out.md.lt))
        have HMN3 := Aside0.mk (show MapAt (wr.alloc (.cells #[.string s, .int .i64 i, .func (.func 65) #[] #[]] 106)) bn n2 (afterE dur acts) from HL.out.mn.step ((below_alloc (Below.refl _ wr) _).block _ HL.out.mn.lt))
        have HR3 := Aside0.mk (Kd.R_alloc HL.out.row (.cells #[.string s, .int .i64 i, .func (.func 65) #[] #[]] 106))
        have HF3 := Aside0.mk (Fr.alloc HL.out.fr (.cells #[.string s, .int .i64 i, .func (.func 65) #[] #[]] 106))
        have HBX := Aside0.mk (heap_alloc_new wr (.cells #[.string s, .int .i64 i, .func (.func 65) #[] #[]] 106))
        clear hz0 hz1 hz2
        generalize wr.alloc (.cells #[.string s, .int .i64 i, .func (.func 65) #[] #[]] 106) = w3 at HC3 HMJ3 HMN3 HR3 HF3 HBX ⊢
        generalize wr.heap.size = gb at HBX ⊢
        have HPD := Aside0.mk (blk_map_ne HC3.out HMJ3.out)
        have hq0 : w3.drew.cell? ⟨p, 0, none⟩ = some (.map (some bd)) := cell_of_blk HC3.out 0 rfl
        have hb0 : w3.drew.cell? ⟨gb, 0, none⟩ = some (.string s) := cell_of_blk HBX.out 0 rfl
        have hb1 : w3.drew.cell? ⟨gb, 1, none⟩ = some (.int .i64 i) := cell_of_blk HBX.out 1 rfl
        have HTK := Aside0.mk (show afterE dur (acts.take (j + 1)) = putE (afterE dur (acts.take j)) s i from HTE.out)
        have HNN := Aside0.mk (show getE (afterE dur (acts.take j)) s = none by simpa using h3)
        have hb2 : w3.drew.cell? ⟨gb, 2, none⟩ = some (.func (.func 65) #[] #[]) := cell_of_blk HBX.out 2 rfl
        clear hvj h3
        have HMX : Aside0 (MapAt w3.drew bd (n1 + j) (afterE dur (acts.take j))) := Aside0.mk (HMJ3.out.step rfl)
        refine start_ (n := 9) (S := fun w' => w'.cell? ⟨p, 0, none⟩ = some (.map (some bd)) ∧ w'.cell? ⟨gb, 0, none⟩ = some (.string s) ∧ w'.cell? ⟨gb, 1, none⟩ = some (.int .i64 i) ∧ w'.cell? ⟨gb, 2, none⟩ = some (.func (.func 65) #[] #[])) (ds := [8]) #[false, false, false, false, false, false, false, false, false] (by kernel_rfl) rfl rfl ⟨hq0, hb0, hb1, hb2⟩ (fun hHeld => ?_)
        refine pure_ (i := 0) (N := some 26) (v := ?_) (a' := ?_) #[true, false, false, false, false, false, false, false, false] rfl rfl (by kernel_rfl) (fun _ _ _ h => h) (Or.inl ⟨by rfl, ?_⟩) ?_ ?_
        rotate_left
        · intro w'
          go_simp
          with_reducible rfl
        rotate_left
        · simp only [Act.put, List.setIfInBounds_toArray, List.set_cons_zero, List.set_cons_succ, i64_w, i32_w]
          rfl
        refine pure_ (i := 2) (N := some 28) (v := ?_) (a' := ?_) #[true, false, true, false, false, false, false, false, false] rfl rfl (by kernel_rfl) (fun _ _ _ h => h) (Or.inl ⟨by rfl, ?_⟩) ?_ ?_
        rotate_left
        · intro w'
          go_simp
          with_reducible rfl
        rotate_left
        · simp only [Act.put, List.setIfInBounds_toArray, List.set_cons_zero, List.set_cons_succ, i64_w, i32_w]
          rfl
        refine pure_ (i := 3) (N := some 29) (v := ?_) (a' := ?_) #[true, false, true, true, false, false, false, false, false] rfl rfl (by kernel_rfl) (fun _ _ _ h => h) (Or.inl ⟨by rfl, ?_⟩) ?_ ?_
        rotate_left
        · intro w'
          go_simp
          with_reducible rfl
        rotate_left
        · simp only [Act.put, List.setIfInBounds_toArray, List.set_cons_zero, List.set_cons_succ, i64_w, i32_w]
          rfl
        refine pure_ (i := 4) (N := some 30) (v := ?_) (a' := ?_) #[true, false, true, true, true, false, false, false, false] rfl rfl (by kernel_rfl) (fun _ _ _ h => h) (Or.inl ⟨by rfl, ?_⟩) ?_ ?_
        rotate_left
        · intro w'
          go_simp
          with_reducible rfl
        rotate_left
        · simp only [Act.put, List.setIfInBounds_toArray, List.set_cons_zero, List.set_cons_succ, i64_w, i32_w]
          rfl
        refine pure_ (i := 6) (N := some 32) (v := ?_) (a' := ?_) #[true, false, true, true, true, false, true, false, false] rfl rfl (by kernel_rfl) (fun _ _ _ h => h) (Or.inl ⟨by rfl, ?_⟩) ?_ ?_
        rotate_left
        · intro w'
          go_simp
          with_reducible rfl
        rotate_left
        · simp only [Act.put, List.setIfInBounds_toArray, List.set_cons_zero, List.set_cons_succ, i64_w, i32_w]
          rfl
        refine take_ (i := 1) (N := some 27) (v := ?_) (a' := ?_) #[true, true, true, true, true, false, true, false, false] rfl rfl (by kernel_rfl) (fun _ _ _ h => h) (Or.inl ⟨by rfl, ?_⟩) hHeld ?_ ?_
        rotate_left
        · rintro w' ⟨s0, s1, s2, s3⟩
          go_simp
          with_reducible rfl
        rotate_left
        · simp only [Act.put, List.setIfInBounds_toArray, List.set_cons_zero, List.set_cons_succ, i64_w, i32_w]
          rfl
        refine take_ (i := 5) (N := some 31) (v := ?_) (a' := ?_) #[true, true, true, true, true, true, true, false, false] rfl rfl (by kernel_rfl) (fun _ _ _ h => h) (Or.inl ⟨by rfl, ?_⟩) hHeld ?_ ?_
        rotate_left
        · rintro w' ⟨s0, s1, s2, s3⟩
          go_simp
          with_reducible rfl
        rotate_left
        · simp only [Act.put, List.setIfInBounds_toArray, List.set_cons_zero, List.set_cons_succ, i64_w, i32_w]
          rfl
        refine take_ (i := 7) (N := some 33) (v := ?_) (a' := ?_) #[true, true, true, true, true, true, true, true, false] rfl rfl (by kernel_rfl) (fun _ _ _ h => h) (Or.inl ⟨by rfl, ?_⟩) hHeld ?_ ?_
        rotate_left
        · rintro w' ⟨s0, s1, s2, s3⟩
          go_simp
          with_reducible rfl
        rotate_left
        · simp only [Act.put, List.setIfInBounds_toArray, List.set_cons_zero, List.set_cons_succ, i64_w, i32_w]
          rfl
        refine last_ (i := 8) (N := some 34) #[true, true, true, true, true, true, true, true, true] rfl rfl (by kernel_rfl) (by decide) (fun K hK => ?_)
        refine goesV_ (.tmp 27) Try.func65 (by kernel_rfl) rfl #[.map (some bd), .agg #[.string s, .int .i64 i]] (by rfl) rfl rfl (by rfl) (by (try simp only [List.map_toArray, List.map_cons, List.map_nil]); first | done | rfl) ?_
        with_reducible refine (add_calls bd (n1 + j) (afterE dur (acts.take j)) s i _ HMX.out HSJ.out HNN.out HSL.out HI.out (by have := HLC.out; omega)).mono ?_
        rintro e w6 ⟨rfl, hmn, hg⟩
        refine ⟨_, rfl, ?_⟩
        have HMD6 := Aside0.mk hmn
        have HG6 := Aside0.mk hg
        clear hmn hg
        refine hK.out _ _ ?_
        clear hK K
        refine norm_ (a' := ?_) ?_ ?_
        rotate_left
        · show Act.put _ (some 34) _ = _
          simp only [Act.put, List.setIfInBounds_toArray, List.set_cons_zero, List.set_cons_succ, i64_w, i32_w]
          rfl
        refine done_ (by kernel_rfl) ?_
        go_wp2
        have hg6 := HG6.out
        have hpd := HPD.out
        rw [hw1]
        refine ⟨⟨j + 1, by omega, rfl, ⟨⟨?_, ?_, ?_, ?_, ?_⟩⟩⟩, by show kn - (j + 1) < kn - j; omega⟩
        · exact (hg6.block p (blk_lt HC3.out) (fun he => by injection he with he; exact hpd he)).trans HC3.out
        · rw [HTK.out]
          exact HMD6.out.up (by omega)
        · exact (HMN3.out.step (w' := w3.drew) rfl).step (hg6.block bn HMN3.out.lt (fun he => by injection he with he; exact HIN.out.ne he.symm))
        · exact R_own_step rfl HR3.out (fun k hk => hg6.block k (Kd.R_lt HR3.out k hk) (fun he => by injection he with he; exact row_map_ne HR3.out HMJ3.out _ hk he))
        · exact Fr.of_grown hg6 (Fr.drew HF3.out) (fun k hk => by injection hk with hk; subst hk; exact .inl HO.out.2.1)
    · obtain rfl : kn = j := by omega
      have hc0 := cell_of_blk HL.out.cells 0 rfl
      go_wp2_with (go_at_call 56; refine (mclone_calls bd (n1 + kn) (afterE dur (acts.take kn)) _ HL.out.md).mono ?_; rintro e w5 ⟨rfl, hm, hb⟩; have HM5 := Aside0.mk hm; have HB5 := Aside0.mk hb; have HC5 := Aside0.mk (blk_below HL.out.cells hb); have hy1 := cell_of_blk HC5.out 1 rfl; have hy2 := cell_of_blk HC5.out 2 rfl; have hf1 := blk_frozen HC5.out 1; have hf2 := blk_frozen HC5.out 2; clear hm hb)
      go_end0
      have hpd := blk_map_ne HC5.out (HL.out.md.step (HB5.out.block bd HL.out.md.lt))
      have hpg := blk_map_ne HC5.out HM5.out
      have hsz := HL.out.fr.1
      have hlc := HLC.out
      refine ⟨rfl, ⟨⟨bd, wr.heap.size, .slice none 0 0, n1 + kn, n1 + kn, fun _ => False, ⟨blk_set (blk_set HC5.out 2 _) 1 _, ?_, ?_, Kd.R_nil _ _ _ _ _, Nat.ne_of_lt HL.out.md.lt⟩, .inl HO.out.1, .inl HO.out.2.1, .inr hsz, fun _ h => h.elim, ?_, ?_⟩, HD.out.srt.after _ (VA_take HD.out.va _), trivial, HD.out.fine.after _ (VA_take HD.out.va _)⟩, ?_⟩
      · exact ((HL.out.md.step (HB5.out.block bd HL.out.md.lt)).step (Below.heap_setCell w5 ⟨p, 2, none⟩ _ bd (Ne.symm hpd))).step (Below.heap_setCell _ ⟨p, 1, none⟩ _ bd (Ne.symm hpd))
      · exact (HM5.out.step (Below.heap_setCell w5 ⟨p, 2, none⟩ _ _ (Ne.symm hpg))).step (Below.heap_setCell _ ⟨p, 1, none⟩ _ _ (Ne.symm hpg))
      · show n1 + kn + 0 ≤ c; omega
      · omega
      · exact Fr.setCell (p := ⟨p, 1, none⟩) (Fr.setCell (p := ⟨p, 2, none⟩) (Fr.then_below HL.out.fr HB5.out) (.inl HO.out.1) _) (.inl HO.out.1) _
set_option maxHeartbeats 2000000 in
theorem sync_calls8 (p : Nat) (ok : Nat → Prop) (dur : List En) (acts : List Ac) (c : Nat) (w : World) (hd : DirAt w p ok dur acts c) (hc : c < 100000) :
    Calls Try.prog 33 #[.pointer (some ⟨p, 0, none⟩)] w fun e w' => e = .returned (.tuple #[]) ∧ DirAt w' p (fun k => ok k ∨ w.heap.size ≤ k) (afterE dur acts) [] c ∧ Fr w w' ok := by
  obtain ⟨bd, bn, v, n1, n2, okr, hin, o1, o2, o3, o4, h2, h3⟩ := hd.out
  obtain ⟨m, hm⟩ : ∃ m, acts.length = m := ⟨_, rfl⟩
  obtain ⟨A, cp, hv⟩ : ∃ A cp, v = .slice A m cp := by
    obtain ⟨A, cp, h⟩ := Kd.R_slice hin.row
    rw [List.length_map, hm] at h
    exact ⟨A, cp, h⟩
  subst hv
  have hc2 := cell_of_blk hin.cells 2 rfl
  have HT := Aside0.mk (show acts.take m = acts by rw [← hm, List.take_length])
  have HK := Aside0.mk (show keepN (m : Int) acts.length = m by rw [hm]; unfold keepN; omega)
  have HD := Aside0.mk hd
  have HC := Aside0.mk hc
  clear hd hin hm h2 h3 o1 o2 o3 o4 hc
  go_enter Try.func33, Try.ntmps33
  go_wp2_with (go_at_call 37; refine (fail_calls p ok dur acts c (m : Int) m _ HD.out HC.out HK.out).mono ?_; rintro e w1 ⟨rfl, hda, hf⟩; have HDA := Aside0.mk hda; have HF := Aside0.mk hf; clear hda hf)
  go_end0
  refine ⟨rfl, ?_, HF.out⟩
  have := HDA.out
  rw [HT.out] at this
  exact this
end Go.Proofs.Ytbpnbhccdpobpaa
