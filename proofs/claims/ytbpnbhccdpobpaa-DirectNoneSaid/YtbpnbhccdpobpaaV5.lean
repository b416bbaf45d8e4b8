import Derived.Test.YtbpnbhccdpobpaaV4
/-! direct: act. -/
set_option linter.unusedVariables false
set_option linter.unusedSimpArgs false
namespace Go.Proofs.Ytbpnbhccdpobpaa
open Go Go.RowKit Go.Proofs.YtbpnbhccdpobpaaW.PrintWords Go.Proofs.YtbpnbhccdpobpaaW.PrintLast Go.Proofs.YtbpnbhccdpobpaaW.PrintMore PDirectKnown Go.Maps

theorem row_map_ne {α : Type} {d : Kd α} {e : Nat} {w : World} {base : Nat} {ok : Nat → Prop} {v : Value} {xs : List α} {b n : Nat} {l : List En} (h : d.R e w base ok v xs) (hm : MapAt w b n l) : ∀ k, v.ownBlock = some k → k ≠ b := by
  intro k hk he
  subst he
  obtain ⟨D, ⟨es, ck, h1, _⟩, _⟩ := hm
  obtain ⟨_, inner, ⟨_, ho⟩, _⟩ := h
  rcases ho with ⟨rfl, _⟩ | ⟨g, cap, cur, rfl, _, hh, _⟩
  · cases hk
  · injection hk with hk
    subst hk
    rw [h1] at hh
    cases hh
theorem blk_map_ne {w : World} {p b n : Nat} {l : List En} {t : TypeId} {cs : Array Value} (h : w.heap[p]? = some (.cells cs t (0, 0))) (hm : MapAt w b n l) : p ≠ b := by
  intro he
  subst he
  obtain ⟨D, ⟨es, ck, h1, _⟩, _⟩ := hm
  rw [h1] at h
  cases h
theorem eInfoAct8 : (Try.prog.info? 106).map (fun i => (i.zero, i.size, i.bytes)) = some (some (.agg #[.string ⟨#[]⟩, .int .i64 0, .nilFunc]), 3, 32) := by kernel_rfl
section
variable {P : Program} {ops : Array Oper} {Q : Exit → Act → World → Prop}
/-- A call of a function value, inside a region of open order. -/
theorem goesV_ {oi : Oper} {N : Option Tmp} {a : Act} {w : World} {K : Act → World → Prop} {f : FuncId} {fn : Func} {xs0 : Array Operand} {ts : Array TypeId} (x : Operand) (hf : P.funcs[f]? = some fn) (hname : (fn.name == "runtime.NumGoroutine") = false) (hb : fn.body.isSome = true) (args : Array Value)
    (hw : Region.wanted oi (yielded ops a.tmps) = true) (hN : oi.dst = N) (hop : oi.op = .call { callee := .value x, args := xs0, argTypes := ts }) (hx : a.eval x = .func (.func f) #[] #[]) (hargs : xs0.map a.eval = args)
    (h : Calls P f args w fun e w' => ∃ v, e = .returned v ∧ K (a.put N v) w') : if Region.wanted oi (yielded ops a.tmps) = true then Oper.wp P oi a w K Q else K (a.put N undef) w := by
  refine call_ f args hw hN ?_ h
  have he := enters_ hf hname hb args w
  unfold execOp
  simp [hop, resolve, Deferred.ofValue, invoke, hx, hargs, he]
end
set_option maxHeartbeats 4000000 in
set_option maxRecDepth 100000 in
theorem act_add (p : Nat) (ok : Nat → Prop) (dur : List En) (acts : List Ac) (c : Nat) (s : ByteArray) (i : Int) (w : World) (hd : DirAt w p ok dur acts c) (hl : s.size ≤ 200) (hi : Wf i) (hn : getE (afterE dur acts) s = none) (hc : c < 100000) :
    Calls Try.prog 63 #[.pointer (some ⟨p, 0, none⟩), .agg #[.string s, .int .i64 i], .func (.func 65) #[] #[]] w fun e w' => e = .returned (.tuple #[]) ∧ DirAt w' p (fun k => ok k ∨ w.heap.size ≤ k) dur (acts ++ [⟨true, ⟨s, i⟩⟩]) (c + 1) ∧ Fr w w' ok := by
  obtain ⟨bd, bn, v, n1, n2, okr, hin, o1, o2, o3, o4, h2, h3⟩ := hd.out
  have hsA := hd.srt.after acts hd.va
  have HOA := Aside0.mk (show OkA (afterE dur acts) ⟨true, ⟨s, i⟩⟩ from ⟨hl, hi, by rw [if_pos rfl]; exact hn⟩)
  have HSA := Aside0.mk hsA
  have HD := Aside0.mk hd
  have HIN := Aside0.mk hin
  have HO := Aside0.mk (And.intro o1 (And.intro o2 (And.intro o3 o4)))
  have HLC := Aside0.mk (And.intro h2 h3)
  have HSL := Aside0.mk hl
  have HI := Aside0.mk hi
  have HNN := Aside0.mk hn
  have HCC := Aside0.mk hc
  have HL := Aside0.mk (show acts.length < 100000 by omega)
  have HM := Aside0.mk (show (Kd.raw 3).M (w.alloc (.cells #[.string s, .int .i64 i] 98)) 0 (fun _ => False) (encA ⟨true, ⟨s, i⟩⟩) [.string s, .int .i64 i, .func (.func 65) #[] #[]] from ⟨rfl, rfl, by intro u hu; simp at hu; rcases hu with rfl | rfl | rfl <;> rfl⟩)
  clear hd hin o1 o2 o3 o4 h2 h3 hl hi hn hc hsA
  go_enter Try.func63, Try.ntmps63
  go_upto_region 1 with fail
  have HR := Aside0.mk (show Kd.R (Kd.raw 3) 106 (w.alloc (.cells #[.string s, .int .i64 i] 98)).drew 0 okr v (acts.map encA) from Kd.R_drew (Kd.R_alloc HIN.out.row _))
  have HC1 := Aside0.mk (show (w.alloc (.cells #[.string s, .int .i64 i] 98)).drew.heap[p]? = some (.cells #[.map (some bd), .map (some bn), v] 97 (0, 0)) from blk_alloc HIN.out.cells _)
  have HBX := Aside0.mk (show (w.alloc (.cells #[.string s, .int .i64 i] 98)).drew.heap[w.heap.size]? = some (.cells #[.string s, .int .i64 i] 98 (0, 0)) from heap_alloc_new w _)
  have HPN := Aside0.mk (fun k (hk : v.ownBlock = some k) => ((Kd.R_types HR.out HC1.out (by intro q hq; simp [Kd.raw] at hq; subst hq; decide)).1 k hk).2)
  have HBN := Aside0.mk (fun k (hk : v.ownBlock = some k) => ((Kd.R_types HR.out HBX.out (by intro q hq; simp [Kd.raw] at hq; subst hq; decide)).1 k hk).2)
  have HMN := Aside0.mk (show MapAt (w.alloc (.cells #[.string s, .int .i64 i] 98)).drew bn n2 (afterE dur acts) from HIN.out.mn.step ((below_alloc (Below.refl _ w) _).block _ HIN.out.mn.lt))
  have HMD := Aside0.mk (show MapAt (w.alloc (.cells #[.string s, .int .i64 i] 98)).drew bd n1 dur from HIN.out.md.step ((below_alloc (Below.refl _ w) _).block _ HIN.out.md.lt))
  have HF1 := Aside0.mk (Fr.alloc (Fr.refl w ok) (.cells #[.string s, .int .i64 i] 98))
  have HS := Aside0.mk (show w.heap.size + 1 = (w.alloc (.cells #[.string s, .int .i64 i] 98)).heap.size by simp only [World.size_alloc])
  generalize w.alloc (.cells #[.string s, .int .i64 i] 98) = w1 at HR HC1 HBX HF1 HS HM HMN HMD ⊢
  have HPL := Aside0.mk (blk_lt HC1.out)
  replace HS : Aside0 (w.heap.size + 1 = w1.drew.heap.size) := HS
  replace HF1 : Aside0 (Fr w w1.drew ok) := HF1
  have hp2 := cell_of_blk HC1.out 2 rfl
  have hb0 := cell_of_blk HBX.out 0 rfl
  have hb1 := cell_of_blk HBX.out 1 rfl
  refine start_ (n := 13) (S := fun w' => w'.cell? ⟨p, 2, none⟩ = some v ∧ w'.cell? ⟨w.heap.size, 0, none⟩ = some (.string s) ∧ w'.cell? ⟨w.heap.size, 1, none⟩ = some (.int .i64 i)) (ds := [12]) #[false, false, false, false, false, false, false, false, false, false, false, false, false] (by kernel_rfl) rfl rfl ⟨hp2, hb0, hb1⟩ (fun hHeld => ?_)
  generalize w1.drew = wd at HR HC1 HBX HF1 HS HPL HMN HMD hp2 hb0 hb1 hHeld ⊢
  refine pure_ (i := 0) (N := some 6) (v := ?_) (a' := ?_) #[true, false, false, false, false, false, false, false, false, false, false, false, false] rfl rfl (by kernel_rfl) (fun _ _ _ h => h) (Or.inl ⟨by rfl, ?_⟩) ?_ ?_
  rotate_left
  · intro w'
    go_simp
    with_reducible rfl
  rotate_left
  · simp only [Act.put, List.setIfInBounds_toArray, List.set_cons_zero, List.set_cons_succ, i64_w, i32_w]
    rfl
  refine pure_ (i := 1) (N := some 7) (v := ?_) (a' := ?_) #[true, true, false, false, false, false, false, false, false, false, false, false, false] rfl rfl (by kernel_rfl) (fun _ _ _ h => h) (Or.inl ⟨by rfl, ?_⟩) ?_ ?_
  rotate_left
  · intro w'
    go_simp
    with_reducible rfl
  rotate_left
  · simp only [Act.put, List.setIfInBounds_toArray, List.set_cons_zero, List.set_cons_succ, i64_w, i32_w]
    rfl
  refine pure_ (i := 2) (N := some 8) (v := ?_) (a' := ?_) #[true, true, true, false, false, false, false, false, false, false, false, false, false] rfl rfl (by kernel_rfl) (fun _ _ _ h => h) (Or.inl ⟨by rfl, ?_⟩) ?_ ?_
  rotate_left
  · intro w'
    go_simp
    with_reducible rfl
  rotate_left
  · simp only [Act.put, List.setIfInBounds_toArray, List.set_cons_zero, List.set_cons_succ, i64_w, i32_w]
    rfl
  refine pure_ (i := 3) (N := some 9) (v := ?_) (a' := ?_) #[true, true, true, true, false, false, false, false, false, false, false, false, false] rfl rfl (by kernel_rfl) (fun _ _ _ h => h) (Or.inl ⟨by rfl, ?_⟩) ?_ ?_
  rotate_left
  · intro w'
    go_simp
    with_reducible rfl
  rotate_left
  · simp only [Act.put, List.setIfInBounds_toArray, List.set_cons_zero, List.set_cons_succ, i64_w, i32_w]
    rfl
  refine pure_ (i := 6) (N := some 12) (v := ?_) (a' := ?_) #[true, true, true, true, false, false, true, false, false, false, false, false, false] rfl rfl (by kernel_rfl) (fun _ _ _ h => h) (Or.inl ⟨by rfl, ?_⟩) ?_ ?_
  rotate_left
  · intro w'
    go_simp
    with_reducible rfl
  rotate_left
  · simp only [Act.put, List.setIfInBounds_toArray, List.set_cons_zero, List.set_cons_succ, i64_w, i32_w]
    rfl
  refine take_ (i := 4) (N := some 10) (v := ?_) (a' := ?_) #[true, true, true, true, true, false, true, false, false, false, false, false, false] rfl rfl (by kernel_rfl) (fun _ _ _ h => h) (Or.inl ⟨by rfl, ?_⟩) hHeld ?_ ?_
  rotate_left
  · rintro w' ⟨s0, s1, s2⟩
    go_simp
    with_reducible rfl
  rotate_left
  · simp only [Act.put, List.setIfInBounds_toArray, List.set_cons_zero, List.set_cons_succ, i64_w, i32_w]
    rfl
  refine take_ (i := 5) (N := some 11) (v := ?_) (a' := ?_) #[true, true, true, true, true, true, true, false, false, false, false, false, false] rfl rfl (by kernel_rfl) (fun _ _ _ h => h) (Or.inl ⟨by rfl, ?_⟩) hHeld ?_ ?_
  rotate_left
  · rintro w' ⟨s0, s1, s2⟩
    go_simp
    with_reducible rfl
  rotate_left
  · simp only [Act.put, List.setIfInBounds_toArray, List.set_cons_zero, List.set_cons_succ, i64_w, i32_w]
    rfl
  refine pure_ (i := 7) (N := some 13) (v := ?_) (a' := ?_) #[true, true, true, true, true, true, true, true, false, false, false, false, false] rfl rfl (by kernel_rfl) (fun _ _ _ h => h) (Or.inl ⟨by rfl, ?_⟩) ?_ ?_
  rotate_left
  · intro w'
    go_simp
    with_reducible rfl
  rotate_left
  · simp only [Act.put, List.setIfInBounds_toArray, List.set_cons_zero, List.set_cons_succ, i64_w, i32_w]
    rfl
  refine one_ (i := 8) (N := some 14) #[true, true, true, true, true, true, true, true, true, false, false, false, false] rfl rfl (by kernel_rfl) (by decide) (fun K hK => ?_)
  refine value_ (w1 := ?_) (v := ?_) (by rfl) rfl ?_ ?_
  rotate_left 2
  · go_simp
    constructor
    · rfl
    · rfl
  refine hK.out _ _ ⟨cell_allocs hp2 _, cell_allocs hb0 _, cell_allocs hb1 _⟩ (fun hHeld => ?_)
  clear hK K
  refine norm_ (a' := ?_) ?_ ?_
  rotate_left
  · show Act.put _ (some 14) _ = _
    simp only [Act.put, List.setIfInBounds_toArray, List.set_cons_zero, List.set_cons_succ, i64_w, i32_w]
    rfl
  refine one_ (i := 9) (N := some 15) #[true, true, true, true, true, true, true, true, true, true, false, false, false] rfl rfl (by kernel_rfl) (by decide) (fun K hK => ?_)
  refine Kd.R_append_step (Kd.raw 3) (w0 := wd) 0 rfl (.tmp 10) (.tmp 14) 95 106 _ 32 rfl Try.underlying95 eInfoAct8 rfl (by decide) (by decide) v (acts.map encA) (encA ⟨true, ⟨s, i⟩⟩) [.string s, .int .i64 i, .func (.func 65) #[] #[]] (fun k => okr k ∨ w.heap.size ≤ k) (fun _ => False) rfl rfl ?n1 (fun _ hk => hk.elim) ?n2 ?n3 ?n4 (Nat.zero_le _) ?n6 ?_
  (case n1 => exact HM.out)
  (case n2 => exact fun k hk => .inr (by have := HS.out; omega))
  (case n3 => exact Kd.R_mono HR.out (fun k hk => Or.inl hk))
  (case n4 => exact Below.refl 0 _)
  (case n6 => have := HL.out; rw [List.length_map]; omega)
  intro v1 w3 hN hB hg hat
  obtain ⟨A1, c1, hv1⟩ : ∃ A c, v1 = Value.slice A (acts.length + 1) c := (by obtain ⟨A, c, h⟩ := Kd.R_slice hN; rw [List.length_append, List.length_map, List.length_singleton] at h; exact ⟨A, c, h⟩)
  subst hv1
  have HN := Aside0.mk hN
  have HG := Aside0.mk hg
  have HC3 : Aside0 (w3.heap[p]? = some (.cells #[.map (some bd), .map (some bn), v] 97 (0, 0))) := Aside0.mk ((hg.block p HPL.out (fun he => HPN.out _ he.symm rfl)).trans HC1.out)
  have HB3 : Aside0 (w3.heap[w.heap.size]? = some (.cells #[.string s, .int .i64 i] 98 (0, 0))) := Aside0.mk ((hg.block w.heap.size (by have := HS.out; omega) (fun he => HBN.out _ he.symm rfl)).trans HBX.out)
  have hx2 := cell_of_blk HC3.out 2 rfl
  have hx0 := cell_of_blk HB3.out 0 rfl
  have hx1 := cell_of_blk HB3.out 1 rfl
  have hz2 := blk_frozen HC3.out 2
  clear hN hB hg hat
  refine hK.out _ _ ⟨hx2, hx0, hx1⟩ (fun hHeld => ?_)
  clear hK K
  refine norm_ (a' := ?_) ?_ ?_
  rotate_left
  · show Act.put _ (some 15) _ = _
    simp only [Act.put, List.setIfInBounds_toArray, List.set_cons_zero, List.set_cons_succ, i64_w, i32_w]
    rfl
  refine pure_ (i := 10) (N := some 16) (v := ?_) (a' := ?_) #[true, true, true, true, true, true, true, true, true, true, true, false, false] rfl rfl (by kernel_rfl) (fun _ _ _ h => h) (Or.inl ⟨by rfl, ?_⟩) ?_ ?_
  rotate_left
  · intro w'
    go_simp
    with_reducible rfl
  rotate_left
  · simp only [Act.put, List.setIfInBounds_toArray, List.set_cons_zero, List.set_cons_succ, i64_w, i32_w]
    rfl
  refine pure_ (i := 11) (N := some 17) (v := ?_) (a' := ?_) #[true, true, true, true, true, true, true, true, true, true, true, true, false] rfl rfl (by kernel_rfl) (fun _ _ _ h => h) (Or.inl ⟨by rfl, ?_⟩) ?_ ?_
  rotate_left
  · intro w'
    go_simp
    with_reducible rfl
  rotate_left
  · simp only [Act.put, List.setIfInBounds_toArray, List.set_cons_zero, List.set_cons_succ, i64_w, i32_w]
    rfl
  refine last_ (i := 12) (N := none) #[true, true, true, true, true, true, true, true, true, true, true, true, true] rfl rfl (by kernel_rfl) (by decide) (fun K hK => ?_)
  refine skip_ (w1 := ?_) (by rfl) rfl ?_ ?_
  rotate_left
  · go_simp
    rfl
  refine hK.out _ _ ?_
  clear hK K
  refine done_ (by kernel_rfl) ?_
  have HNE := Aside0.mk (fun k (hk : (Value.slice A1 (acts.length + 1) c1).ownBlock = some k) => ((Kd.R_types HN.out HC3.out (by intro q hq; simp [Kd.raw] at hq; subst hq; decide)).1 k hk).2)
  have HMN3 := Aside0.mk (HMN.out.step (HG.out.block bn HMN.out.lt (fun he => row_map_ne HR.out HMN.out bn he.symm rfl)))
  have HMD3 := Aside0.mk (HMD.out.step (HG.out.block bd HMD.out.lt (fun he => row_map_ne HR.out HMD.out bd he.symm rfl)))
  have hpn := blk_map_ne HC3.out HMN3.out
  have hpd := blk_map_ne HC3.out HMD3.out
  have HPP := Aside0.mk (And.intro hpn hpd)
  have HC4 := Aside0.mk (blk_set HC3.out 2 (Value.slice A1 (acts.length + 1) c1))
  have HB4 := Aside0.mk (blk_far HB3.out (p := ⟨p, 2, none⟩) (fun he => by have := blk_lt HIN.out.cells; have he : w.heap.size = p := he; omega) (Value.slice A1 (acts.length + 1) c1))
  have HN4 := Aside0.mk (R_own_step rfl HN.out (W := w3.setCell ⟨p, 2, none⟩ (Value.slice A1 (acts.length + 1) c1)) (fun k hk => Below.heap_setCell w3 ⟨p, 2, none⟩ _ k (HNE.out k hk)))
  have HMN4 := Aside0.mk (HMN3.out.step (w' := w3.setCell ⟨p, 2, none⟩ (Value.slice A1 (acts.length + 1) c1)) (Below.heap_setCell w3 ⟨p, 2, none⟩ _ bn (Ne.symm hpn)))
  have HMD4 := Aside0.mk (HMD3.out.step (w' := w3.setCell ⟨p, 2, none⟩ (Value.slice A1 (acts.length + 1) c1)) (Below.heap_setCell w3 ⟨p, 2, none⟩ _ bd (Ne.symm hpd)))
  have HF4 := Aside0.mk (Fr.setCell (p := ⟨p, 2, none⟩) (Fr.of_grown HG.out HF1.out (fun k hk => .inl (HO.out.2.2.2 k (HR.out.1 k hk)))) (.inl HO.out.1) (Value.slice A1 (acts.length + 1) c1))
  clear hp2 hb0 hb1 hx2 hx0 hx1 hz2 hpn hpd
  repeat clear hHeld
  generalize w3.setCell ⟨p, 2, none⟩ (Value.slice A1 (acts.length + 1) c1) = w4 at HC4 HB4 HN4 HMN4 HMD4 HF4 ⊢
  go_upto_region 2 with fail
  have hq1 : w4.drew.cell? ⟨p, 1, none⟩ = some (.map (some bn)) := cell_of_blk HC4.out 1 rfl
  have hb0 : w4.drew.cell? ⟨w.heap.size, 0, none⟩ = some (.string s) := cell_of_blk HB4.out 0 rfl
  have hb1 : w4.drew.cell? ⟨w.heap.size, 1, none⟩ = some (.int .i64 i) := cell_of_blk HB4.out 1 rfl
  have HMX : Aside0 (MapAt w4.drew bn n2 (afterE dur acts)) := Aside0.mk (HMN4.out.step rfl)
  refine start_ (n := 7) (S := fun w' => w'.cell? ⟨p, 1, none⟩ = some (.map (some bn)) ∧ w'.cell? ⟨w.heap.size, 0, none⟩ = some (.string s) ∧ w'.cell? ⟨w.heap.size, 1, none⟩ = some (.int .i64 i)) (ds := [6]) #[false, false, false, false, false, false, false] (by kernel_rfl) rfl rfl ⟨hq1, hb0, hb1⟩ (fun hHeld => ?_)
  refine pure_ (i := 0) (N := some 18) (v := ?_) (a' := ?_) #[true, false, false, false, false, false, false] rfl rfl (by kernel_rfl) (fun _ _ _ h => h) (Or.inl ⟨by rfl, ?_⟩) ?_ ?_
  rotate_left
  · intro w'
    go_simp
    with_reducible rfl
  rotate_left
  · simp only [Act.put, List.setIfInBounds_toArray, List.set_cons_zero, List.set_cons_succ, i64_w, i32_w]
    rfl
  refine pure_ (i := 1) (N := some 19) (v := ?_) (a' := ?_) #[true, true, false, false, false, false, false] rfl rfl (by kernel_rfl) (fun _ _ _ h => h) (Or.inl ⟨by rfl, ?_⟩) ?_ ?_
  rotate_left
  · intro w'
    go_simp
    with_reducible rfl
  rotate_left
  · simp only [Act.put, List.setIfInBounds_toArray, List.set_cons_zero, List.set_cons_succ, i64_w, i32_w]
    rfl
  refine pure_ (i := 2) (N := some 20) (v := ?_) (a' := ?_) #[true, true, true, false, false, false, false] rfl rfl (by kernel_rfl) (fun _ _ _ h => h) (Or.inl ⟨by rfl, ?_⟩) ?_ ?_
  rotate_left
  · intro w'
    go_simp
    with_reducible rfl
  rotate_left
  · simp only [Act.put, List.setIfInBounds_toArray, List.set_cons_zero, List.set_cons_succ, i64_w, i32_w]
    rfl
  refine pure_ (i := 3) (N := some 21) (v := ?_) (a' := ?_) #[true, true, true, true, false, false, false] rfl rfl (by kernel_rfl) (fun _ _ _ h => h) (Or.inl ⟨by rfl, ?_⟩) ?_ ?_
  rotate_left
  · intro w'
    go_simp
    with_reducible rfl
  rotate_left
  · simp only [Act.put, List.setIfInBounds_toArray, List.set_cons_zero, List.set_cons_succ, i64_w, i32_w]
    rfl
  refine take_ (i := 4) (N := some 22) (v := ?_) (a' := ?_) #[true, true, true, true, true, false, false] rfl rfl (by kernel_rfl) (fun _ _ _ h => h) (Or.inl ⟨by rfl, ?_⟩) hHeld ?_ ?_
  rotate_left
  · rintro w' ⟨s0, s1, s2⟩
    go_simp
    with_reducible rfl
  rotate_left
  · simp only [Act.put, List.setIfInBounds_toArray, List.set_cons_zero, List.set_cons_succ, i64_w, i32_w]
    rfl
  refine take_ (i := 5) (N := some 23) (v := ?_) (a' := ?_) #[true, true, true, true, true, true, false] rfl rfl (by kernel_rfl) (fun _ _ _ h => h) (Or.inl ⟨by rfl, ?_⟩) hHeld ?_ ?_
  rotate_left
  · rintro w' ⟨s0, s1, s2⟩
    go_simp
    with_reducible rfl
  rotate_left
  · simp only [Act.put, List.setIfInBounds_toArray, List.set_cons_zero, List.set_cons_succ, i64_w, i32_w]
    rfl
  refine last_ (i := 6) (N := some 24) #[true, true, true, true, true, true, true] rfl rfl (by kernel_rfl) (by decide) (fun K hK => ?_)
  refine goesV_ (.tmp 18) Try.func65 (by kernel_rfl) rfl #[.map (some bn), .agg #[.string s, .int .i64 i]] (by rfl) rfl rfl (by rfl) (by (try simp only [List.map_toArray, List.map_cons, List.map_nil]); first | done | rfl) ?_
  with_reducible refine (add_calls bn n2 (afterE dur acts) s i _ HMX.out HSA.out HNN.out HSL.out HI.out (by have := HLC.out; have := HCC.out; omega)).mono ?_
  rintro e w6 ⟨rfl, hmn, hg⟩
  refine ⟨_, rfl, ?_⟩
  have HMN := Aside0.mk hmn
  have HG6 := Aside0.mk hg
  clear hmn hg
  refine hK.out _ _ ?_
  clear hK K
  refine norm_ (a' := ?_) ?_ ?_
  rotate_left
  · show Act.put _ (some 24) _ = _
    simp only [Act.put, List.setIfInBounds_toArray, List.set_cons_zero, List.set_cons_succ, i64_w, i32_w]
    rfl
  refine done_ (by kernel_rfl) ?_
  go_end0
  have hg6 := HG6.out
  have hpn := HPP.out.1
  refine ⟨rfl, ⟨⟨bd, bn, Value.slice A1 (acts.length + 1) c1, n1, n2 + 1, fun k => okr k ∨ w.heap.size ≤ k, ⟨?_, ?_, ?_, ?_, HIN.out.ne⟩, .inl HO.out.1, .inl HO.out.2.1, .inl HO.out.2.2.1, fun k hk => hk.elim (fun h => .inl (HO.out.2.2.2 k h)) .inr, ?_, ?_⟩, HD.out.srt, ?_, HD.out.fine⟩, ?_⟩
  · exact (hg6.block p (blk_lt HC4.out) (fun he => by injection he with he; exact hpn he)).trans HC4.out
  · exact (HMD4.out.step (w' := w4.drew) rfl).step (hg6.block bd HMD4.out.lt (fun he => by injection he with he; exact HIN.out.ne he))
  · rw [afterE_append]; exact HMN.out
  · rw [List.map_append]
    exact R_own_step rfl HN4.out (fun k hk => hg6.block k (Kd.R_lt HN4.out k hk) (fun he => by injection he with he; subst he; exact row_map_ne HN4.out HMN4.out _ hk rfl))
  · rw [List.length_append, List.length_singleton]; have := HLC.out; omega
  · have := HLC.out; omega
  · exact (VA_append _ _ _).mpr ⟨HD.out.va, HOA.out, trivial⟩
  · exact Fr.of_grown hg6 (Fr.drew HF4.out) (fun k hk => by injection hk with hk; subst hk; exact .inl HO.out.2.2.1)
set_option maxHeartbeats 4000000 in
set_option maxRecDepth 100000 in
theorem act_remove (p : Nat) (ok : Nat → Prop) (dur : List En) (acts : List Ac) (c : Nat) (s : ByteArray) (i : Int) (w : World) (hd : DirAt w p ok dur acts c) (hl : s.size ≤ 200) (hi : Wf i) (hn : (getE (afterE dur acts) s).isSome = true) (hc : c < 100000) :
    Calls Try.prog 63 #[.pointer (some ⟨p, 0, none⟩), .agg #[.string s, .int .i64 i], .func (.func 64) #[] #[]] w fun e w' => e = .returned (.tuple #[]) ∧ DirAt w' p (fun k => ok k ∨ w.heap.size ≤ k) dur (acts ++ [⟨false, ⟨s, i⟩⟩]) (c + 1) ∧ Fr w w' ok := by
  obtain ⟨bd, bn, v, n1, n2, okr, hin, o1, o2, o3, o4, h2, h3⟩ := hd.out
  have hsA := hd.srt.after acts hd.va
  have HOA := Aside0.mk (show OkA (afterE dur acts) ⟨false, ⟨s, i⟩⟩ from ⟨hl, hi, by rw [if_neg (show ¬ (false = true) by decide)]; exact hn⟩)
  have HSA := Aside0.mk hsA
  have HD := Aside0.mk hd
  have HIN := Aside0.mk hin
  have HO := Aside0.mk (And.intro o1 (And.intro o2 (And.intro o3 o4)))
  have HLC := Aside0.mk (And.intro h2 h3)
  have HSL := Aside0.mk hl
  have HI := Aside0.mk hi
  have HNN := Aside0.mk hn
  have HCC := Aside0.mk hc
  have HL := Aside0.mk (show acts.length < 100000 by omega)
  have HM := Aside0.mk (show (Kd.raw 3).M (w.alloc (.cells #[.string s, .int .i64 i] 98)) 0 (fun _ => False) (encA ⟨false, ⟨s, i⟩⟩) [.string s, .int .i64 i, .func (.func 64) #[] #[]] from ⟨rfl, rfl, by intro u hu; simp at hu; rcases hu with rfl | rfl | rfl <;> rfl⟩)
  clear hd hin o1 o2 o3 o4 h2 h3 hl hi hn hc hsA
  go_enter Try.func63, Try.ntmps63
  go_upto_region 1 with fail
  have HR := Aside0.mk (show Kd.R (Kd.raw 3) 106 (w.alloc (.cells #[.string s, .int .i64 i] 98)).drew 0 okr v (acts.map encA) from Kd.R_drew (Kd.R_alloc HIN.out.row _))
  have HC1 := Aside0.mk (show (w.alloc (.cells #[.string s, .int .i64 i] 98)).drew.heap[p]? = some (.cells #[.map (some bd), .map (some bn), v] 97 (0, 0)) from blk_alloc HIN.out.cells _)
  have HBX := Aside0.mk (show (w.alloc (.cells #[.string s, .int .i64 i] 98)).drew.heap[w.heap.size]? = some (.cells #[.string s, .int .i64 i] 98 (0, 0)) from heap_alloc_new w _)
  have HPN := Aside0.mk (fun k (hk : v.ownBlock = some k) => ((Kd.R_types HR.out HC1.out (by intro q hq; simp [Kd.raw] at hq; subst hq; decide)).1 k hk).2)
  have HBN := Aside0.mk (fun k (hk : v.ownBlock = some k) => ((Kd.R_types HR.out HBX.out (by intro q hq; simp [Kd.raw] at hq; subst hq; decide)).1 k hk).2)
  have HMN := Aside0.mk (show MapAt (w.alloc (.cells #[.string s, .int .i64 i] 98)).drew bn n2 (afterE dur acts) from HIN.out.mn.step ((below_alloc (Below.refl _ w) _).block _ HIN.out.mn.lt))
  have HMD := Aside0.mk (show MapAt (w.alloc (.cells #[.string s, .int .i64 i] 98)).drew bd n1 dur from HIN.out.md.step ((below_alloc (Below.refl _ w) _).block _ HIN.out.md.lt))
  have HF1 := Aside0.mk (Fr.alloc (Fr.refl w ok) (.cells #[.string s, .int .i64 i] 98))
  have HS := Aside0.mk (show w.heap.size + 1 = (w.alloc (.cells #[.string s, .int .i64 i] 98)).heap.size by simp only [World.size_alloc])
  generalize w.alloc (.cells #[.string s, .int .i64 i] 98) = w1 at HR HC1 HBX HF1 HS HM HMN HMD ⊢
  have HPL := Aside0.mk (blk_lt HC1.out)
  replace HS : Aside0 (w.heap.size + 1 = w1.drew.heap.size) := HS
  replace HF1 : Aside0 (Fr w w1.drew ok) := HF1
  have hp2 := cell_of_blk HC1.out 2 rfl
  have hb0 := cell_of_blk HBX.out 0 rfl
  have hb1 := cell_of_blk HBX.out 1 rfl
  refine start_ (n := 13) (S := fun w' => w'.cell? ⟨p, 2, none⟩ = some v ∧ w'.cell? ⟨w.heap.size, 0, none⟩ = some (.string s) ∧ w'.cell? ⟨w.heap.size, 1, none⟩ = some (.int .i64 i)) (ds := [12]) #[false, false, false, false, false, false, false, false, false, false, false, false, false] (by kernel_rfl) rfl rfl ⟨hp2, hb0, hb1⟩ (fun hHeld => ?_)
  generalize w1.drew = wd at HR HC1 HBX HF1 HS HPL HMN HMD hp2 hb0 hb1 hHeld ⊢
  refine pure_ (i := 0) (N := some 6) (v := ?_) (a' := ?_) #[true, false, false, false, false, false, false, false, false, false, false, false, false] rfl rfl (by kernel_rfl) (fun _ _ _ h => h) (Or.inl ⟨by rfl, ?_⟩) ?_ ?_
  rotate_left
  · intro w'
    go_simp
    with_reducible rfl
  rotate_left
  · simp only [Act.put, List.setIfInBounds_toArray, List.set_cons_zero, List.set_cons_succ, i64_w, i32_w]
    rfl
  refine pure_ (i := 1) (N := some 7) (v := ?_) (a' := ?_) #[true, true, false, false, false, false, false, false, false, false, false, false, false] rfl rfl (by kernel_rfl) (fun _ _ _ h => h) (Or.inl ⟨by rfl, ?_⟩) ?_ ?_
  rotate_left
  · intro w'
    go_simp
    with_reducible rfl
  rotate_left
  · simp only [Act.put, List.setIfInBounds_toArray, List.set_cons_zero, List.set_cons_succ, i64_w, i32_w]
    rfl
  refine pure_ (i := 2) (N := some 8) (v := ?_) (a' := ?_) #[true, true, true, false, false, false, false, false, false, false, false, false, false] rfl rfl (by kernel_rfl) (fun _ _ _ h => h) (Or.inl ⟨by rfl, ?_⟩) ?_ ?_
  rotate_left
  · intro w'
    go_simp
    with_reducible rfl
  rotate_left
  · simp only [Act.put, List.setIfInBounds_toArray, List.set_cons_zero, List.set_cons_succ, i64_w, i32_w]
    rfl
  refine pure_ (i := 3) (N := some 9) (v := ?_) (a' := ?_) #[true, true, true, true, false, false, false, false, false, false, false, false, false] rfl rfl (by kernel_rfl) (fun _ _ _ h => h) (Or.inl ⟨by rfl, ?_⟩) ?_ ?_
  rotate_left
  · intro w'
    go_simp
    with_reducible rfl
  rotate_left
  · simp only [Act.put, List.setIfInBounds_toArray, List.set_cons_zero, List.set_cons_succ, i64_w, i32_w]
    rfl
  refine pure_ (i := 6) (N := some 12) (v := ?_) (a' := ?_) #[true, true, true, true, false, false, true, false, false, false, false, false, false] rfl rfl (by kernel_rfl) (fun _ _ _ h => h) (Or.inl ⟨by rfl, ?_⟩) ?_ ?_
  rotate_left
  · intro w'
    go_simp
    with_reducible rfl
  rotate_left
  · simp only [Act.put, List.setIfInBounds_toArray, List.set_cons_zero, List.set_cons_succ, i64_w, i32_w]
    rfl
  refine take_ (i := 4) (N := some 10) (v := ?_) (a' := ?_) #[true, true, true, true, true, false, true, false, false, false, false, false, false] rfl rfl (by kernel_rfl) (fun _ _ _ h => h) (Or.inl ⟨by rfl, ?_⟩) hHeld ?_ ?_
  rotate_left
  · rintro w' ⟨s0, s1, s2⟩
    go_simp
    with_reducible rfl
  rotate_left
  · simp only [Act.put, List.setIfInBounds_toArray, List.set_cons_zero, List.set_cons_succ, i64_w, i32_w]
    rfl
  refine take_ (i := 5) (N := some 11) (v := ?_) (a' := ?_) #[true, true, true, true, true, true, true, false, false, false, false, false, false] rfl rfl (by kernel_rfl) (fun _ _ _ h => h) (Or.inl ⟨by rfl, ?_⟩) hHeld ?_ ?_
  rotate_left
  · rintro w' ⟨s0, s1, s2⟩
    go_simp
    with_reducible rfl
  rotate_left
  · simp only [Act.put, List.setIfInBounds_toArray, List.set_cons_zero, List.set_cons_succ, i64_w, i32_w]
    rfl
  refine pure_ (i := 7) (N := some 13) (v := ?_) (a' := ?_) #[true, true, true, true, true, true, true, true, false, false, false, false, false] rfl rfl (by kernel_rfl) (fun _ _ _ h => h) (Or.inl ⟨by rfl, ?_⟩) ?_ ?_
  rotate_left
  · intro w'
    go_simp
    with_reducible rfl
  rotate_left
  · simp only [Act.put, List.setIfInBounds_toArray, List.set_cons_zero, List.set_cons_succ, i64_w, i32_w]
    rfl
  refine one_ (i := 8) (N := some 14) #[true, true, true, true, true, true, true, true, true, false, false, false, false] rfl rfl (by kernel_rfl) (by decide) (fun K hK => ?_)
  refine value_ (w1 := ?_) (v := ?_) (by rfl) rfl ?_ ?_
  rotate_left 2
  · go_simp
    constructor
    · rfl
    · rfl
  refine hK.out _ _ ⟨cell_allocs hp2 _, cell_allocs hb0 _, cell_allocs hb1 _⟩ (fun hHeld => ?_)
  clear hK K
  refine norm_ (a' := ?_) ?_ ?_
  rotate_left
  · show Act.put _ (some 14) _ = _
    simp only [Act.put, List.setIfInBounds_toArray, List.set_cons_zero, List.set_cons_succ, i64_w, i32_w]
    rfl
  refine one_ (i := 9) (N := some 15) #[true, true, true, true, true, true, true, true, true, true, false, false, false] rfl rfl (by kernel_rfl) (by decide) (fun K hK => ?_)
  refine Kd.R_append_step (Kd.raw 3) (w0 := wd) 0 rfl (.tmp 10) (.tmp 14) 95 106 _ 32 rfl Try.underlying95 eInfoAct8 rfl (by decide) (by decide) v (acts.map encA) (encA ⟨false, ⟨s, i⟩⟩) [.string s, .int .i64 i, .func (.func 64) #[] #[]] (fun k => okr k ∨ w.heap.size ≤ k) (fun _ => False) rfl rfl ?n1 (fun _ hk => hk.elim) ?n2 ?n3 ?n4 (Nat.zero_le _) ?n6 ?_
  (case n1 => exact HM.out)
  (case n2 => exact fun k hk => .inr (by have := HS.out; omega))
  (case n3 => exact Kd.R_mono HR.out (fun k hk => Or.inl hk))
  (case n4 => exact Below.refl 0 _)
  (case n6 => have := HL.out; rw [List.length_map]; omega)
  intro v1 w3 hN hB hg hat
  obtain ⟨A1, c1, hv1⟩ : ∃ A c, v1 = Value.slice A (acts.length + 1) c := (by obtain ⟨A, c, h⟩ := Kd.R_slice hN; rw [List.length_append, List.length_map, List.length_singleton] at h; exact ⟨A, c, h⟩)
  subst hv1
  have HN := Aside0.mk hN
  have HG := Aside0.mk hg
  have HC3 : Aside0 (w3.heap[p]? = some (.cells #[.map (some bd), .map (some bn), v] 97 (0, 0))) := Aside0.mk ((hg.block p HPL.out (fun he => HPN.out _ he.symm rfl)).trans HC1.out)
  have HB3 : Aside0 (w3.heap[w.heap.size]? = some (.cells #[.string s, .int .i64 i] 98 (0, 0))) := Aside0.mk ((hg.block w.heap.size (by have := HS.out; omega) (fun he => HBN.out _ he.symm rfl)).trans HBX.out)
  have hx2 := cell_of_blk HC3.out 2 rfl
  have hx0 := cell_of_blk HB3.out 0 rfl
  have hx1 := cell_of_blk HB3.out 1 rfl
  have hz2 := blk_frozen HC3.out 2
  clear hN hB hg hat
  refine hK.out _ _ ⟨hx2, hx0, hx1⟩ (fun hHeld => ?_)
  clear hK K
  refine norm_ (a' := ?_) ?_ ?_
  rotate_left
  · show Act.put _ (some 15) _ = _
    simp only [Act.put, List.setIfInBounds_toArray, List.set_cons_zero, List.set_cons_succ, i64_w, i32_w]
    rfl
  refine pure_ (i := 10) (N := some 16) (v := ?_) (a' := ?_) #[true, true, true, true, true, true, true, true, true, true, true, false, false] rfl rfl (by kernel_rfl) (fun _ _ _ h => h) (Or.inl ⟨by rfl, ?_⟩) ?_ ?_
  rotate_left
  · intro w'
    go_simp
    with_reducible rfl
  rotate_left
  · simp only [Act.put, List.setIfInBounds_toArray, List.set_cons_zero, List.set_cons_succ, i64_w, i32_w]
    rfl
  refine pure_ (i := 11) (N := some 17) (v := ?_) (a' := ?_) #[true, true, true, true, true, true, true, true, true, true, true, true, false] rfl rfl (by kernel_rfl) (fun _ _ _ h => h) (Or.inl ⟨by rfl, ?_⟩) ?_ ?_
  rotate_left
  · intro w'
    go_simp
    with_reducible rfl
  rotate_left
  · simp only [Act.put, List.setIfInBounds_toArray, List.set_cons_zero, List.set_cons_succ, i64_w, i32_w]
    rfl
  refine last_ (i := 12) (N := none) #[true, true, true, true, true, true, true, true, true, true, true, true, true] rfl rfl (by kernel_rfl) (by decide) (fun K hK => ?_)
  refine skip_ (w1 := ?_) (by rfl) rfl ?_ ?_
  rotate_left
  · go_simp
    rfl
  refine hK.out _ _ ?_
  clear hK K
  refine done_ (by kernel_rfl) ?_
  have HNE := Aside0.mk (fun k (hk : (Value.slice A1 (acts.length + 1) c1).ownBlock = some k) => ((Kd.R_types HN.out HC3.out (by intro q hq; simp [Kd.raw] at hq; subst hq; decide)).1 k hk).2)
  have HMN3 := Aside0.mk (HMN.out.step (HG.out.block bn HMN.out.lt (fun he => row_map_ne HR.out HMN.out bn he.symm rfl)))
  have HMD3 := Aside0.mk (HMD.out.step (HG.out.block bd HMD.out.lt (fun he => row_map_ne HR.out HMD.out bd he.symm rfl)))
  have hpn := blk_map_ne HC3.out HMN3.out
  have hpd := blk_map_ne HC3.out HMD3.out
  have HPP := Aside0.mk (And.intro hpn hpd)
  have HC4 := Aside0.mk (blk_set HC3.out 2 (Value.slice A1 (acts.length + 1) c1))
  have HB4 := Aside0.mk (blk_far HB3.out (p := ⟨p, 2, none⟩) (fun he => by have := blk_lt HIN.out.cells; have he : w.heap.size = p := he; omega) (Value.slice A1 (acts.length + 1) c1))
  have HN4 := Aside0.mk (R_own_step rfl HN.out (W := w3.setCell ⟨p, 2, none⟩ (Value.slice A1 (acts.length + 1) c1)) (fun k hk => Below.heap_setCell w3 ⟨p, 2, none⟩ _ k (HNE.out k hk)))
  have HMN4 := Aside0.mk (HMN3.out.step (w' := w3.setCell ⟨p, 2, none⟩ (Value.slice A1 (acts.length + 1) c1)) (Below.heap_setCell w3 ⟨p, 2, none⟩ _ bn (Ne.symm hpn)))
  have HMD4 := Aside0.mk (HMD3.out.step (w' := w3.setCell ⟨p, 2, none⟩ (Value.slice A1 (acts.length + 1) c1)) (Below.heap_setCell w3 ⟨p, 2, none⟩ _ bd (Ne.symm hpd)))
  have HF4 := Aside0.mk (Fr.setCell (p := ⟨p, 2, none⟩) (Fr.of_grown HG.out HF1.out (fun k hk => .inl (HO.out.2.2.2 k (HR.out.1 k hk)))) (.inl HO.out.1) (Value.slice A1 (acts.length + 1) c1))
  clear hp2 hb0 hb1 hx2 hx0 hx1 hz2 hpn hpd
  repeat clear hHeld
  generalize w3.setCell ⟨p, 2, none⟩ (Value.slice A1 (acts.length + 1) c1) = w4 at HC4 HB4 HN4 HMN4 HMD4 HF4 ⊢
  go_upto_region 2 with fail
  have hq1 : w4.drew.cell? ⟨p, 1, none⟩ = some (.map (some bn)) := cell_of_blk HC4.out 1 rfl
  have hb0 : w4.drew.cell? ⟨w.heap.size, 0, none⟩ = some (.string s) := cell_of_blk HB4.out 0 rfl
  have hb1 : w4.drew.cell? ⟨w.heap.size, 1, none⟩ = some (.int .i64 i) := cell_of_blk HB4.out 1 rfl
  have HMX : Aside0 (MapAt w4.drew bn n2 (afterE dur acts)) := Aside0.mk (HMN4.out.step rfl)
  refine start_ (n := 7) (S := fun w' => w'.cell? ⟨p, 1, none⟩ = some (.map (some bn)) ∧ w'.cell? ⟨w.heap.size, 0, none⟩ = some (.string s) ∧ w'.cell? ⟨w.heap.size, 1, none⟩ = some (.int .i64 i)) (ds := [6]) #[false, false, false, false, false, false, false] (by kernel_rfl) rfl rfl ⟨hq1, hb0, hb1⟩ (fun hHeld => ?_)
  refine pure_ (i := 0) (N := some 18) (v := ?_) (a' := ?_) #[true, false, false, false, false, false, false] rfl rfl (by kernel_rfl) (fun _ _ _ h => h) (Or.inl ⟨by rfl, ?_⟩) ?_ ?_
  rotate_left
  · intro w'
    go_simp
    with_reducible rfl
  rotate_left
  · simp only [Act.put, List.setIfInBounds_toArray, List.set_cons_zero, List.set_cons_succ, i64_w, i32_w]
    rfl
  refine pure_ (i := 1) (N := some 19) (v := ?_) (a' := ?_) #[true, true, false, false, false, false, false] rfl rfl (by kernel_rfl) (fun _ _ _ h => h) (Or.inl ⟨by rfl, ?_⟩) ?_ ?_
  rotate_left
  · intro w'
    go_simp
    with_reducible rfl
  rotate_left
  · simp only [Act.put, List.setIfInBounds_toArray, List.set_cons_zero, List.set_cons_succ, i64_w, i32_w]
    rfl
  refine pure_ (i := 2) (N := some 20) (v := ?_) (a' := ?_) #[true, true, true, false, false, false, false] rfl rfl (by kernel_rfl) (fun _ _ _ h => h) (Or.inl ⟨by rfl, ?_⟩) ?_ ?_
  rotate_left
  · intro w'
    go_simp
    with_reducible rfl
  rotate_left
  · simp only [Act.put, List.setIfInBounds_toArray, List.set_cons_zero, List.set_cons_succ, i64_w, i32_w]
    rfl
  refine pure_ (i := 3) (N := some 21) (v := ?_) (a' := ?_) #[true, true, true, true, false, false, false] rfl rfl (by kernel_rfl) (fun _ _ _ h => h) (Or.inl ⟨by rfl, ?_⟩) ?_ ?_
  rotate_left
  · intro w'
    go_simp
    with_reducible rfl
  rotate_left
  · simp only [Act.put, List.setIfInBounds_toArray, List.set_cons_zero, List.set_cons_succ, i64_w, i32_w]
    rfl
  refine take_ (i := 4) (N := some 22) (v := ?_) (a' := ?_) #[true, true, true, true, true, false, false] rfl rfl (by kernel_rfl) (fun _ _ _ h => h) (Or.inl ⟨by rfl, ?_⟩) hHeld ?_ ?_
  rotate_left
  · rintro w' ⟨s0, s1, s2⟩
    go_simp
    with_reducible rfl
  rotate_left
  · simp only [Act.put, List.setIfInBounds_toArray, List.set_cons_zero, List.set_cons_succ, i64_w, i32_w]
    rfl
  refine take_ (i := 5) (N := some 23) (v := ?_) (a' := ?_) #[true, true, true, true, true, true, false] rfl rfl (by kernel_rfl) (fun _ _ _ h => h) (Or.inl ⟨by rfl, ?_⟩) hHeld ?_ ?_
  rotate_left
  · rintro w' ⟨s0, s1, s2⟩
    go_simp
    with_reducible rfl
  rotate_left
  · simp only [Act.put, List.setIfInBounds_toArray, List.set_cons_zero, List.set_cons_succ, i64_w, i32_w]
    rfl
  refine last_ (i := 6) (N := some 24) #[true, true, true, true, true, true, true] rfl rfl (by kernel_rfl) (by decide) (fun K hK => ?_)
  refine goesV_ (.tmp 18) Try.func64 (by kernel_rfl) rfl #[.map (some bn), .agg #[.string s, .int .i64 i]] (by rfl) rfl rfl (by rfl) (by (try simp only [List.map_toArray, List.map_cons, List.map_nil]); first | done | rfl) ?_
  with_reducible refine (remove_calls bn n2 (afterE dur acts) s i _ HMX.out HSA.out HSL.out).mono ?_
  rintro e w6 ⟨rfl, hmn, hg⟩
  refine ⟨_, rfl, ?_⟩
  have HMN := Aside0.mk hmn
  have HG6 := Aside0.mk hg
  clear hmn hg
  refine hK.out _ _ ?_
  clear hK K
  refine norm_ (a' := ?_) ?_ ?_
  rotate_left
  · show Act.put _ (some 24) _ = _
    simp only [Act.put, List.setIfInBounds_toArray, List.set_cons_zero, List.set_cons_succ, i64_w, i32_w]
    rfl
  refine done_ (by kernel_rfl) ?_
  go_end0
  have hg6 := HG6.out
  have hpn := HPP.out.1
  refine ⟨rfl, ⟨⟨bd, bn, Value.slice A1 (acts.length + 1) c1, n1, n2, fun k => okr k ∨ w.heap.size ≤ k, ⟨?_, ?_, ?_, ?_, HIN.out.ne⟩, .inl HO.out.1, .inl HO.out.2.1, .inl HO.out.2.2.1, fun k hk => hk.elim (fun h => .inl (HO.out.2.2.2 k h)) .inr, ?_, ?_⟩, HD.out.srt, ?_, HD.out.fine⟩, ?_⟩
  · exact (hg6.block p (blk_lt HC4.out) (fun he => by injection he with he; exact hpn he)).trans HC4.out
  · exact (HMD4.out.step (w' := w4.drew) rfl).step (hg6.block bd HMD4.out.lt (fun he => by injection he with he; exact HIN.out.ne he))
  · rw [afterE_append]; exact HMN.out
  · rw [List.map_append]
    exact R_own_step rfl HN4.out (fun k hk => hg6.block k (Kd.R_lt HN4.out k hk) (fun he => by injection he with he; subst he; exact row_map_ne HN4.out HMN4.out _ hk rfl))
  · rw [List.length_append, List.length_singleton]; have := HLC.out; omega
  · have := HLC.out; omega
  · exact (VA_append _ _ _).mpr ⟨HD.out.va, HOA.out, trivial⟩
  · exact Fr.of_grown hg6 (Fr.drew HF4.out) (fun k hk => by injection hk with hk; subst hk; exact .inl HO.out.2.2.1)
end Go.Proofs.Ytbpnbhccdpobpaa
