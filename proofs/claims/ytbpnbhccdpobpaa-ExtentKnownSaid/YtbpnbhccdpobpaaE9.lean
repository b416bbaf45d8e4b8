import Derived.Test.YtbpnbhccdpobpaaE8
/-! The reference's Fail. -/
set_option linter.unusedVariables false
set_option linter.unusedSimpArgs false
namespace Go.Proofs.Ytbpnbhccdpobpaa
open Go.RowKit Go.Proofs.YtbpnbhccdpobpaaW.PrintWords PExtentKnown

theorem eInfoRPart : (Try.prog.info? 85).map (fun i => (i.zero, i.size, i.bytes)) = some (some (.agg #[(.slice none 0 0), (.bool false)]), 2, 32) := by kernel_rfl
theorem eInfoBool : (Try.prog.info? 4).map (fun i => (i.zero, i.size, i.bytes)) = some (some (.bool false), 1, 1) := by kernel_rfl
def fromR (p : S85) : S52 := ⟨p.f0, p.f1⟩
def failR (f : List S85) (keep : List Bool) : List S85 := (failOf ((tidyR f).map fromR) keep).map toR
theorem tidyR_snoc (l : List S85) (p : S85) : tidyR (l ++ [p]) = if p.f0.length = 0 then tidyR l else tidyR l ++ [p] := by
  unfold tidyR; rw [List.filter_append]
  by_cases h : p.f0.length = 0 <;> simp [h]
theorem tidyR_all (l : List S85) (h : ∀ p ∈ l, ¬ p.f0.length = 0) : tidyR l = l := by
  unfold tidyR; rw [List.filter_eq_self]; intro p hp; simpa using h p hp
structure FRel (w : World) (P : Nat → Prop) (A : Option Addr) (c : Nat) (f : List S85) (keep : List Bool) (T : List S85) (kc last : Nat) (v5 v6 : Value) (wr : World) : Prop where
  blk : wr.heap[w.heap.size]? = some (.cells #[.slice A f.length c] 34 (0, 0))
  res : wr.heap[w.heap.size + 1]? = some (.cells #[.slice none 0 0] 34 (0, 0))
  fr : Fr w wr (fun _ => False)
  parts : Kd.N k85 85 wr w.heap.size (fun k => (P k ∨ w.heap.size ≤ k) ∧ some k ≠ v6.ownBlock) v5 T
  stays : Kd.bool.R 4 wr w.heap.size (fun k => w.heap.size ≤ k) v6 (staysOf (T.map fromR) keep)
  rest : restOf (T.map fromR) keep = keep.drop kc
  last_ : last = upTo (staysOf (T.map fromR) keep)
theorem FRel.world {w W : World} {P : Nat → Prop} {A : Option Addr} {c : Nat} {f : List S85} {keep : List Bool} {T : List S85} {kc last : Nat} {v5 v6 : Value} {wr : World} (h : FRel w P A c f keep T kc last v5 v6 wr) (hb : Below wr.heap.size wr W) : FRel w P A c f keep T kc last v5 v6 W :=
  ⟨blk_below h.blk hb, blk_below h.res hb, h.fr.then_below hb, Kd.N_below h.parts hb, Kd.R_below h.stays hb, h.rest, h.last_⟩
/-- One part more, behind the two appends. -/
theorem FRel.more {w W2 : World} {P : Nat → Prop} {A : Option Addr} {c : Nat} {f : List S85} {keep : List Bool} {T : List S85} {kc last : Nat} {v5 v6 v5' v6' : Value} {wr : World} (h : FRel w P A c f keep T kc last v5 v6 wr) (p : S85) (b : Bool) (kc' last' : Nat)
    (hb : b = stayOf p.f1 (keep.drop kc)) (hk : keep.drop kc' = nextOf p.f1 (keep.drop kc)) (hl : last' = if b then T.length + 1 else last)
    (hblk : W2.heap[w.heap.size]? = some (.cells #[.slice A f.length c] 34 (0, 0))) (hres : W2.heap[w.heap.size + 1]? = some (.cells #[.slice none 0 0] 34 (0, 0))) (hfr : Fr w W2 (fun _ => False))
    (hp : Kd.N k85 85 W2 w.heap.size (fun k => (P k ∨ w.heap.size ≤ k) ∧ some k ≠ v6'.ownBlock) v5' (T ++ [p])) (hs : Kd.bool.R 4 W2 w.heap.size (fun k => w.heap.size ≤ k) v6' (staysOf (T.map fromR) keep ++ [b])) :
    FRel w P A c f keep (T ++ [p]) kc' last' v5' v6' W2 := by
  have hm : (T ++ [p]).map fromR = T.map fromR ++ [fromR p] := by rw [List.map_append]; rfl
  have hst : staysOf ((T ++ [p]).map fromR) keep = staysOf (T.map fromR) keep ++ [b] := by rw [hm, staysOf_snoc, h.rest, hb]; rfl
  refine ⟨hblk, hres, hfr, hp, by rw [hst]; exact hs, by rw [hm, restOf_snoc, h.rest, hk]; rfl, ?_⟩
  rw [hst, upTo_snoc, hl, staysOf_length, List.length_map, h.last_]

set_option maxHeartbeats 2000000 in
set_option maxRecDepth 100000 in
theorem rfail_calls (P : Nat → Prop) (A : Option Addr) (c : Nat) (f : List S85) (Ak : Option Addr) (ck : Nat) (keep : List Bool) (w : World) (hF : Kd.V k85 85 w w.heap.size P (.slice A f.length c) f) (hk : Kd.bool.C w Ak keep.length keep) (hck : keep.length ≤ ck) (hf : Few f) (hkl : keep.length ≤ 1000000) :
    Calls Try.prog 20 #[.agg #[.slice A f.length c], .slice Ak keep.length ck] w fun e w' => ∃ A' c', e = .returned (.agg #[.slice A' (failR f keep).length c']) ∧ (failR f keep).length ≤ c' ∧ Kd.F k85 w' (fun k => P k ∨ w.heap.size ≤ k) A' (failR f keep).length (failR f keep) ∧ Below w.heap.size w w' := by
  obtain ⟨A', c', he, hfc, hFF⟩ := hF
  injection he with h1 h2 h3
  subst h1; subst h3
  have HFF := Aside0.mk (Kd.F_bound hFF)
  have HKK := Aside0.mk (Kd.F_bound (Kd.C_F Kd.heap_bool hk))
  have hfl := hf.len
  have HFE := Aside0.mk hf.each
  clear h2 hFF hk hf
  go_enter Try.func20, Try.ntmps20
  go_wp2
  go_loopg [5, 6, 7, 8, 9] f.length (fun gg v5 v6 v7 v8 v9 wr => ∃ (i kc last : Nat), i ≤ f.length ∧ f.length - i ≤ gg ∧ kc ≤ i ∧ last ≤ i ∧ v7 = .int .i64 kc ∧ v8 = .int .i64 last ∧ v9 = .int .i64 i ∧ FRel w P A c f keep (tidyR (f.take i)) kc last v5 v6 wr)
  case atStart => exact ⟨0, 0, 0, Nat.zero_le _, by omega, Nat.le_refl _, Nat.le_refl _, rfl, rfl, rfl, blk_alloc (blk_new _ _) _, by have h := blk_new (w.alloc (.cells #[.slice A f.length c] 34 (0, 0))) (.cells #[.slice none 0 0] 34 (0, 0)); rwa [World.size_alloc] at h, Fr.alloc (Fr.alloc (Fr.refl _ _) _) _, Kd.N_nil _ _ _ _ _, Kd.R_nil _ _ _ _ _, rfl, rfl⟩
  case round =>
    obtain ⟨i, kc, last, hi, hgg, hkc, hlast, rfl, rfl, rfl, hR⟩ := hrel
    have HR := Aside0.mk hR
    clear hR
    have hcell := blk_cell HR.out.blk 0
    simp at hcell
    by_cases hlt : i < f.length
    · have hx := HFE.out _ (List.getElem_mem hlt)
      obtain ⟨ad, cc0, cc1, rfl, hc0, hc1, hfk, hok⟩ := F_at2 (Kd.F_kept HFF.out HR.out.fr.kept (fun _ _ h => h)) rfl i hlt
      obtain ⟨A0, c0, he, hl0, hF0⟩ := k85_openF hfk
      injection he with he0 he
      injection he with he1 _
      subst he0; subst he1
      have htk : f.take (i + 1) = f.take i ++ [f[i]] := List.take_succ_eq_append_getElem hlt
      generalize f[i] = x at hx hc0 hc1 hfk hl0 hF0 htk
      have HTK := Aside0.mk htk
      have HFK := Aside0.mk hfk
      clear htk hfk hF0
      by_cases hz : x.f0.length = 0
      · have hzb : ((x.f0.length : Int) == 0) = true := by rw [beq_iff_eq]; omega
        have HZ := Aside0.mk hz
        clear hz
        go_wp2
        go_roundg (f.length - (i + 1))
        case measure => omega
        case rel =>
          refine ⟨i + 1, kc, last, by omega, Nat.le_refl _, by omega, by omega, rfl, rfl, by go_num, ?_⟩
          rw [HTK.out, tidyR_snoc, if_pos HZ.out]
          exact HR.out.world (below_alloc (Below.refl _ _) _)
      · have hzb : ((x.f0.length : Int) == 0) = false := by rw [beq_eq_false_iff_ne]; omega
        have HZ := Aside0.mk hz
        clear hz
        go_upto_region 8 with (fail)
        have hbx := blk_new wr (.cells #[.slice A0 x.f0.length c0, .bool x.f1] 85)
        have hR1 := HR.out.world (below_alloc (Below.refl _ _) (.cells #[.slice A0 x.f0.length c0, .bool x.f1] 85))
        have hfk1 := Kd.FK_below HFK.out (below_alloc (Below.refl _ _) (.cells #[.slice A0 x.f0.length c0, .bool x.f1] 85))
        generalize wr.alloc (.cells #[.slice A0 x.f0.length c0, .bool x.f1] 85) = W1 at hbx hR1 hfk1 ⊢
        have hx0 := blk_cell hbx 0
        have hx1 := blk_cell hbx 1
        simp at hx0 hx1
        have HR1 := Aside0.mk hR1
        have HFK1 := Aside0.mk hfk1
        clear hR1 hfk1 hbx HR HFK hc0 hc1
        cases hd : x.f1 with
        | true =>
          rw [hd] at HFK1 hx1
          have HD := Aside0.mk hd
          clear hd
          go_wp2_with (first
            | ((with_reducible refine gate_builtin (b := .append) (xs := #[.tmp 48, .tmp 50]) rfl ?_); go_must ((refine Kd.N_append k85 (w0 := w) w.heap.size rfl (.tmp 48) (.tmp 50) 32 85 _ 32 rfl Try.underlying32 eInfoRPart rfl (by decide) (by decide) u5 (tidyR (f.take i)) x [.slice A0 x.f0.length c0, .bool true] (fun k => (P k ∨ w.heap.size ≤ k) ∧ some k ≠ u6.ownBlock) (fun k => P k ∧ k < w.heap.size) rfl rfl HFK1.out (fun k hk => ⟨⟨.inl hk.1, fun he => by have := Kd.R_base HR1.out.stays k he.symm; have := hk.2; omega⟩, fun he => by have := Kd.N_base HR1.out.parts k he.symm; have := hk.2; omega⟩) (fun k hk => ⟨.inr (by have := HR1.out.fr.1; omega), fun he => by have := Kd.R_lt HR1.out.stays k he.symm; omega⟩) HR1.out.parts (Fr.below HR1.out.fr (fun _ h => h.elim)) HR1.out.fr.1 (by have := tidyR_length (f.take i); rw [List.length_take] at this; omega) ?_); intro v5 w3 hN hB hg hat; obtain ⟨A5, c5, rfl⟩ := Kd.N_slice hN; have HN3 := Aside0.mk hN; have HB3 := Aside0.mk hB; have HS3 := Aside0.mk (R_own_step rfl HR1.out.stays (fun k hk => hg.block k (Kd.R_lt HR1.out.stays k hk) (fun he => (HR1.out.parts.1 k he.symm).2 hk.symm))); have HX3 := Aside0.mk ((hg.block _ (blk_lt HR1.out.blk) (Kd.N_ne HR1.out.parts HR1.out.blk (by decide))).trans HR1.out.blk); have HY3 := Aside0.mk ((hg.block _ (blk_lt HR1.out.res) (Kd.N_ne HR1.out.parts HR1.out.res (by decide))).trans HR1.out.res); clear hN hB hg hat))
            | ((with_reducible refine gate_builtin (b := .append) (xs := #[.tmp 52, .tmp 54]) rfl ?_); go_must ((refine Kd.R_append Kd.bool (w0 := w) w.heap.size rfl (.tmp 52) (.tmp 54) 38 4 _ 1 rfl Try.underlying38 eInfoBool rfl (by decide) (by decide) u6 (staysOf ((tidyR (f.take i)).map fromR) keep) true [.bool true] (fun k => w.heap.size ≤ k) (fun k => False) rfl rfl rfl (fun k hk => hk.elim) (fun k hk => by have := HB3.out.size; omega) HS3.out HB3.out HB3.out.size (by rw [staysOf_length, List.length_map]; have := tidyR_length (f.take i); rw [List.length_take] at this; omega) ?_); intro v6 w4 hN hB hg hat; obtain ⟨A6, c6, rfl⟩ := Kd.R_slice hN; have HS4 := Aside0.mk hN; have HB4 := Aside0.mk hB; have HN4 := Aside0.mk (Kd.N_after HN3.out hg hat); have HX4 := Aside0.mk ((hg.block _ (blk_lt HX3.out) (Kd.R_ne HS3.out HX3.out (by decide))).trans HX3.out); have HY4 := Aside0.mk ((hg.block _ (blk_lt HY3.out) (Kd.R_ne HS3.out HY3.out (by decide))).trans HY3.out); clear hN hB hg hat)))
          go_roundg (f.length - (i + 1))
          case measure => omega
          case rel =>
            have htl := tidyR_length (f.take i)
            rw [List.length_take] at htl
            refine ⟨i + 1, kc, (tidyR (f.take i)).length + 1, by omega, Nat.le_refl _, by omega, by omega, by go_num, ?_, by go_num, ?_⟩
            · go_num
            rw [HTK.out, tidyR_snoc, if_neg HZ.out]
            have hN4 := HN4.out
            have hS4 := HS4.out
            simp only [List.length_append, List.length_singleton] at hN4 hS4
            exact HR1.out.more x true (kc) ((tidyR (f.take i)).length + 1) (by rw [HD.out]; rfl) (by rw [HD.out]; rfl) rfl HX4.out HY4.out (Fr.of_below HB4.out _) hN4 hS4
        | false =>
          rw [hd] at HFK1 hx1
          have HD := Aside0.mk hd
          clear hd
          by_cases hkk : kc < keep.length
          · have hkb : decide ((kc : Int) < (keep.length : Int)) = true := decide_eq_true (by omega)
            have hdr : keep.drop kc = keep[kc] :: keep.drop (kc + 1) := List.drop_eq_getElem_cons hkk
            obtain ⟨adk, hAk, hck0, -⟩ := F_get1 Value.bool (Kd.F_kept HKK.out HR1.out.fr.kept (fun _ _ h => h)) kc hkk
            subst hAk
            generalize keep[kc] = b at hck0 hdr
            have HDR := Aside0.mk hdr
            clear hdr
            cases b with
            | true =>
              go_wp2_with (first
                | ((with_reducible refine gate_builtin (b := .append) (xs := #[.tmp 48, .tmp 50]) rfl ?_); go_must ((refine Kd.N_append k85 (w0 := w) w.heap.size rfl (.tmp 48) (.tmp 50) 32 85 _ 32 rfl Try.underlying32 eInfoRPart rfl (by decide) (by decide) u5 (tidyR (f.take i)) x [.slice A0 x.f0.length c0, .bool false] (fun k => (P k ∨ w.heap.size ≤ k) ∧ some k ≠ u6.ownBlock) (fun k => P k ∧ k < w.heap.size) rfl rfl HFK1.out (fun k hk => ⟨⟨.inl hk.1, fun he => by have := Kd.R_base HR1.out.stays k he.symm; have := hk.2; omega⟩, fun he => by have := Kd.N_base HR1.out.parts k he.symm; have := hk.2; omega⟩) (fun k hk => ⟨.inr (by have := HR1.out.fr.1; omega), fun he => by have := Kd.R_lt HR1.out.stays k he.symm; omega⟩) HR1.out.parts (Fr.below HR1.out.fr (fun _ h => h.elim)) HR1.out.fr.1 (by have := tidyR_length (f.take i); rw [List.length_take] at this; omega) ?_); intro v5 w3 hN hB hg hat; obtain ⟨A5, c5, rfl⟩ := Kd.N_slice hN; have HN3 := Aside0.mk hN; have HB3 := Aside0.mk hB; have HS3 := Aside0.mk (R_own_step rfl HR1.out.stays (fun k hk => hg.block k (Kd.R_lt HR1.out.stays k hk) (fun he => (HR1.out.parts.1 k he.symm).2 hk.symm))); have HX3 := Aside0.mk ((hg.block _ (blk_lt HR1.out.blk) (Kd.N_ne HR1.out.parts HR1.out.blk (by decide))).trans HR1.out.blk); have HY3 := Aside0.mk ((hg.block _ (blk_lt HR1.out.res) (Kd.N_ne HR1.out.parts HR1.out.res (by decide))).trans HR1.out.res); clear hN hB hg hat))
                | ((with_reducible refine gate_builtin (b := .append) (xs := #[.tmp 52, .tmp 54]) rfl ?_); go_must ((refine Kd.R_append Kd.bool (w0 := w) w.heap.size rfl (.tmp 52) (.tmp 54) 38 4 _ 1 rfl Try.underlying38 eInfoBool rfl (by decide) (by decide) u6 (staysOf ((tidyR (f.take i)).map fromR) keep) true [.bool true] (fun k => w.heap.size ≤ k) (fun k => False) rfl rfl rfl (fun k hk => hk.elim) (fun k hk => by have := HB3.out.size; omega) HS3.out HB3.out HB3.out.size (by rw [staysOf_length, List.length_map]; have := tidyR_length (f.take i); rw [List.length_take] at this; omega) ?_); intro v6 w4 hN hB hg hat; obtain ⟨A6, c6, rfl⟩ := Kd.R_slice hN; have HS4 := Aside0.mk hN; have HB4 := Aside0.mk hB; have HN4 := Aside0.mk (Kd.N_after HN3.out hg hat); have HX4 := Aside0.mk ((hg.block _ (blk_lt HX3.out) (Kd.R_ne HS3.out HX3.out (by decide))).trans HX3.out); have HY4 := Aside0.mk ((hg.block _ (blk_lt HY3.out) (Kd.R_ne HS3.out HY3.out (by decide))).trans HY3.out); clear hN hB hg hat)))
              go_roundg (f.length - (i + 1))
              case measure => omega
              case rel =>
                have htl := tidyR_length (f.take i)
                rw [List.length_take] at htl
                refine ⟨i + 1, kc + 1, (tidyR (f.take i)).length + 1, by omega, Nat.le_refl _, by omega, by omega, by go_num, ?_, by go_num, ?_⟩
                · go_num
                rw [HTK.out, tidyR_snoc, if_neg HZ.out]
                have hN4 := HN4.out
                have hS4 := HS4.out
                simp only [List.length_append, List.length_singleton] at hN4 hS4
                exact HR1.out.more x true (kc + 1) ((tidyR (f.take i)).length + 1) (by rw [HD.out, HDR.out]; rfl) (by rw [HD.out, HDR.out]; rfl) rfl HX4.out HY4.out (Fr.of_below HB4.out _) hN4 hS4
            | false =>
              go_wp2_with (first
                | ((with_reducible refine gate_builtin (b := .append) (xs := #[.tmp 48, .tmp 50]) rfl ?_); go_must ((refine Kd.N_append k85 (w0 := w) w.heap.size rfl (.tmp 48) (.tmp 50) 32 85 _ 32 rfl Try.underlying32 eInfoRPart rfl (by decide) (by decide) u5 (tidyR (f.take i)) x [.slice A0 x.f0.length c0, .bool false] (fun k => (P k ∨ w.heap.size ≤ k) ∧ some k ≠ u6.ownBlock) (fun k => P k ∧ k < w.heap.size) rfl rfl HFK1.out (fun k hk => ⟨⟨.inl hk.1, fun he => by have := Kd.R_base HR1.out.stays k he.symm; have := hk.2; omega⟩, fun he => by have := Kd.N_base HR1.out.parts k he.symm; have := hk.2; omega⟩) (fun k hk => ⟨.inr (by have := HR1.out.fr.1; omega), fun he => by have := Kd.R_lt HR1.out.stays k he.symm; omega⟩) HR1.out.parts (Fr.below HR1.out.fr (fun _ h => h.elim)) HR1.out.fr.1 (by have := tidyR_length (f.take i); rw [List.length_take] at this; omega) ?_); intro v5 w3 hN hB hg hat; obtain ⟨A5, c5, rfl⟩ := Kd.N_slice hN; have HN3 := Aside0.mk hN; have HB3 := Aside0.mk hB; have HS3 := Aside0.mk (R_own_step rfl HR1.out.stays (fun k hk => hg.block k (Kd.R_lt HR1.out.stays k hk) (fun he => (HR1.out.parts.1 k he.symm).2 hk.symm))); have HX3 := Aside0.mk ((hg.block _ (blk_lt HR1.out.blk) (Kd.N_ne HR1.out.parts HR1.out.blk (by decide))).trans HR1.out.blk); have HY3 := Aside0.mk ((hg.block _ (blk_lt HR1.out.res) (Kd.N_ne HR1.out.parts HR1.out.res (by decide))).trans HR1.out.res); clear hN hB hg hat))
                | ((with_reducible refine gate_builtin (b := .append) (xs := #[.tmp 52, .tmp 54]) rfl ?_); go_must ((refine Kd.R_append Kd.bool (w0 := w) w.heap.size rfl (.tmp 52) (.tmp 54) 38 4 _ 1 rfl Try.underlying38 eInfoBool rfl (by decide) (by decide) u6 (staysOf ((tidyR (f.take i)).map fromR) keep) false [.bool false] (fun k => w.heap.size ≤ k) (fun k => False) rfl rfl rfl (fun k hk => hk.elim) (fun k hk => by have := HB3.out.size; omega) HS3.out HB3.out HB3.out.size (by rw [staysOf_length, List.length_map]; have := tidyR_length (f.take i); rw [List.length_take] at this; omega) ?_); intro v6 w4 hN hB hg hat; obtain ⟨A6, c6, rfl⟩ := Kd.R_slice hN; have HS4 := Aside0.mk hN; have HB4 := Aside0.mk hB; have HN4 := Aside0.mk (Kd.N_after HN3.out hg hat); have HX4 := Aside0.mk ((hg.block _ (blk_lt HX3.out) (Kd.R_ne HS3.out HX3.out (by decide))).trans HX3.out); have HY4 := Aside0.mk ((hg.block _ (blk_lt HY3.out) (Kd.R_ne HS3.out HY3.out (by decide))).trans HY3.out); clear hN hB hg hat)))
              go_roundg (f.length - (i + 1))
              case measure => omega
              case rel =>
                have htl := tidyR_length (f.take i)
                rw [List.length_take] at htl
                refine ⟨i + 1, kc + 1, last, by omega, Nat.le_refl _, by omega, by omega, by go_num, ?_, by go_num, ?_⟩
                · rfl
                rw [HTK.out, tidyR_snoc, if_neg HZ.out]
                have hN4 := HN4.out
                have hS4 := HS4.out
                simp only [List.length_append, List.length_singleton] at hN4 hS4
                exact HR1.out.more x false (kc + 1) (last) (by rw [HD.out, HDR.out]; rfl) (by rw [HD.out, HDR.out]; rfl) rfl HX4.out HY4.out (Fr.of_below HB4.out _) hN4 hS4
          · have hkb : decide ((kc : Int) < (keep.length : Int)) = false := decide_eq_false (by omega)
            have hdr : keep.drop kc = [] := List.drop_eq_nil_of_le (by omega)
            have hdr2 : keep.drop (kc + 1) = [] := List.drop_eq_nil_of_le (by omega)
            have HDR := Aside0.mk hdr
            have HDR2 := Aside0.mk hdr2
            clear hdr hdr2
            go_wp2_with (first
              | ((with_reducible refine gate_builtin (b := .append) (xs := #[.tmp 48, .tmp 50]) rfl ?_); go_must ((refine Kd.N_append k85 (w0 := w) w.heap.size rfl (.tmp 48) (.tmp 50) 32 85 _ 32 rfl Try.underlying32 eInfoRPart rfl (by decide) (by decide) u5 (tidyR (f.take i)) x [.slice A0 x.f0.length c0, .bool false] (fun k => (P k ∨ w.heap.size ≤ k) ∧ some k ≠ u6.ownBlock) (fun k => P k ∧ k < w.heap.size) rfl rfl HFK1.out (fun k hk => ⟨⟨.inl hk.1, fun he => by have := Kd.R_base HR1.out.stays k he.symm; have := hk.2; omega⟩, fun he => by have := Kd.N_base HR1.out.parts k he.symm; have := hk.2; omega⟩) (fun k hk => ⟨.inr (by have := HR1.out.fr.1; omega), fun he => by have := Kd.R_lt HR1.out.stays k he.symm; omega⟩) HR1.out.parts (Fr.below HR1.out.fr (fun _ h => h.elim)) HR1.out.fr.1 (by have := tidyR_length (f.take i); rw [List.length_take] at this; omega) ?_); intro v5 w3 hN hB hg hat; obtain ⟨A5, c5, rfl⟩ := Kd.N_slice hN; have HN3 := Aside0.mk hN; have HB3 := Aside0.mk hB; have HS3 := Aside0.mk (R_own_step rfl HR1.out.stays (fun k hk => hg.block k (Kd.R_lt HR1.out.stays k hk) (fun he => (HR1.out.parts.1 k he.symm).2 hk.symm))); have HX3 := Aside0.mk ((hg.block _ (blk_lt HR1.out.blk) (Kd.N_ne HR1.out.parts HR1.out.blk (by decide))).trans HR1.out.blk); have HY3 := Aside0.mk ((hg.block _ (blk_lt HR1.out.res) (Kd.N_ne HR1.out.parts HR1.out.res (by decide))).trans HR1.out.res); clear hN hB hg hat))
              | ((with_reducible refine gate_builtin (b := .append) (xs := #[.tmp 52, .tmp 54]) rfl ?_); go_must ((refine Kd.R_append Kd.bool (w0 := w) w.heap.size rfl (.tmp 52) (.tmp 54) 38 4 _ 1 rfl Try.underlying38 eInfoBool rfl (by decide) (by decide) u6 (staysOf ((tidyR (f.take i)).map fromR) keep) false [.bool false] (fun k => w.heap.size ≤ k) (fun k => False) rfl rfl rfl (fun k hk => hk.elim) (fun k hk => by have := HB3.out.size; omega) HS3.out HB3.out HB3.out.size (by rw [staysOf_length, List.length_map]; have := tidyR_length (f.take i); rw [List.length_take] at this; omega) ?_); intro v6 w4 hN hB hg hat; obtain ⟨A6, c6, rfl⟩ := Kd.R_slice hN; have HS4 := Aside0.mk hN; have HB4 := Aside0.mk hB; have HN4 := Aside0.mk (Kd.N_after HN3.out hg hat); have HX4 := Aside0.mk ((hg.block _ (blk_lt HX3.out) (Kd.R_ne HS3.out HX3.out (by decide))).trans HX3.out); have HY4 := Aside0.mk ((hg.block _ (blk_lt HY3.out) (Kd.R_ne HS3.out HY3.out (by decide))).trans HY3.out); clear hN hB hg hat)))
            go_roundg (f.length - (i + 1))
            case measure => omega
            case rel =>
              have htl := tidyR_length (f.take i)
              rw [List.length_take] at htl
              refine ⟨i + 1, kc + 1, last, by omega, Nat.le_refl _, by omega, by omega, by go_num, ?_, by go_num, ?_⟩
              · rfl
              rw [HTK.out, tidyR_snoc, if_neg HZ.out]
              have hN4 := HN4.out
              have hS4 := HS4.out
              simp only [List.length_append, List.length_singleton] at hN4 hS4
              exact HR1.out.more x false (kc + 1) (last) (by rw [HD.out, HDR.out]; rfl) (by rw [HD.out, HDR.out, HDR2.out]; rfl) rfl HX4.out HY4.out (Fr.of_below HB4.out _) hN4 hS4
    · obtain rfl : i = f.length := by omega
      have hT : tidyR (f.take f.length) = tidyR f := by rw [List.take_length]
      rw [hT] at HR
      have hup := upTo_le (staysOf ((tidyR f).map fromR) keep)
      have hla := HR.out.last_
      rw [staysOf_length, List.length_map, ← hla] at hup
      have HT := Aside0.mk hT
      have HUP := Aside0.mk hup
      have HLA := Aside0.mk hla
      clear hT hup hla
      obtain ⟨wo, hwo⟩ : ∃ wo : World, wo = wr := ⟨_, rfl⟩
      subst hwo
      have hFl : (failed (((tidyR f).map fromR).take last) (staysOf ((tidyR f).map fromR) keep)).length = last := by
        rw [failed_length _ _ (by rw [List.length_take, staysOf_length]; omega), List.length_take, List.length_map]; have := HUP.out; omega
      have HFl := Aside0.mk hFl
      clear hFl
      have HB1 := Aside0.mk (blk_lt HR.out.res)
      go_wp2
      go_loopg [13] last (fun gg v13 W => ∃ (k : Nat) (Ao : Option Addr) (no co : Nat), k ≤ last ∧ last - k ≤ gg ∧ v13 = .int .i64 k ∧ Aside0 (no ≤ co) ∧ Aside0 (W.heap[wo.heap.size]? = some (.cells #[.slice Ao no co] 34 (0, 0))) ∧ Aside0 (Fr wo W (fun _ => False)) ∧ Aside0 (Kd.F k85 W (fun k => (P k ∨ w.heap.size ≤ k) ∧ k ≠ w.heap.size + 1 ∧ k ≠ wo.heap.size) Ao no (tidyR (((failed (((tidyR f).map fromR).take last) (staysOf ((tidyR f).map fromR) keep)).take k).map toR))))
      case atStart => exact ⟨0, none, 0, 0, Nat.zero_le _, by omega, rfl, ⟨Nat.le_refl _⟩, ⟨blk_new _ _⟩, ⟨Fr.alloc (Fr.refl _ _) _⟩, ⟨Kd.F_nil _ _ _⟩⟩
      case round =>
        clear hcell
        obtain ⟨k, Ao, no, co, hkl2, hkg, rfl, HNO, HBO, HFR, HO⟩ := hrel
        have hRW := HR.out.world (Fr.below HFR.out (fun _ h => h.elim))
        have HRW := Aside0.mk hRW
        clear hRW
        have hcell := blk_cell HBO.out 0
        simp at hcell
        by_cases hkk : k < last
        · have hup := HUP.out
          have hFl := HFl.out
          have hkT : k < (tidyR f).length := by omega
          have hkF : k < (failed (((tidyR f).map fromR).take last) (staysOf ((tidyR f).map fromR) keep)).length := by omega
          have hkS : k < (staysOf ((tidyR f).map fromR) keep).length := by rw [staysOf_length, List.length_map]; exact hkT
          have hkL : k < (((tidyR f).map fromR).take last).length := by rw [List.length_take, List.length_map]; omega
          have hFk := failed_at _ _ k hkF hkL hkS
          rw [List.getElem_take, List.getElem_map] at hFk
          have hbl : (tidyR f)[k].f0.length ≤ 1000000 := HFE.out _ (List.mem_filter.1 (List.getElem_mem hkT)).1
          obtain ⟨g5, c5, he, hg5, -⟩ := Kd.N_form HRW.out.parts (by omega)
          subst he
          obtain ⟨cc, hcl, hfk, hcc, -⟩ := Kd.N_elem HRW.out.parts ⟨[], false⟩ (k : Int) (by omega) (by omega)
          rw [Int.toNat_natCast, List.getD_eq_getElem?_getD, List.getElem?_eq_getElem hkT, Option.getD_some] at hfk
          obtain ⟨A0, c0, rfl, hl0, hF0⟩ := k85_openF hfk
          have q0 := hcc 0 _ rfl
          rw [show k85.sz = 2 from rfl, Int.toNat_natCast, Nat.add_zero] at q0
          obtain ⟨A6, c6, he6⟩ := Kd.R_slice HRW.out.stays
          subst he6
          obtain ⟨g6, cap6, he6, -⟩ := Kd.R_form HRW.out.stays (by omega)
          injection he6 with ha6 hl6 hc6
          clear hl6
          subst ha6
          subst hc6
          obtain ⟨q1, -⟩ := R_get1 Value.bool HRW.out.stays k hkS
          have htk : ((failed (((tidyR f).map fromR).take last) (staysOf ((tidyR f).map fromR) keep)).take (k + 1)).map toR = ((failed (((tidyR f).map fromR).take last) (staysOf ((tidyR f).map fromR) keep)).take k).map toR ++ [toR (failed (((tidyR f).map fromR).take last) (staysOf ((tidyR f).map fromR) keep))[k]] := by
            rw [List.take_succ_eq_append_getElem hkF, List.map_append]; rfl
          rw [hFk] at htk
          have hno := Kd.F_len HO.out
          have hnol : (tidyR (((failed (((tidyR f).map fromR).take last) (staysOf ((tidyR f).map fromR) keep)).take k).map toR)).length ≤ 100000 := Nat.le_trans (tidyR_length _) (by rw [List.length_map, List.length_take]; have := tidyR_length f; omega)
          generalize (tidyR f)[k] = x at q0 hbl hfk hF0 hl0 htk
          generalize (staysOf ((tidyR f).map fromR) keep)[k] = b at q1 htk
          generalize ((failed (((tidyR f).map fromR).take last) (staysOf ((tidyR f).map fromR) keep)).take k).map toR = Tk at HO hno hnol htk
          subst hno
          have HTK := Aside0.mk htk
          have HF0 := Aside0.mk hF0
          have HL0 := Aside0.mk hl0
          clear htk hFk hfk hcc hcl hF0 hl0 hFl hg5
          cases b with
          | true =>
            go_wp2_with (go_at_call 44; go_must ((refine (chartroomref07_put.calls (fun k => (P k ∨ w.heap.size ≤ k) ∧ k ≠ w.heap.size + 1 ∧ k ≠ wo.heap.size) Ao co (tidyR Tk) A0 c0 x.f0 true _ wr ⟨Ao, co, rfl, HNO.out, HO.out⟩ (Kd.F_now HF0.out) HL0.out (put_eq _ _ _ (by omega) hbl)).mono ?_); rintro e w2 ⟨v2, rfl, hN2, hb2⟩; generalize hR2 : tidyR Tk ++ tidyR [(⟨x.f0, true⟩ : S85)] = R2 at hN2; have HR2 := Aside0.mk hR2; clear hR2; obtain ⟨A2, c2, rfl⟩ := Kd.N_slice hN2; have hk2 := blk_below HBO.out hb2; have hcell2 := blk_cell hk2 0; have hfr2 := blk_frozen hk2 0; simp at hcell2; have HK2 := Aside0.mk hk2; have HN2 := Aside0.mk hN2; have HB2 := Aside0.mk hb2; clear hk2 hN2 hb2))
            go_roundg (last - (k + 1))
            case measure => omega
            case rel =>
              have hbo := blk_lt HBO.out
              have hb1 := HB1.out
              refine ⟨k + 1, A2, R2.length, c2, by omega, Nat.le_refl _, by go_num, ⟨(Kd.N_reads' HN2.out).2.1⟩, ⟨blk_put HK2.out 0 _ rfl⟩, ⟨Fr.setCell (p := ⟨wo.heap.size, 0, none⟩) (HFR.out.then_below HB2.out) (.inr (Nat.le_refl _)) _⟩, ⟨?_⟩⟩
              rw [show tidyR _ = R2 from by rw [HTK.out, tidyR_append]; exact HR2.out]
              refine Kd.F_far (p := ⟨wo.heap.size, 0, none⟩) (Kd.F_mono (Kd.N_F HN2.out) (fun j hj => ?_)) (fun j hj => hj.2.2) _
              rcases hj with h | h
              · exact h
              · have h1 := HFR.out.1
                have h2 := HR.out.fr.1
                have h3 := hbo
                exact ⟨.inr (by omega), by omega, by omega⟩
          | false =>
            have hmk := fun w => run_make_row' (P := Try.prog) 26 5 (.int .u8 0) 1 Try.underlying26 eInfoByte rfl .i64 .i64 x.f0.length (by omega) (by omega) w
            have hca := cell_allocs hcell
            have hz := R_made1 (Value.int .u8) (h1 := fun _ => rfl) wr w.heap.size 5 x.f0.length 0 (by have := HR.out.fr.1; have := HFR.out.1; omega) (by omega)
            have HZ := Aside0.mk hz
            clear hz
            have hput := chartroomref07_put.calls (fun k => (P k ∨ w.heap.size ≤ k) ∧ k ≠ w.heap.size + 1 ∧ k ≠ wo.heap.size) Ao co (tidyR Tk) (some ⟨wr.heap.size, 0, none⟩) x.f0.length (List.replicate x.f0.length 0) true _ (wr.alloc (.cells (madeCells #[.int .u8 0] x.f0.length) 5)) ⟨Ao, co, rfl, HNO.out, Kd.F_alloc HO.out _⟩ (by have := (Kd.R_reads' HZ.out).2.2; rw [List.length_replicate] at this ⊢; exact this) (by simp) (put_eq _ _ _ (by omega) (by rw [List.length_replicate]; exact hbl))
            rw [List.length_replicate] at hput
            have HPUT := Aside0.mk hput
            clear hput
            go_wp2_with (go_at_call 44; go_must ((refine HPUT.out.mono ?_); rintro e w2 ⟨v2, rfl, hN2, hb2⟩; generalize hR2 : tidyR Tk ++ tidyR [(⟨List.replicate x.f0.length 0, true⟩ : S85)] = R2 at hN2; have HR2 := Aside0.mk hR2; clear hR2; obtain ⟨A2, c2, rfl⟩ := Kd.N_slice hN2; have hk2 := blk_below (blk_alloc HBO.out _) hb2; have hcell2 := blk_cell hk2 0; have hfr2 := blk_frozen hk2 0; simp at hcell2; have HK2 := Aside0.mk hk2; have HN2 := Aside0.mk hN2; have HB2 := Aside0.mk hb2; clear hk2 hN2 hb2))
            go_roundg (last - (k + 1))
            case measure => omega
            case rel =>
              have hbo := blk_lt HBO.out
              have hb1 := HB1.out
              refine ⟨k + 1, A2, R2.length, c2, by omega, Nat.le_refl _, by go_num, ⟨(Kd.N_reads' HN2.out).2.1⟩, ⟨blk_put HK2.out 0 _ rfl⟩, ⟨Fr.setCell (p := ⟨wo.heap.size, 0, none⟩) ((HFR.out.alloc _).then_below HB2.out) (.inr (Nat.le_refl _)) _⟩, ⟨?_⟩⟩
              rw [show tidyR _ = R2 from by rw [HTK.out, tidyR_append]; exact HR2.out]
              refine Kd.F_far (p := ⟨wo.heap.size, 0, none⟩) (Kd.F_mono (Kd.N_F HN2.out) (fun j hj => ?_)) (fun j hj => hj.2.2) _
              rcases hj with h | h
              · exact h
              · rw [World.size_alloc] at h
                have h1 := HFR.out.1
                have h2 := HR.out.fr.1
                have h3 := hbo
                exact ⟨.inr (by omega), by omega, by omega⟩
        · obtain rfl : k = last := by omega
          have hres := (HR.out.world (Fr.below HFR.out (fun _ h => h.elim))).res
          have hcr := blk_cell hres 0
          have hfr := blk_frozen hres 0
          have hbl := blk_lt hres
          have hb1 := HB1.out
          have hne1 : ¬ wo.heap.size = w.heap.size + 1 := by omega
          have hne2 : ¬ w.heap.size + 1 = wo.heap.size := by omega
          simp at hcr
          have hfin : tidyR (((failed (((tidyR f).map fromR).take k) (staysOf ((tidyR f).map fromR) keep)).take k).map toR) = failR f keep := by
            rw [List.take_of_length_le (by rw [HFl.out]; exact Nat.le_refl _)]
            unfold failR failOf
            rw [← HLA.out, tidyR_all]
            intro p hp
            obtain ⟨q, hq, rfl⟩ := List.mem_map.1 hp
            obtain ⟨⟨y, s⟩, hy, rfl⟩ := List.mem_map.1 hq
            have hy2 := List.mem_of_mem_take (List.of_mem_zip hy).1
            obtain ⟨z, hz, rfl⟩ := List.mem_map.1 hy2
            have hz2 := (List.mem_filter.1 hz).2
            cases s <;> simp [toR, dur, blank, fromR] at hz2 ⊢ <;> exact hz2
          have hno := Kd.F_len HO.out
          rw [hfin] at HO hno
          subst hno
          have HFIN := Aside0.mk hfin
          clear hfin
          go_wp2
          refine bodyPost_ret (v := .agg #[.slice Ao (failR f keep).length co]) ?_ rfl ⟨Ao, co, rfl, HNO.out, ?_, ?_⟩
          · simp [results, Try.results20, go_sem, hcr]
          · exact Kd.F_mono (Kd.F_far (p := ⟨w.heap.size + 1, 0, none⟩) HO.out (fun j hj => hj.2.1) _) (fun j hj => hj.1)
          · exact Fr.below (Fr.setCell (p := ⟨w.heap.size + 1, 0, none⟩) (HR.out.fr.then_ HFR.out (fun _ h => h.elim)) (.inr (by simp)) _) (fun _ h => h.elim)
end Go.Proofs.Ytbpnbhccdpobpaa
