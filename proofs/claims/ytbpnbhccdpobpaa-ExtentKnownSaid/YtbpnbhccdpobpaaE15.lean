import Derived.Test.YtbpnbhccdpobpaaE14
/-! What the acts do, in plain Lean; the calls as the statements make them. -/
set_option linter.unusedVariables false
set_option linter.unusedSimpArgs false
namespace Go.Proofs.Ytbpnbhccdpobpaa
open Go.RowKit Go.Proofs.YtbpnbhccdpobpaaW.PrintWords PExtentKnown

theorem toR_fromR (ps : List S52) : (ps.map toR).map fromR = ps := by
  rw [List.map_map]; conv => rhs; rw [← List.map_id ps]
  rfl
theorem tidyR_toR : ∀ (ps : List S52), tidyR (ps.map toR) = (tidyOf ps).map toR := fun ps => by
  unfold tidyR tidyOf; rw [List.filter_map]; rfl
theorem app_toR (ps : List S52) (b : List Int) : tidyR (ps.map toR ++ [⟨b, false⟩]) = (tidyOf (ps ++ [⟨b, false⟩])).map toR := by
  rw [← tidyR_toR, List.map_append]; rfl
theorem sync_toR (ps : List S52) : tidyR ((ps.map toR).map durR) = ((tidyOf ps).map dur).map toR := by
  have h1 : (ps.map toR).map durR = (ps.map dur).map toR := by rw [List.map_map, List.map_map]; rfl
  rw [h1, tidyR_toR]
  congr 1
  unfold tidyOf
  rw [List.filter_map]; rfl
theorem fail_toR (ps : List S52) (keep : List Bool) : failR (ps.map toR) keep = (failOf (tidyOf ps) keep).map toR := by
  unfold failR; rw [tidyR_toR, toR_fromR]
theorem of_toR (l : List (List Int)) : tidyR (l.map fun b => ⟨b, true⟩) = (ofOf l).map toR := by
  have h1 : (l.map fun b => (⟨b, true⟩ : S85)) = ((l.map vol).map dur).map toR := by rw [List.map_map, List.map_map]; rfl
  rw [h1, tidyR_toR]
  congr 1
  unfold ofOf tidyOf
  rw [List.filter_map]; rfl

/-- At most n parts, each of at most m bytes. -/
structure Sm (n m : Nat) (ps : List S52) : Prop where
  len : ps.length ≤ n
  each : ∀ p ∈ ps, p.f0.length ≤ m
theorem Sm.mono {n m n' m' : Nat} {ps : List S52} (h : Sm n m ps) (hn : n ≤ n') (hm : m ≤ m') : Sm n' m' ps := ⟨Nat.le_trans h.len hn, fun p hp => Nat.le_trans (h.each p hp) hm⟩
theorem Sm.tidy {n m : Nat} {ps : List S52} (h : Sm n m ps) : Sm n m (tidyOf ps) := ⟨Nat.le_trans (tidyOf_length _) h.len, fun p hp => h.each p (List.mem_filter.mp hp).1⟩
theorem Sm.app {n m : Nat} {ps : List S52} {b : List Int} (h : Sm n m ps) (hb : b.length ≤ m) (d : Bool) : Sm (n + 1) m (ps ++ [⟨b, d⟩]) :=
  ⟨by rw [List.length_append]; exact Nat.succ_le_succ h.len, fun p hp => by
    rcases List.mem_append.mp hp with hp | hp
    · exact h.each p hp
    · rw [List.mem_singleton] at hp; subst hp; exact hb⟩
theorem Sm.dur {n m : Nat} {ps : List S52} (h : Sm n m ps) : Sm n m (ps.map dur) := ⟨by rw [List.length_map]; exact h.len, fun p hp => by
  obtain ⟨q, hq, rfl⟩ := List.mem_map.mp hp
  exact h.each q hq⟩
theorem Sm.fail {n m : Nat} {ps : List S52} (h : Sm n m ps) (keep : List Bool) : Sm n m (failOf ps keep) := by
  unfold failOf failed
  refine ⟨by rw [List.length_map, List.length_zip, List.length_take]; have := h.len; omega, fun p hp => ?_⟩
  obtain ⟨⟨q, b⟩, hq, rfl⟩ := List.mem_map.mp hp
  have h1 := h.each q (List.mem_of_mem_take (List.of_mem_zip hq).1)
  cases b
  · show (List.replicate q.f0.length (0 : Int)).length ≤ m
    rw [List.length_replicate]; exact h1
  · exact h1
theorem Sm.few {n m : Nat} {ps : List S52} (h : Sm n m ps) (hn : n ≤ 100000) (hm : m ≤ 1000000) : Few (ps.map toR) :=
  ⟨by rw [List.length_map]; exact Nat.le_trans h.len hn, fun p hp => by
    obtain ⟨q, hq, rfl⟩ := List.mem_map.mp hp
    exact Nat.le_trans (h.each q hq) hm⟩
theorem Sm.of {n m : Nat} {l : List (List Int)} (hl : l.length ≤ n) (hb : ∀ b ∈ l, b.length ≤ m) : Sm n m (ofOf l) := by
  unfold ofOf
  refine Sm.dur (Sm.tidy ⟨by rw [List.length_map]; exact hl, fun p hp => ?_⟩)
  obtain ⟨q, hq, rfl⟩ := List.mem_map.mp hp
  exact hb q hq

theorem pick_calls (a : Int) : ∃ p : Int, ∀ w : World, Calls Try.prog 16 #[.int .i64 a, .int .i64 4] w fun e w' => e = .returned (.int .i64 p) ∧ Below w.heap.size w w' := by
  have h : chartroomkit_Pick.f a 4 = some (Int.tmod (wrap64 ((Int.tmod a 4) + 4)) 4) := rfl
  exact ⟨_, fun w => (chartroomkit_Pick.calls a 4 _ w h).mono fun e w' hq => ⟨hq.1, hq.2.below⟩⟩
theorem own_calls (A : Option Addr) (n c : Nat) (b : List Int) (w : World) (hC : Kd.C (Kd.int .u8) w A n b) (hn : n ≤ c) (hb : b.length ≤ 1000000) :
    Calls Try.prog 12 #[.slice A n c] w fun e w' => ∃ A' c', e = .returned (.slice A' n c') ∧ n ≤ c' ∧ Kd.R (Kd.int .u8) 5 w' w.heap.size (fun _ => True) (.slice A' n c') b ∧ Below w.heap.size w w' := by
  have hl : b.length = n := hC.1
  subst hl
  refine (chartroomkit_Own.calls A c b b w hC hn (kown_eq b hb)).mono ?_
  rintro e w' ⟨v, rfl, hR, hB⟩
  obtain ⟨A', c', rfl⟩ := Kd.R_slice hR
  exact ⟨A', c', rfl, (Kd.R_reads' hR).2.1, hR, hB⟩
theorem N_out {w w' : World} {b : Nat} {v : Value} {rs : List S85} (hN : Kd.N k85 85 w' b (fun k => b ≤ k) v rs) : ∃ A c, v = .slice A rs.length c ∧ rs.length ≤ c ∧ Kd.F k85 w' (fun k => b ≤ k) A rs.length rs := by
  obtain ⟨A, c, rfl⟩ := Kd.N_slice hN
  exact ⟨A, c, rfl, (Kd.N_reads' hN).2.1, Kd.N_F hN⟩
theorem rof_calls (A : Option Addr) (n c : Nat) (l : List (List Int)) (w : World) (hC : Kd.C (Kd.slice 5 (Kd.int .u8)) w A n l) (hn : n ≤ c) (hl : n ≤ 100000) (hb : ∀ b ∈ l, b.length ≤ 1000000) :
    Calls Try.prog 14 #[.slice A n c] w fun e w' => ∃ A' n' c', e = .returned (.agg #[.slice A' n' c']) ∧ n' ≤ c' ∧ Kd.F k85 w' (fun k => w.heap.size ≤ k) A' n' ((ofOf l).map toR) ∧ Below w.heap.size w w' := by
  have hl2 : l.length = n := hC.1
  subst hl2
  obtain ⟨K, hk⟩ := rof_ev l hl hb
  have h := hk K (Nat.le_refl _)
  rw [of_toR] at h
  refine (chartroomref07_Of.calls K A c l _ w hC hn h).mono ?_
  rintro e w' ⟨v, rfl, hN, hB⟩
  obtain ⟨A', c', rfl, h1, h2⟩ := N_out (w := w) hN
  exact ⟨A', _, c', rfl, h1, h2, hB⟩
theorem rsync_calls (A : Option Addr) (n c : Nat) (ps : List S52) (w : World) (hC : Kd.C k85 w A n (ps.map toR)) (hn : n ≤ c) (hf : Few (ps.map toR)) :
    Calls Try.prog 18 #[.agg #[.slice A n c]] w fun e w' => ∃ A' n' c', e = .returned (.agg #[.slice A' n' c']) ∧ n' ≤ c' ∧ Kd.F k85 w' (fun k => w.heap.size ≤ k) A' n' (((tidyOf ps).map dur).map toR) ∧ Below w.heap.size w w' := by
  have hl2 : (ps.map toR).length = n := hC.1
  subst hl2
  obtain ⟨K, hk⟩ := rsync_ev (ps.map toR) hf
  have h := hk K (Nat.le_refl _)
  rw [sync_toR] at h
  refine (chartroomref07_Sync.calls K A c _ _ w hC hn h).mono ?_
  rintro e w' ⟨v, rfl, hN, hB⟩
  obtain ⟨A', c', rfl, h1, h2⟩ := N_out (w := w) hN
  exact ⟨A', _, c', rfl, h1, h2, hB⟩
theorem rapp_calls (A : Option Addr) (n c : Nat) (ps : List S52) (Ab : Option Addr) (nb cb : Nat) (b : List Int) (w : World) (hC : Kd.C k85 w A n (ps.map toR)) (hn : n ≤ c) (hf : Few (ps.map toR)) (hCb : Kd.C (Kd.int .u8) w Ab nb b) (hnb : nb ≤ cb) (hb : b.length ≤ 1000000) :
    Calls Try.prog 22 #[.agg #[.slice A n c], .slice Ab nb cb] w fun e w' => ∃ A' n' c', e = .returned (.agg #[.slice A' n' c']) ∧ n' ≤ c' ∧ Kd.F k85 w' (fun k => w.heap.size ≤ k) A' n' ((tidyOf (ps ++ [⟨b, false⟩])).map toR) ∧ Below w.heap.size w w' := by
  have hl2 : (ps.map toR).length = n := hC.1
  subst hl2
  have hl3 : b.length = nb := hCb.1
  subst hl3
  obtain ⟨K, hk⟩ := rapp_ev (ps.map toR) hf b hb
  have h := hk K (Nat.le_refl _)
  rw [app_toR] at h
  refine (chartroomref07_Append.calls K A c _ Ab cb b _ w hC hn hCb hnb h).mono ?_
  rintro e w' ⟨v, rfl, hN, hB⟩
  obtain ⟨A', c', rfl, h1, h2⟩ := N_out (w := w) hN
  exact ⟨A', _, c', rfl, h1, h2, hB⟩
theorem rfail2_calls (P : Nat → Prop) (A : Option Addr) (n c : Nat) (ps : List S52) (Ak : Option Addr) (nk ck : Nat) (keep : List Bool) (w : World) (hF : Kd.F k85 w P A n (ps.map toR)) (hn : n ≤ c) (hf : Few (ps.map toR)) (hk : Kd.bool.C w Ak nk keep) (hck : nk ≤ ck) (hkl : nk ≤ 1000000) :
    Calls Try.prog 20 #[.agg #[.slice A n c], .slice Ak nk ck] w fun e w' => ∃ A' n' c', e = .returned (.agg #[.slice A' n' c']) ∧ n' ≤ c' ∧ Kd.F k85 w' (fun k => P k ∨ w.heap.size ≤ k) A' n' ((failOf (tidyOf ps) keep).map toR) ∧ Below w.heap.size w w' := by
  have hl2 : (ps.map toR).length = n := Kd.F_len hF
  subst hl2
  have hl3 : keep.length = nk := hk.1
  subst hl3
  refine (rfail_calls P A c (ps.map toR) Ak ck keep w ⟨A, c, rfl, hn, hF⟩ hk hck hf hkl).mono ?_
  rintro e w' ⟨A', c', rfl, h1, h2, hB⟩
  rw [fail_toR] at h1 h2
  exact ⟨A', _, c', by rw [fail_toR], h1, h2, hB⟩
theorem is_calls (A : Option Addr) (n c : Nat) (ps : List S52) (Ar : Option Addr) (nr cr : Nat) (w : World) (hC : Kd.C k52 w A n ps) (hn : n ≤ c) (hR : Kd.C k85 w Ar nr (ps.map toR)) (hnr : nr ≤ cr) (hf : Few (ps.map toR)) :
    Calls Try.prog 23 #[.agg #[.slice A n c], .agg #[.slice Ar nr cr]] w fun e w' => e = .returned (.bool true) ∧ Below w.heap.size w w' := by
  have hl2 : ps.length = n := hC.1
  subst hl2
  have hl3 : (ps.map toR).length = nr := hR.1
  subst hl3
  obtain ⟨K, hk⟩ := is_ev ps hf
  exact chartroomlaw07_is.calls K A c ps Ar cr _ true w hC hn hR hnr (hk K (Nat.le_refl _))
/-- What is owned may be written over: nothing else is changed. -/
theorem spoil_calls (v : Value) (b : List Int) (base : Nat) (w : World) (hR : Kd.R (Kd.int .u8) 5 w base (fun _ => True) v b) (hb : b.length ≤ 1000000) (hbase : base ≤ w.heap.size) :
    Calls Try.prog 15 #[v] w fun e w' => e = .returned (.tuple #[]) ∧ Fr w w' (fun k => some k = v.ownBlock) ∧ ∃ r, Kd.R (Kd.int .u8) 5 w' base (fun k => some k = v.ownBlock) v r := by
  obtain ⟨r, hr⟩ := spoil_at b (by omega) (b.length + 1) (by omega)
  have hsz : ({ w with heap := w.heap.extract 0 base } : World).heap.size = base := by
    show (w.heap.extract 0 base).size = base
    rw [Array.size_extract]; omega
  have hB : Below ({ w with heap := w.heap.extract 0 base } : World).heap.size ({ w with heap := w.heap.extract 0 base } : World) w := by
    refine ⟨rfl, rfl, rfl, by rw [hsz]; exact hbase, fun k hk => ?_⟩
    rw [hsz] at hk
    show w.heap[k]? = (w.heap.extract 0 base)[k]?
    rw [Array.getElem?_extract]
    rw [if_pos (by omega), Nat.zero_add]
  have hR2 := Kd.R_tight rfl hR
  rw [← hsz] at hR2
  refine (chartroomkit_Spoil.calls (b.length + 1) (fun k => some k = v.ownBlock) v b r _ w hB hR2 hr).mono ?_
  rintro e w' ⟨rfl, hR', hB', hK⟩
  rw [hsz] at hR'
  exact ⟨rfl, ⟨hK.1, fun i hi hn => hK.2 i hi hn, hB'.os.trans hB.os.symm, hB'.tape.trans hB.tape.symm, hB'.output.trans hB.output.symm⟩, r, Kd.R_tight rfl hR'⟩
namespace Sys
variable {w0 W W1 w5 : World} {G G' : Nat → Prop} {g7 g8 : Nat} {ps ps' : List S52} {rs rs' : List S85}
theorem sync (h : Sys w0 W G g7 g8 ps rs) (hl : ps.length ≤ 1000000) (hG : ∀ k, G k → k < W.heap.size) :
    Calls Try.prog 17 #[.pointer (some ⟨g7, 0, none⟩)] W fun e w' => e = .returned (.tuple #[]) ∧ Sys w0 w' G g7 g8 ((tidyOf ps).map dur) rs ∧ Fr W w' (fun k => k = g7) :=
  (sync_calls g7 _ ps W h.file hl).mono fun e w' hq => ⟨hq.1, h.updF hq.2.1 hq.2.2 hG, hq.2.1⟩
theorem fail (h : Sys w0 W G g7 g8 ps rs) (hl : ps.length ≤ 1000000) (hlb : ∀ p ∈ ps, p.f0.length ≤ 1000000) (hG : ∀ k, G k → k < W.heap.size)
    (Ak : Option Addr) (nk ck : Nat) (keep : List Bool) (okk : Nat → Prop) (hk : Kd.F Kd.bool W okk Ak nk keep) (hnk : nk ≤ ck) (hokk : ∀ k, okk k → k < W.heap.size ∧ k ≠ g7) :
    Calls Try.prog 19 #[.pointer (some ⟨g7, 0, none⟩), .slice Ak nk ck] W fun e w' => e = .returned (.tuple #[]) ∧ Sys w0 w' G g7 g8 (failOf (tidyOf ps) keep) rs ∧ Fr W w' (fun k => k = g7) :=
  (fail_calls g7 _ ps Ak nk ck keep okk W h.file hl hlb hk hnk hokk).mono fun e w' hq => ⟨hq.1, h.updF hq.2.1 hq.2.2 hG, hq.2.1⟩
theorem app (h : Sys w0 W G g7 g8 ps rs) (hl : ps.length ≤ 1000000) (hG : ∀ k, G k → k < W.heap.size)
    (Ab : Option Addr) (nb cb : Nat) (b : List Int) (okb : Nat → Prop) (hb : Kd.F (Kd.int .u8) W okb Ab nb b) (hnb : nb ≤ cb) (hbl : nb ≤ 1000000) :
    Calls Try.prog 21 #[.pointer (some ⟨g7, 0, none⟩), .slice Ab nb cb] W fun e w' => e = .returned (.tuple #[]) ∧ Sys w0 w' G g7 g8 (tidyOf (ps ++ [⟨b, false⟩])) rs ∧ Fr W w' (fun k => k = g7) :=
  (append_calls g7 _ ps Ab nb cb b _ W h.file hl hb hnb hbl).mono fun e w' hq => ⟨hq.1, h.updF hq.2.1 hq.2.2 hG, hq.2.1⟩
theorem get7 (h : Sys w0 W G g7 g8 ps rs) : ∃ A n c, W.cell? ⟨g7, 0, none⟩ = some (.slice A n c) ∧ W.frozen? ⟨g7, 0, none⟩ = false ∧ n ≤ c ∧ Kd.F k52 W (fun k => w0.heap.size ≤ k ∧ ¬ G k) A n ps := by
  obtain ⟨A, c, hb, hc, hF, _⟩ := h.file.out
  exact ⟨A, _, c, by simp [World.cell?, hb], by simp [World.frozen?, hb], hc, hF⟩
theorem get8 (h : Sys w0 W G g7 g8 ps rs) : ∃ A n c, W.cell? ⟨g8, 0, none⟩ = some (.slice A n c) ∧ W.frozen? ⟨g8, 0, none⟩ = false ∧ n ≤ c ∧ Kd.F k85 W (fun k => w0.heap.size ≤ k ∧ ¬ G k) A n rs := by
  obtain ⟨A, c, hb, hc, hF⟩ := h.ref
  exact ⟨A, _, c, by simp [World.cell?, hb], by simp [World.frozen?, hb], hc, hF⟩
/-- The reference's step, and what it answers put behind its pointer. -/
theorem rstep {A : Option Addr} {n c : Nat} (h : Sys w0 W G g7 g8 ps rs) (hb : Below W.heap.size W w5) (hG : ∀ k, G k → k < W.heap.size) (hn : n ≤ c) (hF : Kd.F k85 w5 (fun k => (w0.heap.size ≤ k ∧ ¬ G k) ∨ W.heap.size ≤ k) A n rs') :
    Sys w0 (w5.setCell ⟨g8, 0, none⟩ (.slice A n c)) G g7 g8 ps rs' :=
  (h.below hb).updR hn (Kd.F_mono hF (fun k hk => by
    have := h.fr.1
    rcases hk with hk | hk
    · exact hk
    · exact ⟨by omega, fun hg => by have := hG k hg; omega⟩))
end Sys
end Go.Proofs.Ytbpnbhccdpobpaa
