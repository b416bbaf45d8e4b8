import Derived.Test.YtbpnbhccdpobpaaE11
/-! A few files at once. -/
set_option linter.unusedVariables false
set_option linter.unusedSimpArgs false
namespace Go.Proofs.Ytbpnbhccdpobpaa
open Go.RowKit Go.Proofs.YtbpnbhccdpobpaaW.PrintWords PExtentKnown

/-- Files behind distinct pointers that are new since w0; what they hold is new and is no pointer's block. -/
structure Fs (w0 W : World) (gs : List Nat) (pss : List (List S52)) : Prop where
  fr : Fr w0 W (fun _ => False)
  new_ : ∀ g ∈ gs, w0.heap.size ≤ g
  len : gs.length = pss.length
  nd : gs.Nodup
  at_ : ∀ (i g : Nat) (ps : List S52), gs[i]? = some g → pss[i]? = some ps → FileAt W g (fun k => w0.heap.size ≤ k ∧ k ∉ gs) ps
theorem Fs.lt {w0 W : World} {gs : List Nat} {pss : List (List S52)} (h : Fs w0 W gs pss) : ∀ g ∈ gs, g < W.heap.size := by
  intro g hg
  obtain ⟨i, hi, rfl⟩ := List.getElem_of_mem hg
  have h2 : i < pss.length := by rw [← h.len]; exact hi
  exact (h.at_ i _ _ (List.getElem?_eq_getElem hi) (List.getElem?_eq_getElem h2)).lt
theorem Fs.below {w0 W W' : World} {gs : List Nat} {pss : List (List S52)} (h : Fs w0 W gs pss) (hb : Below W.heap.size W W') : Fs w0 W' gs pss :=
  ⟨h.fr.then_below hb, h.new_, h.len, h.nd, fun i g ps hg hp => (h.at_ i g ps hg hp).below hb⟩
theorem Fs.upd {w0 W W' : World} {gs : List Nat} {pss : List (List S52)} (h : Fs w0 W gs pss) (i g : Nat) (hg : gs[i]? = some g) (ps' : List S52) (hk : Fr W W' (fun k => k = g))
    (hf : FileAt W' g (fun k => ((w0.heap.size ≤ k ∧ k ∉ gs) ∨ W.heap.size ≤ k) ∧ k ≠ g) ps') : Fs w0 W' gs (pss.set i ps') := by
  have hm : g ∈ gs := List.mem_of_getElem? hg
  refine ⟨h.fr.then_ hk (fun k hk => .inr (hk ▸ h.new_ g hm)), h.new_, by rw [List.length_set]; exact h.len, h.nd, fun j g2 ps hg2 hp => ?_⟩
  by_cases hij : j = i
  · subst hij
    rw [hg] at hg2; injection hg2 with hg2; subst hg2
    have hlt : j < pss.length := by rw [← h.len]; exact (List.getElem?_eq_some_iff.mp hg).1
    rw [List.getElem?_set_self hlt] at hp; injection hp with hp; subst hp
    refine hf.mono (fun k hk => ?_) (fun hk => hk.2 hm)
    rcases hk.1 with h1 | h1
    · exact h1
    · exact ⟨Nat.le_trans h.fr.1 h1, fun hin => by have := h.lt k hin; omega⟩
  · rw [List.getElem?_set_ne (fun he => hij he.symm)] at hp
    refine (h.at_ j g2 ps hg2 hp).kept hk (fun k h1 h2 => h1.2 (h2 ▸ hm)) (fun he => ?_)
    subst he
    have h1 := (List.getElem?_eq_some_iff.mp hg).1
    exact hij ((List.getElem?_inj (List.getElem?_eq_some_iff.mp hg2).1 h.nd).mp (hg2.trans hg.symm))
theorem Fs.app {w0 W : World} {gs : List Nat} {pss : List (List S52)} (h : Fs w0 W gs pss) (i g : Nat) (ps : List S52) (hg : gs[i]? = some g) (hp : pss[i]? = some ps) (hl : ps.length ≤ 1000000) (b0 b1 : Int) :
    Calls Try.prog 21 #[.pointer (some ⟨g, 0, none⟩), .slice (some ⟨W.heap.size, 0, none⟩) 2 2] (W.alloc (.cells #[.int .u8 b0, .int .u8 b1] 5 (2, 3))) fun e w' => e = .returned (.tuple #[]) ∧
      Fs w0 w' gs (pss.set i (tidyOf (ps ++ [⟨[b0, b1], false⟩]))) :=
  (app_const g _ ps b0 b1 W (h.at_ i g ps hg hp) hl).mono fun e w' hq => ⟨hq.1, h.upd i g hg _ hq.2.1 hq.2.2⟩
theorem Fs.sync {w0 W : World} {gs : List Nat} {pss : List (List S52)} (h : Fs w0 W gs pss) (i g : Nat) (ps : List S52) (hg : gs[i]? = some g) (hp : pss[i]? = some ps) (hl : ps.length ≤ 1000000) :
    Calls Try.prog 17 #[.pointer (some ⟨g, 0, none⟩)] W fun e w' => e = .returned (.tuple #[]) ∧ Fs w0 w' gs (pss.set i ((tidyOf ps).map dur)) :=
  (sync_calls g _ ps W (h.at_ i g ps hg hp) hl).mono fun e w' hq => ⟨hq.1, h.upd i g hg _ hq.2.1 hq.2.2⟩
theorem Fs.fail {w0 W : World} {gs : List Nat} {pss : List (List S52)} (h : Fs w0 W gs pss) (i g : Nat) (ps : List S52) (hg : gs[i]? = some g) (hp : pss[i]? = some ps) (hl : ps.length ≤ 1000000) (hlb : ∀ p ∈ ps, p.f0.length ≤ 1000000)
    (Ak : Option Addr) (nk ck : Nat) (keep : List Bool) (okk : Nat → Prop) (hk : Kd.F Kd.bool W okk Ak nk keep) (hnk : nk ≤ ck) (hokk : ∀ k, okk k → k < W.heap.size ∧ k ≠ g) :
    Calls Try.prog 19 #[.pointer (some ⟨g, 0, none⟩), .slice Ak nk ck] W fun e w' => e = .returned (.tuple #[]) ∧ Fs w0 w' gs (pss.set i (failOf (tidyOf ps) keep)) :=
  (fail_calls g _ ps Ak nk ck keep okk W (h.at_ i g ps hg hp) hl hlb hk hnk hokk).mono fun e w' hq => ⟨hq.1, h.upd i g hg _ hq.2.1 hq.2.2⟩
theorem Fs.failc {w0 W : World} {gs : List Nat} {pss : List (List S52)} (h : Fs w0 W gs pss) (i g : Nat) (ps : List S52) (hg : gs[i]? = some g) (hp : pss[i]? = some ps) (hl : ps.length ≤ 1000000) (hlb : ∀ p ∈ ps, p.f0.length ≤ 1000000)
    (keep : List Bool) (nk ck : Nat) (hkl : keep.length = nk) (hkc : nk ≤ ck) (hkm : keep.length ≤ 1000000) :
    Calls Try.prog 19 #[.pointer (some ⟨g, 0, none⟩), .slice (some ⟨W.heap.size, 0, none⟩) nk ck] (W.alloc (.cells (keep.map Value.bool).toArray 4 (0, 0))) fun e w' => e = .returned (.tuple #[]) ∧ Fs w0 w' gs (pss.set i (failOf (tidyOf ps) keep)) := by
  subst hkl
  have hlt := h.lt g (List.mem_of_getElem? hg)
  exact (h.below (below_alloc (Below.refl _ _) _)).fail i g ps hg hp hl hlb (some ⟨W.heap.size, 0, none⟩) keep.length ck keep _ (F_const Value.bool (h1 := fun _ => rfl) W keep 4 (0, 0) hkm) hkc
    (fun k hk => by subst hk; exact ⟨by rw [World.size_alloc]; omega, by omega⟩)
theorem Fs.failn {w0 W : World} {gs : List Nat} {pss : List (List S52)} (h : Fs w0 W gs pss) (i g : Nat) (ps : List S52) (hg : gs[i]? = some g) (hp : pss[i]? = some ps) (hl : ps.length ≤ 1000000) (hlb : ∀ p ∈ ps, p.f0.length ≤ 1000000) :
    Calls Try.prog 19 #[.pointer (some ⟨g, 0, none⟩), .slice none 0 0] W fun e w' => e = .returned (.tuple #[]) ∧ Fs w0 w' gs (pss.set i (failOf (tidyOf ps) [])) :=
  h.fail i g ps hg hp hl hlb none 0 0 [] (fun _ => False) (Kd.F_nil _ _ _) (Nat.le_refl _) (fun k hk => hk.elim)
theorem Fs.app2 {w0 W : World} {gs : List Nat} {pss : List (List S52)} (h : Fs w0 W gs pss) (i g : Nat) (ps : List S52) (b0 b1 : Int) (pss' : List (List S52)) (hg : gs[i]? = some g) (hp : pss[i]? = some ps) (hl : ps.length ≤ 1000000) (he : pss.set i (tidyOf (ps ++ [⟨[b0, b1], false⟩])) = pss') :
    Calls Try.prog 21 #[.pointer (some ⟨g, 0, none⟩), .slice (some ⟨W.heap.size, 0, none⟩) 2 2] (W.alloc (.cells #[.int .u8 b0, .int .u8 b1] 5 (2, 3))) fun e w' => e = .returned (.tuple #[]) ∧ Fs w0 w' gs pss' := he ▸ h.app i g ps hg hp hl b0 b1
theorem Fs.failc2 {w0 W : World} {gs : List Nat} {pss : List (List S52)} (h : Fs w0 W gs pss) (i g : Nat) (ps : List S52) (keep : List Bool) (nk : Nat) (pss' : List (List S52)) (hg : gs[i]? = some g) (hp : pss[i]? = some ps) (hl : ps.length ≤ 1000000) (hlb : ∀ p ∈ ps, p.f0.length ≤ 1000000)
    (hkl : keep.length = nk) (hkm : keep.length ≤ 1000000) (he : pss.set i (failOf (tidyOf ps) keep) = pss') :
    Calls Try.prog 19 #[.pointer (some ⟨g, 0, none⟩), .slice (some ⟨W.heap.size, 0, none⟩) nk nk] (W.alloc (.cells (keep.map Value.bool).toArray 4 (0, 0))) fun e w' => e = .returned (.tuple #[]) ∧ Fs w0 w' gs pss' := he ▸ h.failc i g ps hg hp hl hlb keep nk nk hkl (Nat.le_refl _) hkm
theorem Fs.failn2 {w0 W : World} {gs : List Nat} {pss : List (List S52)} (h : Fs w0 W gs pss) (i g : Nat) (ps : List S52) (pss' : List (List S52)) (hg : gs[i]? = some g) (hp : pss[i]? = some ps) (hl : ps.length ≤ 1000000) (hlb : ∀ p ∈ ps, p.f0.length ≤ 1000000)
    (he : pss.set i (failOf (tidyOf ps) []) = pss') :
    Calls Try.prog 19 #[.pointer (some ⟨g, 0, none⟩), .slice none 0 0] W fun e w' => e = .returned (.tuple #[]) ∧ Fs w0 w' gs pss' := he ▸ h.failn i g ps hg hp hl hlb
theorem Fs.sync2 {w0 W : World} {gs : List Nat} {pss : List (List S52)} (h : Fs w0 W gs pss) (i g : Nat) (ps : List S52) (pss' : List (List S52)) (hg : gs[i]? = some g) (hp : pss[i]? = some ps) (hl : ps.length ≤ 1000000) (he : pss.set i ((tidyOf ps).map dur) = pss') :
    Calls Try.prog 17 #[.pointer (some ⟨g, 0, none⟩)] W fun e w' => e = .returned (.tuple #[]) ∧ Fs w0 w' gs pss' := he ▸ h.sync i g ps hg hp hl
/-- One file, that was made just now. -/
theorem Fs.one {w0 W : World} {g : Nat} {A : Option Addr} {n c : Nat} {ps : List S52} (hfr : Fr w0 W (fun _ => False)) (hF : Kd.F k52 W (fun k => w0.heap.size ≤ k ∧ k ≠ g) A n ps) (hn : n ≤ c)
    (hb : W.heap[g]? = some (.cells #[.slice A n c] 30 (0, 0))) (hg : w0.heap.size ≤ g) : Fs w0 W [g] [ps] := by
  have hl := Kd.F_len hF
  subst hl
  refine ⟨hfr, by simpa using hg, rfl, by simp, fun i g2 ps2 hg2 hp2 => ?_⟩
  match i, hg2, hp2 with
  | 0, hg2, hp2 =>
    simp only [List.getElem?_cons_zero, Option.some.injEq] at hg2 hp2
    subst hg2; subst hp2
    exact ⟨⟨A, c, hb, hn, Kd.F_mono hF (fun k hk => ⟨hk.1, by simpa using hk.2⟩), fun hk => hk.2 (by simp)⟩⟩
theorem Fs.get {w0 W : World} {gs : List Nat} {pss : List (List S52)} (h : Fs w0 W gs pss) (i g : Nat) (ps : List S52) (hg : gs[i]? = some g) (hp : pss[i]? = some ps) :
    ∃ A c, W.cell? ⟨g, 0, none⟩ = some (.slice A ps.length c) ∧ W.frozen? ⟨g, 0, none⟩ = false ∧ ps.length ≤ c ∧ Kd.F k52 W (fun k => w0.heap.size ≤ k ∧ k ∉ gs) A ps.length ps := by
  obtain ⟨A, c, hb, hc, hF, _⟩ := (h.at_ i g ps hg hp).out
  exact ⟨A, c, by simp [World.cell?, hb], by simp [World.frozen?, hb], hc, hF⟩
theorem Fs.get2 {w0 W : World} {gs : List Nat} {pss : List (List S52)} (h : Fs w0 W gs pss) (i g n : Nat) (ps : List S52) (hg : gs[i]? = some g) (hp : pss[i]? = some ps) (hn : ps.length = n) :
    ∃ A c, W.cell? ⟨g, 0, none⟩ = some (.slice A n c) ∧ W.frozen? ⟨g, 0, none⟩ = false ∧ n ≤ c ∧ Kd.F k52 W (fun k => w0.heap.size ≤ k ∧ k ∉ gs) A n ps := hn ▸ h.get i g ps hg hp
theorem ebytes_calls (A : Option Addr) (n c : Nat) (ps : List S52) (w : World) (hF : Kd.C k52 w A n ps) (hn : n ≤ c) (hf : Few (ps.map toR)) :
    Calls Try.prog 25 #[.agg #[.slice A n c]] w fun e w' => ∃ A' c', e = .returned (.slice A' (cont (ps.map toR)).length c') ∧ Kd.C (Kd.int .u8) w' A' (cont (ps.map toR)).length (cont (ps.map toR)) ∧ (cont (ps.map toR)).length ≤ c' ∧
      Kd.R (Kd.int .u8) 5 w' w.heap.size (fun _ => True) (.slice A' (cont (ps.map toR)).length c') (cont (ps.map toR)) ∧ Below w.heap.size w w' := by
  have hl : ps.length = n := hF.1
  subst hl
  obtain ⟨K, hk⟩ := ebytes_ev ps hf
  refine (extent_File_Bytes.calls K A c ps _ w hF hn (hk K (Nat.le_refl _))).mono ?_
  rintro e w' ⟨v, rfl, hR, hb⟩
  obtain ⟨A', c', rfl⟩ := Kd.R_slice hR
  obtain ⟨_, h2, h3⟩ := Kd.R_reads' hR
  exact ⟨A', c', rfl, h3, h2, hR, hb⟩
/-- As the examples read it: the bytes, as a string. -/
theorem estr_calls (A : Option Addr) (n c : Nat) (ps : List S52) (w : World) (hF : Kd.C k52 w A n ps) (hn : n ≤ c) (hf : Few (ps.map toR)) (s : ByteArray) (hs : strOfNums (cont (ps.map toR)) = s) :
    Calls Try.prog 25 #[.agg #[.slice A n c]] w fun e w' => ∃ v, e = .returned v ∧ (convert 26 9 v).run Try.prog w' = .ok (.string s) w' ∧ Below w.heap.size w w' := by
  subst hs
  refine (ebytes_calls A n c ps w hF hn hf).mono ?_
  rintro e w' ⟨A', c', rfl, hC, hc, hR, hb⟩
  exact ⟨_, rfl, Kd.C_string Try.underlying26 Try.underlying5 Try.underlying9 hC, hb⟩
theorem evol_calls (A : Option Addr) (n c : Nat) (ps : List S52) (w : World) (hF : Kd.C k52 w A n ps) (hn : n ≤ c) (hf : Few (ps.map toR)) :
    Calls Try.prog 26 #[.agg #[.slice A n c]] w fun e w' => e = .returned (.int .i64 (volOf (ps.map toR) : Int)) ∧ Below w.heap.size w w' := by
  have hl : ps.length = n := hF.1
  subst hl
  obtain ⟨K, hk⟩ := evol_ev ps hf
  exact extent_File_Volatile.calls K A c ps _ w hF hn (hk K (Nat.le_refl _))
theorem evol2_calls (A : Option Addr) (n c : Nat) (ps : List S52) (w : World) (hF : Kd.C k52 w A n ps) (hn : n ≤ c) (hf : Few (ps.map toR)) (v : Int) (hv : (volOf (ps.map toR) : Int) = v) :
    Calls Try.prog 26 #[.agg #[.slice A n c]] w fun e w' => e = .returned (.int .i64 v) ∧ Below w.heap.size w w' := hv ▸ evol_calls A n c ps w hF hn hf
theorem Few.small (ps : List S85) (hl : ps.length ≤ 100000) (h : ps.all (fun p => p.f0.length ≤ 1000000) = true) : Few ps := ⟨hl, fun p hp => by have := List.all_eq_true.mp h p hp; simpa using this⟩
end Go.Proofs.Ytbpnbhccdpobpaa
