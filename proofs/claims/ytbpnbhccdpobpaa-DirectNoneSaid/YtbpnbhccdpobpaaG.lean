import Derived.Test.YtbpnbhccdpobpaaProg
import Derived.Test.YtbpnbhccdpobpaaWNEv
import Derived.Test.YtbpnbhccdpobpaaWMore
import Derived.WalkSpells
import Derived.WalkLawsBesides
import Derived.Laws.IdiomCopy
set_option linter.unusedVariables false
set_option linter.unusedSimpArgs false
/-! General words: rows that are read, and what walks ask of them. -/
namespace Go.Proofs.Ytbpnbhccdpobpaa
open Go.RowKit Go.Proofs.YtbpnbhccdpobpaaW.PrintWords

theorem F_nilA {α : Type} {d : Kd α} {w : World} {ok : Nat → Prop} {n : Nat} {xs : List α} (h : Kd.F d w ok none n xs) : n = 0 ∧ xs = [] := by
  obtain ⟨h1, _, h3⟩ := Kd.F_now h
  rcases Nat.eq_zero_or_pos n with h0 | hp
  · exact ⟨h0, List.eq_nil_of_length_eq_zero (by omega)⟩
  · obtain ⟨ad, e, _⟩ := h3 hp
    cases e
/-- What a call leaves as it was: all blocks that were there, but those of S; the streams. -/
def Fr (w W : World) (S : Nat → Prop) : Prop := w.heap.size ≤ W.heap.size ∧ (∀ i, i < w.heap.size → ¬ S i → W.heap[i]? = w.heap[i]?) ∧ W.os = w.os ∧ W.tape = w.tape ∧ W.output = w.output
namespace Fr
variable {w W W2 : World} {S S2 S' : Nat → Prop}
theorem kept (h : Fr w W S) : Kept w W S := ⟨h.1, h.2.1⟩
theorem refl (w : World) (S : Nat → Prop) : Fr w w S := ⟨Nat.le_refl _, fun _ _ _ => rfl, rfl, rfl, rfl⟩
theorem of_below (h : Below w.heap.size w W) (S : Nat → Prop) : Fr w W S := ⟨h.size, fun i hi _ => h.block i hi, h.os, h.tape, h.output⟩
theorem below (h : Fr w W S) (hS : ∀ k, S k → w.heap.size ≤ k) : Below w.heap.size w W := ⟨h.2.2.1, h.2.2.2.1, h.2.2.2.2, h.1, fun i hi => h.2.1 i hi (fun hs => by have := hS i hs; omega)⟩
theorem mono (h : Fr w W S) (hs : ∀ k, S k → S' k) : Fr w W S' := ⟨h.1, fun i hi hn => h.2.1 i hi (fun hk => hn (hs i hk)), h.2.2⟩
theorem then_ (h : Fr w W S) (k : Fr W W2 S2) (hs : ∀ k, S2 k → S k ∨ w.heap.size ≤ k) : Fr w W2 S :=
  ⟨Nat.le_trans h.1 k.1, fun i hi hn => (k.2.1 i (Nat.lt_of_lt_of_le hi h.1) (fun h2 => (hs i h2).elim hn (fun hle => by omega))).trans (h.2.1 i hi hn), k.2.2.1.trans h.2.2.1, k.2.2.2.1.trans h.2.2.2.1, k.2.2.2.2.trans h.2.2.2.2⟩
theorem of_grown {row : Option Nat} (hg : W.grownBy W2 row) (h : Fr w W S) (hr : ∀ k, row = some k → S k ∨ w.heap.size ≤ k) : Fr w W2 S :=
  ⟨Nat.le_trans h.1 hg.size, fun i hi hn => (hg.block i (Nat.lt_of_lt_of_le hi h.1) (fun he => (hr i he.symm).elim hn (fun hle => by omega))).trans (h.2.1 i hi hn), hg.os.trans h.2.2.1, hg.tape.trans h.2.2.2.1, hg.output.trans h.2.2.2.2⟩
theorem alloc (h : Fr w W S) (o : Obj) : Fr w (W.alloc o) S := h.then_ (of_below (below_alloc (Below.refl _ _) o) (fun _ => False)) (fun _ hk => hk.elim)
theorem then_below (h : Fr w W S) (hb : Below W.heap.size W W2) : Fr w W2 S := h.then_ (of_below hb (fun _ => False)) (fun _ hk => hk.elim)
theorem drew (h : Fr w W S) : Fr w W.drew S := h
theorem drewN (h : Fr w W S) (m : Nat) : Fr w (W.drewN m) S := h
theorem setCell (h : Fr w W S) {p : Addr} (hp : S p.block ∨ w.heap.size ≤ p.block) (u : Value) : Fr w (W.setCell p u) S :=
  ⟨by simpa [World.setCell] using h.1, fun i hi hn => (Below.heap_setCell W p u i (fun he => by subst he; exact hp.elim hn (fun hle => by omega))).trans (h.2.1 i hi hn), h.2.2⟩
end Fr
theorem cell_allocs {w : World} {a : Addr} {v : Value} (h : w.cell? a = some v) : ∀ o, (w.alloc o).cell? a = some v := fun o => pw_cell_below (below_alloc (Below.refl _ _) o) h
theorem frozen_allocs {w : World} {a : Addr} {v : Value} (h : w.cell? a = some v) (hf : w.frozen? a = false) : ∀ o, (w.alloc o).frozen? a = false := fun o => by
  rw [← hf]; exact World.frozen?_of_block (Below.heap_alloc w o a.block (World.block_lt_of_cell? w a h))
theorem N_empty {α : Type} (d : Kd α) (e : Nat) (w : World) (ok : Nat → Prop) (h : ok w.heap.size) : Kd.N d e (w.alloc (.cells #[] e)) w.heap.size ok (.slice (some ⟨w.heap.size, 0, none⟩) 0 0) [] := by
  refine ⟨fun k hk => ?_, [], rfl, ⟨fun k hk => hk.symm, [], ⟨by simp, .inr ⟨w.heap.size, 0, #[], rfl, Nat.le_refl _, ?_, Nat.le_refl _, by decide, by simp, by simp⟩⟩, Reps.none _ _⟩, fun j x c hx => by simp at hx⟩
  · have : w.heap.size = k := by simpa [Value.ownBlock] using hk
    rw [← this]; exact h
  · exact blk_new _ _
theorem R_empty {α : Type} (d : Kd α) (e : Nat) (w : World) (ok : Nat → Prop) (h : ok w.heap.size) : Kd.R d e (w.alloc (.cells #[] e)) w.heap.size ok (.slice (some ⟨w.heap.size, 0, none⟩) 0 0) [] := by
  refine ⟨fun k hk => ?_, [], ⟨by simp, .inr ⟨w.heap.size, 0, #[], rfl, Nat.le_refl _, ?_, Nat.le_refl _, by decide, by simp, by simp⟩⟩, Reps.none _ _⟩
  · have : w.heap.size = k := by simpa [Value.ownBlock] using hk
    rw [← this]; exact h
  · exact blk_new _ _
/-- The first place at which p holds, or -1. -/
def idxOf {α : Type} (p : α → Bool) : List α → Nat → Int
  | [], _ => -1
  | x :: r, k => if p x = true then (k : Int) else idxOf p r (k + 1)
theorem idxOf_hit {α : Type} (p : α → Bool) : ∀ (l : List α) (k m : Nat) (hk : k < l.length), (∀ j, (hj : j < k) → p (l[j]'(by omega)) = false) → p l[k] = true → idxOf p l m = ((m + k : Nat) : Int)
  | [], k, m, hk, _, _ => absurd hk (Nat.not_lt_zero _)
  | x :: r, 0, m, hk, _, h => by simp only [idxOf]; rw [if_pos (show p x = true from h)]; rfl
  | x :: r, k + 1, m, hk, hj, h => by
    simp only [idxOf]
    have h0 := hj 0 (by omega)
    rw [if_neg (by rw [show p x = false from h0]; decide), idxOf_hit p r k (m + 1) (by simpa using hk) (fun j hjk => hj (j + 1) (by omega)) h]
    congr 1; omega
theorem idxOf_miss {α : Type} (p : α → Bool) : ∀ (l : List α) (m : Nat), (∀ j, (hj : j < l.length) → p l[j] = false) → idxOf p l m = -1
  | [], m, _ => rfl
  | x :: r, m, hj => by
    simp only [idxOf]
    rw [if_neg (by rw [show p x = false from hj 0 (by simp)]; decide)]
    exact idxOf_miss p r (m + 1) (fun j h => hj (j + 1) (by simpa using h))
theorem len2 {α : Type} {c : List α} (h : c.length = 2) : ∃ a b, c = [a, b] := by
  match c, h with
  | [a, b], _ => exact ⟨a, b, rfl⟩
theorem len3 {α : Type} {c : List α} (h : c.length = 3) : ∃ a b d, c = [a, b, d] := by
  match c, h with
  | [a, b, d], _ => exact ⟨a, b, d, rfl⟩
/-- Element k of a row that is read, by its cells: two of them. -/
theorem F_at2 {α : Type} {d : Kd α} {w : World} {ok : Nat → Prop} {A : Option Addr} {n : Nat} {xs : List α} (h : Kd.F d w ok A n xs) (hs : d.sz = 2) (k : Nat) (hk : k < xs.length) :
    ∃ ad c0 c1, A = some ad ∧ w.cell? (ad.add (k * 2)) = some c0 ∧ w.cell? ⟨(ad.add (k * 2)).block, (ad.add (k * 2)).off + 1, none⟩ = some c1 ∧ Kd.FK d w ok xs[k] [c0, c1] ∧ ok ad.block := by
  have hl := Kd.F_len h
  obtain ⟨ad, c, e, hcl, hK, hcc, hok⟩ := Kd.F_get h xs[k] (k : Int) (by omega) (by omega)
  simp only [Int.toNat_natCast] at hK hcc
  rw [List.getD_eq_getElem?_getD, List.getElem?_eq_getElem hk] at hK
  obtain ⟨c0, c1, rfl⟩ := len2 (hcl.trans hs)
  have h0 := hcc 0 c0 rfl
  have h1 := hcc 1 c1 rfl
  rw [hs] at h0 h1
  exact ⟨ad, c0, c1, e, by simpa using h0, by rw [← add_field _ _ 1 (by omega)]; exact h1, hK, hok (by omega)⟩
theorem _root_.Go.Proofs.YtbpnbhccdpobpaaW.PrintWords.KeepBut.of_grown_g {w w1 : World} {g : Nat} (h : w.grownBy w1 (some g)) : KeepBut w w1 g none := ⟨h.size, fun i hi hg _ => h.block i hi (fun he => hg (by injection he))⟩
/-- clear(s[m:]): what stands ahead is as it was. -/
theorem N_clear {α : Type} {d : Kd α} {e base g n c m : Nat} {w : World} {ok : Nat → Prop} {xs : List α} (h : Kd.N d e w base ok (.slice (some ⟨g, 0, none⟩) n c) xs) (hm : m ≤ n) (zs : List Value) (hz : zs.length = (n - m) * d.sz) :
    Kd.N d e (w.setCells g (m * d.sz) zs) base ok (.slice (some ⟨g, 0, none⟩) m c) (xs.take m) ∧ w.grownBy (w.setCells g (m * d.sz) zs) (some g) := by
  have hsame := setCells_same g zs (m * d.sz) w
  have hg : w.grownBy (w.setCells g (m * d.sz) zs) (some g) := ⟨hsame.1, hsame.2.1, hsame.2.2.1, by rw [hsame.2.2.2]; exact Nat.le_refl _, fun i hi hne => setCells_far zs _ i (fun he => hne (by rw [he]))⟩
  refine ⟨?_, hg⟩
  have hx : n = xs.length := (Kd.N_reads' h).1
  obtain ⟨h0, rows, hl, hR, hf⟩ := Kd.N_take h (m := m) (by omega)
  refine ⟨h0, rows, hl, ?_, fun j x cc hx hc => Kd.FK_step (hf j x cc hx hc) (fun k hk hlt => setCells_far zs _ k (fun he => hk.2 (by rw [he]; rfl)))⟩
  obtain ⟨_, rows0, hl0, hR0, _⟩ := h
  obtain ⟨hok, inner, ho, hr⟩ := hR
  refine ⟨hok, inner, ?_, hr⟩
  obtain ⟨h1, h2⟩ := ho
  refine ⟨h1, ?_⟩
  rcases h2 with ⟨he, _⟩ | ⟨g', cap, cur, he, hb, hh, hnc, hcm, hcs, ht⟩
  · cases he
  · injection he with ha hlen hc
    injection ha with ha
    injection ha with ha
    subst ha; subst hc
    have hnc' : n ≤ c := (Kd.R_reads' hR0).2.1
    have hsz : (Kd.raw d.sz).sz = d.sz := rfl
    rw [hsz] at hcs ht h1
    have hle : m * d.sz + zs.length ≤ cur.size := by
      rw [hz, hcs, ← Nat.add_mul]
      exact Nat.mul_le_mul_right _ (by omega)
    obtain ⟨cur', h3, h4, h5⟩ := setCells_row zs (m * d.sz) w cur hh hle
    refine .inr ⟨g, c, cur', by rw [hlen], hb, h3, hnc, hcm, by rw [h4, hsz]; exact hcs, ?_⟩
    rw [hsz, ← ht, h5, ← hlen, List.append_assoc, List.take_append_of_le_length (by rw [List.length_take, Array.length_toList]; omega), List.take_take, Nat.min_self]
theorem run_clear_cells {P : Program} (w : World) (t e : TypeId) (z : Value) (ht : P.underlying t = some (.slice e)) (hv : ∀ w, (zeroValue e).run P w = .ok z w) (sz : Nat) (hz : z.cells.size = sz) (h1 : ∀ v ∈ z.cells.toList, v.oneCell' = true) (h0 : 0 < sz) (b o n c : Nat) (hn : 0 < n)
    (hc : ∀ j, j < n * sz → (w.cell? ⟨b, o + j, none⟩).isSome = true) (hf : ∀ j, j < n * sz → w.frozen? ⟨b, o + j, none⟩ = false) :
    ∃ zs : List Value, zs.length = n * sz ∧ ∀ ty, (Builtin.clear_ #[t] ty #[.slice (some ⟨b, o, none⟩) n c]).run P w = .ok (.tuple #[]) (w.setCells b o zs) := by
  have hlen : (Builtin.zeroCells z.cells n).toList.length = n * sz := by simp [Builtin.zeroCells, hz]
  refine ⟨(Builtin.zeroCells z.cells n).toList, hlen, fun ty => ?_⟩
  have hst := run_storeCells_cells (P := P) b o (Builtin.zeroCells z.cells n).toList 0 w (by simpa [hlen] using hc) (by simpa [hlen] using hf) (by
    intro v hv'
    simp only [Builtin.zeroCells, Array.toList_map, List.mem_map] at hv'
    obtain ⟨i, hi, rfl⟩ := hv'
    have hlt : i % z.cells.size < z.cells.size := Nat.mod_lt _ (by omega)
    rw [getElem!_pos z.cells _ hlt]
    exact h1 _ (by simp))
  simp only [Nat.add_zero] at hst
  obtain ⟨m, rfl⟩ : ∃ m, n = m + 1 := ⟨n - 1, by omega⟩
  simp [Builtin.clear_, run_underlying ht, hv, hst]
/-- A row of one's own, told by its cells. -/
theorem N_of_reps {α : Type} {d : Kd α} {e base : Nat} {w : World} {ok okp : Nat → Prop} {v : Value} {xs : List α} {inner : List Value} (ho : w.ownsRow base e d.sz v xs.length inner) (hr : Reps (Kd.FK d w okp) d.sz xs inner)
    (h0 : ∀ k, v.ownBlock = some k → ok k) (hok : ∀ k, okp k → ok k ∧ some k ≠ v.ownBlock) : Kd.N d e w base ok v xs := by
  refine ⟨h0, Kd.chunks d.sz xs.length inner, Kd.chunks_length _ _ _, ⟨fun k hk => hk.symm, inner, by rw [Kd.chunks_length]; exact ho, Kd.reps_raw hr (fun x c hp => ⟨d.K_len (Kd.FK_now hp), d.K_one (Kd.FK_now hp)⟩)⟩, fun j x c hx hc => ?_⟩
  rw [Kd.chunks_get hc]
  exact Kd.FK_mono (hr.2 j x hx) hok
/-- A row that is read, flat. -/
theorem F_flat {α : Type} {d : Kd α} {w : World} {ok : Nat → Prop} {A : Option Addr} {n : Nat} {xs : List α} (h : Kd.F d w ok A n xs) :
    ∃ inner : List Value, inner.length = n * d.sz ∧ Reps (Kd.FK d w ok) d.sz xs inner ∧ ∀ b, A = some b → ∀ j u, inner[j]? = some u → w.cell? (b.add j) = some u := by
  cases A with
  | none =>
    obtain ⟨rfl, rfl⟩ := F_nilA h
    exact ⟨[], by simp, Reps.none _ _, fun b hb => by cases hb⟩
  | some a =>
    obtain ⟨inner, h1, h2⟩ := ReadsRow.inner_ (Kd.F_rows h)
    exact ⟨inner, by rw [h1.1, Kd.F_len h], h1, fun b hb j u hj => by injection hb with hb; subst hb; exact h2 j u hj⟩
/-- A store into a row of one's own, elements of one cell. -/
theorem R_set1 {α : Type} (enc : α → Value) {h1 : ∀ x : α, (enc x).oneCell' = true} {e base g n c : Nat} {w : World} {ok : Nat → Prop} {xs : List α} (h : Kd.R (Kd.scalar enc h1) e w base ok (.slice (some ⟨g, 0, none⟩) n c) xs) (k : Nat) (hk : k < n) (x : α) (z : α) :
    Kd.R (Kd.scalar enc h1) e (w.setCell ⟨g, k, none⟩ (enc x)) base ok (.slice (some ⟨g, 0, none⟩) n c) (xs.set k x) := by
  obtain ⟨cc, hcl, hM, hcc, _⟩ := Kd.R_elem h z (k : Int) (by omega) (by omega)
  have hs : (Kd.scalar enc h1).sz = 1 := rfl
  have h2 := Kd.R_seg h (k : Int) (by omega) (by omega) (seg := [enc x]) (j := 0) (x' := x) (okp := fun _ => False) hcl hcc (Nat.le_refl 1) (by
    rw [List.take_zero, List.nil_append, List.drop_eq_nil_of_le (by rw [hcl]; exact Nat.le_refl 1), List.append_nil]; rfl) (fun k hk => hk.elim)
  have h3 := h2.1
  rw [Int.toNat_natCast, hs, Nat.mul_one, Nat.add_zero] at h3
  exact h3
/-- Cell k of such a row. -/
theorem R_get1 {α : Type} (enc : α → Value) {h1 : ∀ x : α, (enc x).oneCell' = true} {e base g n c : Nat} {w : World} {ok : Nat → Prop} {xs : List α} (h : Kd.R (Kd.scalar enc h1) e w base ok (.slice (some ⟨g, 0, none⟩) n c) xs) (k : Nat) (hk : k < xs.length) :
    w.cell? ⟨g, k, none⟩ = some (enc xs[k]) ∧ w.frozen? ⟨g, k, none⟩ = false := by
  have hn := (Kd.R_reads' h).1
  obtain ⟨cc, hcl, hM, hcc, hf⟩ := Kd.R_elem h xs[k] (k : Int) (by omega) (by omega)
  have hs : (Kd.scalar enc h1).sz = 1 := rfl
  rw [Int.toNat_natCast, List.getD_eq_getElem?_getD, List.getElem?_eq_getElem hk] at hM
  have hc : cc = [enc xs[k]] := hM
  subst hc
  have h2 := hcc 0 _ rfl
  have h3 := hf 0
  rw [Int.toNat_natCast, hs, Nat.mul_one, Nat.add_zero] at h2 h3
  exact ⟨h2, h3⟩
/-- Element k of a row that is read, elements of one cell. -/
theorem F_get1 {α : Type} (enc : α → Value) {h1 : ∀ x : α, (enc x).oneCell' = true} {n : Nat} {A : Option Addr} {w : World} {ok : Nat → Prop} {xs : List α} (h : Kd.F (Kd.scalar enc h1) w ok A n xs) (k : Nat) (hk : k < xs.length) :
    ∃ ad, A = some ad ∧ w.cell? (ad.add k) = some (enc xs[k]) ∧ ok ad.block := by
  have hn := Kd.F_len h
  obtain ⟨ad, cc, e, hcl, hM, hcc, hok⟩ := Kd.F_get h xs[k] (k : Int) (by omega) (by omega)
  have hs : (Kd.scalar enc h1).sz = 1 := rfl
  rw [Int.toNat_natCast, List.getD_eq_getElem?_getD, List.getElem?_eq_getElem hk] at hM
  have hc : cc = [enc xs[k]] := Kd.FK_now hM
  subst hc
  have h2 := hcc 0 _ rfl
  rw [Int.toNat_natCast, hs, Nat.mul_one, Nat.add_zero] at h2
  exact ⟨ad, e, h2, hok (by rw [hs]; exact Nat.one_pos)⟩
/-- Element k of a row of rows that is read. -/
theorem F_getS {α : Type} {e : Nat} {d : Kd α} {n : Nat} {A : Option Addr} {w : World} {ok : Nat → Prop} {xs : List (List α)} (h : Kd.F (Kd.slice e d) w ok A n xs) (k : Nat) (hk : k < xs.length) :
    ∃ ad A' c', A = some ad ∧ w.cell? (ad.add k) = some (.slice A' xs[k].length c') ∧ xs[k].length ≤ c' ∧ Kd.F d w ok A' xs[k].length xs[k] := by
  have hn := Kd.F_len h
  obtain ⟨ad, cc, e', hcl, hM, hcc, hok⟩ := Kd.F_get h xs[k] (k : Int) (by omega) (by omega)
  have hs : (Kd.slice e d).sz = 1 := rfl
  rw [Int.toNat_natCast, List.getD_eq_getElem?_getD, List.getElem?_eq_getElem hk] at hM
  obtain ⟨A', c', rfl, hl, hF⟩ := Kd.FK_now hM
  have h2 := hcc 0 _ rfl
  rw [Int.toNat_natCast, hs, Nat.mul_one, Nat.add_zero] at h2
  refine ⟨ad, A', c', e', h2, hl, fun W' hW' => ?_⟩
  obtain ⟨A'', c'', he, _, hF'⟩ := hM W' hW'
  injection he with he _
  injection he with hA _ _
  subst hA
  exact hF'
/-- A row whose elements lead nowhere: only its own block counts. -/
theorem R_own_step {α : Type} {d : Kd α} {e base : Nat} {w W : World} {ok : Nat → Prop} {v : Value} {xs : List α} (hE : d.E = []) (h : d.R e w base ok v xs) (hm : ∀ k, v.ownBlock = some k → W.heap[k]? = w.heap[k]?) : d.R e W base ok v xs :=
  Kd.R_mono (Kd.R_step (Kd.R_tight hE h) (fun k hk _ => hm k hk.symm)) (fun k hk => h.1 k hk.symm)
theorem add_zero' (a : Addr) : a.add 0 = a := by unfold Addr.add; rfl
theorem F_cutn {α : Type} {d : Kd α} {w : World} {ok : Nat → Prop} {A : Option Addr} {n c : Nat} {xs : List α} (h : Kd.F d w ok A n xs) (m : Nat) (hm : m ≤ n) (hc : n ≤ c) : Kd.F d w ok (if c = m then A else A.map (·.add (m * d.sz))) (n - m) (xs.drop m) := by
  have hl := Kd.F_len h
  subst hl
  have := Kd.F_cut h hm hc
  rw [List.length_drop] at this
  exact this
/-- 'xs[m:]' of a row that is read. -/
theorem cut1 {P : Program} {α : Type} {d : Kd α} (t e : TypeId) (ht : P.underlying t = some (.slice e)) (hi : (P.info? e).map (·.size) = some d.sz) {w : World} {ok : Nat → Prop} {A : Option Addr} {n c : Nat} {xs : List α} (h : Kd.F d w ok A n xs) (hc : n ≤ c) (m : Nat) (hm : m ≤ n) :
    ∃ A2, (∀ W : World, (Instr.slice t (.slice A n c) (some (.int .i64 (m : Int))) none none).run P W = .ok (.slice A2 (n - m) (c - m)) W) ∧ Kd.F d w ok A2 (n - m) (xs.drop m) := by
  obtain ⟨i, hi, hs⟩ := Option.map_eq_some_iff.1 hi
  have hl := Kd.F_len h
  subst hl
  refine ⟨if c = m then A else A.map (·.add (m * d.sz)), fun W => ?_, ?_⟩
  · have := cut_from (P := P) t e .i64 ht hi d.sz hs A xs.length c (m : Int) (by omega) (by omega) W
    rw [Int.toNat_natCast] at this
    exact this
  · have := Kd.F_cut h hm hc
    rw [List.length_drop] at this
    exact this
/-- A row that is turned into another one of the same length, element by element. -/
theorem mix_len {α : Type} (F L : List α) (hl : F.length = L.length) (k : Nat) (hk : k ≤ L.length) : (F.take k ++ L.drop k).length = L.length := by
  rw [List.length_append, List.length_take, List.length_drop]; omega
theorem mix_step {α : Type} (F L : List α) (hl : F.length = L.length) (k : Nat) (hk : k < F.length) : (F.take k ++ L.drop k).set k F[k] = F.take (k + 1) ++ L.drop (k + 1) := by
  have h1 : (F.take k).length = k := by rw [List.length_take]; omega
  rw [List.set_append, if_neg (by omega), h1, Nat.sub_self, List.drop_eq_getElem_cons (by omega), List.set_cons_zero, List.take_succ_eq_append_getElem hk, List.append_assoc]
  rfl
theorem mix_at {α : Type} (F L : List α) (hl : F.length = L.length) (k : Nat) (hk : k < L.length) (z : α) : (F.take k ++ L.drop k).getD k z = L[k] := by
  have h1 : (F.take k).length = k := by rw [List.length_take]; omega
  rw [List.getD_eq_getElem?_getD, List.getElem?_append_right (by omega), h1, Nat.sub_self, List.getElem?_drop, Nat.add_zero, List.getElem?_eq_getElem hk]
  rfl
/-- make([]T, m), elements of one cell. -/
theorem R_made1 {α : Type} (enc : α → Value) {h1 : ∀ x : α, (enc x).oneCell' = true} (W : World) (base : Nat) (e : TypeId) (m : Nat) (z : α) (hb : base ≤ W.heap.size) (hm : m ≤ 9223372036854775807) :
    Kd.R (Kd.scalar enc h1) e (W.alloc (.cells (madeCells #[enc z] m) e)) base (fun k => k = W.heap.size) (.slice (some ⟨W.heap.size, 0, none⟩) m m) (List.replicate m z) := by
  have h := World.ownsRow_lit (base := base) (e := e) (size := 1) W (madeCells #[enc z] m) m hb (by simpa [maxLen] using hm) (by simp [size_madeCells])
  have hl : (madeCells #[enc z] m).toList = encs enc (List.replicate m z) := by
    apply List.ext_getElem
    · simp [encs, madeCells]
    · intro i h1 h2
      simp [encs, madeCells, Nat.mod_one]
  rw [hl] at h
  exact Kd.R_of_own (xs := List.replicate m z) (by rw [List.length_replicate]; exact h) (fun j hj => by injection hj with hj; exact hj.symm)
end Go.Proofs.Ytbpnbhccdpobpaa
