import Derived.Test.YtbpnbhccdpobpaaE1
import Derived.Deep.Strs
import Derived.ChangeArms
import Derived.DataReads
/-! What an argument's data say, as rows. -/
set_option linter.unusedVariables false
set_option linter.unusedSimpArgs false
namespace Go.Proofs.Ytbpnbhccdpobpaa
open Go.RowKit Go.Proofs.YtbpnbhccdpobpaaW.PrintWords Go.Deep

theorem read_rows {α : Type} {d : Kd α} {w : World} {base : Nat} {a : Addr} (n : Nat) (h : ∀ i, i < n → ∃ cs', w.cells? base (a.add (i * d.sz)) d.sz = some cs' ∧ ∃ x, d.K w x cs') :
    ∃ xs : List α, xs.length = n ∧ ∀ j p, xs[j]? = some p → ∃ c, c.length = d.sz ∧ d.K w p c ∧ ∀ i u, c[i]? = some u → w.cell? (a.add (j * d.sz + i)) = some u := by
  induction n with
  | zero => exact ⟨[], rfl, fun j p hj => by simp at hj⟩
  | succ n ih =>
    obtain ⟨xs, hl, hx⟩ := ih (fun i hi => h i (by omega))
    obtain ⟨cs', hc, x, hK⟩ := h n (by omega)
    refine ⟨xs ++ [x], by rw [List.length_append, hl]; rfl, fun j p hj => ?_⟩
    by_cases hjn : j < n
    · rw [List.getElem?_append_left (by omega)] at hj
      exact hx j p hj
    · rw [List.getElem?_append_right (by omega)] at hj
      have hj0 : j = n := by
        have := (List.getElem?_eq_some_iff.mp hj).1
        simp at this
        omega
      subst hj0
      rw [hl, Nat.sub_self] at hj
      simp only [List.getElem?_cons_zero, Option.some.injEq] at hj
      subst hj
      obtain ⟨_, hcl, hcc⟩ := World.cells?_some hc
      refine ⟨cs', hcl, hK, fun i u hu => ?_⟩
      have hi : i < d.sz := by rw [← hcl]; exact (List.getElem?_eq_some_iff.mp hu).1
      rw [← Addr.add_add, hcc i hi, hu]
section
variable {H : Type} {enc : TypeId × Value → H} {P : Program} {w : World} {base : Nat} {spare : Nat → Bool} {held : Bool}
theorem read_slice {α : Type} {d : Kd α} {t e fuel : Nat} {cs : List Value} {x : DataW H × List MemPlace} (ht : P.underlying t = some (.slice e)) (hs : P.cellsOf e = d.sz)
    (he : ∀ (n : Nat) (cs' : List Value) (y : DataW H × List MemPlace), DataW.trod enc P w base spare held n e cs' = some y → ∃ a, d.K w a cs') (h : DataW.trod enc P w base spare held fuel t cs = some x) :
    ∃ xs : List α, (Kd.slice e d).K w xs cs := by
  rcases open_slice ht h with ⟨rfl, _⟩ | ⟨a, len, cap, m, n, D, Pl, rfl, hb, hl, hm, hmm, _, hx⟩
  · exact ⟨[], none, 0, rfl, Nat.le_refl _, rfl, Nat.zero_le _, fun hp => absurd hp (Nat.lt_irrefl _)⟩
  · have hlm : len ≤ m := by rw [hmm]; split <;> omega
    obtain ⟨xs, hxl, hxx⟩ := read_rows (d := d) (w := w) (base := base) (a := a) len (fun i hi => by
      obtain ⟨cs', h1, h2⟩ := hx i (by omega)
      rw [hs] at h1
      exact ⟨cs', h1, he _ _ _ h2⟩)
    have hmx : cap ≤ 9223372036854775807 := hm
    exact ⟨xs, some a, cap, by rw [hxl], by omega, rfl, by omega, fun _ => ⟨a, rfl, hxx⟩⟩
theorem read_int {k : IntKind} {t fuel : Nat} {cs : List Value} {x : DataW H × List MemPlace} (ht : P.underlying t = some (.int k)) (h : DataW.trod enc P w base spare held fuel t cs = some x) : ∃ a, (Kd.int k).K w a cs := by
  obtain ⟨n, rfl, _⟩ := DataW.trod_int ht h
  exact ⟨n, rfl⟩
theorem read_bool {t fuel : Nat} {cs : List Value} {x : DataW H × List MemPlace} (ht : P.underlying t = some .bool) (h : DataW.trod enc P w base spare held fuel t cs = some x) : ∃ a, Kd.bool.K w a cs := by
  obtain ⟨n, rfl, _⟩ := DataW.trod_bool ht h
  exact ⟨n, rfl⟩
end
end Go.Proofs.Ytbpnbhccdpobpaa
