import Derived.Test.YtbpnbhccdpobpaaWMore
import Derived.Shelf.SlSortCmp.WholeK
import Derived.Shelf.SlSortCmp.NoneTotal
/-! Rows of structs, and what slices.SortFunc leaves of them. -/
set_option linter.unusedVariables false
set_option linter.unusedSimpArgs false
namespace Go.Proofs.Ytbpnbhccdpobpaa
open Go Go.RowKit Go.Proofs.YtbpnbhccdpobpaaW.PrintWords Go.Sort

section
variable {α : Type} [Inhabited α] {d : Kd α} {enc : α → List Value} {k : Nat}
theorem chunk_at {xs : List α} {inner : List Value} {R : α → List Value → Prop} (hR : Reps R k xs inner) (ho : ∀ x cs, R x cs → cs = enc x) (hk : ∀ x, (enc x).length = k) (hk0 : 0 < k) (j : Nat) (hj : j < xs.length * k) :
    inner[j]? = some ((enc (xs.toArray[j / k]!))[j % k]!) := by
  have hq : j / k < xs.length := (Nat.div_lt_iff_lt_mul hk0).mpr hj
  have hx : xs[j / k]? = some xs[j / k] := List.getElem?_eq_getElem hq
  have hc := ho _ _ (hR.2 (j / k) _ hx)
  have hm : j % k < k := Nat.mod_lt _ hk0
  have e1 : xs.toArray[j / k]! = xs[j / k] := by simp [hq]
  rw [e1]
  have e2 : (enc xs[j / k])[j % k]? = inner[j]? := by
    rw [← hc, List.getElem?_take_of_lt hm, List.getElem?_drop]
    congr 1
    have := Nat.div_add_mod j k
    rw [Nat.mul_comm] at this
    omega
  rw [← e2, List.getElem?_eq_getElem (by rw [hk]; exact hm), List.getElem!_eq_getElem?_getD, List.getElem?_eq_getElem (by rw [hk]; exact hm)]
  rfl
theorem row_holds {e base g cap : Nat} {w : World} {ok : Nat → Prop} {xs : List α} (hsz : d.sz = k) (hk0 : 0 < k) (hk : ∀ x, (enc x).length = k) (ho : ∀ w base ok x cs, d.M w base ok x cs → cs = enc x)
    (h : d.R e w base ok (.slice (some ⟨g, 0, none⟩) xs.length cap) xs) : HoldsK enc k w g 0 xs.toArray ∧ g < w.heap.size := by
  obtain ⟨_, inner, ⟨hl, hown⟩, hr⟩ := h
  rw [hsz] at hl hown hr
  rcases hown with ⟨h1, _⟩ | ⟨g', cap', cur, h1, _, hb, _, _, _, ht⟩
  · cases h1
  · injection h1 with h1 _ _
    injection h1 with h1
    injection h1 with h1
    subst h1
    refine ⟨fun j hj => ?_, (Array.getElem?_eq_some_iff.1 hb).1⟩
    rw [size_flatK, List.size_toArray] at hj
    refine ⟨?_, by simp [World.frozen?, hb]⟩
    rw [blk_cell hb (0 + j), Nat.zero_add, get_flatK enc k _ _ (by rw [List.size_toArray]; exact hj)]
    show cur[j]? = some ((enc (xs.toArray[j / k]!))[j % k]!)
    rw [← chunk_at hr (fun x cs => ho _ _ _ x cs) hk hk0 j hj, ← ht, List.getElem?_take_of_lt hj, Array.getElem?_toList]
theorem row_sorted {e base g cap n : Nat} {w : World} {ok : Nat → Prop} {xs ys : List α} {os : Array Obj} (hsz : d.sz = k) (hk0 : 0 < k) (hk : ∀ x, (enc x).length = k) (hE : d.E = []) (hmk : ∀ w base ok x, d.M w base ok x (enc x))
    (hlen : ys.length = xs.length) (h : d.R e w base ok (.slice (some ⟨g, 0, none⟩) xs.length cap) xs) :
    d.R e (sortWorldK enc k w g 0 n ys.toArray os) base ok (.slice (some ⟨g, 0, none⟩) xs.length cap) ys ∧ w.grownBy (sortWorldK enc k w g 0 n ys.toArray os) (some g) := by
  obtain ⟨hok, inner, ⟨hl, hown⟩, hr⟩ := h
  rw [hsz] at hl hown hr
  rcases hown with ⟨h1, _⟩ | ⟨g', cap', cur, h1, hbase, hb, hnc, hcm, hcs, ht⟩
  · cases h1
  · injection h1 with h1 _ h2
    injection h1 with h1
    injection h1 with h1
    subst h1 h2
    have hg : g < w.heap.size := (Array.getElem?_eq_some_iff.1 hb).1
    have hblk : (sortWorldK enc k w g 0 n ys.toArray os).heap[g]? = some (.cells (putCells id 0 (flatK enc k ys.toArray) cur) e (0, 0)) := by
      unfold sortWorldK
      rw [heap_grow_old _ _ (by simp [putRowK, size_putRow, Sort.ahead]; exact hg)]
      simp [putRowK, putRow, mapBlock, Sort.ahead, Array.getElem?_modify, hb, onCells]
    have hsize : (putCells id 0 (flatK enc k ys.toArray) cur).size = cur.size := by simp [putCells]
    have hLen : (putCells id 0 (flatK enc k ys.toArray) cur).toList.length = cur.size := (Array.length_toList ..).trans hsize
    have hle : xs.length * k ≤ cur.size := by rw [hcs]; exact Nat.mul_le_mul_right k hnc
    have hget : ∀ t, t < ys.length * k → (putCells id 0 (flatK enc k ys.toArray) cur).toList[t]? = some ((enc (ys.toArray[t / k]!))[t % k]!) := by
      intro t htk
      have hcur : t < cur.size := by rw [hlen] at htk; omega
      rw [Array.getElem?_toList, Array.getElem?_eq_getElem (by rw [hsize]; exact hcur)]
      unfold putCells
      rw [Array.getElem_mapIdx, if_pos ⟨Nat.zero_le _, by rw [size_flatK, List.size_toArray]; omega⟩, Nat.sub_zero, get_flatK enc k _ _ (by rw [List.size_toArray]; exact htk)]
      rfl
    refine ⟨⟨hok, (putCells id 0 (flatK enc k ys.toArray) cur).toList.take (xs.length * k), ⟨?_, .inr ⟨g, cap, _, by rw [hlen], hbase, hblk, by rw [hlen]; exact hnc, hcm, by rw [hsize, hcs, hsz], by rw [hsz, hlen]⟩⟩, ?_⟩, ?_⟩
    · rw [List.length_take, hLen, hsz, hlen]; omega
    · rw [hsz]
      refine ⟨by rw [List.length_take, hLen, hlen]; omega, fun j p hp => ?_⟩
      have hj : j < ys.length := (List.getElem?_eq_some_iff.mp hp).1
      have e : ((((putCells id 0 (flatK enc k ys.toArray) cur).toList.take (xs.length * k)).drop (j * k)).take k) = enc p := by
        apply List.ext_getElem?
        intro t
        by_cases htk : t < k
        · have hjt : j * k + t < ys.length * k := by
            have : (j + 1) * k ≤ ys.length * k := Nat.mul_le_mul_right k hj
            rw [Nat.add_mul, Nat.one_mul] at this
            omega
          rw [List.getElem?_take_of_lt htk, List.getElem?_drop, List.getElem?_take_of_lt (by rw [← hlen]; exact hjt), hget _ hjt]
          have e1 : (j * k + t) / k = j := by rw [Nat.mul_comm, Nat.mul_add_div hk0, Nat.div_eq_of_lt htk, Nat.add_zero]
          have e2 : (j * k + t) % k = t := by rw [Nat.mul_comm, Nat.mul_add_mod, Nat.mod_eq_of_lt htk]
          rw [e1, e2]
          have e3 : ys.toArray[j]! = p := by
            have := (List.getElem?_eq_some_iff.mp hp).2
            simp [hj, this]
          rw [e3, List.getElem?_eq_getElem (by rw [hk]; exact htk), List.getElem!_eq_getElem?_getD, List.getElem?_eq_getElem (by rw [hk]; exact htk)]
          rfl
        · rw [List.getElem?_eq_none (by rw [List.length_take]; omega), List.getElem?_eq_none (by rw [hk]; omega)]
      rw [e]
      exact hmk _ _ _ p
    · unfold sortWorldK
      refine ⟨rfl, rfl, rfl, by simp [putRowK, size_putRow, Sort.ahead], fun i hi hne => ?_⟩
      rw [heap_grow_old _ _ (by simp [putRowK, size_putRow, Sort.ahead]; exact hi)]
      have : g ≠ i := fun e => hne (by rw [e])
      simp [putRowK, putRow, mapBlock, Sort.ahead, Array.getElem?_modify, this]
end
end Go.Proofs.Ytbpnbhccdpobpaa
