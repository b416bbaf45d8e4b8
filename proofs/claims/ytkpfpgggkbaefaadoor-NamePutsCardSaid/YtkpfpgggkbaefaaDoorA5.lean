import Derived.Test.YtkpfpgggkbaefaaDoorA4
/-! name: Parse. -/
set_option linter.unusedVariables false
set_option linter.unusedSimpArgs false
namespace Go.Proofs.YtkpfpgggkbaefaaDoor
open Go.RowKit Go.Proofs.YtkpfpgggkbaefaaDoorW.PrintWords Go.Proofs.YtkpfpgggkbaefaaDoorW.PrintLast Go.Proofs.YtkpfpgggkbaefaaDoorW.PrintMore Go.Lib Plain

def kindOf (h : List UInt8) : Nat := if h = [115] then 1 else if h = [98] then 2 else if h = [116] then 3 else if h = [106] then 4 else 0
def numsOf : List (List UInt8) → Option (List Nat)
  | [] => some []
  | w :: r => match numOf w, numsOf r with
    | some x, some l => some (x :: l)
    | _, _ => none
def parseB (s : List UInt8) : Option Nm :=
  match Plain.cut s with
  | [] => none
  | h :: r => if kindOf h = 0 then none else if r.length = cntOf (kindOf h) then (match numsOf r with
    | some l => some (ofN (kindOf h) (l.getD 0 0) (l.getD 1 0) (l.getD 2 0) (l.getD 3 0))
    | none => none) else none
def nm0 : Nm := ⟨0, 0, 0, 0, 0, 0⟩
def parseN (s : List UInt8) : Nm := (parseB s).getD nm0
def parseOk (s : List UInt8) : Bool := (parseB s).isSome
theorem kindIx_kind (h : List UInt8) : kindIx ⟨h.toArray⟩ + 1 = kindOf h := by
  have e : ∀ c : UInt8, ((⟨h.toArray⟩ : ByteArray) = ⟨#[c]⟩) = (h = [c]) := fun c => by
    rw [ByteArray.mk.injEq]
    exact propext ⟨fun he => by have := congrArg Array.toList he; simpa using this, fun he => by rw [he]⟩
  unfold kindIx kindOf hd
  simp only [e, if_true, if_false, Nat.one_ne_zero, (by decide : ¬ (2 : Nat) = 0), (by decide : ¬ (2 : Nat) = 1), (by decide : ¬ (3 : Nat) = 0), (by decide : ¬ (3 : Nat) = 1), (by decide : ¬ (3 : Nat) = 2)]
  repeat' split
  all_goals first | rfl | simp_all
theorem idx_callsB (g c k : Nat) (ki : Int) (hki : (k : Int) - 1 = ki) (t : TypeId) (h : List UInt8) (w : World) (hh : w.heap[g]? = some (.cells headCells t (0, 0))) (hk : kindOf h = k) :
    Calls Tryd.prog 23 #[.slice (some ⟨g, 1, none⟩) 4 c, .string ⟨h.toArray⟩] w fun e w' => e = .returned (.int .i64 ki) ∧ Below w.heap.size w w' := by
  refine (idx_calls g c t ⟨h.toArray⟩ w hh).mono ?_
  rintro e w' ⟨rfl, rfl⟩
  have := kindIx_kind h
  exact ⟨by rw [show kindIx ⟨h.toArray⟩ = ki by omega], Below.refl _ _⟩
theorem splitV_calls (s : ByteArray) (hs : s.size < 4294967281) (ws : List (List UInt8)) (n : Nat) (hc : Plain.cut s.data.toList = ws) (hn : ws.length = n) (w : World) (hG : Glob w) :
    Calls Tryd.prog 21 #[.string s, .string ⟨#[45]⟩] w fun e w' => e = .returned (.slice (some ⟨w.heap.size, 0, none⟩) n n) ∧ w' = w.alloc (.cells (strL ws).toArray 9) := by
  obtain ⟨m, hm⟩ := hG.max
  have hsp := split_cut s.data.toList.length s.data.toList (Nat.le_refl _)
  have hd := splitB_data ⟨#[45]⟩ 0 (Lib.countB s ⟨#[45]⟩) s
  have hl := splitB_all ⟨#[45]⟩ (by decide) 0 _ s rfl
  have e : (Lib.splitB ⟨#[45]⟩ 0 (Lib.countB s ⟨#[45]⟩) s).map (·.data.toList) = ws := by
    rw [hd]
    exact hsp.trans hc
  have e2 : (Lib.splitB ⟨#[45]⟩ 0 (Lib.countB s ⟨#[45]⟩) s).map Value.string = strL ws := by
    rw [← e, strL, List.map_map]
    rfl
  have e3 : Lib.countB s ⟨#[45]⟩ + 1 = n := by rw [← hl, ← hn, ← e, List.length_map]
  refine (Tryd.strings_Split s ⟨#[45]⟩ m w hs hm (by decide)).mono ?_
  rintro _ w' ⟨rfl, rfl⟩
  rw [e2, e3]
  exact ⟨rfl, rfl⟩
theorem pu_some (x : List UInt8) (u : Nat) (h : numOf x = some u) (hx : x.length ≤ 200) (w : World) :
    Calls Tryd.prog 25 #[.string ⟨x.toArray⟩, .int .i64 10, .int .i64 64] w fun e w' => e = .returned (.tuple #[.int .u64 u, .nilIface]) ∧ Below w.heap.size w w' := by
  obtain ⟨hlt, rfl⟩ := numOf_some.mp h
  refine (Tryd.strconv_ParseUint_10_at64_ok ⟨(decDigits u).toArray⟩ (by show (decDigits u).toArray.size ≤ _; simp; omega) u (parse_dec hlt) w).mono ?_
  rintro e w' ⟨rfl, rfl | rfl⟩
  · exact ⟨rfl, Below.refl _ _⟩
  · exact ⟨rfl, bytes_below (Below.refl _ _) (Nat.le_refl _) _ _⟩
theorem pu_none (x : List UInt8) (h : numOf x = none) (hx : x.length ≤ 200) (w : World) (hG : Glob w) :
    (∃ u, u < 18446744073709551616 ∧ decDigits u ≠ x ∧ Calls Tryd.prog 25 #[.string ⟨x.toArray⟩, .int .i64 10, .int .i64 64] w fun e w' => e = .returned (.tuple #[.int .u64 u, .nilIface]) ∧ Below w.heap.size w w') ∨
    (∃ v, Calls Tryd.prog 25 #[.string ⟨x.toArray⟩, .int .i64 10, .int .i64 64] w fun e w' => (∃ N, e = .returned (.tuple #[.int .u64 v, .iface 91 (.pointer (some ⟨N, 0, none⟩))])) ∧ Below w.heap.size w w') := by
  cases hp : parseUintB 64 x with
  | ok u =>
    refine .inl ⟨u, parse_lt hp, fun he => ?_, ?_⟩
    · rw [numOf, hp] at h
      simp [he] at h
    · refine (Tryd.strconv_ParseUint_10_at64_ok ⟨x.toArray⟩ (by show x.toArray.size ≤ _; simp; omega) u hp w).mono ?_
      rintro e w' ⟨rfl, rfl | rfl⟩
      · exact ⟨rfl, Below.refl _ _⟩
      · exact ⟨rfl, bytes_below (Below.refl _ _) (Nat.le_refl _) _ _⟩
  | range =>
    obtain ⟨tp, p, hv⟩ := hG.rng
    refine .inr ⟨18446744073709551615, (Tryd.strconv_ParseUint_10_at64_range_var ⟨x.toArray⟩ (by show x.toArray.size ≤ _; simp; omega) hp tp p w hv).mono ?_⟩
    rintro e w' ⟨N, rfl, _, _, hb⟩
    exact ⟨⟨N, rfl⟩, hb⟩
  | _ =>
    obtain ⟨tp, p, hv⟩ := hG.syn_
    refine .inr ⟨0, (Go.Proofs.Any.strconv_ParseUint_10_at64_syntax_var Tryd.laysPu14 ⟨x.toArray⟩ (by show x.toArray.size ≤ _; simp; omega) hp tp p w hv).mono ?_⟩
    rintro e w' ⟨N, rfl, _, _, hb⟩
    exact ⟨⟨N, rfl⟩, hb⟩
theorem zcells {w : World} {g : Nat} {t : TypeId} (h : w.heap[g]? = some (.cells #[.int .u8 0, .int .u64 0, .int .u64 0, .int .u64 0, .int .u64 0, .int .u64 0] t (0, 0))) : (w.cell? ⟨g, 0, none⟩ = some (.int .u8 0) ∧ w.cell? ⟨g, 1, none⟩ = some (.int .u64 0) ∧ w.cell? ⟨g, 2, none⟩ = some (.int .u64 0) ∧ w.cell? ⟨g, 3, none⟩ = some (.int .u64 0) ∧ w.cell? ⟨g, 4, none⟩ = some (.int .u64 0) ∧ w.cell? ⟨g, 5, none⟩ = some (.int .u64 0)) ∧ (w.frozen? ⟨g, 0, none⟩ = false ∧ w.frozen? ⟨g, 1, none⟩ = false ∧ w.frozen? ⟨g, 2, none⟩ = false ∧ w.frozen? ⟨g, 3, none⟩ = false ∧ w.frozen? ⟨g, 4, none⟩ = false ∧ w.frozen? ⟨g, 5, none⟩ = false) := by
  refine ⟨⟨?_, ?_, ?_, ?_, ?_, ?_⟩, ?_, ?_, ?_, ?_, ?_, ?_⟩ <;> simp [World.cell?, World.frozen?, h]
theorem numsOf_snoc : ∀ (l : List (List UInt8)) (x : List UInt8) (a : List Nat) (u : Nat), numsOf l = some a → numOf x = some u → numsOf (l ++ [x]) = some (a ++ [u])
  | [], x, a, u, h, hx => by
    injection h with h
    subst h
    simp [numsOf, hx]
  | y :: l, x, a, u, h, hx => by
    simp only [numsOf] at h
    rw [List.cons_append]
    simp only [numsOf]
    cases hy : numOf y with
    | none => rw [hy] at h; cases h
    | some v =>
      cases hl : numsOf l with
      | none => rw [hy, hl] at h; cases h
      | some b =>
        rw [hy, hl] at h
        simp only [Option.some.injEq] at h
        subst h
        rw [numsOf_snoc l x b u hl hx]
        rfl
theorem numsOf_none : ∀ (l : List (List UInt8)) (x : List UInt8), x ∈ l → numOf x = none → numsOf l = none
  | [], _, h, _ => by cases h
  | y :: l, x, h, hx => by
    simp only [numsOf]
    rcases List.mem_cons.mp h with rfl | h
    · rw [hx]
    · rw [numsOf_none l x h hx]
      split
      · rename_i h2; cases h2
      · rfl
def arrC (m : List Nat) : Array Value := (m.map fun (x : Nat) => Value.int .u64 (x : Int)).toArray
/-- Where the loop stands: j numbers are read. -/
structure PS (w W : World) (gw g7 : Nat) (h : List UInt8) (r : List (List UInt8)) (j : Nat) (m : List Nat) : Prop where
  b : Below w.heap.size w W
  z : W.heap[w.heap.size]? = some (.cells #[.int .u8 0, .int .u64 0, .int .u64 0, .int .u64 0, .int .u64 0, .int .u64 0] 25 (0, 0))
  ws : W.heap[gw]? = some (.cells (strL (h :: r)).toArray 9 (0, 0))
  ar : W.heap[g7]? = some (.cells (arrC m) 53 (0, 0))
  ml : m.length = 4
  pre : numsOf (r.take j) = some (m.take j)
  zs : ∀ i, j ≤ i → m.getD i 0 = 0
theorem PS.below {w W W2 : World} {gw g7 : Nat} {h : List UInt8} {r : List (List UInt8)} {j : Nat} {m : List Nat} (H : PS w W gw g7 h r j m) (hb : Below W.heap.size W W2) : PS w W2 gw g7 h r j m :=
  ⟨below_step H.b hb, (hb.block _ (Array.getElem?_eq_some_iff.1 H.z).1).trans H.z, (hb.block _ (Array.getElem?_eq_some_iff.1 H.ws).1).trans H.ws, (hb.block _ (Array.getElem?_eq_some_iff.1 H.ar).1).trans H.ar, H.ml, H.pre, H.zs⟩
theorem PS.word {w W : World} {gw g7 : Nat} {h : List UInt8} {r : List (List UInt8)} {j : Nat} {m : List Nat} (H : PS w W gw g7 h r j m) (i : Nat) (hi : i < r.length) : W.cell? ⟨gw, 1 + i, none⟩ = some (.string ⟨r[i].toArray⟩) := by
  simp [World.cell?, H.ws, strL, Nat.add_comm 1 i, hi]
theorem PS.num {w W : World} {gw g7 : Nat} {h : List UInt8} {r : List (List UInt8)} {j : Nat} {m : List Nat} (H : PS w W gw g7 h r j m) (i : Nat) (hi : i < 4) : W.cell? ⟨g7, i, none⟩ = some (.int .u64 (m.getD i 0 : Nat)) ∧ W.frozen? ⟨g7, i, none⟩ = false := by
  have hm : i < m.length := by rw [H.ml]; exact hi
  constructor
  · simp [World.cell?, H.ar, arrC, hm]
  · simp [World.frozen?, H.ar]
theorem PS.put {w W : World} {gw g7 : Nat} {h : List UInt8} {r : List (List UInt8)} {j : Nat} {m : List Nat} (H : PS w W gw g7 h r j m) (u : Nat) (hj : j < 4) (hr : j < r.length) (hu : numOf r[j] = some u) (hg : w.heap.size ≤ g7) :
    PS w (W.setCell ⟨g7, j, none⟩ (.int .u64 u)) gw g7 h r (j + 1) (m.set j u) := by
  have hm : j < m.length := by rw [H.ml]; exact hj
  have hne1 : w.heap.size ≠ g7 := fun he => by
    have h1 := H.z; rw [he, H.ar] at h1; injection h1 with h1; injection h1 with _ h1; exact absurd h1 (by decide)
  have hne2 : gw ≠ g7 := fun he => by
    have h1 := H.ws; rw [he, H.ar] at h1; injection h1 with h1; injection h1 with _ h1; exact absurd h1 (by decide)
  refine ⟨H.b.setCell hg _, (Below.heap_setCell W _ _ _ hne1).trans H.z, (Below.heap_setCell W _ _ _ hne2).trans H.ws, ?_, by rw [List.length_set]; exact H.ml, ?_, ?_⟩
  · have e : (arrC m).setIfInBounds j (.int .u64 u) = arrC (m.set j u) := by simp [arrC, List.map_set]
    rw [← e]
    simp [World.setCell, Array.getElem?_modify, H.ar]
  · rw [List.take_succ_eq_append_getElem hr]
    have e : (m.set j u).take (j + 1) = m.take j ++ [u] := by
      rw [List.take_succ_eq_append_getElem (by rw [List.length_set]; exact hm), List.take_set, List.set_eq_of_length_le (by rw [List.length_take]; omega)]
      simp
    rw [e]
    exact numsOf_snoc _ _ _ _ H.pre hu
  · intro i hi
    have := H.zs i (by omega)
    rw [List.getD_eq_getElem?_getD, List.getElem?_set_ne (by omega), ← List.getD_eq_getElem?_getD]
    exact this
theorem getD_take {m : List Nat} {c : Nat} (h : ∀ i, c ≤ i → m.getD i 0 = 0) (i : Nat) : (m.take c).getD i 0 = m.getD i 0 := by
  rcases Nat.lt_or_ge i c with hi | hi
  · rw [List.getD_eq_getElem?_getD, List.getElem?_take_of_lt hi, ← List.getD_eq_getElem?_getD]
  · rw [h i hi, List.getD_eq_getElem?_getD, List.getElem?_eq_none (by rw [List.length_take]; omega)]
    rfl
theorem PS.parsed {w W : World} {gw g7 k : Nat} {h : List UInt8} {r : List (List UInt8)} {m : List Nat} {t : List UInt8} (H : PS w W gw g7 h r (cntOf k) m) (hk : kindOf h = k) (h0 : k ≠ 0) (hr : r.length = cntOf k) (hc : Plain.cut t = h :: r) :
    parseB t = some (ofN k (m.getD 0 0) (m.getD 1 0) (m.getD 2 0) (m.getD 3 0)) := by
  have hp := H.pre
  rw [List.take_of_length_le (by rw [hr]; exact Nat.le_refl _)] at hp
  unfold parseB
  rw [hc]
  simp only
  rw [hk, if_neg h0, if_pos hr, hp]
  simp only [getD_take H.zs]
theorem PS.four {w W : World} {gw g7 j : Nat} {h : List UInt8} {r : List (List UInt8)} {m : List Nat} (H : PS w W gw g7 h r j m) : ∃ m0 m1 m2 m3, m = [m0, m1, m2, m3] := by
  have := H.ml
  match m, this with
  | [a, b, c, d], _ => exact ⟨a, b, c, d, rfl⟩
theorem below6 {B b : Nat} {a w : World} (h : Below B a w) (hb : B ≤ b) (u0 u1 u2 u3 u4 u5 : Value) : Below B a ((((((w.setCell ⟨b, 0, none⟩ u0).setCell ⟨b, 1, none⟩ u1).setCell ⟨b, 2, none⟩ u2).setCell ⟨b, 3, none⟩ u3).setCell ⟨b, 4, none⟩ u4).setCell ⟨b, 5, none⟩ u5) := by
  refine Below.setCell ?_ (p := ⟨b, 5, none⟩) hb u5
  refine Below.setCell ?_ (p := ⟨b, 4, none⟩) hb u4
  refine Below.setCell ?_ (p := ⟨b, 3, none⟩) hb u3
  refine Below.setCell ?_ (p := ⟨b, 2, none⟩) hb u2
  refine Below.setCell ?_ (p := ⟨b, 1, none⟩) hb u1
  exact Below.setCell h (p := ⟨b, 0, none⟩) hb u0
theorem slice_heads (g : Nat) (W : World) : (Instr.sliceAt 48 (.pointer (some ⟨g, 0, none⟩)) (some (.int .i64 1)) none none).run Tryd.prog W = .ok (.slice (some ⟨g, 1, none⟩) 4 4) W := by
  kernel_rfl

set_option maxHeartbeats 4000000 in
set_option maxRecDepth 100000 in
theorem parse_1 (s : ByteArray) (hs : s.size ≤ 200) (h : List UInt8) (r : List (List UInt8)) (n : Nat) (hc : Plain.cut s.data.toList = h :: r) (hn : (h :: r).length = n) (hk : kindOf h = 1) (hw : ∀ x ∈ r, x.length ≤ 200) (w : World) (hG : Glob w) :
    Calls Tryd.prog 8 #[.string s] w fun e w' => e = .returned (.tuple #[.agg (parseN s.data.toList).cells, .bool (parseOk s.data.toList)]) ∧ Below w.heap.size w w' := by
  have HG := Aside0.mk hG
  have HC := Aside0.mk hc
  have HN := Aside0.mk hn
  have HK := Aside0.mk hk
  have HW := Aside0.mk hw
  have HS := Aside0.mk hs
  clear hG hc hn hk hw hs
  have hsh := fun g W => slice_heads g W
  have hcx : ∀ W, (Instr.index 51 (.agg #[.int .i64 0, .int .i64 2, .int .i64 2, .int .i64 3, .int .i64 4]) (.int .i64 1)).run Tryd.prog W = .ok (.int .i64 2) W := idx_countsI 1 (by decide)
  go_enter Tryd.func8, Tryd.ntmps8
  go_upto_region 2 with (go_at_call 21; refine (splitV_calls s (by have := HS.out; omega) (h :: r) n HC.out HN.out _ (HG.out.below (below_alloc (Below.refl _ _) _))).mono ?_; rintro e w2 ⟨rfl, rfl⟩)
  have HB2 := Aside0.mk (below_alloc (below_alloc (Below.refl w.heap.size w) (.cells #[.int .u8 0, .int .u64 0, .int .u64 0, .int .u64 0, .int .u64 0, .int .u64 0] 25)) (.cells (strL (h :: r)).toArray 9))
  have HZ2 := Aside0.mk (((below_alloc (Below.refl _ (w.alloc (.cells #[.int .u8 0, .int .u64 0, .int .u64 0, .int .u64 0, .int .u64 0, .int .u64 0] 25))) (.cells (strL (h :: r)).toArray 9)).block w.heap.size (by simp)).trans (heap_alloc_new w (.cells #[.int .u8 0, .int .u64 0, .int .u64 0, .int .u64 0, .int .u64 0, .int .u64 0] 25)))
  have HW2 := Aside0.mk (heap_alloc_new (w.alloc (.cells #[.int .u8 0, .int .u64 0, .int .u64 0, .int .u64 0, .int .u64 0, .int .u64 0] 25)) (.cells (strL (h :: r)).toArray 9))
  rw [World.size_alloc] at HW2
  generalize (w.alloc (.cells #[.int .u8 0, .int .u64 0, .int .u64 0, .int .u64 0, .int .u64 0, .int .u64 0] 25)).alloc (.cells (strL (h :: r)).toArray 9) = w2 at HB2 HZ2 HW2 ⊢
  have HL2 := Aside0.mk (show w.heap.size < w.heap.size + 1 by omega)
  generalize w.heap.size + 1 = gw at HW2 HL2 ⊢
  go_upto_region 3 with (go_at_call 22; refine (heads_calls _).mono ?_; rintro e w3 ⟨rfl, hb⟩; have HB3 := Aside0.mk (below_step HB2.out hb); have HZ3 := Aside0.mk ((hb.block _ (Array.getElem?_eq_some_iff.1 HZ2.out).1).trans HZ2.out); have HW3 := Aside0.mk ((hb.block _ (Array.getElem?_eq_some_iff.1 HW2.out).1).trans HW2.out); clear hb HB2 HZ2 HW2)
  have hb := below_alloc (Below.refl _ w3) (.cells headCells 48)
  have HB4 := Aside0.mk (below_step HB3.out hb)
  have HZ4 := Aside0.mk ((hb.block _ (Array.getElem?_eq_some_iff.1 HZ3.out).1).trans HZ3.out)
  have HW4 := Aside0.mk ((hb.block _ (Array.getElem?_eq_some_iff.1 HW3.out).1).trans HW3.out)
  have HH5 := Aside0.mk (heap_alloc_new w3 (.cells headCells 48))
  change Code.wp _ _ _ _ (w3.alloc (.cells headCells 48)) at ⊢
  generalize w3.alloc (.cells headCells 48) = w5 at HB4 HZ4 HW4 HH5 ⊢
  generalize w3.heap.size = g5 at HH5 ⊢
  clear hb HB3 HZ3 HW3
  have hd0 : w5.drew.cell? ⟨gw, 0, none⟩ = some (.string ⟨h.toArray⟩) := by show w5.cell? _ = _; simp [World.cell?, HW4.out, strL]
  have HBD := Aside0.mk (below_drew (Below.refl w5.heap.size w5))
  have hnN : 0 < n := by have := HN.out; rw [List.length_cons] at this; omega
  have hn0 : (0 : Int) < (n : Int) := by have := HN.out; rw [List.length_cons] at this; omega
  refine start_ (n := 7) (S := fun w' => w'.cell? ⟨gw, 0, none⟩ = some (.string ⟨h.toArray⟩)) (ds := []) #[false, false, false, false, false, false, false] (by kernel_rfl) rfl rfl (hd0) (fun hHeld => ?_)
  refine pure_ (i := 0) (N := some 15) (v := ?_) (a' := ?_) #[true, false, false, false, false, false, false] rfl rfl (by kernel_rfl) (fun _ _ _ h => h) (Or.inl ⟨by rfl, ?_⟩) ?_ ?_
  rotate_left
  · intro w'
    go_simp
    with_reducible rfl
  rotate_left
  · simp only [Act.put, List.setIfInBounds_toArray, List.set_cons_zero, List.set_cons_succ, i64_w, i32_w]
    rfl
  refine pure_ (i := 1) (N := some 16) (v := ?_) (a' := ?_) #[true, true, false, false, false, false, false] rfl rfl (by kernel_rfl) (fun _ _ _ h => h) (Or.inl ⟨by rfl, ?_⟩) ?_ ?_
  rotate_left
  · intro w'
    go_simp
    with_reducible rfl
  rotate_left
  · simp only [Act.put, List.setIfInBounds_toArray, List.set_cons_zero, List.set_cons_succ, i64_w, i32_w]
    rfl
  refine pure_ (i := 2) (N := some 17) (v := ?_) (a' := ?_) #[true, true, true, false, false, false, false] rfl rfl (by kernel_rfl) (fun _ _ _ h => h) (Or.inl ⟨by rfl, ?_⟩) ?_ ?_
  rotate_left
  · intro w'
    go_simp
    with_reducible rfl
  rotate_left
  · simp only [Act.put, List.setIfInBounds_toArray, List.set_cons_zero, List.set_cons_succ, i64_w, i32_w]
    rfl
  refine take_ (i := 3) (N := some 18) (v := ?_) (a' := ?_) #[true, true, true, true, false, false, false] rfl rfl (by kernel_rfl) (fun _ _ _ h => h) (Or.inl ⟨by rfl, ?_⟩) hHeld ?_ ?_
  rotate_left
  · intro w' s0
    go_simp
    with_reducible rfl
  rotate_left
  · simp only [Act.put, List.setIfInBounds_toArray, List.set_cons_zero, List.set_cons_succ, i64_w, i32_w]
    rfl
  refine one_ (i := 4) (N := some 19) #[true, true, true, true, true, false, false] rfl rfl (by kernel_rfl) (by decide) (fun K hK => ?_)
  refine goes_ Tryd.func23 (by kernel_rfl) rfl #[.slice (some ⟨g5, 1, none⟩) 4 4, .string ⟨h.toArray⟩] (by rfl) rfl rfl (by (try simp only [List.map_toArray, List.map_cons, List.map_nil]); first | done | rfl) ?_
  with_reducible refine (idx_callsB g5 4 1 0 rfl 48 h _ ((HBD.out.block g5 (Array.getElem?_eq_some_iff.1 HH5.out).1).trans HH5.out) HK.out).mono ?_
  rintro e wq4 ⟨rfl, hbq⟩
  refine ⟨_, rfl, ?_⟩
  have HBq4 := Aside0.mk (below_step HBD.out hbq)
  clear hbq
  refine hK.out _ _ (pw_cell_below HBq4.out hd0) (fun hHeld => ?_)
  clear hK K
  refine norm_ (a' := ?_) ?_ ?_
  rotate_left
  · show Act.put _ (some 19) _ = _
    simp only [Act.put, List.setIfInBounds_toArray, List.set_cons_zero, List.set_cons_succ, i64_w, i32_w]
    rfl
  refine pure_ (i := 5) (N := some 20) (v := ?_) (a' := ?_) #[true, true, true, true, true, true, false] rfl rfl (by kernel_rfl) (fun _ _ _ h => h) (Or.inl ⟨by rfl, ?_⟩) ?_ ?_
  rotate_left
  · intro w'
    go_simp
    with_reducible rfl
  rotate_left
  · simp only [Act.put, List.setIfInBounds_toArray, List.set_cons_zero, List.set_cons_succ, i64_w, i32_w]
    rfl
  refine pure_ (i := 6) (N := some 6) (v := ?_) (a' := ?_) #[true, true, true, true, true, true, true] rfl rfl (by kernel_rfl) (fun _ _ _ h => h) (Or.inl ⟨by rfl, ?_⟩) ?_ ?_
  rotate_left
  · intro w'
    go_simp
    with_reducible rfl
  rotate_left
  · simp only [Act.put, List.setIfInBounds_toArray, List.set_cons_zero, List.set_cons_succ, i64_w, i32_w]
    rfl
  refine done_ (by kernel_rfl) ?_
  rw [show wrap64 1 = 1 from by kernel_rfl]
  have HB6 := Aside0.mk (below_step HB4.out HBq4.out)
  have HZ6 := Aside0.mk ((HBq4.out.block _ (Array.getElem?_eq_some_iff.1 HZ4.out).1).trans HZ4.out)
  have HW6 := Aside0.mk ((HBq4.out.block _ (Array.getElem?_eq_some_iff.1 HW4.out).1).trans HW4.out)
  clear hHeld HBq4 HB4 HZ4 HW4 HBD HH5 hd0 hsh
  generalize wq4 = w6 at HB6 HZ6 HW6 ⊢
  by_cases hlen : n = 3
  · obtain rfl := hlen
    go_upto_region 8 with (go_at_call 24; refine (counts_calls _).mono ?_; rintro e w7 ⟨rfl, hb⟩; have HB7 := Aside0.mk (below_step HB6.out hb); have HZ7 := Aside0.mk ((hb.block _ (Array.getElem?_eq_some_iff.1 HZ6.out).1).trans HZ6.out); have HW7 := Aside0.mk ((hb.block _ (Array.getElem?_eq_some_iff.1 HW6.out).1).trans HW6.out); clear hb HB6 HZ6 HW6)
    have HR := Aside0.mk (show r.length = 2 by have := HN.out; rw [List.length_cons] at this; omega)
    have HB8 := below_alloc (Below.refl _ w7) (.cells (arrC [0, 0, 0, 0]) 53)
    have HP8 := Aside0.mk (PS.mk (gw := gw) (h := h) (r := r) (j := 0) (g7 := w7.heap.size) (below_step HB7.out HB8) ((HB8.block _ (Array.getElem?_eq_some_iff.1 HZ7.out).1).trans HZ7.out) ((HB8.block _ (Array.getElem?_eq_some_iff.1 HW7.out).1).trans HW7.out) (heap_alloc_new w7 _) rfl rfl (fun i _ => by rcases i with _ | _ | _ | _ | i <;> simp))
    have HG7 := Aside0.mk HB7.out.size
    change Code.wp _ _ _ _ (w7.alloc (.cells (arrC [0, 0, 0, 0]) 53)) at ⊢
    generalize w7.alloc (.cells (arrC [0, 0, 0, 0]) 53) = w8 at HP8 ⊢
    generalize w7.heap.size = g7 at HP8 HG7 ⊢
    clear HB8 HB7 HZ7 HW7
    go_loopw [36] (fun v36 wr => ∃ (j : Nat) (m : List Nat), j ≤ 2 ∧ v36 = .int .i64 j ∧ Aside0 (PS w wr gw g7 h r j m)) (fun v36 _ => 2 - (RowKit.intOf v36).toNat)
    case atStart => exact ⟨0, _, by omega, rfl, HP8⟩
    case round =>
      obtain ⟨j, m, hj, rfl, HPR⟩ := hrel
      clear HP8
      by_cases hlt : j < 2
      · have hltI : (j : Int) < 2 := by omega
        have hcell := HPR.out.word j (by rw [HR.out]; exact hlt)
        have HXR := Aside0.mk (show ∀ (hh : j < r.length), r[j].length ≤ 200 from fun hh => HW.out _ (List.getElem_mem hh))
        have hjr : j < r.length := by rw [HR.out]; exact hlt
        have HX2 := Aside0.mk (HXR.out hjr)
        clear HXR
        cases hnum : numOf r[j] with
        | some u =>
          have HNU := Aside0.mk hnum
          have hxe := Aside0.mk (numOf_some.mp hnum)
          clear hnum
          go_upto_region 10 with fail
          clear hcell
          have hcmp : (decDigits u == r[j]) = true := by rw [hxe.out.2]; exact beq_self_eq_true _
          go_wp2_with (first
            | (go_at_call 25; (with_reducible show Calls _ _ #[_, _, _] _ _); refine (pu_some _ u HNU.out HX2.out _).mono ?_; rintro e w9 ⟨rfl, hb⟩; have HP9 := Aside0.mk (HPR.out.below hb); clear hb HPR)
            | (go_at_call 26; (with_reducible show Calls _ _ #[_, _] _ _); refine (fmt_calls u hxe.out.1 _ (HG.out.below HP9.out.b)).mono ?_; rintro e w10 ⟨rfl, hb⟩; have HPA := Aside0.mk (HP9.out.below hb); clear hb HP9; obtain ⟨hz1, hz2⟩ := HPA.out.num j (by omega)))
          exact ⟨⟨j + 1, m.set j u, by omega, by go_num, ⟨HPA.out.put u (by omega) hjr HNU.out HG7.out⟩⟩, by simp [RowKit.intOf]; omega⟩
        | none =>
          have hpar : Aside0 (parseB s.data.toList = none) := ⟨by
            unfold parseB
            rw [HC.out]
            simp only
            rw [if_neg (by rw [HK.out]; decide), numsOf_none r _ (List.getElem_mem hjr) hnum]
            simp⟩
          have HNU := Aside0.mk hnum
          clear hnum
          go_upto_region 10 with fail
          clear hcell
          rcases pu_none _ HNU.out HX2.out wr (HG.out.below HPR.out.b) with ⟨u, hu, hne, hcall⟩ | ⟨v, hcall⟩
          · have HCL := Aside0.mk hcall
            have HU := Aside0.mk hu
            have hcmp : (decDigits u == r[j]) = false := beq_eq_false_iff_ne.mpr hne
            clear hcall hu hne
            go_wp2_with (first
              | (go_at_call 25; (with_reducible show Calls _ _ #[_, _, _] _ _); refine HCL.out.mono ?_; rintro e w9 ⟨rfl, hb⟩; have HP9 := Aside0.mk (HPR.out.below hb); clear hb HPR HCL)
              | (go_at_call 26; (with_reducible show Calls _ _ #[_, _] _ _); refine (fmt_calls u HU.out _ (HG.out.below HP9.out.b)).mono ?_; rintro e w10 ⟨rfl, hb⟩; have HPA := Aside0.mk (HP9.out.below hb); clear hb HP9; obtain ⟨⟨z0, z1, z2, z3, z4, z5⟩, y0, y1, y2, y3, y4, y5⟩ := zcells HPA.out.z))
            refine bodyPost_ret (v := .tuple #[.agg nm0.cells, .bool false]) (by simp [results, Tryd.results8, go_sem, nm0, Nm.cells, z0, z1, z2, z3, z4, z5]) rfl ⟨by rw [parseN, parseOk, hpar.out]; rfl, ?_⟩
            exact below6 HPA.out.b (Nat.le_refl _) _ _ _ _ _ _
          · have HCL := Aside0.mk hcall
            clear hcall
            go_wp2_with (go_at_call 25; (with_reducible show Calls _ _ #[_, _, _] _ _); refine HCL.out.mono ?_; rintro e w9 ⟨⟨N, rfl⟩, hb⟩; have HP9 := Aside0.mk (HPR.out.below hb); clear hb HPR HCL; obtain ⟨⟨z0, z1, z2, z3, z4, z5⟩, y0, y1, y2, y3, y4, y5⟩ := zcells HP9.out.z)
            refine bodyPost_ret (v := .tuple #[.agg nm0.cells, .bool false]) (by simp [results, Tryd.results8, go_sem, nm0, Nm.cells, z0, z1, z2, z3, z4, z5]) rfl ⟨by rw [parseN, parseOk, hpar.out]; rfl, ?_⟩
            exact below6 HP9.out.b (Nat.le_refl _) _ _ _ _ _ _
      · obtain rfl : j = 2 := by omega
        have hfin := Aside0.mk (HPR.out.parsed (k := 1) HK.out (by decide) HR.out HC.out)
        obtain ⟨m0, m1, m2, m3, rfl⟩ := HPR.out.four
        change Aside0 (parseB s.data.toList = some (ofN 1 m0 m1 m2 m3)) at hfin
        have hm0 := (HPR.out.num 0 (by decide)).1
        have hm1 := (HPR.out.num 1 (by decide)).1
        have hm2 := (HPR.out.num 2 (by decide)).1
        have hm3 := (HPR.out.num 3 (by decide)).1
        change wr.cell? ⟨g7, 0, none⟩ = some (.int .u64 m0) at hm0
        change wr.cell? ⟨g7, 1, none⟩ = some (.int .u64 m1) at hm1
        change wr.cell? ⟨g7, 2, none⟩ = some (.int .u64 m2) at hm2
        change wr.cell? ⟨g7, 3, none⟩ = some (.int .u64 m3) at hm3
        generalize ho : ofN 1 m0 m1 m2 m3 = o at hfin
        obtain ⟨kd', d', n', p', i', k'⟩ := o
        have HO := Aside0.mk ho
        clear ho
        go_wp2_with (go_at_call 27; refine (of_callsV 1 m0 m1 m2 m3 kd' d' n' p' i' k' _ HO.out).mono ?_; rintro e w9 ⟨rfl, hb⟩; have HP9 := Aside0.mk (HPR.out.below hb); clear hb HPR hm0 hm1 hm2 hm3; obtain ⟨⟨z0, z1, z2, z3, z4, z5⟩, y0, y1, y2, y3, y4, y5⟩ := zcells HP9.out.z)
        refine bodyPost_ret (v := .tuple #[.agg (⟨kd', d', n', p', i', k'⟩ : Nm).cells, .bool true]) (by simp [results, Tryd.results8, go_sem, Nm.cells, z0, z1, z2, z3, z4, z5]) rfl ⟨by rw [parseN, parseOk, hfin.out]; rfl, ?_⟩
        exact below6 HP9.out.b (Nat.le_refl _) _ _ _ _ _ _
  · have hq1 : ((n : Int) == 3) = false := beq_eq_false_iff_ne.mpr (by omega)
    have hq2 : ((n : Int) != 3) = true := bne_iff_ne.mpr (by omega)
    have hq3 : ¬ (n : Int) = 3 := by omega
    have hq4 : ¬ n = 3 := hlen
    have hq5 : decide ((n : Int) = 3) = false := decide_eq_false hq3
    have hpar : Aside0 (parseB s.data.toList = none) := ⟨by
      unfold parseB
      rw [HC.out]
      simp only
      rw [if_neg (by rw [HK.out]; decide), HK.out, if_neg (fun he => hq4 (by have h1 := HN.out; rw [List.length_cons] at h1; have h2 : r.length = 2 := he; omega))]⟩
    go_wp2_with (go_at_call 24; refine (counts_calls _).mono ?_; rintro e w7 ⟨rfl, hb⟩; have HB7 := Aside0.mk (below_step HB6.out hb); have HZ7 := Aside0.mk ((hb.block _ (Array.getElem?_eq_some_iff.1 HZ6.out).1).trans HZ6.out); have HW7 := Aside0.mk ((hb.block _ (Array.getElem?_eq_some_iff.1 HW6.out).1).trans HW6.out); clear hb HB6 HZ6 HW6; obtain ⟨⟨z0, z1, z2, z3, z4, z5⟩, y0, y1, y2, y3, y4, y5⟩ := zcells HZ7.out)
    refine bodyPost_ret (v := .tuple #[.agg nm0.cells, .bool false]) (by simp [results, Tryd.results8, go_sem, nm0, Nm.cells, z0, z1, z2, z3, z4, z5]) rfl ⟨by rw [parseN, parseOk, hpar.out]; rfl, ?_⟩
    exact below6 HB7.out (Nat.le_refl _) _ _ _ _ _ _
set_option maxHeartbeats 4000000 in
set_option maxRecDepth 100000 in
theorem parse_2 (s : ByteArray) (hs : s.size ≤ 200) (h : List UInt8) (r : List (List UInt8)) (n : Nat) (hc : Plain.cut s.data.toList = h :: r) (hn : (h :: r).length = n) (hk : kindOf h = 2) (hw : ∀ x ∈ r, x.length ≤ 200) (w : World) (hG : Glob w) :
    Calls Tryd.prog 8 #[.string s] w fun e w' => e = .returned (.tuple #[.agg (parseN s.data.toList).cells, .bool (parseOk s.data.toList)]) ∧ Below w.heap.size w w' := by
  have HG := Aside0.mk hG
  have HC := Aside0.mk hc
  have HN := Aside0.mk hn
  have HK := Aside0.mk hk
  have HW := Aside0.mk hw
  have HS := Aside0.mk hs
  clear hG hc hn hk hw hs
  have hsh := fun g W => slice_heads g W
  have hcx : ∀ W, (Instr.index 51 (.agg #[.int .i64 0, .int .i64 2, .int .i64 2, .int .i64 3, .int .i64 4]) (.int .i64 2)).run Tryd.prog W = .ok (.int .i64 2) W := idx_countsI 2 (by decide)
  go_enter Tryd.func8, Tryd.ntmps8
  go_upto_region 2 with (go_at_call 21; refine (splitV_calls s (by have := HS.out; omega) (h :: r) n HC.out HN.out _ (HG.out.below (below_alloc (Below.refl _ _) _))).mono ?_; rintro e w2 ⟨rfl, rfl⟩)
  have HB2 := Aside0.mk (below_alloc (below_alloc (Below.refl w.heap.size w) (.cells #[.int .u8 0, .int .u64 0, .int .u64 0, .int .u64 0, .int .u64 0, .int .u64 0] 25)) (.cells (strL (h :: r)).toArray 9))
  have HZ2 := Aside0.mk (((below_alloc (Below.refl _ (w.alloc (.cells #[.int .u8 0, .int .u64 0, .int .u64 0, .int .u64 0, .int .u64 0, .int .u64 0] 25))) (.cells (strL (h :: r)).toArray 9)).block w.heap.size (by simp)).trans (heap_alloc_new w (.cells #[.int .u8 0, .int .u64 0, .int .u64 0, .int .u64 0, .int .u64 0, .int .u64 0] 25)))
  have HW2 := Aside0.mk (heap_alloc_new (w.alloc (.cells #[.int .u8 0, .int .u64 0, .int .u64 0, .int .u64 0, .int .u64 0, .int .u64 0] 25)) (.cells (strL (h :: r)).toArray 9))
  rw [World.size_alloc] at HW2
  generalize (w.alloc (.cells #[.int .u8 0, .int .u64 0, .int .u64 0, .int .u64 0, .int .u64 0, .int .u64 0] 25)).alloc (.cells (strL (h :: r)).toArray 9) = w2 at HB2 HZ2 HW2 ⊢
  have HL2 := Aside0.mk (show w.heap.size < w.heap.size + 1 by omega)
  generalize w.heap.size + 1 = gw at HW2 HL2 ⊢
  go_upto_region 3 with (go_at_call 22; refine (heads_calls _).mono ?_; rintro e w3 ⟨rfl, hb⟩; have HB3 := Aside0.mk (below_step HB2.out hb); have HZ3 := Aside0.mk ((hb.block _ (Array.getElem?_eq_some_iff.1 HZ2.out).1).trans HZ2.out); have HW3 := Aside0.mk ((hb.block _ (Array.getElem?_eq_some_iff.1 HW2.out).1).trans HW2.out); clear hb HB2 HZ2 HW2)
  have hb := below_alloc (Below.refl _ w3) (.cells headCells 48)
  have HB4 := Aside0.mk (below_step HB3.out hb)
  have HZ4 := Aside0.mk ((hb.block _ (Array.getElem?_eq_some_iff.1 HZ3.out).1).trans HZ3.out)
  have HW4 := Aside0.mk ((hb.block _ (Array.getElem?_eq_some_iff.1 HW3.out).1).trans HW3.out)
  have HH5 := Aside0.mk (heap_alloc_new w3 (.cells headCells 48))
  change Code.wp _ _ _ _ (w3.alloc (.cells headCells 48)) at ⊢
  generalize w3.alloc (.cells headCells 48) = w5 at HB4 HZ4 HW4 HH5 ⊢
  generalize w3.heap.size = g5 at HH5 ⊢
  clear hb HB3 HZ3 HW3
  have hd0 : w5.drew.cell? ⟨gw, 0, none⟩ = some (.string ⟨h.toArray⟩) := by show w5.cell? _ = _; simp [World.cell?, HW4.out, strL]
  have HBD := Aside0.mk (below_drew (Below.refl w5.heap.size w5))
  have hnN : 0 < n := by have := HN.out; rw [List.length_cons] at this; omega
  have hn0 : (0 : Int) < (n : Int) := by have := HN.out; rw [List.length_cons] at this; omega
  refine start_ (n := 7) (S := fun w' => w'.cell? ⟨gw, 0, none⟩ = some (.string ⟨h.toArray⟩)) (ds := []) #[false, false, false, false, false, false, false] (by kernel_rfl) rfl rfl (hd0) (fun hHeld => ?_)
  refine pure_ (i := 0) (N := some 15) (v := ?_) (a' := ?_) #[true, false, false, false, false, false, false] rfl rfl (by kernel_rfl) (fun _ _ _ h => h) (Or.inl ⟨by rfl, ?_⟩) ?_ ?_
  rotate_left
  · intro w'
    go_simp
    with_reducible rfl
  rotate_left
  · simp only [Act.put, List.setIfInBounds_toArray, List.set_cons_zero, List.set_cons_succ, i64_w, i32_w]
    rfl
  refine pure_ (i := 1) (N := some 16) (v := ?_) (a' := ?_) #[true, true, false, false, false, false, false] rfl rfl (by kernel_rfl) (fun _ _ _ h => h) (Or.inl ⟨by rfl, ?_⟩) ?_ ?_
  rotate_left
  · intro w'
    go_simp
    with_reducible rfl
  rotate_left
  · simp only [Act.put, List.setIfInBounds_toArray, List.set_cons_zero, List.set_cons_succ, i64_w, i32_w]
    rfl
  refine pure_ (i := 2) (N := some 17) (v := ?_) (a' := ?_) #[true, true, true, false, false, false, false] rfl rfl (by kernel_rfl) (fun _ _ _ h => h) (Or.inl ⟨by rfl, ?_⟩) ?_ ?_
  rotate_left
  · intro w'
    go_simp
    with_reducible rfl
  rotate_left
  · simp only [Act.put, List.setIfInBounds_toArray, List.set_cons_zero, List.set_cons_succ, i64_w, i32_w]
    rfl
  refine take_ (i := 3) (N := some 18) (v := ?_) (a' := ?_) #[true, true, true, true, false, false, false] rfl rfl (by kernel_rfl) (fun _ _ _ h => h) (Or.inl ⟨by rfl, ?_⟩) hHeld ?_ ?_
  rotate_left
  · intro w' s0
    go_simp
    with_reducible rfl
  rotate_left
  · simp only [Act.put, List.setIfInBounds_toArray, List.set_cons_zero, List.set_cons_succ, i64_w, i32_w]
    rfl
  refine one_ (i := 4) (N := some 19) #[true, true, true, true, true, false, false] rfl rfl (by kernel_rfl) (by decide) (fun K hK => ?_)
  refine goes_ Tryd.func23 (by kernel_rfl) rfl #[.slice (some ⟨g5, 1, none⟩) 4 4, .string ⟨h.toArray⟩] (by rfl) rfl rfl (by (try simp only [List.map_toArray, List.map_cons, List.map_nil]); first | done | rfl) ?_
  with_reducible refine (idx_callsB g5 4 2 1 rfl 48 h _ ((HBD.out.block g5 (Array.getElem?_eq_some_iff.1 HH5.out).1).trans HH5.out) HK.out).mono ?_
  rintro e wq4 ⟨rfl, hbq⟩
  refine ⟨_, rfl, ?_⟩
  have HBq4 := Aside0.mk (below_step HBD.out hbq)
  clear hbq
  refine hK.out _ _ (pw_cell_below HBq4.out hd0) (fun hHeld => ?_)
  clear hK K
  refine norm_ (a' := ?_) ?_ ?_
  rotate_left
  · show Act.put _ (some 19) _ = _
    simp only [Act.put, List.setIfInBounds_toArray, List.set_cons_zero, List.set_cons_succ, i64_w, i32_w]
    rfl
  refine pure_ (i := 5) (N := some 20) (v := ?_) (a' := ?_) #[true, true, true, true, true, true, false] rfl rfl (by kernel_rfl) (fun _ _ _ h => h) (Or.inl ⟨by rfl, ?_⟩) ?_ ?_
  rotate_left
  · intro w'
    go_simp
    with_reducible rfl
  rotate_left
  · simp only [Act.put, List.setIfInBounds_toArray, List.set_cons_zero, List.set_cons_succ, i64_w, i32_w]
    rfl
  refine pure_ (i := 6) (N := some 6) (v := ?_) (a' := ?_) #[true, true, true, true, true, true, true] rfl rfl (by kernel_rfl) (fun _ _ _ h => h) (Or.inl ⟨by rfl, ?_⟩) ?_ ?_
  rotate_left
  · intro w'
    go_simp
    with_reducible rfl
  rotate_left
  · simp only [Act.put, List.setIfInBounds_toArray, List.set_cons_zero, List.set_cons_succ, i64_w, i32_w]
    rfl
  refine done_ (by kernel_rfl) ?_
  rw [show wrap64 2 = 2 from by kernel_rfl]
  have HB6 := Aside0.mk (below_step HB4.out HBq4.out)
  have HZ6 := Aside0.mk ((HBq4.out.block _ (Array.getElem?_eq_some_iff.1 HZ4.out).1).trans HZ4.out)
  have HW6 := Aside0.mk ((HBq4.out.block _ (Array.getElem?_eq_some_iff.1 HW4.out).1).trans HW4.out)
  clear hHeld HBq4 HB4 HZ4 HW4 HBD HH5 hd0 hsh
  generalize wq4 = w6 at HB6 HZ6 HW6 ⊢
  by_cases hlen : n = 3
  · obtain rfl := hlen
    go_upto_region 8 with (go_at_call 24; refine (counts_calls _).mono ?_; rintro e w7 ⟨rfl, hb⟩; have HB7 := Aside0.mk (below_step HB6.out hb); have HZ7 := Aside0.mk ((hb.block _ (Array.getElem?_eq_some_iff.1 HZ6.out).1).trans HZ6.out); have HW7 := Aside0.mk ((hb.block _ (Array.getElem?_eq_some_iff.1 HW6.out).1).trans HW6.out); clear hb HB6 HZ6 HW6)
    have HR := Aside0.mk (show r.length = 2 by have := HN.out; rw [List.length_cons] at this; omega)
    have HB8 := below_alloc (Below.refl _ w7) (.cells (arrC [0, 0, 0, 0]) 53)
    have HP8 := Aside0.mk (PS.mk (gw := gw) (h := h) (r := r) (j := 0) (g7 := w7.heap.size) (below_step HB7.out HB8) ((HB8.block _ (Array.getElem?_eq_some_iff.1 HZ7.out).1).trans HZ7.out) ((HB8.block _ (Array.getElem?_eq_some_iff.1 HW7.out).1).trans HW7.out) (heap_alloc_new w7 _) rfl rfl (fun i _ => by rcases i with _ | _ | _ | _ | i <;> simp))
    have HG7 := Aside0.mk HB7.out.size
    change Code.wp _ _ _ _ (w7.alloc (.cells (arrC [0, 0, 0, 0]) 53)) at ⊢
    generalize w7.alloc (.cells (arrC [0, 0, 0, 0]) 53) = w8 at HP8 ⊢
    generalize w7.heap.size = g7 at HP8 HG7 ⊢
    clear HB8 HB7 HZ7 HW7
    go_loopw [36] (fun v36 wr => ∃ (j : Nat) (m : List Nat), j ≤ 2 ∧ v36 = .int .i64 j ∧ Aside0 (PS w wr gw g7 h r j m)) (fun v36 _ => 2 - (RowKit.intOf v36).toNat)
    case atStart => exact ⟨0, _, by omega, rfl, HP8⟩
    case round =>
      obtain ⟨j, m, hj, rfl, HPR⟩ := hrel
      clear HP8
      by_cases hlt : j < 2
      · have hltI : (j : Int) < 2 := by omega
        have hcell := HPR.out.word j (by rw [HR.out]; exact hlt)
        have HXR := Aside0.mk (show ∀ (hh : j < r.length), r[j].length ≤ 200 from fun hh => HW.out _ (List.getElem_mem hh))
        have hjr : j < r.length := by rw [HR.out]; exact hlt
        have HX2 := Aside0.mk (HXR.out hjr)
        clear HXR
        cases hnum : numOf r[j] with
        | some u =>
          have HNU := Aside0.mk hnum
          have hxe := Aside0.mk (numOf_some.mp hnum)
          clear hnum
          go_upto_region 10 with fail
          clear hcell
          have hcmp : (decDigits u == r[j]) = true := by rw [hxe.out.2]; exact beq_self_eq_true _
          go_wp2_with (first
            | (go_at_call 25; (with_reducible show Calls _ _ #[_, _, _] _ _); refine (pu_some _ u HNU.out HX2.out _).mono ?_; rintro e w9 ⟨rfl, hb⟩; have HP9 := Aside0.mk (HPR.out.below hb); clear hb HPR)
            | (go_at_call 26; (with_reducible show Calls _ _ #[_, _] _ _); refine (fmt_calls u hxe.out.1 _ (HG.out.below HP9.out.b)).mono ?_; rintro e w10 ⟨rfl, hb⟩; have HPA := Aside0.mk (HP9.out.below hb); clear hb HP9; obtain ⟨hz1, hz2⟩ := HPA.out.num j (by omega)))
          exact ⟨⟨j + 1, m.set j u, by omega, by go_num, ⟨HPA.out.put u (by omega) hjr HNU.out HG7.out⟩⟩, by simp [RowKit.intOf]; omega⟩
        | none =>
          have hpar : Aside0 (parseB s.data.toList = none) := ⟨by
            unfold parseB
            rw [HC.out]
            simp only
            rw [if_neg (by rw [HK.out]; decide), numsOf_none r _ (List.getElem_mem hjr) hnum]
            simp⟩
          have HNU := Aside0.mk hnum
          clear hnum
          go_upto_region 10 with fail
          clear hcell
          rcases pu_none _ HNU.out HX2.out wr (HG.out.below HPR.out.b) with ⟨u, hu, hne, hcall⟩ | ⟨v, hcall⟩
          · have HCL := Aside0.mk hcall
            have HU := Aside0.mk hu
            have hcmp : (decDigits u == r[j]) = false := beq_eq_false_iff_ne.mpr hne
            clear hcall hu hne
            go_wp2_with (first
              | (go_at_call 25; (with_reducible show Calls _ _ #[_, _, _] _ _); refine HCL.out.mono ?_; rintro e w9 ⟨rfl, hb⟩; have HP9 := Aside0.mk (HPR.out.below hb); clear hb HPR HCL)
              | (go_at_call 26; (with_reducible show Calls _ _ #[_, _] _ _); refine (fmt_calls u HU.out _ (HG.out.below HP9.out.b)).mono ?_; rintro e w10 ⟨rfl, hb⟩; have HPA := Aside0.mk (HP9.out.below hb); clear hb HP9; obtain ⟨⟨z0, z1, z2, z3, z4, z5⟩, y0, y1, y2, y3, y4, y5⟩ := zcells HPA.out.z))
            refine bodyPost_ret (v := .tuple #[.agg nm0.cells, .bool false]) (by simp [results, Tryd.results8, go_sem, nm0, Nm.cells, z0, z1, z2, z3, z4, z5]) rfl ⟨by rw [parseN, parseOk, hpar.out]; rfl, ?_⟩
            exact below6 HPA.out.b (Nat.le_refl _) _ _ _ _ _ _
          · have HCL := Aside0.mk hcall
            clear hcall
            go_wp2_with (go_at_call 25; (with_reducible show Calls _ _ #[_, _, _] _ _); refine HCL.out.mono ?_; rintro e w9 ⟨⟨N, rfl⟩, hb⟩; have HP9 := Aside0.mk (HPR.out.below hb); clear hb HPR HCL; obtain ⟨⟨z0, z1, z2, z3, z4, z5⟩, y0, y1, y2, y3, y4, y5⟩ := zcells HP9.out.z)
            refine bodyPost_ret (v := .tuple #[.agg nm0.cells, .bool false]) (by simp [results, Tryd.results8, go_sem, nm0, Nm.cells, z0, z1, z2, z3, z4, z5]) rfl ⟨by rw [parseN, parseOk, hpar.out]; rfl, ?_⟩
            exact below6 HP9.out.b (Nat.le_refl _) _ _ _ _ _ _
      · obtain rfl : j = 2 := by omega
        have hfin := Aside0.mk (HPR.out.parsed (k := 2) HK.out (by decide) HR.out HC.out)
        obtain ⟨m0, m1, m2, m3, rfl⟩ := HPR.out.four
        change Aside0 (parseB s.data.toList = some (ofN 2 m0 m1 m2 m3)) at hfin
        have hm0 := (HPR.out.num 0 (by decide)).1
        have hm1 := (HPR.out.num 1 (by decide)).1
        have hm2 := (HPR.out.num 2 (by decide)).1
        have hm3 := (HPR.out.num 3 (by decide)).1
        change wr.cell? ⟨g7, 0, none⟩ = some (.int .u64 m0) at hm0
        change wr.cell? ⟨g7, 1, none⟩ = some (.int .u64 m1) at hm1
        change wr.cell? ⟨g7, 2, none⟩ = some (.int .u64 m2) at hm2
        change wr.cell? ⟨g7, 3, none⟩ = some (.int .u64 m3) at hm3
        generalize ho : ofN 2 m0 m1 m2 m3 = o at hfin
        obtain ⟨kd', d', n', p', i', k'⟩ := o
        have HO := Aside0.mk ho
        clear ho
        go_wp2_with (go_at_call 27; refine (of_callsV 2 m0 m1 m2 m3 kd' d' n' p' i' k' _ HO.out).mono ?_; rintro e w9 ⟨rfl, hb⟩; have HP9 := Aside0.mk (HPR.out.below hb); clear hb HPR hm0 hm1 hm2 hm3; obtain ⟨⟨z0, z1, z2, z3, z4, z5⟩, y0, y1, y2, y3, y4, y5⟩ := zcells HP9.out.z)
        refine bodyPost_ret (v := .tuple #[.agg (⟨kd', d', n', p', i', k'⟩ : Nm).cells, .bool true]) (by simp [results, Tryd.results8, go_sem, Nm.cells, z0, z1, z2, z3, z4, z5]) rfl ⟨by rw [parseN, parseOk, hfin.out]; rfl, ?_⟩
        exact below6 HP9.out.b (Nat.le_refl _) _ _ _ _ _ _
  · have hq1 : ((n : Int) == 3) = false := beq_eq_false_iff_ne.mpr (by omega)
    have hq2 : ((n : Int) != 3) = true := bne_iff_ne.mpr (by omega)
    have hq3 : ¬ (n : Int) = 3 := by omega
    have hq4 : ¬ n = 3 := hlen
    have hq5 : decide ((n : Int) = 3) = false := decide_eq_false hq3
    have hpar : Aside0 (parseB s.data.toList = none) := ⟨by
      unfold parseB
      rw [HC.out]
      simp only
      rw [if_neg (by rw [HK.out]; decide), HK.out, if_neg (fun he => hq4 (by have h1 := HN.out; rw [List.length_cons] at h1; have h2 : r.length = 2 := he; omega))]⟩
    go_wp2_with (go_at_call 24; refine (counts_calls _).mono ?_; rintro e w7 ⟨rfl, hb⟩; have HB7 := Aside0.mk (below_step HB6.out hb); have HZ7 := Aside0.mk ((hb.block _ (Array.getElem?_eq_some_iff.1 HZ6.out).1).trans HZ6.out); have HW7 := Aside0.mk ((hb.block _ (Array.getElem?_eq_some_iff.1 HW6.out).1).trans HW6.out); clear hb HB6 HZ6 HW6; obtain ⟨⟨z0, z1, z2, z3, z4, z5⟩, y0, y1, y2, y3, y4, y5⟩ := zcells HZ7.out)
    refine bodyPost_ret (v := .tuple #[.agg nm0.cells, .bool false]) (by simp [results, Tryd.results8, go_sem, nm0, Nm.cells, z0, z1, z2, z3, z4, z5]) rfl ⟨by rw [parseN, parseOk, hpar.out]; rfl, ?_⟩
    exact below6 HB7.out (Nat.le_refl _) _ _ _ _ _ _
set_option maxHeartbeats 4000000 in
set_option maxRecDepth 100000 in
theorem parse_3 (s : ByteArray) (hs : s.size ≤ 200) (h : List UInt8) (r : List (List UInt8)) (n : Nat) (hc : Plain.cut s.data.toList = h :: r) (hn : (h :: r).length = n) (hk : kindOf h = 3) (hw : ∀ x ∈ r, x.length ≤ 200) (w : World) (hG : Glob w) :
    Calls Tryd.prog 8 #[.string s] w fun e w' => e = .returned (.tuple #[.agg (parseN s.data.toList).cells, .bool (parseOk s.data.toList)]) ∧ Below w.heap.size w w' := by
  have HG := Aside0.mk hG
  have HC := Aside0.mk hc
  have HN := Aside0.mk hn
  have HK := Aside0.mk hk
  have HW := Aside0.mk hw
  have HS := Aside0.mk hs
  clear hG hc hn hk hw hs
  have hsh := fun g W => slice_heads g W
  have hcx : ∀ W, (Instr.index 51 (.agg #[.int .i64 0, .int .i64 2, .int .i64 2, .int .i64 3, .int .i64 4]) (.int .i64 3)).run Tryd.prog W = .ok (.int .i64 3) W := idx_countsI 3 (by decide)
  go_enter Tryd.func8, Tryd.ntmps8
  go_upto_region 2 with (go_at_call 21; refine (splitV_calls s (by have := HS.out; omega) (h :: r) n HC.out HN.out _ (HG.out.below (below_alloc (Below.refl _ _) _))).mono ?_; rintro e w2 ⟨rfl, rfl⟩)
  have HB2 := Aside0.mk (below_alloc (below_alloc (Below.refl w.heap.size w) (.cells #[.int .u8 0, .int .u64 0, .int .u64 0, .int .u64 0, .int .u64 0, .int .u64 0] 25)) (.cells (strL (h :: r)).toArray 9))
  have HZ2 := Aside0.mk (((below_alloc (Below.refl _ (w.alloc (.cells #[.int .u8 0, .int .u64 0, .int .u64 0, .int .u64 0, .int .u64 0, .int .u64 0] 25))) (.cells (strL (h :: r)).toArray 9)).block w.heap.size (by simp)).trans (heap_alloc_new w (.cells #[.int .u8 0, .int .u64 0, .int .u64 0, .int .u64 0, .int .u64 0, .int .u64 0] 25)))
  have HW2 := Aside0.mk (heap_alloc_new (w.alloc (.cells #[.int .u8 0, .int .u64 0, .int .u64 0, .int .u64 0, .int .u64 0, .int .u64 0] 25)) (.cells (strL (h :: r)).toArray 9))
  rw [World.size_alloc] at HW2
  generalize (w.alloc (.cells #[.int .u8 0, .int .u64 0, .int .u64 0, .int .u64 0, .int .u64 0, .int .u64 0] 25)).alloc (.cells (strL (h :: r)).toArray 9) = w2 at HB2 HZ2 HW2 ⊢
  have HL2 := Aside0.mk (show w.heap.size < w.heap.size + 1 by omega)
  generalize w.heap.size + 1 = gw at HW2 HL2 ⊢
  go_upto_region 3 with (go_at_call 22; refine (heads_calls _).mono ?_; rintro e w3 ⟨rfl, hb⟩; have HB3 := Aside0.mk (below_step HB2.out hb); have HZ3 := Aside0.mk ((hb.block _ (Array.getElem?_eq_some_iff.1 HZ2.out).1).trans HZ2.out); have HW3 := Aside0.mk ((hb.block _ (Array.getElem?_eq_some_iff.1 HW2.out).1).trans HW2.out); clear hb HB2 HZ2 HW2)
  have hb := below_alloc (Below.refl _ w3) (.cells headCells 48)
  have HB4 := Aside0.mk (below_step HB3.out hb)
  have HZ4 := Aside0.mk ((hb.block _ (Array.getElem?_eq_some_iff.1 HZ3.out).1).trans HZ3.out)
  have HW4 := Aside0.mk ((hb.block _ (Array.getElem?_eq_some_iff.1 HW3.out).1).trans HW3.out)
  have HH5 := Aside0.mk (heap_alloc_new w3 (.cells headCells 48))
  change Code.wp _ _ _ _ (w3.alloc (.cells headCells 48)) at ⊢
  generalize w3.alloc (.cells headCells 48) = w5 at HB4 HZ4 HW4 HH5 ⊢
  generalize w3.heap.size = g5 at HH5 ⊢
  clear hb HB3 HZ3 HW3
  have hd0 : w5.drew.cell? ⟨gw, 0, none⟩ = some (.string ⟨h.toArray⟩) := by show w5.cell? _ = _; simp [World.cell?, HW4.out, strL]
  have HBD := Aside0.mk (below_drew (Below.refl w5.heap.size w5))
  have hnN : 0 < n := by have := HN.out; rw [List.length_cons] at this; omega
  have hn0 : (0 : Int) < (n : Int) := by have := HN.out; rw [List.length_cons] at this; omega
  refine start_ (n := 7) (S := fun w' => w'.cell? ⟨gw, 0, none⟩ = some (.string ⟨h.toArray⟩)) (ds := []) #[false, false, false, false, false, false, false] (by kernel_rfl) rfl rfl (hd0) (fun hHeld => ?_)
  refine pure_ (i := 0) (N := some 15) (v := ?_) (a' := ?_) #[true, false, false, false, false, false, false] rfl rfl (by kernel_rfl) (fun _ _ _ h => h) (Or.inl ⟨by rfl, ?_⟩) ?_ ?_
  rotate_left
  · intro w'
    go_simp
    with_reducible rfl
  rotate_left
  · simp only [Act.put, List.setIfInBounds_toArray, List.set_cons_zero, List.set_cons_succ, i64_w, i32_w]
    rfl
  refine pure_ (i := 1) (N := some 16) (v := ?_) (a' := ?_) #[true, true, false, false, false, false, false] rfl rfl (by kernel_rfl) (fun _ _ _ h => h) (Or.inl ⟨by rfl, ?_⟩) ?_ ?_
  rotate_left
  · intro w'
    go_simp
    with_reducible rfl
  rotate_left
  · simp only [Act.put, List.setIfInBounds_toArray, List.set_cons_zero, List.set_cons_succ, i64_w, i32_w]
    rfl
  refine pure_ (i := 2) (N := some 17) (v := ?_) (a' := ?_) #[true, true, true, false, false, false, false] rfl rfl (by kernel_rfl) (fun _ _ _ h => h) (Or.inl ⟨by rfl, ?_⟩) ?_ ?_
  rotate_left
  · intro w'
    go_simp
    with_reducible rfl
  rotate_left
  · simp only [Act.put, List.setIfInBounds_toArray, List.set_cons_zero, List.set_cons_succ, i64_w, i32_w]
    rfl
  refine take_ (i := 3) (N := some 18) (v := ?_) (a' := ?_) #[true, true, true, true, false, false, false] rfl rfl (by kernel_rfl) (fun _ _ _ h => h) (Or.inl ⟨by rfl, ?_⟩) hHeld ?_ ?_
  rotate_left
  · intro w' s0
    go_simp
    with_reducible rfl
  rotate_left
  · simp only [Act.put, List.setIfInBounds_toArray, List.set_cons_zero, List.set_cons_succ, i64_w, i32_w]
    rfl
  refine one_ (i := 4) (N := some 19) #[true, true, true, true, true, false, false] rfl rfl (by kernel_rfl) (by decide) (fun K hK => ?_)
  refine goes_ Tryd.func23 (by kernel_rfl) rfl #[.slice (some ⟨g5, 1, none⟩) 4 4, .string ⟨h.toArray⟩] (by rfl) rfl rfl (by (try simp only [List.map_toArray, List.map_cons, List.map_nil]); first | done | rfl) ?_
  with_reducible refine (idx_callsB g5 4 3 2 rfl 48 h _ ((HBD.out.block g5 (Array.getElem?_eq_some_iff.1 HH5.out).1).trans HH5.out) HK.out).mono ?_
  rintro e wq4 ⟨rfl, hbq⟩
  refine ⟨_, rfl, ?_⟩
  have HBq4 := Aside0.mk (below_step HBD.out hbq)
  clear hbq
  refine hK.out _ _ (pw_cell_below HBq4.out hd0) (fun hHeld => ?_)
  clear hK K
  refine norm_ (a' := ?_) ?_ ?_
  rotate_left
  · show Act.put _ (some 19) _ = _
    simp only [Act.put, List.setIfInBounds_toArray, List.set_cons_zero, List.set_cons_succ, i64_w, i32_w]
    rfl
  refine pure_ (i := 5) (N := some 20) (v := ?_) (a' := ?_) #[true, true, true, true, true, true, false] rfl rfl (by kernel_rfl) (fun _ _ _ h => h) (Or.inl ⟨by rfl, ?_⟩) ?_ ?_
  rotate_left
  · intro w'
    go_simp
    with_reducible rfl
  rotate_left
  · simp only [Act.put, List.setIfInBounds_toArray, List.set_cons_zero, List.set_cons_succ, i64_w, i32_w]
    rfl
  refine pure_ (i := 6) (N := some 6) (v := ?_) (a' := ?_) #[true, true, true, true, true, true, true] rfl rfl (by kernel_rfl) (fun _ _ _ h => h) (Or.inl ⟨by rfl, ?_⟩) ?_ ?_
  rotate_left
  · intro w'
    go_simp
    with_reducible rfl
  rotate_left
  · simp only [Act.put, List.setIfInBounds_toArray, List.set_cons_zero, List.set_cons_succ, i64_w, i32_w]
    rfl
  refine done_ (by kernel_rfl) ?_
  rw [show wrap64 3 = 3 from by kernel_rfl]
  have HB6 := Aside0.mk (below_step HB4.out HBq4.out)
  have HZ6 := Aside0.mk ((HBq4.out.block _ (Array.getElem?_eq_some_iff.1 HZ4.out).1).trans HZ4.out)
  have HW6 := Aside0.mk ((HBq4.out.block _ (Array.getElem?_eq_some_iff.1 HW4.out).1).trans HW4.out)
  clear hHeld HBq4 HB4 HZ4 HW4 HBD HH5 hd0 hsh
  generalize wq4 = w6 at HB6 HZ6 HW6 ⊢
  by_cases hlen : n = 4
  · obtain rfl := hlen
    go_upto_region 8 with (go_at_call 24; refine (counts_calls _).mono ?_; rintro e w7 ⟨rfl, hb⟩; have HB7 := Aside0.mk (below_step HB6.out hb); have HZ7 := Aside0.mk ((hb.block _ (Array.getElem?_eq_some_iff.1 HZ6.out).1).trans HZ6.out); have HW7 := Aside0.mk ((hb.block _ (Array.getElem?_eq_some_iff.1 HW6.out).1).trans HW6.out); clear hb HB6 HZ6 HW6)
    have HR := Aside0.mk (show r.length = 3 by have := HN.out; rw [List.length_cons] at this; omega)
    have HB8 := below_alloc (Below.refl _ w7) (.cells (arrC [0, 0, 0, 0]) 53)
    have HP8 := Aside0.mk (PS.mk (gw := gw) (h := h) (r := r) (j := 0) (g7 := w7.heap.size) (below_step HB7.out HB8) ((HB8.block _ (Array.getElem?_eq_some_iff.1 HZ7.out).1).trans HZ7.out) ((HB8.block _ (Array.getElem?_eq_some_iff.1 HW7.out).1).trans HW7.out) (heap_alloc_new w7 _) rfl rfl (fun i _ => by rcases i with _ | _ | _ | _ | i <;> simp))
    have HG7 := Aside0.mk HB7.out.size
    change Code.wp _ _ _ _ (w7.alloc (.cells (arrC [0, 0, 0, 0]) 53)) at ⊢
    generalize w7.alloc (.cells (arrC [0, 0, 0, 0]) 53) = w8 at HP8 ⊢
    generalize w7.heap.size = g7 at HP8 HG7 ⊢
    clear HB8 HB7 HZ7 HW7
    go_loopw [36] (fun v36 wr => ∃ (j : Nat) (m : List Nat), j ≤ 3 ∧ v36 = .int .i64 j ∧ Aside0 (PS w wr gw g7 h r j m)) (fun v36 _ => 3 - (RowKit.intOf v36).toNat)
    case atStart => exact ⟨0, _, by omega, rfl, HP8⟩
    case round =>
      obtain ⟨j, m, hj, rfl, HPR⟩ := hrel
      clear HP8
      by_cases hlt : j < 3
      · have hltI : (j : Int) < 3 := by omega
        have hcell := HPR.out.word j (by rw [HR.out]; exact hlt)
        have HXR := Aside0.mk (show ∀ (hh : j < r.length), r[j].length ≤ 200 from fun hh => HW.out _ (List.getElem_mem hh))
        have hjr : j < r.length := by rw [HR.out]; exact hlt
        have HX2 := Aside0.mk (HXR.out hjr)
        clear HXR
        cases hnum : numOf r[j] with
        | some u =>
          have HNU := Aside0.mk hnum
          have hxe := Aside0.mk (numOf_some.mp hnum)
          clear hnum
          go_upto_region 10 with fail
          clear hcell
          have hcmp : (decDigits u == r[j]) = true := by rw [hxe.out.2]; exact beq_self_eq_true _
          go_wp2_with (first
            | (go_at_call 25; (with_reducible show Calls _ _ #[_, _, _] _ _); refine (pu_some _ u HNU.out HX2.out _).mono ?_; rintro e w9 ⟨rfl, hb⟩; have HP9 := Aside0.mk (HPR.out.below hb); clear hb HPR)
            | (go_at_call 26; (with_reducible show Calls _ _ #[_, _] _ _); refine (fmt_calls u hxe.out.1 _ (HG.out.below HP9.out.b)).mono ?_; rintro e w10 ⟨rfl, hb⟩; have HPA := Aside0.mk (HP9.out.below hb); clear hb HP9; obtain ⟨hz1, hz2⟩ := HPA.out.num j (by omega)))
          exact ⟨⟨j + 1, m.set j u, by omega, by go_num, ⟨HPA.out.put u (by omega) hjr HNU.out HG7.out⟩⟩, by simp [RowKit.intOf]; omega⟩
        | none =>
          have hpar : Aside0 (parseB s.data.toList = none) := ⟨by
            unfold parseB
            rw [HC.out]
            simp only
            rw [if_neg (by rw [HK.out]; decide), numsOf_none r _ (List.getElem_mem hjr) hnum]
            simp⟩
          have HNU := Aside0.mk hnum
          clear hnum
          go_upto_region 10 with fail
          clear hcell
          rcases pu_none _ HNU.out HX2.out wr (HG.out.below HPR.out.b) with ⟨u, hu, hne, hcall⟩ | ⟨v, hcall⟩
          · have HCL := Aside0.mk hcall
            have HU := Aside0.mk hu
            have hcmp : (decDigits u == r[j]) = false := beq_eq_false_iff_ne.mpr hne
            clear hcall hu hne
            go_wp2_with (first
              | (go_at_call 25; (with_reducible show Calls _ _ #[_, _, _] _ _); refine HCL.out.mono ?_; rintro e w9 ⟨rfl, hb⟩; have HP9 := Aside0.mk (HPR.out.below hb); clear hb HPR HCL)
              | (go_at_call 26; (with_reducible show Calls _ _ #[_, _] _ _); refine (fmt_calls u HU.out _ (HG.out.below HP9.out.b)).mono ?_; rintro e w10 ⟨rfl, hb⟩; have HPA := Aside0.mk (HP9.out.below hb); clear hb HP9; obtain ⟨⟨z0, z1, z2, z3, z4, z5⟩, y0, y1, y2, y3, y4, y5⟩ := zcells HPA.out.z))
            refine bodyPost_ret (v := .tuple #[.agg nm0.cells, .bool false]) (by simp [results, Tryd.results8, go_sem, nm0, Nm.cells, z0, z1, z2, z3, z4, z5]) rfl ⟨by rw [parseN, parseOk, hpar.out]; rfl, ?_⟩
            exact below6 HPA.out.b (Nat.le_refl _) _ _ _ _ _ _
          · have HCL := Aside0.mk hcall
            clear hcall
            go_wp2_with (go_at_call 25; (with_reducible show Calls _ _ #[_, _, _] _ _); refine HCL.out.mono ?_; rintro e w9 ⟨⟨N, rfl⟩, hb⟩; have HP9 := Aside0.mk (HPR.out.below hb); clear hb HPR HCL; obtain ⟨⟨z0, z1, z2, z3, z4, z5⟩, y0, y1, y2, y3, y4, y5⟩ := zcells HP9.out.z)
            refine bodyPost_ret (v := .tuple #[.agg nm0.cells, .bool false]) (by simp [results, Tryd.results8, go_sem, nm0, Nm.cells, z0, z1, z2, z3, z4, z5]) rfl ⟨by rw [parseN, parseOk, hpar.out]; rfl, ?_⟩
            exact below6 HP9.out.b (Nat.le_refl _) _ _ _ _ _ _
      · obtain rfl : j = 3 := by omega
        have hfin := Aside0.mk (HPR.out.parsed (k := 3) HK.out (by decide) HR.out HC.out)
        obtain ⟨m0, m1, m2, m3, rfl⟩ := HPR.out.four
        change Aside0 (parseB s.data.toList = some (ofN 3 m0 m1 m2 m3)) at hfin
        have hm0 := (HPR.out.num 0 (by decide)).1
        have hm1 := (HPR.out.num 1 (by decide)).1
        have hm2 := (HPR.out.num 2 (by decide)).1
        have hm3 := (HPR.out.num 3 (by decide)).1
        change wr.cell? ⟨g7, 0, none⟩ = some (.int .u64 m0) at hm0
        change wr.cell? ⟨g7, 1, none⟩ = some (.int .u64 m1) at hm1
        change wr.cell? ⟨g7, 2, none⟩ = some (.int .u64 m2) at hm2
        change wr.cell? ⟨g7, 3, none⟩ = some (.int .u64 m3) at hm3
        generalize ho : ofN 3 m0 m1 m2 m3 = o at hfin
        obtain ⟨kd', d', n', p', i', k'⟩ := o
        have HO := Aside0.mk ho
        clear ho
        go_wp2_with (go_at_call 27; refine (of_callsV 3 m0 m1 m2 m3 kd' d' n' p' i' k' _ HO.out).mono ?_; rintro e w9 ⟨rfl, hb⟩; have HP9 := Aside0.mk (HPR.out.below hb); clear hb HPR hm0 hm1 hm2 hm3; obtain ⟨⟨z0, z1, z2, z3, z4, z5⟩, y0, y1, y2, y3, y4, y5⟩ := zcells HP9.out.z)
        refine bodyPost_ret (v := .tuple #[.agg (⟨kd', d', n', p', i', k'⟩ : Nm).cells, .bool true]) (by simp [results, Tryd.results8, go_sem, Nm.cells, z0, z1, z2, z3, z4, z5]) rfl ⟨by rw [parseN, parseOk, hfin.out]; rfl, ?_⟩
        exact below6 HP9.out.b (Nat.le_refl _) _ _ _ _ _ _
  · have hq1 : ((n : Int) == 4) = false := beq_eq_false_iff_ne.mpr (by omega)
    have hq2 : ((n : Int) != 4) = true := bne_iff_ne.mpr (by omega)
    have hq3 : ¬ (n : Int) = 4 := by omega
    have hq4 : ¬ n = 4 := hlen
    have hq5 : decide ((n : Int) = 4) = false := decide_eq_false hq3
    have hpar : Aside0 (parseB s.data.toList = none) := ⟨by
      unfold parseB
      rw [HC.out]
      simp only
      rw [if_neg (by rw [HK.out]; decide), HK.out, if_neg (fun he => hq4 (by have h1 := HN.out; rw [List.length_cons] at h1; have h2 : r.length = 3 := he; omega))]⟩
    go_wp2_with (go_at_call 24; refine (counts_calls _).mono ?_; rintro e w7 ⟨rfl, hb⟩; have HB7 := Aside0.mk (below_step HB6.out hb); have HZ7 := Aside0.mk ((hb.block _ (Array.getElem?_eq_some_iff.1 HZ6.out).1).trans HZ6.out); have HW7 := Aside0.mk ((hb.block _ (Array.getElem?_eq_some_iff.1 HW6.out).1).trans HW6.out); clear hb HB6 HZ6 HW6; obtain ⟨⟨z0, z1, z2, z3, z4, z5⟩, y0, y1, y2, y3, y4, y5⟩ := zcells HZ7.out)
    refine bodyPost_ret (v := .tuple #[.agg nm0.cells, .bool false]) (by simp [results, Tryd.results8, go_sem, nm0, Nm.cells, z0, z1, z2, z3, z4, z5]) rfl ⟨by rw [parseN, parseOk, hpar.out]; rfl, ?_⟩
    exact below6 HB7.out (Nat.le_refl _) _ _ _ _ _ _
set_option maxHeartbeats 4000000 in
set_option maxRecDepth 100000 in
theorem parse_4 (s : ByteArray) (hs : s.size ≤ 200) (h : List UInt8) (r : List (List UInt8)) (n : Nat) (hc : Plain.cut s.data.toList = h :: r) (hn : (h :: r).length = n) (hk : kindOf h = 4) (hw : ∀ x ∈ r, x.length ≤ 200) (w : World) (hG : Glob w) :
    Calls Tryd.prog 8 #[.string s] w fun e w' => e = .returned (.tuple #[.agg (parseN s.data.toList).cells, .bool (parseOk s.data.toList)]) ∧ Below w.heap.size w w' := by
  have HG := Aside0.mk hG
  have HC := Aside0.mk hc
  have HN := Aside0.mk hn
  have HK := Aside0.mk hk
  have HW := Aside0.mk hw
  have HS := Aside0.mk hs
  clear hG hc hn hk hw hs
  have hsh := fun g W => slice_heads g W
  have hcx : ∀ W, (Instr.index 51 (.agg #[.int .i64 0, .int .i64 2, .int .i64 2, .int .i64 3, .int .i64 4]) (.int .i64 4)).run Tryd.prog W = .ok (.int .i64 4) W := idx_countsI 4 (by decide)
  go_enter Tryd.func8, Tryd.ntmps8
  go_upto_region 2 with (go_at_call 21; refine (splitV_calls s (by have := HS.out; omega) (h :: r) n HC.out HN.out _ (HG.out.below (below_alloc (Below.refl _ _) _))).mono ?_; rintro e w2 ⟨rfl, rfl⟩)
  have HB2 := Aside0.mk (below_alloc (below_alloc (Below.refl w.heap.size w) (.cells #[.int .u8 0, .int .u64 0, .int .u64 0, .int .u64 0, .int .u64 0, .int .u64 0] 25)) (.cells (strL (h :: r)).toArray 9))
  have HZ2 := Aside0.mk (((below_alloc (Below.refl _ (w.alloc (.cells #[.int .u8 0, .int .u64 0, .int .u64 0, .int .u64 0, .int .u64 0, .int .u64 0] 25))) (.cells (strL (h :: r)).toArray 9)).block w.heap.size (by simp)).trans (heap_alloc_new w (.cells #[.int .u8 0, .int .u64 0, .int .u64 0, .int .u64 0, .int .u64 0, .int .u64 0] 25)))
  have HW2 := Aside0.mk (heap_alloc_new (w.alloc (.cells #[.int .u8 0, .int .u64 0, .int .u64 0, .int .u64 0, .int .u64 0, .int .u64 0] 25)) (.cells (strL (h :: r)).toArray 9))
  rw [World.size_alloc] at HW2
  generalize (w.alloc (.cells #[.int .u8 0, .int .u64 0, .int .u64 0, .int .u64 0, .int .u64 0, .int .u64 0] 25)).alloc (.cells (strL (h :: r)).toArray 9) = w2 at HB2 HZ2 HW2 ⊢
  have HL2 := Aside0.mk (show w.heap.size < w.heap.size + 1 by omega)
  generalize w.heap.size + 1 = gw at HW2 HL2 ⊢
  go_upto_region 3 with (go_at_call 22; refine (heads_calls _).mono ?_; rintro e w3 ⟨rfl, hb⟩; have HB3 := Aside0.mk (below_step HB2.out hb); have HZ3 := Aside0.mk ((hb.block _ (Array.getElem?_eq_some_iff.1 HZ2.out).1).trans HZ2.out); have HW3 := Aside0.mk ((hb.block _ (Array.getElem?_eq_some_iff.1 HW2.out).1).trans HW2.out); clear hb HB2 HZ2 HW2)
  have hb := below_alloc (Below.refl _ w3) (.cells headCells 48)
  have HB4 := Aside0.mk (below_step HB3.out hb)
  have HZ4 := Aside0.mk ((hb.block _ (Array.getElem?_eq_some_iff.1 HZ3.out).1).trans HZ3.out)
  have HW4 := Aside0.mk ((hb.block _ (Array.getElem?_eq_some_iff.1 HW3.out).1).trans HW3.out)
  have HH5 := Aside0.mk (heap_alloc_new w3 (.cells headCells 48))
  change Code.wp _ _ _ _ (w3.alloc (.cells headCells 48)) at ⊢
  generalize w3.alloc (.cells headCells 48) = w5 at HB4 HZ4 HW4 HH5 ⊢
  generalize w3.heap.size = g5 at HH5 ⊢
  clear hb HB3 HZ3 HW3
  have hd0 : w5.drew.cell? ⟨gw, 0, none⟩ = some (.string ⟨h.toArray⟩) := by show w5.cell? _ = _; simp [World.cell?, HW4.out, strL]
  have HBD := Aside0.mk (below_drew (Below.refl w5.heap.size w5))
  have hnN : 0 < n := by have := HN.out; rw [List.length_cons] at this; omega
  have hn0 : (0 : Int) < (n : Int) := by have := HN.out; rw [List.length_cons] at this; omega
  refine start_ (n := 7) (S := fun w' => w'.cell? ⟨gw, 0, none⟩ = some (.string ⟨h.toArray⟩)) (ds := []) #[false, false, false, false, false, false, false] (by kernel_rfl) rfl rfl (hd0) (fun hHeld => ?_)
  refine pure_ (i := 0) (N := some 15) (v := ?_) (a' := ?_) #[true, false, false, false, false, false, false] rfl rfl (by kernel_rfl) (fun _ _ _ h => h) (Or.inl ⟨by rfl, ?_⟩) ?_ ?_
  rotate_left
  · intro w'
    go_simp
    with_reducible rfl
  rotate_left
  · simp only [Act.put, List.setIfInBounds_toArray, List.set_cons_zero, List.set_cons_succ, i64_w, i32_w]
    rfl
  refine pure_ (i := 1) (N := some 16) (v := ?_) (a' := ?_) #[true, true, false, false, false, false, false] rfl rfl (by kernel_rfl) (fun _ _ _ h => h) (Or.inl ⟨by rfl, ?_⟩) ?_ ?_
  rotate_left
  · intro w'
    go_simp
    with_reducible rfl
  rotate_left
  · simp only [Act.put, List.setIfInBounds_toArray, List.set_cons_zero, List.set_cons_succ, i64_w, i32_w]
    rfl
  refine pure_ (i := 2) (N := some 17) (v := ?_) (a' := ?_) #[true, true, true, false, false, false, false] rfl rfl (by kernel_rfl) (fun _ _ _ h => h) (Or.inl ⟨by rfl, ?_⟩) ?_ ?_
  rotate_left
  · intro w'
    go_simp
    with_reducible rfl
  rotate_left
  · simp only [Act.put, List.setIfInBounds_toArray, List.set_cons_zero, List.set_cons_succ, i64_w, i32_w]
    rfl
  refine take_ (i := 3) (N := some 18) (v := ?_) (a' := ?_) #[true, true, true, true, false, false, false] rfl rfl (by kernel_rfl) (fun _ _ _ h => h) (Or.inl ⟨by rfl, ?_⟩) hHeld ?_ ?_
  rotate_left
  · intro w' s0
    go_simp
    with_reducible rfl
  rotate_left
  · simp only [Act.put, List.setIfInBounds_toArray, List.set_cons_zero, List.set_cons_succ, i64_w, i32_w]
    rfl
  refine one_ (i := 4) (N := some 19) #[true, true, true, true, true, false, false] rfl rfl (by kernel_rfl) (by decide) (fun K hK => ?_)
  refine goes_ Tryd.func23 (by kernel_rfl) rfl #[.slice (some ⟨g5, 1, none⟩) 4 4, .string ⟨h.toArray⟩] (by rfl) rfl rfl (by (try simp only [List.map_toArray, List.map_cons, List.map_nil]); first | done | rfl) ?_
  with_reducible refine (idx_callsB g5 4 4 3 rfl 48 h _ ((HBD.out.block g5 (Array.getElem?_eq_some_iff.1 HH5.out).1).trans HH5.out) HK.out).mono ?_
  rintro e wq4 ⟨rfl, hbq⟩
  refine ⟨_, rfl, ?_⟩
  have HBq4 := Aside0.mk (below_step HBD.out hbq)
  clear hbq
  refine hK.out _ _ (pw_cell_below HBq4.out hd0) (fun hHeld => ?_)
  clear hK K
  refine norm_ (a' := ?_) ?_ ?_
  rotate_left
  · show Act.put _ (some 19) _ = _
    simp only [Act.put, List.setIfInBounds_toArray, List.set_cons_zero, List.set_cons_succ, i64_w, i32_w]
    rfl
  refine pure_ (i := 5) (N := some 20) (v := ?_) (a' := ?_) #[true, true, true, true, true, true, false] rfl rfl (by kernel_rfl) (fun _ _ _ h => h) (Or.inl ⟨by rfl, ?_⟩) ?_ ?_
  rotate_left
  · intro w'
    go_simp
    with_reducible rfl
  rotate_left
  · simp only [Act.put, List.setIfInBounds_toArray, List.set_cons_zero, List.set_cons_succ, i64_w, i32_w]
    rfl
  refine pure_ (i := 6) (N := some 6) (v := ?_) (a' := ?_) #[true, true, true, true, true, true, true] rfl rfl (by kernel_rfl) (fun _ _ _ h => h) (Or.inl ⟨by rfl, ?_⟩) ?_ ?_
  rotate_left
  · intro w'
    go_simp
    with_reducible rfl
  rotate_left
  · simp only [Act.put, List.setIfInBounds_toArray, List.set_cons_zero, List.set_cons_succ, i64_w, i32_w]
    rfl
  refine done_ (by kernel_rfl) ?_
  rw [show wrap64 4 = 4 from by kernel_rfl]
  have HB6 := Aside0.mk (below_step HB4.out HBq4.out)
  have HZ6 := Aside0.mk ((HBq4.out.block _ (Array.getElem?_eq_some_iff.1 HZ4.out).1).trans HZ4.out)
  have HW6 := Aside0.mk ((HBq4.out.block _ (Array.getElem?_eq_some_iff.1 HW4.out).1).trans HW4.out)
  clear hHeld HBq4 HB4 HZ4 HW4 HBD HH5 hd0 hsh
  generalize wq4 = w6 at HB6 HZ6 HW6 ⊢
  by_cases hlen : n = 5
  · obtain rfl := hlen
    go_upto_region 8 with (go_at_call 24; refine (counts_calls _).mono ?_; rintro e w7 ⟨rfl, hb⟩; have HB7 := Aside0.mk (below_step HB6.out hb); have HZ7 := Aside0.mk ((hb.block _ (Array.getElem?_eq_some_iff.1 HZ6.out).1).trans HZ6.out); have HW7 := Aside0.mk ((hb.block _ (Array.getElem?_eq_some_iff.1 HW6.out).1).trans HW6.out); clear hb HB6 HZ6 HW6)
    have HR := Aside0.mk (show r.length = 4 by have := HN.out; rw [List.length_cons] at this; omega)
    have HB8 := below_alloc (Below.refl _ w7) (.cells (arrC [0, 0, 0, 0]) 53)
    have HP8 := Aside0.mk (PS.mk (gw := gw) (h := h) (r := r) (j := 0) (g7 := w7.heap.size) (below_step HB7.out HB8) ((HB8.block _ (Array.getElem?_eq_some_iff.1 HZ7.out).1).trans HZ7.out) ((HB8.block _ (Array.getElem?_eq_some_iff.1 HW7.out).1).trans HW7.out) (heap_alloc_new w7 _) rfl rfl (fun i _ => by rcases i with _ | _ | _ | _ | i <;> simp))
    have HG7 := Aside0.mk HB7.out.size
    change Code.wp _ _ _ _ (w7.alloc (.cells (arrC [0, 0, 0, 0]) 53)) at ⊢
    generalize w7.alloc (.cells (arrC [0, 0, 0, 0]) 53) = w8 at HP8 ⊢
    generalize w7.heap.size = g7 at HP8 HG7 ⊢
    clear HB8 HB7 HZ7 HW7
    go_loopw [36] (fun v36 wr => ∃ (j : Nat) (m : List Nat), j ≤ 4 ∧ v36 = .int .i64 j ∧ Aside0 (PS w wr gw g7 h r j m)) (fun v36 _ => 4 - (RowKit.intOf v36).toNat)
    case atStart => exact ⟨0, _, by omega, rfl, HP8⟩
    case round =>
      obtain ⟨j, m, hj, rfl, HPR⟩ := hrel
      clear HP8
      by_cases hlt : j < 4
      · have hltI : (j : Int) < 4 := by omega
        have hcell := HPR.out.word j (by rw [HR.out]; exact hlt)
        have HXR := Aside0.mk (show ∀ (hh : j < r.length), r[j].length ≤ 200 from fun hh => HW.out _ (List.getElem_mem hh))
        have hjr : j < r.length := by rw [HR.out]; exact hlt
        have HX2 := Aside0.mk (HXR.out hjr)
        clear HXR
        cases hnum : numOf r[j] with
        | some u =>
          have HNU := Aside0.mk hnum
          have hxe := Aside0.mk (numOf_some.mp hnum)
          clear hnum
          go_upto_region 10 with fail
          clear hcell
          have hcmp : (decDigits u == r[j]) = true := by rw [hxe.out.2]; exact beq_self_eq_true _
          go_wp2_with (first
            | (go_at_call 25; (with_reducible show Calls _ _ #[_, _, _] _ _); refine (pu_some _ u HNU.out HX2.out _).mono ?_; rintro e w9 ⟨rfl, hb⟩; have HP9 := Aside0.mk (HPR.out.below hb); clear hb HPR)
            | (go_at_call 26; (with_reducible show Calls _ _ #[_, _] _ _); refine (fmt_calls u hxe.out.1 _ (HG.out.below HP9.out.b)).mono ?_; rintro e w10 ⟨rfl, hb⟩; have HPA := Aside0.mk (HP9.out.below hb); clear hb HP9; obtain ⟨hz1, hz2⟩ := HPA.out.num j (by omega)))
          exact ⟨⟨j + 1, m.set j u, by omega, by go_num, ⟨HPA.out.put u (by omega) hjr HNU.out HG7.out⟩⟩, by simp [RowKit.intOf]; omega⟩
        | none =>
          have hpar : Aside0 (parseB s.data.toList = none) := ⟨by
            unfold parseB
            rw [HC.out]
            simp only
            rw [if_neg (by rw [HK.out]; decide), numsOf_none r _ (List.getElem_mem hjr) hnum]
            simp⟩
          have HNU := Aside0.mk hnum
          clear hnum
          go_upto_region 10 with fail
          clear hcell
          rcases pu_none _ HNU.out HX2.out wr (HG.out.below HPR.out.b) with ⟨u, hu, hne, hcall⟩ | ⟨v, hcall⟩
          · have HCL := Aside0.mk hcall
            have HU := Aside0.mk hu
            have hcmp : (decDigits u == r[j]) = false := beq_eq_false_iff_ne.mpr hne
            clear hcall hu hne
            go_wp2_with (first
              | (go_at_call 25; (with_reducible show Calls _ _ #[_, _, _] _ _); refine HCL.out.mono ?_; rintro e w9 ⟨rfl, hb⟩; have HP9 := Aside0.mk (HPR.out.below hb); clear hb HPR HCL)
              | (go_at_call 26; (with_reducible show Calls _ _ #[_, _] _ _); refine (fmt_calls u HU.out _ (HG.out.below HP9.out.b)).mono ?_; rintro e w10 ⟨rfl, hb⟩; have HPA := Aside0.mk (HP9.out.below hb); clear hb HP9; obtain ⟨⟨z0, z1, z2, z3, z4, z5⟩, y0, y1, y2, y3, y4, y5⟩ := zcells HPA.out.z))
            refine bodyPost_ret (v := .tuple #[.agg nm0.cells, .bool false]) (by simp [results, Tryd.results8, go_sem, nm0, Nm.cells, z0, z1, z2, z3, z4, z5]) rfl ⟨by rw [parseN, parseOk, hpar.out]; rfl, ?_⟩
            exact below6 HPA.out.b (Nat.le_refl _) _ _ _ _ _ _
          · have HCL := Aside0.mk hcall
            clear hcall
            go_wp2_with (go_at_call 25; (with_reducible show Calls _ _ #[_, _, _] _ _); refine HCL.out.mono ?_; rintro e w9 ⟨⟨N, rfl⟩, hb⟩; have HP9 := Aside0.mk (HPR.out.below hb); clear hb HPR HCL; obtain ⟨⟨z0, z1, z2, z3, z4, z5⟩, y0, y1, y2, y3, y4, y5⟩ := zcells HP9.out.z)
            refine bodyPost_ret (v := .tuple #[.agg nm0.cells, .bool false]) (by simp [results, Tryd.results8, go_sem, nm0, Nm.cells, z0, z1, z2, z3, z4, z5]) rfl ⟨by rw [parseN, parseOk, hpar.out]; rfl, ?_⟩
            exact below6 HP9.out.b (Nat.le_refl _) _ _ _ _ _ _
      · obtain rfl : j = 4 := by omega
        have hfin := Aside0.mk (HPR.out.parsed (k := 4) HK.out (by decide) HR.out HC.out)
        obtain ⟨m0, m1, m2, m3, rfl⟩ := HPR.out.four
        change Aside0 (parseB s.data.toList = some (ofN 4 m0 m1 m2 m3)) at hfin
        have hm0 := (HPR.out.num 0 (by decide)).1
        have hm1 := (HPR.out.num 1 (by decide)).1
        have hm2 := (HPR.out.num 2 (by decide)).1
        have hm3 := (HPR.out.num 3 (by decide)).1
        change wr.cell? ⟨g7, 0, none⟩ = some (.int .u64 m0) at hm0
        change wr.cell? ⟨g7, 1, none⟩ = some (.int .u64 m1) at hm1
        change wr.cell? ⟨g7, 2, none⟩ = some (.int .u64 m2) at hm2
        change wr.cell? ⟨g7, 3, none⟩ = some (.int .u64 m3) at hm3
        generalize ho : ofN 4 m0 m1 m2 m3 = o at hfin
        obtain ⟨kd', d', n', p', i', k'⟩ := o
        have HO := Aside0.mk ho
        clear ho
        go_wp2_with (go_at_call 27; refine (of_callsV 4 m0 m1 m2 m3 kd' d' n' p' i' k' _ HO.out).mono ?_; rintro e w9 ⟨rfl, hb⟩; have HP9 := Aside0.mk (HPR.out.below hb); clear hb HPR hm0 hm1 hm2 hm3; obtain ⟨⟨z0, z1, z2, z3, z4, z5⟩, y0, y1, y2, y3, y4, y5⟩ := zcells HP9.out.z)
        refine bodyPost_ret (v := .tuple #[.agg (⟨kd', d', n', p', i', k'⟩ : Nm).cells, .bool true]) (by simp [results, Tryd.results8, go_sem, Nm.cells, z0, z1, z2, z3, z4, z5]) rfl ⟨by rw [parseN, parseOk, hfin.out]; rfl, ?_⟩
        exact below6 HP9.out.b (Nat.le_refl _) _ _ _ _ _ _
  · have hq1 : ((n : Int) == 5) = false := beq_eq_false_iff_ne.mpr (by omega)
    have hq2 : ((n : Int) != 5) = true := bne_iff_ne.mpr (by omega)
    have hq3 : ¬ (n : Int) = 5 := by omega
    have hq4 : ¬ n = 5 := hlen
    have hq5 : decide ((n : Int) = 5) = false := decide_eq_false hq3
    have hpar : Aside0 (parseB s.data.toList = none) := ⟨by
      unfold parseB
      rw [HC.out]
      simp only
      rw [if_neg (by rw [HK.out]; decide), HK.out, if_neg (fun he => hq4 (by have h1 := HN.out; rw [List.length_cons] at h1; have h2 : r.length = 4 := he; omega))]⟩
    go_wp2_with (go_at_call 24; refine (counts_calls _).mono ?_; rintro e w7 ⟨rfl, hb⟩; have HB7 := Aside0.mk (below_step HB6.out hb); have HZ7 := Aside0.mk ((hb.block _ (Array.getElem?_eq_some_iff.1 HZ6.out).1).trans HZ6.out); have HW7 := Aside0.mk ((hb.block _ (Array.getElem?_eq_some_iff.1 HW6.out).1).trans HW6.out); clear hb HB6 HZ6 HW6; obtain ⟨⟨z0, z1, z2, z3, z4, z5⟩, y0, y1, y2, y3, y4, y5⟩ := zcells HZ7.out)
    refine bodyPost_ret (v := .tuple #[.agg nm0.cells, .bool false]) (by simp [results, Tryd.results8, go_sem, nm0, Nm.cells, z0, z1, z2, z3, z4, z5]) rfl ⟨by rw [parseN, parseOk, hpar.out]; rfl, ?_⟩
    exact below6 HB7.out (Nat.le_refl _) _ _ _ _ _ _
set_option maxHeartbeats 4000000 in
set_option maxRecDepth 100000 in
theorem parse_0 (s : ByteArray) (hs : s.size ≤ 200) (h : List UInt8) (r : List (List UInt8)) (n : Nat) (hc : Plain.cut s.data.toList = h :: r) (hn : (h :: r).length = n) (hk : kindOf h = 0) (hw : ∀ x ∈ r, x.length ≤ 200) (w : World) (hG : Glob w) :
    Calls Tryd.prog 8 #[.string s] w fun e w' => e = .returned (.tuple #[.agg (parseN s.data.toList).cells, .bool (parseOk s.data.toList)]) ∧ Below w.heap.size w w' := by
  have HG := Aside0.mk hG
  have HC := Aside0.mk hc
  have HN := Aside0.mk hn
  have HK := Aside0.mk hk
  have HW := Aside0.mk hw
  have HS := Aside0.mk hs
  clear hG hc hn hk hw hs
  have hsh := fun g W => slice_heads g W
  go_enter Tryd.func8, Tryd.ntmps8
  go_upto_region 2 with (go_at_call 21; refine (splitV_calls s (by have := HS.out; omega) (h :: r) n HC.out HN.out _ (HG.out.below (below_alloc (Below.refl _ _) _))).mono ?_; rintro e w2 ⟨rfl, rfl⟩)
  have HB2 := Aside0.mk (below_alloc (below_alloc (Below.refl w.heap.size w) (.cells #[.int .u8 0, .int .u64 0, .int .u64 0, .int .u64 0, .int .u64 0, .int .u64 0] 25)) (.cells (strL (h :: r)).toArray 9))
  have HZ2 := Aside0.mk (((below_alloc (Below.refl _ (w.alloc (.cells #[.int .u8 0, .int .u64 0, .int .u64 0, .int .u64 0, .int .u64 0, .int .u64 0] 25))) (.cells (strL (h :: r)).toArray 9)).block w.heap.size (by simp)).trans (heap_alloc_new w (.cells #[.int .u8 0, .int .u64 0, .int .u64 0, .int .u64 0, .int .u64 0, .int .u64 0] 25)))
  have HW2 := Aside0.mk (heap_alloc_new (w.alloc (.cells #[.int .u8 0, .int .u64 0, .int .u64 0, .int .u64 0, .int .u64 0, .int .u64 0] 25)) (.cells (strL (h :: r)).toArray 9))
  rw [World.size_alloc] at HW2
  generalize (w.alloc (.cells #[.int .u8 0, .int .u64 0, .int .u64 0, .int .u64 0, .int .u64 0, .int .u64 0] 25)).alloc (.cells (strL (h :: r)).toArray 9) = w2 at HB2 HZ2 HW2 ⊢
  have HL2 := Aside0.mk (show w.heap.size < w.heap.size + 1 by omega)
  generalize w.heap.size + 1 = gw at HW2 HL2 ⊢
  go_upto_region 3 with (go_at_call 22; refine (heads_calls _).mono ?_; rintro e w3 ⟨rfl, hb⟩; have HB3 := Aside0.mk (below_step HB2.out hb); have HZ3 := Aside0.mk ((hb.block _ (Array.getElem?_eq_some_iff.1 HZ2.out).1).trans HZ2.out); have HW3 := Aside0.mk ((hb.block _ (Array.getElem?_eq_some_iff.1 HW2.out).1).trans HW2.out); clear hb HB2 HZ2 HW2)
  have hb := below_alloc (Below.refl _ w3) (.cells headCells 48)
  have HB4 := Aside0.mk (below_step HB3.out hb)
  have HZ4 := Aside0.mk ((hb.block _ (Array.getElem?_eq_some_iff.1 HZ3.out).1).trans HZ3.out)
  have HW4 := Aside0.mk ((hb.block _ (Array.getElem?_eq_some_iff.1 HW3.out).1).trans HW3.out)
  have HH5 := Aside0.mk (heap_alloc_new w3 (.cells headCells 48))
  change Code.wp _ _ _ _ (w3.alloc (.cells headCells 48)) at ⊢
  generalize w3.alloc (.cells headCells 48) = w5 at HB4 HZ4 HW4 HH5 ⊢
  generalize w3.heap.size = g5 at HH5 ⊢
  clear hb HB3 HZ3 HW3
  have hd0 : w5.drew.cell? ⟨gw, 0, none⟩ = some (.string ⟨h.toArray⟩) := by show w5.cell? _ = _; simp [World.cell?, HW4.out, strL]
  have HBD := Aside0.mk (below_drew (Below.refl w5.heap.size w5))
  have hnN : 0 < n := by have := HN.out; rw [List.length_cons] at this; omega
  have hn0 : (0 : Int) < (n : Int) := by have := HN.out; rw [List.length_cons] at this; omega
  refine start_ (n := 7) (S := fun w' => w'.cell? ⟨gw, 0, none⟩ = some (.string ⟨h.toArray⟩)) (ds := []) #[false, false, false, false, false, false, false] (by kernel_rfl) rfl rfl (hd0) (fun hHeld => ?_)
  refine pure_ (i := 0) (N := some 15) (v := ?_) (a' := ?_) #[true, false, false, false, false, false, false] rfl rfl (by kernel_rfl) (fun _ _ _ h => h) (Or.inl ⟨by rfl, ?_⟩) ?_ ?_
  rotate_left
  · intro w'
    go_simp
    with_reducible rfl
  rotate_left
  · simp only [Act.put, List.setIfInBounds_toArray, List.set_cons_zero, List.set_cons_succ, i64_w, i32_w]
    rfl
  refine pure_ (i := 1) (N := some 16) (v := ?_) (a' := ?_) #[true, true, false, false, false, false, false] rfl rfl (by kernel_rfl) (fun _ _ _ h => h) (Or.inl ⟨by rfl, ?_⟩) ?_ ?_
  rotate_left
  · intro w'
    go_simp
    with_reducible rfl
  rotate_left
  · simp only [Act.put, List.setIfInBounds_toArray, List.set_cons_zero, List.set_cons_succ, i64_w, i32_w]
    rfl
  refine pure_ (i := 2) (N := some 17) (v := ?_) (a' := ?_) #[true, true, true, false, false, false, false] rfl rfl (by kernel_rfl) (fun _ _ _ h => h) (Or.inl ⟨by rfl, ?_⟩) ?_ ?_
  rotate_left
  · intro w'
    go_simp
    with_reducible rfl
  rotate_left
  · simp only [Act.put, List.setIfInBounds_toArray, List.set_cons_zero, List.set_cons_succ, i64_w, i32_w]
    rfl
  refine take_ (i := 3) (N := some 18) (v := ?_) (a' := ?_) #[true, true, true, true, false, false, false] rfl rfl (by kernel_rfl) (fun _ _ _ h => h) (Or.inl ⟨by rfl, ?_⟩) hHeld ?_ ?_
  rotate_left
  · intro w' s0
    go_simp
    with_reducible rfl
  rotate_left
  · simp only [Act.put, List.setIfInBounds_toArray, List.set_cons_zero, List.set_cons_succ, i64_w, i32_w]
    rfl
  refine one_ (i := 4) (N := some 19) #[true, true, true, true, true, false, false] rfl rfl (by kernel_rfl) (by decide) (fun K hK => ?_)
  refine goes_ Tryd.func23 (by kernel_rfl) rfl #[.slice (some ⟨g5, 1, none⟩) 4 4, .string ⟨h.toArray⟩] (by rfl) rfl rfl (by (try simp only [List.map_toArray, List.map_cons, List.map_nil]); first | done | rfl) ?_
  with_reducible refine (idx_callsB g5 4 0 (-1) rfl 48 h _ ((HBD.out.block g5 (Array.getElem?_eq_some_iff.1 HH5.out).1).trans HH5.out) HK.out).mono ?_
  rintro e wq4 ⟨rfl, hbq⟩
  refine ⟨_, rfl, ?_⟩
  have HBq4 := Aside0.mk (below_step HBD.out hbq)
  clear hbq
  refine hK.out _ _ (pw_cell_below HBq4.out hd0) (fun hHeld => ?_)
  clear hK K
  refine norm_ (a' := ?_) ?_ ?_
  rotate_left
  · show Act.put _ (some 19) _ = _
    simp only [Act.put, List.setIfInBounds_toArray, List.set_cons_zero, List.set_cons_succ, i64_w, i32_w]
    rfl
  refine pure_ (i := 5) (N := some 20) (v := ?_) (a' := ?_) #[true, true, true, true, true, true, false] rfl rfl (by kernel_rfl) (fun _ _ _ h => h) (Or.inl ⟨by rfl, ?_⟩) ?_ ?_
  rotate_left
  · intro w'
    go_simp
    with_reducible rfl
  rotate_left
  · simp only [Act.put, List.setIfInBounds_toArray, List.set_cons_zero, List.set_cons_succ, i64_w, i32_w]
    rfl
  refine pure_ (i := 6) (N := some 6) (v := ?_) (a' := ?_) #[true, true, true, true, true, true, true] rfl rfl (by kernel_rfl) (fun _ _ _ h => h) (Or.inl ⟨by rfl, ?_⟩) ?_ ?_
  rotate_left
  · intro w'
    go_simp
    with_reducible rfl
  rotate_left
  · simp only [Act.put, List.setIfInBounds_toArray, List.set_cons_zero, List.set_cons_succ, i64_w, i32_w]
    rfl
  refine done_ (by kernel_rfl) ?_
  try rw [show wrap64 0 = 0 from by kernel_rfl]
  have HB6 := Aside0.mk (below_step HB4.out HBq4.out)
  have HZ6 := Aside0.mk ((HBq4.out.block _ (Array.getElem?_eq_some_iff.1 HZ4.out).1).trans HZ4.out)
  have HW6 := Aside0.mk ((HBq4.out.block _ (Array.getElem?_eq_some_iff.1 HW4.out).1).trans HW4.out)
  clear hHeld HBq4 HB4 HZ4 HW4 HBD HH5 hd0 hsh
  generalize wq4 = w6 at HB6 HZ6 HW6 ⊢
  have hpar : Aside0 (parseB s.data.toList = none) := ⟨by
    unfold parseB
    rw [HC.out]
    simp only
    rw [if_pos HK.out]⟩
  obtain ⟨⟨z0, z1, z2, z3, z4, z5⟩, y0, y1, y2, y3, y4, y5⟩ := zcells HZ6.out
  go_wp2
  refine bodyPost_ret (v := .tuple #[.agg nm0.cells, .bool false]) (by simp [results, Tryd.results8, go_sem, nm0, Nm.cells, z0, z1, z2, z3, z4, z5]) rfl ⟨by rw [parseN, parseOk, hpar.out]; rfl, ?_⟩
  exact below6 HB6.out (Nat.le_refl _) _ _ _ _ _ _

theorem cut_len : ∀ (l : List UInt8), ∀ x ∈ Plain.cut l, x.length ≤ l.length
  | [], x, h => by
    rw [show Plain.cut [] = [[]] from rfl] at h
    simp at h
    subst h
    simp
  | c :: l, x, h => by
    by_cases hc : c = 45
    · subst hc
      rw [cut_stroke] at h
      rcases List.mem_cons.mp h with rfl | h
      · simp
      · have := cut_len l x h
        rw [List.length_cons]; omega
    · obtain ⟨a, t, h1, h2⟩ := cut_other hc l
      rw [h2] at h
      rcases List.mem_cons.mp h with rfl | h
      · have := cut_len l a (by rw [h1]; simp)
        simp only [List.length_cons]; omega
      · have := cut_len l x (by rw [h1]; simp [h])
        rw [List.length_cons]; omega
theorem kindOf_le (h : List UInt8) : kindOf h = 0 ∨ kindOf h = 1 ∨ kindOf h = 2 ∨ kindOf h = 3 ∨ kindOf h = 4 := by
  unfold kindOf
  repeat' split
  all_goals simp
theorem parse_calls (s : ByteArray) (hs : s.size ≤ 200) (w : World) (hG : Glob w) :
    Calls Tryd.prog 8 #[.string s] w fun e w' => e = .returned (.tuple #[.agg (parseN s.data.toList).cells, .bool (parseOk s.data.toList)]) ∧ Below w.heap.size w w' := by
  cases hc : Plain.cut s.data.toList with
  | nil => exact absurd hc (cut_ne _)
  | cons h r =>
    have hw : ∀ x ∈ r, x.length ≤ 200 := fun x hx => by
      have h1 := cut_len s.data.toList x (by rw [hc]; simp [hx])
      have h2 : s.data.toList.length = s.size := Array.length_toList
      omega
    rcases kindOf_le h with hk | hk | hk | hk | hk
    · exact parse_0 s hs h r _ hc rfl hk hw w hG
    · exact parse_1 s hs h r _ hc rfl hk hw w hG
    · exact parse_2 s hs h r _ hc rfl hk hw w hG
    · exact parse_3 s hs h r _ hc rfl hk hw w hG
    · exact parse_4 s hs h r _ hc rfl hk hw w hG
end Go.Proofs.YtkpfpgggkbaefaaDoor
