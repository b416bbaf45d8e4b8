import Derived.Test.YtkpfpgggkbaefaaDoorRows
import Derived.Test.YtkpfpgggkbaefaaDoorA9
import Derived.Lib.LaidTab
import Derived.Stop.LaidErr
import Derived.Stop.Joined
import Derived.Shelf.Vars
import Derived.Handed
import Derived.LaidMore
import Derived.Lay
import Derived.OpenShut
import Derived.ShutString
import Derived.ChangeOld
import Derived.MakeChecks
import Derived.LaidSub
/-! What the row's condition gives; a Name's cells, read. -/
set_option linter.unusedVariables false
set_option linter.unusedSimpArgs false
namespace Go.Proofs.YtkpfpgggkbaefaaDoor
open Go.ChangeShapes Go.WideShapes Go.RowKit

theorem handed_shaped {H : Type} {enc : TypeId × Value → H} {a : Assume} {C : Checked} {os : Os} {f : FuncId} {fn : Func} {s : ChangeSpec} {conds : List PathCond} {apart fresh handsOn again : Bool} {X : World → Array Value → Prop}
    (hX : ∀ (w w' : World) (args : Array Value), w.heap = w'.heap → X w args → X w' args)
    (own : ownKnob C.prog.godebug = none) (started : os.Started) (noInit : C.prog.inits.idxOf? f = none) (hfn : C.prog.funcs[f]? = some fn)
    (witness : ∃ (w : World) (tape : Tape) (i : Input), w.os = os ∧ (w.forCall tape i).Shaped C.prog ∧ i.vars = [] ∧ Input.okWide C.prog (w.forCall tape i) .any w.heap.size f i ∧
      ((s.pre enc C.prog fn conds apart (w.forCall tape i).memory i.args ∧ X (w.forCall tape i).memory i.args) ∧ sizedMet enc C.prog fn (OpenSpec.ofChange s) apart (w.forCall tape i).memory i.args) ∧ a.holds C.prog (lone (Frame.enter C.prog f i.args .normal) [] (w.forCall tape i)))
    (contract : ∀ (W : World) (base : Nat) (args : Array Value) (ds gs : List (DataW H)) (before : List MemPlace),
      (∀ (j : Nat) t v, fn.params[j]? = some t → args[j]? = some v → Value.okWide C.prog W .any base t v) →
      DataW.Whole enc C.prog fn.params.toList s.vars apart W args.toList ds gs before → X W args → W.ShapedOpen C.prog →
      Calls C.prog f args W fun e W' => ∃ v, e = .returned v ∧ s.post enc C.prog fn apart fresh handsOn again W args v W') :
    ReturnsInHanded a C os f .any (fun w args => (s.pre enc C.prog fn conds apart w args ∧ X w args) ∧ sizedMet enc C.prog fn (OpenSpec.ofChange s) apart w args) (s.post enc C.prog fn apart fresh handsOn again) := by
  refine returnsInHanded_of_calls own started noInit witness ?_
  intro w tape i _ hsh _ hok hpre _
  obtain ⟨_, _, _, fn', hfn', _, _, _, _, hval⟩ := hok
  obtain rfl : fn' = fn := Option.some.inj (hfn'.symm.trans hfn)
  obtain ⟨⟨⟨ds, gs, before, hw, _⟩, hx⟩, _⟩ := hpre
  refine (contract (w.forCall tape i) w.heap.size i.args ds gs before hval (DataW.Whole.of_heap (w' := w.forCall tape i) (by rfl) hw) (hX _ _ _ (by rfl) hx) hsh).mono fun e W' ⟨v, he, hp⟩ => ?_
  subst he
  exact ChangeSpec.post_blind hp

theorem starS : "*" ++ "errors.errorString" = "*errors.errorString" := by decide
theorem rowErr (u : TypeId) (h : Tryd.prog.typeName? 3 u = some "*errors.errorString") : u = 119 :=
  typeName_ptr_named (nm := "errors.errorString") (by rw [starS]; kernel_rfl) (by kernel_rfl) (by decide) u (by rw [starS]; exact h)
theorem glob_of {W : World} (hL : laidMetH Tryd.prog Rows.nameBackRow.laid W) (hsh : W.ShapedOpen Tryd.prog) : Glob W := by
  rw [MakeChecks.laidMetH_plain _ _ _ (by kernel_rfl)] at hL
  have h3 := laidMet.tail (laidMet.tail hL)
  have h5 := laidMet.tail (laidMet.tail h3)
  have h6 := laidMet.tail h5
  obtain ⟨a5, s5, hv5, _, _, _⟩ := laid_sentinel h5 gRng (show (Tryd.prog.globals[1]?).map (·.type) = some 55 by kernel_rfl) Tryd.underlying55 rowErr Tryd.underlying119 Tryd.underlying121 rfl rfl Tryd.underlying9 (by kernel_rfl) (by kernel_rfl)
  obtain ⟨a6, s6, hv6, _, _, _⟩ := laid_sentinel h6 gSyn (show (Tryd.prog.globals[0]?).map (·.type) = some 55 by kernel_rfl) Tryd.underlying55 rowErr Tryd.underlying119 Tryd.underlying121 rfl rfl Tryd.underlying9 (by kernel_rfl) (by kernel_rfl)
  have ht : Lib.TabIs Tryd.prog W "internal/strconv.uint64pow10" .u64 Lib.pow10Tab :=
    Lib.tabIs_of_head gPow (show (Tryd.prog.globals[2]?).map (·.type) = some 111 by kernel_rfl) Tryd.underlying111 Tryd.underlying23 (by kernel_rfl) (by kernel_rfl) h3
  have hm : ∃ m, W.cell? ⟨3, 0, none⟩ = some (.int .i64 m) :=
    cell_of_shapedOpen_int (t := 3) (zero := #[.int .i64 0]) hsh (by decide +kernel) (by kernel_rfl) rfl (by kernel_rfl) (by kernel_rfl) Tryd.underlying3
  exact ⟨ht, hm, ⟨_, _, hv6⟩, ⟨_, _, hv5⟩⟩
theorem len6 {α : Type} {l : List α} (h : l.length = 6) : ∃ a b c d e f, l = [a, b, c, d, e, f] := by
  match l, h with
  | [a, b, c, d, e, f], _ => exact ⟨a, b, c, d, e, f, rfl⟩
theorem nat_of {k : IntKind} {z : Int} (h : 0 ≤ z) : ∃ n : Nat, Value.int k z = .int k (n : Int) ∧ (n : Int) = z := ⟨z.toNat, by rw [Int.toNat_of_nonneg h], Int.toNat_of_nonneg h⟩
set_option maxRecDepth 100000 in
theorem read_name {H : Type} {enc : TypeId × Value → H} {w : World} {base : Nat} {spare : Nat → Bool} {held : Bool} {fuel : Nat} {cs : List Value} {x : DataW H × List MemPlace} (h : DataW.trod enc Tryd.prog w base spare held fuel 25 cs = some x) :
    ∃ kd d n p i k : Nat, cs = [.int .u8 kd, .int .u64 d, .int .u64 n, .int .u64 p, .int .u64 i, .int .u64 k] ∧ (⟨kd, d, n, p, i, k⟩ : Nm).Fits := by
  obtain ⟨xs, m, _, rfl, hl, hlen, hf⟩ := DataW.trod_struct Tryd.underlying25 h
  obtain ⟨v0, v1, v2, v3, v4, v5, rfl⟩ := len6 (hl.trans (show Tryd.prog.cellsOf 25 = 6 by kernel_rfl))
  obtain ⟨y0, y1, y2, y3, y4, y5, rfl⟩ := len6 hlen
  have q0 : DataW.trod enc Tryd.prog w base spare held m 5 [v0] = some y0 := hf 0 _ rfl
  have q1 : DataW.trod enc Tryd.prog w base spare held m 23 [v1] = some y1 := hf 1 _ rfl
  have q2 : DataW.trod enc Tryd.prog w base spare held m 23 [v2] = some y2 := hf 2 _ rfl
  have q3 : DataW.trod enc Tryd.prog w base spare held m 23 [v3] = some y3 := hf 3 _ rfl
  have q4 : DataW.trod enc Tryd.prog w base spare held m 23 [v4] = some y4 := hf 4 _ rfl
  have q5 : DataW.trod enc Tryd.prog w base spare held m 23 [v5] = some y5 := hf 5 _ rfl
  obtain ⟨z0, e0, _, w0⟩ := DataW.trod_int Tryd.underlying5 q0
  obtain ⟨z1, e1, _, w1⟩ := DataW.trod_int Tryd.underlying23 q1
  obtain ⟨z2, e2, _, w2⟩ := DataW.trod_int Tryd.underlying23 q2
  obtain ⟨z3, e3, _, w3⟩ := DataW.trod_int Tryd.underlying23 q3
  obtain ⟨z4, e4, _, w4⟩ := DataW.trod_int Tryd.underlying23 q4
  obtain ⟨z5, e5, _, w5⟩ := DataW.trod_int Tryd.underlying23 q5
  injection e0 with e0; injection e1 with e1; injection e2 with e2; injection e3 with e3; injection e4 with e4; injection e5 with e5
  subst e0; subst e1; subst e2; subst e3; subst e4; subst e5
  have b0 := bounds_u8 w0
  have b1 := bounds_u64 w1; have b2 := bounds_u64 w2; have b3 := bounds_u64 w3; have b4 := bounds_u64 w4; have b5 := bounds_u64 w5
  obtain ⟨n0, f0, g0⟩ := nat_of (k := .u8) b0.1
  obtain ⟨n1, f1, g1⟩ := nat_of (k := .u64) b1.1
  obtain ⟨n2, f2, g2⟩ := nat_of (k := .u64) b2.1
  obtain ⟨n3, f3, g3⟩ := nat_of (k := .u64) b3.1
  obtain ⟨n4, f4, g4⟩ := nat_of (k := .u64) b4.1
  obtain ⟨n5, f5, g5⟩ := nat_of (k := .u64) b5.1
  refine ⟨n0, n1, n2, n3, n4, n5, by rw [f0, f1, f2, f3, f4, f5], ?_⟩
  exact ⟨by show n0 < 256; omega, by show n1 < 18446744073709551616; omega, by show n2 < 18446744073709551616; omega, by show n3 < 18446744073709551616; omega, by show n4 < 18446744073709551616; omega, by show n5 < 18446744073709551616; omega⟩
end Go.Proofs.YtkpfpgggkbaefaaDoor
