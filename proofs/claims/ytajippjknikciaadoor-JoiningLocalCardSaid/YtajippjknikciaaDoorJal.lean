/- Chapter 36: the example; the walks of JoiningTells and JoiningWindows. -/
import Derived.Test.YtajippjknikciaaDoorJwinr
namespace Go.Proofs.YtajippjknikciaaDoor
open Go.ChangeShapes Go.WideShapes Go.ChangeAt Go.RowKit
set_option maxRecDepth 100000

/-- a slice literal of integers, as it was just made -/
theorem lit_in {k : IntKind} {w : World} {t : TypeId} (xs : List Int) (n : Nat) (hn : xs.length = n) (hm : n ≤ 9223372036854775807) (hw : ∀ x ∈ xs, (Lit.int k x).wf = true)
    (vs : Array Value) (hv : vs = (xs.map (Value.int k)).toArray) : SliceIn k (w.alloc (.cells vs t)) (some ⟨w.heap.size, 0, none⟩) n n xs := by
  subst hv
  have hc : ∀ j, j < n → (w.alloc (.cells (xs.map (Value.int k)).toArray t)).cell? ⟨w.heap.size, j, none⟩ = some (.int k (nth xs j)) := fun j hj => by
    rw [cell_of_row _ _ _ _ _ _ (heap_alloc_new w _)]
    have : j < xs.length := by omega
    simp [nth_eq this, this]
  exact ⟨⟨hn, fun h0 => ⟨_, rfl, block_lt_of_cell (hc 0 h0), fun j hj => by rw [add_zero_at]; exact hc j hj⟩⟩, Nat.le_refl _, hm, hw⟩
theorem below_alloc (w : World) (o : Obj) : Below w.heap.size w (w.alloc o) := (Below.refl _ _).alloc (Nat.le_refl _) o

theorem ex_win : winF [1576, 1614, 1576] (clampN 1 3) = 0 ∧ winT [1576, 1614, 1576] (clampN 1 3) = 3 := by decide +kernel
theorem ex_forms : forms [1576, 1614, 1576] = [2, 0, 4] := by decide +kernel
theorem ex_forms2 : forms [1575, 1576] = [1, 1] := by decide +kernel

set_option maxHeartbeats 4000000 in
theorem alive36_any (w : World) (hl : Laid w) : Calls Tryd.prog 23 #[] w fun e w' => e = .returned (.bool true) ∧ Below w.heap.size w w' := by
  have L0 := Lib.hid hl
  clear hl
  go_enter Tryd.func23, Tryd.ntmps23
  go_wp2_with fail
  refine (pWindow_any _ 3 3 [1576, 1614, 1576] 1 _ (lit_in [1576, 1614, 1576] 3 rfl (by omega) (by decide) _ rfl) (L0.out.alloc _) (by omega)).mono ?_
  rw [ex_win.1, ex_win.2]
  rintro e w1 ⟨rfl, hb1⟩
  have x1 := (below_alloc w _).trans (hb1.mono (below_alloc w _).size)
  have X1 := Lib.hid x1
  have L1 := Lib.hid (L0.out.pass x1)
  clear hb1 x1
  go_wp2_with fail
  refine (pForms_any _ 3 3 [1576, 1614, 1576] _ (lit_in [1576, 1614, 1576] 3 rfl (by omega) (by decide) _ rfl) (L1.out.alloc _) (by omega)).mono ?_
  rw [ex_forms]
  rintro e w2 ⟨A2, c2, rfl, ho2, hb2⟩
  have x2 := (below_alloc w1 _).trans (hb2.mono (below_alloc w1 _).size)
  have X2 := Lib.hid (X1.out.trans (x2.mono X1.out.size))
  have L2 := Lib.hid (L1.out.pass x2)
  have O2 := Lib.hid ho2.ints
  clear hb2 x2 ho2
  go_wp2_with fail
  refine (ints02_any A2 _ 3 3 c2 3 [2, 0, 4] [2, 0, 4] _ (O2.out.later (below_alloc w2 _)) (lit_in [2, 0, 4] 3 rfl (by omega) (by decide) _ rfl).at_ (by omega) (by omega)).mono ?_
  rw [show (([2, 0, 4] : List Int) == [2, 0, 4]) = true by decide]
  rintro e w3 ⟨rfl, hb3⟩
  have x3 := (below_alloc w2 _).trans (hb3.mono (below_alloc w2 _).size)
  have X3 := Lib.hid (X2.out.trans (x3.mono X2.out.size))
  have L3 := Lib.hid (L2.out.pass x3)
  clear hb3 x3
  go_wp2_with fail
  refine (pForms_any _ 2 2 [1575, 1576] _ (lit_in [1575, 1576] 2 rfl (by omega) (by decide) _ rfl) (L3.out.alloc _) (by omega)).mono ?_
  rw [ex_forms2]
  rintro e w4 ⟨A4, c4, rfl, ho4, hb4⟩
  have x4 := (below_alloc w3 _).trans (hb4.mono (below_alloc w3 _).size)
  have X4 := Lib.hid (X3.out.trans (x4.mono X3.out.size))
  have O4 := Lib.hid ho4.ints
  clear hb4 x4 ho4
  go_wp2_with fail
  refine (ints02_any A4 _ 2 2 c4 2 [1, 1] [1, 1] _ (O4.out.later (below_alloc w4 _)) (lit_in [1, 1] 2 rfl (by omega) (by decide) _ rfl).at_ (by omega) (by omega)).mono ?_
  rw [show (([1, 1] : List Int) == [1, 1]) = true by decide]
  rintro e w5 ⟨rfl, hb5⟩
  have x5 := (below_alloc w4 _).trans (hb5.mono (below_alloc w4 _).size)
  have X5 := Lib.hid (X4.out.trans (x5.mono X4.out.size))
  clear hb5 x5
  go_wp2_with fail
  refine (pTag_any 3 _).mono ?_
  rw [show tagOf 3 = #[109, 101, 100, 105] by decide]
  rintro e w6 ⟨rfl, hb6⟩
  have X6 := Lib.hid (X5.out.trans (hb6.mono X5.out.size))
  clear hb6
  go_wp2_with fail
  go_ret
  exact ⟨rfl, X6.out⟩
end Go.Proofs.YtajippjknikciaaDoor
