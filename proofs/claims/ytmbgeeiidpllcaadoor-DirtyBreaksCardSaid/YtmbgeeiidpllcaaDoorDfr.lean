/- Chapter 52: the window of forms, the reference's way. -/
import Derived.Test.YtmbgeeiidpllcaaDoorDrs
import Derived.Test.YtmbgeeiidpllcaaDoorFormsr
import Derived.Deep.RegionHeld3
import Derived.Deep.DrawnRows
namespace Go.Proofs.YtmbgeeiidpllcaaDoor
open Go.ChangeShapes Go.WideShapes Go.ChangeAt Go.RowKit
set_option maxRecDepth 100000
set_option linter.unusedSimpArgs false
attribute [local go_sem ↓] Go.wp_at_zero Go.wp_at_succ

/-- the window of forms of a text under an edit that fits -/
def formsV (xs ys : List Int) (p g : Nat) : Value :=
  .agg #[.int .i64 (sgF (sameL (forms xs) (forms (behind xs ys p g))) p : Nat), .int .i64 ((xs.length - sgT (sameL (forms xs) (forms (behind xs ys p g))) xs.length p g ys.length : Nat) : Int)]
theorem below_drewX {B : Nat} {a w : World} (h : Below B a w) : Below B a w.drew := ⟨h.os, h.tape, h.output, h.size, h.block⟩
theorem store_cut {w : World} {g : Nat} {x y : Value} (a b : Int) (h : Two w g 27 x y) : (Instr.storeAt 27 (.pointer (some ⟨g, 0, none⟩)) (.agg #[.int .i64 a, .int .i64 b])).run Tryd.prog w = .ok () (w.setRow g #[.int .i64 a, .int .i64 b]) := by
  simp only [Instr.storeAt, Instr.sureAddr, Sem.run_bind, Sem.run_pure, Result.andThen_ok, run_storeVar_row w g 27 27 _ #[.int .i64 a, .int .i64 b] h cutSize52 (by rfl) (two_all52 a b)]
theorem cut_done3 {f : Func} (hr : f.results = #[.cell 4 27]) {a b x y : Value} {w w1 : World} {tmps : Array Value} (ht : tmps.getD 4 undef = .pointer (some ⟨w.heap.size + 1, 0, none⟩)) (R : Two w1 (w.heap.size + 1) 27 x y) (hb : Below w.heap.size w w1) :
    bodyPost Tryd.prog f (fun e w' => e = .returned (.agg #[a, b]) ∧ Below w.heap.size w w') .ret ⟨tmps, []⟩ (w1.setRow (w.heap.size + 1) #[a, b]) := by
  refine bodyPost_ret (v := .agg #[a, b]) (results_cell_row hr _ _ (w.heap.size + 1) 27 _ (0, 0) _ ht (setRow_heap _ _ _ _ _ _ R) Tryd.underlying27 rfl cutSize52) rfl ⟨rfl, ?_⟩
  exact below_setRow hb (by omega) _

end Go.Proofs.YtmbgeeiidpllcaaDoor
