/- Chapter 52: which paragraphs an edit changes, where it does not fit. -/
import Derived.Test.YtilbcafkjpikgaaDoorDpm
namespace Go.Proofs.YtilbcafkjpikgaaDoor
open Go.ChangeShapes Go.WideShapes Go.ChangeAt Go.RowKit
set_option maxRecDepth 100000
set_option linter.unusedSimpArgs false

set_option maxHeartbeats 4000000 in
theorem rdpNo_any (A : Option Addr) (n c : Nat) (B : Option Addr) (nb cb : Nat) (p g : Int) (D : Option Addr) (m d : Nat) (st : Int) (w : World) (hn : n ≤ 1000) (hm : m ≤ 1000) (hf : fitsB n m p g = false) :
    Calls Tryd.prog 11 #[.slice A n c, .slice B nb cb, .agg #[.int .i64 p, .int .i64 g, .slice D m d, .int .i64 st]] w fun e w' => e = .returned (.agg #[.int .i64 0, .int .i64 0, .int .i64 0, .int .i64 0]) ∧ Below w.heap.size w w' := by
  have F : Shut (∀ W, _) := ⟨fun W => rfits_any A n c (by omega) p g D m d st (by omega) W⟩
  rw [hf] at F
  clear hf
  go_enter Tryd.func11, Tryd.ntmps11
  go_wp2_with fail
  refine (F.out _).mono ?_
  rintro e w1 ⟨rfl, b1⟩
  have R1 : Four w1 (w.heap.size + 1) 30 (.int .i64 0) (.int .i64 0) (.int .i64 0) (.int .i64 0) := (Four.new _ _ _ _ _ _ _ (by simp)).pass b1 (by simp)
  have B1 : Shut (Below w.heap.size w w1) := ⟨((below_alloc w _).alloc (by simp) _).trans (b1.mono (by simp; omega))⟩
  clear b1
  go_wp2_with (refine wpList_store_row rfl 30 (.tmp 6) (.tmp 18) rfl (w.heap.size + 1) _ rfl rfl 30 _ R1 chgSize (by rfl) (four_all52 _ _ _ _) ?_)
  exact chg_done (by rfl) R1 B1.out

set_option maxHeartbeats 4000000 in
theorem pdpNo_any (A : Option Addr) (n c : Nat) (B : Option Addr) (nb cb : Nat) (p g : Int) (D : Option Addr) (m d : Nat) (st : Int) (w : World) (hn : n ≤ 1000) (hm : m ≤ 1000) (hf : fitsB n m p g = false) :
    Calls Tryd.prog 10 #[.slice A n c, .slice B nb cb, .agg #[.int .i64 p, .int .i64 g, .slice D m d, .int .i64 st]] w fun e w' => e = .returned (.agg #[.int .i64 0, .int .i64 0, .int .i64 0, .int .i64 0]) ∧ Below w.heap.size w w' := by
  have F : Shut (∀ W, _) := ⟨fun W => pfits_any n (by omega) p g D m d st (by omega) W⟩
  rw [hf] at F
  clear hf
  go_enter Tryd.func10, Tryd.ntmps10
  go_wp2_with fail
  refine (F.out _).mono ?_
  rintro e w1 ⟨rfl, b1⟩
  have R1 : Four w1 (w.heap.size + 1) 28 (.int .i64 0) (.int .i64 0) (.int .i64 0) (.int .i64 0) := (Four.new _ _ _ _ _ _ _ (by simp)).pass b1 (by simp)
  have B1 : Shut (Below w.heap.size w w1) := ⟨((below_alloc w _).alloc (by simp) _).trans (b1.mono (by simp; omega))⟩
  clear b1
  go_wp2_with (refine wpList_store_row rfl 28 (.tmp 6) (.tmp 18) rfl (w.heap.size + 1) _ rfl rfl 28 _ R1 chgSizeP (by rfl) (four_all52 _ _ _ _) ?_)
  exact chg_doneP (by rfl) R1 B1.out

end Go.Proofs.YtilbcafkjpikgaaDoor
