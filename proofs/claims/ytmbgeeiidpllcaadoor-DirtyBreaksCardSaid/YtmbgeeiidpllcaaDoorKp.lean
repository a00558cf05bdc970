/- Chapter 19: the program's rules on a place. -/
import Derived.Test.YtmbgeeiidpllcaaDoorKsee
namespace Go.Proofs.YtmbgeeiidpllcaaDoor
open Go.ChangeShapes Go.WideShapes Go.ChangeAt Go.RowKit
set_option maxRecDepth 100000
set_option linter.unusedSimpArgs false

/-- a place, as it lies in memory -/
def spotC (x y z : Value) (i a b oa ob s os : Int) : Array Value := #[x, y, z, .int .i64 i, .int .i64 a, .int .i64 b, .int .i64 oa, .int .i64 ob, .int .i64 s, .int .i64 os]
structure SpotI (w W : World) (x y z : Value) (i a b oa ob s os : Int) : Prop where
  be : Below w.heap.size w W
  box : W.heap[w.heap.size]? = some (.cells (spotC x y z i a b oa ob s os) 61 (0, 0))
section
variable {w W W' : World} {x y z : Value} {i a b oa ob s os : Int}
theorem SpotI.lt (h : SpotI w W x y z i a b oa ob s os) : w.heap.size < W.heap.size := lt_of_block h.box
theorem SpotI.pass (h : SpotI w W x y z i a b oa ob s os) (hb : Below W.heap.size W W') : SpotI w W' x y z i a b oa ob s os :=
  ⟨h.be.trans (hb.mono h.be.size), (hb.block _ h.lt).trans h.box⟩
theorem SpotI.alloc (h : SpotI w W x y z i a b oa ob s os) (o : Obj) : SpotI w (W.alloc o) x y z i a b oa ob s os := h.pass (below_alloc _ _)
theorem SpotI.drew (h : SpotI w W x y z i a b oa ob s os) : SpotI w W.drew x y z i a b oa ob s os := h.pass (below_drewN (Below.refl _ _) 1)
theorem SpotI.c0 (h : SpotI w W x y z i a b oa ob s os) : W.cell? ⟨w.heap.size, 0, none⟩ = some (x) := by rw [cell_of_row _ _ _ _ _ _ h.box]; rfl
theorem SpotI.c1 (h : SpotI w W x y z i a b oa ob s os) : W.cell? ⟨w.heap.size, 1, none⟩ = some (y) := by rw [cell_of_row _ _ _ _ _ _ h.box]; rfl
theorem SpotI.c2 (h : SpotI w W x y z i a b oa ob s os) : W.cell? ⟨w.heap.size, 2, none⟩ = some (z) := by rw [cell_of_row _ _ _ _ _ _ h.box]; rfl
theorem SpotI.c3 (h : SpotI w W x y z i a b oa ob s os) : W.cell? ⟨w.heap.size, 3, none⟩ = some (.int .i64 i) := by rw [cell_of_row _ _ _ _ _ _ h.box]; rfl
theorem SpotI.c4 (h : SpotI w W x y z i a b oa ob s os) : W.cell? ⟨w.heap.size, 4, none⟩ = some (.int .i64 a) := by rw [cell_of_row _ _ _ _ _ _ h.box]; rfl
theorem SpotI.c5 (h : SpotI w W x y z i a b oa ob s os) : W.cell? ⟨w.heap.size, 5, none⟩ = some (.int .i64 b) := by rw [cell_of_row _ _ _ _ _ _ h.box]; rfl
theorem SpotI.c6 (h : SpotI w W x y z i a b oa ob s os) : W.cell? ⟨w.heap.size, 6, none⟩ = some (.int .i64 oa) := by rw [cell_of_row _ _ _ _ _ _ h.box]; rfl
theorem SpotI.c7 (h : SpotI w W x y z i a b oa ob s os) : W.cell? ⟨w.heap.size, 7, none⟩ = some (.int .i64 ob) := by rw [cell_of_row _ _ _ _ _ _ h.box]; rfl
theorem SpotI.c8 (h : SpotI w W x y z i a b oa ob s os) : W.cell? ⟨w.heap.size, 8, none⟩ = some (.int .i64 s) := by rw [cell_of_row _ _ _ _ _ _ h.box]; rfl
theorem SpotI.c9 (h : SpotI w W x y z i a b oa ob s os) : W.cell? ⟨w.heap.size, 9, none⟩ = some (.int .i64 os) := by rw [cell_of_row _ _ _ _ _ _ h.box]; rfl
theorem SpotI.new (w : World) (x y z : Value) (i a b oa ob s os : Int) : SpotI w (w.alloc (.cells (spotC x y z i a b oa ob s os) 61)) x y z i a b oa ob s os := ⟨below_alloc _ _, heap_alloc_new _ _⟩
end
syntax "sp " term : tactic
macro_rules | `(tactic| sp $h) => `(tactic| first | exact ($h).out | (refine SpotI.alloc ?_ _; sp $h) | (refine SpotI.drew ?_; sp $h))
set_option maxHeartbeats 8000000 in
theorem phard19_any (x y z : Value) (i a b oa ob s os : Int) (w : World) : Calls Tryd.prog 47 #[.agg #[x, y, z, .int .i64 i, .int .i64 a, .int .i64 b, .int .i64 oa, .int .i64 ob, .int .i64 s, .int .i64 os]] w fun e w' => e = .returned (.int .i64 (hardF oa ob os a b)) ∧ Below w.heap.size w w' := by
  have R0 : Shut (SpotI w (w.alloc (.cells #[x, y, z, .int .i64 i, .int .i64 a, .int .i64 b, .int .i64 oa, .int .i64 ob, .int .i64 s, .int .i64 os] 61)) x y z i a b oa ob s os) := ⟨SpotI.new w x y z i a b oa ob s os⟩
  go_enter Tryd.func47, Tryd.ntmps47
  go_upto_region 1 with fail
  go_cut [3] (fun v wx => v = .bool (inL [1, 3, 2] oa) ∧ Shut (SpotI w wx x y z i a b oa ob s os))
  case first =>
    have p6 := R0.out.c6
    have y6 : ∀ o, _ := fun o => (R0.out.alloc o).c6
    all_goals go_wp2_with (first
      | (go_at_call 45; (with_reducible refine (among_lit2 _ _ (by omega) (by omega) _ _ _ _ (by simp)).mono ?_); rintro e w' ⟨rfl, rfl⟩)
      | (go_at_call 45; (with_reducible refine (among_lit3 _ _ _ (by omega) (by omega) (by omega) _ _ _ _ (by simp)).mono ?_); rintro e w' ⟨rfl, rfl⟩)
      | (go_at_call 45; (with_reducible refine (among_lit4 _ _ _ _ (by omega) (by omega) (by omega) (by omega) _ _ _ _ (by simp)).mono ?_); rintro e w' ⟨rfl, rfl⟩)
      | (go_at_call 45; (with_reducible refine (among_lit5 _ _ _ _ _ (by omega) (by omega) (by omega) (by omega) (by omega) _ _ _ _ (by simp)).mono ?_); rintro e w' ⟨rfl, rfl⟩)
      | fail)
    all_goals go_meet
    all_goals exact ⟨boolv (by first | (simp_all; done) | (simp only [bne, *]; done) | simp [bne, *]), ⟨by sp R0⟩⟩
  case rest =>
    obtain ⟨rfl, R1⟩ := hcut
    cases hb : (inL [1, 3, 2] oa) with
    | true =>
      have H1 : Shut _ := ⟨hb⟩
      clear hb
      go_wp2_with fail
      go_ret
      exact ⟨intv (by unfold hardF; simp only [H1.out]; simp), R1.out.be⟩
    | false =>
      have H1 : Shut _ := ⟨hb⟩
      clear hb
      go_upto_region 3 with fail
      go_cut [8] (fun v wx => v = .bool (inL [1, 2, 3, 4, 5] ob) ∧ Shut (SpotI w wx x y z i a b oa ob s os))
      case first =>
        have p7 := R1.out.c7
        have y7 : ∀ o, _ := fun o => (R1.out.alloc o).c7
        all_goals go_wp2_with (first
          | (go_at_call 45; (with_reducible refine (among_lit2 _ _ (by omega) (by omega) _ _ _ _ (by simp)).mono ?_); rintro e w' ⟨rfl, rfl⟩)
          | (go_at_call 45; (with_reducible refine (among_lit3 _ _ _ (by omega) (by omega) (by omega) _ _ _ _ (by simp)).mono ?_); rintro e w' ⟨rfl, rfl⟩)
          | (go_at_call 45; (with_reducible refine (among_lit4 _ _ _ _ (by omega) (by omega) (by omega) (by omega) _ _ _ _ (by simp)).mono ?_); rintro e w' ⟨rfl, rfl⟩)
          | (go_at_call 45; (with_reducible refine (among_lit5 _ _ _ _ _ (by omega) (by omega) (by omega) (by omega) (by omega) _ _ _ _ (by simp)).mono ?_); rintro e w' ⟨rfl, rfl⟩)
          | fail)
        all_goals go_meet
        all_goals exact ⟨boolv (by first | (simp_all; done) | (simp only [bne, *]; done) | simp [bne, *]), ⟨by sp R1⟩⟩
      case rest =>
        obtain ⟨rfl, R2⟩ := hcut
        cases hb : (inL [1, 2, 3, 4, 5] ob) with
        | true =>
          have H2 : Shut _ := ⟨hb⟩
          clear hb
          go_wp2_with fail
          go_ret
          exact ⟨intv (by unfold hardF; simp only [H1.out, H2.out]; simp), R2.out.be⟩
        | false =>
          have H2 : Shut _ := ⟨hb⟩
          clear hb
          go_upto_region 5 with fail
          go_cut [13] (fun v wx => v = .bool (os == 5) ∧ Shut (SpotI w wx x y z i a b oa ob s os))
          case first =>
            have p9 := R2.out.c9
            have y9 : ∀ o, _ := fun o => (R2.out.alloc o).c9
            cases q0 : (os == 5)
            all_goals go_wp2_with (first
              | (go_at_call 45; (with_reducible refine (among_lit2 _ _ (by omega) (by omega) _ _ _ _ (by simp)).mono ?_); rintro e w' ⟨rfl, rfl⟩)
              | (go_at_call 45; (with_reducible refine (among_lit3 _ _ _ (by omega) (by omega) (by omega) _ _ _ _ (by simp)).mono ?_); rintro e w' ⟨rfl, rfl⟩)
              | (go_at_call 45; (with_reducible refine (among_lit4 _ _ _ _ (by omega) (by omega) (by omega) (by omega) _ _ _ _ (by simp)).mono ?_); rintro e w' ⟨rfl, rfl⟩)
              | (go_at_call 45; (with_reducible refine (among_lit5 _ _ _ _ _ (by omega) (by omega) (by omega) (by omega) (by omega) _ _ _ _ (by simp)).mono ?_); rintro e w' ⟨rfl, rfl⟩)
              | fail)
            all_goals go_meet
            all_goals exact ⟨boolv (by first | (simp_all; done) | (simp only [bne, *]; done) | simp [bne, *]), ⟨by sp R2⟩⟩
          case rest =>
            obtain ⟨rfl, R3⟩ := hcut
            cases hb : (os == 5) with
            | true =>
              have H3 : Shut _ := ⟨hb⟩
              clear hb
              go_wp2_with fail
              go_ret
              exact ⟨intv (by unfold hardF; simp only [H1.out, H2.out, H3.out]; simp), R3.out.be⟩
            | false =>
              have H3 : Shut _ := ⟨hb⟩
              clear hb
              go_upto_region 7 with fail
              go_cut [17] (fun v wx => v = .bool (oa == 9) ∧ Shut (SpotI w wx x y z i a b oa ob s os))
              case first =>
                have p6 := R3.out.c6
                have y6 : ∀ o, _ := fun o => (R3.out.alloc o).c6
                cases q0 : (oa == 9)
                all_goals go_wp2_with (first
                  | (go_at_call 45; (with_reducible refine (among_lit2 _ _ (by omega) (by omega) _ _ _ _ (by simp)).mono ?_); rintro e w' ⟨rfl, rfl⟩)
                  | (go_at_call 45; (with_reducible refine (among_lit3 _ _ _ (by omega) (by omega) (by omega) _ _ _ _ (by simp)).mono ?_); rintro e w' ⟨rfl, rfl⟩)
                  | (go_at_call 45; (with_reducible refine (among_lit4 _ _ _ _ (by omega) (by omega) (by omega) (by omega) _ _ _ _ (by simp)).mono ?_); rintro e w' ⟨rfl, rfl⟩)
                  | (go_at_call 45; (with_reducible refine (among_lit5 _ _ _ _ _ (by omega) (by omega) (by omega) (by omega) (by omega) _ _ _ _ (by simp)).mono ?_); rintro e w' ⟨rfl, rfl⟩)
                  | fail)
                all_goals go_meet
                all_goals exact ⟨boolv (by first | (simp_all; done) | (simp only [bne, *]; done) | simp [bne, *]), ⟨by sp R3⟩⟩
              case rest =>
                obtain ⟨rfl, R4⟩ := hcut
                cases hb : (oa == 9) with
                | true =>
                  have H4 : Shut _ := ⟨hb⟩
                  clear hb
                  go_wp2_with fail
                  go_ret
                  exact ⟨intv (by unfold hardF; simp only [H1.out, H2.out, H3.out, H4.out]; simp), R4.out.be⟩
                | false =>
                  have H4 : Shut _ := ⟨hb⟩
                  clear hb
                  go_upto_region 8 with fail
                  go_cut [17] (fun v wx => v = .bool (inL [8, 9] ob && oa != 4) ∧ Shut (SpotI w wx x y z i a b oa ob s os))
                  case first =>
                    have p6 := R4.out.c6
                    have y6 : ∀ o, _ := fun o => (R4.out.alloc o).c6
                    have p7 := R4.out.c7
                    have y7 : ∀ o, _ := fun o => (R4.out.alloc o).c7
                    cases q0 : (oa == 4)
                    all_goals go_wp2_with (first
                      | (go_at_call 45; (with_reducible refine (among_lit2 _ _ (by omega) (by omega) _ _ _ _ (by simp)).mono ?_); rintro e w' ⟨rfl, rfl⟩)
                      | (go_at_call 45; (with_reducible refine (among_lit3 _ _ _ (by omega) (by omega) (by omega) _ _ _ _ (by simp)).mono ?_); rintro e w' ⟨rfl, rfl⟩)
                      | (go_at_call 45; (with_reducible refine (among_lit4 _ _ _ _ (by omega) (by omega) (by omega) (by omega) _ _ _ _ (by simp)).mono ?_); rintro e w' ⟨rfl, rfl⟩)
                      | (go_at_call 45; (with_reducible refine (among_lit5 _ _ _ _ _ (by omega) (by omega) (by omega) (by omega) (by omega) _ _ _ _ (by simp)).mono ?_); rintro e w' ⟨rfl, rfl⟩)
                      | fail)
                    all_goals go_meet
                    all_goals exact ⟨boolv (by first | (simp_all; done) | (simp only [bne, *]; done) | simp [bne, *]), ⟨by sp R4⟩⟩
                  case rest =>
                    obtain ⟨rfl, R5⟩ := hcut
                    cases hb : (inL [8, 9] ob && oa != 4) with
                    | true =>
                      have H5 : Shut _ := ⟨hb⟩
                      clear hb
                      go_wp2_with fail
                      go_ret
                      exact ⟨intv (by unfold hardF; simp only [H1.out, H2.out, H3.out, H4.out, H5.out]; simp), R5.out.be⟩
                    | false =>
                      have H5 : Shut _ := ⟨hb⟩
                      clear hb
                      go_upto_region 10 with fail
                      go_cut [30] (fun v wx => v = .bool (a == 6) ∧ Shut (SpotI w wx x y z i a b oa ob s os))
                      case first =>
                        have p4 := R5.out.c4
                        have y4 : ∀ o, _ := fun o => (R5.out.alloc o).c4
                        cases q0 : (a == 6)
                        all_goals go_wp2_with (first
                          | (go_at_call 45; (with_reducible refine (among_lit2 _ _ (by omega) (by omega) _ _ _ _ (by simp)).mono ?_); rintro e w' ⟨rfl, rfl⟩)
                          | (go_at_call 45; (with_reducible refine (among_lit3 _ _ _ (by omega) (by omega) (by omega) _ _ _ _ (by simp)).mono ?_); rintro e w' ⟨rfl, rfl⟩)
                          | (go_at_call 45; (with_reducible refine (among_lit4 _ _ _ _ (by omega) (by omega) (by omega) (by omega) _ _ _ _ (by simp)).mono ?_); rintro e w' ⟨rfl, rfl⟩)
                          | (go_at_call 45; (with_reducible refine (among_lit5 _ _ _ _ _ (by omega) (by omega) (by omega) (by omega) (by omega) _ _ _ _ (by simp)).mono ?_); rintro e w' ⟨rfl, rfl⟩)
                          | fail)
                        all_goals go_meet
                        all_goals exact ⟨boolv (by first | (simp_all; done) | (simp only [bne, *]; done) | simp [bne, *]), ⟨by sp R5⟩⟩
                      case rest =>
                        obtain ⟨rfl, R6⟩ := hcut
                        cases hb : (a == 6) with
                        | true =>
                          have H6 : Shut _ := ⟨hb⟩
                          clear hb
                          go_wp2_with fail
                          go_ret
                          exact ⟨intv (by unfold hardF; simp only [H1.out, H2.out, H3.out, H4.out, H5.out, H6.out]; simp), R6.out.be⟩
                        | false =>
                          have H6 : Shut _ := ⟨hb⟩
                          clear hb
                          go_upto_region 11 with fail
                          go_cut [30] (fun v wx => v = .bool (b == 6) ∧ Shut (SpotI w wx x y z i a b oa ob s os))
                          case first =>
                            have p5 := R6.out.c5
                            have y5 : ∀ o, _ := fun o => (R6.out.alloc o).c5
                            cases q0 : (b == 6)
                            all_goals go_wp2_with (first
                              | (go_at_call 45; (with_reducible refine (among_lit2 _ _ (by omega) (by omega) _ _ _ _ (by simp)).mono ?_); rintro e w' ⟨rfl, rfl⟩)
                              | (go_at_call 45; (with_reducible refine (among_lit3 _ _ _ (by omega) (by omega) (by omega) _ _ _ _ (by simp)).mono ?_); rintro e w' ⟨rfl, rfl⟩)
                              | (go_at_call 45; (with_reducible refine (among_lit4 _ _ _ _ (by omega) (by omega) (by omega) (by omega) _ _ _ _ (by simp)).mono ?_); rintro e w' ⟨rfl, rfl⟩)
                              | (go_at_call 45; (with_reducible refine (among_lit5 _ _ _ _ _ (by omega) (by omega) (by omega) (by omega) (by omega) _ _ _ _ (by simp)).mono ?_); rintro e w' ⟨rfl, rfl⟩)
                              | fail)
                            all_goals go_meet
                            all_goals exact ⟨boolv (by first | (simp_all; done) | (simp only [bne, *]; done) | simp [bne, *]), ⟨by sp R6⟩⟩
                          case rest =>
                            obtain ⟨rfl, R7⟩ := hcut
                            cases hb : (b == 6) with
                            | true =>
                              have H7 : Shut _ := ⟨hb⟩
                              clear hb
                              go_wp2_with fail
                              go_ret
                              exact ⟨intv (by unfold hardF; simp only [H1.out, H2.out, H3.out, H4.out, H5.out, H6.out, H7.out]; simp), R7.out.be⟩
                            | false =>
                              have H7 : Shut _ := ⟨hb⟩
                              clear hb
                              go_upto_region 12 with fail
                              go_cut [30] (fun v wx => v = .bool (a == 7) ∧ Shut (SpotI w wx x y z i a b oa ob s os))
                              case first =>
                                have p4 := R7.out.c4
                                have y4 : ∀ o, _ := fun o => (R7.out.alloc o).c4
                                cases q0 : (a == 7)
                                all_goals go_wp2_with (first
                                  | (go_at_call 45; (with_reducible refine (among_lit2 _ _ (by omega) (by omega) _ _ _ _ (by simp)).mono ?_); rintro e w' ⟨rfl, rfl⟩)
                                  | (go_at_call 45; (with_reducible refine (among_lit3 _ _ _ (by omega) (by omega) (by omega) _ _ _ _ (by simp)).mono ?_); rintro e w' ⟨rfl, rfl⟩)
                                  | (go_at_call 45; (with_reducible refine (among_lit4 _ _ _ _ (by omega) (by omega) (by omega) (by omega) _ _ _ _ (by simp)).mono ?_); rintro e w' ⟨rfl, rfl⟩)
                                  | (go_at_call 45; (with_reducible refine (among_lit5 _ _ _ _ _ (by omega) (by omega) (by omega) (by omega) (by omega) _ _ _ _ (by simp)).mono ?_); rintro e w' ⟨rfl, rfl⟩)
                                  | fail)
                                all_goals go_meet
                                all_goals exact ⟨boolv (by first | (simp_all; done) | (simp only [bne, *]; done) | simp [bne, *]), ⟨by sp R7⟩⟩
                              case rest =>
                                obtain ⟨rfl, R8⟩ := hcut
                                cases hb : (a == 7) with
                                | true =>
                                  have H8 : Shut _ := ⟨hb⟩
                                  clear hb
                                  go_wp2_with fail
                                  go_ret
                                  exact ⟨intv (by unfold hardF; simp only [H1.out, H2.out, H3.out, H4.out, H5.out, H6.out, H7.out, H8.out]; simp), R8.out.be⟩
                                | false =>
                                  have H8 : Shut _ := ⟨hb⟩
                                  clear hb
                                  go_upto_region 14 with fail
                                  go_cut [40] (fun v wx => v = .bool (b == 7 && !inL [4, 10, 12] a) ∧ Shut (SpotI w wx x y z i a b oa ob s os))
                                  case first =>
                                    have p4 := R8.out.c4
                                    have y4 : ∀ o, _ := fun o => (R8.out.alloc o).c4
                                    have p5 := R8.out.c5
                                    have y5 : ∀ o, _ := fun o => (R8.out.alloc o).c5
                                    cases q0 : (b == 7)
                                    all_goals go_wp2_with (first
                                      | (go_at_call 45; (with_reducible refine (among_lit2 _ _ (by omega) (by omega) _ _ _ _ (by simp)).mono ?_); rintro e w' ⟨rfl, rfl⟩)
                                      | (go_at_call 45; (with_reducible refine (among_lit3 _ _ _ (by omega) (by omega) (by omega) _ _ _ _ (by simp)).mono ?_); rintro e w' ⟨rfl, rfl⟩)
                                      | (go_at_call 45; (with_reducible refine (among_lit4 _ _ _ _ (by omega) (by omega) (by omega) (by omega) _ _ _ _ (by simp)).mono ?_); rintro e w' ⟨rfl, rfl⟩)
                                      | (go_at_call 45; (with_reducible refine (among_lit5 _ _ _ _ _ (by omega) (by omega) (by omega) (by omega) (by omega) _ _ _ _ (by simp)).mono ?_); rintro e w' ⟨rfl, rfl⟩)
                                      | fail)
                                    all_goals go_meet
                                    all_goals exact ⟨boolv (by first | (simp_all; done) | (simp only [bne, *]; done) | simp [bne, *]), ⟨by sp R8⟩⟩
                                  case rest =>
                                    obtain ⟨rfl, R9⟩ := hcut
                                    cases hb : (b == 7 && !inL [4, 10, 12] a) with
                                    | true =>
                                      have H9 : Shut _ := ⟨hb⟩
                                      clear hb
                                      go_wp2_with fail
                                      go_ret
                                      exact ⟨intv (by unfold hardF; simp only [H1.out, H2.out, H3.out, H4.out, H5.out, H6.out, H7.out, H8.out, H9.out]; simp), R9.out.be⟩
                                    | false =>
                                      have H9 : Shut _ := ⟨hb⟩
                                      clear hb
                                      go_wp2_with fail
                                      go_ret
                                      exact ⟨intv (by unfold hardF; simp only [H1.out, H2.out, H3.out, H4.out, H5.out, H6.out, H7.out, H8.out, H9.out]; simp), R9.out.be⟩
set_option maxHeartbeats 8000000 in
theorem pclos19_any (x y z : Value) (i a b oa ob s os : Int) (w : World) : Calls Tryd.prog 48 #[.agg #[x, y, z, .int .i64 i, .int .i64 a, .int .i64 b, .int .i64 oa, .int .i64 ob, .int .i64 s, .int .i64 os]] w fun e w' => e = .returned (.int .i64 (closF oa a b s)) ∧ Below w.heap.size w w' := by
  have R0 : Shut (SpotI w (w.alloc (.cells #[x, y, z, .int .i64 i, .int .i64 a, .int .i64 b, .int .i64 oa, .int .i64 ob, .int .i64 s, .int .i64 os] 61)) x y z i a b oa ob s os) := ⟨SpotI.new w x y z i a b oa ob s os⟩
  go_enter Tryd.func48, Tryd.ntmps48
  go_upto_region 1 with fail
  go_cut [3] (fun v wx => v = .bool (inL [13, 14, 15, 20, 24] b) ∧ Shut (SpotI w wx x y z i a b oa ob s os))
  case first =>
    have p5 := R0.out.c5
    have y5 : ∀ o, _ := fun o => (R0.out.alloc o).c5
    all_goals go_wp2_with (first
      | (go_at_call 45; (with_reducible refine (among_lit2 _ _ (by omega) (by omega) _ _ _ _ (by simp)).mono ?_); rintro e w' ⟨rfl, rfl⟩)
      | (go_at_call 45; (with_reducible refine (among_lit3 _ _ _ (by omega) (by omega) (by omega) _ _ _ _ (by simp)).mono ?_); rintro e w' ⟨rfl, rfl⟩)
      | (go_at_call 45; (with_reducible refine (among_lit4 _ _ _ _ (by omega) (by omega) (by omega) (by omega) _ _ _ _ (by simp)).mono ?_); rintro e w' ⟨rfl, rfl⟩)
      | (go_at_call 45; (with_reducible refine (among_lit5 _ _ _ _ _ (by omega) (by omega) (by omega) (by omega) (by omega) _ _ _ _ (by simp)).mono ?_); rintro e w' ⟨rfl, rfl⟩)
      | fail)
    all_goals go_meet
    all_goals exact ⟨boolv (by first | (simp_all; done) | (simp only [bne, *]; done) | simp [bne, *]), ⟨by sp R0⟩⟩
  case rest =>
    obtain ⟨rfl, R1⟩ := hcut
    cases hb : (inL [13, 14, 15, 20, 24] b) with
    | true =>
      have H1 : Shut _ := ⟨hb⟩
      clear hb
      go_wp2_with fail
      go_ret
      exact ⟨intv (by unfold closF; simp only [H1.out]; simp), R1.out.be⟩
    | false =>
      have H1 : Shut _ := ⟨hb⟩
      clear hb
      go_upto_region 3 with fail
      go_cut [8] (fun v wx => v = .bool (s == 18) ∧ Shut (SpotI w wx x y z i a b oa ob s os))
      case first =>
        have p8 := R1.out.c8
        have y8 : ∀ o, _ := fun o => (R1.out.alloc o).c8
        cases q0 : (s == 18)
        all_goals go_wp2_with (first
          | (go_at_call 45; (with_reducible refine (among_lit2 _ _ (by omega) (by omega) _ _ _ _ (by simp)).mono ?_); rintro e w' ⟨rfl, rfl⟩)
          | (go_at_call 45; (with_reducible refine (among_lit3 _ _ _ (by omega) (by omega) (by omega) _ _ _ _ (by simp)).mono ?_); rintro e w' ⟨rfl, rfl⟩)
          | (go_at_call 45; (with_reducible refine (among_lit4 _ _ _ _ (by omega) (by omega) (by omega) (by omega) _ _ _ _ (by simp)).mono ?_); rintro e w' ⟨rfl, rfl⟩)
          | (go_at_call 45; (with_reducible refine (among_lit5 _ _ _ _ _ (by omega) (by omega) (by omega) (by omega) (by omega) _ _ _ _ (by simp)).mono ?_); rintro e w' ⟨rfl, rfl⟩)
          | fail)
        all_goals go_meet
        all_goals exact ⟨boolv (by first | (simp_all; done) | (simp only [bne, *]; done) | simp [bne, *]), ⟨by sp R1⟩⟩
      case rest =>
        obtain ⟨rfl, R2⟩ := hcut
        cases hb : (s == 18) with
        | true =>
          have H2 : Shut _ := ⟨hb⟩
          clear hb
          go_wp2_with fail
          go_ret
          exact ⟨intv (by unfold closF; simp only [H1.out, H2.out]; simp), R2.out.be⟩
        | false =>
          have H2 : Shut _ := ⟨hb⟩
          clear hb
          go_upto_region 4 with fail
          go_cut [8] (fun v wx => v = .bool (s == 19 && b == 18) ∧ Shut (SpotI w wx x y z i a b oa ob s os))
          case first =>
            have p5 := R2.out.c5
            have y5 : ∀ o, _ := fun o => (R2.out.alloc o).c5
            have p8 := R2.out.c8
            have y8 : ∀ o, _ := fun o => (R2.out.alloc o).c8
            cases q0 : (s == 19)
            all_goals cases q1 : (b == 18)
            all_goals go_wp2_with (first
              | (go_at_call 45; (with_reducible refine (among_lit2 _ _ (by omega) (by omega) _ _ _ _ (by simp)).mono ?_); rintro e w' ⟨rfl, rfl⟩)
              | (go_at_call 45; (with_reducible refine (among_lit3 _ _ _ (by omega) (by omega) (by omega) _ _ _ _ (by simp)).mono ?_); rintro e w' ⟨rfl, rfl⟩)
              | (go_at_call 45; (with_reducible refine (among_lit4 _ _ _ _ (by omega) (by omega) (by omega) (by omega) _ _ _ _ (by simp)).mono ?_); rintro e w' ⟨rfl, rfl⟩)
              | (go_at_call 45; (with_reducible refine (among_lit5 _ _ _ _ _ (by omega) (by omega) (by omega) (by omega) (by omega) _ _ _ _ (by simp)).mono ?_); rintro e w' ⟨rfl, rfl⟩)
              | fail)
            all_goals go_meet
            all_goals exact ⟨boolv (by first | (simp_all; done) | (simp only [bne, *]; done) | simp [bne, *]), ⟨by sp R2⟩⟩
          case rest =>
            obtain ⟨rfl, R3⟩ := hcut
            cases hb : (s == 19 && b == 18) with
            | true =>
              have H3 : Shut _ := ⟨hb⟩
              clear hb
              go_wp2_with fail
              go_ret
              exact ⟨intv (by unfold closF; simp only [H1.out, H2.out, H3.out]; simp), R3.out.be⟩
            | false =>
              have H3 : Shut _ := ⟨hb⟩
              clear hb
              go_upto_region 6 with fail
              go_cut [20] (fun v wx => v = .bool (inL [13, 14] s && b == 17) ∧ Shut (SpotI w wx x y z i a b oa ob s os))
              case first =>
                have p5 := R3.out.c5
                have y5 : ∀ o, _ := fun o => (R3.out.alloc o).c5
                have p8 := R3.out.c8
                have y8 : ∀ o, _ := fun o => (R3.out.alloc o).c8
                cases q0 : (b == 17)
                all_goals go_wp2_with (first
                  | (go_at_call 45; (with_reducible refine (among_lit2 _ _ (by omega) (by omega) _ _ _ _ (by simp)).mono ?_); rintro e w' ⟨rfl, rfl⟩)
                  | (go_at_call 45; (with_reducible refine (among_lit3 _ _ _ (by omega) (by omega) (by omega) _ _ _ _ (by simp)).mono ?_); rintro e w' ⟨rfl, rfl⟩)
                  | (go_at_call 45; (with_reducible refine (among_lit4 _ _ _ _ (by omega) (by omega) (by omega) (by omega) _ _ _ _ (by simp)).mono ?_); rintro e w' ⟨rfl, rfl⟩)
                  | (go_at_call 45; (with_reducible refine (among_lit5 _ _ _ _ _ (by omega) (by omega) (by omega) (by omega) (by omega) _ _ _ _ (by simp)).mono ?_); rintro e w' ⟨rfl, rfl⟩)
                  | fail)
                all_goals go_meet
                all_goals exact ⟨boolv (by first | (simp_all; done) | (simp only [bne, *]; done) | simp [bne, *]), ⟨by sp R3⟩⟩
              case rest =>
                obtain ⟨rfl, R4⟩ := hcut
                cases hb : (inL [13, 14] s && b == 17) with
                | true =>
                  have H4 : Shut _ := ⟨hb⟩
                  clear hb
                  go_wp2_with fail
                  go_ret
                  exact ⟨intv (by unfold closF; simp only [H1.out, H2.out, H3.out, H4.out]; simp), R4.out.be⟩
                | false =>
                  have H4 : Shut _ := ⟨hb⟩
                  clear hb
                  go_upto_region 8 with fail
                  go_cut [30] (fun v wx => v = .bool (oa == 4) ∧ Shut (SpotI w wx x y z i a b oa ob s os))
                  case first =>
                    have p6 := R4.out.c6
                    have y6 : ∀ o, _ := fun o => (R4.out.alloc o).c6
                    cases q0 : (oa == 4)
                    all_goals go_wp2_with (first
                      | (go_at_call 45; (with_reducible refine (among_lit2 _ _ (by omega) (by omega) _ _ _ _ (by simp)).mono ?_); rintro e w' ⟨rfl, rfl⟩)
                      | (go_at_call 45; (with_reducible refine (among_lit3 _ _ _ (by omega) (by omega) (by omega) _ _ _ _ (by simp)).mono ?_); rintro e w' ⟨rfl, rfl⟩)
                      | (go_at_call 45; (with_reducible refine (among_lit4 _ _ _ _ (by omega) (by omega) (by omega) (by omega) _ _ _ _ (by simp)).mono ?_); rintro e w' ⟨rfl, rfl⟩)
                      | (go_at_call 45; (with_reducible refine (among_lit5 _ _ _ _ _ (by omega) (by omega) (by omega) (by omega) (by omega) _ _ _ _ (by simp)).mono ?_); rintro e w' ⟨rfl, rfl⟩)
                      | fail)
                    all_goals go_meet
                    all_goals exact ⟨boolv (by first | (simp_all; done) | (simp only [bne, *]; done) | simp [bne, *]), ⟨by sp R4⟩⟩
                  case rest =>
                    obtain ⟨rfl, R5⟩ := hcut
                    cases hb : (oa == 4) with
                    | true =>
                      have H5 : Shut _ := ⟨hb⟩
                      clear hb
                      go_wp2_with fail
                      go_ret
                      exact ⟨intv (by unfold closF; simp only [H1.out, H2.out, H3.out, H4.out, H5.out]; simp), R5.out.be⟩
                    | false =>
                      have H5 : Shut _ := ⟨hb⟩
                      clear hb
                      go_upto_region 10 with fail
                      go_cut [34] (fun v wx => v = .bool (a == 19) ∧ Shut (SpotI w wx x y z i a b oa ob s os))
                      case first =>
                        have p4 := R5.out.c4
                        have y4 : ∀ o, _ := fun o => (R5.out.alloc o).c4
                        cases q0 : (a == 19)
                        all_goals go_wp2_with (first
                          | (go_at_call 45; (with_reducible refine (among_lit2 _ _ (by omega) (by omega) _ _ _ _ (by simp)).mono ?_); rintro e w' ⟨rfl, rfl⟩)
                          | (go_at_call 45; (with_reducible refine (among_lit3 _ _ _ (by omega) (by omega) (by omega) _ _ _ _ (by simp)).mono ?_); rintro e w' ⟨rfl, rfl⟩)
                          | (go_at_call 45; (with_reducible refine (among_lit4 _ _ _ _ (by omega) (by omega) (by omega) (by omega) _ _ _ _ (by simp)).mono ?_); rintro e w' ⟨rfl, rfl⟩)
                          | (go_at_call 45; (with_reducible refine (among_lit5 _ _ _ _ _ (by omega) (by omega) (by omega) (by omega) (by omega) _ _ _ _ (by simp)).mono ?_); rintro e w' ⟨rfl, rfl⟩)
                          | fail)
                        all_goals go_meet
                        all_goals exact ⟨boolv (by first | (simp_all; done) | (simp only [bne, *]; done) | simp [bne, *]), ⟨by sp R5⟩⟩
                      case rest =>
                        obtain ⟨rfl, R6⟩ := hcut
                        cases hb : (a == 19) with
                        | true =>
                          have H6 : Shut _ := ⟨hb⟩
                          clear hb
                          go_wp2_with fail
                          go_ret
                          exact ⟨intv (by unfold closF; simp only [H1.out, H2.out, H3.out, H4.out, H5.out, H6.out]; simp), R6.out.be⟩
                        | false =>
                          have H6 : Shut _ := ⟨hb⟩
                          clear hb
                          go_upto_region 11 with fail
                          go_cut [34] (fun v wx => v = .bool (b == 19) ∧ Shut (SpotI w wx x y z i a b oa ob s os))
                          case first =>
                            have p5 := R6.out.c5
                            have y5 : ∀ o, _ := fun o => (R6.out.alloc o).c5
                            cases q0 : (b == 19)
                            all_goals go_wp2_with (first
                              | (go_at_call 45; (with_reducible refine (among_lit2 _ _ (by omega) (by omega) _ _ _ _ (by simp)).mono ?_); rintro e w' ⟨rfl, rfl⟩)
                              | (go_at_call 45; (with_reducible refine (among_lit3 _ _ _ (by omega) (by omega) (by omega) _ _ _ _ (by simp)).mono ?_); rintro e w' ⟨rfl, rfl⟩)
                              | (go_at_call 45; (with_reducible refine (among_lit4 _ _ _ _ (by omega) (by omega) (by omega) (by omega) _ _ _ _ (by simp)).mono ?_); rintro e w' ⟨rfl, rfl⟩)
                              | (go_at_call 45; (with_reducible refine (among_lit5 _ _ _ _ _ (by omega) (by omega) (by omega) (by omega) (by omega) _ _ _ _ (by simp)).mono ?_); rintro e w' ⟨rfl, rfl⟩)
                              | fail)
                            all_goals go_meet
                            all_goals exact ⟨boolv (by first | (simp_all; done) | (simp only [bne, *]; done) | simp [bne, *]), ⟨by sp R6⟩⟩
                          case rest =>
                            obtain ⟨rfl, R7⟩ := hcut
                            cases hb : (b == 19) with
                            | true =>
                              have H7 : Shut _ := ⟨hb⟩
                              clear hb
                              go_wp2_with fail
                              go_ret
                              exact ⟨intv (by unfold closF; simp only [H1.out, H2.out, H3.out, H4.out, H5.out, H6.out, H7.out]; simp), R7.out.be⟩
                            | false =>
                              have H7 : Shut _ := ⟨hb⟩
                              clear hb
                              go_wp2_with fail
                              go_ret
                              exact ⟨intv (by unfold closF; simp only [H1.out, H2.out, H3.out, H4.out, H5.out, H6.out, H7.out]; simp), R7.out.be⟩
end Go.Proofs.YtmbgeeiidpllcaaDoor
