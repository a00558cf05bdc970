/- Chapter 10: the example. -/
import Derived.Test.YtanfcfppmpabpaaDoorBfst
import Derived.Test.YtanfcfppmpabpaaDoorBpar
namespace Go.Proofs.YtanfcfppmpabpaaDoor
open Go.ChangeShapes Go.WideShapes Go.ChangeAt Go.RowKit
set_option maxRecDepth 100000
set_option linter.unusedSimpArgs false

theorem cutEql (a b c d : Int) (w : World) : (binOp .eql 27 (.agg #[.int .i64 a, .int .i64 b]) (.agg #[.int .i64 c, .int .i64 d])).run Tryd.prog w = .ok (.bool (a == c && b == d)) w := by
  by_cases h1 : a = c
  · by_cases h2 : b = d
    · simp [go_sem, h1, h2]
    · simp [go_sem, h1, h2]
  · simp [go_sem, h1]
theorem cutNeq (a b : Int) (w : World) : (binOp .neq 27 (.agg #[.int .i64 a, .int .i64 b]) (.agg #[.int .i64 a, .int .i64 b])).run Tryd.prog w = .ok (.bool false) w := by
  simp [go_sem]
theorem ex_paras : paras [97, 13, 10, 98] = [(0, 3), (3, 4)] := by decide +kernel
theorem ex_match : matches_ [20, 1, 23, 23] = [2, -1, 0, -1] := by decide +kernel
theorem ex_scn1 : scn [20, 2, 23, 1] 0 = 1 := by decide +kernel
theorem ex_scn2 : scn [14, 3] 0 = 3 := by decide +kernel
theorem ex_scn3 : scn [21, 1] 0 = 0 := by decide +kernel
theorem ex_first : firstOf [14, 2, 1] 1 2 = 2 := by decide +kernel
theorem exParas (w : World) (hl : Laid w) (A : Option Addr) (hx : SliceIn .i32 w A 4 4 [97, 13, 10, 98]) :
    Calls Tryd.prog 13 #[.slice A 4 4] w fun e w' => ∃ (g c : Nat), e = .returned (.slice (some ⟨g, 0, none⟩) 2 c) ∧ OwnV w' w.heap.size 27 2 (some ⟨g, 0, none⟩) 2 c [.int .i64 0, .int .i64 3, .int .i64 3, .int .i64 4] ∧ Below w.heap.size w w' := by
  refine (pParas_any A 4 4 [97, 13, 10, 98] w hl hx (by omega)).mono ?_
  rw [ex_paras]
  rintro e w' ⟨A1, c1, rfl, ho, hb⟩
  obtain ⟨g, rfl, _⟩ := OwnV.form ho (by decide)
  exact ⟨g, c1, rfl, ho, hb⟩
theorem exMatch (w : World) (A : Option Addr) (hx : IntsAt w w.heap.size .i64 A 4 [20, 1, 23, 23]) :
    Calls Tryd.prog 15 #[.slice A 4 4] w fun e w' => ∃ (g c : Nat), e = .returned (.slice (some ⟨g, 0, none⟩) 4 c) ∧ Own w' w.heap.size 3 .i64 (some ⟨g, 0, none⟩) 4 c [2, -1, 0, -1] ∧ Below w.heap.size w w' := by
  refine (pMatch_any A 4 4 [20, 1, 23, 23] w hx (by omega)).mono ?_
  rw [ex_match]
  rintro e w' ⟨A1, c1, rfl, ho, hb⟩
  obtain ⟨g, rfl, _⟩ := OwnV.form ho (by decide)
  exact ⟨g, c1, rfl, ho, hb⟩

set_option maxHeartbeats 4000000 in
theorem alive10_any (w : World) (hl : Laid w) : Calls Tryd.prog 12 #[] w fun e w' => e = .returned (.bool true) ∧ Below w.heap.size w w' := by
  have L0 := Lib.hid hl
  clear hl
  go_enter Tryd.func12, Tryd.ntmps12
  go_wp2_with fail
  refine (exParas _ (L0.out.alloc _) _ (lit_in [97, 13, 10, 98] 4 rfl (by omega) (by decide) _ rfl)).mono ?_
  rintro e w1 ⟨g1, c1, rfl, ho1, hb1⟩
  have x1 := (below_alloc w _).trans (hb1.mono (below_alloc w _).size)
  have X1 := Lib.hid x1
  have L1 := Lib.hid (L0.out.pass x1)
  have O1 := Lib.hid ho1
  clear hb1 x1 ho1
  go_wp2_with fail
  refine (exMatch _ _ (lit_in [20, 1, 23, 23] 4 rfl (by omega) (by decide) _ rfl).at_).mono ?_
  rintro e w2 ⟨g2, c2, rfl, ho2, hb2⟩
  have x2 := (below_alloc w1 _).trans (hb2.mono (below_alloc w1 _).size)
  have X2 := Lib.hid (X1.out.trans (x2.mono X1.out.size))
  have O1' := Lib.hid (O1.out.pass x2)
  have O2 := Lib.hid ho2
  clear hb2 x2 ho2
  go_wp2_with fail
  refine (pLevel_any _ 4 4 [20, 2, 23, 1] _ (lit_in [20, 2, 23, 1] 4 rfl (by omega) (by decide) _ rfl).at_ (by omega) (by omega)).mono ?_
  rw [ex_scn1]
  rintro e w3 ⟨rfl, hb3⟩
  have x3 := (below_alloc w2 _).trans (hb3.mono (below_alloc w2 _).size)
  have X3 := Lib.hid (X2.out.trans (x3.mono X2.out.size))
  have Y3 := Lib.hid x3
  clear hb3 x3
  go_wp2_with fail
  refine (pLevel_any _ 2 2 [14, 3] _ (lit_in [14, 3] 2 rfl (by omega) (by decide) _ rfl).at_ (by omega) (by omega)).mono ?_
  rw [ex_scn2]
  rintro e w4 ⟨rfl, hb4⟩
  have x4 := (below_alloc w3 _).trans (hb4.mono (below_alloc w3 _).size)
  have X4 := Lib.hid (X3.out.trans (x4.mono X3.out.size))
  have Y4 := Lib.hid (Y3.out.trans (x4.mono Y3.out.size))
  clear hb4 x4
  go_wp2_with fail
  refine (pLevel_any _ 2 2 [21, 1] _ (lit_in [21, 1] 2 rfl (by omega) (by decide) _ rfl).at_ (by omega) (by omega)).mono ?_
  rw [ex_scn3]
  rintro e w5 ⟨rfl, hb5⟩
  have x5 := (below_alloc w4 _).trans (hb5.mono (below_alloc w4 _).size)
  have X5 := Lib.hid (X4.out.trans (x5.mono X4.out.size))
  have y5 := Y4.out.trans (x5.mono Y4.out.size)
  have a0 := OwnV.cellAt (O1'.out.pass y5) 0 (by omega)
  have a1 := OwnV.cellAt (O1'.out.pass y5) 1 (by omega)
  have m0 := own_cell (O2.out.pass y5) (j := 0) (by omega)
  have m2 := own_cell (O2.out.pass y5) (j := 2) (by omega)
  have m3 := own_cell (O2.out.pass y5) (j := 3) (by omega)
  simp only [nth, List.getD_eq_getElem?_getD, List.getElem?_cons_zero, List.getElem?_cons_succ, Option.getD_some] at a0 a1 m0 m2 m3
  rw [show levelOf 1 = 0 by decide, show levelOk 1 = true by decide, show levelOf 3 = 1 by decide, show levelOk 3 = true by decide, show levelOf 0 = 0 by decide, show levelOk 0 = false by decide]
  clear hb5 x5 y5
  go_wp2_with fail
  refine (pFirst_any _ 3 3 [14, 2, 1] 1 2 _ (lit_in [14, 2, 1] 3 rfl (by omega) (by decide) _ rfl).at_ (by omega) (by omega)).mono ?_
  rw [ex_first]
  rintro e w6 ⟨rfl, hb6⟩
  have x6 := (below_alloc w5 _).trans (hb6.mono (below_alloc w5 _).size)
  have X6 := Lib.hid (X5.out.trans (x6.mono X5.out.size))
  clear hb6 x6
  go_wp2_with fail
  go_ret
  exact ⟨rfl, X6.out⟩
end Go.Proofs.YtanfcfppmpabpaaDoor
