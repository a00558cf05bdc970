/- Chapter 36: the walks of JoiningTells and JoiningWindows. -/
import Derived.Test.YtajippjknikciaaDoorJal
namespace Go.Proofs.YtajippjknikciaaDoor
open Go.ChangeShapes Go.WideShapes Go.ChangeAt Go.RowKit
set_option maxRecDepth 100000

set_option maxHeartbeats 4000000 in
theorem JoiningTells_walk (A : Option Addr) (n c : Nat) (xs : List Int) (i : Int) (_hi : (Lit.int .i64 i).wf = true) (w : World) (hx : SliceIn .i32 w A n c xs) (hl : Laid w) :
    Calls Tryd.prog 7 #[.slice A n c, .int .i64 i] w fun e w' => e = .returned (.bool true) ∧ Below w.heap.size w w' := by
  have HX := Lib.hid hx
  have HL := Lib.hid hl
  clear hx hl
  by_cases hlen : 200 < n
  · go_enter Tryd.func7, Tryd.ntmps7
    go_wp2_with fail
    refine (alive36_any _ HL.out).mono ?_
    rintro e w1 ⟨rfl, hb1⟩
    go_wp2_with fail
    go_ret
    exact ⟨rfl, hb1⟩
  · have hn : n ≤ 200 := by omega
    have JP := Lib.hid (fun w' (hb : Below w.heap.size w w') => pJoins_any A n c xs i w' (HX.out.pass hb) (HL.out.pass hb) (by omega))
    have JR := Lib.hid (fun w' (hb : Below w.heap.size w w') => rJoins_any A n c xs i w' (HX.out.pass hb) (by omega))
    generalize JA xs i = a at *
    generalize JB xs i = b at *
    have HFL := Lib.hid (show (forms xs).length = n by unfold forms; simp [HX.out.at_.len])
    go_enter Tryd.func7, Tryd.ntmps7
    go_wp2_with fail
    refine (JP.out _ (Below.refl _ _)).mono ?_
    rintro e w1 ⟨rfl, x1⟩
    go_wp2_with fail
    refine (JR.out _ x1).mono ?_
    rintro e w2 ⟨rfl, hb2⟩
    have x2 := x1.trans (hb2.mono x1.size)
    have L2 := Lib.hid (HL.out.pass x2)
    have I2 := Lib.hid (HX.out.pass x2)
    have X2 := Lib.hid x2
    clear x1 hb2 x2 JP JR
    go_wp2_with fail
    refine (pForms_any A n c xs _ I2.out L2.out (by omega)).mono ?_
    rintro e w3 ⟨A3, c3, rfl, ho3, hb3⟩
    have X3 := Lib.hid (X2.out.trans (hb3.mono X2.out.size))
    have L3 := Lib.hid (L2.out.pass hb3)
    have I3 := Lib.hid (I2.out.pass hb3)
    have O3 := Lib.hid ho3.ints
    clear hb3 ho3
    go_wp2_with fail
    refine (rForms_any A n c xs _ I3.out (by omega)).mono ?_
    rintro e w4 ⟨A4, c4, rfl, ho4, hb4⟩
    have X4 := Lib.hid (X3.out.trans (hb4.mono X3.out.size))
    have L4 := Lib.hid (L3.out.pass hb4)
    have O34 := Lib.hid (O3.out.later hb4)
    have O4 := Lib.hid ho4.ints
    clear hb4 ho4
    go_wp2_with fail
    refine (ints02_any A3 A4 n n c3 c4 (forms xs) (forms xs) _ O34.out O4.out (by omega) (by omega)).mono ?_
    rw [show (forms xs == forms xs) = true by simp]
    rintro e w5 ⟨rfl, hb5⟩
    have X5 := Lib.hid (X4.out.trans (hb5.mono X4.out.size))
    have L5 := Lib.hid (L4.out.pass hb5)
    clear hb5
    cases a
    all_goals
      cases b
      all_goals
        go_wp2_with fail
        refine (alive36_any _ L5.out).mono ?_
        rintro e w6 ⟨rfl, hb6⟩
        have X6 := Lib.hid (X5.out.trans (hb6.mono X5.out.size))
        clear hb6
        go_wp2_with fail
        go_ret
        exact ⟨rfl, X6.out⟩

set_option maxHeartbeats 4000000 in
theorem JoiningWindows_walk (A : Option Addr) (n c : Nat) (xs : List Int) (i : Int) (_hi : (Lit.int .i64 i).wf = true) (form : Int) (_hform : (Lit.int .i64 form).wf = true) (w : World) (hx : SliceIn .i32 w A n c xs) (hl : Laid w) :
    Calls Tryd.prog 8 #[.slice A n c, .int .i64 i, .int .i64 form] w fun e w' => e = .returned (.bool true) ∧ Below w.heap.size w w' := by
  have HX := Lib.hid hx
  have HL := Lib.hid hl
  clear hx hl
  by_cases hlen : 200 < n
  · go_enter Tryd.func8, Tryd.ntmps8
    go_wp2_with fail
    refine (alive36_any _ HL.out).mono ?_
    rintro e w1 ⟨rfl, hb1⟩
    go_wp2_with fail
    go_ret
    exact ⟨rfl, hb1⟩
  · have hn : n ≤ 200 := by omega
    have JP := Lib.hid (fun w' (hb : Below w.heap.size w w') => pWindow_any A n c xs i w' (HX.out.pass hb) (HL.out.pass hb) (by omega))
    have JR := Lib.hid (fun w' (hb : Below w.heap.size w w') => rWindow_any A n c xs i w' (HX.out.pass hb) (by omega))
    have TP := Lib.hid (pTag_any form)
    have TR := Lib.hid (rTag_any form)
    generalize winF xs (clampN i n) = a at *
    generalize winT xs (clampN i n) = b at *
    generalize tagOf form = t at *
    go_enter Tryd.func8, Tryd.ntmps8
    go_wp2_with fail
    refine (JP.out _ (Below.refl _ _)).mono ?_
    rintro e w1 ⟨rfl, x1⟩
    go_wp2_with fail
    refine (JR.out _ x1).mono ?_
    rintro e w2 ⟨rfl, hb2⟩
    have x2 := x1.trans (hb2.mono x1.size)
    have L2 := Lib.hid (HL.out.pass x2)
    have X2 := Lib.hid x2
    clear x1 hb2 x2 JP JR
    go_wp2_with fail
    refine (TP.out _).mono ?_
    rintro e w3 ⟨rfl, hb3⟩
    have X3 := Lib.hid (X2.out.trans (hb3.mono X2.out.size))
    have L3 := Lib.hid (L2.out.pass hb3)
    clear hb3
    go_wp2_with fail
    refine (TR.out _).mono ?_
    rintro e w4 ⟨rfl, hb4⟩
    have X4 := Lib.hid (X3.out.trans (hb4.mono X3.out.size))
    have L4 := Lib.hid (L3.out.pass hb4)
    clear hb4
    go_wp2_with fail
    refine (alive36_any _ L4.out).mono ?_
    rintro e w6 ⟨rfl, hb6⟩
    have X6 := Lib.hid (X4.out.trans (hb6.mono X4.out.size))
    clear hb6
    go_wp2_with fail
    go_ret
    exact ⟨rfl, X6.out⟩
end Go.Proofs.YtajippjknikciaaDoor
