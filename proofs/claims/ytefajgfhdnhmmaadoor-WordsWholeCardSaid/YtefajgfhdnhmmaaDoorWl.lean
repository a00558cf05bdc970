/- Chapter 8: the walks of WordsBounds and WordsAround. -/
import Derived.Test.YtefajgfhdnhmmaaDoorWa
import Derived.Test.YtefajgfhdnhmmaaDoorHsame
namespace Go.Proofs.YtefajgfhdnhmmaaDoor
open Go.ChangeShapes Go.WideShapes Go.ChangeAt Go.RowKit
set_option maxRecDepth 100000
set_option linter.unusedSimpArgs false

theorem long08_any (A : Option Addr) (n c : Nat) (w : World) : Calls Tryd.prog 15 #[.slice A n c] w fun e w' => e = .returned (.bool (decide (40 < n))) ∧ w = w' := by
  go_enter Tryd.func15, Tryd.ntmps15
  go_wp2
  go_ret
  exact ⟨retb (by simp <;> omega), rfl⟩
theorem cutEqW (a b : Int) (w : World) : (binOp .eql 24 (.agg #[.int .i64 a, .int .i64 b]) (.agg #[.int .i64 a, .int .i64 b])).run Tryd.prog w = .ok (.bool true) w := by
  simp [go_sem]

set_option maxHeartbeats 2000000 in
theorem WordsBounds_walk (A : Option Addr) (n c : Nat) (xs : List Int) (i : Int) (_hi : (Lit.int .i64 i).wf = true) (w : World) (hx : SliceIn .i32 w A n c xs) (hl : Laid w) :
    Calls Tryd.prog 5 #[.slice A n c, .int .i64 i] w fun e w' => e = .returned (.bool true) ∧ Below w.heap.size w w' := by
  by_cases hlen : 40 < n
  · go_enter Tryd.func5, Tryd.ntmps5
    have ln : decide (40 < n) = true := by simpa using hlen
    go_wp2_with (go_at_call 15; refine (long08_any _ _ _ _).mono ?_; rintro e w' ⟨rfl, rfl⟩)
    go_ret
    exact ⟨rfl, Below.refl _ _⟩
  · have P1 := Lib.hid (fun W (hb : Below w.heap.size w W) => pwb_any A n c xs W (hx.pass hb) (hl.pass hb) (by omega))
    have P2 := Lib.hid (fun W (hb : Below w.heap.size w W) => rwb_any A n c xs W (hx.pass hb) (by omega))
    have P3 := Lib.hid (fun W (hb : Below w.heap.size w W) => pwis_any A n c xs i W (hx.pass hb) (hl.pass hb) (by omega))
    have P4 := Lib.hid (fun W (hb : Below w.heap.size w W) => rwis_any A n c xs i W (hx.pass hb) (by omega))
    have hll := wbL_len hx.at_.len
    generalize wIsB (wbL xs) i = b at *
    obtain ⟨L, hL⟩ : ∃ L, (wbL xs).length = L := ⟨_, rfl⟩
    rw [hL] at P1 P2 hll
    generalize wbI xs = l at *
    have ln : decide (40 < n) = false := by simpa using hlen
    clear hx hl hL
    go_enter Tryd.func5, Tryd.ntmps5
    go_wp2_with (go_at_call 15; refine (long08_any _ _ _ _).mono ?_; rintro e w' ⟨rfl, rfl⟩)
    refine (P1.out _ (Below.refl _ _)).mono ?_
    rintro e w1 ⟨A1, c1, rfl, o1, x1⟩
    go_wp2_with fail
    refine (P2.out _ x1).mono ?_
    rintro e w2 ⟨A2, c2, rfl, o2, x2⟩
    have y2 := x1.trans (x2.mono x1.size)
    have S := Lib.hid (same01_any A1 A2 L L c1 c2 l l w2 (o1.ints.later x2) o2.ints (by omega) (by omega))
    rw [show (l == l) = true by simp] at S
    clear o1 o2 x1 x2
    go_wp2_with fail
    refine S.out.mono ?_
    rintro e w3 ⟨rfl, x3⟩
    have y3 := y2.trans (x3.mono y2.size)
    clear x3 y2
    go_wp2_with fail
    refine (P3.out _ y3).mono ?_
    rintro e w4 ⟨rfl, x4⟩
    have y4 := y3.trans (x4.mono y3.size)
    clear x4 y3
    go_wp2_with fail
    refine (P4.out _ y4).mono ?_
    rintro e w5 ⟨rfl, x5⟩
    have y5 := y4.trans (x5.mono y4.size)
    clear x5 y4
    go_wp2_with fail
    go_ret
    exact ⟨retb (by simp), y5⟩

set_option maxHeartbeats 2000000 in
theorem WordsAround_walk (A : Option Addr) (n c : Nat) (xs : List Int) (i : Int) (_hi : (Lit.int .i64 i).wf = true) (w : World) (hx : SliceIn .i32 w A n c xs) (hl : Laid w) :
    Calls Tryd.prog 6 #[.slice A n c, .int .i64 i] w fun e w' => e = .returned (.bool true) ∧ Below w.heap.size w w' := by
  by_cases hlen : 40 < n
  · go_enter Tryd.func6, Tryd.ntmps6
    have ln : decide (40 < n) = true := by simpa using hlen
    go_wp2_with (go_at_call 15; refine (long08_any _ _ _ _).mono ?_; rintro e w' ⟨rfl, rfl⟩)
    go_ret
    exact ⟨rfl, Below.refl _ _⟩
  · have P1 := Lib.hid (fun W (hb : Below w.heap.size w W) => parnd_any A n c xs i W (hx.pass hb) (hl.pass hb) (by omega))
    have P2 := Lib.hid (fun W (hb : Below w.heap.size w W) => rarnd_any A n c xs i W (hx.pass hb) (by omega))
    generalize arF (wbL xs) n i = a at *
    generalize arT (wbL xs) n i = b at *
    have ln : decide (40 < n) = false := by simpa using hlen
    have ce := cutEqW a b
    clear hx hl
    go_enter Tryd.func6, Tryd.ntmps6
    go_wp2_with (go_at_call 15; refine (long08_any _ _ _ _).mono ?_; rintro e w' ⟨rfl, rfl⟩)
    refine (P1.out _ (Below.refl _ _)).mono ?_
    rintro e w1 ⟨rfl, x1⟩
    go_wp2_with fail
    refine (P2.out _ x1).mono ?_
    rintro e w2 ⟨rfl, x2⟩
    have y2 := x1.trans (x2.mono x1.size)
    go_wp2_with fail
    go_ret
    exact ⟨rfl, y2⟩
end Go.Proofs.YtefajgfhdnhmmaaDoor
