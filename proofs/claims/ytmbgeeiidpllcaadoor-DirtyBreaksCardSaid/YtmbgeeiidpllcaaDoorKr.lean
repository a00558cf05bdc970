/- Chapter 19: the reference's rules on two classes. -/
import Derived.Test.YtmbgeeiidpllcaaDoorKf
import Derived.Deep.DeepCutAuto
import Derived.Deep.CutBlock
namespace Go.Proofs.YtmbgeeiidpllcaaDoor
open Go.ChangeShapes Go.WideShapes Go.ChangeAt Go.RowKit
set_option maxRecDepth 100000
set_option linter.unusedSimpArgs false

theorem boolv {a b : Bool} (h : a = b) : Value.bool a = Value.bool b := by rw [h]
theorem ballo {w w' : World} (h : Below w.heap.size w w') (o : Obj) : Below w.heap.size w (w'.alloc o) := h.alloc h.size o
syntax "bel " term : tactic
macro_rules | `(tactic| bel $h) => `(tactic| first | exact ($h).out | (refine ballo ?_ _; bel $h) | (refine Below.drew ?_; bel $h))
set_option maxHeartbeats 4000000 in
theorem letters_any (a b : Int) (w : World) : Calls Tryd.prog 59 #[.int .i64 a, .int .i64 b] w fun e w' => e = .returned (.bool (ltrB a b)) ∧ Below w.heap.size w w' := by
  have R0 : Shut (Below w.heap.size w w) := ⟨Below.refl _ _⟩
  go_enter Tryd.func59, Tryd.ntmps59
  go_upto_region 2 with fail
  go_cut [18] (fun v wx => v = .bool ((inL [0, 28] a || a == 20) && inL [0, 28] b) ∧ Shut (Below w.heap.size w wx))
  case first =>
    cases q0 : (a == 20)
    all_goals go_wp2_with (first
      | (go_at_call 53; (with_reducible refine (in_lit2 _ _ (by omega) (by omega) _ _ _ _ (by simp)).mono ?_); rintro e w' ⟨rfl, rfl⟩)
      | (go_at_call 53; (with_reducible refine (in_lit3 _ _ _ (by omega) (by omega) (by omega) _ _ _ _ (by simp)).mono ?_); rintro e w' ⟨rfl, rfl⟩)
      | (go_at_call 53; (with_reducible refine (in_lit4 _ _ _ _ (by omega) (by omega) (by omega) (by omega) _ _ _ _ (by simp)).mono ?_); rintro e w' ⟨rfl, rfl⟩)
      | (go_at_call 53; (with_reducible refine (in_lit5 _ _ _ _ _ (by omega) (by omega) (by omega) (by omega) (by omega) _ _ _ _ (by simp)).mono ?_); rintro e w' ⟨rfl, rfl⟩)
      | fail)
    all_goals go_meet
    all_goals exact ⟨boolv (by simp_all), ⟨by bel R0⟩⟩
  case rest =>
    obtain ⟨rfl, R1⟩ := hcut
    cases hb : ((inL [0, 28] a || a == 20) && inL [0, 28] b) with
    | true =>
      have H1 : Shut _ := ⟨hb⟩
      clear hb
      go_wp2_with fail
      go_ret
      exact ⟨retb (by unfold ltrB; simp only [alI, sylB, H1.out]; simp), R1.out⟩
    | false =>
      have H1 : Shut _ := ⟨hb⟩
      clear hb
      go_upto_region 4 with fail
      go_cut [25] (fun v wx => v = .bool (inL [0, 28, 21] a && b == 18) ∧ Shut (Below w.heap.size w wx))
      case first =>
        cases q0 : (b == 18)
        all_goals go_wp2_with (first
          | (go_at_call 53; (with_reducible refine (in_lit2 _ _ (by omega) (by omega) _ _ _ _ (by simp)).mono ?_); rintro e w' ⟨rfl, rfl⟩)
          | (go_at_call 53; (with_reducible refine (in_lit3 _ _ _ (by omega) (by omega) (by omega) _ _ _ _ (by simp)).mono ?_); rintro e w' ⟨rfl, rfl⟩)
          | (go_at_call 53; (with_reducible refine (in_lit4 _ _ _ _ (by omega) (by omega) (by omega) (by omega) _ _ _ _ (by simp)).mono ?_); rintro e w' ⟨rfl, rfl⟩)
          | (go_at_call 53; (with_reducible refine (in_lit5 _ _ _ _ _ (by omega) (by omega) (by omega) (by omega) (by omega) _ _ _ _ (by simp)).mono ?_); rintro e w' ⟨rfl, rfl⟩)
          | fail)
        all_goals go_meet
        all_goals exact ⟨boolv (by simp_all), ⟨by bel R1⟩⟩
      case rest =>
        obtain ⟨rfl, R2⟩ := hcut
        cases hb : (inL [0, 28, 21] a && b == 18) with
        | true =>
          have H2 : Shut _ := ⟨hb⟩
          clear hb
          go_wp2_with fail
          go_ret
          exact ⟨retb (by unfold ltrB; simp only [alI, sylB, H1.out, H2.out]; simp), R2.out⟩
        | false =>
          have H2 : Shut _ := ⟨hb⟩
          clear hb
          go_upto_region 6 with fail
          go_cut [4] (fun v wx => v = .bool ((a == 14 && inL [0, 28, 21] b) || (a == 26 && b == 27)) ∧ Shut (Below w.heap.size w wx))
          case first =>
            cases q0 : (a == 14)
            all_goals cases q1 : (a == 26)
            all_goals cases q2 : (b == 27)
            all_goals go_wp2_with (first
              | (go_at_call 53; (with_reducible refine (in_lit2 _ _ (by omega) (by omega) _ _ _ _ (by simp)).mono ?_); rintro e w' ⟨rfl, rfl⟩)
              | (go_at_call 53; (with_reducible refine (in_lit3 _ _ _ (by omega) (by omega) (by omega) _ _ _ _ (by simp)).mono ?_); rintro e w' ⟨rfl, rfl⟩)
              | (go_at_call 53; (with_reducible refine (in_lit4 _ _ _ _ (by omega) (by omega) (by omega) (by omega) _ _ _ _ (by simp)).mono ?_); rintro e w' ⟨rfl, rfl⟩)
              | (go_at_call 53; (with_reducible refine (in_lit5 _ _ _ _ _ (by omega) (by omega) (by omega) (by omega) (by omega) _ _ _ _ (by simp)).mono ?_); rintro e w' ⟨rfl, rfl⟩)
              | fail)
            all_goals go_meet
            all_goals exact ⟨boolv (by simp_all), ⟨by bel R2⟩⟩
          case rest =>
            obtain ⟨rfl, RZ⟩ := hcut
            have E : Shut (((a == 14 && inL [0, 28, 21] b) || (a == 26 && b == 27)) = ltrB a b) := ⟨by unfold ltrB; simp only [alI, sylB, H1.out, H2.out]; simp⟩
            go_wp2_with fail
            go_ret
            exact ⟨retb E.out, RZ.out⟩
set_option maxHeartbeats 4000000 in
theorem numbers_any (a b : Int) (w : World) : Calls Tryd.prog 58 #[.int .i64 a, .int .i64 b] w fun e w' => e = .returned (.bool (numB a b)) ∧ Below w.heap.size w w' := by
  have R0 : Shut (Below w.heap.size w w) := ⟨Below.refl _ _⟩
  go_enter Tryd.func58, Tryd.ntmps58
  go_upto_region 1 with fail
  go_cut [13] (fun v wx => v = .bool (inL [13, 14, 21] a && inL [22, 23] b) ∧ Shut (Below w.heap.size w wx))
  case first =>
    all_goals go_wp2_with (first
      | (go_at_call 53; (with_reducible refine (in_lit2 _ _ (by omega) (by omega) _ _ _ _ (by simp)).mono ?_); rintro e w' ⟨rfl, rfl⟩)
      | (go_at_call 53; (with_reducible refine (in_lit3 _ _ _ (by omega) (by omega) (by omega) _ _ _ _ (by simp)).mono ?_); rintro e w' ⟨rfl, rfl⟩)
      | (go_at_call 53; (with_reducible refine (in_lit4 _ _ _ _ (by omega) (by omega) (by omega) (by omega) _ _ _ _ (by simp)).mono ?_); rintro e w' ⟨rfl, rfl⟩)
      | (go_at_call 53; (with_reducible refine (in_lit5 _ _ _ _ _ (by omega) (by omega) (by omega) (by omega) (by omega) _ _ _ _ (by simp)).mono ?_); rintro e w' ⟨rfl, rfl⟩)
      | fail)
    all_goals go_meet
    all_goals exact ⟨boolv (by simp_all), ⟨by bel R0⟩⟩
  case rest =>
    obtain ⟨rfl, R1⟩ := hcut
    cases hb : (inL [13, 14, 21] a && inL [22, 23] b) with
    | true =>
      have H1 : Shut _ := ⟨hb⟩
      clear hb
      go_wp2_with fail
      go_ret
      exact ⟨retb (by unfold numB; simp only [alI, sylB, H1.out]; simp), R1.out⟩
    | false =>
      have H1 : Shut _ := ⟨hb⟩
      clear hb
      go_upto_region 3 with fail
      go_cut [21] (fun v wx => v = .bool (inL [22, 23] a && inL [18, 21] b) ∧ Shut (Below w.heap.size w wx))
      case first =>
        all_goals go_wp2_with (first
          | (go_at_call 53; (with_reducible refine (in_lit2 _ _ (by omega) (by omega) _ _ _ _ (by simp)).mono ?_); rintro e w' ⟨rfl, rfl⟩)
          | (go_at_call 53; (with_reducible refine (in_lit3 _ _ _ (by omega) (by omega) (by omega) _ _ _ _ (by simp)).mono ?_); rintro e w' ⟨rfl, rfl⟩)
          | (go_at_call 53; (with_reducible refine (in_lit4 _ _ _ _ (by omega) (by omega) (by omega) (by omega) _ _ _ _ (by simp)).mono ?_); rintro e w' ⟨rfl, rfl⟩)
          | (go_at_call 53; (with_reducible refine (in_lit5 _ _ _ _ _ (by omega) (by omega) (by omega) (by omega) (by omega) _ _ _ _ (by simp)).mono ?_); rintro e w' ⟨rfl, rfl⟩)
          | fail)
        all_goals go_meet
        all_goals exact ⟨boolv (by simp_all), ⟨by bel R1⟩⟩
      case rest =>
        obtain ⟨rfl, R2⟩ := hcut
        cases hb : (inL [22, 23] a && inL [18, 21] b) with
        | true =>
          have H2 : Shut _ := ⟨hb⟩
          clear hb
          go_wp2_with fail
          go_ret
          exact ⟨retb (by unfold numB; simp only [alI, sylB, H1.out, H2.out]; simp), R2.out⟩
        | false =>
          have H2 : Shut _ := ⟨hb⟩
          clear hb
          go_upto_region 5 with fail
          go_cut [28] (fun v wx => v = .bool (inL [12, 20, 21, 24] a && b == 21) ∧ Shut (Below w.heap.size w wx))
          case first =>
            cases q0 : (b == 21)
            all_goals go_wp2_with (first
              | (go_at_call 53; (with_reducible refine (in_lit2 _ _ (by omega) (by omega) _ _ _ _ (by simp)).mono ?_); rintro e w' ⟨rfl, rfl⟩)
              | (go_at_call 53; (with_reducible refine (in_lit3 _ _ _ (by omega) (by omega) (by omega) _ _ _ _ (by simp)).mono ?_); rintro e w' ⟨rfl, rfl⟩)
              | (go_at_call 53; (with_reducible refine (in_lit4 _ _ _ _ (by omega) (by omega) (by omega) (by omega) _ _ _ _ (by simp)).mono ?_); rintro e w' ⟨rfl, rfl⟩)
              | (go_at_call 53; (with_reducible refine (in_lit5 _ _ _ _ _ (by omega) (by omega) (by omega) (by omega) (by omega) _ _ _ _ (by simp)).mono ?_); rintro e w' ⟨rfl, rfl⟩)
              | fail)
            all_goals go_meet
            all_goals exact ⟨boolv (by simp_all), ⟨by bel R2⟩⟩
          case rest =>
            obtain ⟨rfl, R3⟩ := hcut
            cases hb : (inL [12, 20, 21, 24] a && b == 21) with
            | true =>
              have H3 : Shut _ := ⟨hb⟩
              clear hb
              go_wp2_with fail
              go_ret
              exact ⟨retb (by unfold numB; simp only [alI, sylB, H1.out, H2.out, H3.out]; simp), R3.out⟩
            | false =>
              have H3 : Shut _ := ⟨hb⟩
              clear hb
              go_upto_region 7 with fail
              go_cut [35] (fun v wx => v = .bool (a == 30 && inL [30, 31, 33, 34] b) ∧ Shut (Below w.heap.size w wx))
              case first =>
                cases q0 : (a == 30)
                all_goals go_wp2_with (first
                  | (go_at_call 53; (with_reducible refine (in_lit2 _ _ (by omega) (by omega) _ _ _ _ (by simp)).mono ?_); rintro e w' ⟨rfl, rfl⟩)
                  | (go_at_call 53; (with_reducible refine (in_lit3 _ _ _ (by omega) (by omega) (by omega) _ _ _ _ (by simp)).mono ?_); rintro e w' ⟨rfl, rfl⟩)
                  | (go_at_call 53; (with_reducible refine (in_lit4 _ _ _ _ (by omega) (by omega) (by omega) (by omega) _ _ _ _ (by simp)).mono ?_); rintro e w' ⟨rfl, rfl⟩)
                  | (go_at_call 53; (with_reducible refine (in_lit5 _ _ _ _ _ (by omega) (by omega) (by omega) (by omega) (by omega) _ _ _ _ (by simp)).mono ?_); rintro e w' ⟨rfl, rfl⟩)
                  | fail)
                all_goals go_meet
                all_goals exact ⟨boolv (by simp_all), ⟨by bel R3⟩⟩
              case rest =>
                obtain ⟨rfl, R4⟩ := hcut
                cases hb : (a == 30 && inL [30, 31, 33, 34] b) with
                | true =>
                  have H4 : Shut _ := ⟨hb⟩
                  clear hb
                  go_wp2_with fail
                  go_ret
                  exact ⟨retb (by unfold numB; simp only [alI, sylB, H1.out, H2.out, H3.out, H4.out]; simp), R4.out⟩
                | false =>
                  have H4 : Shut _ := ⟨hb⟩
                  clear hb
                  go_upto_region 9 with fail
                  go_cut [52] (fun v wx => v = .bool ((inL [31, 33] a && inL [31, 32] b) || (inL [32, 34] a && b == 32)) ∧ Shut (Below w.heap.size w wx))
                  case first =>
                    cases q0 : (b == 32)
                    all_goals go_wp2_with (first
                      | (go_at_call 53; (with_reducible refine (in_lit2 _ _ (by omega) (by omega) _ _ _ _ (by simp)).mono ?_); rintro e w' ⟨rfl, rfl⟩)
                      | (go_at_call 53; (with_reducible refine (in_lit3 _ _ _ (by omega) (by omega) (by omega) _ _ _ _ (by simp)).mono ?_); rintro e w' ⟨rfl, rfl⟩)
                      | (go_at_call 53; (with_reducible refine (in_lit4 _ _ _ _ (by omega) (by omega) (by omega) (by omega) _ _ _ _ (by simp)).mono ?_); rintro e w' ⟨rfl, rfl⟩)
                      | (go_at_call 53; (with_reducible refine (in_lit5 _ _ _ _ _ (by omega) (by omega) (by omega) (by omega) (by omega) _ _ _ _ (by simp)).mono ?_); rintro e w' ⟨rfl, rfl⟩)
                      | fail)
                    all_goals go_meet
                    all_goals exact ⟨boolv (by simp_all), ⟨by bel R4⟩⟩
                  case rest =>
                    obtain ⟨rfl, R5⟩ := hcut
                    cases hb : ((inL [31, 33] a && inL [31, 32] b) || (inL [32, 34] a && b == 32)) with
                    | true =>
                      have H5 : Shut _ := ⟨hb⟩
                      clear hb
                      go_wp2_with fail
                      go_ret
                      exact ⟨retb (by unfold numB; simp only [alI, sylB, H1.out, H2.out, H3.out, H4.out, H5.out]; simp), R5.out⟩
                    | false =>
                      have H5 : Shut _ := ⟨hb⟩
                      clear hb
                      go_upto_region 12 with fail
                      go_cut [4] (fun v wx => v = .bool ((inL [30, 31, 32, 33, 34] a && b == 22) || (a == 23 && inL [30, 31, 32, 33, 34] b)) ∧ Shut (Below w.heap.size w wx))
                      case first =>
                        cases q0 : (b == 22)
                        all_goals cases q1 : (a == 23)
                        all_goals go_wp2_with (first
                          | (go_at_call 53; (with_reducible refine (in_lit2 _ _ (by omega) (by omega) _ _ _ _ (by simp)).mono ?_); rintro e w' ⟨rfl, rfl⟩)
                          | (go_at_call 53; (with_reducible refine (in_lit3 _ _ _ (by omega) (by omega) (by omega) _ _ _ _ (by simp)).mono ?_); rintro e w' ⟨rfl, rfl⟩)
                          | (go_at_call 53; (with_reducible refine (in_lit4 _ _ _ _ (by omega) (by omega) (by omega) (by omega) _ _ _ _ (by simp)).mono ?_); rintro e w' ⟨rfl, rfl⟩)
                          | (go_at_call 53; (with_reducible refine (in_lit5 _ _ _ _ _ (by omega) (by omega) (by omega) (by omega) (by omega) _ _ _ _ (by simp)).mono ?_); rintro e w' ⟨rfl, rfl⟩)
                          | fail)
                        all_goals go_meet
                        all_goals exact ⟨boolv (by simp_all), ⟨by bel R5⟩⟩
                      case rest =>
                        obtain ⟨rfl, RZ⟩ := hcut
                        have E : Shut (((inL [30, 31, 32, 33, 34] a && b == 22) || (a == 23 && inL [30, 31, 32, 33, 34] b)) = numB a b) := ⟨by unfold numB; simp only [alI, sylB, H1.out, H2.out, H3.out, H4.out, H5.out]; simp⟩
                        go_wp2_with fail
                        go_ret
                        exact ⟨retb E.out, RZ.out⟩
end Go.Proofs.YtmbgeeiidpllcaaDoor
