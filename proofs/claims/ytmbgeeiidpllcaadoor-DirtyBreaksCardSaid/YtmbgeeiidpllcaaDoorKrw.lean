/- Chapter 19: the reference's words. -/
import Derived.Test.YtmbgeeiidpllcaaDoorKrl
namespace Go.Proofs.YtmbgeeiidpllcaaDoor
open Go.ChangeShapes Go.WideShapes Go.ChangeAt Go.RowKit
set_option maxRecDepth 100000
set_option linter.unusedSimpArgs false

theorem hebN_src (xs : List Int) (j : Nat) : hebN xs (j + 1) = (decide (0 < srcN xs j) && (cls xs (srcN xs j - 1) == 28)) := rfl
set_option maxHeartbeats 8000000 in
theorem words_any (A : Option Addr) (n c : Nat) (xs : List Int) (C : Option Addr) (cc : Nat) (j : Nat) (hj : j + 1 < n) (w : World) (hx : SliceIn .i32 w A n c xs) (hc : ClsAt w C n xs) (hn : n ≤ 4000) :
    Calls Tryd.prog 57 #[.slice A n c, .slice C n cc, .int .i64 ((j : Int) + 1)] w fun e w' => e = .returned (.bool (wordB19 (cls xs j) (cls xs (j + 1)) (hebN xs (j + 1)))) ∧ Below w.heap.size w w' := by
  have HX : Shut _ := ⟨hx⟩
  have HC : Shut _ := ⟨hc⟩
  obtain ⟨ac, rfl, hac, hcc⟩ := hc.at_ (by omega)
  have c1 := hcc j (by omega)
  have c2 : w.cell? ⟨ac.block, ac.off + (j + 1), none⟩ = some (.int .i64 (cls xs (j + 1))) := by rw [← add_succ]; exact hcc (j + 1) (by omega)
  have RT : Shut (∀ w', Below w.heap.size w w' → Calls Tryd.prog 69 #[.slice A n c, .int .i64 (j : Int)] w' fun e w1 => e = .returned (.int .i64 (srcN xs j : Int)) ∧ Below w'.heap.size w' w1) :=
    ⟨fun w' hb => root_any A n c xs j (by omega) w' (HX.out.pass hb) hn⟩
  have HS : Shut (hebN xs (j + 1) = (decide (0 < srcN xs j) && (cls xs (srcN xs j - 1) == 28))) := ⟨hebN_src xs j⟩
  have hsn := srcN_le xs j
  have R0 : Shut (∀ k, Below w.heap.size w (w.drewN k)) := ⟨fun k => below_drewN (Below.refl _ _) k⟩
  generalize hebN xs (j + 1) = heb at *
  generalize cls xs j = a at *
  generalize cls xs (j + 1) = b at *
  generalize srcN xs j = S at *
  clear hx hc hcc hac
  go_enter Tryd.func57, Tryd.ntmps57
  go_wp2_with fail
  go_quiet (fail)
  clear c1 c2
  go_upto_region 2 with fail
  go_cut [36] (fun v wx => v = .bool (inL [10, 12, 17, 16] b || (a == 11 || (a == 24 && b == 28))) ∧ Shut (Below w.heap.size w wx))
  case first =>
    cases q0 : (a == 11)
    all_goals cases q1 : (a == 24)
    all_goals cases q2 : (b == 28)
    all_goals go_wp2_with (first
      | (go_at_call 53; (with_reducible refine (in_lit2 _ _ (by omega) (by omega) _ _ _ _ (by simp)).mono ?_); rintro e w' ⟨rfl, rfl⟩)
      | (go_at_call 53; (with_reducible refine (in_lit3 _ _ _ (by omega) (by omega) (by omega) _ _ _ _ (by simp)).mono ?_); rintro e w' ⟨rfl, rfl⟩)
      | (go_at_call 53; (with_reducible refine (in_lit4 _ _ _ _ (by omega) (by omega) (by omega) (by omega) _ _ _ _ (by simp)).mono ?_); rintro e w' ⟨rfl, rfl⟩)
      | (go_at_call 53; (with_reducible refine (in_lit5 _ _ _ _ _ (by omega) (by omega) (by omega) (by omega) (by omega) _ _ _ _ (by simp)).mono ?_); rintro e w' ⟨rfl, rfl⟩)
      | fail)
    all_goals go_meet
    all_goals exact ⟨boolv (by simp_all), ⟨by bel (⟨R0.out _⟩ : Shut (Below w.heap.size w _))⟩⟩
  case rest =>
    obtain ⟨rfl, R1⟩ := hcut
    cases hb : (inL [10, 12, 17, 16] b || (a == 11 || (a == 24 && b == 28))) with
    | true =>
      have H1 : Shut _ := ⟨hb⟩
      clear hb
      go_wp2_with fail
      go_ret
      exact ⟨retb (by unfold wordB19; simp only [alI, H1.out]; simp), R1.out⟩
    | false =>
      have H1 : Shut _ := ⟨hb⟩
      clear hb
      go_upto_region 5 with (go_at_call 69; with_reducible refine (RT.out _ R1.out).mono ?_; rintro e w1 ⟨rfl, b1⟩)
      have X1 : Shut (Below w.heap.size w w1) := ⟨R1.out.trans (b1.mono R1.out.size)⟩
      clear b1
      go_cut [58] (fun v wx => v = .bool ((a == 12 || a == 10) && heb) ∧ Shut (Below w.heap.size w wx))
      case first =>
        have C3 : Shut (0 < S → w1.cell? (ac.add (S - 1)) = some (.int .i64 (cls xs (S - 1)))) := ⟨fun h0 => by
          obtain ⟨a2, e2, _, h2⟩ := (HC.out.pass X1.out).at_ (by omega)
          obtain rfl := Option.some.inj e2
          exact h2 (S - 1) (by omega)⟩
        obtain rfl | ⟨s, rfl⟩ : S = 0 ∨ ∃ s, S = s + 1 := by cases S with | zero => exact .inl rfl | succ s => exact .inr ⟨s, rfl⟩
        all_goals have HS2 := HS.out
        · clear C3
          rw [show ((0 : Nat) : Int) = 0 from rfl]
          simp at HS2
          subst HS2
          cases q0 : (a == 12)
          all_goals cases q1 : (a == 10)
          all_goals go_wp2_with fail
          all_goals go_meet
          all_goals exact ⟨boolv (by simp_all), X1⟩
        have c3 := C3.out (by omega)
        rw [Nat.add_sub_cancel] at c3 HS2
        generalize cls xs s = cq at *
        simp at HS2
        rw [show ((s + 1 : Nat) : Int) = (s : Int) + 1 from rfl]
        cases q9 : (cq == 28)
        all_goals rw [q9] at HS2; subst HS2
        all_goals cases q0 : (a == 12)
        all_goals cases q1 : (a == 10)
        all_goals go_wp2_with (first
          | fail
          | fail)
        all_goals go_meet
        all_goals exact ⟨boolv (by simp_all), X1⟩
      case rest =>
        obtain ⟨rfl, R2⟩ := hcut
        cases hb : ((a == 12 || a == 10) && heb) with
        | true =>
          have H2 : Shut _ := ⟨hb⟩
          clear hb
          go_wp2_with fail
          go_ret
          exact ⟨retb (by unfold wordB19; simp only [alI, H1.out, H2.out]; simp), R2.out⟩
        | false =>
          have H2 : Shut _ := ⟨hb⟩
          clear hb
          obtain ⟨wl, rfl⟩ : ∃ wl : World, wl = wc := ⟨_, rfl⟩
          go_upto_region 8 with fail
          have LT : Shut (∀ t, IntsAt (wl.alloc (.cells #[.int .i64 0, .int .i64 28] t)) (wl.alloc (.cells #[.int .i64 0, .int .i64 28] t)).heap.size .i64 (some ⟨wl.heap.size, 0, none⟩) 2 [0, 28]) := ⟨fun t => lit19 [0, 28] 2 rfl (by omega) (wfs _ (by decide)) _ rfl wl t⟩
          go_cut [75] (fun v wx => v = .bool ((inL [0, 28] a && b == 21) || (a == 21 && inL [0, 28] b)) ∧ Shut (Below w.heap.size w wx ∧ IntsAt wx wx.heap.size .i64 (some ⟨wl.heap.size, 0, none⟩) 2 [0, 28]))
          case first =>
            cases q0 : (b == 21)
            all_goals cases q1 : (a == 21)
            all_goals go_wp2_with (first
              | (go_at_call 53; (with_reducible refine (in_lit2 _ _ (by omega) (by omega) _ _ _ _ (by simp)).mono ?_); rintro e w' ⟨rfl, rfl⟩)
              | (go_at_call 53; (with_reducible refine (in_lit3 _ _ _ (by omega) (by omega) (by omega) _ _ _ _ (by simp)).mono ?_); rintro e w' ⟨rfl, rfl⟩)
              | (go_at_call 53; (with_reducible refine (in_lit4 _ _ _ _ (by omega) (by omega) (by omega) (by omega) _ _ _ _ (by simp)).mono ?_); rintro e w' ⟨rfl, rfl⟩)
              | (go_at_call 53; (with_reducible refine (in_lit5 _ _ _ _ _ (by omega) (by omega) (by omega) (by omega) (by omega) _ _ _ _ (by simp)).mono ?_); rintro e w' ⟨rfl, rfl⟩)
              | fail)
            all_goals go_meet
            all_goals exact ⟨boolv (by simp_all), ⟨⟨by bel R2, LT.out _⟩⟩⟩
          case rest =>
            obtain ⟨rfl, R3⟩ := hcut
            cases hb : ((inL [0, 28] a && b == 21) || (a == 21 && inL [0, 28] b)) with
            | true =>
              have H3 : Shut _ := ⟨hb⟩
              clear hb
              go_wp2_with fail
              go_ret
              exact ⟨retb (by unfold wordB19; simp only [alI, H1.out, H2.out, H3.out]; simp), R3.out.1⟩
            | false =>
              have H3 : Shut _ := ⟨hb⟩
              clear hb
              obtain ⟨wp, rfl⟩ : ∃ wp : World, wp = wc := ⟨_, rfl⟩
              go_upto_region 11 with fail
              have LM : Shut (∀ o, IntsAt (wp.alloc o) (wp.alloc o).heap.size .i64 (some ⟨wl.heap.size, 0, none⟩) 2 [0, 28]) := ⟨fun o => R3.out.2.later (below_alloc _ _)⟩
              go_cut [92] (fun v wx => v = .bool ((a == 23 && inL [25, 26, 27] b) || (inL [25, 26, 27] a && b == 22)) ∧ Shut (Below w.heap.size w wx ∧ IntsAt wx wx.heap.size .i64 (some ⟨wl.heap.size, 0, none⟩) 2 [0, 28]))
              case first =>
                cases q0 : (a == 23)
                all_goals cases q1 : (b == 22)
                all_goals go_wp2_with (first
                  | (go_at_call 53; (with_reducible refine (in_lit2 _ _ (by omega) (by omega) _ _ _ _ (by simp)).mono ?_); rintro e w' ⟨rfl, rfl⟩)
                  | (go_at_call 53; (with_reducible refine (in_lit3 _ _ _ (by omega) (by omega) (by omega) _ _ _ _ (by simp)).mono ?_); rintro e w' ⟨rfl, rfl⟩)
                  | (go_at_call 53; (with_reducible refine (in_lit4 _ _ _ _ (by omega) (by omega) (by omega) (by omega) _ _ _ _ (by simp)).mono ?_); rintro e w' ⟨rfl, rfl⟩)
                  | (go_at_call 53; (with_reducible refine (in_lit5 _ _ _ _ _ (by omega) (by omega) (by omega) (by omega) (by omega) _ _ _ _ (by simp)).mono ?_); rintro e w' ⟨rfl, rfl⟩)
                  | fail)
                all_goals go_meet
                all_goals exact ⟨boolv (by simp_all), ⟨⟨by bel (⟨R3.out.1⟩ : Shut (Below w.heap.size w _)), LM.out _⟩⟩⟩
              case rest =>
                obtain ⟨rfl, R4⟩ := hcut
                cases hb : ((a == 23 && inL [25, 26, 27] b) || (inL [25, 26, 27] a && b == 22)) with
                | true =>
                  have H4 : Shut _ := ⟨hb⟩
                  clear hb
                  go_wp2_with fail
                  go_ret
                  exact ⟨retb (by unfold wordB19; simp only [alI, H1.out, H2.out, H3.out, H4.out]; simp), R4.out.1⟩
                | false =>
                  have H4 : Shut _ := ⟨hb⟩
                  clear hb
                  obtain ⟨wq, rfl⟩ : ∃ wq : World, wq = wc := ⟨_, rfl⟩
                  go_upto_region 14 with fail
                  clear LM
                  have LM : Shut (∀ o, IntsAt (wq.alloc o) (wq.alloc o).heap.size .i64 (some ⟨wl.heap.size, 0, none⟩) 2 [0, 28]) := ⟨fun o => R4.out.2.later (below_alloc _ _)⟩
                  go_cut [6] (fun v wx => v = .bool ((inL [23, 22] a && inL [0, 28] b) || (inL [0, 28] a && inL [23, 22] b)) ∧ Shut (Below w.heap.size w wx))
                  case first =>
                    all_goals go_wp2_with (first
                      | (go_at_call 53; (with_reducible refine (in_lit2 _ _ (by omega) (by omega) _ _ _ _ (by simp)).mono ?_); rintro e w' ⟨rfl, rfl⟩)
                      | (go_at_call 53; (with_reducible refine (in_lit3 _ _ _ (by omega) (by omega) (by omega) _ _ _ _ (by simp)).mono ?_); rintro e w' ⟨rfl, rfl⟩)
                      | (go_at_call 53; (with_reducible refine (in_lit4 _ _ _ _ (by omega) (by omega) (by omega) (by omega) _ _ _ _ (by simp)).mono ?_); rintro e w' ⟨rfl, rfl⟩)
                      | (go_at_call 53; (with_reducible refine (in_lit5 _ _ _ _ _ (by omega) (by omega) (by omega) (by omega) (by omega) _ _ _ _ (by simp)).mono ?_); rintro e w' ⟨rfl, rfl⟩)
                      | (go_at_call 53; (with_reducible refine (in19_any _ _ _ [0, 28] _ _ (LM.out _) (by omega)).mono ?_); rintro e w' ⟨rfl, rfl⟩)
                      | fail)
                    all_goals go_meet
                    all_goals exact ⟨boolv (by simp_all), ⟨by bel (⟨R4.out.1⟩ : Shut (Below w.heap.size w _))⟩⟩
                  case rest =>
                    obtain ⟨rfl, RZ⟩ := hcut
                    have E : Shut (((inL [23, 22] a && inL [0, 28] b) || (inL [0, 28] a && inL [23, 22] b)) = wordB19 a b heb) := ⟨by unfold wordB19; simp only [alI, H1.out, H2.out, H3.out, H4.out]; simp⟩
                    go_wp2_with fail
                    go_ret
                    exact ⟨retb E.out, RZ.out⟩
end Go.Proofs.YtmbgeeiidpllcaaDoor
