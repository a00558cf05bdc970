/- Chapter 19: the reference's rules 2 to 6. -/
import Derived.Test.YtmbgeeiidpllcaaDoorKrl
namespace Go.Proofs.YtmbgeeiidpllcaaDoor
open Go.ChangeShapes Go.WideShapes Go.ChangeAt Go.RowKit
set_option maxRecDepth 100000
set_option linter.unusedSimpArgs false

def hard2 (oa ob os : Int) : Int × Bool :=
  if inL [1, 3, 2] oa = true then (2, true) else if inL [1, 2, 3, 4, 5] ob = true then (0, true) else if (os == 5) = true then (1, true) else (0, oa == 9 || (mkB ob && oa != 4))
def signs2 (oa a b s : Int) : Int × Bool :=
  if (a == 6 || (b == 6 || a == 7)) = true then (0, true) else if (b == 7 && !inL [4, 10, 12] a) = true then (0, true) else if inL [13, 14, 15, 20, 24] b = true then (0, true)
  else if ((s == 18 || (s == 19 && b == 18)) || ((s == 13 || s == 14) && b == 17)) = true then (0, true) else if (oa == 4) = true then (1, true) else (0, a == 19 || b == 19)
theorem tupv {k : Int} {b : Bool} {p : Int × Bool} (h : p = (k, b)) : Ending.returned (.tuple #[Value.int .i64 k, Value.bool b]) = Ending.returned (.tuple #[Value.int .i64 p.1, Value.bool p.2]) := by rw [h]
theorem spO_zero {xs : List Int} {i : Nat} (h : spN xs i = 0) : spO xs i = -1 := if_pos h
theorem spO_succ {xs : List Int} {i s : Nat} (h : spN xs i = s + 1) : spO xs i = bk xs s := by unfold spO; rw [if_neg (by omega), h]; rfl
theorem spC_zero {xs : List Int} {i : Nat} (h : spN xs i = 0) : spC xs i = -1 := if_pos h
theorem spC_succ {xs : List Int} {i s : Nat} (h : spN xs i = s + 1) : spC xs i = cls xs s := by unfold spC; rw [if_neg (by omega), h]; rfl
set_option maxHeartbeats 8000000 in
theorem hard_any (A : Option Addr) (n c : Nat) (xs : List Int) (j : Nat) (hj : j + 1 < n) (w : World) (hx : SliceIn .i32 w A n c xs) (hn : n ≤ 4000) :
    Calls Tryd.prog 55 #[.slice A n c, .int .i64 ((j : Int) + 1)] w fun e w' => e = .returned (.tuple #[.int .i64 (hard2 (bk xs j) (bk xs (j + 1)) (spO xs (j + 1))).1, .bool (hard2 (bk xs j) (bk xs (j + 1)) (spO xs (j + 1))).2]) ∧ Below w.heap.size w w' := by
  have HX : Shut _ := ⟨hx⟩
  obtain ⟨ad, rfl, hab, hcx⟩ := hx.at_.2 (by omega)
  have c1 := hcx j (by omega)
  have c2 : w.cell? ⟨ad.block, ad.off + (j + 1), none⟩ = some (.int .i32 (nth xs (j + 1))) := by rw [← add_succ]; exact hcx (j + 1) hj
  have O1 := own19_at HX.out (i := j) (by omega)
  have O2 := own19_at HX.out hj
  have SP : Shut (∀ w', Below w.heap.size w w' → Calls Tryd.prog 68 #[.slice (some ad) n c, .int .i64 ((j : Int) + 1)] w' fun e w1 => e = .returned (.int .i64 ((spN xs (j + 1) : Int) - 1)) ∧ Below w'.heap.size w' w1) :=
    ⟨fun w' hb => spaces_any (some ad) n c xs (j + 1) (by omega) w' (HX.out.pass hb) hn⟩
  have hsn := spN_le xs (j + 1)
  have S0 : Shut (spN xs (j + 1) = 0 → spO xs (j + 1) = -1) := ⟨spO_zero⟩
  have S1 : Shut (∀ s, spN xs (j + 1) = s + 1 → spO xs (j + 1) = bk xs s) := ⟨fun s h => spO_succ h⟩
  have k1 := later_cell c1
  have k2 := later_cell c2
  clear c1 c2
  generalize nth xs j = u at *
  generalize nth xs (j + 1) = v at *
  generalize bk xs j = a at *
  generalize bk xs (j + 1) = b at *
  generalize spO xs (j + 1) = os at *
  generalize spN xs (j + 1) = S at *
  clear hx hcx hab
  go_enter Tryd.func55, Tryd.ntmps55
  go_wp2_with fail
  refine wp_region_later (by kernel_rfl) (by kernel_rfl) ?_
  repeat (go_big_quiet_step ((first | (go_at_call 51; with_reducible exact quiet_later (O1.out _)) | (go_at_call 51; with_reducible exact quiet_later (O2.out _)))))
  refine wpQuiet_nil ?_
  intro _ hw'
  obtain ⟨nq, hw''⟩ := hw'
  subst hw''
  have R0 : Shut (Below w.heap.size w nq.1) := ⟨nq.2⟩
  clear k1 k2
  go_upto_region 2 with fail
  go_cut [22] (fun v wx => v = .bool (inL [1, 3, 2] a) ∧ Shut (Below w.heap.size w wx))
  case first =>
    all_goals go_wp2_with (first
      | (go_at_call 53; (with_reducible refine (in_lit2 _ _ (by omega) (by omega) _ _ _ _ (by simp)).mono ?_); rintro e w' ⟨rfl, rfl⟩)
      | (go_at_call 53; (with_reducible refine (in_lit3 _ _ _ (by omega) (by omega) (by omega) _ _ _ _ (by simp)).mono ?_); rintro e w' ⟨rfl, rfl⟩)
      | (go_at_call 53; (with_reducible refine (in_lit4 _ _ _ _ (by omega) (by omega) (by omega) (by omega) _ _ _ _ (by simp)).mono ?_); rintro e w' ⟨rfl, rfl⟩)
      | (go_at_call 53; (with_reducible refine (in_lit5 _ _ _ _ _ (by omega) (by omega) (by omega) (by omega) (by omega) _ _ _ _ (by simp)).mono ?_); rintro e w' ⟨rfl, rfl⟩)
      | fail)
    all_goals go_meet
    all_goals exact ⟨boolv (by first | (simp_all; done) | (simp only [bne, *]; done) | simp [bne, *]), ⟨by bel R0⟩⟩
  case rest =>
    obtain ⟨rfl, R1⟩ := hcut
    cases hb : (inL [1, 3, 2] a) with
    | true =>
      have H1 : Shut _ := ⟨hb⟩
      clear hb
      have E : Shut (hard2 a b os = (2, true)) := ⟨by unfold hard2; simp only [H1.out]; simp⟩
      go_wp2_with fail
      go_ret2
      exact ⟨tupv E.out, R1.out⟩
    | false =>
      have H1 : Shut _ := ⟨hb⟩
      clear hb
      go_upto_region 4 with fail
      go_cut [25] (fun v wx => v = .bool (inL [1, 2, 3, 4, 5] b) ∧ Shut (Below w.heap.size w wx))
      case first =>
        all_goals go_wp2_with (first
          | (go_at_call 53; (with_reducible refine (in_lit2 _ _ (by omega) (by omega) _ _ _ _ (by simp)).mono ?_); rintro e w' ⟨rfl, rfl⟩)
          | (go_at_call 53; (with_reducible refine (in_lit3 _ _ _ (by omega) (by omega) (by omega) _ _ _ _ (by simp)).mono ?_); rintro e w' ⟨rfl, rfl⟩)
          | (go_at_call 53; (with_reducible refine (in_lit4 _ _ _ _ (by omega) (by omega) (by omega) (by omega) _ _ _ _ (by simp)).mono ?_); rintro e w' ⟨rfl, rfl⟩)
          | (go_at_call 53; (with_reducible refine (in_lit5 _ _ _ _ _ (by omega) (by omega) (by omega) (by omega) (by omega) _ _ _ _ (by simp)).mono ?_); rintro e w' ⟨rfl, rfl⟩)
          | fail)
        all_goals go_meet
        all_goals exact ⟨boolv (by first | (simp_all; done) | (simp only [bne, *]; done) | simp [bne, *]), ⟨by bel R1⟩⟩
      case rest =>
        obtain ⟨rfl, R2⟩ := hcut
        cases hb : (inL [1, 2, 3, 4, 5] b) with
        | true =>
          have H2 : Shut _ := ⟨hb⟩
          clear hb
          have E : Shut (hard2 a b os = (0, true)) := ⟨by unfold hard2; simp only [H1.out, H2.out]; simp⟩
          go_wp2_with fail
          go_ret2
          exact ⟨tupv E.out, R2.out⟩
        | false =>
          have H2 : Shut _ := ⟨hb⟩
          clear hb
          go_upto_region 7 with (go_at_call 68; with_reducible refine (SP.out _ R2.out).mono ?_; rintro e w1 ⟨rfl, b1⟩)
          have X1 : Shut (Below w.heap.size w w1) := ⟨R2.out.trans (b1.mono R2.out.size)⟩
          clear b1
          go_cut [8, 38] (fun _ v wx => v = .bool (os == 5) ∧ Shut (Below w.heap.size w wx))
          case first =>
            obtain rfl | ⟨s, rfl⟩ : S = 0 ∨ ∃ s, S = s + 1 := by cases S with | zero => exact .inl rfl | succ s => exact .inr ⟨s, rfl⟩
            · obtain rfl := S0.out rfl
              rw [show ((0 : Nat) : Int) - 1 = -1 from rfl]
              go_wp2_with fail
              go_meet
              exact ⟨rfl, X1⟩
            · have hos := S1.out s rfl
              rw [show ((s + 1 : Nat) : Int) - 1 = (s : Int) from by omega]
              obtain ⟨a2, e2, hab, hcx⟩ := (HX.out.pass X1.out).at_.2 (by omega)
              obtain rfl := Option.some.inj e2
              have c3 := hcx s (by omega)
              have O3 := own19_at HX.out (i := s) (by omega)
              generalize nth xs s = y at *
              subst hos
              generalize bk xs s = os at *
              clear hcx
              cases q0 : (os == 5)
              all_goals go_wp2_with ((go_at_call 51; with_reducible refine (O3.out _).mono ?_; rintro e w3 ⟨rfl, b3⟩; have X3 : Shut (Below w.heap.size w w3) := ⟨X1.out.trans (b3.mono X1.out.size)⟩; clear b3))
              all_goals go_meet
              all_goals exact ⟨boolv (by first | (simp_all; done) | (simp only [bne, *]; done) | simp [bne, *]), X3⟩
          case rest =>
            obtain ⟨rfl, R3⟩ := hcut
            cases hb : (os == 5) with
            | true =>
              have H3 : Shut _ := ⟨hb⟩
              clear hb
              have E : Shut (hard2 a b os = (1, true)) := ⟨by unfold hard2; simp only [H1.out, H2.out, H3.out]; simp⟩
              go_wp2_with fail
              go_ret2
              exact ⟨tupv E.out, R3.out⟩
            | false =>
              have H3 : Shut _ := ⟨hb⟩
              clear hb
              go_upto_region 9 with fail
              go_cut [4, 5] (fun v v2 wx => v = .int .i64 0 ∧ v2 = .bool (a == 9 || (mkB b && a != 4)) ∧ Shut (Below w.heap.size w wx))
              case first =>
                cases q0 : (a == 9)
                all_goals cases q1 : (a == 4)
                all_goals go_wp2_with (first
                  | (go_at_call 52; with_reducible refine (marks19_any _ _).mono ?_; rintro e w1 ⟨rfl, rfl⟩)
                  | fail)
                all_goals go_meet
                all_goals exact ⟨rfl, boolv (by first | (simp_all; done) | (simp only [bne, *]; done) | simp [bne, *]), ⟨by bel R3⟩⟩
              case rest =>
                obtain ⟨rfl, rfl, RZ⟩ := hcut
                have E : Shut (hard2 a b os = (0, a == 9 || (mkB b && a != 4))) := ⟨by unfold hard2; simp only [H1.out, H2.out, H3.out]; simp⟩
                go_wp2_with fail
                go_ret2
                exact ⟨tupv E.out, RZ.out⟩
set_option maxHeartbeats 8000000 in
theorem signs_any (A : Option Addr) (n c : Nat) (xs : List Int) (C : Option Addr) (cc : Nat) (j : Nat) (hj : j + 1 < n) (w : World) (hx : SliceIn .i32 w A n c xs) (hc : ClsAt w C n xs) (hn : n ≤ 4000) :
    Calls Tryd.prog 56 #[.slice A n c, .slice C n cc, .int .i64 ((j : Int) + 1)] w fun e w' => e = .returned (.tuple #[.int .i64 (signs2 (bk xs j) (cls xs j) (cls xs (j + 1)) (spC xs (j + 1))).1, .bool (signs2 (bk xs j) (cls xs j) (cls xs (j + 1)) (spC xs (j + 1))).2]) ∧ Below w.heap.size w w' := by
  have HX : Shut _ := ⟨hx⟩
  have HC : Shut _ := ⟨hc⟩
  obtain ⟨ac, rfl, hac, hcc⟩ := hc.at_ (by omega)
  obtain ⟨ad, hA, hab0, hcx0⟩ := hx.at_.2 (by omega)
  subst hA
  have c1 := hcc j (by omega)
  have c2 : w.cell? ⟨ac.block, ac.off + (j + 1), none⟩ = some (.int .i64 (cls xs (j + 1))) := by rw [← add_succ]; exact hcc (j + 1) (by omega)
  have T1 : Shut (∀ w', Below w.heap.size w w' → w'.cell? (ad.add j) = some (.int .i32 (nth xs j))) := ⟨fun w' hb => (hb.cell (by rw [block_of_add]; exact hab0)).trans (hcx0 j (by omega))⟩
  have O1 := own19_at HX.out (i := j) (by omega)
  have SP : Shut (∀ w', Below w.heap.size w w' → Calls Tryd.prog 68 #[.slice (some ad) n c, .int .i64 ((j : Int) + 1)] w' fun e w1 => e = .returned (.int .i64 ((spN xs (j + 1) : Int) - 1)) ∧ Below w'.heap.size w' w1) :=
    ⟨fun w' hb => spaces_any (some ad) n c xs (j + 1) (by omega) w' (HX.out.pass hb) hn⟩
  have hsn := spN_le xs (j + 1)
  have S0 : Shut (spN xs (j + 1) = 0 → spC xs (j + 1) = -1) := ⟨spC_zero⟩
  have S1 : Shut (∀ s, spN xs (j + 1) = s + 1 → spC xs (j + 1) = cls xs s) := ⟨fun s h => spC_succ h⟩
  have R0 : Shut (∀ k, Below w.heap.size w (w.drewN k)) := ⟨fun k => below_drewN (Below.refl _ _) k⟩
  generalize nth xs j = u at *
  generalize bk xs j = oa at *
  generalize cls xs j = a at *
  generalize cls xs (j + 1) = b at *
  generalize spC xs (j + 1) = sc at *
  generalize spN xs (j + 1) = S at *
  clear hx hc hcc hac hcx0 hab0
  go_enter Tryd.func56, Tryd.ntmps56
  go_wp2_with fail
  go_quiet (fail)
  clear c1 c2
  go_upto_region 2 with fail
  go_cut [30] (fun v wx => v = .bool (a == 6 || (b == 6 || a == 7)) ∧ Shut (Below w.heap.size w wx))
  case first =>
    cases q0 : (a == 6)
    all_goals cases q1 : (b == 6)
    all_goals cases q2 : (a == 7)
    all_goals go_wp2_with (first
      | fail
      | fail)
    all_goals go_meet
    all_goals exact ⟨boolv (by first | (simp_all; done) | (simp only [bne, *]; done) | simp [bne, *]), ⟨by bel (⟨R0.out _⟩ : Shut (Below w.heap.size w _))⟩⟩
  case rest =>
    obtain ⟨rfl, R1⟩ := hcut
    cases hb : (a == 6 || (b == 6 || a == 7)) with
    | true =>
      have H1 : Shut _ := ⟨hb⟩
      clear hb
      have E : Shut (signs2 oa a b sc = (0, true)) := ⟨by unfold signs2; simp only [H1.out]; simp⟩
      go_wp2_with fail
      go_ret2
      exact ⟨tupv E.out, R1.out⟩
    | false =>
      have H1 : Shut _ := ⟨hb⟩
      clear hb
      go_upto_region 4 with fail
      go_cut [38] (fun v wx => v = .bool (b == 7 && !inL [4, 10, 12] a) ∧ Shut (Below w.heap.size w wx))
      case first =>
        cases q0 : (b == 7)
        all_goals go_wp2_with (first
          | (go_at_call 53; (with_reducible refine (in_lit2 _ _ (by omega) (by omega) _ _ _ _ (by simp)).mono ?_); rintro e w' ⟨rfl, rfl⟩)
          | (go_at_call 53; (with_reducible refine (in_lit3 _ _ _ (by omega) (by omega) (by omega) _ _ _ _ (by simp)).mono ?_); rintro e w' ⟨rfl, rfl⟩)
          | (go_at_call 53; (with_reducible refine (in_lit4 _ _ _ _ (by omega) (by omega) (by omega) (by omega) _ _ _ _ (by simp)).mono ?_); rintro e w' ⟨rfl, rfl⟩)
          | (go_at_call 53; (with_reducible refine (in_lit5 _ _ _ _ _ (by omega) (by omega) (by omega) (by omega) (by omega) _ _ _ _ (by simp)).mono ?_); rintro e w' ⟨rfl, rfl⟩)
          | fail)
        all_goals go_meet
        all_goals exact ⟨boolv (by first | (simp_all; done) | (simp only [bne, *]; done) | simp [bne, *]), ⟨by bel R1⟩⟩
      case rest =>
        obtain ⟨rfl, R2⟩ := hcut
        cases hb : (b == 7 && !inL [4, 10, 12] a) with
        | true =>
          have H2 : Shut _ := ⟨hb⟩
          clear hb
          have E : Shut (signs2 oa a b sc = (0, true)) := ⟨by unfold signs2; simp only [H1.out, H2.out]; simp⟩
          go_wp2_with fail
          go_ret2
          exact ⟨tupv E.out, R2.out⟩
        | false =>
          have H2 : Shut _ := ⟨hb⟩
          clear hb
          go_upto_region 6 with fail
          go_cut [41] (fun v wx => v = .bool (inL [13, 14, 15, 20, 24] b) ∧ Shut (Below w.heap.size w wx))
          case first =>
            all_goals go_wp2_with (first
              | (go_at_call 53; (with_reducible refine (in_lit2 _ _ (by omega) (by omega) _ _ _ _ (by simp)).mono ?_); rintro e w' ⟨rfl, rfl⟩)
              | (go_at_call 53; (with_reducible refine (in_lit3 _ _ _ (by omega) (by omega) (by omega) _ _ _ _ (by simp)).mono ?_); rintro e w' ⟨rfl, rfl⟩)
              | (go_at_call 53; (with_reducible refine (in_lit4 _ _ _ _ (by omega) (by omega) (by omega) (by omega) _ _ _ _ (by simp)).mono ?_); rintro e w' ⟨rfl, rfl⟩)
              | (go_at_call 53; (with_reducible refine (in_lit5 _ _ _ _ _ (by omega) (by omega) (by omega) (by omega) (by omega) _ _ _ _ (by simp)).mono ?_); rintro e w' ⟨rfl, rfl⟩)
              | fail)
            all_goals go_meet
            all_goals exact ⟨boolv (by first | (simp_all; done) | (simp only [bne, *]; done) | simp [bne, *]), ⟨by bel R2⟩⟩
          case rest =>
            obtain ⟨rfl, R3⟩ := hcut
            cases hb : (inL [13, 14, 15, 20, 24] b) with
            | true =>
              have H3 : Shut _ := ⟨hb⟩
              clear hb
              have E : Shut (signs2 oa a b sc = (0, true)) := ⟨by unfold signs2; simp only [H1.out, H2.out, H3.out]; simp⟩
              go_wp2_with fail
              go_ret2
              exact ⟨tupv E.out, R3.out⟩
            | false =>
              have H3 : Shut _ := ⟨hb⟩
              clear hb
              go_upto_region 9 with (go_at_call 68; with_reducible refine (SP.out _ R3.out).mono ?_; rintro e w1 ⟨rfl, b1⟩)
              have X1 : Shut (Below w.heap.size w w1) := ⟨R3.out.trans (b1.mono R3.out.size)⟩
              clear b1
              obtain rfl | ⟨s, rfl⟩ : S = 0 ∨ ∃ s, S = s + 1 := by cases S with | zero => exact .inl rfl | succ s => exact .inr ⟨s, rfl⟩
              · obtain rfl := S0.out rfl
                rw [show ((0 : Nat) : Int) - 1 = -1 from rfl]
                go_upto_region 13 with fail
                have t1 := T1.out _ X1.out
                go_cut [79] (fun v wx => v = .bool (oa == 4) ∧ Shut (Below w.heap.size w wx))
                case first =>
                  cases q0 : (oa == 4)
                  all_goals go_wp2_with (first
                    | (go_at_call 51; with_reducible refine (O1.out _).mono ?_; rintro e w3 ⟨rfl, b3⟩; have X3 : Shut (Below w.heap.size w w3) := ⟨X1.out.trans (b3.mono X1.out.size)⟩; clear b3)
                    | fail)
                  all_goals go_meet
                  all_goals exact ⟨boolv (by first | (simp_all; done) | (simp only [bne, *]; done) | simp [bne, *]), X3⟩
                case rest =>
                  obtain ⟨rfl, R5⟩ := hcut
                  cases hb : (oa == 4) with
                  | true =>
                    have H5 : Shut _ := ⟨hb⟩
                    clear hb
                    have E : Shut (signs2 oa a b (-1) = (1, true)) := ⟨by unfold signs2; simp only [H1.out, H2.out, H3.out, H5.out]; simp⟩
                    go_wp2_with fail
                    go_ret2
                    exact ⟨tupv E.out, R5.out⟩
                  | false =>
                    have H5 : Shut _ := ⟨hb⟩
                    clear hb
                    clear t1
                    go_upto_region 15 with fail
                    go_cut [6, 7] (fun v v2 wx => v = .int .i64 0 ∧ v2 = .bool (a == 19 || b == 19) ∧ Shut (Below w.heap.size w wx))
                    case first =>
                      cases q0 : (a == 19)
                      all_goals cases q1 : (b == 19)
                      all_goals go_wp2_with (first
                        | fail
                        | fail)
                      all_goals go_meet
                      all_goals exact ⟨rfl, boolv (by first | (simp_all; done) | (simp only [bne, *]; done) | simp [bne, *]), ⟨by bel R5⟩⟩
                    case rest =>
                      obtain ⟨rfl, rfl, RZ⟩ := hcut
                      have E : Shut (signs2 oa a b (-1) = (0, a == 19 || b == 19)) := ⟨by unfold signs2; simp only [H1.out, H2.out, H3.out, H5.out]; simp⟩
                      go_wp2_with fail
                      go_ret2
                      exact ⟨tupv E.out, RZ.out⟩
              · have hos := S1.out s rfl
                rw [show ((s + 1 : Nat) : Int) - 1 = (s : Int) from by omega]
                obtain ⟨a2, e2, hab, hcx⟩ := (HC.out.pass X1.out).at_ (by omega)
                obtain rfl := Option.some.inj e2
                have c3 := hcx s (by omega)
                rw [← hos] at c3
                clear hos
                clear hcx
                go_upto_region 11 with fail
                clear c3
                go_cut [72] (fun v wx => v = .bool ((sc == 18 || (sc == 19 && b == 18)) || ((sc == 13 || sc == 14) && b == 17)) ∧ Shut (Below w.heap.size w wx))
                case first =>
                  cases q0 : (sc == 18)
                  all_goals cases q1 : (sc == 19)
                  all_goals cases q2 : (b == 18)
                  all_goals cases q3 : (sc == 13)
                  all_goals cases q4 : (sc == 14)
                  all_goals cases q5 : (b == 17)
                  all_goals go_wp2_with (first
                    | fail
                    | fail)
                  all_goals go_meet
                  all_goals exact ⟨boolv (by first | (simp_all; done) | (simp only [bne, *]; done) | simp [bne, *]), X1⟩
                case rest =>
                  obtain ⟨rfl, R4⟩ := hcut
                  cases hb : ((sc == 18 || (sc == 19 && b == 18)) || ((sc == 13 || sc == 14) && b == 17)) with
                  | true =>
                    have H4 : Shut _ := ⟨hb⟩
                    clear hb
                    have E : Shut (signs2 oa a b sc = (0, true)) := ⟨by unfold signs2; simp only [H1.out, H2.out, H3.out, H4.out]; simp⟩
                    go_wp2_with fail
                    go_ret2
                    exact ⟨tupv E.out, R4.out⟩
                  | false =>
                    have H4 : Shut _ := ⟨hb⟩
                    clear hb
                    go_upto_region 13 with fail
                    have t1 := T1.out _ R4.out
                    go_cut [79] (fun v wx => v = .bool (oa == 4) ∧ Shut (Below w.heap.size w wx))
                    case first =>
                      cases q0 : (oa == 4)
                      all_goals go_wp2_with (first
                        | (go_at_call 51; with_reducible refine (O1.out _).mono ?_; rintro e w3 ⟨rfl, b3⟩; have X3 : Shut (Below w.heap.size w w3) := ⟨R4.out.trans (b3.mono R4.out.size)⟩; clear b3)
                        | fail)
                      all_goals go_meet
                      all_goals exact ⟨boolv (by first | (simp_all; done) | (simp only [bne, *]; done) | simp [bne, *]), X3⟩
                    case rest =>
                      obtain ⟨rfl, R5⟩ := hcut
                      cases hb : (oa == 4) with
                      | true =>
                        have H5 : Shut _ := ⟨hb⟩
                        clear hb
                        have E : Shut (signs2 oa a b sc = (1, true)) := ⟨by unfold signs2; simp only [H1.out, H2.out, H3.out, H4.out, H5.out]; simp⟩
                        go_wp2_with fail
                        go_ret2
                        exact ⟨tupv E.out, R5.out⟩
                      | false =>
                        have H5 : Shut _ := ⟨hb⟩
                        clear hb
                        clear t1
                        go_upto_region 15 with fail
                        go_cut [6, 7] (fun v v2 wx => v = .int .i64 0 ∧ v2 = .bool (a == 19 || b == 19) ∧ Shut (Below w.heap.size w wx))
                        case first =>
                          cases q0 : (a == 19)
                          all_goals cases q1 : (b == 19)
                          all_goals go_wp2_with (first
                            | fail
                            | fail)
                          all_goals go_meet
                          all_goals exact ⟨rfl, boolv (by first | (simp_all; done) | (simp only [bne, *]; done) | simp [bne, *]), ⟨by bel R5⟩⟩
                        case rest =>
                          obtain ⟨rfl, rfl, RZ⟩ := hcut
                          have E : Shut (signs2 oa a b sc = (0, a == 19 || b == 19)) := ⟨by unfold signs2; simp only [H1.out, H2.out, H3.out, H4.out, H5.out]; simp⟩
                          go_wp2_with fail
                          go_ret2
                          exact ⟨tupv E.out, RZ.out⟩
end Go.Proofs.YtmbgeeiidpllcaaDoor
