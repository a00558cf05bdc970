/- Chapter 19: the reference's kind of a place. -/
import Derived.Test.YtmbgeeiidpllcaaDoorKrh
import Derived.Test.YtmbgeeiidpllcaaDoorKrw
import Derived.Test.YtmbgeeiidpllcaaDoorGi
namespace Go.Proofs.YtmbgeeiidpllcaaDoor
open Go.ChangeShapes Go.WideShapes Go.ChangeAt Go.RowKit
set_option maxRecDepth 100000
set_option linter.unusedSimpArgs false

theorem sp_two (s : Int) : inL [13, 14] s = (s == 13 || s == 14) := by
  unfold inL
  rw [Bool.eq_iff_iff]
  simp
theorem kind_two (oa ob os a b s : Int) (ha : 0 ≤ a ∧ a ≤ 34) (hb : 0 ≤ b ∧ b ≤ 34) (heb odd : Bool) :
    (if (hardF oa ob os a b != -1) = true then hardF oa ob os a b else if (closF oa a b s != -1) = true then closF oa a b s else if joinQ a b heb = true then 0 else if lastB a b odd = true then (0 : Int) else 1) =
    (if (hard2 oa ob os).2 = true then (hard2 oa ob os).1 else if (signs2 oa a b s).2 = true then (signs2 oa a b s).1 else if (wordB19 a b heb || (numB a b || ltrB a b)) = true then 0 else if ((a == 29 && b == 29) && odd) = true then (0 : Int) else 1) := by
  have R := rules_same ha hb heb odd
  unfold hardF hard2
  cases h1 : inL [1, 3, 2] oa
  case true => simp
  cases h2 : inL [1, 2, 3, 4, 5] ob
  case true => simp
  cases h3 : (os == 5)
  case true => simp
  have hm : mkB ob = inL [8, 9] ob := rfl
  rw [hm]
  cases h4 : (oa == 9 || (inL [8, 9] ob && oa != 4))
  case true => simp
  unfold signs2
  cases h5 : (a == 6 || (b == 6 || a == 7))
  case true => simp
  cases h6 : (b == 7 && !inL [4, 10, 12] a)
  case true => simp
  unfold closF
  rw [sp_two]
  cases h7 : inL [13, 14, 15, 20, 24] b
  case true => simp
  cases h8 : (s == 18 || (s == 19 && b == 18))
  case true => simp
  cases h9 : ((s == 13 || s == 14) && b == 17)
  case true => simp
  cases h10 : (oa == 4)
  case true => simp
  cases h11 : (a == 19 || b == 19)
  case true => simp
  clear h1 h2 h3 hm h4 h5 h6 h7 h8 h9 h10 h11
  generalize joinQ a b heb = J at *
  generalize lastB a b odd = L at *
  generalize wordB19 a b heb = W at *
  generalize numB a b = N at *
  generalize ltrB a b = X at *
  generalize ((a == 29 && b == 29) && odd) = Z at *
  cases J <;> cases L <;> cases W <;> cases N <;> cases X <;> cases Z <;> simp_all
theorem odd_fl (xs : List Int) (i : Nat) : oddN xs i = (((flN xs i : Nat) : Int) % 2 == 1) := by
  unfold oddN
  rw [ri_fl, Bool.eq_iff_iff]
  simp
  omega
theorem kindN_two (xs : List Int) (j : Nat) : kindN xs (j + 1) =
    (if (hard2 (bk xs j) (bk xs (j + 1)) (spO xs (j + 1))).2 = true then (hard2 (bk xs j) (bk xs (j + 1)) (spO xs (j + 1))).1
     else if (signs2 (bk xs j) (cls xs j) (cls xs (j + 1)) (spC xs (j + 1))).2 = true then (signs2 (bk xs j) (cls xs j) (cls xs (j + 1)) (spC xs (j + 1))).1
     else if (wordB19 (cls xs j) (cls xs (j + 1)) (hebN xs (j + 1)) || (numB (cls xs j) (cls xs (j + 1)) || ltrB (cls xs j) (cls xs (j + 1)))) = true then 0
     else if ((cls xs j == 29 && cls xs (j + 1) == 29) && (((flN xs (j + 1) : Nat) : Int) % 2 == 1)) = true then (0 : Int) else 1) := by
  rw [← odd_fl]
  exact kind_two _ _ _ _ _ _ (cls_le xs j) (cls_le xs (j + 1)) _ _
theorem kindAt_mid {xs : List Int} {n j : Nat} (hn : xs.length = n) (hj : j + 1 < n) : kindAt xs (j + 1) = if isN (ks xs) (j + 1) = true then kindN xs (j + 1) else 0 := by
  unfold kindAt
  rw [if_neg (by omega), if_neg (by omega)]
set_option maxHeartbeats 8000000 in
theorem kindm_any (A : Option Addr) (n c : Nat) (xs : List Int) (C : Option Addr) (cc : Nat) (j : Nat) (hj : j + 1 < n) (w : World) (hx : SliceIn .i32 w A n c xs) (hc : ClsAt w C n xs) (hn : n ≤ 4000) :
    Calls Tryd.prog 40 #[.slice A n c, .slice C n cc, .int .i64 ((j : Int) + 1)] w fun e w' => e = .returned (.int .i64 (kindAt xs (j + 1))) ∧ Below w.heap.size w w' := by
  have HX : Shut _ := ⟨hx⟩
  have HC : Shut _ := ⟨hc⟩
  obtain ⟨ac, rfl, hac, hcc⟩ := hc.at_ (by omega)
  have T1 : Shut (∀ w', Below w.heap.size w w' → w'.cell? (ac.add j) = some (.int .i64 (cls xs j))) := ⟨fun w' hb => (hb.cell (by rw [block_of_add]; exact hac)).trans (hcc j (by omega))⟩
  have T2 : Shut (∀ w', Below w.heap.size w w' → w'.cell? ⟨ac.block, ac.off + (j + 1), none⟩ = some (.int .i64 (cls xs (j + 1)))) := ⟨fun w' hb => (hb.cell (p := ⟨ac.block, ac.off + (j + 1), none⟩) hac).trans (by rw [← add_succ]; exact hcc (j + 1) (by omega))⟩
  have IS : Shut _ := ⟨risn_any A n c xs (j + 1) w hx (by omega)⟩
  have EQ : Shut _ := ⟨kindAt_mid (xs := xs) hx.at_.len hj⟩
  rw [kindN_two] at EQ
  have HD : Shut (∀ w', Below w.heap.size w w' → _) := ⟨fun w' hb => hard_any A n c xs j hj w' (HX.out.pass hb) hn⟩
  have SG : Shut (∀ w', Below w.heap.size w w' → _) := ⟨fun w' hb => signs_any A n c xs (some ac) cc j hj w' (HX.out.pass hb) (HC.out.pass hb) hn⟩
  have RW : Shut (∀ w', Below w.heap.size w w' → _) := ⟨fun w' hb => words_any A n c xs (some ac) cc j hj w' (HX.out.pass hb) (HC.out.pass hb) hn⟩
  have FL : Shut (∀ w', Below w.heap.size w w' → _) := ⟨fun w' hb => flags_any A n c xs (some ac) cc (j + 1) (by omega) w' (HX.out.pass hb) (HC.out.pass hb) hn⟩
  have NM : Shut (∀ w', _) := ⟨fun w' => numbers_any (cls xs j) (cls xs (j + 1)) w'⟩
  have LT : Shut (∀ w', _) := ⟨fun w' => letters_any (cls xs j) (cls xs (j + 1)) w'⟩
  rw [show ((j + 1 : Nat) : Int) = (j : Int) + 1 from rfl] at IS FL
  generalize hard2 (bk xs j) (bk xs (j + 1)) (spO xs (j + 1)) = p at *
  generalize signs2 (bk xs j) (cls xs j) (cls xs (j + 1)) (spC xs (j + 1)) = q at *
  generalize wordB19 (cls xs j) (cls xs (j + 1)) (hebN xs (j + 1)) = B1 at *
  generalize numB (cls xs j) (cls xs (j + 1)) = B2 at *
  generalize ltrB (cls xs j) (cls xs (j + 1)) = B3 at *
  generalize flN xs (j + 1) = F at *
  generalize cls xs j = a at *
  generalize cls xs (j + 1) = b at *
  generalize isN (ks xs) (j + 1) = isb at *
  generalize kindAt xs (j + 1) = K at *
  clear hx hc hcc hac
  obtain ⟨pk, pb⟩ := p
  obtain ⟨qk, qb⟩ := q
  have jn : ((j : Int) + 1 == (n : Int)) = false := by simp; omega
  have j0 : ((j : Int) + 1 == 0) = false := by simp; omega
  cases isb with
  | false =>
    have E : Shut (0 = K) := ⟨by rw [EQ.out]; simp⟩
    clear EQ
    go_enter Tryd.func40, Tryd.ntmps40
    go_wp2_with fail
    refine IS.out.mono ?_
    rintro e w1 ⟨rfl, b1⟩
    go_wp2_with fail
    go_ret
    exact ⟨intv E.out, b1⟩
  | true =>
    cases pb with
    | true =>
      have E : Shut (pk = K) := ⟨by rw [EQ.out]; simp⟩
      clear EQ
      go_enter Tryd.func40, Tryd.ntmps40
      go_wp2_with fail
      refine IS.out.mono ?_
      rintro e w1 ⟨rfl, b1⟩
      have X1 : Shut (Below w.heap.size w w1) := ⟨b1⟩
      clear b1
      go_wp2_with fail
      refine (HD.out _ X1.out).mono ?_
      rintro e w2 ⟨rfl, b2⟩
      have X2 : Shut (Below w.heap.size w w2) := ⟨X1.out.trans (b2.mono X1.out.size)⟩
      clear b2
      go_wp2_with fail
      go_ret
      exact ⟨intv E.out, X2.out⟩
    | false =>
      cases qb with
      | true =>
        have E : Shut (qk = K) := ⟨by rw [EQ.out]; simp⟩
        clear EQ
        go_enter Tryd.func40, Tryd.ntmps40
        go_wp2_with fail
        refine IS.out.mono ?_
        rintro e w1 ⟨rfl, b1⟩
        have X1 : Shut (Below w.heap.size w w1) := ⟨b1⟩
        clear b1
        go_wp2_with fail
        refine (HD.out _ X1.out).mono ?_
        rintro e w2 ⟨rfl, b2⟩
        have X2 : Shut (Below w.heap.size w w2) := ⟨X1.out.trans (b2.mono X1.out.size)⟩
        clear b2
        go_wp2_with fail
        refine (SG.out _ X2.out).mono ?_
        rintro e w3 ⟨rfl, b3⟩
        have X3 : Shut (Below w.heap.size w w3) := ⟨X2.out.trans (b3.mono X2.out.size)⟩
        clear b3
        go_wp2_with fail
        go_ret
        exact ⟨intv E.out, X3.out⟩
      | false =>
        go_enter Tryd.func40, Tryd.ntmps40
        go_wp2_with fail
        refine IS.out.mono ?_
        rintro e w1 ⟨rfl, b1⟩
        have X1 : Shut (Below w.heap.size w w1) := ⟨b1⟩
        clear b1
        go_wp2_with fail
        refine (HD.out _ X1.out).mono ?_
        rintro e w2 ⟨rfl, b2⟩
        have X2 : Shut (Below w.heap.size w w2) := ⟨X1.out.trans (b2.mono X1.out.size)⟩
        clear b2
        go_wp2_with fail
        refine (SG.out _ X2.out).mono ?_
        rintro e w3 ⟨rfl, b3⟩
        have X3 : Shut (Below w.heap.size w w3) := ⟨X2.out.trans (b3.mono X2.out.size)⟩
        clear b3
        go_upto_region 13 with fail
        go_cut [63] (fun v wx => v = .bool (B1 || (B2 || B3)) ∧ Shut (Below w.heap.size w wx))
        case first =>
          clear EQ
          have k1 := later_cell (T1.out _ X3.out)
          have k2 := later_cell (T2.out _ X3.out)
          have RW2 : Shut _ := ⟨fun N : Later w3 => RW.out N.1 (X3.out.trans (N.2.mono X3.out.size))⟩
          have CL : ∀ N : Later w3, Below w.heap.size w N.1 := fun N => X3.out.trans (N.2.mono X3.out.size)
          cases B1
          all_goals cases B2
          all_goals cases B3
          all_goals refine wp_region_later (by kernel_rfl) (by kernel_rfl) ?_
          all_goals repeat (go_big_quiet_step ((first | (go_at_call 57; with_reducible exact quiet_later (RW2.out _)) | (go_at_call 58; with_reducible exact quiet_later (NM.out _)) | (go_at_call 59; with_reducible exact quiet_later (LT.out _)))))
          all_goals refine wpQuiet_nil ?_
          all_goals (intro _ hw'; obtain ⟨nq, hw''⟩ := hw'; subst hw'')
          all_goals have XZ : Shut (Below w.heap.size w nq.1) := ⟨CL nq⟩
          all_goals clear k1 k2 CL
          all_goals go_wp2_with fail
          all_goals go_meet
          all_goals exact ⟨rfl, XZ⟩
        case rest =>
          obtain ⟨rfl, R1⟩ := hcut
          have EQ2 : Shut (K = if (B1 || (B2 || B3)) = true then 0 else if ((a == 29 && b == 29) && (((F : Nat) : Int) % 2 == 1)) = true then (0 : Int) else 1) := ⟨by rw [EQ.out]; simp⟩
          clear EQ
          generalize (B1 || (B2 || B3)) = Z at *
          cases Z with
          | true =>
            have E : Shut (0 = K) := ⟨by rw [EQ2.out]; simp⟩
            clear EQ2
            go_wp2_with fail
            go_ret
            exact ⟨intv E.out, R1.out⟩
          | false =>
            go_upto_region 15 with fail
            go_cut [84] (fun v wx => v = .bool ((a == 29 && b == 29) && (((F : Nat) : Int) % 2 == 1)) ∧ Shut (Below w.heap.size w wx))
            case first =>
              clear EQ2
              have k1 := T1.out _ R1.out
              have k2 := T2.out _ R1.out
              cases q0 : (a == 29)
              all_goals cases q1 : (b == 29)
              all_goals cases q2 : (((F : Nat) : Int) % 2 == 1)
              all_goals go_wp2_with ((go_at_call 60; with_reducible refine (FL.out _ R1.out).mono ?_; rintro e w4 ⟨rfl, b4⟩; have X4 : Shut (Below w.heap.size w w4) := ⟨R1.out.trans (b4.mono R1.out.size)⟩; clear b4))
              all_goals go_meet
              all_goals first | exact ⟨rfl, R1⟩ | exact ⟨rfl, X4⟩ | exact ⟨boolv (by simp_all), R1⟩ | exact ⟨boolv (by simp_all), X4⟩
            case rest =>
              obtain ⟨rfl, R2⟩ := hcut
              cases hb : ((a == 29 && b == 29) && (((F : Nat) : Int) % 2 == 1)) with
              | true =>
                have E : Shut (0 = K) := ⟨by rw [EQ2.out, hb]; simp⟩
                clear EQ2 hb
                go_wp2_with fail
                go_ret
                exact ⟨intv E.out, R2.out⟩
              | false =>
                have E : Shut (1 = K) := ⟨by rw [EQ2.out, hb]; simp⟩
                clear EQ2 hb
                go_wp2_with fail
                go_ret
                exact ⟨intv E.out, R2.out⟩
end Go.Proofs.YtmbgeeiidpllcaaDoor
