/- Chapter 23: the walk of FallbackOne. -/
import Derived.Test.YtefajgfhdnhmmaaDoorFone
namespace Go.Proofs.YtefajgfhdnhmmaaDoor
open Go.ChangeShapes Go.WideShapes Go.ChangeAt Go.RowKit
set_option maxRecDepth 100000
set_option linter.unusedSimpArgs false

set_option maxHeartbeats 8000000 in
theorem FallbackOne_walk (em : Int) (G : Option Addr) (gn gc : Nat) (M : Option Addr) (mn mc : Nat) (ms : List (Int × Int)) (L : Option Addr) (ln lc : Nat) (F : Option Addr) (fn fc : Nat) (S : Option Addr) (sn sc : Nat) (A : Option Addr) (n c : Nat) (xs : List Int) (A3 : Option Addr) (n3 c3 : Nat) (sp : List Sp) (w : World) (hM : MapsAt w w.heap.size M mn ms) (hx : SliceIn .i32 w A n c xs) (hS : SpansAt w w.heap.size A3 n3 sp) (hl : Laid w) :
    Calls Tryd.prog 10 #[.agg #[.int .i64 em, .slice G gn gc, .slice M mn mc, .slice L ln lc, .slice F fn fc, .slice S sn sc], .slice A n c, .slice A3 n3 c3] w fun e w' => e = .returned (.bool true) ∧ Below w.heap.size w w' := by
  by_cases h1 : 100 < mn
  · clear hM hx hS hl
    go_enter Tryd.func10, Tryd.ntmps10
    go_wp2_with fail
    go_ret
    exact ⟨rfl, below_alloc w _⟩
  · by_cases h2 : 30 < n
    · clear hM hx hS hl
      go_enter Tryd.func10, Tryd.ntmps10
      go_wp2_with fail
      go_ret
      exact ⟨rfl, below_alloc w _⟩
    · by_cases h3 : 20 < n3
      · clear hM hx hS hl
        go_enter Tryd.func10, Tryd.ntmps10
        go_wp2_with fail
        go_ret
        exact ⟨rfl, below_alloc w _⟩
      · obtain ⟨fd, hfd⟩ : ∃ fd : Fd, fd = ⟨em, G, gn, gc, M, mn, mc, L, ln, lc, F, fn, fc, S, sn, sc, ms⟩ := ⟨_, rfl⟩
        have HFD := Lib.hid hfd
        have E1 := fontS_one (fs := [fd]) (by simp) sp hx.at_.len
        have E0 := fontS_one (fs := []) (by simp) sp hx.at_.len
        have PF := Lib.hid (fun (A9 : Option Addr) (k9 c9 : Nat) (fs : List Fd) (hfm : ∀ j, j < k9 → (fnth fs j).mn ≤ 140737488355328) (hk : k9 ≤ 10) (W : World) (hb : Below w.heap.size w W) (hF : FontsAt W W.heap.size A9 k9 fs) => pfOf_any A9 k9 c9 fs A n c xs A3 n3 c3 sp W hF (hx.pass hb) (hS.later hb) (hl.pass hb) hfm (by omega) (by omega) (by omega))
        have HM := Lib.hid (fun (W : World) (hb : Below w.heap.size w W) => (show MapsAt W W.heap.size fd.M fd.mn fd.ms by rw [HFD.out]; exact hM.later hb))
        have HLd := Lib.hid hl
        have MN := Lib.hid (show fd.mn ≤ 140737488355328 by rw [HFD.out]; show mn ≤ _; omega)
        obtain ⟨bx, hbx⟩ : ∃ bx : Obj, bx = .cells #[.int .i64 em, .slice G gn gc, .slice M mn mc, .slice L ln lc, .slice F fn fc, .slice S sn sc] 52 := ⟨_, rfl⟩
        have HBX := Lib.hid hbx
        -- the rest, from where 'all' is laid
        obtain ⟨SL, hSL⟩ : ∃ SL, (if n = 0 then [] else [(⟨0, (n : Int), 0⟩ : Sp)]) = SL := ⟨_, rfl⟩
        rw [hSL] at E1 E0
        obtain ⟨l1, hl1⟩ : ∃ l1, SL.length = l1 := ⟨_, rfl⟩
        have hl1b : l1 ≤ 1 := by rw [← hl1, ← hSL]; split <;> simp
        have HSL := Lib.hid hSL
        have HL1 := Lib.hid hl1
        have HE1 := Lib.hid E1
        have HE0 := Lib.hid E0
        clear hM hx hS hl hfd E1 E0 hbx hSL hl1
        have hv1 : #[Value.int .i64 em, .slice G gn gc, .slice M mn mc, .slice L ln lc, .slice F fn fc, .slice S sn sc] = ([fd].flatMap fdV).toArray := by rw [HFD.out]; rfl
        have hv2 : #[Value.int .i64 em, .slice G gn gc, .slice M mn mc, .slice L ln lc, .slice F fn fc, .slice S sn sc, .int .i64 em, .slice G gn gc, .slice M mn mc, .slice L ln lc, .slice F fn fc, .slice S sn sc] = ([fd, fd].flatMap fdV).toArray := by rw [HFD.out]; rfl
        have HV1 := Lib.hid hv1
        have HV2 := Lib.hid hv2
        clear hv1 hv2
        rcases Nat.eq_zero_or_pos n with h0 | h0
        · have l0 : ¬ (0 : Int) < (n : Int) := by omega
          have hz : SL = [] := by rw [← HSL.out, if_pos h0]
          have hz1 : l1 = 0 := by rw [← HL1.out, hz]; rfl
          subst hz
          subst hz1
          clear h0
          go_enter Tryd.func10, Tryd.ntmps10
          go_wp2_with fail
          obtain ⟨Wb, hWb⟩ : ∃ Wb, w.alloc (.cells #[.int .i64 em, .slice G gn gc, .slice M mn mc, .slice L ln lc, .slice F fn fc, .slice S sn sc] 52) = Wb := ⟨_, rfl⟩
          have hg : w.heap.size + 1 = Wb.heap.size := by rw [← hWb]; simp
          have bb : Below (w.heap.size + 1) (w.alloc (.cells #[.int .i64 em, .slice G gn gc, .slice M mn mc, .slice L ln lc, .slice F fn fc, .slice S sn sc] 52)) Wb := by rw [hWb]; exact Below.refl _ _
          have sa : SpansAt Wb Wb.heap.size none 0 [] := ⟨rfl, fun h => absurd h (by omega)⟩
          have BB := Lib.hid bb
          have SA := Lib.hid sa
          rw [hWb, hg]
          clear hWb bb sa hg
          have XB := Lib.hid (box_belowF BB.out)
          have P1 := PF.out (some ⟨Wb.heap.size, 0, none⟩) 1 1 [fd] (fun j hj => by obtain rfl : j = 0 := by omega
                                                                                    exact MN.out) (by omega) (Wb.alloc (.cells #[.int .i64 em, .slice G gn gc, .slice M mn mc, .slice L ln lc, .slice F fn fc, .slice S sn sc] 52)) (XB.out.alloc XB.out.size _) (fonts_lit Wb 52 [fd] 1 rfl _ HV1.out (fun f hf => by rw [List.mem_singleton.1 hf]; exact HM.out Wb XB.out))
          rw [HE1.out] at P1
          refine P1.mono ?_
          rintro e W2 ⟨A5, c5, rfl, o5, x5⟩
          have y5 := (below_alloc Wb (.cells #[.int .i64 em, .slice G gn gc, .slice M mn mc, .slice L ln lc, .slice F fn fc, .slice S sn sc] 52)).trans (x5.mono (below_alloc Wb _).size)
          have S5 := Lib.hid (fun q : Nat => sameSp_any A5 _ _ c5 q _ W2 (OwnV.spans o5) (SA.out.later y5) (by simp))
          have Y5 := Lib.hid (XB.out.trans (y5.mono XB.out.size))
          have Z5 := Lib.hid (box_stepF BB.out y5)
          have SA5 := Lib.hid (SA.out.later y5)
          clear o5 x5 y5 P1
          go_wp2_with fail
          refine (S5.out _).mono ?_
          rintro e W3 ⟨rfl, x6⟩
          have Y6 := Lib.hid (Y5.out.trans (x6.mono Y5.out.size))
          have Z6 := Lib.hid (box_stepF Z5.out x6)
          have SA6 := Lib.hid (SA5.out.later x6)
          clear x6 S5
          go_wp2_with fail
          have P2 := PF.out none 0 0 [] (fun j hj => absurd hj (by omega)) (by omega) W3 Y6.out ⟨rfl, fun h => absurd h (by omega)⟩
          rw [HE0.out] at P2
          refine P2.mono ?_
          rintro e W4 ⟨A7, c7, rfl, o7, x7⟩
          have S7 := Lib.hid (fun q : Nat => sameSp_any A7 _ _ c7 q _ W4 (OwnV.spans o7) (SA6.out.later x7) (by simp))
          have Y7 := Lib.hid (Y6.out.trans (x7.mono Y6.out.size))
          have Z7 := Lib.hid (box_stepF Z6.out x7)
          clear o7 x7 P2
          go_wp2_with fail
          refine (S7.out _).mono ?_
          rintro e W5 ⟨rfl, x8⟩
          have Y8 := Lib.hid (Y7.out.trans (x8.mono Y7.out.size))
          have Z8 := box_stepF Z7.out x8
          have q0 := box_keepF Z8 0
          have q1 := box_keepF Z8 1
          have q2 := box_keepF Z8 2
          have q3 := box_keepF Z8 3
          have q4 := box_keepF Z8 4
          have q5 := box_keepF Z8 5
          clear x8 S7 Z8
          go_wp2_with fail
          have F2 := fonts_lit W5 52 [fd, fd] 2 rfl _ HV2.out (fun f hf => by
            have : f = fd := by simpa using hf
            rw [this]; exact HM.out W5 Y8.out)
          obtain ⟨W6, hW6⟩ : ∃ W6, W5.alloc (.cells #[.int .i64 em, .slice G gn gc, .slice M mn mc, .slice L ln lc, .slice F fn fc, .slice S sn sc, .int .i64 em, .slice G gn gc, .slice M mn mc, .slice L ln lc, .slice F fn fc, .slice S sn sc] 52) = W6 := ⟨_, rfl⟩
          rw [hW6] at F2 ⊢
          have hs6 : W5.heap.size + 1 = W6.heap.size := by rw [← hW6]; simp
          have b6 : Below W5.heap.size W5 W6 := by rw [← hW6]; exact below_alloc W5 _
          have y6 := Y8.out.trans (b6.mono Y8.out.size)
          rw [hs6]
          have b7 := below_alloc W6 (.cells #[.int .i32 8205, .int .i32 8234] 21)
          have PP := ppick_any _ 2 2 [fd, fd] 1 _ 2 2 [8205, 8234] 0 _ (F2.later b7) (lit_in (w := W6) (t := 21) [8205, 8234] 2 rfl (by omega) (by decide) #[.int .i32 8205, .int .i32 8234] rfl) (HLd.out.pass (y6.trans (b7.mono y6.size))) (fun j hj => by
            match j with
            | 0 => exact MN.out
            | 1 => exact MN.out
            | j + 2 => omega) (by omega) (by omega)
          rw [pick_one] at PP
          refine PP.mono ?_
          rintro e W8 ⟨rfl, x9⟩
          have hfin := y6.trans ((b7.trans (x9.mono b7.size)).mono y6.size)
          clear PP F2 hW6 hs6 b6 b7
          go_wp2_with fail
          go_ret
          exact ⟨rfl, hfin⟩
        · have l0 : (0 : Int) < (n : Int) := by omega
          have hz : SL = [⟨0, (n : Int), 0⟩] := by rw [← HSL.out, if_neg (by omega)]
          have hz1 : l1 = 1 := by rw [← HL1.out, hz]; rfl
          subst hz
          subst hz1
          clear h0
          go_enter Tryd.func10, Tryd.ntmps10
          go_wp2_with fail
          obtain ⟨Wb, hWb⟩ : ∃ Wb, (w.alloc (.cells #[.int .i64 em, .slice G gn gc, .slice M mn mc, .slice L ln lc, .slice F fn fc, .slice S sn sc] 52)).alloc (.cells #[.int .i64 0, .int .i64 (n : Int), .int .i64 0] 54) = Wb := ⟨_, rfl⟩
          have hg : w.heap.size + 1 + 1 = Wb.heap.size := by rw [← hWb]; simp
          have bb : Below (w.heap.size + 1) (w.alloc (.cells #[.int .i64 em, .slice G gn gc, .slice M mn mc, .slice L ln lc, .slice F fn fc, .slice S sn sc] 52)) Wb := by rw [← hWb]; exact (Below.refl _ _).alloc (by simp) _
          have sa : SpansAt Wb Wb.heap.size (some ⟨w.heap.size + 1, 0, none⟩) 1 [⟨0, (n : Int), 0⟩] := by
            rw [← hWb]
            have h := spans_lit (w.alloc (.cells #[.int .i64 em, .slice G gn gc, .slice M mn mc, .slice L ln lc, .slice F fn fc, .slice S sn sc] 52)) 54 0 (n : Int) 0
            rw [show (w.alloc (.cells #[.int .i64 em, .slice G gn gc, .slice M mn mc, .slice L ln lc, .slice F fn fc, .slice S sn sc] 52)).heap.size = w.heap.size + 1 by simp] at h
            exact h
          have BB := Lib.hid bb
          have SA := Lib.hid sa
          rw [hWb, hg]
          clear hWb bb sa hg
          have XB := Lib.hid (box_belowF BB.out)
          have P1 := PF.out (some ⟨Wb.heap.size, 0, none⟩) 1 1 [fd] (fun j hj => by obtain rfl : j = 0 := by omega
                                                                                    exact MN.out) (by omega) (Wb.alloc (.cells #[.int .i64 em, .slice G gn gc, .slice M mn mc, .slice L ln lc, .slice F fn fc, .slice S sn sc] 52)) (XB.out.alloc XB.out.size _) (fonts_lit Wb 52 [fd] 1 rfl _ HV1.out (fun f hf => by rw [List.mem_singleton.1 hf]; exact HM.out Wb XB.out))
          rw [HE1.out] at P1
          refine P1.mono ?_
          rintro e W2 ⟨A5, c5, rfl, o5, x5⟩
          have y5 := (below_alloc Wb (.cells #[.int .i64 em, .slice G gn gc, .slice M mn mc, .slice L ln lc, .slice F fn fc, .slice S sn sc] 52)).trans (x5.mono (below_alloc Wb _).size)
          have S5 := Lib.hid (fun q : Nat => sameSp_any A5 _ _ c5 q _ W2 (OwnV.spans o5) (SA.out.later y5) (by simp))
          have Y5 := Lib.hid (XB.out.trans (y5.mono XB.out.size))
          have Z5 := Lib.hid (box_stepF BB.out y5)
          have SA5 := Lib.hid (SA.out.later y5)
          clear o5 x5 y5 P1
          go_wp2_with fail
          refine (S5.out _).mono ?_
          rintro e W3 ⟨rfl, x6⟩
          have Y6 := Lib.hid (Y5.out.trans (x6.mono Y5.out.size))
          have Z6 := Lib.hid (box_stepF Z5.out x6)
          have SA6 := Lib.hid (SA5.out.later x6)
          clear x6 S5
          go_wp2_with fail
          have P2 := PF.out none 0 0 [] (fun j hj => absurd hj (by omega)) (by omega) W3 Y6.out ⟨rfl, fun h => absurd h (by omega)⟩
          rw [HE0.out] at P2
          refine P2.mono ?_
          rintro e W4 ⟨A7, c7, rfl, o7, x7⟩
          have S7 := Lib.hid (fun q : Nat => sameSp_any A7 _ _ c7 q _ W4 (OwnV.spans o7) (SA6.out.later x7) (by simp))
          have Y7 := Lib.hid (Y6.out.trans (x7.mono Y6.out.size))
          have Z7 := Lib.hid (box_stepF Z6.out x7)
          clear o7 x7 P2
          go_wp2_with fail
          refine (S7.out _).mono ?_
          rintro e W5 ⟨rfl, x8⟩
          have Y8 := Lib.hid (Y7.out.trans (x8.mono Y7.out.size))
          have Z8 := box_stepF Z7.out x8
          have q0 := box_keepF Z8 0
          have q1 := box_keepF Z8 1
          have q2 := box_keepF Z8 2
          have q3 := box_keepF Z8 3
          have q4 := box_keepF Z8 4
          have q5 := box_keepF Z8 5
          clear x8 S7 Z8
          go_wp2_with fail
          have F2 := fonts_lit W5 52 [fd, fd] 2 rfl _ HV2.out (fun f hf => by
            have : f = fd := by simpa using hf
            rw [this]; exact HM.out W5 Y8.out)
          obtain ⟨W6, hW6⟩ : ∃ W6, W5.alloc (.cells #[.int .i64 em, .slice G gn gc, .slice M mn mc, .slice L ln lc, .slice F fn fc, .slice S sn sc, .int .i64 em, .slice G gn gc, .slice M mn mc, .slice L ln lc, .slice F fn fc, .slice S sn sc] 52) = W6 := ⟨_, rfl⟩
          rw [hW6] at F2 ⊢
          have hs6 : W5.heap.size + 1 = W6.heap.size := by rw [← hW6]; simp
          have b6 : Below W5.heap.size W5 W6 := by rw [← hW6]; exact below_alloc W5 _
          have y6 := Y8.out.trans (b6.mono Y8.out.size)
          rw [hs6]
          have b7 := below_alloc W6 (.cells #[.int .i32 8205, .int .i32 8234] 21)
          have PP := ppick_any _ 2 2 [fd, fd] 1 _ 2 2 [8205, 8234] 0 _ (F2.later b7) (lit_in (w := W6) (t := 21) [8205, 8234] 2 rfl (by omega) (by decide) #[.int .i32 8205, .int .i32 8234] rfl) (HLd.out.pass (y6.trans (b7.mono y6.size))) (fun j hj => by
            match j with
            | 0 => exact MN.out
            | 1 => exact MN.out
            | j + 2 => omega) (by omega) (by omega)
          rw [pick_one] at PP
          refine PP.mono ?_
          rintro e W8 ⟨rfl, x9⟩
          have hfin := y6.trans ((b7.trans (x9.mono b7.size)).mono y6.size)
          clear PP F2 hW6 hs6 b6 b7
          go_wp2_with fail
          go_ret
          exact ⟨rfl, hfin⟩
end Go.Proofs.YtefajgfhdnhmmaaDoor
