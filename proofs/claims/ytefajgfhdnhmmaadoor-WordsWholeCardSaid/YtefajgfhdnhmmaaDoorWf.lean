/- Chapter 8: kinds, what hangs together, where words part: the reference's way. -/
import Derived.Test.YtefajgfhdnhmmaaDoorWb
namespace Go.Proofs.YtefajgfhdnhmmaaDoor
open Go.ChangeShapes Go.WideShapes Go.ChangeAt Go.RowKit
set_option maxRecDepth 100000
set_option linter.unusedSimpArgs false

theorem enters_rkind : EntersIt Tryd.prog 56 := fun _ _ => by kernel_rfl
set_option maxHeartbeats 2000000 in
theorem rkind_any (A : Option Addr) (n c : Nat) (xs : List Int) (f t : Nat) (hft : f ≤ t) (htn : t ≤ n) (w : World) (hx : SliceIn .i32 w A n c xs) (hn : n ≤ 140737488355328) :
    Calls Tryd.prog 56 #[.slice A n c, .int .i64 (f : Int), .int .i64 (t : Int)] w fun e w' => e = .returned (.int .i64 (kindF (wds xs) f (t - f))) ∧ Below w.heap.size w w' := by
  have HX := Lib.hid hx
  have HLEN := Lib.hid hx.at_.len
  clear hx
  go_enter Tryd.func56, Tryd.ntmps56
  go_wp2_with fail
  go_loopw [7] (fun v wr => ∃ k : Nat, k ≤ t - f ∧ v = .int .i64 ((f + k : Nat) : Int) ∧ kindF (wds xs) f (t - f) = kindF (wds xs) (f + k) (t - f - k) ∧ Below w.heap.size w wr) (fun v _ => t - (intOf v).toNat)
  case atStart => exact ⟨0, Nat.zero_le _, rfl, rfl, Below.refl _ _⟩
  case round =>
    obtain ⟨k, hk, rfl, hkf, hb⟩ := hrel
    have HB := Lib.hid hb
    obtain ⟨q, hq⟩ : ∃ q, f + k = q := ⟨_, rfl⟩
    rw [hq] at hkf ⊢
    by_cases hlt : q < t
    · obtain ⟨d, hd⟩ : ∃ d, t - f - k = d + 1 := ⟨t - f - k - 1, by omega⟩
      have HD := Lib.hid hd
      have hqn : q < n := by omega
      obtain ⟨ad, rfl, hab, hcx⟩ := (HX.out.at_.below hb).2 (by omega)
      have hc := hcx q hqn
      obtain ⟨h1, h2⟩ := bounds_i32 (HX.out.nth_wf hqn)
      have ew := wds_at (xs := xs) (i := q) (by rw [HLEN.out]; exact hqn)
      have O := Lib.hid (rOf_lit (nth xs q) h1 h2 wr)
      have eb : (propOf (nth xs q)).word = wdOf (nth xs q) := rfl
      rw [eb] at O
      generalize nth xs q = r at *
      generalize wdOf r = v at *
      have KF := Lib.hid hkf
      have EW := Lib.hid ew
      have HQ := Lib.hid hq
      clear hcx h1 h2 eb hd hb hkf ew hq
      by_cases h6 : v = 6
      · subst h6
        go_wp2_with fail
        refine O.out.mono ?_
        rintro e w1 ⟨rfl, hb1⟩
        have HB2 := Lib.hid (HB.out.trans (hb1.mono HB.out.size))
        clear hb1
        go_wp2_with fail
        go_roundw
        case rel =>
          have hQ := HQ.out
          refine ⟨k + 1, by omega, ?_, ?_, HB2.out⟩
          · rw [show f + (k + 1) = q + 1 by omega]; go_num
          · rw [KF.out, HD.out, kindF_yes EW.out, show f + (k + 1) = q + 1 by omega]
            congr 1
            have := HD.out
            omega
        case measure => simp [intOf] <;> omega
      · have n6 : ((v : Int) != 6) = true := by simpa using h6
        have H6 := Lib.hid h6
        clear h6
        go_wp2_with fail
        refine O.out.mono ?_
        rintro e w1 ⟨rfl, hb1⟩
        have HB2 := Lib.hid (HB.out.trans (hb1.mono HB.out.size))
        clear hb1
        go_wp2_with fail
        go_ret
        exact ⟨reti (by rw [KF.out, HD.out, kindF_no (by rw [EW.out]; exact H6.out), EW.out]), HB2.out⟩
    · have hz : t - f - k = 0 := by omega
      rw [hz] at hkf
      have KF := Lib.hid hkf
      clear hkf hz
      go_wp2_with fail
      go_ret
      exact ⟨reti (by rw [KF.out]; rfl), HB.out⟩

set_option maxHeartbeats 4000000 in
theorem rheld_any (Ak : Option Addr) (nk ck : Nat) (K : List Int) (j : Nat) (hj : j + 1 < nk) (own mid : Int) (ho : 0 ≤ own) (w : World) (hk : IntsAt w w.heap.size .i64 Ak nk K) (hn : nk ≤ 140737488355328) :
    Calls Tryd.prog 88 #[.slice Ak nk ck, .int .i64 ((j : Int) + 1), .int .i64 own, .int .i64 mid] w fun e w' => e = .returned (.bool (heldB (kat K ((j : Int) - 1)) (kat K (j : Int)) (kat K ((j : Int) + 1)) (kat K ((j : Int) + 2)) own mid)) ∧ w = w' := by
  have HL := Lib.hid hk.1
  obtain ⟨ad, rfl, hab, hcx⟩ := hk.2 (by omega)
  have c0 := hcx j (by omega)
  have c1 := hcx (j + 1) hj
  rw [show (j : Int) + 1 = ((j + 1 : Nat) : Int) by omega, kat_in (i := j + 1) (by rw [HL.out]; exact hj), kat_in (i := j) (by rw [HL.out]; omega)]
  rw [show ((j + 1 : Nat) : Int) = (j : Int) + 1 by omega]
  by_cases hq : j + 2 < nk
  · have c2 := hcx (j + 2) hq
    rw [show (j : Int) + 2 = ((j + 2 : Nat) : Int) by omega, kat_in (i := j + 2) (by rw [HL.out]; exact hq)]
    have l1 : (j : Int) + 1 + 1 < (nk : Int) := by omega
    by_cases hp : 1 ≤ j
    · obtain ⟨i, rfl⟩ : ∃ i, j = i + 1 := ⟨j - 1, by omega⟩
      have c3 := hcx i (by omega)
      rw [add_succ] at c0 c1
      rw [add_succ] at c2
      rw [show ((i + 1 : Nat) : Int) - 1 = ((i : Nat) : Int) by omega, kat_in (i := i) (by rw [HL.out]; omega)]
      generalize nth K i = p at *
      generalize nth K (i + 1) = a at *
      generalize nth K (i + 1 + 1) = b at *
      generalize nth K (i + 1 + 2) = q at *
      clear hcx hk
      rw [show ((i + 1 : Nat) : Int) = (i : Int) + 1 by omega] at l1 ⊢
      go_enter Tryd.func88, Tryd.ntmps88
      go_wp2_with fail
      all_goals go_ret
      all_goals refine ⟨retb ?_, rfl⟩
      all_goals simp_all [heldB]
    · obtain rfl : j = 0 := by omega
      have c0b : w.cell? ad = _ := c0
      rw [add_succ] at c1
      have c1b : w.cell? ⟨ad.block, ad.off + 1, none⟩ = _ := c1
      rw [add_succ] at c2
      have c2b : w.cell? ⟨ad.block, ad.off + 2, none⟩ = _ := c2
      clear c2
      clear c0 c1
      rw [show ((0 : Nat) : Int) + 1 = 1 by omega] at l1 ⊢
      rw [show ((0 : Nat) : Int) - 1 = -1 by omega, kat_neg (by omega)]
      generalize nth K 0 = a at *
      generalize nth K (0 + 1) = b at *
      generalize nth K (0 + 2) = q at *
      clear hcx hk
      have no : ((-1 : Int) == own) = false := by simp; omega
      go_enter Tryd.func88, Tryd.ntmps88
      go_wp2_with fail
      all_goals go_ret
      all_goals refine ⟨retb ?_, rfl⟩
      all_goals simp_all [heldB]
  · rw [kat_out (i := (j : Int) + 2) (by rw [HL.out]; omega)]
    have l1 : ¬ (j : Int) + 1 + 1 < (nk : Int) := by omega
    have no : ((-1 : Int) == own) = false := by simp; omega
    by_cases hp : 1 ≤ j
    · obtain ⟨i, rfl⟩ : ∃ i, j = i + 1 := ⟨j - 1, by omega⟩
      have c3 := hcx i (by omega)
      rw [add_succ] at c0 c1
      rw [show ((i + 1 : Nat) : Int) - 1 = ((i : Nat) : Int) by omega, kat_in (i := i) (by rw [HL.out]; omega)]
      generalize nth K i = p at *
      generalize nth K (i + 1) = a at *
      generalize nth K (i + 1 + 1) = b at *
      clear hcx hk
      rw [show ((i + 1 : Nat) : Int) = (i : Int) + 1 by omega] at l1 ⊢
      go_enter Tryd.func88, Tryd.ntmps88
      go_wp2_with fail
      all_goals go_ret
      all_goals refine ⟨retb ?_, rfl⟩
      all_goals simp_all [heldB]
    · obtain rfl : j = 0 := by omega
      have c0b : w.cell? ad = _ := c0
      rw [add_succ] at c1
      have c1b : w.cell? ⟨ad.block, ad.off + 1, none⟩ = _ := c1
      clear c0 c1
      rw [show ((0 : Nat) : Int) + 1 = 1 by omega] at l1 ⊢
      rw [show ((0 : Nat) : Int) - 1 = -1 by omega, kat_neg (by omega)]
      generalize nth K 0 = a at *
      generalize nth K (0 + 1) = b at *
      clear hcx hk
      go_enter Tryd.func88, Tryd.ntmps88
      go_wp2_with fail
      all_goals go_ret
      all_goals refine ⟨retb ?_, rfl⟩
      all_goals simp_all [heldB]
end Go.Proofs.YtefajgfhdnhmmaaDoor
