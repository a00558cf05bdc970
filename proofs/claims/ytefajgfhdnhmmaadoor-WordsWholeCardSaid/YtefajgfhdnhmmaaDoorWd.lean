/- Chapter 8: the kind of a stretch: the reference's way. -/
import Derived.Test.YtefajgfhdnhmmaaDoorWc
namespace Go.Proofs.YtefajgfhdnhmmaaDoor
open Go.ChangeShapes Go.WideShapes Go.ChangeAt Go.RowKit
set_option maxRecDepth 100000
set_option linter.unusedSimpArgs false

set_option maxHeartbeats 2000000 in
theorem rhas_any (A : Option Addr) (n c : Nat) (xs : List Int) (f d : Nat) (hfd : f + d ≤ n) (cls : Int) (w : World) (hx : SliceIn .i32 w A n c xs) (hn : n ≤ 140737488355328) :
    Calls Tryd.prog 49 #[.slice A n c, .agg #[.int .i64 (f : Int), .int .i64 ((f + d : Nat) : Int)], .int .i64 cls] w fun e w' => e = .returned (.bool (hasF (wds xs) cls f d)) ∧ Below w.heap.size w w' := by
  have HX := Lib.hid hx
  have HLEN := Lib.hid hx.at_.len
  obtain ⟨t, ht⟩ : ∃ t, f + d = t := ⟨_, rfl⟩
  have HT := Lib.hid ht
  rw [ht]
  have htn : t ≤ n := by omega
  clear hx ht
  go_enter Tryd.func49, Tryd.ntmps49
  go_wp2_with fail
  go_loopw [7] (fun v wr => ∃ k : Nat, k ≤ d ∧ v = .int .i64 ((f + k : Nat) : Int) ∧ hasF (wds xs) cls f d = hasF (wds xs) cls (f + k) (d - k) ∧ Below (w.heap.size + 1) (w.alloc (.cells #[.int .i64 (f : Int), .int .i64 (t : Int)] 24)) wr) (fun v _ => t - (intOf v).toNat)
  case atStart => exact ⟨0, Nat.zero_le _, rfl, rfl, Below.refl _ _⟩
  case round =>
    obtain ⟨k, hk, rfl, hkf, hb⟩ := hrel
    have HB := Lib.hid hb
    have q1 := box_keepW hb 1
    obtain ⟨q, hq⟩ : ∃ q, f + k = q := ⟨_, rfl⟩
    rw [hq] at hkf ⊢
    have hT := HT.out
    by_cases hlt : q < t
    · obtain ⟨m, hm⟩ : ∃ m, d - k = m + 1 := ⟨d - k - 1, by omega⟩
      have HD := Lib.hid hm
      have hqn : q < n := by omega
      obtain ⟨ad, rfl, hab, hcx⟩ := (HX.out.at_.below (box_belowW hb)).2 (by omega)
      have hc := hcx q hqn
      obtain ⟨h1, h2⟩ := bounds_i32 (HX.out.nth_wf hqn)
      have ew := wds_at (xs := xs) (i := q) (by rw [HLEN.out]; exact hqn)
      have O := Lib.hid (rOf_lit (nth xs q) h1 h2 wr)
      have eb : (propOf (nth xs q)).word = wdOf (nth xs q) := rfl
      rw [eb] at O
      generalize nth xs q = r at *
      generalize wdOf r = v at *
      have KF := Lib.hid hkf
      have EW := Lib.hid ew
      have HQ := Lib.hid hq
      clear hcx h1 h2 eb hm hb hkf ew hq hT
      by_cases h6 : v = cls
      · have b6 : ((v : Int) == cls) = true := by simpa using h6
        have H6 := Lib.hid h6
        clear h6
        go_wp2_with fail
        refine O.out.mono ?_
        rintro e w1 ⟨rfl, hb1⟩
        have HB2 := Lib.hid (box_belowW (box_stepW HB.out hb1))
        clear hb1
        go_wp2_with fail
        go_ret
        exact ⟨retb (by rw [KF.out, HD.out, hasF_yes (by rw [EW.out]; exact H6.out)]), HB2.out⟩
      · have b6 : ((v : Int) == cls) = false := by simpa using h6
        have H6 := Lib.hid h6
        clear h6
        go_wp2_with fail
        refine O.out.mono ?_
        rintro e w1 ⟨rfl, hb1⟩
        have HB2 := Lib.hid (box_stepW HB.out hb1)
        clear hb1
        go_wp2_with fail
        go_roundw
        case rel =>
          have hQ := HQ.out
          have hT := HT.out
          refine ⟨k + 1, by omega, ?_, ?_, HB2.out⟩
          · rw [show f + (k + 1) = q + 1 by omega]; go_num
          · rw [KF.out, HD.out, hasF_no (by rw [EW.out]; exact H6.out), show f + (k + 1) = q + 1 by omega]
            congr 1
            have := HD.out
            omega
        case measure => simp [intOf] <;> omega
    · have hz : d - k = 0 := by omega
      rw [hz] at hkf
      have KF := Lib.hid hkf
      clear hkf hz hT
      go_wp2_with fail
      go_ret
      exact ⟨retb (by rw [KF.out]; rfl), box_belowW HB.out⟩

set_option maxHeartbeats 2000000 in
theorem rkindS_any (A : Option Addr) (n c : Nat) (xs : List Int) (f t : Int) (w : World) (hx : SliceIn .i32 w A n c xs) (hn : n ≤ 140737488355328) :
    Calls Tryd.prog 17 #[.slice A n c, .agg #[.int .i64 f, .int .i64 t]] w fun e w' => e = .returned (.int .i64 (kindC (wds xs) f t)) ∧ Below w.heap.size w w' := by
  have hwl : (wds xs).length = n := by rw [wds_len]; exact hx.at_.len
  by_cases hout : f < 0 ∨ (n : Int) < t ∨ t ≤ f
  · rw [kindC_out (by rw [hwl]; exact hout)]
    clear hx hwl
    by_cases h1 : f < 0
    · go_enter Tryd.func17, Tryd.ntmps17
      go_wp2_with fail
      go_ret
      exact ⟨rfl, below_alloc w _⟩
    · by_cases h2 : (n : Int) < t
      · go_enter Tryd.func17, Tryd.ntmps17
        go_wp2_with fail
        go_ret
        exact ⟨rfl, below_alloc w _⟩
      · have h3 : t ≤ f := by omega
        clear hout
        go_enter Tryd.func17, Tryd.ntmps17
        go_wp2_with fail
        go_ret
        exact ⟨rfl, below_alloc w _⟩
  · obtain ⟨fn, rfl⟩ : ∃ fn : Nat, f = fn := ⟨f.toNat, by omega⟩
    obtain ⟨d, hd⟩ : ∃ d : Nat, t = ((fn + d : Nat) : Int) := ⟨t.toNat - fn, by omega⟩
    subst hd
    have hd0 : 0 < d := by omega
    have hdn : fn + d ≤ n := by omega
    rw [kindC_in (by rw [hwl]; exact hdn) hd0]
    have H1 := Lib.hid (fun (cls : Int) (W : World) (hb : Below (w.heap.size + 1) (w.alloc (.cells #[.int .i64 (fn : Int), .int .i64 ((fn + d : Nat) : Int)] 24)) W) =>
      (rhas_any A n c xs fn d hdn cls W (hx.pass (box_belowW hb)) hn).mono fun e w' (h : e = .returned (.bool (hasF (wds xs) cls fn d)) ∧ Below W.heap.size W w') => (⟨h.1, box_stepW hb h.2⟩ : e = .returned (.bool (hasF (wds xs) cls fn d)) ∧ Below (w.heap.size + 1) (w.alloc (.cells #[.int .i64 (fn : Int), .int .i64 ((fn + d : Nat) : Int)] 24)) w'))
    have hb0 : Below (w.heap.size + 1) (w.alloc (.cells #[.int .i64 (fn : Int), .int .i64 ((fn + d : Nat) : Int)] 24)) (w.alloc (.cells #[.int .i64 (fn : Int), .int .i64 ((fn + d : Nat) : Int)] 24)) := Below.refl _ _
    obtain ⟨t, ht⟩ : ∃ t, fn + d = t := ⟨_, rfl⟩
    have l1 : ¬ (t : Int) ≤ (fn : Int) := by omega
    have l2 : ¬ (n : Int) < (t : Int) := by omega
    rw [ht] at H1 hb0 ⊢
    have A1 := Lib.hid (H1.out 1)
    have A2 := Lib.hid (H1.out 2)
    have A7 := Lib.hid (H1.out 7)
    generalize hasF (wds xs) 1 fn d = b1 at *
    generalize hasF (wds xs) 2 fn d = b2 at *
    generalize hasF (wds xs) 7 fn d = b7 at *
    clear hx hout hwl ht H1
    cases b1
    all_goals cases b2
    all_goals cases b7
    all_goals go_enter Tryd.func17, Tryd.ntmps17
    all_goals go_wp2_with (first
      | (go_at_call 49; (with_reducible refine (A1.out _ (by assumption)).mono ?_); rintro e w1 ⟨rfl, h1⟩; have q0 := box_keepW h1 0; have q1 := box_keepW h1 1)
      | (go_at_call 49; (with_reducible refine (A2.out _ (by assumption)).mono ?_); rintro e w1 ⟨rfl, h1⟩; have q0 := box_keepW h1 0; have q1 := box_keepW h1 1)
      | (go_at_call 49; (with_reducible refine (A7.out _ (by assumption)).mono ?_); rintro e w1 ⟨rfl, h1⟩; have q0 := box_keepW h1 0; have q1 := box_keepW h1 1))
    all_goals go_ret
    all_goals exact ⟨rfl, box_belowW (by assumption)⟩
end Go.Proofs.YtefajgfhdnhmmaaDoor
