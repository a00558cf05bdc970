/- Chapter 10: the first strong class of a stretch, and the level, both ways. -/
import Derived.Test.YtanfcfppmpabpaaDoorBmat
namespace Go.Proofs.YtanfcfppmpabpaaDoor
open Go.ChangeShapes Go.WideShapes Go.ChangeAt Go.RowKit
set_option maxRecDepth 100000
set_option linter.unusedSimpArgs false

def firstOf (cs : List Int) (a b : Int) : Int := if min b cs.length ≤ max a 0 then 0 else scn ((cs.take (min b cs.length).toNat).drop (max a 0).toNat) 0
theorem firstOf_out {cs : List Int} {a b : Int} (h : min b cs.length ≤ max a 0) : firstOf cs a b = 0 := by unfold firstOf; rw [if_pos h]
theorem firstOf_in {cs : List Int} {a b : Int} {f t : Nat} (ha : max a 0 = f) (hb : min b cs.length = t) (h : f < t) : firstOf cs a b = scn ((cs.take t).drop f) 0 := by
  unfold firstOf
  rw [ha, hb, if_neg (by omega)]
  rfl
theorem firstOf_all (cs : List Int) : firstOf cs 0 cs.length = scn cs 0 := by
  rcases Nat.eq_zero_or_pos cs.length with h | h
  · rw [firstOf_out (by omega), List.eq_nil_of_length_eq_zero h]; rfl
  · rw [firstOf_in (f := 0) (t := cs.length) (by omega) (by omega) h]; simp
def levelOf (c : Int) : Int := if c = 2 ∨ c = 3 then 1 else 0
def levelOk (c : Int) : Bool := c == 1 || c == 2 || c == 3
theorem strB_cases {x : Int} (h : strB x = true) : x = 1 ∨ x = 2 ∨ x = 3 := by simpa [strB, or_assoc] using h

set_option maxHeartbeats 4000000 in
theorem pFirst_any (A : Option Addr) (n c : Nat) (xs : List Int) (a b : Int) (w : World) (hx : IntsAt w w.heap.size .i64 A n xs) (hnc : n ≤ c) (hn : n * 8 ≤ 140737488355328) :
    Calls Tryd.prog 19 #[.slice A n c, .int .i64 a, .int .i64 b] w fun e w' => e = .returned (.int .i64 (firstOf xs a b)) ∧ Below w.heap.size w w' := by
  have HX := Lib.hid hx
  have HLEN := Lib.hid hx.len
  clear hx
  by_cases hout : min b n ≤ max a 0
  · have FO := Lib.hid (firstOf_out (cs := xs) (a := a) (b := b) (by rw [HLEN.out]; exact hout))
    by_cases ha : a < 0
    · by_cases hb : (n : Int) < b
      · have h1 : (n : Int) ≤ 0 := by omega
        clear hout
        go_enter Tryd.func19, Tryd.ntmps19
        go_wp2_with fail
        go_ret
        exact ⟨reti FO.out.symm, Below.refl _ _⟩
      · have h1 : b ≤ 0 := by omega
        clear hout
        go_enter Tryd.func19, Tryd.ntmps19
        go_wp2_with fail
        go_ret
        exact ⟨reti FO.out.symm, Below.refl _ _⟩
    · by_cases hb : (n : Int) < b
      · have h1 : (n : Int) ≤ a := by omega
        clear hout
        go_enter Tryd.func19, Tryd.ntmps19
        go_wp2_with fail
        go_ret
        exact ⟨reti FO.out.symm, Below.refl _ _⟩
      · have h1 : b ≤ a := by omega
        clear hout
        go_enter Tryd.func19, Tryd.ntmps19
        go_wp2_with fail
        go_ret
        exact ⟨reti FO.out.symm, Below.refl _ _⟩
  · have hin : max a 0 < min b n := by omega
    by_cases ha : a < 0
    · by_cases hb : (n : Int) < b
      · have h1 : ¬ (n : Int) ≤ 0 := by omega
        obtain ⟨A2, c2, CH⟩ := cut_lh TIb A n c 0 n (by omega) (by omega) hnc 0 n rfl rfl
        have FI := Lib.hid (firstOf_in (cs := xs) (a := a) (b := b) (f := 0) (t := n) (by omega) (by rw [HLEN.out]; omega) (by omega))
        obtain ⟨N, hN⟩ : ∃ N, n - 0 = N := ⟨_, rfl⟩
        rw [hN] at CH
        have hNn : N ≤ n := by omega
        obtain ⟨ys, hys⟩ : ∃ ys, (xs.take n).drop 0 = ys := ⟨_, rfl⟩
        rw [hys] at FI
        have YI := Lib.hid (CH.at_ HX.out)
        rw [hys] at YI
        have YL := Lib.hid YI.out.len
        have rc := CH.run
        rw [FI.out]
        have PM := Lib.hid (pMatch_any A2 N c2 ys w YI.out (by omega))
        clear hys CH hN hout
        go_enter Tryd.func19, Tryd.ntmps19
        go_wp2_with fail
        refine PM.out.mono ?_
        rintro e w2 ⟨A3, c3, rfl, om, hbw⟩
        have OM := Lib.hid om
        have hsz := hbw.size
        have hle2 : w.heap.size ≤ w2.heap.size := hbw.size
        have YI2 := Lib.hid (YI.out.below hbw)
        clear om rc
        go_wp2_with fail
        go_loopw [9] (fun i wr => ∃ k : Nat, k ≤ N ∧ i = .int .i64 k ∧ scn (ys.drop k) 0 = scn ys 0 ∧ Below w2.heap.size w2 wr) (fun i _ => N - (intOf i).toNat)
        case atStart => exact ⟨0, Nat.zero_le _, rfl, rfl, Below.refl _ _⟩
        case round =>
          obtain ⟨k, hk, rfl, hsc, hb⟩ := hrel
          have SC := Lib.hid hsc
          clear hsc
          by_cases hlt : k < N
          · have hkl : k < ys.length := by rw [YL.out]; exact hlt
            obtain ⟨ad, rfl, hab, hcx⟩ := (YI2.out.below (hb.mono hle2)).2 (by omega)
            have hc := hcx k hlt
            clear hcx
            obtain ⟨g3, rfl, hg3, hg4⟩ := OwnV.form OM.out (by omega)
            have hm := (hb.cell (p := ⟨g3, k, none⟩) hg4).trans (own_cell OM.out hlt)
            obtain ⟨x, hx⟩ : ∃ x, nth ys k = x := ⟨_, rfl⟩
            have XK := Lib.hid hx
            obtain ⟨mm, hmm⟩ : ∃ mm, nth (matches_ ys) k = mm := ⟨_, rfl⟩
            have MK := Lib.hid hmm
            rw [hx] at hc
            rw [hmm] at hm
            have PO := Lib.hid (popens_any x)
            have HB := Lib.hid hb
            clear hx hmm
            by_cases hst : strB x = true
            · have hsx := scn_str hkl (by rw [XK.out]; exact hst)
              rw [SC.out, XK.out] at hsx
              have SX := Lib.hid hsx
              clear hsx
              rcases strB_cases hst with rfl | rfl | rfl
              all_goals
                clear hst
                go_wp2_with fail
                go_ret
                exact ⟨reti SX.out.symm, hbw.trans (HB.out.mono hsz)⟩
            · by_cases h11 : x = 11
              · subst h11
                have hsx := scn_B hkl XK.out 0
                rw [SC.out] at hsx
                have SX := Lib.hid hsx
                clear hsx hst
                go_wp2_with fail
                go_ret
                exact ⟨reti SX.out.symm, hbw.trans (HB.out.mono hsz)⟩
              · have n1 : ((x : Int) == 1) = false := by simp [strB] at hst; simp; omega
                have n2 : ((x : Int) == 2) = false := by simp [strB] at hst; simp; omega
                have n3 : ((x : Int) == 3) = false := by simp [strB] at hst; simp; omega
                have n11 : ((x : Int) == 11) = false := by simpa using h11
                cases hop : opnB x
                · rw [hop] at PO
                  have hsx : scn (ys.drop k) 0 = scn (ys.drop (k + 1)) 0 := scn_else0 hkl (by rw [XK.out]; exact hop) (by rw [XK.out]; exact h11) (by rw [XK.out]; simpa using hst)
                  rw [SC.out] at hsx
                  have SX := Lib.hid hsx
                  clear hsx hst h11 hop
                  go_wp2_with fail
                  refine (PO.out _).mono ?_
                  rintro e v1 ⟨rfl, hv1⟩
                  have u1 := HB.out.trans (hv1.mono HB.out.size)
                  have hm1 := cell_pass hm hv1
                  have hc1 := cell_pass hc hv1
                  clear hm hc hv1
                  go_wp2_with fail
                  refine (PO.out _).mono ?_
                  rintro e v2 ⟨rfl, hv2⟩
                  have u2 := u1.trans (hv2.mono u1.size)
                  have hm2 := cell_pass hm1 hv2
                  have hc2 := cell_pass hc1 hv2
                  clear hm1 hc1 hv2 u1
                  have HB2 := Lib.hid u2
                  clear u2
                  go_wp2_with fail
                  go_roundw
                  case rel => exact ⟨k + 1, by omega, by go_num, SX.out.symm, HB2.out⟩
                  case measure => simp [intOf] <;> omega
                · rw [hop] at PO
                  have hsx := scn_open hkl (by rw [XK.out]; exact hop) 0
                  rw [SC.out] at hsx
                  have HO := matches_open hkl (by rw [XK.out]; exact hop)
                  rw [MK.out] at HO
                  rcases HO with ⟨h1, h2⟩ | ⟨q, h1, h2, h3, _, h4⟩
                  · have SX := Lib.hid (hsx.trans (h2 0))
                    subst h1
                    clear hsx h2 hst h11 hop
                    go_wp2_with fail
                    refine (PO.out _).mono ?_
                    rintro e v1 ⟨rfl, hv1⟩
                    have u1 := HB.out.trans (hv1.mono HB.out.size)
                    have hm1 := cell_pass hm hv1
                    have hc1 := cell_pass hc hv1
                    clear hm hc hv1
                    have HB2 := Lib.hid u1
                    clear u1
                    go_wp2_with fail
                    go_ret
                    exact ⟨reti SX.out.symm, hbw.trans (HB2.out.mono hsz)⟩
                  · have SX := Lib.hid (hsx.trans (h4 0))
                    subst h3
                    have nq : (((q : Nat) : Int) == -1) = false := by simp <;> omega
                    have hq : q < N := by rw [← YL.out]; exact h2
                    clear hsx h4 hst h11 hop h2
                    go_wp2_with fail
                    refine (PO.out _).mono ?_
                    rintro e v1 ⟨rfl, hv1⟩
                    have u1 := HB.out.trans (hv1.mono HB.out.size)
                    have hm1 := cell_pass hm hv1
                    have hc1 := cell_pass hc hv1
                    clear hm hc hv1
                    go_wp2_with fail
                    refine (PO.out _).mono ?_
                    rintro e v2 ⟨rfl, hv2⟩
                    have u2 := u1.trans (hv2.mono u1.size)
                    have hm2 := cell_pass hm1 hv2
                    have hc2 := cell_pass hc1 hv2
                    clear hm1 hc1 hv2 u1
                    have HB2 := Lib.hid u2
                    clear u2
                    go_wp2_with fail
                    go_roundw
                    case rel => exact ⟨q + 1, by omega, by go_num, SX.out.symm, HB2.out⟩
                    case measure => simp [intOf] <;> omega
          · obtain rfl : k = N := by omega
            have hsx := scn_end (cs := ys) (k := k) (by rw [YL.out]; exact Nat.le_refl _) 0
            rw [SC.out] at hsx
            have SX := Lib.hid hsx
            clear hsx
            go_wp2_with fail
            go_ret
            exact ⟨reti SX.out.symm, hbw.trans (hb.mono hsz)⟩

      · obtain ⟨t, rfl⟩ : ∃ t : Nat, b = t := ⟨b.toNat, by omega⟩
        have h1 : ¬ (t : Int) ≤ 0 := by omega
        obtain ⟨A2, c2, CH⟩ := cut_lh TIb A n c 0 t (by omega) (by omega) hnc 0 t rfl rfl
        have FI := Lib.hid (firstOf_in (cs := xs) (a := a) (b := t) (f := 0) (t := t) (by omega) (by rw [HLEN.out]; omega) (by omega))
        obtain ⟨N, hN⟩ : ∃ N, t - 0 = N := ⟨_, rfl⟩
        rw [hN] at CH
        have hNn : N ≤ n := by omega
        obtain ⟨ys, hys⟩ : ∃ ys, (xs.take t).drop 0 = ys := ⟨_, rfl⟩
        rw [hys] at FI
        have YI := Lib.hid (CH.at_ HX.out)
        rw [hys] at YI
        have YL := Lib.hid YI.out.len
        have rc := CH.run
        rw [FI.out]
        have PM := Lib.hid (pMatch_any A2 N c2 ys w YI.out (by omega))
        clear hys CH hN hout
        go_enter Tryd.func19, Tryd.ntmps19
        go_wp2_with fail
        refine PM.out.mono ?_
        rintro e w2 ⟨A3, c3, rfl, om, hbw⟩
        have OM := Lib.hid om
        have hsz := hbw.size
        have hle2 : w.heap.size ≤ w2.heap.size := hbw.size
        have YI2 := Lib.hid (YI.out.below hbw)
        clear om rc
        go_wp2_with fail
        go_loopw [9] (fun i wr => ∃ k : Nat, k ≤ N ∧ i = .int .i64 k ∧ scn (ys.drop k) 0 = scn ys 0 ∧ Below w2.heap.size w2 wr) (fun i _ => N - (intOf i).toNat)
        case atStart => exact ⟨0, Nat.zero_le _, rfl, rfl, Below.refl _ _⟩
        case round =>
          obtain ⟨k, hk, rfl, hsc, hb⟩ := hrel
          have SC := Lib.hid hsc
          clear hsc
          by_cases hlt : k < N
          · have hkl : k < ys.length := by rw [YL.out]; exact hlt
            obtain ⟨ad, rfl, hab, hcx⟩ := (YI2.out.below (hb.mono hle2)).2 (by omega)
            have hc := hcx k hlt
            clear hcx
            obtain ⟨g3, rfl, hg3, hg4⟩ := OwnV.form OM.out (by omega)
            have hm := (hb.cell (p := ⟨g3, k, none⟩) hg4).trans (own_cell OM.out hlt)
            obtain ⟨x, hx⟩ : ∃ x, nth ys k = x := ⟨_, rfl⟩
            have XK := Lib.hid hx
            obtain ⟨mm, hmm⟩ : ∃ mm, nth (matches_ ys) k = mm := ⟨_, rfl⟩
            have MK := Lib.hid hmm
            rw [hx] at hc
            rw [hmm] at hm
            have PO := Lib.hid (popens_any x)
            have HB := Lib.hid hb
            clear hx hmm
            by_cases hst : strB x = true
            · have hsx := scn_str hkl (by rw [XK.out]; exact hst)
              rw [SC.out, XK.out] at hsx
              have SX := Lib.hid hsx
              clear hsx
              rcases strB_cases hst with rfl | rfl | rfl
              all_goals
                clear hst
                go_wp2_with fail
                go_ret
                exact ⟨reti SX.out.symm, hbw.trans (HB.out.mono hsz)⟩
            · by_cases h11 : x = 11
              · subst h11
                have hsx := scn_B hkl XK.out 0
                rw [SC.out] at hsx
                have SX := Lib.hid hsx
                clear hsx hst
                go_wp2_with fail
                go_ret
                exact ⟨reti SX.out.symm, hbw.trans (HB.out.mono hsz)⟩
              · have n1 : ((x : Int) == 1) = false := by simp [strB] at hst; simp; omega
                have n2 : ((x : Int) == 2) = false := by simp [strB] at hst; simp; omega
                have n3 : ((x : Int) == 3) = false := by simp [strB] at hst; simp; omega
                have n11 : ((x : Int) == 11) = false := by simpa using h11
                cases hop : opnB x
                · rw [hop] at PO
                  have hsx : scn (ys.drop k) 0 = scn (ys.drop (k + 1)) 0 := scn_else0 hkl (by rw [XK.out]; exact hop) (by rw [XK.out]; exact h11) (by rw [XK.out]; simpa using hst)
                  rw [SC.out] at hsx
                  have SX := Lib.hid hsx
                  clear hsx hst h11 hop
                  go_wp2_with fail
                  refine (PO.out _).mono ?_
                  rintro e v1 ⟨rfl, hv1⟩
                  have u1 := HB.out.trans (hv1.mono HB.out.size)
                  have hm1 := cell_pass hm hv1
                  have hc1 := cell_pass hc hv1
                  clear hm hc hv1
                  go_wp2_with fail
                  refine (PO.out _).mono ?_
                  rintro e v2 ⟨rfl, hv2⟩
                  have u2 := u1.trans (hv2.mono u1.size)
                  have hm2 := cell_pass hm1 hv2
                  have hc2 := cell_pass hc1 hv2
                  clear hm1 hc1 hv2 u1
                  have HB2 := Lib.hid u2
                  clear u2
                  go_wp2_with fail
                  go_roundw
                  case rel => exact ⟨k + 1, by omega, by go_num, SX.out.symm, HB2.out⟩
                  case measure => simp [intOf] <;> omega
                · rw [hop] at PO
                  have hsx := scn_open hkl (by rw [XK.out]; exact hop) 0
                  rw [SC.out] at hsx
                  have HO := matches_open hkl (by rw [XK.out]; exact hop)
                  rw [MK.out] at HO
                  rcases HO with ⟨h1, h2⟩ | ⟨q, h1, h2, h3, _, h4⟩
                  · have SX := Lib.hid (hsx.trans (h2 0))
                    subst h1
                    clear hsx h2 hst h11 hop
                    go_wp2_with fail
                    refine (PO.out _).mono ?_
                    rintro e v1 ⟨rfl, hv1⟩
                    have u1 := HB.out.trans (hv1.mono HB.out.size)
                    have hm1 := cell_pass hm hv1
                    have hc1 := cell_pass hc hv1
                    clear hm hc hv1
                    have HB2 := Lib.hid u1
                    clear u1
                    go_wp2_with fail
                    go_ret
                    exact ⟨reti SX.out.symm, hbw.trans (HB2.out.mono hsz)⟩
                  · have SX := Lib.hid (hsx.trans (h4 0))
                    subst h3
                    have nq : (((q : Nat) : Int) == -1) = false := by simp <;> omega
                    have hq : q < N := by rw [← YL.out]; exact h2
                    clear hsx h4 hst h11 hop h2
                    go_wp2_with fail
                    refine (PO.out _).mono ?_
                    rintro e v1 ⟨rfl, hv1⟩
                    have u1 := HB.out.trans (hv1.mono HB.out.size)
                    have hm1 := cell_pass hm hv1
                    have hc1 := cell_pass hc hv1
                    clear hm hc hv1
                    go_wp2_with fail
                    refine (PO.out _).mono ?_
                    rintro e v2 ⟨rfl, hv2⟩
                    have u2 := u1.trans (hv2.mono u1.size)
                    have hm2 := cell_pass hm1 hv2
                    have hc2 := cell_pass hc1 hv2
                    clear hm1 hc1 hv2 u1
                    have HB2 := Lib.hid u2
                    clear u2
                    go_wp2_with fail
                    go_roundw
                    case rel => exact ⟨q + 1, by omega, by go_num, SX.out.symm, HB2.out⟩
                    case measure => simp [intOf] <;> omega
          · obtain rfl : k = N := by omega
            have hsx := scn_end (cs := ys) (k := k) (by rw [YL.out]; exact Nat.le_refl _) 0
            rw [SC.out] at hsx
            have SX := Lib.hid hsx
            clear hsx
            go_wp2_with fail
            go_ret
            exact ⟨reti SX.out.symm, hbw.trans (hb.mono hsz)⟩

    · obtain ⟨f, rfl⟩ : ∃ f : Nat, a = f := ⟨a.toNat, by omega⟩
      by_cases hb : (n : Int) < b
      · have h1 : ¬ (n : Int) ≤ f := by omega
        obtain ⟨A2, c2, CH⟩ := cut_lh TIb A n c f n (by omega) (by omega) hnc f n rfl rfl
        have FI := Lib.hid (firstOf_in (cs := xs) (a := f) (b := b) (f := f) (t := n) (by omega) (by rw [HLEN.out]; omega) (by omega))
        obtain ⟨N, hN⟩ : ∃ N, n - f = N := ⟨_, rfl⟩
        rw [hN] at CH
        have hNn : N ≤ n := by omega
        obtain ⟨ys, hys⟩ : ∃ ys, (xs.take n).drop f = ys := ⟨_, rfl⟩
        rw [hys] at FI
        have YI := Lib.hid (CH.at_ HX.out)
        rw [hys] at YI
        have YL := Lib.hid YI.out.len
        have rc := CH.run
        rw [FI.out]
        have PM := Lib.hid (pMatch_any A2 N c2 ys w YI.out (by omega))
        clear hys CH hN hout
        go_enter Tryd.func19, Tryd.ntmps19
        go_wp2_with fail
        refine PM.out.mono ?_
        rintro e w2 ⟨A3, c3, rfl, om, hbw⟩
        have OM := Lib.hid om
        have hsz := hbw.size
        have hle2 : w.heap.size ≤ w2.heap.size := hbw.size
        have YI2 := Lib.hid (YI.out.below hbw)
        clear om rc
        go_wp2_with fail
        go_loopw [9] (fun i wr => ∃ k : Nat, k ≤ N ∧ i = .int .i64 k ∧ scn (ys.drop k) 0 = scn ys 0 ∧ Below w2.heap.size w2 wr) (fun i _ => N - (intOf i).toNat)
        case atStart => exact ⟨0, Nat.zero_le _, rfl, rfl, Below.refl _ _⟩
        case round =>
          obtain ⟨k, hk, rfl, hsc, hb⟩ := hrel
          have SC := Lib.hid hsc
          clear hsc
          by_cases hlt : k < N
          · have hkl : k < ys.length := by rw [YL.out]; exact hlt
            obtain ⟨ad, rfl, hab, hcx⟩ := (YI2.out.below (hb.mono hle2)).2 (by omega)
            have hc := hcx k hlt
            clear hcx
            obtain ⟨g3, rfl, hg3, hg4⟩ := OwnV.form OM.out (by omega)
            have hm := (hb.cell (p := ⟨g3, k, none⟩) hg4).trans (own_cell OM.out hlt)
            obtain ⟨x, hx⟩ : ∃ x, nth ys k = x := ⟨_, rfl⟩
            have XK := Lib.hid hx
            obtain ⟨mm, hmm⟩ : ∃ mm, nth (matches_ ys) k = mm := ⟨_, rfl⟩
            have MK := Lib.hid hmm
            rw [hx] at hc
            rw [hmm] at hm
            have PO := Lib.hid (popens_any x)
            have HB := Lib.hid hb
            clear hx hmm
            by_cases hst : strB x = true
            · have hsx := scn_str hkl (by rw [XK.out]; exact hst)
              rw [SC.out, XK.out] at hsx
              have SX := Lib.hid hsx
              clear hsx
              rcases strB_cases hst with rfl | rfl | rfl
              all_goals
                clear hst
                go_wp2_with fail
                go_ret
                exact ⟨reti SX.out.symm, hbw.trans (HB.out.mono hsz)⟩
            · by_cases h11 : x = 11
              · subst h11
                have hsx := scn_B hkl XK.out 0
                rw [SC.out] at hsx
                have SX := Lib.hid hsx
                clear hsx hst
                go_wp2_with fail
                go_ret
                exact ⟨reti SX.out.symm, hbw.trans (HB.out.mono hsz)⟩
              · have n1 : ((x : Int) == 1) = false := by simp [strB] at hst; simp; omega
                have n2 : ((x : Int) == 2) = false := by simp [strB] at hst; simp; omega
                have n3 : ((x : Int) == 3) = false := by simp [strB] at hst; simp; omega
                have n11 : ((x : Int) == 11) = false := by simpa using h11
                cases hop : opnB x
                · rw [hop] at PO
                  have hsx : scn (ys.drop k) 0 = scn (ys.drop (k + 1)) 0 := scn_else0 hkl (by rw [XK.out]; exact hop) (by rw [XK.out]; exact h11) (by rw [XK.out]; simpa using hst)
                  rw [SC.out] at hsx
                  have SX := Lib.hid hsx
                  clear hsx hst h11 hop
                  go_wp2_with fail
                  refine (PO.out _).mono ?_
                  rintro e v1 ⟨rfl, hv1⟩
                  have u1 := HB.out.trans (hv1.mono HB.out.size)
                  have hm1 := cell_pass hm hv1
                  have hc1 := cell_pass hc hv1
                  clear hm hc hv1
                  go_wp2_with fail
                  refine (PO.out _).mono ?_
                  rintro e v2 ⟨rfl, hv2⟩
                  have u2 := u1.trans (hv2.mono u1.size)
                  have hm2 := cell_pass hm1 hv2
                  have hc2 := cell_pass hc1 hv2
                  clear hm1 hc1 hv2 u1
                  have HB2 := Lib.hid u2
                  clear u2
                  go_wp2_with fail
                  go_roundw
                  case rel => exact ⟨k + 1, by omega, by go_num, SX.out.symm, HB2.out⟩
                  case measure => simp [intOf] <;> omega
                · rw [hop] at PO
                  have hsx := scn_open hkl (by rw [XK.out]; exact hop) 0
                  rw [SC.out] at hsx
                  have HO := matches_open hkl (by rw [XK.out]; exact hop)
                  rw [MK.out] at HO
                  rcases HO with ⟨h1, h2⟩ | ⟨q, h1, h2, h3, _, h4⟩
                  · have SX := Lib.hid (hsx.trans (h2 0))
                    subst h1
                    clear hsx h2 hst h11 hop
                    go_wp2_with fail
                    refine (PO.out _).mono ?_
                    rintro e v1 ⟨rfl, hv1⟩
                    have u1 := HB.out.trans (hv1.mono HB.out.size)
                    have hm1 := cell_pass hm hv1
                    have hc1 := cell_pass hc hv1
                    clear hm hc hv1
                    have HB2 := Lib.hid u1
                    clear u1
                    go_wp2_with fail
                    go_ret
                    exact ⟨reti SX.out.symm, hbw.trans (HB2.out.mono hsz)⟩
                  · have SX := Lib.hid (hsx.trans (h4 0))
                    subst h3
                    have nq : (((q : Nat) : Int) == -1) = false := by simp <;> omega
                    have hq : q < N := by rw [← YL.out]; exact h2
                    clear hsx h4 hst h11 hop h2
                    go_wp2_with fail
                    refine (PO.out _).mono ?_
                    rintro e v1 ⟨rfl, hv1⟩
                    have u1 := HB.out.trans (hv1.mono HB.out.size)
                    have hm1 := cell_pass hm hv1
                    have hc1 := cell_pass hc hv1
                    clear hm hc hv1
                    go_wp2_with fail
                    refine (PO.out _).mono ?_
                    rintro e v2 ⟨rfl, hv2⟩
                    have u2 := u1.trans (hv2.mono u1.size)
                    have hm2 := cell_pass hm1 hv2
                    have hc2 := cell_pass hc1 hv2
                    clear hm1 hc1 hv2 u1
                    have HB2 := Lib.hid u2
                    clear u2
                    go_wp2_with fail
                    go_roundw
                    case rel => exact ⟨q + 1, by omega, by go_num, SX.out.symm, HB2.out⟩
                    case measure => simp [intOf] <;> omega
          · obtain rfl : k = N := by omega
            have hsx := scn_end (cs := ys) (k := k) (by rw [YL.out]; exact Nat.le_refl _) 0
            rw [SC.out] at hsx
            have SX := Lib.hid hsx
            clear hsx
            go_wp2_with fail
            go_ret
            exact ⟨reti SX.out.symm, hbw.trans (hb.mono hsz)⟩

      · obtain ⟨t, rfl⟩ : ∃ t : Nat, b = t := ⟨b.toNat, by omega⟩
        have h1 : ¬ (t : Int) ≤ (f : Int) := by omega
        obtain ⟨A2, c2, CH⟩ := cut_lh TIb A n c f t (by omega) (by omega) hnc f t rfl rfl
        have FI := Lib.hid (firstOf_in (cs := xs) (a := f) (b := t) (f := f) (t := t) (by omega) (by rw [HLEN.out]; omega) (by omega))
        obtain ⟨N, hN⟩ : ∃ N, t - f = N := ⟨_, rfl⟩
        rw [hN] at CH
        have hNn : N ≤ n := by omega
        obtain ⟨ys, hys⟩ : ∃ ys, (xs.take t).drop f = ys := ⟨_, rfl⟩
        rw [hys] at FI
        have YI := Lib.hid (CH.at_ HX.out)
        rw [hys] at YI
        have YL := Lib.hid YI.out.len
        have rc := CH.run
        rw [FI.out]
        have PM := Lib.hid (pMatch_any A2 N c2 ys w YI.out (by omega))
        clear hys CH hN hout
        go_enter Tryd.func19, Tryd.ntmps19
        go_wp2_with fail
        refine PM.out.mono ?_
        rintro e w2 ⟨A3, c3, rfl, om, hbw⟩
        have OM := Lib.hid om
        have hsz := hbw.size
        have hle2 : w.heap.size ≤ w2.heap.size := hbw.size
        have YI2 := Lib.hid (YI.out.below hbw)
        clear om rc
        go_wp2_with fail
        go_loopw [9] (fun i wr => ∃ k : Nat, k ≤ N ∧ i = .int .i64 k ∧ scn (ys.drop k) 0 = scn ys 0 ∧ Below w2.heap.size w2 wr) (fun i _ => N - (intOf i).toNat)
        case atStart => exact ⟨0, Nat.zero_le _, rfl, rfl, Below.refl _ _⟩
        case round =>
          obtain ⟨k, hk, rfl, hsc, hb⟩ := hrel
          have SC := Lib.hid hsc
          clear hsc
          by_cases hlt : k < N
          · have hkl : k < ys.length := by rw [YL.out]; exact hlt
            obtain ⟨ad, rfl, hab, hcx⟩ := (YI2.out.below (hb.mono hle2)).2 (by omega)
            have hc := hcx k hlt
            clear hcx
            obtain ⟨g3, rfl, hg3, hg4⟩ := OwnV.form OM.out (by omega)
            have hm := (hb.cell (p := ⟨g3, k, none⟩) hg4).trans (own_cell OM.out hlt)
            obtain ⟨x, hx⟩ : ∃ x, nth ys k = x := ⟨_, rfl⟩
            have XK := Lib.hid hx
            obtain ⟨mm, hmm⟩ : ∃ mm, nth (matches_ ys) k = mm := ⟨_, rfl⟩
            have MK := Lib.hid hmm
            rw [hx] at hc
            rw [hmm] at hm
            have PO := Lib.hid (popens_any x)
            have HB := Lib.hid hb
            clear hx hmm
            by_cases hst : strB x = true
            · have hsx := scn_str hkl (by rw [XK.out]; exact hst)
              rw [SC.out, XK.out] at hsx
              have SX := Lib.hid hsx
              clear hsx
              rcases strB_cases hst with rfl | rfl | rfl
              all_goals
                clear hst
                go_wp2_with fail
                go_ret
                exact ⟨reti SX.out.symm, hbw.trans (HB.out.mono hsz)⟩
            · by_cases h11 : x = 11
              · subst h11
                have hsx := scn_B hkl XK.out 0
                rw [SC.out] at hsx
                have SX := Lib.hid hsx
                clear hsx hst
                go_wp2_with fail
                go_ret
                exact ⟨reti SX.out.symm, hbw.trans (HB.out.mono hsz)⟩
              · have n1 : ((x : Int) == 1) = false := by simp [strB] at hst; simp; omega
                have n2 : ((x : Int) == 2) = false := by simp [strB] at hst; simp; omega
                have n3 : ((x : Int) == 3) = false := by simp [strB] at hst; simp; omega
                have n11 : ((x : Int) == 11) = false := by simpa using h11
                cases hop : opnB x
                · rw [hop] at PO
                  have hsx : scn (ys.drop k) 0 = scn (ys.drop (k + 1)) 0 := scn_else0 hkl (by rw [XK.out]; exact hop) (by rw [XK.out]; exact h11) (by rw [XK.out]; simpa using hst)
                  rw [SC.out] at hsx
                  have SX := Lib.hid hsx
                  clear hsx hst h11 hop
                  go_wp2_with fail
                  refine (PO.out _).mono ?_
                  rintro e v1 ⟨rfl, hv1⟩
                  have u1 := HB.out.trans (hv1.mono HB.out.size)
                  have hm1 := cell_pass hm hv1
                  have hc1 := cell_pass hc hv1
                  clear hm hc hv1
                  go_wp2_with fail
                  refine (PO.out _).mono ?_
                  rintro e v2 ⟨rfl, hv2⟩
                  have u2 := u1.trans (hv2.mono u1.size)
                  have hm2 := cell_pass hm1 hv2
                  have hc2 := cell_pass hc1 hv2
                  clear hm1 hc1 hv2 u1
                  have HB2 := Lib.hid u2
                  clear u2
                  go_wp2_with fail
                  go_roundw
                  case rel => exact ⟨k + 1, by omega, by go_num, SX.out.symm, HB2.out⟩
                  case measure => simp [intOf] <;> omega
                · rw [hop] at PO
                  have hsx := scn_open hkl (by rw [XK.out]; exact hop) 0
                  rw [SC.out] at hsx
                  have HO := matches_open hkl (by rw [XK.out]; exact hop)
                  rw [MK.out] at HO
                  rcases HO with ⟨h1, h2⟩ | ⟨q, h1, h2, h3, _, h4⟩
                  · have SX := Lib.hid (hsx.trans (h2 0))
                    subst h1
                    clear hsx h2 hst h11 hop
                    go_wp2_with fail
                    refine (PO.out _).mono ?_
                    rintro e v1 ⟨rfl, hv1⟩
                    have u1 := HB.out.trans (hv1.mono HB.out.size)
                    have hm1 := cell_pass hm hv1
                    have hc1 := cell_pass hc hv1
                    clear hm hc hv1
                    have HB2 := Lib.hid u1
                    clear u1
                    go_wp2_with fail
                    go_ret
                    exact ⟨reti SX.out.symm, hbw.trans (HB2.out.mono hsz)⟩
                  · have SX := Lib.hid (hsx.trans (h4 0))
                    subst h3
                    have nq : (((q : Nat) : Int) == -1) = false := by simp <;> omega
                    have hq : q < N := by rw [← YL.out]; exact h2
                    clear hsx h4 hst h11 hop h2
                    go_wp2_with fail
                    refine (PO.out _).mono ?_
                    rintro e v1 ⟨rfl, hv1⟩
                    have u1 := HB.out.trans (hv1.mono HB.out.size)
                    have hm1 := cell_pass hm hv1
                    have hc1 := cell_pass hc hv1
                    clear hm hc hv1
                    go_wp2_with fail
                    refine (PO.out _).mono ?_
                    rintro e v2 ⟨rfl, hv2⟩
                    have u2 := u1.trans (hv2.mono u1.size)
                    have hm2 := cell_pass hm1 hv2
                    have hc2 := cell_pass hc1 hv2
                    clear hm1 hc1 hv2 u1
                    have HB2 := Lib.hid u2
                    clear u2
                    go_wp2_with fail
                    go_roundw
                    case rel => exact ⟨q + 1, by omega, by go_num, SX.out.symm, HB2.out⟩
                    case measure => simp [intOf] <;> omega
          · obtain rfl : k = N := by omega
            have hsx := scn_end (cs := ys) (k := k) (by rw [YL.out]; exact Nat.le_refl _) 0
            rw [SC.out] at hsx
            have SX := Lib.hid hsx
            clear hsx
            go_wp2_with fail
            go_ret
            exact ⟨reti SX.out.symm, hbw.trans (hb.mono hsz)⟩


set_option maxHeartbeats 4000000 in
theorem rFirst_any (A : Option Addr) (n c : Nat) (xs : List Int) (a b : Int) (w : World) (hx : IntsAt w w.heap.size .i64 A n xs) (hnc : n ≤ c) (hn : n * 8 ≤ 140737488355328) :
    Calls Tryd.prog 20 #[.slice A n c, .int .i64 a, .int .i64 b] w fun e w' => e = .returned (.int .i64 (firstOf xs a b)) ∧ Below w.heap.size w w' := by
  have HX := Lib.hid hx
  have HLEN := Lib.hid hx.len
  clear hx
  by_cases hout : min b n ≤ max a 0
  · have FO := Lib.hid (firstOf_out (cs := xs) (a := a) (b := b) (by rw [HLEN.out]; exact hout))
    by_cases ha : a < 0
    · by_cases hb : (n : Int) < b
      · have h1 : (n : Int) ≤ 0 := by omega
        clear hout
        go_enter Tryd.func20, Tryd.ntmps20
        go_wp2_with fail
        go_ret
        exact ⟨reti FO.out.symm, Below.refl _ _⟩
      · have h1 : b ≤ 0 := by omega
        clear hout
        go_enter Tryd.func20, Tryd.ntmps20
        go_wp2_with fail
        go_ret
        exact ⟨reti FO.out.symm, Below.refl _ _⟩
    · by_cases hb : (n : Int) < b
      · have h1 : (n : Int) ≤ a := by omega
        clear hout
        go_enter Tryd.func20, Tryd.ntmps20
        go_wp2_with fail
        go_ret
        exact ⟨reti FO.out.symm, Below.refl _ _⟩
      · have h1 : b ≤ a := by omega
        clear hout
        go_enter Tryd.func20, Tryd.ntmps20
        go_wp2_with fail
        go_ret
        exact ⟨reti FO.out.symm, Below.refl _ _⟩
  · have hin : max a 0 < min b n := by omega
    by_cases ha : a < 0
    · by_cases hb : (n : Int) < b
      · have h1 : ¬ (n : Int) ≤ 0 := by omega
        obtain ⟨A2, c2, CH⟩ := cut_lh TIb A n c 0 n (by omega) (by omega) hnc 0 n rfl rfl
        have FI := Lib.hid (firstOf_in (cs := xs) (a := a) (b := b) (f := 0) (t := n) (by omega) (by rw [HLEN.out]; omega) (by omega))
        obtain ⟨N, hN⟩ : ∃ N, n - 0 = N := ⟨_, rfl⟩
        rw [hN] at CH
        have hNn : N ≤ n := by omega
        obtain ⟨ys, hys⟩ : ∃ ys, (xs.take n).drop 0 = ys := ⟨_, rfl⟩
        rw [hys] at FI
        have YI := Lib.hid (CH.at_ HX.out)
        rw [hys] at YI
        have YL := Lib.hid YI.out.len
        have rc := CH.run
        rw [FI.out]
        have PM := Lib.hid (rMatch_any A2 N c2 ys w YI.out (by omega))
        clear hys CH hN hout
        go_enter Tryd.func20, Tryd.ntmps20
        go_wp2_with fail
        refine PM.out.mono ?_
        rintro e w2 ⟨A3, c3, rfl, om, hbw⟩
        have OM := Lib.hid om
        have hsz := hbw.size
        have hle2 : w.heap.size ≤ w2.heap.size := hbw.size
        have YI2 := Lib.hid (YI.out.below hbw)
        clear om rc
        go_wp2_with fail
        go_loopw [9] (fun i wr => ∃ k : Nat, k ≤ N ∧ i = .int .i64 k ∧ scn (ys.drop k) 0 = scn ys 0 ∧ Below w2.heap.size w2 wr) (fun i _ => N - (intOf i).toNat)
        case atStart => exact ⟨0, Nat.zero_le _, rfl, rfl, Below.refl _ _⟩
        case round =>
          obtain ⟨k, hk, rfl, hsc, hb⟩ := hrel
          have SC := Lib.hid hsc
          clear hsc
          by_cases hlt : k < N
          · have hkl : k < ys.length := by rw [YL.out]; exact hlt
            obtain ⟨ad, rfl, hab, hcx⟩ := (YI2.out.below (hb.mono hle2)).2 (by omega)
            have hc := hcx k hlt
            clear hcx
            obtain ⟨g3, rfl, hg3, hg4⟩ := OwnV.form OM.out (by omega)
            have hm := (hb.cell (p := ⟨g3, k, none⟩) hg4).trans (own_cell OM.out hlt)
            obtain ⟨x, hx⟩ : ∃ x, nth ys k = x := ⟨_, rfl⟩
            have XK := Lib.hid hx
            obtain ⟨mm, hmm⟩ : ∃ mm, nth (matches_ ys) k = mm := ⟨_, rfl⟩
            have MK := Lib.hid hmm
            rw [hx] at hc
            rw [hmm] at hm
            have PO := Lib.hid (ropens_any x)
            have HB := Lib.hid hb
            clear hx hmm
            by_cases hst : strB x = true
            · have hsx := scn_str hkl (by rw [XK.out]; exact hst)
              rw [SC.out, XK.out] at hsx
              have SX := Lib.hid hsx
              clear hsx
              rcases strB_cases hst with rfl | rfl | rfl
              all_goals
                clear hst
                go_wp2_with fail
                go_ret
                exact ⟨reti SX.out.symm, hbw.trans (HB.out.mono hsz)⟩
            · by_cases h11 : x = 11
              · subst h11
                have hsx := scn_B hkl XK.out 0
                rw [SC.out] at hsx
                have SX := Lib.hid hsx
                clear hsx hst
                go_wp2_with fail
                go_ret
                exact ⟨reti SX.out.symm, hbw.trans (HB.out.mono hsz)⟩
              · have n1 : ((x : Int) == 1) = false := by simp [strB] at hst; simp; omega
                have n2 : ((x : Int) == 2) = false := by simp [strB] at hst; simp; omega
                have n3 : ((x : Int) == 3) = false := by simp [strB] at hst; simp; omega
                have n11 : ((x : Int) == 11) = false := by simpa using h11
                cases hop : opnB x
                · rw [hop] at PO
                  have hsx : scn (ys.drop k) 0 = scn (ys.drop (k + 1)) 0 := scn_else0 hkl (by rw [XK.out]; exact hop) (by rw [XK.out]; exact h11) (by rw [XK.out]; simpa using hst)
                  rw [SC.out] at hsx
                  have SX := Lib.hid hsx
                  clear hsx hst h11 hop
                  go_wp2_with fail
                  refine (PO.out _).mono ?_
                  rintro e v1 ⟨rfl, hv1⟩
                  have u1 := HB.out.trans (hv1.mono HB.out.size)
                  have hm1 := cell_pass hm hv1
                  have hc1 := cell_pass hc hv1
                  clear hm hc hv1
                  go_wp2_with fail
                  refine (PO.out _).mono ?_
                  rintro e v2 ⟨rfl, hv2⟩
                  have u2 := u1.trans (hv2.mono u1.size)
                  have hm2 := cell_pass hm1 hv2
                  have hc2 := cell_pass hc1 hv2
                  clear hm1 hc1 hv2 u1
                  have HB2 := Lib.hid u2
                  clear u2
                  go_wp2_with fail
                  go_roundw
                  case rel => exact ⟨k + 1, by omega, by go_num, SX.out.symm, HB2.out⟩
                  case measure => simp [intOf] <;> omega
                · rw [hop] at PO
                  have hsx := scn_open hkl (by rw [XK.out]; exact hop) 0
                  rw [SC.out] at hsx
                  have HO := matches_open hkl (by rw [XK.out]; exact hop)
                  rw [MK.out] at HO
                  rcases HO with ⟨h1, h2⟩ | ⟨q, h1, h2, h3, _, h4⟩
                  · have SX := Lib.hid (hsx.trans (h2 0))
                    subst h1
                    clear hsx h2 hst h11 hop
                    go_wp2_with fail
                    refine (PO.out _).mono ?_
                    rintro e v1 ⟨rfl, hv1⟩
                    have u1 := HB.out.trans (hv1.mono HB.out.size)
                    have hm1 := cell_pass hm hv1
                    have hc1 := cell_pass hc hv1
                    clear hm hc hv1
                    have HB2 := Lib.hid u1
                    clear u1
                    go_wp2_with fail
                    go_ret
                    exact ⟨reti SX.out.symm, hbw.trans (HB2.out.mono hsz)⟩
                  · have SX := Lib.hid (hsx.trans (h4 0))
                    subst h3
                    have nq : (((q : Nat) : Int) == -1) = false := by simp <;> omega
                    have hq : q < N := by rw [← YL.out]; exact h2
                    clear hsx h4 hst h11 hop h2
                    go_wp2_with fail
                    refine (PO.out _).mono ?_
                    rintro e v1 ⟨rfl, hv1⟩
                    have u1 := HB.out.trans (hv1.mono HB.out.size)
                    have hm1 := cell_pass hm hv1
                    have hc1 := cell_pass hc hv1
                    clear hm hc hv1
                    go_wp2_with fail
                    refine (PO.out _).mono ?_
                    rintro e v2 ⟨rfl, hv2⟩
                    have u2 := u1.trans (hv2.mono u1.size)
                    have hm2 := cell_pass hm1 hv2
                    have hc2 := cell_pass hc1 hv2
                    clear hm1 hc1 hv2 u1
                    have HB2 := Lib.hid u2
                    clear u2
                    go_wp2_with fail
                    go_roundw
                    case rel => exact ⟨q + 1, by omega, by go_num, SX.out.symm, HB2.out⟩
                    case measure => simp [intOf] <;> omega
          · obtain rfl : k = N := by omega
            have hsx := scn_end (cs := ys) (k := k) (by rw [YL.out]; exact Nat.le_refl _) 0
            rw [SC.out] at hsx
            have SX := Lib.hid hsx
            clear hsx
            go_wp2_with fail
            go_ret
            exact ⟨reti SX.out.symm, hbw.trans (hb.mono hsz)⟩

      · obtain ⟨t, rfl⟩ : ∃ t : Nat, b = t := ⟨b.toNat, by omega⟩
        have h1 : ¬ (t : Int) ≤ 0 := by omega
        obtain ⟨A2, c2, CH⟩ := cut_lh TIb A n c 0 t (by omega) (by omega) hnc 0 t rfl rfl
        have FI := Lib.hid (firstOf_in (cs := xs) (a := a) (b := t) (f := 0) (t := t) (by omega) (by rw [HLEN.out]; omega) (by omega))
        obtain ⟨N, hN⟩ : ∃ N, t - 0 = N := ⟨_, rfl⟩
        rw [hN] at CH
        have hNn : N ≤ n := by omega
        obtain ⟨ys, hys⟩ : ∃ ys, (xs.take t).drop 0 = ys := ⟨_, rfl⟩
        rw [hys] at FI
        have YI := Lib.hid (CH.at_ HX.out)
        rw [hys] at YI
        have YL := Lib.hid YI.out.len
        have rc := CH.run
        rw [FI.out]
        have PM := Lib.hid (rMatch_any A2 N c2 ys w YI.out (by omega))
        clear hys CH hN hout
        go_enter Tryd.func20, Tryd.ntmps20
        go_wp2_with fail
        refine PM.out.mono ?_
        rintro e w2 ⟨A3, c3, rfl, om, hbw⟩
        have OM := Lib.hid om
        have hsz := hbw.size
        have hle2 : w.heap.size ≤ w2.heap.size := hbw.size
        have YI2 := Lib.hid (YI.out.below hbw)
        clear om rc
        go_wp2_with fail
        go_loopw [9] (fun i wr => ∃ k : Nat, k ≤ N ∧ i = .int .i64 k ∧ scn (ys.drop k) 0 = scn ys 0 ∧ Below w2.heap.size w2 wr) (fun i _ => N - (intOf i).toNat)
        case atStart => exact ⟨0, Nat.zero_le _, rfl, rfl, Below.refl _ _⟩
        case round =>
          obtain ⟨k, hk, rfl, hsc, hb⟩ := hrel
          have SC := Lib.hid hsc
          clear hsc
          by_cases hlt : k < N
          · have hkl : k < ys.length := by rw [YL.out]; exact hlt
            obtain ⟨ad, rfl, hab, hcx⟩ := (YI2.out.below (hb.mono hle2)).2 (by omega)
            have hc := hcx k hlt
            clear hcx
            obtain ⟨g3, rfl, hg3, hg4⟩ := OwnV.form OM.out (by omega)
            have hm := (hb.cell (p := ⟨g3, k, none⟩) hg4).trans (own_cell OM.out hlt)
            obtain ⟨x, hx⟩ : ∃ x, nth ys k = x := ⟨_, rfl⟩
            have XK := Lib.hid hx
            obtain ⟨mm, hmm⟩ : ∃ mm, nth (matches_ ys) k = mm := ⟨_, rfl⟩
            have MK := Lib.hid hmm
            rw [hx] at hc
            rw [hmm] at hm
            have PO := Lib.hid (ropens_any x)
            have HB := Lib.hid hb
            clear hx hmm
            by_cases hst : strB x = true
            · have hsx := scn_str hkl (by rw [XK.out]; exact hst)
              rw [SC.out, XK.out] at hsx
              have SX := Lib.hid hsx
              clear hsx
              rcases strB_cases hst with rfl | rfl | rfl
              all_goals
                clear hst
                go_wp2_with fail
                go_ret
                exact ⟨reti SX.out.symm, hbw.trans (HB.out.mono hsz)⟩
            · by_cases h11 : x = 11
              · subst h11
                have hsx := scn_B hkl XK.out 0
                rw [SC.out] at hsx
                have SX := Lib.hid hsx
                clear hsx hst
                go_wp2_with fail
                go_ret
                exact ⟨reti SX.out.symm, hbw.trans (HB.out.mono hsz)⟩
              · have n1 : ((x : Int) == 1) = false := by simp [strB] at hst; simp; omega
                have n2 : ((x : Int) == 2) = false := by simp [strB] at hst; simp; omega
                have n3 : ((x : Int) == 3) = false := by simp [strB] at hst; simp; omega
                have n11 : ((x : Int) == 11) = false := by simpa using h11
                cases hop : opnB x
                · rw [hop] at PO
                  have hsx : scn (ys.drop k) 0 = scn (ys.drop (k + 1)) 0 := scn_else0 hkl (by rw [XK.out]; exact hop) (by rw [XK.out]; exact h11) (by rw [XK.out]; simpa using hst)
                  rw [SC.out] at hsx
                  have SX := Lib.hid hsx
                  clear hsx hst h11 hop
                  go_wp2_with fail
                  refine (PO.out _).mono ?_
                  rintro e v1 ⟨rfl, hv1⟩
                  have u1 := HB.out.trans (hv1.mono HB.out.size)
                  have hm1 := cell_pass hm hv1
                  have hc1 := cell_pass hc hv1
                  clear hm hc hv1
                  go_wp2_with fail
                  refine (PO.out _).mono ?_
                  rintro e v2 ⟨rfl, hv2⟩
                  have u2 := u1.trans (hv2.mono u1.size)
                  have hm2 := cell_pass hm1 hv2
                  have hc2 := cell_pass hc1 hv2
                  clear hm1 hc1 hv2 u1
                  have HB2 := Lib.hid u2
                  clear u2
                  go_wp2_with fail
                  go_roundw
                  case rel => exact ⟨k + 1, by omega, by go_num, SX.out.symm, HB2.out⟩
                  case measure => simp [intOf] <;> omega
                · rw [hop] at PO
                  have hsx := scn_open hkl (by rw [XK.out]; exact hop) 0
                  rw [SC.out] at hsx
                  have HO := matches_open hkl (by rw [XK.out]; exact hop)
                  rw [MK.out] at HO
                  rcases HO with ⟨h1, h2⟩ | ⟨q, h1, h2, h3, _, h4⟩
                  · have SX := Lib.hid (hsx.trans (h2 0))
                    subst h1
                    clear hsx h2 hst h11 hop
                    go_wp2_with fail
                    refine (PO.out _).mono ?_
                    rintro e v1 ⟨rfl, hv1⟩
                    have u1 := HB.out.trans (hv1.mono HB.out.size)
                    have hm1 := cell_pass hm hv1
                    have hc1 := cell_pass hc hv1
                    clear hm hc hv1
                    have HB2 := Lib.hid u1
                    clear u1
                    go_wp2_with fail
                    go_ret
                    exact ⟨reti SX.out.symm, hbw.trans (HB2.out.mono hsz)⟩
                  · have SX := Lib.hid (hsx.trans (h4 0))
                    subst h3
                    have nq : (((q : Nat) : Int) == -1) = false := by simp <;> omega
                    have hq : q < N := by rw [← YL.out]; exact h2
                    clear hsx h4 hst h11 hop h2
                    go_wp2_with fail
                    refine (PO.out _).mono ?_
                    rintro e v1 ⟨rfl, hv1⟩
                    have u1 := HB.out.trans (hv1.mono HB.out.size)
                    have hm1 := cell_pass hm hv1
                    have hc1 := cell_pass hc hv1
                    clear hm hc hv1
                    go_wp2_with fail
                    refine (PO.out _).mono ?_
                    rintro e v2 ⟨rfl, hv2⟩
                    have u2 := u1.trans (hv2.mono u1.size)
                    have hm2 := cell_pass hm1 hv2
                    have hc2 := cell_pass hc1 hv2
                    clear hm1 hc1 hv2 u1
                    have HB2 := Lib.hid u2
                    clear u2
                    go_wp2_with fail
                    go_roundw
                    case rel => exact ⟨q + 1, by omega, by go_num, SX.out.symm, HB2.out⟩
                    case measure => simp [intOf] <;> omega
          · obtain rfl : k = N := by omega
            have hsx := scn_end (cs := ys) (k := k) (by rw [YL.out]; exact Nat.le_refl _) 0
            rw [SC.out] at hsx
            have SX := Lib.hid hsx
            clear hsx
            go_wp2_with fail
            go_ret
            exact ⟨reti SX.out.symm, hbw.trans (hb.mono hsz)⟩

    · obtain ⟨f, rfl⟩ : ∃ f : Nat, a = f := ⟨a.toNat, by omega⟩
      by_cases hb : (n : Int) < b
      · have h1 : ¬ (n : Int) ≤ f := by omega
        obtain ⟨A2, c2, CH⟩ := cut_lh TIb A n c f n (by omega) (by omega) hnc f n rfl rfl
        have FI := Lib.hid (firstOf_in (cs := xs) (a := f) (b := b) (f := f) (t := n) (by omega) (by rw [HLEN.out]; omega) (by omega))
        obtain ⟨N, hN⟩ : ∃ N, n - f = N := ⟨_, rfl⟩
        rw [hN] at CH
        have hNn : N ≤ n := by omega
        obtain ⟨ys, hys⟩ : ∃ ys, (xs.take n).drop f = ys := ⟨_, rfl⟩
        rw [hys] at FI
        have YI := Lib.hid (CH.at_ HX.out)
        rw [hys] at YI
        have YL := Lib.hid YI.out.len
        have rc := CH.run
        rw [FI.out]
        have PM := Lib.hid (rMatch_any A2 N c2 ys w YI.out (by omega))
        clear hys CH hN hout
        go_enter Tryd.func20, Tryd.ntmps20
        go_wp2_with fail
        refine PM.out.mono ?_
        rintro e w2 ⟨A3, c3, rfl, om, hbw⟩
        have OM := Lib.hid om
        have hsz := hbw.size
        have hle2 : w.heap.size ≤ w2.heap.size := hbw.size
        have YI2 := Lib.hid (YI.out.below hbw)
        clear om rc
        go_wp2_with fail
        go_loopw [9] (fun i wr => ∃ k : Nat, k ≤ N ∧ i = .int .i64 k ∧ scn (ys.drop k) 0 = scn ys 0 ∧ Below w2.heap.size w2 wr) (fun i _ => N - (intOf i).toNat)
        case atStart => exact ⟨0, Nat.zero_le _, rfl, rfl, Below.refl _ _⟩
        case round =>
          obtain ⟨k, hk, rfl, hsc, hb⟩ := hrel
          have SC := Lib.hid hsc
          clear hsc
          by_cases hlt : k < N
          · have hkl : k < ys.length := by rw [YL.out]; exact hlt
            obtain ⟨ad, rfl, hab, hcx⟩ := (YI2.out.below (hb.mono hle2)).2 (by omega)
            have hc := hcx k hlt
            clear hcx
            obtain ⟨g3, rfl, hg3, hg4⟩ := OwnV.form OM.out (by omega)
            have hm := (hb.cell (p := ⟨g3, k, none⟩) hg4).trans (own_cell OM.out hlt)
            obtain ⟨x, hx⟩ : ∃ x, nth ys k = x := ⟨_, rfl⟩
            have XK := Lib.hid hx
            obtain ⟨mm, hmm⟩ : ∃ mm, nth (matches_ ys) k = mm := ⟨_, rfl⟩
            have MK := Lib.hid hmm
            rw [hx] at hc
            rw [hmm] at hm
            have PO := Lib.hid (ropens_any x)
            have HB := Lib.hid hb
            clear hx hmm
            by_cases hst : strB x = true
            · have hsx := scn_str hkl (by rw [XK.out]; exact hst)
              rw [SC.out, XK.out] at hsx
              have SX := Lib.hid hsx
              clear hsx
              rcases strB_cases hst with rfl | rfl | rfl
              all_goals
                clear hst
                go_wp2_with fail
                go_ret
                exact ⟨reti SX.out.symm, hbw.trans (HB.out.mono hsz)⟩
            · by_cases h11 : x = 11
              · subst h11
                have hsx := scn_B hkl XK.out 0
                rw [SC.out] at hsx
                have SX := Lib.hid hsx
                clear hsx hst
                go_wp2_with fail
                go_ret
                exact ⟨reti SX.out.symm, hbw.trans (HB.out.mono hsz)⟩
              · have n1 : ((x : Int) == 1) = false := by simp [strB] at hst; simp; omega
                have n2 : ((x : Int) == 2) = false := by simp [strB] at hst; simp; omega
                have n3 : ((x : Int) == 3) = false := by simp [strB] at hst; simp; omega
                have n11 : ((x : Int) == 11) = false := by simpa using h11
                cases hop : opnB x
                · rw [hop] at PO
                  have hsx : scn (ys.drop k) 0 = scn (ys.drop (k + 1)) 0 := scn_else0 hkl (by rw [XK.out]; exact hop) (by rw [XK.out]; exact h11) (by rw [XK.out]; simpa using hst)
                  rw [SC.out] at hsx
                  have SX := Lib.hid hsx
                  clear hsx hst h11 hop
                  go_wp2_with fail
                  refine (PO.out _).mono ?_
                  rintro e v1 ⟨rfl, hv1⟩
                  have u1 := HB.out.trans (hv1.mono HB.out.size)
                  have hm1 := cell_pass hm hv1
                  have hc1 := cell_pass hc hv1
                  clear hm hc hv1
                  go_wp2_with fail
                  refine (PO.out _).mono ?_
                  rintro e v2 ⟨rfl, hv2⟩
                  have u2 := u1.trans (hv2.mono u1.size)
                  have hm2 := cell_pass hm1 hv2
                  have hc2 := cell_pass hc1 hv2
                  clear hm1 hc1 hv2 u1
                  have HB2 := Lib.hid u2
                  clear u2
                  go_wp2_with fail
                  go_roundw
                  case rel => exact ⟨k + 1, by omega, by go_num, SX.out.symm, HB2.out⟩
                  case measure => simp [intOf] <;> omega
                · rw [hop] at PO
                  have hsx := scn_open hkl (by rw [XK.out]; exact hop) 0
                  rw [SC.out] at hsx
                  have HO := matches_open hkl (by rw [XK.out]; exact hop)
                  rw [MK.out] at HO
                  rcases HO with ⟨h1, h2⟩ | ⟨q, h1, h2, h3, _, h4⟩
                  · have SX := Lib.hid (hsx.trans (h2 0))
                    subst h1
                    clear hsx h2 hst h11 hop
                    go_wp2_with fail
                    refine (PO.out _).mono ?_
                    rintro e v1 ⟨rfl, hv1⟩
                    have u1 := HB.out.trans (hv1.mono HB.out.size)
                    have hm1 := cell_pass hm hv1
                    have hc1 := cell_pass hc hv1
                    clear hm hc hv1
                    have HB2 := Lib.hid u1
                    clear u1
                    go_wp2_with fail
                    go_ret
                    exact ⟨reti SX.out.symm, hbw.trans (HB2.out.mono hsz)⟩
                  · have SX := Lib.hid (hsx.trans (h4 0))
                    subst h3
                    have nq : (((q : Nat) : Int) == -1) = false := by simp <;> omega
                    have hq : q < N := by rw [← YL.out]; exact h2
                    clear hsx h4 hst h11 hop h2
                    go_wp2_with fail
                    refine (PO.out _).mono ?_
                    rintro e v1 ⟨rfl, hv1⟩
                    have u1 := HB.out.trans (hv1.mono HB.out.size)
                    have hm1 := cell_pass hm hv1
                    have hc1 := cell_pass hc hv1
                    clear hm hc hv1
                    go_wp2_with fail
                    refine (PO.out _).mono ?_
                    rintro e v2 ⟨rfl, hv2⟩
                    have u2 := u1.trans (hv2.mono u1.size)
                    have hm2 := cell_pass hm1 hv2
                    have hc2 := cell_pass hc1 hv2
                    clear hm1 hc1 hv2 u1
                    have HB2 := Lib.hid u2
                    clear u2
                    go_wp2_with fail
                    go_roundw
                    case rel => exact ⟨q + 1, by omega, by go_num, SX.out.symm, HB2.out⟩
                    case measure => simp [intOf] <;> omega
          · obtain rfl : k = N := by omega
            have hsx := scn_end (cs := ys) (k := k) (by rw [YL.out]; exact Nat.le_refl _) 0
            rw [SC.out] at hsx
            have SX := Lib.hid hsx
            clear hsx
            go_wp2_with fail
            go_ret
            exact ⟨reti SX.out.symm, hbw.trans (hb.mono hsz)⟩

      · obtain ⟨t, rfl⟩ : ∃ t : Nat, b = t := ⟨b.toNat, by omega⟩
        have h1 : ¬ (t : Int) ≤ (f : Int) := by omega
        obtain ⟨A2, c2, CH⟩ := cut_lh TIb A n c f t (by omega) (by omega) hnc f t rfl rfl
        have FI := Lib.hid (firstOf_in (cs := xs) (a := f) (b := t) (f := f) (t := t) (by omega) (by rw [HLEN.out]; omega) (by omega))
        obtain ⟨N, hN⟩ : ∃ N, t - f = N := ⟨_, rfl⟩
        rw [hN] at CH
        have hNn : N ≤ n := by omega
        obtain ⟨ys, hys⟩ : ∃ ys, (xs.take t).drop f = ys := ⟨_, rfl⟩
        rw [hys] at FI
        have YI := Lib.hid (CH.at_ HX.out)
        rw [hys] at YI
        have YL := Lib.hid YI.out.len
        have rc := CH.run
        rw [FI.out]
        have PM := Lib.hid (rMatch_any A2 N c2 ys w YI.out (by omega))
        clear hys CH hN hout
        go_enter Tryd.func20, Tryd.ntmps20
        go_wp2_with fail
        refine PM.out.mono ?_
        rintro e w2 ⟨A3, c3, rfl, om, hbw⟩
        have OM := Lib.hid om
        have hsz := hbw.size
        have hle2 : w.heap.size ≤ w2.heap.size := hbw.size
        have YI2 := Lib.hid (YI.out.below hbw)
        clear om rc
        go_wp2_with fail
        go_loopw [9] (fun i wr => ∃ k : Nat, k ≤ N ∧ i = .int .i64 k ∧ scn (ys.drop k) 0 = scn ys 0 ∧ Below w2.heap.size w2 wr) (fun i _ => N - (intOf i).toNat)
        case atStart => exact ⟨0, Nat.zero_le _, rfl, rfl, Below.refl _ _⟩
        case round =>
          obtain ⟨k, hk, rfl, hsc, hb⟩ := hrel
          have SC := Lib.hid hsc
          clear hsc
          by_cases hlt : k < N
          · have hkl : k < ys.length := by rw [YL.out]; exact hlt
            obtain ⟨ad, rfl, hab, hcx⟩ := (YI2.out.below (hb.mono hle2)).2 (by omega)
            have hc := hcx k hlt
            clear hcx
            obtain ⟨g3, rfl, hg3, hg4⟩ := OwnV.form OM.out (by omega)
            have hm := (hb.cell (p := ⟨g3, k, none⟩) hg4).trans (own_cell OM.out hlt)
            obtain ⟨x, hx⟩ : ∃ x, nth ys k = x := ⟨_, rfl⟩
            have XK := Lib.hid hx
            obtain ⟨mm, hmm⟩ : ∃ mm, nth (matches_ ys) k = mm := ⟨_, rfl⟩
            have MK := Lib.hid hmm
            rw [hx] at hc
            rw [hmm] at hm
            have PO := Lib.hid (ropens_any x)
            have HB := Lib.hid hb
            clear hx hmm
            by_cases hst : strB x = true
            · have hsx := scn_str hkl (by rw [XK.out]; exact hst)
              rw [SC.out, XK.out] at hsx
              have SX := Lib.hid hsx
              clear hsx
              rcases strB_cases hst with rfl | rfl | rfl
              all_goals
                clear hst
                go_wp2_with fail
                go_ret
                exact ⟨reti SX.out.symm, hbw.trans (HB.out.mono hsz)⟩
            · by_cases h11 : x = 11
              · subst h11
                have hsx := scn_B hkl XK.out 0
                rw [SC.out] at hsx
                have SX := Lib.hid hsx
                clear hsx hst
                go_wp2_with fail
                go_ret
                exact ⟨reti SX.out.symm, hbw.trans (HB.out.mono hsz)⟩
              · have n1 : ((x : Int) == 1) = false := by simp [strB] at hst; simp; omega
                have n2 : ((x : Int) == 2) = false := by simp [strB] at hst; simp; omega
                have n3 : ((x : Int) == 3) = false := by simp [strB] at hst; simp; omega
                have n11 : ((x : Int) == 11) = false := by simpa using h11
                cases hop : opnB x
                · rw [hop] at PO
                  have hsx : scn (ys.drop k) 0 = scn (ys.drop (k + 1)) 0 := scn_else0 hkl (by rw [XK.out]; exact hop) (by rw [XK.out]; exact h11) (by rw [XK.out]; simpa using hst)
                  rw [SC.out] at hsx
                  have SX := Lib.hid hsx
                  clear hsx hst h11 hop
                  go_wp2_with fail
                  refine (PO.out _).mono ?_
                  rintro e v1 ⟨rfl, hv1⟩
                  have u1 := HB.out.trans (hv1.mono HB.out.size)
                  have hm1 := cell_pass hm hv1
                  have hc1 := cell_pass hc hv1
                  clear hm hc hv1
                  go_wp2_with fail
                  refine (PO.out _).mono ?_
                  rintro e v2 ⟨rfl, hv2⟩
                  have u2 := u1.trans (hv2.mono u1.size)
                  have hm2 := cell_pass hm1 hv2
                  have hc2 := cell_pass hc1 hv2
                  clear hm1 hc1 hv2 u1
                  have HB2 := Lib.hid u2
                  clear u2
                  go_wp2_with fail
                  go_roundw
                  case rel => exact ⟨k + 1, by omega, by go_num, SX.out.symm, HB2.out⟩
                  case measure => simp [intOf] <;> omega
                · rw [hop] at PO
                  have hsx := scn_open hkl (by rw [XK.out]; exact hop) 0
                  rw [SC.out] at hsx
                  have HO := matches_open hkl (by rw [XK.out]; exact hop)
                  rw [MK.out] at HO
                  rcases HO with ⟨h1, h2⟩ | ⟨q, h1, h2, h3, _, h4⟩
                  · have SX := Lib.hid (hsx.trans (h2 0))
                    subst h1
                    clear hsx h2 hst h11 hop
                    go_wp2_with fail
                    refine (PO.out _).mono ?_
                    rintro e v1 ⟨rfl, hv1⟩
                    have u1 := HB.out.trans (hv1.mono HB.out.size)
                    have hm1 := cell_pass hm hv1
                    have hc1 := cell_pass hc hv1
                    clear hm hc hv1
                    have HB2 := Lib.hid u1
                    clear u1
                    go_wp2_with fail
                    go_ret
                    exact ⟨reti SX.out.symm, hbw.trans (HB2.out.mono hsz)⟩
                  · have SX := Lib.hid (hsx.trans (h4 0))
                    subst h3
                    have nq : (((q : Nat) : Int) == -1) = false := by simp <;> omega
                    have hq : q < N := by rw [← YL.out]; exact h2
                    clear hsx h4 hst h11 hop h2
                    go_wp2_with fail
                    refine (PO.out _).mono ?_
                    rintro e v1 ⟨rfl, hv1⟩
                    have u1 := HB.out.trans (hv1.mono HB.out.size)
                    have hm1 := cell_pass hm hv1
                    have hc1 := cell_pass hc hv1
                    clear hm hc hv1
                    go_wp2_with fail
                    refine (PO.out _).mono ?_
                    rintro e v2 ⟨rfl, hv2⟩
                    have u2 := u1.trans (hv2.mono u1.size)
                    have hm2 := cell_pass hm1 hv2
                    have hc2 := cell_pass hc1 hv2
                    clear hm1 hc1 hv2 u1
                    have HB2 := Lib.hid u2
                    clear u2
                    go_wp2_with fail
                    go_roundw
                    case rel => exact ⟨q + 1, by omega, by go_num, SX.out.symm, HB2.out⟩
                    case measure => simp [intOf] <;> omega
          · obtain rfl : k = N := by omega
            have hsx := scn_end (cs := ys) (k := k) (by rw [YL.out]; exact Nat.le_refl _) 0
            rw [SC.out] at hsx
            have SX := Lib.hid hsx
            clear hsx
            go_wp2_with fail
            go_ret
            exact ⟨reti SX.out.symm, hbw.trans (hb.mono hsz)⟩


set_option maxHeartbeats 1000000 in
theorem pLevel_any (A : Option Addr) (n c : Nat) (xs : List Int) (w : World) (hx : IntsAt w w.heap.size .i64 A n xs) (hnc : n ≤ c) (hn : n * 8 ≤ 140737488355328) :
    Calls Tryd.prog 17 #[.slice A n c] w fun e w' => e = .returned (.tuple #[.int .i64 (levelOf (scn xs 0)), .bool (levelOk (scn xs 0))]) ∧ Below w.heap.size w w' := by
  have e1 := firstOf_all xs
  rw [hx.len] at e1
  have PF := Lib.hid (pFirst_any A n c xs 0 n w hx hnc hn)
  rw [e1] at PF
  clear hx e1
  generalize scn xs 0 = x at *
  by_cases h1 : x = 1
  · subst h1
    go_enter Tryd.func17, Tryd.ntmps17
    go_wp2_with fail
    refine PF.out.mono ?_
    rintro e w2 ⟨rfl, hb⟩
    go_wp2_with fail
    go_ret2
    exact ⟨rfl, hb⟩
  · by_cases h2 : x = 2
    · subst h2
      go_enter Tryd.func17, Tryd.ntmps17
      go_wp2_with fail
      refine PF.out.mono ?_
      rintro e w2 ⟨rfl, hb⟩
      go_wp2_with fail
      go_ret2
      exact ⟨rfl, hb⟩
    · by_cases h3 : x = 3
      · subst h3
        go_enter Tryd.func17, Tryd.ntmps17
        go_wp2_with fail
        refine PF.out.mono ?_
        rintro e w2 ⟨rfl, hb⟩
        go_wp2_with fail
        go_ret2
        exact ⟨rfl, hb⟩
      · have b1 : ((x : Int) == 1) = false := by simpa using h1
        have b2 : ((x : Int) == 2) = false := by simpa using h2
        have b3 : ((x : Int) == 3) = false := by simpa using h3
        have e1 : levelOf x = 0 := by unfold levelOf; rw [if_neg (by omega)]
        have e2 : levelOk x = false := by unfold levelOk; rw [b1, b2, b3]; rfl
        rw [e1, e2]
        clear h1 h2 h3 e1 e2
        go_enter Tryd.func17, Tryd.ntmps17
        go_wp2_with fail
        refine PF.out.mono ?_
        rintro e w2 ⟨rfl, hb⟩
        go_wp2_with fail
        go_ret2
        exact ⟨rfl, hb⟩

set_option maxHeartbeats 1000000 in
theorem rLevel_any (A : Option Addr) (n c : Nat) (xs : List Int) (w : World) (hx : IntsAt w w.heap.size .i64 A n xs) (hnc : n ≤ c) (hn : n * 8 ≤ 140737488355328) :
    Calls Tryd.prog 18 #[.slice A n c] w fun e w' => e = .returned (.tuple #[.int .i64 (levelOf (scn xs 0)), .bool (levelOk (scn xs 0))]) ∧ Below w.heap.size w w' := by
  have e1 := firstOf_all xs
  rw [hx.len] at e1
  have PF := Lib.hid (rFirst_any A n c xs 0 n w hx hnc hn)
  rw [e1] at PF
  clear hx e1
  generalize scn xs 0 = x at *
  by_cases h1 : x = 1
  · subst h1
    go_enter Tryd.func18, Tryd.ntmps18
    go_wp2_with fail
    refine PF.out.mono ?_
    rintro e w2 ⟨rfl, hb⟩
    go_wp2_with fail
    go_ret2
    exact ⟨rfl, hb⟩
  · by_cases h2 : x = 2
    · subst h2
      go_enter Tryd.func18, Tryd.ntmps18
      go_wp2_with fail
      refine PF.out.mono ?_
      rintro e w2 ⟨rfl, hb⟩
      go_wp2_with fail
      go_ret2
      exact ⟨rfl, hb⟩
    · by_cases h3 : x = 3
      · subst h3
        go_enter Tryd.func18, Tryd.ntmps18
        go_wp2_with fail
        refine PF.out.mono ?_
        rintro e w2 ⟨rfl, hb⟩
        go_wp2_with fail
        go_ret2
        exact ⟨rfl, hb⟩
      · have b1 : ((x : Int) == 1) = false := by simpa using h1
        have b2 : ((x : Int) == 2) = false := by simpa using h2
        have b3 : ((x : Int) == 3) = false := by simpa using h3
        have e1 : levelOf x = 0 := by unfold levelOf; rw [if_neg (by omega)]
        have e2 : levelOk x = false := by unfold levelOk; rw [b1, b2, b3]; rfl
        rw [e1, e2]
        clear h1 h2 h3 e1 e2
        go_enter Tryd.func18, Tryd.ntmps18
        go_wp2_with fail
        refine PF.out.mono ?_
        rintro e w2 ⟨rfl, hb⟩
        go_wp2_with fail
        go_ret2
        exact ⟨rfl, hb⟩
end Go.Proofs.YtanfcfppmpabpaaDoor
