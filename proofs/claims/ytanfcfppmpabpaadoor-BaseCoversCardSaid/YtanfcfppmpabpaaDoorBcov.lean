/- Chapter 10: the walk of BaseCovers. -/
import Derived.Test.YtanfcfppmpabpaaDoorBal
namespace Go.Proofs.YtanfcfppmpabpaaDoor
open Go.ChangeShapes Go.WideShapes Go.ChangeAt Go.RowKit
set_option maxRecDepth 100000
set_option linter.unusedSimpArgs false

theorem bidi10 : (propOf 10).bidi = 11 := by decide +kernel
/-- inside a paragraph class B stands at a CR ahead of the last LF alone -/
theorem inner_B {xs : List Int} {f t : Nat} (hin : ∀ i, f ≤ i → i + 1 < t → endB xs i = false) {j : Nat} (h1 : f ≤ j) (h2 : j + 1 < t) (h3 : bidiAt xs j = 11) : j + 2 = t ∧ nth xs j = 13 ∧ nth xs (j + 1) = 10 := by
  have h := hin j h1 h2
  unfold endB at h
  rw [h3] at h
  simp only [beq_self_eq_true, Bool.true_and, Bool.or_eq_false_iff, Bool.not_eq_false', decide_eq_false_iff_not] at h
  obtain ⟨h4, _⟩ := h
  unfold crlfB at h4
  simp only [Bool.and_eq_true, beq_iff_eq, decide_eq_true_eq] at h4
  obtain ⟨h5, h6, h7⟩ := h4
  refine ⟨?_, h5, h7⟩
  rcases Nat.lt_or_ge (j + 2) t with h8 | h8
  · have h9 := hin (j + 1) (by omega) (by omega)
    have hb : bidiAt xs (j + 1) = 11 := by unfold bidiAt; rw [h7]; exact bidi10
    have hc : crlfB xs (j + 1) = false := by unfold crlfB; rw [h7]; rfl
    unfold endB at h9
    rw [hb, hc] at h9
    simp at h9
  · omega
theorem last_B {xs : List Int} {t : Nat} (h0 : 0 < t) (h : endB xs (t - 1) = true) (hb : bidiAt xs (t - 1) ≠ 11) : t = xs.length := by
  unfold endB at h
  have e : (bidiAt xs (t - 1) == 11) = false := by simpa using hb
  rw [e] at h
  simp at h
  omega

set_option maxHeartbeats 4000000 in
theorem BaseCovers_walk (A : Option Addr) (n c : Nat) (xs : List Int) (w : World) (hx : SliceIn .i32 w A n c xs) (hl : Laid w) :
    Calls Tryd.prog 6 #[.slice A n c] w fun e w' => e = .returned (.bool true) ∧ Below w.heap.size w w' := by
  have HX := Lib.hid hx
  have HL := Lib.hid hl
  have HLEN := Lib.hid hx.at_.len
  clear hx hl
  by_cases hlen : 300 < n
  · go_enter Tryd.func6, Tryd.ntmps6
    go_wp2_with fail
    refine (alive10_any _ HL.out).mono ?_
    rintro e w1 ⟨rfl, hb1⟩
    go_wp2_with fail
    go_ret
    exact ⟨rfl, hb1⟩
  · have hn : n ≤ 300 := by omega
    have P1 := Lib.hid (pParas_any A n c xs w HL.out HX.out (by omega))
    have hpl := paras_len xs
    have hpe := paras_end xs
    have PE := Lib.hid (paras_each xs)
    rw [HLEN.out] at hpl hpe
    obtain ⟨ps, hps⟩ : ∃ ps, paras xs = ps := ⟨_, rfl⟩
    rw [hps] at P1 hpl PE hpe
    clear hps
    obtain ⟨m, hm⟩ : ∃ m, ps.length = m := ⟨_, rfl⟩
    have HM := Lib.hid hm
    rw [hm] at hpl hpe
    have HPE := Lib.hid hpe
    unfold NewCuts at P1
    rw [hm] at P1
    clear hm hpe
    go_enter Tryd.func6, Tryd.ntmps6
    go_wp2_with fail
    refine P1.out.mono ?_
    rintro e w1 ⟨A1, c1, rfl, o1, x1⟩
    have X1 := Lib.hid x1
    have O1 := Lib.hid o1
    have I1 := Lib.hid (HX.out.pass x1)
    have L1 := Lib.hid (HL.out.pass x1)
    clear o1 x1 P1
    go_wp2_with fail
    go_loopw [3, 15] (fun e i wr => ∃ k : Nat, k ≤ m ∧ i = .int .i64 k ∧ e = .int .i64 ((upto ps k : Nat) : Int) ∧ Below w1.heap.size w1 wr) (fun _ i _ => m - (intOf i).toNat)
    case atStart => exact ⟨0, Nat.zero_le _, rfl, rfl, Below.refl _ _⟩
    case round =>
      obtain ⟨k, hk, rfl, rfl, hb⟩ := hrel
      by_cases hlt : k < m
      · have oa := O1.out.pass hb
        obtain ⟨ga, rfl, _, hga⟩ := OwnV.form oa (by omega)
        obtain ⟨v1, v2⟩ := cutsV_at ps k (by rw [HM.out]; exact hlt)
        have ca := (OwnV.cellAt oa (k * 2) (by omega)).trans v1
        have ca2 := (OwnV.cellAt oa (k * 2 + 1) (by omega)).trans v2
        obtain ⟨e1, e2, e3, e4, e5⟩ := PE.out k (by rw [HM.out]; exact hlt)
        have hup : upto ps (k + 1) = (rng ps k).2 := rfl
        have HUP := Lib.hid hup
        rw [e1] at ca
        rw [HLEN.out] at e3
        obtain ⟨f, hf⟩ : ∃ f, upto ps k = f := ⟨_, rfl⟩
        obtain ⟨t, ht⟩ : ∃ t, (rng ps k).2 = t := ⟨_, rfl⟩
        rw [hf] at ca e2 e5 ⊢
        rw [ht] at ca2 e2 e3 e4 e5 HUP
        have E4 := Lib.hid e4
        have E5 := Lib.hid e5
        obtain ⟨s, rfl⟩ : ∃ s, t = s + 1 := ⟨t - 1, by omega⟩
        simp only [Nat.add_sub_cancel] at E4
        have ii := (I1.out.pass hb)
        obtain ⟨ad, rfl, hab, hcx⟩ := ii.at_.2 (by omega)
        have HCX := Lib.hid hcx
        have II := Lib.hid ii
        have hcs := hcx s (by omega)
        obtain ⟨h1, h2⟩ := bounds_i32 (I1.out.nth_wf (i := s) (by omega))
        have O := Lib.hid (pOf_lit (nth xs s) h1 h2)
        have LL := Lib.hid (L1.out.pass hb)
        have HB := Lib.hid hb
        have eb : (propOf (nth xs s)).bidi = bidiAt xs s := rfl
        rw [eb] at O
        have hcs2 := cell_alloc hcs (.cells #[.int .i64 (f : Int), .int .i64 ((s : Int) + 1)] 27)
        clear h1 h2 hcx ii hup e1 hf ht e4 e5 oa v1 v2 hb eb
        go_wp2_with fail
        refine (O.out _ (LL.out.alloc _)).mono ?_
        rintro e w2 ⟨rfl, hb2⟩
        have X2 := Lib.hid ((HB.out.alloc (by have := HB.out.size; omega) (.cells #[.int .i64 (f : Int), .int .i64 ((s : Int) + 1)] 27)).trans (hb2.mono (by have := HB.out.size; simp; omega)))
        have cf : w2.cell? ⟨wr.heap.size, 0, none⟩ = some (.int .i64 (f : Int)) := cell_pass (by rw [cell_of_row _ _ _ _ _ _ (heap_alloc_new wr _)]; rfl) hb2
        have ct : w2.cell? ⟨wr.heap.size, 1, none⟩ = some (.int .i64 ((s : Int) + 1)) := cell_pass (by rw [cell_of_row _ _ _ _ _ _ (heap_alloc_new wr _)]; rfl) hb2
        have hsz2 : wr.heap.size < w2.heap.size := by have := hb2.size; simp at this; omega
        have HB2 := Lib.hid hb2
        have II2 := Lib.hid (I1.out.pass X2.out)
        have LL2 := Lib.hid (L1.out.pass X2.out)
        clear hb2 hcs hcs2 ca ca2 II LL
        have go2 : bidiAt xs s = 11 ∨ (bidiAt xs s ≠ 11 ∧ s + 1 = n) := by
          by_cases h : bidiAt xs s = 11
          · exact .inl h
          · have h7 := last_B (xs := xs) (t := s + 1) (by omega) E4.out h
            rw [HLEN.out] at h7
            exact .inr ⟨h, h7⟩
        generalize wr.heap.size = gc at *
        rcases go2 with h11 | ⟨h11, hsn⟩
        · rw [h11]
          clear h11
          go_wp2_with fail
          go_loopw [7] (fun i wq => ∃ j : Nat, f ≤ j ∧ j ≤ s ∧ i = .int .i64 j ∧ Below w2.heap.size w2 wq) (fun i _ => s - (intOf i).toNat)
          case atStart => exact ⟨f, Nat.le_refl _, by omega, rfl, Below.refl _ _⟩
          case round =>
            obtain ⟨j, hj1, hj2, rfl, hbq⟩ := hrel
            have cfq := (hbq.cell (p := ⟨gc, 0, none⟩) hsz2).trans cf
            have ctq := (hbq.cell (p := ⟨gc, 1, none⟩) hsz2).trans ct
            have HBQ := Lib.hid hbq
            by_cases hjs : j < s
            · have iq := (II2.out.pass hbq).at_
              obtain ⟨ad2, he2, hab2, hcx⟩ := iq.2 (by omega)
              obtain rfl : ad = ad2 := Option.some.inj he2
              have hcj := hcx j (by omega)
              have hcj1 := hcx (j + 1) (by omega)
              rw [add_succ] at hcj1
              obtain ⟨h1, h2⟩ := bounds_i32 (I1.out.nth_wf (i := j) (by omega))
              have OJ := Lib.hid (pOf_lit (nth xs j) h1 h2)
              have eb : (propOf (nth xs j)).bidi = bidiAt xs j := rfl
              rw [eb] at OJ
              have IB := Lib.hid (inner_B E5.out hj1 (by omega))
              clear h1 h2 hcx iq eb hbq he2
              by_cases hbj : bidiAt xs j = 11
              · obtain ⟨i1, i2, i3⟩ := IB.out hbj
                rw [hbj] at OJ
                rw [i2] at OJ hcj
                rw [i3] at hcj1
                have js2 : ((j : Int) == (s : Int) + 1 - 2) = true := by simp; omega
                have js3 : ((j : Int) == (s : Int) - 1) = true := by simp; omega
                clear hbj i2 i3 i1
                go_wp2_with fail
                refine (OJ.out _ (LL2.out.pass HBQ.out)).mono ?_
                rintro e w3 ⟨rfl, hb3⟩
                have X3 := Lib.hid (HBQ.out.trans (hb3.mono HBQ.out.size))
                have cf3 := cell_pass cfq hb3
                have ct3 := cell_pass ctq hb3
                have hcj3 := cell_pass hcj hb3
                have hcj13 := cell_pass hcj1 hb3
                clear hb3
                go_wp2_with fail
                go_roundw
                case rel => exact ⟨j + 1, by omega, by omega, by go_num, X3.out⟩
                case measure => simp [intOf] <;> omega
              · have nj : ((bidiAt xs j : Int) == 11) = false := by simpa using hbj
                clear hbj
                generalize bidiAt xs j = bj at *
                go_wp2_with fail
                refine (OJ.out _ (LL2.out.pass HBQ.out)).mono ?_
                rintro e w3 ⟨rfl, hb3⟩
                have X3 := Lib.hid (HBQ.out.trans (hb3.mono HBQ.out.size))
                clear hb3
                go_wp2_with fail
                go_roundw
                case rel => exact ⟨j + 1, by omega, by omega, by go_num, X3.out⟩
                case measure => simp [intOf] <;> omega
            · obtain rfl : j = s := by omega
              have X3 := Lib.hid (X2.out.trans (HBQ.out.mono X2.out.size))
              go_wp2_with fail
              go_roundw
              case rel => exact ⟨k + 1, by omega, by go_num, by rw [HUP.out]; go_num, X3.out⟩
              case measure => simp [intOf] <;> omega
        · have n11 : ((bidiAt xs s : Int) == 11) = false := by simpa using h11
          have nn : (((s : Int) + 1) != (n : Int)) = false := by simp; omega
          have nn2 : (((s : Int) + 1) == (n : Int)) = true := by simp; omega
          clear h11
          generalize bidiAt xs s = bs at *
          go_wp2_with fail
          go_loopw [7] (fun i wq => ∃ j : Nat, f ≤ j ∧ j ≤ s ∧ i = .int .i64 j ∧ Below w2.heap.size w2 wq) (fun i _ => s - (intOf i).toNat)
          case atStart => exact ⟨f, Nat.le_refl _, by omega, rfl, Below.refl _ _⟩
          case round =>
            obtain ⟨j, hj1, hj2, rfl, hbq⟩ := hrel
            have cfq := (hbq.cell (p := ⟨gc, 0, none⟩) hsz2).trans cf
            have ctq := (hbq.cell (p := ⟨gc, 1, none⟩) hsz2).trans ct
            have HBQ := Lib.hid hbq
            by_cases hjs : j < s
            · have iq := (II2.out.pass hbq).at_
              obtain ⟨ad2, he2, hab2, hcx⟩ := iq.2 (by omega)
              obtain rfl : ad = ad2 := Option.some.inj he2
              have hcj := hcx j (by omega)
              have hcj1 := hcx (j + 1) (by omega)
              rw [add_succ] at hcj1
              obtain ⟨h1, h2⟩ := bounds_i32 (I1.out.nth_wf (i := j) (by omega))
              have OJ := Lib.hid (pOf_lit (nth xs j) h1 h2)
              have eb : (propOf (nth xs j)).bidi = bidiAt xs j := rfl
              rw [eb] at OJ
              have IB := Lib.hid (inner_B E5.out hj1 (by omega))
              clear h1 h2 hcx iq eb hbq he2
              by_cases hbj : bidiAt xs j = 11
              · obtain ⟨i1, i2, i3⟩ := IB.out hbj
                rw [hbj] at OJ
                rw [i2] at OJ hcj
                rw [i3] at hcj1
                have js2 : ((j : Int) == (s : Int) + 1 - 2) = true := by simp; omega
                have js3 : ((j : Int) == (s : Int) - 1) = true := by simp; omega
                clear hbj i2 i3 i1
                go_wp2_with fail
                refine (OJ.out _ (LL2.out.pass HBQ.out)).mono ?_
                rintro e w3 ⟨rfl, hb3⟩
                have X3 := Lib.hid (HBQ.out.trans (hb3.mono HBQ.out.size))
                have cf3 := cell_pass cfq hb3
                have ct3 := cell_pass ctq hb3
                have hcj3 := cell_pass hcj hb3
                have hcj13 := cell_pass hcj1 hb3
                clear hb3
                go_wp2_with fail
                go_roundw
                case rel => exact ⟨j + 1, by omega, by omega, by go_num, X3.out⟩
                case measure => simp [intOf] <;> omega
              · have nj : ((bidiAt xs j : Int) == 11) = false := by simpa using hbj
                clear hbj
                generalize bidiAt xs j = bj at *
                go_wp2_with fail
                refine (OJ.out _ (LL2.out.pass HBQ.out)).mono ?_
                rintro e w3 ⟨rfl, hb3⟩
                have X3 := Lib.hid (HBQ.out.trans (hb3.mono HBQ.out.size))
                clear hb3
                go_wp2_with fail
                go_roundw
                case rel => exact ⟨j + 1, by omega, by omega, by go_num, X3.out⟩
                case measure => simp [intOf] <;> omega
            · obtain rfl : j = s := by omega
              have X3 := Lib.hid (X2.out.trans (HBQ.out.mono X2.out.size))
              go_wp2_with fail
              go_roundw
              case rel => exact ⟨k + 1, by omega, by go_num, by rw [HUP.out]; go_num, X3.out⟩
              case measure => simp [intOf] <;> omega
      · obtain rfl : k = m := by omega
        have X3 := Lib.hid (X1.out.trans (hb.mono X1.out.size))
        rw [HPE.out]
        go_wp2_with fail
        refine (alive10_any _ (HL.out.pass X3.out)).mono ?_
        rintro e w5 ⟨rfl, hb5⟩
        have x5 := X3.out.trans (hb5.mono X3.out.size)
        go_wp2_with fail
        go_ret
        exact ⟨rfl, x5⟩
end Go.Proofs.YtanfcfppmpabpaaDoor
