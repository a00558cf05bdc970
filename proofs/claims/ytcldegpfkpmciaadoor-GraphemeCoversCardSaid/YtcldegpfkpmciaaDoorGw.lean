/- Chapter 7: how far a place looks on, both ways. -/
import Derived.Test.YtcldegpfkpmciaaDoorGn
namespace Go.Proofs.YtcldegpfkpmciaaDoor
open Go.ChangeShapes Go.WideShapes Go.ChangeAt Go.RowKit
set_option maxRecDepth 100000
set_option linter.unusedSimpArgs false

theorem retp {a b c d : Int} (h : b = d) (h2 : a = c) : Ending.returned (.tuple #[.int .i64 a, .int .i64 b]) = Ending.returned (.tuple #[.int .i64 c, .int .i64 d]) := by rw [h, h2]
def winF0 (l : List Int) (i : Int) : Int := if i < 0 ∨ (l.length : Int) < i then 0 else i
def winT0 (l : List Int) (i : Int) : Int := if i < 0 ∨ (l.length : Int) < i then 0 else ((winEnd l i.toNat : Nat) : Int)

set_option maxHeartbeats 8000000 in
theorem pwin_any (A : Option Addr) (n c : Nat) (xs : List Int) (i : Nat) (hin : i ≤ n) (w : World) (hx : SliceIn .i32 w A n c xs) (hl : Laid w) (hn : n ≤ 140737488355328) :
    Calls Tryd.prog 24 #[.slice A n c, .int .i64 (i : Int)] w fun e w' => e = .returned (.tuple #[.int .i64 (i : Int), .int .i64 ((winEnd (ks xs) i : Nat) : Int)]) ∧ Below w.heap.size w w' := by
  have HX := Lib.hid hx
  have HL := Lib.hid hl
  have HLEN := Lib.hid hx.at_.len
  have KL := Lib.hid (ks_len xs)
  clear hx hl 
  have l1 : ¬ (n : Int) < (i : Int) := by omega
  have l2 : ¬ (i : Int) < 0 := by omega
  go_enter Tryd.func24, Tryd.ntmps24
  go_wp2_with fail
  go_loopw [6] (fun v wr => ∃ k : Nat, i ≤ k ∧ k ≤ n ∧ v = .int .i64 k ∧ runTo isReg (ks xs) k = runTo isReg (ks xs) i ∧ Below w.heap.size w wr) (fun v _ => n - (intOf v).toNat)
  case atStart => exact ⟨i, Nat.le_refl _, hin, rfl, rfl, Below.refl _ _⟩
  case round =>
    obtain ⟨k, hk1, hk, rfl, hrun, hb⟩ := hrel
    have RUN := Lib.hid hrun
    have HB0 := Lib.hid hb
    clear hrun
    by_cases hlt : k < n
    · obtain ⟨h1, h2⟩ := bounds_i32 (HX.out.nth_wf hlt)
      obtain ⟨ad, rfl, hab, hcx⟩ := (HX.out.at_.below hb).2 (by omega)
      have hc := hcx k hlt
      have CC := Lib.hid (pclass_any (nth xs k) h1 h2 wr (HL.out.pass hb))
      have kq := ks_at (xs := xs) (i := k) (by rw [HLEN.out]; exact hlt)
      have kl : k < (ks xs).length := by rw [KL.out, HLEN.out]; exact hlt
      clear hcx h1 h2 hb
      by_cases h6 : clu (nth xs k) = 6
      · have st := runTo_step (f := isReg) kl (by rw [kq, h6]; rfl)
        rw [RUN.out] at st
        have ST := Lib.hid st
        rw [h6] at CC
        clear st kq h6 kl
        go_wp2_with fail
        refine CC.out.mono ?_
        rintro e w2 ⟨rfl, hv⟩
        have HB2 := Lib.hid (HB0.out.trans (hv.mono HB0.out.size))
        clear hv
        go_wp2_with fail
        go_roundw
        case rel => exact ⟨k + 1, by omega, by omega, by go_num, ST.out.symm, HB2.out⟩
        case measure => simp [intOf] <;> omega
      · have st := runTo_stop (f := isReg) (ks := ks xs) (i := k) (fun _ => by rw [kq]; simp [isReg, h6])
        rw [RUN.out] at st
        have RR := Lib.hid st
        have n6 : ((clu (nth xs k) : Int) == 6) = false := by simpa using h6
        clear st kq h6 kl
        generalize clu (nth xs k) = ck at *
        go_wp2_with fail
        refine CC.out.mono ?_
        rintro e w2 ⟨rfl, hv⟩
        have HB2 := Lib.hid (HB0.out.trans (hv.mono HB0.out.size))
        clear hv CC hc
        have XS := Lib.hid HB2.out
        go_wp2_with fail
        go_loopw [7] (fun v wr => ∃ j : Nat, i ≤ j ∧ j ≤ n ∧ v = .int .i64 j ∧ runTo isExt (ks xs) j = runTo isExt (ks xs) i ∧ Below w.heap.size w wr) (fun v _ => n - (intOf v).toNat)
        case atStart => exact ⟨i, Nat.le_refl _, hin, rfl, rfl, XS.out⟩
        case round =>
          obtain ⟨j, hj1, hj2, rfl, hrun, hb⟩ := hrel
          have RUN := Lib.hid hrun
          have HB := Lib.hid hb
          clear hrun
          by_cases hjn : j < n
          · obtain ⟨h1, h2⟩ := bounds_i32 (HX.out.nth_wf hjn)
            obtain ⟨ad2, he2, hab2, hcx2⟩ := (HX.out.at_.below hb).2 (by omega)
            obtain rfl : ad = ad2 := Option.some.inj he2
            have hc2 := hcx2 j hjn
            have CC2 := Lib.hid (fun w' (hb : Below w.heap.size w w') => pclass_any (nth xs j) h1 h2 w' (HL.out.pass hb))
            have kq := ks_at (xs := xs) (i := j) (by rw [HLEN.out]; exact hjn)
            have jl : j < (ks xs).length := by rw [KL.out, HLEN.out]; exact hjn
            clear hcx2 h1 h2 hb
            by_cases h4 : clu (nth xs j) = 4
            · have st := runTo_step (f := isExt) jl (by rw [kq, h4]; rfl)
              rw [RUN.out] at st
              have ST := Lib.hid st
              rw [h4] at CC2
              clear st kq h4 jl
              go_wp2_with fail
              refine (CC2.out _ HB.out).mono ?_
              rintro e w5 ⟨rfl, hv⟩
              have HB5 := Lib.hid (HB.out.trans (hv.mono HB.out.size))
              clear hv
              go_wp2_with fail
              go_roundw
              case rel => exact ⟨j + 1, by omega, by omega, by go_num, ST.out.symm, HB5.out⟩
              case measure => simp [intOf] <;> omega
            · by_cases h5 : clu (nth xs j) = 5
              · have st := runTo_step (f := isExt) jl (by rw [kq, h5]; rfl)
                rw [RUN.out] at st
                have ST := Lib.hid st
                rw [h5] at CC2
                clear st kq h4 h5 jl
                go_wp2_with fail
                refine (CC2.out _ HB.out).mono ?_
                rintro e w5 ⟨rfl, hv⟩
                have HB5 := Lib.hid (HB.out.trans (hv.mono HB.out.size))
                have hc5 := cell_pass hc2 hv
                clear hv
                go_wp2_with fail
                refine (CC2.out _ HB5.out).mono ?_
                rintro e w6 ⟨rfl, hv⟩
                have HB6 := Lib.hid (HB5.out.trans (hv.mono HB5.out.size))
                clear hv
                go_wp2_with fail
                go_roundw
                case rel => exact ⟨j + 1, by omega, by omega, by go_num, ST.out.symm, HB6.out⟩
                case measure => simp [intOf] <;> omega
              · have st := runTo_stop (f := isExt) (ks := ks xs) (i := j) (fun _ => by rw [kq]; simp [isExt, h4, h5])
                rw [RUN.out] at st
                have EE := Lib.hid st
                have n4 : ((clu (nth xs j) : Int) == 4) = false := by simpa using h4
                have n5 : ((clu (nth xs j) : Int) == 5) = false := by simpa using h5
                clear st kq h4 h5 jl
                generalize clu (nth xs j) = cj at *
                go_wp2_with fail
                refine (CC2.out _ HB.out).mono ?_
                rintro e w5 ⟨rfl, hv⟩
                have HB5 := Lib.hid (HB.out.trans (hv.mono HB.out.size))
                have hc5 := cell_pass hc2 hv
                clear hv
                go_wp2_with fail
                refine (CC2.out _ HB5.out).mono ?_
                rintro e w6 ⟨rfl, hv⟩
                have HB6 := Lib.hid (HB5.out.trans (hv.mono HB5.out.size))
                clear hv
                have FR := Lib.hid (show winEnd (ks xs) i = max k j by unfold winEnd; rw [RR.out, EE.out])
                by_cases hkj : k < j
                · have l9 : (k : Int) < (j : Int) := by omega
                  go_wp2_with fail
                  go_ret2
                  exact ⟨retp (by rw [FR.out]; omega) rfl, HB6.out⟩
                · have l9 : ¬ (k : Int) < (j : Int) := by omega
                  go_wp2_with fail
                  go_ret2
                  exact ⟨retp (by rw [FR.out]; omega) rfl, HB6.out⟩
          · have st := runTo_stop (f := isExt) (ks := ks xs) (i := j) (fun h => by rw [KL.out, HLEN.out] at h; omega)
            rw [RUN.out] at st
            have EE := Lib.hid st
            clear st hb
            have FR := Lib.hid (show winEnd (ks xs) i = max k j by unfold winEnd; rw [RR.out, EE.out])
            by_cases hkj : k < j
            · have l9 : (k : Int) < (j : Int) := by omega
              go_wp2_with fail
              go_ret2
              exact ⟨retp (by rw [FR.out]; omega) rfl, HB.out⟩
            · have l9 : ¬ (k : Int) < (j : Int) := by omega
              go_wp2_with fail
              go_ret2
              exact ⟨retp (by rw [FR.out]; omega) rfl, HB.out⟩
    · have st := runTo_stop (f := isReg) (ks := ks xs) (i := k) (fun h => by rw [KL.out, HLEN.out] at h; omega)
      rw [RUN.out] at st
      have RR := Lib.hid st
      have dk : decide (k < n) = false := by simp; omega
      clear st hb
      have XS := Lib.hid HB0.out
      go_wp2_with fail
      go_loopw [7] (fun v wr => ∃ j : Nat, i ≤ j ∧ j ≤ n ∧ v = .int .i64 j ∧ runTo isExt (ks xs) j = runTo isExt (ks xs) i ∧ Below w.heap.size w wr) (fun v _ => n - (intOf v).toNat)
      case atStart => exact ⟨i, Nat.le_refl _, hin, rfl, rfl, XS.out⟩
      case round =>
        obtain ⟨j, hj1, hj2, rfl, hrun, hb⟩ := hrel
        have RUN := Lib.hid hrun
        have HB := Lib.hid hb
        clear hrun
        by_cases hjn : j < n
        · obtain ⟨h1, h2⟩ := bounds_i32 (HX.out.nth_wf hjn)
          obtain ⟨ad2, he2, hab2, hcx2⟩ := (HX.out.at_.below hb).2 (by omega)
          subst he2
          have hc2 := hcx2 j hjn
          have CC2 := Lib.hid (fun w' (hb : Below w.heap.size w w') => pclass_any (nth xs j) h1 h2 w' (HL.out.pass hb))
          have kq := ks_at (xs := xs) (i := j) (by rw [HLEN.out]; exact hjn)
          have jl : j < (ks xs).length := by rw [KL.out, HLEN.out]; exact hjn
          clear hcx2 h1 h2 hb
          by_cases h4 : clu (nth xs j) = 4
          · have st := runTo_step (f := isExt) jl (by rw [kq, h4]; rfl)
            rw [RUN.out] at st
            have ST := Lib.hid st
            rw [h4] at CC2
            clear st kq h4 jl
            go_wp2_with fail
            refine (CC2.out _ HB.out).mono ?_
            rintro e w5 ⟨rfl, hv⟩
            have HB5 := Lib.hid (HB.out.trans (hv.mono HB.out.size))
            clear hv
            go_wp2_with fail
            go_roundw
            case rel => exact ⟨j + 1, by omega, by omega, by go_num, ST.out.symm, HB5.out⟩
            case measure => simp [intOf] <;> omega
          · by_cases h5 : clu (nth xs j) = 5
            · have st := runTo_step (f := isExt) jl (by rw [kq, h5]; rfl)
              rw [RUN.out] at st
              have ST := Lib.hid st
              rw [h5] at CC2
              clear st kq h4 h5 jl
              go_wp2_with fail
              refine (CC2.out _ HB.out).mono ?_
              rintro e w5 ⟨rfl, hv⟩
              have HB5 := Lib.hid (HB.out.trans (hv.mono HB.out.size))
              have hc5 := cell_pass hc2 hv
              clear hv
              go_wp2_with fail
              refine (CC2.out _ HB5.out).mono ?_
              rintro e w6 ⟨rfl, hv⟩
              have HB6 := Lib.hid (HB5.out.trans (hv.mono HB5.out.size))
              clear hv
              go_wp2_with fail
              go_roundw
              case rel => exact ⟨j + 1, by omega, by omega, by go_num, ST.out.symm, HB6.out⟩
              case measure => simp [intOf] <;> omega
            · have st := runTo_stop (f := isExt) (ks := ks xs) (i := j) (fun _ => by rw [kq]; simp [isExt, h4, h5])
              rw [RUN.out] at st
              have EE := Lib.hid st
              have n4 : ((clu (nth xs j) : Int) == 4) = false := by simpa using h4
              have n5 : ((clu (nth xs j) : Int) == 5) = false := by simpa using h5
              clear st kq h4 h5 jl
              generalize clu (nth xs j) = cj at *
              go_wp2_with fail
              refine (CC2.out _ HB.out).mono ?_
              rintro e w5 ⟨rfl, hv⟩
              have HB5 := Lib.hid (HB.out.trans (hv.mono HB.out.size))
              have hc5 := cell_pass hc2 hv
              clear hv
              go_wp2_with fail
              refine (CC2.out _ HB5.out).mono ?_
              rintro e w6 ⟨rfl, hv⟩
              have HB6 := Lib.hid (HB5.out.trans (hv.mono HB5.out.size))
              clear hv
              have FR := Lib.hid (show winEnd (ks xs) i = max k j by unfold winEnd; rw [RR.out, EE.out])
              by_cases hkj : k < j
              · have l9 : (k : Int) < (j : Int) := by omega
                go_wp2_with fail
                go_ret2
                exact ⟨retp (by rw [FR.out]; omega) rfl, HB6.out⟩
              · have l9 : ¬ (k : Int) < (j : Int) := by omega
                go_wp2_with fail
                go_ret2
                exact ⟨retp (by rw [FR.out]; omega) rfl, HB6.out⟩
        · have st := runTo_stop (f := isExt) (ks := ks xs) (i := j) (fun h => by rw [KL.out, HLEN.out] at h; omega)
          rw [RUN.out] at st
          have EE := Lib.hid st
          clear st hb
          have FR := Lib.hid (show winEnd (ks xs) i = max k j by unfold winEnd; rw [RR.out, EE.out])
          by_cases hkj : k < j
          · have l9 : (k : Int) < (j : Int) := by omega
            go_wp2_with fail
            go_ret2
            exact ⟨retp (by rw [FR.out]; omega) rfl, HB.out⟩
          · have l9 : ¬ (k : Int) < (j : Int) := by omega
            go_wp2_with fail
            go_ret2
            exact ⟨retp (by rw [FR.out]; omega) rfl, HB.out⟩
theorem pwindow_any (A : Option Addr) (n c : Nat) (xs : List Int) (i : Int) (w : World) (hx : SliceIn .i32 w A n c xs) (hl : Laid w) (hn : n ≤ 140737488355328) :
    Calls Tryd.prog 24 #[.slice A n c, .int .i64 i] w fun e w' => e = .returned (.tuple #[.int .i64 (winF0 (ks xs) i), .int .i64 (winT0 (ks xs) i)]) ∧ Below w.heap.size w w' := by
  have hk : (ks xs).length = n := by rw [ks_len]; exact hx.at_.len
  by_cases hout : i < 0 ∨ (n : Int) < i
  · have e1 : winF0 (ks xs) i = 0 := by unfold winF0; rw [hk, if_pos hout]
    have e2 : winT0 (ks xs) i = 0 := by unfold winT0; rw [hk, if_pos hout]
    rw [e1, e2]
    clear e1 e2 hk hx hl 
    by_cases hneg : i < 0
    · clear hout
      go_enter Tryd.func24, Tryd.ntmps24
      go_wp2_with fail
      go_ret2
      exact ⟨rfl, Below.refl _ _⟩
    · have hbig : (n : Int) < i := by omega
      clear hout
      go_enter Tryd.func24, Tryd.ntmps24
      go_wp2_with fail
      go_ret2
      exact ⟨rfl, Below.refl _ _⟩
  · obtain ⟨k, rfl⟩ : ∃ k : Nat, i = k := ⟨i.toNat, by omega⟩
    have e1 : winF0 (ks xs) (k : Int) = k := by unfold winF0; rw [hk, if_neg hout]
    have e2 : winT0 (ks xs) (k : Int) = ((winEnd (ks xs) k : Nat) : Int) := by unfold winT0; rw [hk, if_neg hout]; rfl
    rw [e1, e2]
    exact pwin_any A n c xs k (by omega) w hx hl hn

set_option maxHeartbeats 8000000 in
theorem rwin_any (A : Option Addr) (n c : Nat) (xs : List Int) (i : Nat) (hin : i ≤ n) (w : World) (hx : SliceIn .i32 w A n c xs) (hn : n ≤ 140737488355328) :
    Calls Tryd.prog 27 #[.slice A n c, .int .i64 (i : Int)] w fun e w' => e = .returned (.tuple #[.int .i64 (i : Int), .int .i64 ((winEnd (ks xs) i : Nat) : Int)]) ∧ Below w.heap.size w w' := by
  have HX := Lib.hid hx
  have HLEN := Lib.hid hx.at_.len
  have KL := Lib.hid (ks_len xs)
  clear hx 
  have l1 : ¬ (n : Int) < (i : Int) := by omega
  have l2 : ¬ (i : Int) < 0 := by omega
  go_enter Tryd.func27, Tryd.ntmps27
  go_wp2_with fail
  go_loopw [6] (fun v wr => ∃ k : Nat, i ≤ k ∧ k ≤ n ∧ v = .int .i64 k ∧ runTo isReg (ks xs) k = runTo isReg (ks xs) i ∧ Below w.heap.size w wr) (fun v _ => n - (intOf v).toNat)
  case atStart => exact ⟨i, Nat.le_refl _, hin, rfl, rfl, Below.refl _ _⟩
  case round =>
    obtain ⟨k, hk1, hk, rfl, hrun, hb⟩ := hrel
    have RUN := Lib.hid hrun
    have HB0 := Lib.hid hb
    clear hrun
    by_cases hlt : k < n
    · obtain ⟨h1, h2⟩ := bounds_i32 (HX.out.nth_wf hlt)
      obtain ⟨ad, rfl, hab, hcx⟩ := (HX.out.at_.below hb).2 (by omega)
      have hc := hcx k hlt
      have CC := Lib.hid (rclass_any (nth xs k) h1 h2 wr)
      have kq := ks_at (xs := xs) (i := k) (by rw [HLEN.out]; exact hlt)
      have kl : k < (ks xs).length := by rw [KL.out, HLEN.out]; exact hlt
      clear hcx h1 h2 hb
      by_cases h6 : clu (nth xs k) = 6
      · have st := runTo_step (f := isReg) kl (by rw [kq, h6]; rfl)
        rw [RUN.out] at st
        have ST := Lib.hid st
        rw [h6] at CC
        clear st kq h6 kl
        go_wp2_with fail
        refine CC.out.mono ?_
        rintro e w2 ⟨rfl, hv⟩
        have HB2 := Lib.hid (HB0.out.trans (hv.mono HB0.out.size))
        clear hv
        go_wp2_with fail
        go_roundw
        case rel => exact ⟨k + 1, by omega, by omega, by go_num, ST.out.symm, HB2.out⟩
        case measure => simp [intOf] <;> omega
      · have st := runTo_stop (f := isReg) (ks := ks xs) (i := k) (fun _ => by rw [kq]; simp [isReg, h6])
        rw [RUN.out] at st
        have RR := Lib.hid st
        have n6 : ((clu (nth xs k) : Int) == 6) = false := by simpa using h6
        clear st kq h6 kl
        generalize clu (nth xs k) = ck at *
        go_wp2_with fail
        refine CC.out.mono ?_
        rintro e w2 ⟨rfl, hv⟩
        have HB2 := Lib.hid (HB0.out.trans (hv.mono HB0.out.size))
        clear hv CC hc
        have XS := Lib.hid HB2.out
        by_cases hki : i < k
        · have l8 : (i : Int) < (k : Int) := by omega
          have FE := Lib.hid (winEnd_one (ks := ks xs) (i := i) (by rw [RR.out]; exact hki) (by rw [KL.out, HLEN.out]; exact hin))
          have FR := Lib.hid (show winEnd (ks xs) i = k by unfold winEnd; rw [RR.out, FE.out]; omega)
          go_wp2_with fail
          go_ret2
          exact ⟨retp (by rw [FR.out]) rfl, XS.out⟩
        · obtain rfl : k = i := by omega
          have l8 : ¬ (k : Int) < (k : Int) := by omega
          go_wp2_with fail
          go_loopw [6] (fun v wr => ∃ j : Nat, k ≤ j ∧ j ≤ n ∧ v = .int .i64 j ∧ runTo isExt (ks xs) j = runTo isExt (ks xs) k ∧ Below w.heap.size w wr) (fun v _ => n - (intOf v).toNat)
          case atStart => exact ⟨k, Nat.le_refl _, hin, rfl, rfl, XS.out⟩
          case round =>
            obtain ⟨j, hj1, hj2, rfl, hrun, hb⟩ := hrel
            have RUN := Lib.hid hrun
            have HB := Lib.hid hb
            clear hrun
            by_cases hjn : j < n
            · obtain ⟨h1, h2⟩ := bounds_i32 (HX.out.nth_wf hjn)
              obtain ⟨ad2, he2, hab2, hcx2⟩ := (HX.out.at_.below hb).2 (by omega)
              obtain rfl : ad = ad2 := Option.some.inj he2
              have hc2 := hcx2 j hjn
              have CC2 := Lib.hid (fun w' (hb : Below w.heap.size w w') => rclass_any (nth xs j) h1 h2 w')
              have kq := ks_at (xs := xs) (i := j) (by rw [HLEN.out]; exact hjn)
              have jl : j < (ks xs).length := by rw [KL.out, HLEN.out]; exact hjn
              clear hcx2 h1 h2 hb
              by_cases h4 : clu (nth xs j) = 4
              · have st := runTo_step (f := isExt) jl (by rw [kq, h4]; rfl)
                rw [RUN.out] at st
                have ST := Lib.hid st
                rw [h4] at CC2
                clear st kq h4 jl
                go_wp2_with fail
                refine (CC2.out _ HB.out).mono ?_
                rintro e w5 ⟨rfl, hv⟩
                have HB5 := Lib.hid (HB.out.trans (hv.mono HB.out.size))
                clear hv
                go_wp2_with fail
                go_roundw
                case rel => exact ⟨j + 1, by omega, by omega, by go_num, ST.out.symm, HB5.out⟩
                case measure => simp [intOf] <;> omega
              · by_cases h5 : clu (nth xs j) = 5
                · have st := runTo_step (f := isExt) jl (by rw [kq, h5]; rfl)
                  rw [RUN.out] at st
                  have ST := Lib.hid st
                  rw [h5] at CC2
                  clear st kq h4 h5 jl
                  go_wp2_with fail
                  refine (CC2.out _ HB.out).mono ?_
                  rintro e w5 ⟨rfl, hv⟩
                  have HB5 := Lib.hid (HB.out.trans (hv.mono HB.out.size))
                  have hc5 := cell_pass hc2 hv
                  clear hv
                  go_wp2_with fail
                  refine (CC2.out _ HB5.out).mono ?_
                  rintro e w6 ⟨rfl, hv⟩
                  have HB6 := Lib.hid (HB5.out.trans (hv.mono HB5.out.size))
                  clear hv
                  go_wp2_with fail
                  go_roundw
                  case rel => exact ⟨j + 1, by omega, by omega, by go_num, ST.out.symm, HB6.out⟩
                  case measure => simp [intOf] <;> omega
                · have st := runTo_stop (f := isExt) (ks := ks xs) (i := j) (fun _ => by rw [kq]; simp [isExt, h4, h5])
                  rw [RUN.out] at st
                  have EE := Lib.hid st
                  have n4 : ((clu (nth xs j) : Int) == 4) = false := by simpa using h4
                  have n5 : ((clu (nth xs j) : Int) == 5) = false := by simpa using h5
                  clear st kq h4 h5 jl
                  generalize clu (nth xs j) = cj at *
                  go_wp2_with fail
                  refine (CC2.out _ HB.out).mono ?_
                  rintro e w5 ⟨rfl, hv⟩
                  have HB5 := Lib.hid (HB.out.trans (hv.mono HB.out.size))
                  have hc5 := cell_pass hc2 hv
                  clear hv
                  go_wp2_with fail
                  refine (CC2.out _ HB5.out).mono ?_
                  rintro e w6 ⟨rfl, hv⟩
                  have HB6 := Lib.hid (HB5.out.trans (hv.mono HB5.out.size))
                  clear hv
                  have FR := Lib.hid (show winEnd (ks xs) k = j by unfold winEnd; rw [RR.out, EE.out]; omega)
                  go_wp2_with fail
                  go_ret2
                  exact ⟨retp (by rw [FR.out]) rfl, HB6.out⟩
            · have st := runTo_stop (f := isExt) (ks := ks xs) (i := j) (fun h => by rw [KL.out, HLEN.out] at h; omega)
              rw [RUN.out] at st
              have EE := Lib.hid st
              clear st hb
              have FR := Lib.hid (show winEnd (ks xs) k = j by unfold winEnd; rw [RR.out, EE.out]; omega)
              go_wp2_with fail
              go_ret2
              exact ⟨retp (by rw [FR.out]) rfl, HB.out⟩
    · have st := runTo_stop (f := isReg) (ks := ks xs) (i := k) (fun h => by rw [KL.out, HLEN.out] at h; omega)
      rw [RUN.out] at st
      have RR := Lib.hid st
      have dk : decide (k < n) = false := by simp; omega
      clear st hb
      have XS := Lib.hid HB0.out
      by_cases hki : i < k
      · have l8 : (i : Int) < (k : Int) := by omega
        have FE := Lib.hid (winEnd_one (ks := ks xs) (i := i) (by rw [RR.out]; exact hki) (by rw [KL.out, HLEN.out]; exact hin))
        have FR := Lib.hid (show winEnd (ks xs) i = k by unfold winEnd; rw [RR.out, FE.out]; omega)
        go_wp2_with fail
        go_ret2
        exact ⟨retp (by rw [FR.out]) rfl, XS.out⟩
      · obtain rfl : k = i := by omega
        have l8 : ¬ (k : Int) < (k : Int) := by omega
        go_wp2_with fail
        go_loopw [6] (fun v wr => ∃ j : Nat, k ≤ j ∧ j ≤ n ∧ v = .int .i64 j ∧ runTo isExt (ks xs) j = runTo isExt (ks xs) k ∧ Below w.heap.size w wr) (fun v _ => n - (intOf v).toNat)
        case atStart => exact ⟨k, Nat.le_refl _, hin, rfl, rfl, XS.out⟩
        case round =>
          obtain ⟨j, hj1, hj2, rfl, hrun, hb⟩ := hrel
          have RUN := Lib.hid hrun
          have HB := Lib.hid hb
          clear hrun
          by_cases hjn : j < n
          · obtain ⟨h1, h2⟩ := bounds_i32 (HX.out.nth_wf hjn)
            obtain ⟨ad2, he2, hab2, hcx2⟩ := (HX.out.at_.below hb).2 (by omega)
            subst he2
            have hc2 := hcx2 j hjn
            have CC2 := Lib.hid (fun w' (hb : Below w.heap.size w w') => rclass_any (nth xs j) h1 h2 w')
            have kq := ks_at (xs := xs) (i := j) (by rw [HLEN.out]; exact hjn)
            have jl : j < (ks xs).length := by rw [KL.out, HLEN.out]; exact hjn
            clear hcx2 h1 h2 hb
            by_cases h4 : clu (nth xs j) = 4
            · have st := runTo_step (f := isExt) jl (by rw [kq, h4]; rfl)
              rw [RUN.out] at st
              have ST := Lib.hid st
              rw [h4] at CC2
              clear st kq h4 jl
              go_wp2_with fail
              refine (CC2.out _ HB.out).mono ?_
              rintro e w5 ⟨rfl, hv⟩
              have HB5 := Lib.hid (HB.out.trans (hv.mono HB.out.size))
              clear hv
              go_wp2_with fail
              go_roundw
              case rel => exact ⟨j + 1, by omega, by omega, by go_num, ST.out.symm, HB5.out⟩
              case measure => simp [intOf] <;> omega
            · by_cases h5 : clu (nth xs j) = 5
              · have st := runTo_step (f := isExt) jl (by rw [kq, h5]; rfl)
                rw [RUN.out] at st
                have ST := Lib.hid st
                rw [h5] at CC2
                clear st kq h4 h5 jl
                go_wp2_with fail
                refine (CC2.out _ HB.out).mono ?_
                rintro e w5 ⟨rfl, hv⟩
                have HB5 := Lib.hid (HB.out.trans (hv.mono HB.out.size))
                have hc5 := cell_pass hc2 hv
                clear hv
                go_wp2_with fail
                refine (CC2.out _ HB5.out).mono ?_
                rintro e w6 ⟨rfl, hv⟩
                have HB6 := Lib.hid (HB5.out.trans (hv.mono HB5.out.size))
                clear hv
                go_wp2_with fail
                go_roundw
                case rel => exact ⟨j + 1, by omega, by omega, by go_num, ST.out.symm, HB6.out⟩
                case measure => simp [intOf] <;> omega
              · have st := runTo_stop (f := isExt) (ks := ks xs) (i := j) (fun _ => by rw [kq]; simp [isExt, h4, h5])
                rw [RUN.out] at st
                have EE := Lib.hid st
                have n4 : ((clu (nth xs j) : Int) == 4) = false := by simpa using h4
                have n5 : ((clu (nth xs j) : Int) == 5) = false := by simpa using h5
                clear st kq h4 h5 jl
                generalize clu (nth xs j) = cj at *
                go_wp2_with fail
                refine (CC2.out _ HB.out).mono ?_
                rintro e w5 ⟨rfl, hv⟩
                have HB5 := Lib.hid (HB.out.trans (hv.mono HB.out.size))
                have hc5 := cell_pass hc2 hv
                clear hv
                go_wp2_with fail
                refine (CC2.out _ HB5.out).mono ?_
                rintro e w6 ⟨rfl, hv⟩
                have HB6 := Lib.hid (HB5.out.trans (hv.mono HB5.out.size))
                clear hv
                have FR := Lib.hid (show winEnd (ks xs) k = j by unfold winEnd; rw [RR.out, EE.out]; omega)
                go_wp2_with fail
                go_ret2
                exact ⟨retp (by rw [FR.out]) rfl, HB6.out⟩
          · have st := runTo_stop (f := isExt) (ks := ks xs) (i := j) (fun h => by rw [KL.out, HLEN.out] at h; omega)
            rw [RUN.out] at st
            have EE := Lib.hid st
            clear st hb
            have FR := Lib.hid (show winEnd (ks xs) k = j by unfold winEnd; rw [RR.out, EE.out]; omega)
            go_wp2_with fail
            go_ret2
            exact ⟨retp (by rw [FR.out]) rfl, HB.out⟩
theorem rwindow_any (A : Option Addr) (n c : Nat) (xs : List Int) (i : Int) (w : World) (hx : SliceIn .i32 w A n c xs) (hn : n ≤ 140737488355328) :
    Calls Tryd.prog 27 #[.slice A n c, .int .i64 i] w fun e w' => e = .returned (.tuple #[.int .i64 (winF0 (ks xs) i), .int .i64 (winT0 (ks xs) i)]) ∧ Below w.heap.size w w' := by
  have hk : (ks xs).length = n := by rw [ks_len]; exact hx.at_.len
  by_cases hout : i < 0 ∨ (n : Int) < i
  · have e1 : winF0 (ks xs) i = 0 := by unfold winF0; rw [hk, if_pos hout]
    have e2 : winT0 (ks xs) i = 0 := by unfold winT0; rw [hk, if_pos hout]
    rw [e1, e2]
    clear e1 e2 hk hx 
    by_cases hneg : i < 0
    · clear hout
      go_enter Tryd.func27, Tryd.ntmps27
      go_wp2_with fail
      go_ret2
      exact ⟨rfl, Below.refl _ _⟩
    · have hbig : (n : Int) < i := by omega
      clear hout
      go_enter Tryd.func27, Tryd.ntmps27
      go_wp2_with fail
      go_ret2
      exact ⟨rfl, Below.refl _ _⟩
  · obtain ⟨k, rfl⟩ : ∃ k : Nat, i = k := ⟨i.toNat, by omega⟩
    have e1 : winF0 (ks xs) (k : Int) = k := by unfold winF0; rw [hk, if_neg hout]
    have e2 : winT0 (ks xs) (k : Int) = ((winEnd (ks xs) k : Nat) : Int) := by unfold winT0; rw [hk, if_neg hout]; rfl
    rw [e1, e2]
    exact rwin_any A n c xs k (by omega) w hx hn
end Go.Proofs.YtcldegpfkpmciaaDoor
