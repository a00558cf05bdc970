/- Chapter 10: the walks of BaseParas, BaseMatches, BaseLevels. -/
import Derived.Test.YtanfcfppmpabpaaDoorBal
namespace Go.Proofs.YtanfcfppmpabpaaDoor
open Go.ChangeShapes Go.WideShapes Go.ChangeAt Go.RowKit
set_option maxRecDepth 100000
set_option linter.unusedSimpArgs false

set_option maxHeartbeats 1000000 in
theorem BaseLevels_walk (A : Option Addr) (n c : Nat) (xs : List Int) (a : Int) (_ha : (Lit.int .i64 a).wf = true) (b : Int) (_hb : (Lit.int .i64 b).wf = true) (w : World) (hx : SliceIn .i64 w A n c xs) (hl : Laid w) :
    Calls Tryd.prog 5 #[.slice A n c, .int .i64 a, .int .i64 b] w fun e w' => e = .returned (.bool true) ∧ Below w.heap.size w w' := by
  have HX := Lib.hid hx
  have HL := Lib.hid hl
  have hle := hx.le
  clear hx hl
  by_cases hlen : 200 < n
  · go_enter Tryd.func5, Tryd.ntmps5
    go_wp2_with fail
    refine (alive10_any _ HL.out).mono ?_
    rintro e w1 ⟨rfl, hb1⟩
    go_wp2_with fail
    go_ret
    exact ⟨rfl, hb1⟩
  · have P1 := Lib.hid (fun w' (hb : Below w.heap.size w w') => pLevel_any A n c xs w' (HX.out.pass hb).at_ hle (by omega))
    have P2 := Lib.hid (fun w' (hb : Below w.heap.size w w') => rLevel_any A n c xs w' (HX.out.pass hb).at_ hle (by omega))
    have P3 := Lib.hid (fun w' (hb : Below w.heap.size w w') => pFirst_any A n c xs a b w' (HX.out.pass hb).at_ hle (by omega))
    have P4 := Lib.hid (fun w' (hb : Below w.heap.size w w') => rFirst_any A n c xs a b w' (HX.out.pass hb).at_ hle (by omega))
    generalize firstOf xs a b = f at *
    generalize levelOf (scn xs 0) = l at *
    generalize levelOk (scn xs 0) = k at *
    go_enter Tryd.func5, Tryd.ntmps5
    go_wp2_with fail
    refine (P1.out _ (Below.refl _ _)).mono ?_
    rintro e w1 ⟨rfl, x1⟩
    go_wp2_with fail
    refine (P2.out _ x1).mono ?_
    rintro e w2 ⟨rfl, hb2⟩
    have x2 := x1.trans (hb2.mono x1.size)
    go_wp2_with fail
    refine (P3.out _ x2).mono ?_
    rintro e w3 ⟨rfl, hb3⟩
    have x3 := x2.trans (hb3.mono x2.size)
    go_wp2_with fail
    refine (P4.out _ x3).mono ?_
    rintro e w4 ⟨rfl, hb4⟩
    have x4 := x3.trans (hb4.mono x3.size)
    go_wp2_with fail
    refine (alive10_any _ (HL.out.pass x4)).mono ?_
    rintro e w5 ⟨rfl, hb5⟩
    have x5 := x4.trans (hb5.mono x4.size)
    go_wp2_with fail
    go_ret
    exact ⟨rfl, x5⟩

set_option maxHeartbeats 1000000 in
theorem BaseMatches_walk (A : Option Addr) (n c : Nat) (xs : List Int) (w : World) (hx : SliceIn .i64 w A n c xs) (hl : Laid w) :
    Calls Tryd.prog 4 #[.slice A n c] w fun e w' => e = .returned (.bool true) ∧ Below w.heap.size w w' := by
  have HX := Lib.hid hx
  have HL := Lib.hid hl
  clear hx hl
  by_cases hlen : 200 < n
  · go_enter Tryd.func4, Tryd.ntmps4
    go_wp2_with fail
    refine (alive10_any _ HL.out).mono ?_
    rintro e w1 ⟨rfl, hb1⟩
    go_wp2_with fail
    go_ret
    exact ⟨rfl, hb1⟩
  · have P1 := Lib.hid (pMatch_any A n c xs w HX.out.at_ (by omega))
    have P2 := Lib.hid (fun w' (hb : Below w.heap.size w w') => rMatch_any A n c xs w' (HX.out.pass hb).at_ (by omega))
    go_enter Tryd.func4, Tryd.ntmps4
    go_wp2_with fail
    refine P1.out.mono ?_
    rintro e w1 ⟨A1, c1, rfl, o1, x1⟩
    go_wp2_with fail
    refine (P2.out _ x1).mono ?_
    rintro e w2 ⟨A2, c2, rfl, o2, hb2⟩
    have X2 := Lib.hid (x1.trans (hb2.mono x1.size))
    have O1 := Lib.hid (o1.pass hb2)
    have O2 := Lib.hid o2
    clear o1 o2 x1 hb2 P1 P2
    go_wp2_with fail
    go_loopw [21] (fun i wr => ∃ k : Nat, k ≤ n ∧ i = .int .i64 k ∧ Below w2.heap.size w2 wr) (fun i _ => n - (intOf i).toNat)
    case atStart => exact ⟨0, Nat.zero_le _, rfl, Below.refl _ _⟩
    case round =>
      obtain ⟨k, hk, rfl, hb⟩ := hrel
      by_cases hlt : k < n
      · have oa := O1.out.pass hb
        have ob := O2.out.pass hb
        obtain ⟨ga, rfl, _⟩ := OwnV.form oa (by omega)
        obtain ⟨gb, rfl, _⟩ := OwnV.form ob (by omega)
        have ca := own_cell oa hlt
        have cb := own_cell ob hlt
        have HB := Lib.hid hb
        clear oa ob hb
        generalize nth (matches_ xs) k = v at *
        go_wp2_with fail
        go_quiet (fail)
        go_wp2_with fail
        go_roundw
        case rel => exact ⟨k + 1, by omega, by go_num, below_drewN HB.out _⟩
        case measure => simp [intOf] <;> omega
      · obtain rfl : k = n := by omega
        have X3 := Lib.hid (X2.out.trans (hb.mono X2.out.size))
        go_wp2_with fail
        refine (alive10_any _ (HL.out.pass X3.out)).mono ?_
        rintro e w5 ⟨rfl, hb5⟩
        have x5 := X3.out.trans (hb5.mono X3.out.size)
        go_wp2_with fail
        go_ret
        exact ⟨rfl, x5⟩

set_option maxHeartbeats 1000000 in
theorem BaseParas_walk (A : Option Addr) (n c : Nat) (xs : List Int) (w : World) (hx : SliceIn .i32 w A n c xs) (hl : Laid w) :
    Calls Tryd.prog 3 #[.slice A n c] w fun e w' => e = .returned (.bool true) ∧ Below w.heap.size w w' := by
  have HX := Lib.hid hx
  have HL := Lib.hid hl
  clear hx hl
  by_cases hlen : 300 < n
  · go_enter Tryd.func3, Tryd.ntmps3
    go_wp2_with fail
    refine (alive10_any _ HL.out).mono ?_
    rintro e w1 ⟨rfl, hb1⟩
    go_wp2_with fail
    go_ret
    exact ⟨rfl, hb1⟩
  · have P1 := Lib.hid (pParas_any A n c xs w HL.out HX.out (by omega))
    have P2 := Lib.hid (fun w' (hb : Below w.heap.size w w') => rParas_any A n c xs w' (HX.out.pass hb) (by omega))
    have hpl := paras_len xs
    rw [HX.out.at_.len] at hpl
    obtain ⟨ps, hps⟩ : ∃ ps, paras xs = ps := ⟨_, rfl⟩
    rw [hps] at P1 P2 hpl
    clear hps
    obtain ⟨m, hm⟩ : ∃ m, ps.length = m := ⟨_, rfl⟩
    have HM := Lib.hid hm
    rw [hm] at hpl
    unfold NewCuts at P1 P2
    rw [hm] at P1 P2
    clear hm
    go_enter Tryd.func3, Tryd.ntmps3
    go_wp2_with fail
    refine P1.out.mono ?_
    rintro e w1 ⟨A1, c1, rfl, o1, x1⟩
    go_wp2_with fail
    refine (P2.out _ x1).mono ?_
    rintro e w2 ⟨A2, c2, rfl, o2, hb2⟩
    have X2 := Lib.hid (x1.trans (hb2.mono x1.size))
    have O1 := Lib.hid (o1.pass hb2)
    have O2 := Lib.hid o2
    clear o1 o2 x1 hb2 P1 P2
    go_wp2_with fail
    go_loopw [21] (fun i wr => ∃ k : Nat, k ≤ m ∧ i = .int .i64 k ∧ Below w2.heap.size w2 wr) (fun i _ => m - (intOf i).toNat)
    case atStart => exact ⟨0, Nat.zero_le _, rfl, Below.refl _ _⟩
    case round =>
      obtain ⟨k, hk, rfl, hb⟩ := hrel
      by_cases hlt : k < m
      · have oa := O1.out.pass hb
        have ob := O2.out.pass hb
        obtain ⟨ga, rfl, _⟩ := OwnV.form oa (by omega)
        obtain ⟨gb, rfl, _⟩ := OwnV.form ob (by omega)
        obtain ⟨v1, v2⟩ := cutsV_at ps k (by rw [HM.out]; exact hlt)
        have ca := (OwnV.cellAt oa (k * 2) (by omega)).trans v1
        have ca2 := (OwnV.cellAt oa (k * 2 + 1) (by omega)).trans v2
        have cb := (OwnV.cellAt ob (k * 2) (by omega)).trans v1
        have cb2 := (OwnV.cellAt ob (k * 2 + 1) (by omega)).trans v2
        have HB := Lib.hid hb
        clear oa ob hb v1 v2
        generalize (rng ps k).1 = f at *
        generalize (rng ps k).2 = t at *
        have cn := cutNeq f t
        go_wp2_with fail
        go_quiet (fail)
        go_wp2_with fail
        go_roundw
        case rel => exact ⟨k + 1, by omega, by go_num, below_drewN HB.out _⟩
        case measure => simp [intOf] <;> omega
      · obtain rfl : k = m := by omega
        have X3 := Lib.hid (X2.out.trans (hb.mono X2.out.size))
        go_wp2_with fail
        refine (alive10_any _ (HL.out.pass X3.out)).mono ?_
        rintro e w5 ⟨rfl, hb5⟩
        have x5 := X3.out.trans (hb5.mono X3.out.size)
        go_wp2_with fail
        go_ret
        exact ⟨rfl, x5⟩
end Go.Proofs.YtanfcfppmpabpaaDoor
