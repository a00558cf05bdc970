/- Chapter 10: the walk of BaseNests. -/
import Derived.Test.YtanfcfppmpabpaaDoorBal
namespace Go.Proofs.YtanfcfppmpabpaaDoor
open Go.ChangeShapes Go.WideShapes Go.ChangeAt Go.RowKit
set_option maxRecDepth 100000
set_option linter.unusedSimpArgs false

set_option maxHeartbeats 4000000 in
theorem BaseNests_walk (A : Option Addr) (n c : Nat) (xs : List Int) (w : World) (hx : SliceIn .i64 w A n c xs) (hl : Laid w) :
    Calls Tryd.prog 7 #[.slice A n c] w fun e w' => e = .returned (.bool true) ∧ Below w.heap.size w w' := by
  have HX := Lib.hid hx
  have HL := Lib.hid hl
  have HLEN := Lib.hid hx.at_.len
  clear hx hl
  by_cases hlen : 200 < n
  · go_enter Tryd.func7, Tryd.ntmps7
    go_wp2_with fail
    refine (alive10_any _ HL.out).mono ?_
    rintro e w1 ⟨rfl, hb1⟩
    go_wp2_with fail
    go_ret
    exact ⟨rfl, hb1⟩
  · have hn : n ≤ 200 := by omega
    have P1 := Lib.hid (pMatch_any A n c xs w HX.out.at_ (by omega))
    go_enter Tryd.func7, Tryd.ntmps7
    go_wp2_with fail
    refine P1.out.mono ?_
    rintro e w1 ⟨A1, c1, rfl, o1, x1⟩
    have X1 := Lib.hid x1
    have OI := Lib.hid o1.ints
    have XI := Lib.hid (HX.out.pass x1).at_
    clear o1 x1 P1
    go_wp2_with fail
    go_loop [21] (fun i => ∃ k : Nat, k ≤ n ∧ i = .int .i64 k) (fun i => n - (intOf i).toNat)
    case atStart => exact ⟨0, Nat.zero_le _, rfl⟩
    case round =>
      obtain ⟨k, hk, rfl⟩ := hrel
      by_cases hlt : k < n
      · obtain ⟨ad, rfl, hab, hcx⟩ := XI.out.2 (by omega)
        obtain ⟨am, rfl, hbm, hcm⟩ := OI.out.2 (by omega)
        have MN := Lib.hid (matches_nest (cs := xs) (i := k) (by rw [HLEN.out]; exact hlt))
        have hck := hcx k hlt
        have hmk := hcm k hlt
        have HCX := Lib.hid hcx
        have HCM := Lib.hid hcm
        clear hcx hcm
        rcases MN.out with h1 | ⟨q, h1, h2, h3, h4, h5⟩
        · rw [h1] at hmk
          clear h1
          go_wp2_with fail
          go_round
          case rel => exact ⟨k + 1, by omega, by go_num⟩
          case measure => simp [intOf] <;> omega
        · rw [HLEN.out] at h1
          rw [h2] at hmk
          have hmq := HCM.out q h1
          rw [h3] at hmq
          have pq : (0 : Int) ≤ (q : Int) := by omega
          have nq : ((q : Int) == -1) = false := by simp <;> omega
          by_cases hqk : q < k
          · clear h2 h3 h5
            go_wp2_with fail
            go_round
            case rel => exact ⟨k + 1, by omega, by go_num⟩
            case measure => simp [intOf] <;> omega
          · have hkq : k < q := by omega
            obtain ⟨ho, h23, hin⟩ := h5 hkq
            have HIN := Lib.hid hin
            have hcq := HCX.out q h1
            rw [h23] at hcq
            have hop : nth xs k = 20 ∨ nth xs k = 21 ∨ nth xs k = 22 := by simpa [opnB, or_assoc] using ho
            clear h2 h3 h5 hin h23 ho h4
            rcases hop with ho | ho | ho
            all_goals
              rw [ho] at hck
              clear ho
              go_wp2_with fail
              go_loop [7] (fun i => ∃ j : Nat, k + 1 ≤ j ∧ j ≤ q ∧ i = .int .i64 j) (fun i => q - (intOf i).toNat)
              case atStart => exact ⟨k + 1, Nat.le_refl _, by omega, by go_num⟩
              case round =>
                obtain ⟨j, hj1, hj2, rfl⟩ := hrel
                by_cases hjq : j < q
                · obtain ⟨g1, g2, g3⟩ := HIN.out j (by omega) hjq
                  have cj := HCX.out j (by omega)
                  have mj := HCM.out j (by omega)
                  have b11 : ((nth xs j : Int) == 11) = false := by simpa using g1
                  by_cases hm : nth (matches_ xs) j = -1
                  · have b23 : ((nth xs j : Int) == 23) = false := by simpa using g3 hm
                    rw [hm] at mj
                    clear g1 g2 g3 hm
                    generalize nth xs j = x at *
                    go_wp2_with fail
                    go_round
                    case rel => exact ⟨j + 1, by omega, by omega, by go_num⟩
                    case measure => simp [intOf] <;> omega
                  · obtain ⟨f1, f2⟩ := g2 hm
                    have bm : ((nth (matches_ xs) j : Int) == -1) = false := by simpa using hm
                    have bm2 : ((nth (matches_ xs) j : Int) != -1) = true := by simpa using hm
                    have f3 : ¬ nth (matches_ xs) j ≤ (k : Int) := by omega
                    have f4 : ¬ (q : Int) ≤ nth (matches_ xs) j := by omega
                    clear g1 g2 g3 hm
                    generalize nth xs j = x at *
                    generalize nth (matches_ xs) j = y at *
                    go_wp2_with fail
                    go_round
                    case rel => exact ⟨j + 1, by omega, by omega, by go_num⟩
                    case measure => simp [intOf] <;> omega
                · obtain rfl : j = q := by omega
                  go_wp2_with fail
                  go_round
                  case rel => exact ⟨k + 1, by omega, by go_num⟩
                  case measure => simp [intOf] <;> omega
      · obtain rfl : k = n := by omega
        go_wp2_with fail
        refine (alive10_any _ (HL.out.pass X1.out)).mono ?_
        rintro e w5 ⟨rfl, hb5⟩
        have x5 := X1.out.trans (hb5.mono X1.out.size)
        go_wp2_with fail
        go_ret
        exact ⟨rfl, x5⟩
end Go.Proofs.YtanfcfppmpabpaaDoor
