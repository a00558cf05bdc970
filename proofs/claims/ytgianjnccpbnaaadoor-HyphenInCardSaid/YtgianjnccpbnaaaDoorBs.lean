/- slices.BinarySearch over integers, of a list that rises. -/
import Derived.Test.YtgianjnccpbnaaaDoorWlaw
import Derived.Test.YtgianjnccpbnaaaDoorCut
import Derived.Test.YtgianjnccpbnaaaDoorOfs
import Derived.IntWalk
namespace Go.Proofs.YtgianjnccpbnaaaDoor
open Go.ChangeShapes Go.WideShapes Go.ChangeAt Go.RowKit
set_option maxRecDepth 100000
set_option linter.unusedSimpArgs false

theorem nan_any (x : Int) (w : World) : Calls Tryd.prog 32 #[.int .i64 x] w fun e w' => e = .returned (.bool false) ∧ w = w' := by
  go_enter Tryd.func32, Tryd.ntmps32
  go_wp2
  go_ret
  exact ⟨retb (by simp), rfl⟩
theorem less_any (x y : Int) (w : World) : Calls Tryd.prog 31 #[.int .i64 x, .int .i64 y] w fun e w' => e = .returned (.bool (decide (x < y))) ∧ w = w' := by
  go_enter Tryd.func31, Tryd.ntmps31
  go_wp2
  all_goals go_ret
  all_goals exact ⟨retb (by simp_all), rfl⟩

def BsPost (w : World) (l : List Nat) (i : Int) (e : Ending) (w' : World) : Prop :=
  ∃ (p : Nat) (f : Bool), e = .returned (.tuple #[.int .i64 (p : Int), .bool f]) ∧ p ≤ l.length ∧ (∀ j, j < p → (atN l j : Int) < i) ∧ (∀ j, p ≤ j → j < l.length → i ≤ (atN l j : Int)) ∧ (f = true ↔ p < l.length ∧ (atN l p : Int) = i) ∧ w = w'

set_option maxHeartbeats 2000000 in
theorem pbs_any (A : Option Addr) (n c : Nat) (l : List Nat) (hr : Rise l) (i : Int) (w : World) (hl : IntsAt w w.heap.size .i64 A n (l.map Int.ofNat)) (hn : n ≤ 140737488355328) :
    Calls Tryd.prog 18 #[.slice A n c, .int .i64 i] w (BsPost w l i) := by
  have hlen : l.length = n := by have := hl.1; simpa using this
  have HLEN := Lib.hid hlen
  have HL := Lib.hid hl
  have HR := Lib.hid hr
  clear hl hr hlen
  go_enter Tryd.func18, Tryd.ntmps18
  go_wp2_with fail
  go_loop [7, 8] (fun u v => ∃ (p q : Nat), p ≤ q ∧ q ≤ n ∧ u = .int .i64 p ∧ v = .int .i64 q ∧ (∀ j, j < p → (atN l j : Int) < i) ∧ (∀ j, q ≤ j → j < n → i ≤ (atN l j : Int))) (fun u v => ((intOf v).toNat - (intOf u).toNat))
  case atStart => exact ⟨0, n, Nat.zero_le _, Nat.le_refl _, rfl, rfl, fun j h => by omega, fun j h1 h2 => by omega⟩
  case round =>
    obtain ⟨p, q, hpq, hqn, rfl, rfl, hlo, hhi⟩ := hrel
    have LO := Lib.hid hlo
    have HI := Lib.hid hhi
    clear hlo hhi
    by_cases hlt : p < q
    · obtain ⟨h, hh⟩ : ∃ h, (p + q) / 2 = h := ⟨_, rfl⟩
      have hp : p ≤ h := by omega
      have hq : h < q := by omega
      have hh2 : ((p : Int) + (q : Int)) / 2 = (h : Int) := by omega
      obtain ⟨ad, rfl, hab, hcx⟩ := HL.out.2 (by omega)
      have hc := hcx h (by omega)
      rw [nth_map (by rw [HLEN.out]; omega)] at hc
      have MONO := Lib.hid (fun a b (h1 : a ≤ b) (h2 : b < n) => (show atN l a ≤ atN l b by
        rcases Nat.eq_or_lt_of_le h1 with h3 | h3
        · rw [h3]; exact Nat.le_refl _
        · exact Nat.le_of_lt (HR.out.lt' h3 (by rw [HLEN.out]; exact h2))))
      have l1 : (h : Int) < (n : Int) := by omega
      obtain ⟨v, hv⟩ : ∃ v, atN l h = v := ⟨_, rfl⟩
      rw [hv] at hc
      have HV := Lib.hid hv
      clear hh hcx hv
      by_cases hlv : (v : Int) < i
      · have d1 : decide ((v : Int) < i) = true := by simpa using hlv
        go_wp2_with (go_at_call 31; refine (less_any _ _ _).mono ?_; rintro e w' ⟨rfl, rfl⟩)
        go_round
        case rel => exact ⟨h + 1, q, by omega, hqn, by go_num, rfl, fun j hj => by have := MONO.out j h (by omega) (by omega); have := HV.out; omega, HI.out⟩
        case measure => simp [intOf] <;> omega
      · have d1 : decide ((v : Int) < i) = false := by simpa using hlv
        go_wp2_with (go_at_call 31; refine (less_any _ _ _).mono ?_; rintro e w' ⟨rfl, rfl⟩)
        go_round
        case rel => exact ⟨p, h, hp, by omega, rfl, rfl, LO.out, fun j hj1 hj2 => by have := MONO.out h j hj1 hj2; have := HV.out; omega⟩
        case measure => simp [intOf] <;> omega
    · obtain rfl : p = q := by omega
      by_cases hpn : p < n
      · obtain ⟨ad, rfl, hab, hcx⟩ := HL.out.2 (by omega)
        have hc := hcx p hpn
        rw [nth_map (by rw [HLEN.out]; exact hpn)] at hc
        obtain ⟨v, hv⟩ : ∃ v, atN l p = v := ⟨_, rfl⟩
        rw [hv] at hc
        have HV := Lib.hid hv
        clear hcx hv
        by_cases hvi : (v : Int) = i
        · have d1 : ((v : Int) == i) = true := by simpa using hvi
          have D1 := Lib.hid hvi
          clear hvi
          go_wp2_with (go_at_call 32; refine (nan_any _ _).mono ?_; rintro e w' ⟨rfl, rfl⟩)
          go_ret2
          exact ⟨p, true, rfl, by rw [HLEN.out]; omega, LO.out, fun j h1 h2 => HI.out j h1 (by rw [HLEN.out] at h2; exact h2), by rw [HV.out, HLEN.out]; simp [D1.out, hpn], rfl⟩
        · have d1 : ((v : Int) == i) = false := by simpa using hvi
          have D1 := Lib.hid hvi
          clear hvi
          go_wp2_with (go_at_call 32; refine (nan_any _ _).mono ?_; rintro e w' ⟨rfl, rfl⟩)
          go_ret2
          exact ⟨p, false, rfl, by rw [HLEN.out]; omega, LO.out, fun j h1 h2 => HI.out j h1 (by rw [HLEN.out] at h2; exact h2), by rw [HV.out]; simp [D1.out], rfl⟩
      · go_wp2_with fail
        go_ret2
        exact ⟨p, false, rfl, by rw [HLEN.out]; omega, LO.out, fun j h1 h2 => HI.out j h1 (by rw [HLEN.out] at h2; exact h2), by rw [HLEN.out]; simp [hpn], rfl⟩
end Go.Proofs.YtgianjnccpbnaaaDoor
