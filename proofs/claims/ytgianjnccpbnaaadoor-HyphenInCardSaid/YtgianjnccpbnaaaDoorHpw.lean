/- Chapter 20: the program's reading of a pattern: which letters and digits are right. -/
import Derived.Test.YtgianjnccpbnaaaDoorRows
import Derived.Test.YtgianjnccpbnaaaDoorHlaw
import Derived.Test.YtgianjnccpbnaaaDoorCut
import Derived.Deep.DeepCutAuto
import Derived.Deep.CutBlock
namespace Go.Proofs.YtgianjnccpbnaaaDoor
open Go.ChangeShapes Go.WideShapes Go.ChangeAt Go.RowKit
set_option maxRecDepth 100000
set_option linter.unusedSimpArgs false

set_option maxHeartbeats 1000000 in
theorem right_any (A : Option Addr) (n c : Nat) (ls : List Int) (w : World) (hx : IntsAt w w.heap.size .i32 A n ls) (hn : n ≤ 140737488355328) :
    Calls Tryd.prog 40 #[.slice A n c] w fun e w' => e = .returned (.bool (rightB ls)) ∧ w = w' := by
  have HX := Lib.hid hx
  have HLEN := Lib.hid hx.len
  clear hx
  go_enter Tryd.func40, Tryd.ntmps40
  go_wp2_with fail
  go_loopg [3, 10] (n + 1) (fun g m i wr => ∃ k : Nat, k ≤ n ∧ n - k < g ∧ i = .int .i64 k ∧ m = .int .i64 ((notDots (ls.take k) : Int) + (n - k)) ∧ (∀ j, j < k → rbad ls j = false) ∧ wr = w)
  case atStart => exact ⟨0, Nat.zero_le _, by omega, rfl, by simp [notDots], fun j h => by omega, rfl⟩
  case round =>
    obtain ⟨k, hk, hg, rfl, rfl, hall, rfl⟩ := hrel
    have HALL := Lib.hid hall
    clear hall
    have hnd := notDots_le (ls.take k)
    have hkl : (ls.take k).length ≤ k := List.length_take_le _ _
    by_cases hlt : k < n
    · obtain ⟨ad, rfl, hab, hcx⟩ := HX.out.2 (by omega)
      have hc := hcx k hlt
      have NT := Lib.hid (notDots_take (ls := ls) (i := k) (by rw [HLEN.out]; exact hlt))
      have RB := rbad_iff ls k
      rw [HLEN.out] at RB
      generalize hr : nth ls k = r at hc NT RB
      have RB := Lib.hid RB
      clear hr hcx
      go_wp2_with fail
      all_goals first
        | (go_roundg (n - k); case measure => omega
           case rel =>
             refine ⟨k + 1, by omega, by omega, by go_num, ?_, fun j hj => ?_, rfl⟩
             · rw [NT.out]; first | rw [if_pos (by simp; omega)] | rw [if_neg (by simp; omega)]
               go_num
             · rcases Nat.lt_or_ge j k with h1 | h1
               · exact HALL.out j h1
               · obtain rfl : j = k := by omega
                 cases hb : rbad ls j with
                 | false => rfl
                 | true => have := RB.out.1 hb; omega)
        | (go_ret
           exact ⟨retb (rightB_false (i := k) (by rw [HLEN.out]; exact hlt) (RB.out.2 (by omega))).symm, rfl⟩)
    · obtain rfl : k = n := by omega
      have E := Lib.hid (rightB_end (ls := ls) (fun j hj => HALL.out j (by rw [HLEN.out] at hj; exact hj)))
      have et : ls.take k = ls := List.take_of_length_le (by rw [HLEN.out]; exact Nat.le_refl _)
      rw [et] at hnd ⊢
      clear et
      generalize notDots ls = m at *
      go_wp2_with fail
      all_goals go_ret
      all_goals refine ⟨retb ?_, rfl⟩
      all_goals rw [E.out]
      all_goals rw [Bool.eq_iff_iff]
      all_goals simp
      all_goals omega

set_option maxHeartbeats 1000000 in
theorem some_any (A : Option Addr) (n c : Nat) (ds : List Int) (w : World) (hx : IntsAt w w.heap.size .i64 A n ds) (hn : n ≤ 140737488355328) :
    Calls Tryd.prog 41 #[.slice A n c] w fun e w' => e = .returned (.bool (someB ds)) ∧ w = w' := by
  have HX := Lib.hid hx
  have HLEN := Lib.hid hx.len
  clear hx
  go_enter Tryd.func41, Tryd.ntmps41
  go_wp2_with fail
  go_loopg [3, 8] (n + 1) (fun g b i wr => ∃ k : Nat, k ≤ n ∧ n - k < g ∧ i = .int .i64 k ∧ b = .bool (anyB (ds.take k)) ∧ (∀ j, j < k → dbad ds j = false) ∧ wr = w)
  case atStart => exact ⟨0, Nat.zero_le _, by omega, rfl, by simp [anyB], fun j h => by omega, rfl⟩
  case round =>
    obtain ⟨k, hk, hg, rfl, rfl, hall, rfl⟩ := hrel
    have HALL := Lib.hid hall
    clear hall
    by_cases hlt : k < n
    · obtain ⟨ad, rfl, hab, hcx⟩ := HX.out.2 (by omega)
      have hc := hcx k hlt
      have NT := Lib.hid (anyB_take (ds := ds) (i := k) (by rw [HLEN.out]; exact hlt))
      have DB := dbad_iff' ds k _ rfl
      generalize hr : nth ds k = r at hc NT DB
      have DB := Lib.hid (show dbad ds k = true ↔ (r < 0 ∨ 9 < r) by unfold dbad; rw [hr]; simp)
      clear hr hcx
      generalize anyB (ds.take k) = b0 at *
      cases b0
      all_goals go_wp2_with fail
      all_goals first
        | (go_roundg (n - k); case measure => omega
           case rel =>
             refine ⟨k + 1, by omega, by omega, by go_num, ?_, fun j hj => ?_, rfl⟩
             · rw [NT.out]
               first | rfl | (congr 1; rw [Bool.eq_iff_iff]; simp; done) | (congr 1; rw [Bool.eq_iff_iff]; simp; omega)
             · rcases Nat.lt_or_ge j k with h1 | h1
               · exact HALL.out j h1
               · obtain rfl : j = k := by omega
                 cases hb : dbad ds j with
                 | false => rfl
                 | true => have := DB.out.1 hb; omega)
        | (go_ret
           exact ⟨retb (someB_false (i := k) (by rw [HLEN.out]; exact hlt) (DB.out.2 (by omega))).symm, rfl⟩)
    · obtain rfl : k = n := by omega
      have E := Lib.hid (someB_end (ds := ds) (fun j hj => HALL.out j (by rw [HLEN.out] at hj; exact hj)))
      have et : ds.take k = ds := List.take_of_length_le (by rw [HLEN.out]; exact Nat.le_refl _)
      rw [et]
      clear et
      go_wp2_with fail
      go_ret
      exact ⟨retb E.out.symm, rfl⟩

set_option maxHeartbeats 1000000 in
theorem prefix0_any (t : ByteArray) (h0 : t.size ≤ 9223372036854775807) (w : World) :
    Calls Tryd.prog 66 #[.string t, .string ⟨#[239, 191, 189]⟩] w fun e w' => e = .returned (.bool (decide (3 ≤ t.size ∧ bt t 0 = 239 ∧ bt t 1 = 191 ∧ bt t 2 = 189))) ∧ w = w' := by
  by_cases h3 : 3 ≤ t.size
  · have E := Lib.hid (pre3 t h3)
    go_enter Tryd.func66, Tryd.ntmps66
    go_wp2_with fail
    go_ret
    exact ⟨retb E.out, rfl⟩
  · have E : decide (3 ≤ t.size ∧ bt t 0 = 239 ∧ bt t 1 = 191 ∧ bt t 2 = 189) = false := by simp [h3]
    rw [E]
    clear E
    go_enter Tryd.func66, Tryd.ntmps66
    go_wp2_with fail
    go_ret
    exact ⟨rfl, rfl⟩
theorem prefix_any (t : ByteArray) (h0 : t.size ≤ 9223372036854775807) (w : World) :
    Calls Tryd.prog 39 #[.string t, .string ⟨#[239, 191, 189]⟩] w fun e w' => e = .returned (.bool (decide (3 ≤ t.size ∧ bt t 0 = 239 ∧ bt t 1 = 191 ∧ bt t 2 = 189))) ∧ w = w' := by
  generalize hb : decide (3 ≤ t.size ∧ bt t 0 = 239 ∧ bt t 1 = 191 ∧ bt t 2 = 189) = b
  have C := fun W => prefix0_any t h0 W
  rw [hb] at C
  have C := Lib.hid C
  clear hb
  go_enter Tryd.func39, Tryd.ntmps39
  go_wp2_with fail
  refine (C.out _).mono ?_
  rintro e w' ⟨rfl, rfl⟩
  go_wp2_with fail
  go_ret
  exact ⟨rfl, rfl⟩
end Go.Proofs.YtgianjnccpbnaaaDoor
