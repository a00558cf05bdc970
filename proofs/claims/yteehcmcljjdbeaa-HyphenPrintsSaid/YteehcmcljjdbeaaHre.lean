/- Chapter 20: the reference's Encode. -/
import Derived.Test.YteehcmcljjdbeaaHrw
import Derived.Test.YteehcmcljjdbeaaHpl
namespace Go.Proofs.Yteehcmcljjdbeaa
open Go.ChangeShapes Go.WideShapes Go.ChangeAt Go.RowKit
set_option maxRecDepth 100000
set_option linter.unusedSimpArgs false

set_option maxHeartbeats 1000000 in
theorem one_any (r : Int) (w : World) : Calls Try.prog 71 #[.int .i32 r] w fun e w' => e = .returned (.bool (scalar r)) ∧ w = w' := by
  obtain ⟨q, hq⟩ : ∃ q, scalar r = q := ⟨_, rfl⟩
  have HQ : Shut (q = true ↔ (0 ≤ r ∧ r < 55296) ∨ (57343 < r ∧ r ≤ 1114111)) := ⟨by rw [← hq]; unfold scalar; simp⟩
  rw [hq]
  clear hq
  go_enter Try.func71, Try.ntmps71
  go_wp2
  all_goals go_ret
  all_goals refine ⟨retb ?_, rfl⟩
  all_goals rw [Bool.eq_iff_iff, HQ.out]
  all_goals simp
  all_goals omega
def rightT (t : List Int) : Bool := t.all scalar
theorem rightT_false {t : List Int} {i : Nat} (h : i < t.length) (hs : scalar (nth t i) = false) : rightT t = false := by
  rw [Bool.eq_false_iff]
  intro h2
  unfold rightT at h2
  rw [List.all_eq_true] at h2
  have := h2 _ (List.getElem_mem h)
  rw [← nth_eq h, hs] at this
  cases this
theorem rightT_true {t : List Int} (h : ∀ j, j < t.length → scalar (nth t j) = true) : rightT t = true := by
  unfold rightT
  rw [List.all_eq_true]
  intro x hx
  obtain ⟨i, hi, rfl⟩ := List.getElem_of_mem hx
  rw [← nth_eq hi]
  exact h i hi
set_option maxHeartbeats 1000000 in
theorem rightT_any (A : Option Addr) (n c : Nat) (t : List Int) (w : World) (hx : IntsAt w w.heap.size .i32 A n t) (hn : n ≤ 140737488355328) :
    Calls Try.prog 61 #[.slice A n c] w fun e w' => e = .returned (.bool (rightT t)) ∧ w = w' := by
  have HX : Shut _ := ⟨hx⟩
  have HLEN : Shut (t.length = n) := ⟨hx.len⟩
  clear hx
  go_enter Try.func61, Try.ntmps61
  go_wp2_with fail
  go_loopg [3] (n + 1) (fun g v wr => ∃ k : Nat, k ≤ n ∧ n - k < g ∧ v = .int .i64 (k : Int) ∧ Shut (∀ j, j < k → scalar (nth t j) = true) ∧ wr = w)
  case atStart => exact ⟨0, Nat.zero_le _, by omega, rfl, ⟨fun j h => by omega⟩, rfl⟩
  case round =>
    obtain ⟨k, hk, hg, rfl, HALL, rfl⟩ := hrel
    by_cases hlt : k < n
    · obtain ⟨ad, rfl, hab, hcx⟩ := HX.out.2 (by omega)
      have hc := hcx k hlt
      have CO : Shut (∀ W, _) := ⟨fun W => one_any (nth t k) W⟩
      cases hs : scalar (nth t k) with
      | true =>
        have HS : Shut _ := ⟨hs⟩
        rw [hs] at CO
        obtain ⟨r, hr⟩ : ∃ r, nth t k = r := ⟨_, rfl⟩
        rw [hr] at hc CO
        clear hs hcx hr
        go_wp2_with fail
        refine (CO.out _).mono ?_
        rintro e w2 ⟨rfl, rfl⟩
        go_wp2_with fail
        go_roundg (n - k)
        case measure => omega
        case rel =>
          refine ⟨k + 1, by omega, by omega, by go_num, ⟨fun j hj => ?_⟩, rfl⟩
          rcases Nat.lt_or_ge j k with h1 | h1
          · exact HALL.out j h1
          · obtain rfl : j = k := by omega
            exact HS.out
      | false =>
        have HS : Shut _ := ⟨rightT_false (by rw [HLEN.out]; exact hlt) hs⟩
        rw [hs] at CO
        obtain ⟨r, hr⟩ : ∃ r, nth t k = r := ⟨_, rfl⟩
        rw [hr] at hc CO
        clear hs hcx hr
        go_wp2_with fail
        refine (CO.out _).mono ?_
        rintro e w2 ⟨rfl, rfl⟩
        go_wp2_with fail
        go_ret
        exact ⟨retb HS.out.symm, rfl⟩
    · obtain rfl : k = n := by omega
      have HS : Shut _ := ⟨rightT_true (t := t) (fun j hj => HALL.out j (by rw [HLEN.out] at hj; exact hj))⟩
      go_wp2_with fail
      go_ret
      exact ⟨retb HS.out.symm, rfl⟩

theorem own_lit (w : World) (e : TypeId) (k : IntKind) (B : Nat) (hB : B ≤ w.heap.size) (n : Nat) (xs : List Int) (vs : Array Value) (hv : vs = (xs.map (Value.int k)).toArray) (hn : xs.length = n) (hn2 : n ≤ 1000) : Own (w.alloc (.cells vs e)) B e k (some ⟨w.heap.size, 0, none⟩) n n xs := by
  subst hv
  refine ⟨by simp [hn], .inr ⟨w.heap.size, n, _, rfl, hB, heap_alloc_new w _, Nat.le_refl _, by unfold maxLen; omega, by simp [hn], ?_⟩⟩
  rw [Nat.mul_one, List.toList_toArray, List.take_of_length_le (by simp [hn])]
def FormPost (w : World) (t : List Int) (e : Ending) (w' : World) : Prop := ∃ (A : Option Addr) (c : Nat), e = .returned (.slice A t.length c) ∧ Own w' w.heap.size 5 .u8 A t.length c t ∧ Below w.heap.size w w'
set_option maxHeartbeats 2000000 in
theorem form_any (r : Int) (hs : scalar r = true) (w : World) : Calls Try.prog 62 #[.int .i32 r] w (FormPost w (Lib.encodeRuneZ r)) := by
  have hs2 : (0 ≤ r ∧ r < 55296) ∨ (57343 < r ∧ r ≤ 1114111) := by unfold scalar at hs; simpa using hs
  have hc : (0 ≤ r ∧ r ≤ 127) ∨ (128 ≤ r ∧ r ≤ 2047) ∨ ((2048 ≤ r ∧ r ≤ 65535) ∧ ((2048 ≤ r ∧ r < 55296) ∨ (57343 < r ∧ r ≤ 65535))) ∨ (65536 ≤ r ∧ r ≤ 1114111) := by omega
  clear hs hs2
  rcases hc with ⟨h, k⟩ | ⟨h, k⟩ | ⟨⟨h, k⟩, h2⟩ | ⟨h, k⟩
  · rw [Lib.encodeRuneZ_one h k]
    go_enter Try.func62, Try.ntmps62
    go_wp2_with fail
    go_ret
    exact ⟨_, _, rfl, own_lit w _ _ _ (Nat.le_refl _) 1 [r] _ rfl rfl (by omega), (Below.refl _ _).alloc (Nat.le_refl _) _⟩
  · rw [Lib.encodeRuneZ_two h k]
    go_enter Try.func62, Try.ntmps62
    go_wp2_with fail
    go_ret
    exact ⟨_, _, rfl, own_lit w _ _ _ (Nat.le_refl _) 2 [192 + r / 64, 128 + r % 64] _ rfl rfl (by omega), (Below.refl _ _).alloc (Nat.le_refl _) _⟩
  · rw [Lib.encodeRuneZ_three h2]
    clear h2
    go_enter Try.func62, Try.ntmps62
    go_wp2_with fail
    go_ret
    exact ⟨_, _, rfl, own_lit w _ _ _ (Nat.le_refl _) 3 [224 + r / 4096, 128 + r / 64 % 64, 128 + r % 64] _ rfl rfl (by omega), (Below.refl _ _).alloc (Nat.le_refl _) _⟩
  · rw [Lib.encodeRuneZ_four h k]
    go_enter Try.func62, Try.ntmps62
    go_wp2_with fail
    go_ret
    exact ⟨_, _, rfl, own_lit w _ _ _ (Nat.le_refl _) 4 [240 + r / 262144, 128 + r / 4096 % 64, 128 + r / 64 % 64, 128 + r % 64] _ rfl rfl (by omega), (Below.refl _ _).alloc (Nat.le_refl _) _⟩
end Go.Proofs.Yteehcmcljjdbeaa
