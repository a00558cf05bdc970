/- Chapter 17: the reference's rounds: the same visual order. -/
import Derived.Test.YteedngkbcbojjaaVrd
namespace Go.Proofs.Yteedngkbcbojjaa
open Go.ChangeShapes Go.WideShapes Go.ChangeAt Go.RowKit
set_option maxRecDepth 100000
set_option linter.unusedSimpArgs false

/-- levels as they count -/
def cntL (lv : List Int) : List Int := lv.map fun x => (heldN x : Nat)
theorem cntL_len (lv : List Int) : (cntL lv).length = lv.length := by simp [cntL]
theorem cntL_at {lv : List Int} {i : Nat} (h : i < lv.length) : nth (cntL lv) i = (heldN (nth lv i) : Nat) := by
  rw [nth_eq (by rw [cntL_len]; exact h), nth_eq h]
  simp [cntL]
theorem cntL_succ {lv : List Int} {k : Nat} (h : k < lv.length) : cntL (lv.take (k + 1)) = cntL (lv.take k) ++ [((heldN (nth lv k) : Nat) : Int)] := by
  unfold cntL
  exact take_succ_map _ h

set_option maxHeartbeats 4000000 in
theorem counts_any (A : Option Addr) (n c : Nat) (lv : List Int) (w : World) (hx : IntsAt w w.heap.size .i64 A n lv) (hn : n ≤ 4000) :
    Calls Try.prog 28 #[.slice A n c] w (NewInts w 3 .i64 n (cntL lv)) := by
  have HX : Shut _ := ⟨hx⟩
  have CS : Shut (∀ k, k < n → cntL (lv.take (k + 1)) = cntL (lv.take k) ++ [((heldN (nth lv k) : Nat) : Int)]) := ⟨fun k hk => cntL_succ (by rw [hx.len]; exact hk)⟩
  have CF : Shut (cntL (lv.take n) = cntL lv) := ⟨by rw [List.take_of_length_le (by rw [hx.len]; exact Nat.le_refl _)]⟩
  clear hx
  go_enter Try.func28, Try.ntmps28
  go_wp2_with fail
  go_loopg [3, 4] (n + 1) (fun gg v3 v4 wr => ∃ (k : Nat) (A' : Option Addr) (c' : Nat), n - k < gg ∧ k ≤ n ∧ v3 = .slice A' k c' ∧ v4 = .int .i64 (k : Int) ∧ Shut (Own wr w.heap.size 3 .i64 A' k c' (cntL (lv.take k))) ∧ Shut (Below w.heap.size w wr))
  case atStart => exact ⟨0, none, 0, by omega, by omega, rfl, rfl, ⟨Own.nil _ _ _ _⟩, ⟨Below.refl _ _⟩⟩
  case round =>
    obtain ⟨k, A', c', hg, hk, rfl, rfl, RO, BE⟩ := hrel
    by_cases hlt : k < n
    · obtain ⟨ad, rfl, _, hc⟩ := (HX.out.later BE.out).2 (by omega)
      have c1 := hc k hlt
      have E := CS.out k hlt
      have HC := heldN_cast (nth lv k)
      generalize ((heldN (nth lv k) : Nat) : Int) = H at *
      generalize nth lv k = x at *
      have i1 : (k : Int) < (n : Int) := by omega
      have hs := BE.out.size
      clear hc
      have h0 : 126 < x ∨ (x ≤ 126 ∧ 0 < x) ∨ x ≤ 0 := by omega
      rcases h0 with h1 | ⟨h1, h2⟩ | h1
      · have EH : Shut (H = 126) := ⟨by omega⟩
        have ER : Shut (cntL (lv.take (k + 1)) = cntL (lv.take k) ++ [126]) := ⟨by rw [E, EH.out]⟩
        clear E HC CS
        go_wp2_with (at_builtin; refine wpList_push TIv rfl (.tmp 11) (.tmp 18) rfl rfl (RO.out.alloc _) rfl (y := 126) (cell_newN _ _ _ _ (by simp)) (by omega) (by simp; omega) ?_; intro A4 c4 w4 o4 b4; have O4 : Shut _ := ⟨o4⟩; have X4 : Shut (Below w.heap.size w w4) := ⟨(BE.out.alloc (by omega) _).trans b4⟩; clear o4 b4)
        go_roundg (n - k)
        case measure => omega
        case rel => exact ⟨k + 1, A4, c4, by omega, by omega, rfl, by go_num, ⟨by rw [ER.out]; exact O4.out⟩, X4⟩
      · have EH : Shut (H = x) := ⟨by omega⟩
        have ER : Shut (cntL (lv.take (k + 1)) = cntL (lv.take k) ++ [x]) := ⟨by rw [E, EH.out]⟩
        clear E HC CS
        go_wp2_with (at_builtin; refine wpList_push TIv rfl (.tmp 11) (.tmp 18) rfl rfl (RO.out.alloc _) rfl (y := x) (cell_newN _ _ _ _ (by simp)) (by omega) (by simp; omega) ?_; intro A4 c4 w4 o4 b4; have O4 : Shut _ := ⟨o4⟩; have X4 : Shut (Below w.heap.size w w4) := ⟨(BE.out.alloc (by omega) _).trans b4⟩; clear o4 b4)
        go_roundg (n - k)
        case measure => omega
        case rel => exact ⟨k + 1, A4, c4, by omega, by omega, rfl, by go_num, ⟨by rw [ER.out]; exact O4.out⟩, X4⟩
      · have EH : Shut (H = 0) := ⟨by omega⟩
        have ER : Shut (cntL (lv.take (k + 1)) = cntL (lv.take k) ++ [0]) := ⟨by rw [E, EH.out]⟩
        have h3 : x ≤ 126 := by omega
        clear E HC CS
        go_wp2_with (at_builtin; refine wpList_push TIv rfl (.tmp 11) (.tmp 18) rfl rfl (RO.out.alloc _) rfl (y := 0) (cell_newN _ _ _ _ (by simp)) (by omega) (by simp; omega) ?_; intro A4 c4 w4 o4 b4; have O4 : Shut _ := ⟨o4⟩; have X4 : Shut (Below w.heap.size w w4) := ⟨(BE.out.alloc (by omega) _).trans b4⟩; clear o4 b4)
        go_roundg (n - k)
        case measure => omega
        case rel => exact ⟨k + 1, A4, c4, by omega, by omega, rfl, by go_num, ⟨by rw [ER.out]; exact O4.out⟩, X4⟩
    · obtain rfl : k = n := by omega
      rw [CF.out] at RO
      clear hlt CS
      go_wp2_with fail
      go_ret
      exact ⟨A', c', rfl, RO.out, BE.out⟩
set_option maxHeartbeats 4000000 in
theorem bounds_any (A : Option Addr) (n c : Nat) (lv : List Int) (w : World) (hl : lv.length = n) (hx : IntsAt w w.heap.size .i64 A n (cntL lv)) (hn : n ≤ 4000) :
    Calls Try.prog 29 #[.slice A n c] w fun e w' => e = .returned (.tuple #[.int .i64 (mostN lv n : Nat), .int .i64 (leastN lv n : Nat)]) ∧ Below w.heap.size w w' := by
  have HX : Shut _ := ⟨hx⟩
  have CA : Shut (∀ i, i < n → nth (cntL lv) i = (heldN (nth lv i) : Nat)) := ⟨fun i hi => cntL_at (by omega)⟩
  clear hx hl
  go_enter Try.func29, Try.ntmps29
  go_wp2_with fail
  go_loopg [4, 5, 6] (n + 1) (fun gg v4 v5 v6 wr => ∃ i : Nat, n - i < gg ∧ i ≤ n ∧ v4 = .int .i64 (mostN lv i : Nat) ∧ v5 = .int .i64 (leastN lv i : Nat) ∧ v6 = .int .i64 (i : Int) ∧ wr = w)
  case atStart => exact ⟨0, by omega, by omega, rfl, rfl, rfl, rfl⟩
  case round =>
    obtain ⟨i, hg, hi, rfl, rfl, rfl, rfl⟩ := hrel
    by_cases hlt : i < n
    · obtain ⟨ad, rfl, _, hc⟩ := HX.out.2 (by omega)
      have c1 := hc i hlt
      rw [CA.out i hlt] at c1
      have i1 : (i : Int) < (n : Int) := by omega
      have hH := heldN_le (nth lv i)
      have EM : Shut (mostN lv (i + 1) = max (mostN lv i) (heldN (nth lv i))) := ⟨rfl⟩
      have EL : Shut (leastN lv (i + 1) = if heldN (nth lv i) % 2 = 1 then min (leastN lv i) (heldN (nth lv i)) else leastN lv i) := ⟨rfl⟩
      generalize mostN lv i = M at *
      generalize leastN lv i = L at *
      generalize heldN (nth lv i) = H at *
      clear hc CA
      have m0 : (M : Int) < (H : Int) ∨ (H : Int) ≤ (M : Int) := by omega
      have l0 : (H : Int) < (L : Int) ∨ (L : Int) ≤ (H : Int) := by omega
      rcases m0 with m1 | m1
      all_goals
        cases p1 : ((H : Int) % 2 == 1) with
        | false =>
          have hp : ¬ H % 2 = 1 := by
            intro h
            have h2 : ((H : Int) % 2 == 1) = true := by simp; omega
            rw [h2] at p1
            cases p1
          clear l0
          go_wp2_with fail
          go_roundg (n - i)
          case measure => omega
          case rel => exact ⟨i + 1, by omega, by omega, iv (by have := EM.out; omega), iv (by have := EL.out; split at this <;> omega), by go_num, rfl⟩
        | true =>
          have hp : H % 2 = 1 := by have := beq_iff_eq.1 p1; omega
          rcases l0 with l1 | l1
          all_goals
            go_wp2_with fail
            go_roundg (n - i)
            case measure => omega
            case rel => exact ⟨i + 1, by omega, by omega, iv (by have := EM.out; omega), iv (by have := EL.out; split at this <;> omega), by go_num, rfl⟩
    · obtain rfl : i = n := by omega
      clear hlt CA
      go_wp2_with fail
      go_ret2
      exact ⟨rfl, Below.refl _ _⟩
end Go.Proofs.Yteedngkbcbojjaa
