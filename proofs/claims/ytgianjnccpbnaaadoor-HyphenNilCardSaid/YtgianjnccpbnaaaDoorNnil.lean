/- Chapter 20: the walk of HyphenNil: a nil trie has no patterns; soft hyphens are places still. -/
import Derived.Test.YtgianjnccpbnaaaDoorNri
import Derived.Test.YtgianjnccpbnaaaDoorHsame
namespace Go.Proofs.YtgianjnccpbnaaaDoor
open Go.ChangeShapes Go.WideShapes Go.ChangeAt Go.RowKit
set_option maxRecDepth 100000
set_option linter.unusedSimpArgs false

set_option maxHeartbeats 1000000 in
theorem HyphenNil_walk (A : Option Addr) (n c : Nat) (xs : List Int) (w : World) (hx : SliceIn .i32 w A n c xs) (hl : Laid w) :
    Calls Tryd.prog 3 #[.slice A n c] w fun e w' => e = .returned (.bool true) ∧ Below w.heap.size w w' := by
  by_cases hlen : 60 < n
  · go_enter Tryd.func3, Tryd.ntmps3
    go_wp2_with fail
    go_ret
    exact ⟨rfl, Below.refl _ _⟩
  · have hl2 : ¬ (60 : Int) < (n : Int) := by omega
    have hnl : (nilIn xs (ks xs)).length ≤ n + 1 := by
      unfold nilIn
      rw [List.length_map]
      have := List.length_filter_le (fun m => isN (ks xs) m && hitB xs m) (List.range (xs.length + 1))
      rw [hx.at_.len] at this
      rw [hx.at_.len]
      simpa using this
    have C1 : Shut _ := ⟨pinNil_any A n c xs w hx hl (by omega)⟩
    have C2 : Shut (∀ W, Below w.heap.size w W → _) := ⟨fun W hW => rinNil_any A n c xs W (hx.pass hW) (by omega)⟩
    clear hx hl
    generalize nilIn xs (ks xs) = l at *
    obtain ⟨m, hm⟩ : ∃ m, l.length = m := ⟨_, rfl⟩
    rw [hm] at C1 C2 hnl
    clear hm
    go_enter Tryd.func3, Tryd.ntmps3
    go_wp2_with fail
    refine C1.out.mono ?_
    rintro e w1 ⟨A1, c1, rfl, o1, b1⟩
    have B1 : Shut _ := ⟨b1⟩
    have O1 : Shut _ := ⟨o1⟩
    clear b1 o1
    go_wp2_with fail
    refine (C2.out _ B1.out).mono ?_
    rintro e w2 ⟨A2, c2, rfl, o2, b2⟩
    have B2 : Shut _ := ⟨B1.out.trans (b2.mono B1.out.size)⟩
    have O2 : Shut _ := ⟨o2⟩
    have O3 : Shut _ := ⟨Own.pass O1.out b2⟩
    clear b2 o2 O1
    go_wp2_with fail
    refine (same01_any A1 A2 m m c1 c2 l l _ O3.out.ints O2.out.ints (by omega) (by omega)).mono ?_
    rintro e w3 ⟨rfl, b3⟩
    have B3 : Shut _ := ⟨B2.out.trans (b3.mono B2.out.size)⟩
    have e1 : (l == l) = true := by simp
    rw [e1]
    clear b3 e1
    go_wp2_with fail
    refine (pointsNil_any _ _ _ _).mono ?_
    rintro e w4 ⟨rfl, rfl⟩
    go_wp2_with fail
    refine (lenNil_any _).mono ?_
    rintro e w4 ⟨rfl, rfl⟩
    go_wp2_with fail
    go_ret
    exact ⟨rfl, B3.out⟩
end Go.Proofs.YtgianjnccpbnaaaDoor
