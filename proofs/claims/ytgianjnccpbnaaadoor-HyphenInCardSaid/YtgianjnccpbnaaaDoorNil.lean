/- Chapter 20: a nil trie: Points, In, and the reference without patterns. -/
import Derived.Test.YtgianjnccpbnaaaDoorNd
import Derived.Test.YtgianjnccpbnaaaDoorGi
import Derived.Test.YtgianjnccpbnaaaDoorOfs
namespace Go.Proofs.YtgianjnccpbnaaaDoor
open Go.ChangeShapes Go.WideShapes Go.ChangeAt Go.RowKit
set_option maxRecDepth 100000
set_option linter.unusedSimpArgs false

/-- is an offset one of the numbers of a list that rises? -/
def inB (bs : List Nat) (x : Int) : Bool := (bs.map Int.ofNat).contains x
theorem bs_found {bs : List Nat} {x : Int} {p : Nat} {f : Bool} (h1 : ∀ j, j < p → (atN bs j : Int) < x) (h2 : ∀ j, p ≤ j → j < bs.length → x ≤ (atN bs j : Int)) (hr : Rise bs) (h3 : f = true ↔ p < bs.length ∧ (atN bs p : Int) = x) : f = inB bs x := by
  rw [Bool.eq_iff_iff, h3]
  unfold inB
  rw [List.contains_iff_mem, List.mem_map]
  constructor
  · rintro ⟨h4, h5⟩
    exact ⟨atN bs p, atN_mem h4, h5⟩
  · rintro ⟨a, ha, rfl⟩
    obtain ⟨j, hj, rfl⟩ := List.getElem_of_mem ha
    have ej : atN bs j = bs[j] := by unfold atN; simp [hj]
    rcases Nat.lt_or_ge j p with h4 | h4
    · have := h1 j h4
      rw [ej] at this
      exact absurd this (by simp)
    · have hp : p < bs.length := by omega
      refine ⟨hp, ?_⟩
      have h5 := h2 p (Nat.le_refl _) hp
      rcases Nat.eq_or_lt_of_le h4 with h6 | h6
      · rw [h6, ej]; rfl
      · have h7 := hr.lt' h6 hj
        rw [ej] at h7
        have h8 : (bs[j] : Int) ≤ (atN bs p : Int) := h5
        omega

set_option maxHeartbeats 1000000 in
theorem inClo_any (x : Int) (bb : Nat) (A : Option Addr) (n c : Nat) (bs : List Nat) (hr : Rise bs) (w : World) (hc : w.cell? ⟨bb, 0, none⟩ = some (.slice A n c)) (hb : IntsAt w w.heap.size .i64 A n (bs.map Int.ofNat)) (hn : n ≤ 140737488355328) :
    Calls Tryd.prog 17 #[.int .i64 x, .pointer (some ⟨bb, 0, none⟩)] w fun e w' => e = .returned (.bool (!inB bs x)) ∧ w = w' := by
  have CB : Shut _ := ⟨pbs_any A n c bs hr x w hb hn⟩
  have HR : Shut _ := ⟨hr⟩
  clear hb hr
  go_enter Tryd.func17, Tryd.ntmps17
  go_wp2_with fail
  refine CB.out.mono ?_
  rintro e w2 ⟨p, f, rfl, hp, h1, h2, h3, rfl⟩
  have E : Shut _ := ⟨bs_found h1 h2 HR.out h3⟩
  clear hp h1 h2 h3 CB
  go_wp2_with fail
  go_ret
  exact ⟨retb (by rw [E.out]), rfl⟩

set_option maxHeartbeats 1000000 in
theorem pointsNil_any (A : Option Addr) (n c : Nat) (w : World) :
    Calls Tryd.prog 8 #[.pointer none, .slice A n c] w fun e w' => e = .returned (.slice none 0 0) ∧ w = w' := by
  go_enter Tryd.func8, Tryd.ntmps8
  go_wp2_with fail
  go_ret
  exact ⟨rfl, rfl⟩
theorem lenNil_any (w : World) : Calls Tryd.prog 9 #[.pointer none] w fun e w' => e = .returned (.int .i64 0) ∧ w = w' := by
  go_enter Tryd.func9, Tryd.ntmps9
  go_wp2_with fail
  go_ret
  exact ⟨rfl, rfl⟩
theorem letter_any (r : Int) (h1 : -2147483648 ≤ r) (h2 : r ≤ 2147483647) (w : World) (hl : Laid w) :
    Calls Tryd.prog 15 #[.int .i32 r] w fun e w' => e = .returned (.bool (wdOf r == 1)) ∧ Below w.heap.size w w' := by
  have O : Shut _ := ⟨pOf_lit r h1 h2 w hl⟩
  have e1 : (propOf r).word = wdOf r := rfl
  rw [e1] at O
  clear hl h1 h2 e1
  generalize wdOf r = q at *
  go_enter Tryd.func15, Tryd.ntmps15
  go_wp2_with fail
  refine O.out.mono ?_
  rintro e w1 ⟨rfl, hb1⟩
  go_wp2_with fail
  go_ret
  exact ⟨rfl, hb1⟩
theorem soft_word : wdOf 173 ≠ 1 := by decide +kernel
end Go.Proofs.YtgianjnccpbnaaaDoor
