/- Chapter 20: the walk of HyphenPoints: Points agrees with the reference. -/
import Derived.Test.YtgianjnccpbnaaaDoorHptr
import Derived.Test.YtgianjnccpbnaaaDoorHmany
namespace Go.Proofs.YtgianjnccpbnaaaDoor
open Go.ChangeShapes Go.WideShapes Go.ChangeAt Go.RowKit
set_option maxRecDepth 100000
set_option linter.unusedSimpArgs false

/-- are texts too many, or too long? -/
def manyB (ss : List ByteArray) : Bool := decide (20 < ss.length) || ss.any fun s => decide (40 < s.size)
theorem manyB_false {ss : List ByteArray} (h : manyB ss = false) : ss.length ≤ 20 ∧ ∀ s ∈ ss, s.size ≤ 40 := by
  unfold manyB at h
  simp at h
  exact h
theorem newF_err : ∀ (ss : List ByteArray) (i : Nat) (L : List Pat) (q : Nat × Int), newF ss i L = .inr q → q.2 = 3 ∨ q.2 = 15
  | [], i, L, q, h => by cases h
  | s :: t, i, L, q, h => by
    cases hp : parsed s with
    | none => rw [newF_none hp] at h; injection h with h; subst h; exact .inl rfl
    | some p =>
      cases hl : lookP L p.1 with
      | some d => rw [newF_twice hp (by rw [hl]; rfl)] at h; injection h with h; subst h; exact .inr rfl
      | none => rw [newF_next hp hl] at h; exact newF_err t _ _ q h
set_option maxHeartbeats 1000000 in
theorem many20_any (A : Option Addr) (n c : Nat) (ss : List ByteArray) (w : World) (hx : StrsIn w A n c ss) (hn : n ≤ 9223372036854775807) (hs : ∀ s ∈ ss, s.size ≤ maxLen) :
    Calls Tryd.prog 10 #[.slice A n c] w fun e w' => e = .returned (.bool (manyB ss)) ∧ w = w' := by
  have HX : Shut _ := ⟨hx⟩
  have HLEN : Shut _ := ⟨hx.len⟩
  have HS : Shut _ := ⟨hs⟩
  clear hx hs
  by_cases h20 : 20 < n
  · have E : Shut (manyB ss = true) := ⟨by unfold manyB; rw [HLEN.out]; simp [h20]⟩
    have h2 : (20 : Int) < (n : Int) := by omega
    go_enter Tryd.func10, Tryd.ntmps10
    go_wp2_with fail
    go_ret
    exact ⟨retb E.out.symm, rfl⟩
  · have h2 : ¬ (20 : Int) < (n : Int) := by omega
    go_enter Tryd.func10, Tryd.ntmps10
    go_wp2_with fail
    go_loopg [3] (n + 1) (fun gg v wr => ∃ i : Nat, n - i < gg ∧ i ≤ n ∧ v = .int .i64 (i : Int) ∧ Shut (∀ j, j < i → (ss.getD j ⟨#[]⟩).size ≤ 40) ∧ wr = w)
    case atStart => exact ⟨0, by omega, by omega, rfl, ⟨fun j h => by omega⟩, rfl⟩
    case round =>
      obtain ⟨i, hg, hi, rfl, ALL, rfl⟩ := hrel
      by_cases hlt : i < n
      · obtain ⟨ad, rfl, hab, hcx⟩ := HX.out.at_ (by omega)
        have hc := hcx i hlt
        have hil : i < ss.length := by rw [HLEN.out]; exact hlt
        have hsz : (ss.getD i ⟨#[]⟩).size ≤ maxLen := HS.out _ (by rw [List.getD_eq_getElem?_getD, List.getElem?_eq_getElem hil]; exact List.getElem_mem ..)
        unfold maxLen at hsz
        have NX : Shut ((ss.getD i ⟨#[]⟩).size ≤ 40 → ∀ j, j < i + 1 → (ss.getD j ⟨#[]⟩).size ≤ 40) := ⟨fun h j hj => by
          rcases Nat.lt_or_ge j i with h3 | h3
          · exact ALL.out j h3
          · obtain rfl : j = i := by omega
            exact h⟩
        have YES : Shut (40 < (ss.getD i ⟨#[]⟩).size → manyB ss = true) := ⟨fun h => by
          unfold manyB
          rw [Bool.or_eq_true]
          right
          rw [List.any_eq_true]
          exact ⟨ss.getD i ⟨#[]⟩, by rw [List.getD_eq_getElem?_getD, List.getElem?_eq_getElem hil]; exact List.getElem_mem .., by simpa using h⟩⟩
        generalize ss.getD i ⟨#[]⟩ = s at *
        clear hcx hab hil
        by_cases h40 : 40 < s.size
        · have E : Shut _ := ⟨YES.out h40⟩
          have h4 : (40 : Int) < (s.size : Int) := by omega
          go_wp2_with fail
          go_ret
          exact ⟨retb E.out.symm, rfl⟩
        · have E : Shut _ := ⟨NX.out (by omega)⟩
          have h4 : ¬ (40 : Int) < (s.size : Int) := by omega
          go_wp2_with fail
          go_roundg (n - i)
          case measure => omega
          case rel => exact ⟨i + 1, by omega, by omega, by go_num, E, rfl⟩
      · obtain rfl : i = n := by omega
        have E : Shut (manyB ss = false) := ⟨by
          unfold manyB
          rw [HLEN.out]
          simp
          refine ⟨by omega, fun s hs => ?_⟩
          obtain ⟨j, hj, rfl⟩ := List.getElem_of_mem hs
          have := ALL.out j (by rw [← HLEN.out]; exact hj)
          rw [List.getD_eq_getElem?_getD, List.getElem?_eq_getElem hj] at this
          exact this⟩
        go_wp2_with fail
        go_ret
        exact ⟨retb E.out.symm, rfl⟩

end Go.Proofs.YtgianjnccpbnaaaDoor
