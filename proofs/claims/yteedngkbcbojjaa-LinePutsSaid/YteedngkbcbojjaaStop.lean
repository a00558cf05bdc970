/- The first number from i on, below N, of which a predicate does not hold. Plain. -/
import Derived.Test.YteedngkbcbojjaaLib
namespace Go.Proofs.Yteedngkbcbojjaa

def stopF (p : Nat → Bool) (N : Nat) : Nat → Nat → Nat
  | 0, i => i
  | d + 1, i => if i < N && p i then stopF p N d (i + 1) else i
def stopAt (p : Nat → Bool) (N i : Nat) : Nat := stopF p N (N - i) i
theorem stopAt_step {p : Nat → Bool} {N i : Nat} (h : i < N) (hp : p i = true) : stopAt p N i = stopAt p N (i + 1) := by
  unfold stopAt
  obtain ⟨d, hd⟩ : ∃ d, N - i = d + 1 := ⟨N - i - 1, by omega⟩
  rw [hd, show N - (i + 1) = d by omega]
  simp [stopF, h, hp]
theorem stopAt_stop {p : Nat → Bool} {N i : Nat} (h : i < N → p i = false) : stopAt p N i = i := by
  unfold stopAt
  cases N - i with
  | zero => rfl
  | succ d =>
    unfold stopF
    by_cases hl : i < N
    · simp [h hl]
    · simp [hl]
theorem stopAt_spec (p : Nat → Bool) (N : Nat) : ∀ (d i : Nat), N - i = d → i ≤ N → i ≤ stopAt p N i ∧ stopAt p N i ≤ N ∧ (∀ j, i ≤ j → j < stopAt p N i → p j = true) ∧ (stopAt p N i < N → p (stopAt p N i) = false)
  | 0, i, hd, hi => by
    rw [stopAt_stop (fun h => by omega)]
    exact ⟨Nat.le_refl _, hi, fun j h1 h2 => by omega, fun h => by omega⟩
  | d + 1, i, hd, hi => by
    cases hf : p i with
    | false =>
      rw [stopAt_stop (fun _ => hf)]
      exact ⟨Nat.le_refl _, hi, fun j h1 h2 => by omega, fun _ => hf⟩
    | true =>
      rw [stopAt_step (by omega) hf]
      obtain ⟨h1, h2, h4, h9⟩ := stopAt_spec p N d (i + 1) (by omega) (by omega)
      refine ⟨by omega, h2, fun j h5 h6 => ?_, h9⟩
      rcases Nat.lt_or_ge i j with h7 | h7
      · exact h4 j h7 h6
      · obtain rfl : j = i := by omega
        exact hf
theorem stopAt_no {p : Nat → Bool} {N i : Nat} (hi : i ≤ N) (h : stopAt p N i < N) : p (stopAt p N i) = false := (stopAt_spec p N _ i rfl hi).2.2.2 h
theorem stopAt_end {p : Nat → Bool} {N i : Nat} (h : N ≤ i) : stopAt p N i = i := stopAt_stop fun hl => by omega
end Go.Proofs.Yteedngkbcbojjaa
