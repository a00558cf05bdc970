/- Chapter 52: the windows of an edit, plain. No program in sight. -/
import Derived.Test.YtmbgeeiidpllcaaDoorDlaw
namespace Go.Proofs.YtmbgeeiidpllcaaDoor

/-- how many signs at the beginning, at the end are alike: same i k: is i of the text of n ahead like k of the one behind; the edit begins at p, ends at f = p + g, and puts m -/
def sgF (same : Nat → Nat → Bool) (p : Nat) : Nat := stopAt (fun j => same j j) p 0
def sgB (same : Nat → Nat → Bool) (n g m j : Nat) : Bool := same (n - 1 - j) (n - 1 - j + m - g)
def sgT (same : Nat → Nat → Bool) (n p g m : Nat) : Nat := stopAt (sgB same n g m) (n - (p + g)) 0
theorem sgF_le (same : Nat → Nat → Bool) (p : Nat) : sgF same p ≤ p := (stopAt_spec _ p _ 0 rfl (Nat.zero_le _)).2.1
theorem sgT_le (same : Nat → Nat → Bool) (n p g m : Nat) : sgT same n p g m ≤ n - (p + g) := (stopAt_spec _ _ _ 0 rfl (Nat.zero_le _)).2.1
/-- places from 0 to n -/
def plF (same : Nat → Nat → Bool) (p : Nat) : Nat := stopAt (fun j => same j j) (p + 1) 0
def plB (same : Nat → Nat → Bool) (n g m j : Nat) : Bool := same (n - j) (n - j + m - g)
def plT (same : Nat → Nat → Bool) (n p g m : Nat) : Nat := stopAt (plB same n g m) (n + 1 - (p + g)) 0
theorem plF_le (same : Nat → Nat → Bool) (p : Nat) : plF same p ≤ p + 1 := (stopAt_spec _ (p + 1) _ 0 rfl (Nat.zero_le _)).2.1
theorem plT_le (same : Nat → Nat → Bool) (n p g m : Nat) : plT same n p g m ≤ n + 1 - (p + g) := (stopAt_spec _ _ _ 0 rfl (Nat.zero_le _)).2.1
theorem stopAt_end {p : Nat → Bool} {N i : Nat} (h : N ≤ i) : stopAt p N i = i := stopAt_stop fun hl => by omega
end Go.Proofs.YtmbgeeiidpllcaaDoor
