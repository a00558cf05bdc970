/- Joining, as plain functions on a list of code points. No program in sight. -/
import Derived.Test.YtmbgeeiidpllcaaDoorPtab
import Derived.Test.YtmbgeeiidpllcaaDoorLib
namespace Go.Proofs.YtmbgeeiidpllcaaDoor

def joinOf (r : Int) : Int := (propOf r).join
def tr (r : Int) : Bool := joinOf r == 5
/-- the first code point from k on that is not passed over -/
def nxt (xs : List Int) (k : Nat) : Option Nat := (List.range xs.length).find? fun j => decide (k ≤ j) && !(tr (nth xs j))
/-- the last one ahead of k -/
def prv (xs : List Int) (k : Nat) : Option Nat := (List.range k).reverse.find? fun j => !(tr (nth xs j))

theorem find_range {p : Nat → Bool} {n k : Nat} (hk : k < n) (hp : p k = true) (h : ∀ j, j < k → p j = false) : (List.range n).find? p = some k := by
  induction n with
  | zero => omega
  | succ n ih =>
    rw [List.range_succ, List.find?_append]
    by_cases hkn : k < n
    · rw [ih hkn]; rfl
    · obtain rfl : k = n := by omega
      have : (List.range k).find? p = none := by
        rw [List.find?_eq_none]
        intro x hx
        rw [h x (List.mem_range.1 hx)]
        simp
      rw [this]
      simp [hp]
theorem find_range_none {p : Nat → Bool} {n : Nat} (h : ∀ j, j < n → p j = false) : (List.range n).find? p = none := by
  rw [List.find?_eq_none]
  intro x hx
  rw [h x (List.mem_range.1 hx)]
  simp
theorem find_rev {p : Nat → Bool} {n k : Nat} (hk : k < n) (hp : p k = true) (h : ∀ j, k < j → j < n → p j = false) : (List.range n).reverse.find? p = some k := by
  induction n with
  | zero => omega
  | succ n ih =>
    rw [List.range_succ, List.reverse_append]
    simp only [List.reverse_cons, List.reverse_nil, List.nil_append, List.singleton_append, List.find?_cons]
    by_cases hkn : k = n
    · subst hkn; rw [hp]
    · rw [h n (by omega) (by omega)]
      exact ih (by omega) fun j h1 h2 => h j h1 (by omega)
theorem find_rev_none {p : Nat → Bool} {n : Nat} (h : ∀ j, j < n → p j = false) : (List.range n).reverse.find? p = none := by
  rw [List.find?_eq_none]
  intro x hx
  rw [h x (List.mem_range.1 (List.mem_reverse.1 hx))]
  simp

theorem nxt_some {xs : List Int} {k j : Nat} (h1 : k ≤ j) (h2 : j < xs.length) (h3 : tr (nth xs j) = false) (h4 : ∀ i, k ≤ i → i < j → tr (nth xs i) = true) : nxt xs k = some j := by
  refine find_range h2 (by simp [h1, h3]) fun i hi => ?_
  by_cases hki : k ≤ i
  · simp [h4 i hki hi]
  · simp [hki]
theorem nxt_none {xs : List Int} {k : Nat} (h : ∀ i, k ≤ i → i < xs.length → tr (nth xs i) = true) : nxt xs k = none := by
  refine find_range_none fun i hi => ?_
  by_cases hki : k ≤ i
  · simp [h i hki hi]
  · simp [hki]
theorem prv_some {xs : List Int} {k j : Nat} (h1 : j < k) (h3 : tr (nth xs j) = false) (h4 : ∀ i, j < i → i < k → tr (nth xs i) = true) : prv xs k = some j :=
  find_rev h1 (by simp [h3]) fun i h5 h6 => by simp [h4 i h5 h6]
theorem prv_none {xs : List Int} {k : Nat} (h : ∀ i, i < k → tr (nth xs i) = true) : prv xs k = none :=
  find_rev_none fun i hi => by simp [h i hi]
theorem nxt_spec {xs : List Int} {k : Nat} : (∃ j, nxt xs k = some j ∧ k ≤ j ∧ j < xs.length ∧ tr (nth xs j) = false ∧ ∀ i, k ≤ i → i < j → tr (nth xs i) = true) ∨ (nxt xs k = none ∧ ∀ i, k ≤ i → i < xs.length → tr (nth xs i) = true) := by
  by_cases h : ∀ i, k ≤ i → i < xs.length → tr (nth xs i) = true
  · exact .inr ⟨nxt_none h, h⟩
  · refine .inl ?_
    have hex : ∃ j, k ≤ j ∧ j < xs.length ∧ tr (nth xs j) = false := by
      apply Classical.byContradiction
      intro hn
      apply h
      intro i h1 h2
      cases ht : tr (nth xs i)
      · exact absurd ⟨i, h1, h2, ht⟩ hn
      · rfl
    obtain ⟨j, h1, h2, h3⟩ := hex
    -- the least one
    have key : ∀ d, ∀ j, j - k ≤ d → k ≤ j → j < xs.length → tr (nth xs j) = false → ∃ j', k ≤ j' ∧ j' < xs.length ∧ tr (nth xs j') = false ∧ ∀ i, k ≤ i → i < j' → tr (nth xs i) = true := by
      intro d
      induction d with
      | zero => intro j hd h1 h2 h3; exact ⟨j, h1, h2, h3, fun i h4 h5 => by omega⟩
      | succ d ih =>
        intro j hd h1 h2 h3
        by_cases hall : ∀ i, k ≤ i → i < j → tr (nth xs i) = true
        · exact ⟨j, h1, h2, h3, hall⟩
        · have : ∃ i, k ≤ i ∧ i < j ∧ tr (nth xs i) = false := by
            apply Classical.byContradiction
            intro hn
            apply hall
            intro i h4 h5
            cases ht : tr (nth xs i)
            · exact absurd ⟨i, h4, h5, ht⟩ hn
            · rfl
          obtain ⟨i, h4, h5, h6⟩ := this
          exact ih i (by omega) h4 (by omega) h6
    obtain ⟨j', a1, a2, a3, a4⟩ := key _ j (Nat.le_refl _) h1 h2 h3
    exact ⟨j', nxt_some a1 a2 a3 a4, a1, a2, a3, a4⟩
theorem prv_spec {xs : List Int} : ∀ k, (∃ j, prv xs k = some j ∧ j < k ∧ tr (nth xs j) = false ∧ ∀ i, j < i → i < k → tr (nth xs i) = true) ∨ (prv xs k = none ∧ ∀ i, i < k → tr (nth xs i) = true)
  | 0 => .inr ⟨rfl, fun i hi => by omega⟩
  | k + 1 => by
    cases ht : tr (nth xs k)
    · exact .inl ⟨k, prv_some (by omega) ht fun i h1 h2 => by omega, by omega, ht, fun i h1 h2 => by omega⟩
    · rcases prv_spec k with ⟨j, h1, h2, h3, h4⟩ | ⟨h1, h2⟩
      · refine .inl ⟨j, prv_some (by omega) h3 fun i h5 h6 => ?_, by omega, h3, fun i h5 h6 => ?_⟩
        · rcases Nat.lt_or_ge i k with h7 | h7
          · exact h4 i h5 h7
          · rw [show i = k by omega]; exact ht
        · rcases Nat.lt_or_ge i k with h7 | h7
          · exact h4 i h5 h7
          · rw [show i = k by omega]; exact ht
      · have hall : ∀ i, i < k + 1 → tr (nth xs i) = true := fun i hi => by
          rcases Nat.lt_or_ge i k with h7 | h7
          · exact h2 i h7
          · rw [show i = k by omega]; exact ht
        exact .inr ⟨prv_none hall, hall⟩

/-- does a class join what is behind it (b), or ahead of it -/
def joinsB (c : Int) (b : Bool) : Bool := (c == 1 || c == 4) || (c == 3 && b) || (c == 2 && !b)
def nbF (xs : List Int) (i : Nat) : Int := match nxt xs (i + 1) with | some j => joinOf (nth xs j) | none => 0
def nbB (xs : List Int) (i : Nat) : Int := match prv xs i with | some j => joinOf (nth xs j) | none => 0
/-- does the code point i join its neighbours, ahead, behind -/
def jnA (xs : List Int) (i : Nat) : Bool := joinsB (joinOf (nth xs i)) false && joinsB (nbB xs i) true
def jnB (xs : List Int) (i : Nat) : Bool := joinsB (joinOf (nth xs i)) true && joinsB (nbF xs i) false
def formAt (xs : List Int) (i : Nat) : Int :=
  let c := joinOf (nth xs i)
  if c == 1 || c == 2 || c == 3 then (if jnA xs i && jnB xs i then 3 else if jnB xs i then 2 else if jnA xs i then 4 else 1) else 0
def forms (xs : List Int) : List Int := (List.range xs.length).map (formAt xs)
/-- the window of a place 0..n -/
def winF (xs : List Int) (i : Nat) : Nat := (prv xs i).getD 0
def winT (xs : List Int) (i : Nat) : Nat := match nxt xs i with | some j => j + 1 | none => xs.length
end Go.Proofs.YtmbgeeiidpllcaaDoor
