/- The table's order, and what a search for the first row that ends at or behind a code point finds. No program in sight. -/
import Derived.Test.YtmbgeeiidpllcaaDoorPtab
namespace Go.Proofs.YtmbgeeiidpllcaaDoor

def dfl : Int × Int × Pr := (0, 0, Pr.rest)
def tabN (i : Nat) : Int × Int × Pr := tab.getD i dfl
def hiN (i : Nat) : Int := (tabN i).2.1
def lastsL : List Int := [42, 96, 180, 1023, 1563, 1644, 1749, 3654, 8232, 8383, 12298, 64335, 917999]
def lastN (i : Nat) : Int := lastsL.getD i 0

def risingB : List (Int × Int × Pr) → Bool
  | (a, b, _) :: (c, d, q) :: l => decide (a ≤ b ∧ b < c) && risingB ((c, d, q) :: l)
  | [(a, b, _)] => decide (a ≤ b)
  | [] => true
theorem tab_rising : risingB tab = true := by decide +kernel
theorem tab_length : tab.length = 260 := by decide +kernel
theorem last_hi : ∀ k, k < 13 → lastN k = hiN (20 * k + 19) := by decide +kernel

theorem rising_tail {x : Int × Int × Pr} {l : List (Int × Int × Pr)} (h : risingB (x :: l) = true) : risingB l = true ∧ x.1 ≤ x.2.1 ∧ ∀ y ∈ l, x.2.1 < y.1 ∧ x.2.1 < y.2.1 := by
  obtain ⟨a, b, p⟩ := x
  induction l generalizing a b p with
  | nil => simp [risingB] at h; simp [risingB, h]
  | cons y l ih =>
    obtain ⟨c, d, q⟩ := y
    simp only [risingB, Bool.and_eq_true, decide_eq_true_eq] at h
    obtain ⟨h1, h2⟩ := h
    obtain ⟨h3, h4, h5⟩ := ih c d q h2
    refine ⟨h2, h1.1, fun y hy => ?_⟩
    rcases List.mem_cons.1 hy with rfl | hy
    · simp only at h4 ⊢; omega
    · have := h5 y hy; simp only at h4 this ⊢; omega

theorem look_none_of_lt : ∀ (l : List (Int × Int × Pr)) (r : Int), (∀ y ∈ l, r < y.1) → look l r = none
  | [], _, _ => rfl
  | (a, b, p) :: l, r, h => by
    have h0 := h (a, b, p) (List.mem_cons_self ..)
    simp only at h0
    simp only [look]
    rw [if_neg (by omega)]
    exact look_none_of_lt l r fun y hy => h y (List.mem_cons_of_mem _ hy)

theorem look_at : ∀ (l : List (Int × Int × Pr)) (r : Int) (n : Nat), risingB l = true → (hn : n < l.length) → (∀ i, i < n → (l.getD i dfl).2.1 < r) → r ≤ (l.getD n dfl).2.1 →
    look l r = if (l.getD n dfl).1 ≤ r then some (l.getD n dfl).2.2 else none
  | [], _, _, _, hn, _, _ => absurd hn (by simp)
  | (a, b, p) :: l, r, n, hr, hn, h1, h2 => by
    obtain ⟨h3, h4, h5⟩ := rising_tail hr
    cases n with
    | zero =>
      simp only [List.getD_cons_zero] at h2 ⊢
      simp only [look]
      by_cases ha : a ≤ r
      · rw [if_pos ⟨ha, h2⟩, if_pos ha]
      · rw [if_neg (fun h => ha h.1), if_neg ha]
        exact look_none_of_lt l r fun y hy => by have := (h5 y hy).1; simp only at this; omega
    | succ n =>
      have h0 := h1 0 (by omega)
      simp only [List.getD_cons_zero] at h0
      simp only [look]
      rw [if_neg (by omega)]
      simp only [List.getD_cons_succ] at h2 ⊢
      exact look_at l r n h3 (by simpa using hn) (fun i hi => by have := h1 (i + 1) (by omega); simpa using this) h2

theorem look_over : ∀ (l : List (Int × Int × Pr)) (r : Int), (∀ i, i < l.length → (l.getD i dfl).2.1 < r) → look l r = none
  | [], _, _ => rfl
  | (a, b, p) :: l, r, h => by
    have h0 := h 0 (by simp)
    simp only [List.getD_cons_zero] at h0
    simp only [look]
    rw [if_neg (by omega)]
    exact look_over l r fun i hi => by have := h (i + 1) (by simpa using hi); simpa using this

theorem rising_getD : ∀ (l : List (Int × Int × Pr)) (i j : Nat), risingB l = true → i < j → j < l.length → (l.getD i dfl).2.1 < (l.getD j dfl).2.1
  | [], _, _, _, _, hj => absurd hj (by simp)
  | x :: l, i, j, hr, hij, hj => by
    obtain ⟨h3, h4, h5⟩ := rising_tail hr
    obtain ⟨j, rfl⟩ : ∃ j', j = j' + 1 := ⟨j - 1, by omega⟩
    cases i with
    | zero =>
      simp only [List.getD_cons_zero, List.getD_cons_succ]
      have hj' : j < l.length := by simpa using hj
      have hm : l.getD j dfl ∈ l := by
        rw [List.getD_eq_getElem?_getD, List.getElem?_eq_getElem hj']
        simp
      exact (h5 _ hm).2
    | succ i =>
      simp only [List.getD_cons_succ]
      exact rising_getD l i j h3 (by omega) (by simpa using hj)

theorem hiN_lt {i j : Nat} (h : i < j) (hj : j < 260) : hiN i < hiN j := rising_getD tab i j tab_rising h (by rw [tab_length]; exact hj)
theorem hiN_le {i j : Nat} (h : i ≤ j) (hj : j < 260) : hiN i ≤ hiN j := by
  rcases Nat.lt_or_ge i j with h' | h'
  · exact Int.le_of_lt (hiN_lt h' hj)
  · rw [show i = j by omega]; exact Int.le_refl _

/-- the row found -/
theorem look_found {r : Int} {n : Nat} (hn : n < 260) (h0 : n = 0 ∨ hiN (n - 1) < r) (h1 : r ≤ hiN n) :
    look tab r = if (tabN n).1 ≤ r then some (tabN n).2.2 else none := by
  refine look_at tab r n tab_rising (by rw [tab_length]; exact hn) (fun i hi => ?_) h1
  rcases h0 with h0 | h0
  · omega
  · exact Int.lt_of_le_of_lt (hiN_le (i := i) (j := n - 1) (by omega) (by omega)) h0
theorem look_beyond {r : Int} (h : lastN 12 < r) : look tab r = none := by
  refine look_over tab r fun i hi => ?_
  rw [tab_length] at hi
  have h1 : lastN 12 = hiN 259 := last_hi 12 (by omega)
  exact Int.lt_of_le_of_lt (hiN_le (i := i) (j := 259) (by omega) (by omega)) (by rw [← h1]; exact h)
end Go.Proofs.YtmbgeeiidpllcaaDoor
