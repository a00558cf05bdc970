/- Chapter 52: what an edit changes of paragraphs, plain. No program in sight. -/
import Derived.Test.YtmbgeeiidpllcaaDoorParl
namespace Go.Proofs.YtmbgeeiidpllcaaDoor

/-- the first number from i on, below N, of which p does not hold; N if it holds of all -/
def stopF (p : Nat → Bool) (N : Nat) : Nat → Nat → Nat
  | 0, i => i
  | d + 1, i => if i < N && p i then stopF p N d (i + 1) else i
def stopAt (p : Nat → Bool) (N i : Nat) : Nat := stopF p N (N - i) i
theorem stopAt_step {p : Nat → Bool} {N i : Nat} (h : i < N) (hp : p i = true) : stopAt p N i = stopAt p N (i + 1) := by
  unfold stopAt
  obtain ⟨d, hd⟩ : ∃ d, N - i = d + 1 := ⟨N - i - 1, by omega⟩
  rw [hd, show N - (i + 1) = d by omega]
  simp [stopF, h, hp]
theorem stopAt_stop {p : Nat → Bool} {N i : Nat} (h : i < N → p i = false) : stopAt p N i = i := by
  unfold stopAt
  cases N - i with
  | zero => rfl
  | succ d =>
    unfold stopF
    by_cases hl : i < N
    · simp [h hl]
    · simp [hl]
theorem stopAt_spec (p : Nat → Bool) (N : Nat) : ∀ (d i : Nat), N - i = d → i ≤ N → i ≤ stopAt p N i ∧ stopAt p N i ≤ N ∧ ∀ j, i ≤ j → j < stopAt p N i → p j = true
  | 0, i, hd, hi => by
    rw [stopAt_stop (fun h => by omega)]
    exact ⟨Nat.le_refl _, hi, fun j h1 h2 => by omega⟩
  | d + 1, i, hd, hi => by
    cases hf : p i with
    | false =>
      rw [stopAt_stop (fun _ => hf)]
      exact ⟨Nat.le_refl _, hi, fun j h1 h2 => by omega⟩
    | true =>
      rw [stopAt_step (by omega) hf]
      obtain ⟨h1, h2, h4⟩ := stopAt_spec p N d (i + 1) (by omega) (by omega)
      refine ⟨by omega, h2, fun j h5 h6 => ?_⟩
      rcases Nat.lt_or_ge i j with h7 | h7
      · exact h4 j h7 h6
      · obtain rfl : j = i := by omega
        exact hf

def tailE (xs : List Int) : Bool := xs.length == 0 || bidiAt xs (xs.length - 1) == 11
/-- the paragraphs of a document: an empty one stands at the end of a text that ends with class B -/
def allP (xs : List Int) : List (Nat × Nat) := if tailE xs = true then paras xs ++ [(xs.length, xs.length)] else paras xs
theorem allP_yes {xs : List Int} (h : tailE xs = true) : allP xs = paras xs ++ [(xs.length, xs.length)] := by simp [allP, h]
theorem allP_no {xs : List Int} (h : tailE xs = false) : allP xs = paras xs := by simp [allP, h]
theorem allP_len (xs : List Int) : (allP xs).length ≤ xs.length + 1 := by
  have := paras_len xs
  unfold allP
  split
  · simp; omega
  · omega
theorem allP_each (xs : List Int) (j : Nat) (h : j < (allP xs).length) : (rng (allP xs) j).1 ≤ (rng (allP xs) j).2 ∧ (rng (allP xs) j).2 ≤ xs.length := by
  cases ht : tailE xs with
  | false =>
    rw [allP_no ht] at h ⊢
    obtain ⟨h1, h2, h3, _⟩ := paras_each xs j h
    exact ⟨by omega, h3⟩
  | true =>
    rw [allP_yes ht] at h ⊢
    simp only [List.length_append, List.length_singleton] at h
    rcases Nat.lt_or_ge j (paras xs).length with h3 | h3
    · rw [rng_lo h3]
      obtain ⟨h1, h2, h4, _⟩ := paras_each xs j h3
      exact ⟨by omega, h4⟩
    · obtain rfl : j = (paras xs).length := by omega
      rw [rng_at]
      exact ⟨Nat.le_refl _, Nat.le_refl _⟩
theorem allP_pos (xs : List Int) : 0 < (allP xs).length := by
  cases ht : tailE xs with
  | true => rw [allP_yes ht]; simp
  | false =>
    rw [allP_no ht]
    have hn : xs.length ≠ 0 := by intro h; unfold tailE at ht; rw [h] at ht; simp at ht
    have h := paras_end xs
    rcases Nat.eq_zero_or_pos (paras xs).length with h0 | h0
    · rw [h0] at h; simp [upto] at h; omega
    · exact h0

/-- how many paragraphs at the beginning, at the end, an edit leaves: k, l the paragraphs ahead of it and behind it; e where it begins, f where it ends, d by how much it moves -/
def keepB (k l : List (Nat × Nat)) (e : Int) (j : Nat) : Bool := rng k j == rng l j && decide (((rng k j).2 : Int) ≤ e)
def keepN (k l : List (Nat × Nat)) (e : Int) : Nat := stopAt (keepB k l e) (min k.length l.length) 0
def tailB (k l : List (Nat × Nat)) (f d : Int) (t : Nat) : Bool :=
  decide (f ≤ ((rng k (k.length - 1 - t)).1 : Int)) && (decide (((rng k (k.length - 1 - t)).1 : Int) + d = (rng l (l.length - 1 - t)).1) && decide (((rng k (k.length - 1 - t)).2 : Int) + d = (rng l (l.length - 1 - t)).2))
def tailN (k l : List (Nat × Nat)) (e f d : Int) : Nat := stopAt (tailB k l f d) (min (k.length - keepN k l e) (l.length - keepN k l e)) 0
theorem keepN_le (k l : List (Nat × Nat)) (e : Int) : keepN k l e ≤ k.length ∧ keepN k l e ≤ l.length := by
  have := (stopAt_spec (keepB k l e) (min k.length l.length) _ 0 rfl (Nat.zero_le _)).2.1
  unfold keepN; omega
theorem tailN_le (k l : List (Nat × Nat)) (e f d : Int) : keepN k l e + tailN k l e f d ≤ k.length ∧ keepN k l e + tailN k l e f d ≤ l.length := by
  have h1 := keepN_le k l e
  have := (stopAt_spec (tailB k l f d) (min (k.length - keepN k l e) (l.length - keepN k l e)) _ 0 rfl (Nat.zero_le _)).2.1
  unfold tailN; omega
theorem keepN_each {k l : List (Nat × Nat)} {e : Int} {j : Nat} (h : j < keepN k l e) : rng k j = rng l j ∧ ((rng k j).2 : Int) ≤ e := by
  have := (stopAt_spec (keepB k l e) (min k.length l.length) _ 0 rfl (Nat.zero_le _)).2.2 j (Nat.zero_le _) h
  unfold keepB at this
  simp only [Bool.and_eq_true, beq_iff_eq, decide_eq_true_eq] at this
  exact this
theorem tailN_each {k l : List (Nat × Nat)} {e f d : Int} {t : Nat} (h : t < tailN k l e f d) :
    f ≤ ((rng k (k.length - 1 - t)).1 : Int) ∧ ((rng k (k.length - 1 - t)).1 : Int) + d = (rng l (l.length - 1 - t)).1 ∧ ((rng k (k.length - 1 - t)).2 : Int) + d = (rng l (l.length - 1 - t)).2 := by
  have := (stopAt_spec (tailB k l f d) (min (k.length - keepN k l e) (l.length - keepN k l e)) _ 0 rfl (Nat.zero_le _)).2.2 t (Nat.zero_le _) h
  unfold tailB at this
  simp only [Bool.and_eq_true, decide_eq_true_eq] at this
  exact this

/-- the text behind an edit that fits: g signs at p replaced by put -/
def behind (xs put : List Int) (p g : Nat) : List Int := xs.take p ++ put ++ xs.drop (p + g)
section
variable {xs put : List Int} {p g : Nat}
theorem behind_len (h : p + g ≤ xs.length) : (behind xs put p g).length = xs.length - g + put.length := by unfold behind; simp; omega
theorem behind_lo (h : p ≤ xs.length) {j : Nat} (hj : j < p) : nth (behind xs put p g) j = nth xs j := by
  unfold nth behind
  simp only [List.getD_eq_getElem?_getD]
  rw [List.append_assoc, List.getElem?_append_left (by simp; omega), List.getElem?_take, if_pos hj]
theorem behind_take (h : p ≤ xs.length) {a b : Nat} (hb : b ≤ p) : ((behind xs put p g).take b).drop a = (xs.take b).drop a := by
  unfold behind
  rw [List.append_assoc, List.take_append_of_le_length (by simp; omega), List.take_take, Nat.min_eq_left hb]
/-- what stands behind the edit is moved -/
theorem behind_move (h : p + g ≤ xs.length) {a b a2 b2 : Nat} (ha : p + g ≤ a) (h1 : a2 + g = a + put.length) (h2 : b2 + g = b + put.length) : ((behind xs put p g).take b2).drop a2 = (xs.take b).drop a := by
  refine List.ext_getElem? fun i => ?_
  simp only [List.getElem?_drop, List.getElem?_take]
  by_cases hi : a + i < b
  · rw [if_pos hi, if_pos (by omega)]
    unfold behind
    rw [List.getElem?_append_right (by simp; omega), List.getElem?_drop]
    congr 1
    simp
    omega
  · rw [if_neg hi, if_neg (by omega)]
end
end Go.Proofs.YtmbgeeiidpllcaaDoor
