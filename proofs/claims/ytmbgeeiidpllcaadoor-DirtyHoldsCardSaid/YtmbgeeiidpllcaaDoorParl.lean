/- Chapter 10: the paragraphs of a text, as plain functions. No program in sight. -/
import Derived.Test.YtmbgeeiidpllcaaDoorPtab
import Derived.Test.YtmbgeeiidpllcaaDoorLib
namespace Go.Proofs.YtmbgeeiidpllcaaDoor

def bidiAt (xs : List Int) (i : Nat) : Int := (propOf (nth xs i)).bidi
def crlfB (xs : List Int) (i : Nat) : Bool := nth xs i == 13 && (decide (i + 1 < xs.length) && nth xs (i + 1) == 10)
/-- does a paragraph end behind the code point i? -/
def endB (xs : List Int) (i : Nat) : Bool := (bidiAt xs i == 11 && !crlfB xs i) || decide (i + 1 = xs.length)
/-- where the paragraph under way began, k code points read -/
def frm (xs : List Int) : Nat → Nat
  | 0 => 0
  | k + 1 => if endB xs k = true then k + 1 else frm xs k
def par (xs : List Int) : Nat → List (Nat × Nat)
  | 0 => []
  | k + 1 => if endB xs k = true then par xs k ++ [(frm xs k, k + 1)] else par xs k
def paras (xs : List Int) : List (Nat × Nat) := par xs xs.length
theorem par_yes {xs : List Int} {k : Nat} (h : endB xs k = true) : par xs (k + 1) = par xs k ++ [(frm xs k, k + 1)] := by simp [par, h]
theorem par_no {xs : List Int} {k : Nat} (h : endB xs k = false) : par xs (k + 1) = par xs k := by simp [par, h]
theorem frm_yes {xs : List Int} {k : Nat} (h : endB xs k = true) : frm xs (k + 1) = k + 1 := by simp [frm, h]
theorem frm_no {xs : List Int} {k : Nat} (h : endB xs k = false) : frm xs (k + 1) = frm xs k := by simp [frm, h]
theorem frm_le (xs : List Int) : ∀ k, frm xs k ≤ k
  | 0 => Nat.le_refl _
  | k + 1 => by
    have := frm_le xs k
    simp only [frm]
    split <;> omega
theorem par_len (xs : List Int) : ∀ k, (par xs k).length ≤ k
  | 0 => Nat.le_refl _
  | k + 1 => by
    have := par_len xs k
    simp only [par]
    split
    · simp; omega
    · omega

/-- the j-th range of a list -/
def rng (ps : List (Nat × Nat)) (j : Nat) : Nat × Nat := ps.getD j (0, 0)
/-- where the ranges ahead of the j-th end -/
def upto (ps : List (Nat × Nat)) : Nat → Nat
  | 0 => 0
  | j + 1 => (rng ps j).2
theorem rng_lo {ps qs : List (Nat × Nat)} {j : Nat} (h : j < ps.length) : rng (ps ++ qs) j = rng ps j := by simp [rng, List.getElem?_append_left h]
theorem rng_at {ps : List (Nat × Nat)} {p : Nat × Nat} : rng (ps ++ [p]) ps.length = p := by simp [rng]
theorem upto_lo {ps qs : List (Nat × Nat)} {j : Nat} (h : j ≤ ps.length) : upto (ps ++ qs) j = upto ps j := by
  cases j with
  | zero => rfl
  | succ j => simp only [upto]; rw [rng_lo (by omega)]
structure PInv (xs : List Int) (k : Nat) (ps : List (Nat × Nat)) (f : Nat) : Prop where
  each : ∀ j, j < ps.length → (rng ps j).1 = upto ps j ∧ upto ps j < (rng ps j).2 ∧ (rng ps j).2 ≤ k ∧ endB xs ((rng ps j).2 - 1) = true ∧ ∀ i, upto ps j ≤ i → i + 1 < (rng ps j).2 → endB xs i = false
  last : upto ps ps.length = f
  tail : ∀ i, f ≤ i → i < k → endB xs i = false
theorem pinv (xs : List Int) : ∀ k, PInv xs k (par xs k) (frm xs k)
  | 0 => ⟨fun j h => by simp [par] at h, rfl, fun i _ h => by omega⟩
  | k + 1 => by
    have ih := pinv xs k
    have hf := frm_le xs k
    cases h : endB xs k with
    | false =>
      rw [par_no h, frm_no h]
      refine ⟨fun j hj => ?_, ih.last, fun i h1 h2 => ?_⟩
      · obtain ⟨h1, h2, h3, h4⟩ := ih.each j hj
        exact ⟨h1, h2, by omega, h4⟩
      · rcases Nat.lt_or_ge i k with h3 | h3
        · exact ih.tail i h1 h3
        · obtain rfl : i = k := by omega
          exact h
    | true =>
      rw [par_yes h, frm_yes h]
      refine ⟨fun j hj => ?_, ?_, fun i h1 h2 => by omega⟩
      · simp only [List.length_append, List.length_singleton] at hj
        rcases Nat.lt_or_ge j (par xs k).length with h3 | h3
        · obtain ⟨h1, h2, h4, h5⟩ := ih.each j h3
          rw [rng_lo h3, upto_lo (by omega)]
          exact ⟨h1, h2, by omega, h5⟩
        · obtain rfl : j = (par xs k).length := by omega
          rw [rng_at, upto_lo (Nat.le_refl _), ih.last]
          exact ⟨rfl, by simp only; omega, by simp only; omega, h, fun i h6 h7 => ih.tail i h6 (by simp only at h7; omega)⟩
      · rw [List.length_append, List.length_singleton]
        simp only [upto]
        rw [rng_at]
theorem frm_end {xs : List Int} : frm xs xs.length = xs.length := by
  rcases Nat.eq_zero_or_pos xs.length with h | h
  · rw [h]; rfl
  · obtain ⟨k, hk⟩ : ∃ k, xs.length = k + 1 := ⟨xs.length - 1, by omega⟩
    have : endB xs k = true := by simp [endB, hk]
    rw [hk, frm_yes this]
/-- what is known of each paragraph -/
theorem paras_each (xs : List Int) (j : Nat) (h : j < (paras xs).length) : (rng (paras xs) j).1 = upto (paras xs) j ∧ upto (paras xs) j < (rng (paras xs) j).2 ∧ (rng (paras xs) j).2 ≤ xs.length ∧ endB xs ((rng (paras xs) j).2 - 1) = true ∧
    ∀ i, upto (paras xs) j ≤ i → i + 1 < (rng (paras xs) j).2 → endB xs i = false := (pinv xs xs.length).each j h
theorem paras_end (xs : List Int) : upto (paras xs) (paras xs).length = xs.length := by
  have h := (pinv xs xs.length).last
  rw [frm_end] at h
  exact h
theorem paras_len (xs : List Int) : (paras xs).length ≤ xs.length := par_len xs _
/-- the cells of ranges -/
def cutV (p : Nat × Nat) : List Value := [.int .i64 p.1, .int .i64 p.2]
def cutsV (ps : List (Nat × Nat)) : List Value := ps.flatMap cutV
theorem cutsV_app (ps qs : List (Nat × Nat)) : cutsV (ps ++ qs) = cutsV ps ++ cutsV qs := by simp [cutsV]
theorem cutsV_one (p : Nat × Nat) : cutsV [p] = [.int .i64 p.1, .int .i64 p.2] := by simp [cutsV, cutV]
theorem cutsV_len (ps : List (Nat × Nat)) : (cutsV ps).length = ps.length * 2 := by
  induction ps with
  | nil => rfl
  | cons p ps ih => simp [cutsV, cutV] at ih ⊢; omega
theorem cutsV_at : ∀ (ps : List (Nat × Nat)) (j : Nat), j < ps.length → (cutsV ps)[j * 2]? = some (.int .i64 (rng ps j).1) ∧ (cutsV ps)[j * 2 + 1]? = some (.int .i64 (rng ps j).2)
  | [], j, h => by simp at h
  | p :: ps, 0, _ => by simp [cutsV, cutV, rng]
  | p :: ps, j + 1, h => by
    have ih := cutsV_at ps j (by simpa using h)
    have e1 : cutsV (p :: ps) = .int .i64 p.1 :: .int .i64 p.2 :: cutsV ps := by simp [cutsV, cutV]
    have e2 : rng (p :: ps) (j + 1) = rng ps j := by simp [rng]
    rw [e1, e2, show (j + 1) * 2 = j * 2 + 1 + 1 by omega]
    simp only [List.getElem?_cons_succ]
    exact ih
end Go.Proofs.YtmbgeeiidpllcaaDoor
