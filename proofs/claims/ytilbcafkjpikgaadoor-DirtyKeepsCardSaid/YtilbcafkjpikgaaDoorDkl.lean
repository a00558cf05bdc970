/- Chapter 52: what is kept of paragraphs is as it was: plain. No program in sight. -/
import Derived.Test.YtilbcafkjpikgaaDoorDlaw
namespace Go.Proofs.YtilbcafkjpikgaaDoor
section
variable {xs ys : List Int} {p g : Nat}
theorem keeps_lo (hpg : p + g ≤ xs.length) {i : Nat} (h : i < keepN (allP xs) (allP (behind xs ys p g)) (p : Int)) :
    rng (allP (behind xs ys p g)) i = rng (allP xs) i ∧ (rng (allP xs) i).2 ≤ p ∧ ((behind xs ys p g).take (rng (allP xs) i).2).drop (rng (allP xs) i).1 = (xs.take (rng (allP xs) i).2).drop (rng (allP xs) i).1 := by
  obtain ⟨h1, h2⟩ := keepN_each h
  have h3 : (rng (allP xs) i).2 ≤ p := by omega
  exact ⟨h1.symm, h3, behind_take (by omega) h3⟩
theorem keeps_hi (hpg : p + g ≤ xs.length) {m : Nat} (hm : ys.length = m) {i u : Nat} (h2 : i < (allP xs).length) (hu : u + (allP xs).length = i + (allP (behind xs ys p g)).length)
    (h1 : (allP xs).length ≤ i + tailN (allP xs) (allP (behind xs ys p g)) (p : Int) ((p : Int) + g) ((m : Int) - g)) :
    p + g ≤ (rng (allP xs) i).1 ∧ ((behind xs ys p g).take (rng (allP (behind xs ys p g)) u).2).drop (rng (allP (behind xs ys p g)) u).1 = (xs.take (rng (allP xs) i).2).drop (rng (allP xs) i).1 := by
  obtain ⟨h3, h4, h5⟩ := tailN_each (k := allP xs) (l := allP (behind xs ys p g)) (e := (p : Int)) (f := (p : Int) + g) (d := (m : Int) - g) (t := (allP xs).length - 1 - i) (by omega)
  have e1 : (allP xs).length - 1 - ((allP xs).length - 1 - i) = i := by omega
  have e2 : (allP (behind xs ys p g)).length - 1 - ((allP xs).length - 1 - i) = u := by omega
  rw [e1] at h3 h4 h5
  rw [e2] at h4 h5
  exact ⟨by omega, behind_move hpg (by omega) (by omega) (by omega)⟩
end
end Go.Proofs.YtilbcafkjpikgaaDoor
