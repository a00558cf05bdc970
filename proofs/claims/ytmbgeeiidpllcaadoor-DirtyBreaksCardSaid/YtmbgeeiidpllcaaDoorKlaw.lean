/- Chapter 19: where a line may end: plain. No program in sight. -/
import Derived.Test.YtmbgeeiidpllcaaDoorGr
namespace Go.Proofs.YtmbgeeiidpllcaaDoor
set_option linter.unusedSimpArgs false

/-- is a class one of some? -/
def inL (l : List Int) (c : Int) : Bool := l.contains c
/-- the class of the i-th sign -/
def bk (xs : List Int) (i : Nat) : Int := (propOf (nth xs i)).brk
def mkB (c : Int) : Bool := inL [8, 9] c
def stopB (c : Int) : Bool := inL [1, 2, 3, 4, 5] c
/-- the class by what stands ahead, and the sign from which it comes -/
def cls (xs : List Int) : Nat → Int
  | 0 => if mkB (bk xs 0) = true then 0 else bk xs 0
  | i + 1 => if mkB (bk xs (i + 1)) = true then (if stopB (bk xs i) = true then 0 else cls xs i) else bk xs (i + 1)
def srcN (xs : List Int) : Nat → Nat
  | 0 => 0
  | i + 1 => if mkB (bk xs (i + 1)) = true then (if stopB (bk xs i) = true then i + 1 else srcN xs i) else i + 1
theorem srcN_le (xs : List Int) : ∀ i, srcN xs i ≤ i
  | 0 => Nat.le_refl _
  | i + 1 => by
    have := srcN_le xs i
    simp only [srcN]
    split
    · split <;> omega
    · omega
/-- one more than the last sign ahead of a place that is no space; 0: there is none -/
def spN (xs : List Int) : Nat → Nat
  | 0 => 0
  | i + 1 => if (bk xs i == 4) = true then spN xs i else i + 1
theorem spN_le (xs : List Int) : ∀ i, spN xs i ≤ i
  | 0 => Nat.le_refl _
  | i + 1 => by
    have := spN_le xs i
    simp only [spN]
    split <;> omega
/-- how many regionals stand ahead of a place, marks between them aside; the same by classes -/
def riN (xs : List Int) : Nat → Nat
  | 0 => 0
  | i + 1 => if (bk xs i == 29) = true then riN xs i + 1 else if mkB (bk xs i) = true then riN xs i else 0
def flN (xs : List Int) : Nat → Nat
  | 0 => 0
  | i + 1 => if (cls xs i == 29) = true then (if (bk xs i == 29) = true then flN xs i + 1 else flN xs i) else 0
theorem riN_le (xs : List Int) : ∀ i, riN xs i ≤ i
  | 0 => Nat.le_refl _
  | i + 1 => by
    have := riN_le xs i
    simp only [riN]
    split
    · omega
    · split <;> omega
theorem mk_29 : mkB 29 = false := by decide
theorem stop_29 {c : Int} (h : stopB c = true) : (c == 29) = false ∧ mkB c = false := by
  unfold stopB inL at h
  unfold mkB inL
  simp at h
  rcases h with rfl | rfl | rfl | rfl | rfl <;> decide
theorem cls_own {xs : List Int} {i : Nat} (h : mkB (bk xs i) = false) : cls xs i = bk xs i := by
  cases i <;> simp [cls, h]
theorem cls_29 {xs : List Int} {i : Nat} (h : (bk xs i == 29) = true) : cls xs i = 29 := by
  have h2 : bk xs i = 29 := by simpa using h
  rw [cls_own (by rw [h2]; exact mk_29), h2]
theorem ri_mark (xs : List Int) : ∀ k, mkB (bk xs k) = true → (cls xs k == 29) = false → riN xs k = 0
  | 0, _, _ => rfl
  | j + 1, hm, hc => by
    simp only [riN]
    have e : cls xs (j + 1) = if stopB (bk xs j) = true then 0 else cls xs j := by simp only [cls]; rw [if_pos hm]
    rw [e] at hc
    cases hs : stopB (bk xs j) with
    | true =>
      obtain ⟨h1, h2⟩ := stop_29 hs
      rw [h1, h2]; rfl
    | false =>
      rw [hs, if_neg (by simp)] at hc
      cases h1 : (bk xs j == 29) with
      | true => rw [cls_29 h1] at hc; simp at hc
      | false =>
        rw [if_neg (by simp)]
        cases h2 : mkB (bk xs j) with
        | false => rfl
        | true => rw [if_pos rfl]; exact ri_mark xs j h2 hc
theorem ri_fl (xs : List Int) : ∀ i, riN xs i = flN xs i
  | 0 => rfl
  | k + 1 => by
    have ih := ri_fl xs k
    simp only [riN, flN]
    cases h1 : (bk xs k == 29) with
    | true =>
      rw [cls_29 h1]
      simp [ih]
    | false =>
      rw [if_neg (by simp)]
      cases h2 : mkB (bk xs k) with
      | true =>
        rw [if_pos rfl]
        cases h3 : (cls xs k == 29) with
        | true => simp [ih]
        | false => rw [ri_mark xs k h2 h3]; rfl
      | false =>
        rw [cls_own h2, h1]; rfl

/-! ### the rules -/
def hardF (oa ob os a b : Int) : Int :=
  if inL [1, 3, 2] oa = true then 2 else if inL [1, 2, 3, 4, 5] ob = true then 0 else if (os == 5) = true then 1 else if (oa == 9 || (inL [8, 9] ob && oa != 4)) = true then 0
  else if (a == 6 || (b == 6 || a == 7)) = true then 0 else if (b == 7 && !inL [4, 10, 12] a) = true then 0 else -1
def closF (oa a b s : Int) : Int :=
  if inL [13, 14, 15, 20, 24] b = true then 0 else if (s == 18 || (s == 19 && b == 18)) = true then 0 else if (inL [13, 14] s && b == 17) = true then 0 else if (oa == 4) = true then 1
  else if (a == 19 || b == 19) = true then 0 else -1
def alI (c : Int) : Bool := inL [0, 28] c
def joinQ (a b : Int) (heb : Bool) : Bool :=
  (inL [10, 12, 17] b || a == 11) || ((inL [12, 10] a && heb) || (((a == 24 && b == 28) || b == 16) || (((alI a && b == 21) || (a == 21 && alI b)) ||
    (((a == 23 && inL [25, 26, 27] b) || (inL [25, 26, 27] a && b == 22)) || (((inL [23, 22] a && alI b) || (alI a && inL [23, 22] b)) ||
      ((inL [13, 14, 21] a && inL [22, 23] b) || ((inL [22, 23] a && inL [18, 21] b) || (inL [12, 20, 21, 24] a && b == 21))))))))
def sylB (c : Int) : Bool := inL [30, 31, 32, 33, 34] c
def lastB (a b : Int) (odd : Bool) : Bool :=
  (a == 30 && inL [30, 31, 33, 34] b) || (((inL [31, 33] a && inL [31, 32] b) || (inL [32, 34] a && b == 32)) || (((sylB a && b == 22) || (a == 23 && sylB b)) ||
    (((alI a && alI b) || (a == 20 && alI b)) || ((((alI a || a == 21) && b == 18) || (a == 14 && (alI b || b == 21))) || ((a == 25 + 1 && b == 27) || (a == 29 && (b == 29 && odd)))))))
def wordB19 (a b : Int) (heb : Bool) : Bool :=
  (inL [10, 12, 17, 16] b || (a == 11 || (a == 24 && b == 28))) || (((a == 12 || a == 10) && heb) || (((alI a && b == 21) || (a == 21 && alI b)) ||
    (((a == 23 && inL [25, 26, 27] b) || (inL [25, 26, 27] a && b == 22)) || ((inL [23, 22] a && alI b) || (alI a && inL [23, 22] b)))))
def numB (a b : Int) : Bool :=
  (inL [13, 14, 21] a && inL [22, 23] b) || ((inL [22, 23] a && inL [18, 21] b) || ((inL [12, 20, 21, 24] a && b == 21) || ((a == 30 && inL [30, 31, 33, 34] b) ||
    (((inL [31, 33] a && inL [31, 32] b) || (inL [32, 34] a && b == 32)) || ((sylB a && b == 22) || (a == 23 && sylB b))))))
def ltrB (a b : Int) : Bool :=
  ((alI a || a == 20) && alI b) || ((inL [0, 28, 21] a && b == 18) || ((a == 14 && inL [0, 28, 21] b) || (a == 26 && b == 27)))
theorem rules_nat : ∀ a, a < 35 → ∀ b, b < 35 → ∀ heb odd : Bool, (joinQ ((a : Nat) : Int) ((b : Nat) : Int) heb || lastB a b odd) = (wordB19 a b heb || (numB a b || (ltrB a b || (((a : Int) == 29 && (b : Int) == 29) && odd)))) := by decide +kernel
theorem rules_same {a b : Int} (ha : 0 ≤ a ∧ a ≤ 34) (hb : 0 ≤ b ∧ b ≤ 34) (heb odd : Bool) : (joinQ a b heb || lastB a b odd) = (wordB19 a b heb || (numB a b || (ltrB a b || ((a == 29 && b == 29) && odd)))) := by
  obtain ⟨a, rfl⟩ := Int.eq_ofNat_of_zero_le ha.1
  obtain ⟨b, rfl⟩ := Int.eq_ofNat_of_zero_le hb.1
  exact rules_nat a (by omega) b (by omega) heb odd

/-- a sign's class, and its class by what stands ahead, of the sign ahead of place p (a place beyond spaces); -1: there is none -/
def spO (xs : List Int) (i : Nat) : Int := if spN xs i = 0 then -1 else bk xs (spN xs i - 1)
def spC (xs : List Int) (i : Nat) : Int := if spN xs i = 0 then -1 else cls xs (spN xs i - 1)
def hebN (xs : List Int) (i : Nat) : Bool := decide (0 < srcN xs (i - 1)) && (cls xs (srcN xs (i - 1) - 1) == 28)
def oddN (xs : List Int) (i : Nat) : Bool := riN xs i % 2 == 1
/-- the kind of a place within a text that is a boundary of clusters -/
def kindN (xs : List Int) (i : Nat) : Int :=
  if (hardF (bk xs (i - 1)) (bk xs i) (spO xs i) (cls xs (i - 1)) (cls xs i) != -1) = true then hardF (bk xs (i - 1)) (bk xs i) (spO xs i) (cls xs (i - 1)) (cls xs i)
  else if (closF (bk xs (i - 1)) (cls xs (i - 1)) (cls xs i) (spC xs i) != -1) = true then closF (bk xs (i - 1)) (cls xs (i - 1)) (cls xs i) (spC xs i)
  else if joinQ (cls xs (i - 1)) (cls xs i) (hebN xs i) = true then 0 else if lastB (cls xs (i - 1)) (cls xs i) (oddN xs i) = true then 0 else 1
/-- the kind of each place of a text -/
def kindAt (xs : List Int) (i : Nat) : Int := if i = 0 then 0 else if i = xs.length then 2 else if isN (ks xs) i = true then kindN xs i else 0
def kindsL (xs : List Int) : List Int := (List.range (xs.length + 1)).map (kindAt xs)
end Go.Proofs.YtmbgeeiidpllcaaDoor
