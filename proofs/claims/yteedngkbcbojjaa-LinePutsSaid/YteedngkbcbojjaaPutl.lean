/- Chapter 45: boxes put side by side, plain. No program in sight. -/
import Derived.Test.YteedngkbcbojjaaVlaw
namespace Go.Proofs.Yteedngkbcbojjaa
set_option linter.unusedSimpArgs false

structure PutD where
  font : Int
  id : Int
  x : Int
  y : Int
deriving Inhabited
structure BoxD where
  f : Int
  t : Int
  lv : Int
  x : Int
  wd : Int
  gs : List PutD
deriving Inhabited
def pnth (gs : List PutD) (j : Nat) : PutD := gs.getD j default
def bnth (bs : List BoxD) (j : Nat) : BoxD := bs.getD j default
theorem pnth_eq {gs : List PutD} {k : Nat} (h : k < gs.length) : pnth gs k = gs[k] := by simp [pnth, h]
theorem bnth_eq {bs : List BoxD} {k : Nat} (h : k < bs.length) : bnth bs k = bs[k] := by simp [bnth, h]
def moveG (a : Int) (g : PutD) : PutD := { g with x := g.x + a }
def putB (b : BoxD) (a : Int) : BoxD := { b with x := a, gs := b.gs.map (moveG a) }
/-- the place at j of an order -/
def ordN (o : List Int) (j : Nat) : Nat := (nth o j).toNat
/-- how wide the first j boxes of the order are together -/
def preS (bs : List BoxD) (o : List Int) : Nat → Int
  | 0 => 0
  | j + 1 => preS bs o j + (bnth bs (ordN o j)).wd
def wideN (bs : List BoxD) : Nat → Int
  | 0 => 0
  | j + 1 => wideN bs j + (bnth bs j).wd
/-- boxes in the order o, the first one at s -/
def putL (bs : List BoxD) (o : List Int) (s : Int) (j : Nat) : List BoxD := (List.range j).map fun q => putB (bnth bs (ordN o q)) (s + preS bs o q)
theorem putL_succ (bs : List BoxD) (o : List Int) (s : Int) (j : Nat) : putL bs o s (j + 1) = putL bs o s j ++ [putB (bnth bs (ordN o j)) (s + preS bs o j)] := by
  simp [putL, List.range_succ]
theorem putL_len (bs : List BoxD) (o : List Int) (s : Int) (j : Nat) : (putL bs o s j).length = j := by simp [putL]

/-! ### by how much the boxes are moved: the program's way and the reference's -/
def inO (o : List Int) (tail j : Nat) : Bool := decide (tail = 0) || decide (ordN o j < tail)
def ownF (o : List Int) (tail : Nat) : Nat → Bool
  | 0 => false
  | j + 1 => ownF o tail j || inO o tail j
def leftF (bs : List BoxD) (o : List Int) (tail : Nat) : Nat → Int
  | 0 => 0
  | j + 1 => if (inO o tail j && !ownF o tail j) = true then preS bs o j else leftF bs o tail j
def rightF (bs : List BoxD) (o : List Int) (tail : Nat) : Nat → Int
  | 0 => 0
  | j + 1 => if inO o tail j = true then preS bs o (j + 1) else rightF bs o tail j
def shiftP (bs : List BoxD) (o : List Int) (tail : Nat) (odd : Bool) (x : Int) : Int :=
  if odd = true then x + wideN bs tail - rightF bs o tail bs.length else x - leftF bs o tail bs.length
/-- is there no box ahead of the tail among the first j? -/
def noneT (o : List Int) (tail : Nat) : Nat → Bool
  | 0 => true
  | j + 1 => noneT o tail j && !decide (ordN o j < tail)
def shR (bs : List BoxD) (o : List Int) (tail : Nat) (odd : Bool) (x : Int) : Nat → Int
  | 0 => if odd = true then x - preS bs o bs.length else x
  | j + 1 => if ordN o j < tail then (if odd = true then x + wideN bs tail - preS bs o (j + 1) else if noneT o tail j = true then x - preS bs o j else shR bs o tail odd x j) else shR bs o tail odd x j
theorem noneT_own {o : List Int} {tail : Nat} (h : tail ≠ 0) : ∀ j, noneT o tail j = !ownF o tail j
  | 0 => rfl
  | j + 1 => by
    simp only [noneT, ownF, inO]
    rw [noneT_own h j]
    simp [h]
theorem shR_even {bs : List BoxD} {o : List Int} {tail : Nat} (x : Int) (h : tail ≠ 0) : ∀ j, shR bs o tail false x j = x - leftF bs o tail j
  | 0 => by simp [shR, leftF]
  | j + 1 => by
    have ih := shR_even (bs := bs) (o := o) x h j
    by_cases c : ordN o j < tail
    · cases ho : ownF o tail j <;> simp [shR, leftF, noneT_own h j, inO, c, h, ih, ho]
    · simp [shR, leftF, noneT_own h j, inO, c, h, ih]
theorem shR_odd {bs : List BoxD} {o : List Int} {tail : Nat} (x : Int) (h : tail ≠ 0) : ∀ j, shR bs o tail true x j = if ownF o tail j = true then x + wideN bs tail - rightF bs o tail j else x - preS bs o bs.length
  | 0 => by simp [shR, ownF]
  | j + 1 => by
    have ih := shR_odd (bs := bs) (o := o) x h j
    by_cases c : ordN o j < tail
    · simp [shR, rightF, ownF, inO, c]
    · simp [shR, rightF, ownF, inO, c, h, ih]
theorem shR_zero (bs : List BoxD) (o : List Int) (odd : Bool) (x : Int) : ∀ j, shR bs o 0 odd x j = if odd = true then x - preS bs o bs.length else x
  | 0 => rfl
  | j + 1 => by simp [shR, shR_zero bs o odd x j]
theorem left_zero (bs : List BoxD) (o : List Int) : ∀ j, leftF bs o 0 j = 0 ∧ (0 < j → ownF o 0 j = true) ∧ rightF bs o 0 j = preS bs o j
  | 0 => by simp [leftF, rightF, preS]
  | j + 1 => by
    obtain ⟨h1, h2, _⟩ := left_zero bs o j
    refine ⟨?_, fun _ => by simp [ownF, inO], by simp [rightF, inO]⟩
    simp only [leftF]
    rcases j with _ | j
    · simp [preS, leftF]
    · rw [h2 (by omega), h1]
      simp
theorem own_of {o : List Int} {tail : Nat} : ∀ {n j : Nat}, j < n → inO o tail j = true → ownF o tail n = true
  | 0, _, h, _ => by omega
  | n + 1, j, h, hi => by
    simp only [ownF]
    by_cases e : j = n
    · subst e; simp [hi]
    · rw [own_of (n := n) (j := j) (by omega) hi]; rfl
/-- both ways move the boxes alike -/
theorem shift_same {bs : List BoxD} {o : List Int} {n tail : Nat} (hn : bs.length = n) (ho : IsOrd o n) (ht : tail ≤ n) (odd : Bool) (x : Int) : shR bs o tail odd x n = shiftP bs o tail odd x := by
  unfold shiftP
  rw [hn]
  by_cases h : tail = 0
  · subst h
    obtain ⟨h1, _, h3⟩ := left_zero bs o n
    rw [shR_zero, h1, h3, hn]
    simp only [wideN]
    cases odd <;> simp
  · cases odd with
    | false => simp [shR_even x h]
    | true =>
      obtain ⟨j, hj, e⟩ := ho.sur 0 (by omega)
      rw [shR_odd x h, if_pos (own_of hj (by unfold inO ordN; simp; omega))]
      simp
/-! ### nothing is great -/
theorem preS_in {bs : List BoxD} {o : List Int} (h : ∀ j, -1073741824 ≤ (bnth bs j).wd ∧ (bnth bs j).wd ≤ 1073741824) : ∀ j : Nat, -1073741824 * (j : Int) ≤ preS bs o j ∧ preS bs o j ≤ 1073741824 * (j : Int)
  | 0 => by simp [preS]
  | j + 1 => by
    have := preS_in (o := o) h j
    have := h (ordN o j)
    simp only [preS]
    omega
theorem wideN_in {bs : List BoxD} (h : ∀ j, -1073741824 ≤ (bnth bs j).wd ∧ (bnth bs j).wd ≤ 1073741824) : ∀ j : Nat, -1073741824 * (j : Int) ≤ wideN bs j ∧ wideN bs j ≤ 1073741824 * (j : Int)
  | 0 => by simp [wideN]
  | j + 1 => by
    have := wideN_in h j
    have := h j
    simp only [wideN]
    omega
theorem sides_in {bs : List BoxD} {o : List Int} {tail : Nat} (h : ∀ j, -1073741824 ≤ (bnth bs j).wd ∧ (bnth bs j).wd ≤ 1073741824) : ∀ j : Nat, (-1073741824 * (j : Int) ≤ leftF bs o tail j ∧ leftF bs o tail j ≤ 1073741824 * (j : Int)) ∧ -1073741824 * (j : Int) ≤ rightF bs o tail j ∧ rightF bs o tail j ≤ 1073741824 * (j : Int)
  | 0 => by simp [leftF, rightF]
  | j + 1 => by
    have h1 := sides_in (o := o) (tail := tail) h j
    have h2 := preS_in (o := o) h j
    have h3 := preS_in (o := o) h (j + 1)
    simp only [leftF, rightF]
    constructor <;> split <;> omega
end Go.Proofs.Yteedngkbcbojjaa
