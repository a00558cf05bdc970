/- Chapter 7: where clusters part, as plain functions on a list of classes. No program in sight. -/
import Derived.Test.YtmbgeeiidpllcaaDoorLib
namespace Go.Proofs.YtmbgeeiidpllcaaDoor

def hardB (c : Int) : Bool := c == 1 || c == 2 || c == 3
def hglB (a b : Int) : Bool :=
  if a == 9 then b == 9 || b == 10 || b == 12 || b == 13 else if a == 12 || a == 10 then b == 10 || b == 11 else if a == 13 || a == 11 then b == 11 else false
/-- the code point ahead of place k, the extending ones passed over, is a picture -/
def picAt (ks : List Int) : Nat → Bool
  | 0 => false
  | k + 1 => if nth ks k == 4 then picAt ks k else nth ks k == 14
/-- how many regionals stand right ahead of place k -/
def regs (ks : List Int) : Nat → Nat
  | 0 => 0
  | k + 1 => if nth ks k == 6 then regs ks k + 1 else 0
/-- the reference's rule, of two classes side by side -/
def hngB (a b : Int) (pic odd : Bool) : Bool :=
  if (a == 1 && b == 2 || hglB a b) = true then true
  else if (!hardB a && (b == 4 || b == 5 || b == 8)) = true then true
  else if (a == 7 && !hardB b) = true then true
  else if (a == 5 && b == 14 && pic) = true then true
  else a == 6 && b == 6 && odd
/-- the program's rule -/
def hngP (a b : Int) (pic odd : Bool) : Bool :=
  if (a == 1 && b == 2) = true then true
  else if (hardB a || hardB b) = true then false
  else if (hglB a b || b == 4 || b == 5 || b == 8 || a == 7) = true then true
  else if (b == 14) = true then (a == 5 && pic)
  else a == 6 && b == 6 && odd
theorem hng_same (a b : Int) (pic odd : Bool) : hngP a b pic odd = hngB a b pic odd := by
  have split : ∀ c : Int, (c = 1 ∨ c = 2 ∨ c = 3 ∨ c = 4 ∨ c = 5 ∨ c = 6 ∨ c = 7 ∨ c = 8 ∨ c = 9 ∨ c = 10 ∨ c = 11 ∨ c = 12 ∨ c = 13 ∨ c = 14) ∨ (c ≠ 1 ∧ c ≠ 2 ∧ c ≠ 3 ∧ c ≠ 4 ∧ c ≠ 5 ∧ c ≠ 6 ∧ c ≠ 7 ∧ c ≠ 8 ∧ c ≠ 9 ∧ c ≠ 10 ∧ c ≠ 11 ∧ c ≠ 12 ∧ c ≠ 13 ∧ c ≠ 14) := fun c => by omega
  rcases split a with ha | ha
  · rcases split b with hb | hb
    · rcases ha with rfl | rfl | rfl | rfl | rfl | rfl | rfl | rfl | rfl | rfl | rfl | rfl | rfl | rfl <;>
        rcases hb with rfl | rfl | rfl | rfl | rfl | rfl | rfl | rfl | rfl | rfl | rfl | rfl | rfl | rfl <;> cases pic <;> cases odd <;> rfl
    · rcases ha with rfl | rfl | rfl | rfl | rfl | rfl | rfl | rfl | rfl | rfl | rfl | rfl | rfl | rfl <;> simp [hngP, hngB, hardB, hglB, hb]
  · rcases split b with hb | hb
    · rcases hb with rfl | rfl | rfl | rfl | rfl | rfl | rfl | rfl | rfl | rfl | rfl | rfl | rfl | rfl <;> simp [hngP, hngB, hardB, hglB, ha]
    · simp [hngP, hngB, hardB, hglB, ha, hb]

/-- the places i-1 and i hang together (0 < i < length) -/
def hangAt (ks : List Int) (i : Nat) : Bool := hngB (nth ks (i - 1)) (nth ks i) (picAt ks (i - 1)) (regs ks i % 2 == 1)
/-- is a place one where clusters part? -/
def isN (ks : List Int) (i : Nat) : Bool := decide (0 < ks.length ∧ i ≤ ks.length) && (i == 0 || i == ks.length || !hangAt ks i)
def isI (ks : List Int) (i : Int) : Bool := decide (0 ≤ i) && isN ks i.toNat
def bnds (ks : List Int) (m : Nat) : List Int := ((List.range m).filter (isN ks)).map Int.ofNat
theorem bnds_succ (ks : List Int) (m : Nat) : bnds ks (m + 1) = if isN ks m = true then bnds ks m ++ [(m : Int)] else bnds ks m := by
  unfold bnds
  rw [List.range_succ, List.filter_append, List.map_append]
  by_cases h : isN ks m = true
  · simp [h]
  · simp [h]
/-- all boundaries -/
def bounds (ks : List Int) : List Int := bnds ks (ks.length + 1)
theorem isN_nil (i : Nat) : isN [] i = false := by simp [isN]
theorem isN_out {ks : List Int} {i : Nat} (h : ks.length < i) : isN ks i = false := by simp [isN]; omega
theorem isN_zero {ks : List Int} (h : 0 < ks.length) : isN ks 0 = true := by simp [isN, h]
theorem isN_end {ks : List Int} (h : 0 < ks.length) : isN ks ks.length = true := by simp [isN, h]
theorem isN_mid {ks : List Int} {i : Nat} (h0 : 0 < i) (h : i < ks.length) : isN ks i = !hangAt ks i := by
  have h1 : (i == 0) = false := by simp; omega
  have h2 : (i == ks.length) = false := by simp; omega
  have h3 : decide (0 < ks.length ∧ i ≤ ks.length) = true := by simp; omega
  simp [isN, h1, h2, h3]

/-! ### GraphemeAlone -/
theorem alone (a b : Int) (pic odd : Bool) :
    (hardB a = true → hngB a b pic odd = (a == 1 && b == 2)) ∧ (a = 0 → b = 0 → hngB a b pic odd = false) ∧ (a = 0 → (b = 4 ∨ b = 5 ∨ b = 8) → hngB a b pic odd = true) := by
  refine ⟨fun h => ?_, fun h1 h2 => ?_, fun h1 h2 => ?_⟩
  · have : a = 1 ∨ a = 2 ∨ a = 3 := by simpa [hardB, or_assoc] using h
    by_cases hb : b = 2
    · subst hb; rcases this with rfl | rfl | rfl <;> simp [hngB, hardB, hglB]
    · rcases this with rfl | rfl | rfl <;> simp [hngB, hardB, hglB, hb]
  · subst h1; subst h2; rfl
  · subst h1
    rcases h2 with rfl | rfl | rfl <;> rfl

/-! ### GraphemeWindow: what stands elsewhere does not count -/
theorem picAt_congr {ks ms : List Int} : ∀ {k : Nat}, (∀ j, j < k → nth ks j = nth ms j) → picAt ks k = picAt ms k
  | 0, _ => rfl
  | k + 1, h => by
    unfold picAt
    rw [h k (by omega), picAt_congr fun j hj => h j (by omega)]
theorem regs_congr {ks ms : List Int} : ∀ {k : Nat}, (∀ j, j < k → nth ks j = nth ms j) → regs ks k = regs ms k
  | 0, _ => rfl
  | k + 1, h => by
    unfold regs
    rw [h k (by omega), regs_congr fun j hj => h j (by omega)]
theorem hangAt_congr {ks ms : List Int} {i : Nat} (h : ∀ j, j ≤ i → nth ks j = nth ms j) : hangAt ks i = hangAt ms i := by
  unfold hangAt
  rw [h i (Nat.le_refl _), h (i - 1) (by omega), picAt_congr fun j hj => h j (by omega), regs_congr fun j hj => h j (by omega)]
theorem nth_hi {p y : List Int} (j : Nat) : nth (p ++ y) (p.length + j) = nth y j := by
  simp only [nth, List.getD_eq_getElem?_getD]
  rw [List.getElem?_append_right (by omega)]
  congr 2
  omega
theorem nth_lo {p y : List Int} {j : Nat} (h : j < p.length) : nth (p ++ y) j = nth p j := by
  simp only [nth, List.getD_eq_getElem?_getD]
  rw [List.getElem?_append_left h]
theorem regs_shift {p y : List Int} : ∀ {i j : Nat}, j < i → nth y j ≠ 6 → regs (p ++ y) (p.length + i) = regs y i
  | 0, _, h, _ => by omega
  | i + 1, j, h, hj => by
    show regs (p ++ y) (p.length + i + 1) = _
    unfold regs
    rw [nth_hi]
    by_cases h6 : nth y i = 6
    · have : j < i := by
        rcases Nat.lt_or_ge j i with h1 | h1
        · exact h1
        · obtain rfl : j = i := by omega
          exact absurd h6 hj
      rw [regs_shift this hj]
    · simp [h6]
theorem picAt_shift {p y : List Int} : ∀ {i j : Nat}, j < i → nth y j ≠ 4 → picAt (p ++ y) (p.length + i) = picAt y i
  | 0, _, h, _ => by omega
  | i + 1, j, h, hj => by
    show picAt (p ++ y) (p.length + i + 1) = _
    unfold picAt
    rw [nth_hi]
    by_cases h6 : nth y i = 4
    · have : j < i := by
        rcases Nat.lt_or_ge j i with h1 | h1
        · exact h1
        · obtain rfl : j = i := by omega
          exact absurd h6 hj
      rw [picAt_shift this hj]
    · simp [h6]
/-- how far a place looks on: regionals, or extending code points and joiners -/
def runEnd (f : Int → Bool) (ks : List Int) : Nat → Nat → Nat
  | 0, i => i
  | d + 1, i => if i < ks.length && f (nth ks i) then runEnd f ks d (i + 1) else i
def runTo (f : Int → Bool) (ks : List Int) (i : Nat) : Nat := runEnd f ks (ks.length - i) i
theorem runTo_step {f : Int → Bool} {ks : List Int} {i : Nat} (h : i < ks.length) (hf : f (nth ks i) = true) : runTo f ks i = runTo f ks (i + 1) := by
  unfold runTo
  obtain ⟨d, hd⟩ : ∃ d, ks.length - i = d + 1 := ⟨ks.length - i - 1, by omega⟩
  rw [hd, show ks.length - (i + 1) = d by omega]
  simp [runEnd, h, hf]
theorem runTo_stop {f : Int → Bool} {ks : List Int} {i : Nat} (h : i < ks.length → f (nth ks i) = false) : runTo f ks i = i := by
  unfold runTo
  cases ks.length - i with
  | zero => rfl
  | succ d =>
    unfold runEnd
    by_cases hl : i < ks.length
    · simp [h hl]
    · simp [hl]
theorem runTo_spec (f : Int → Bool) (ks : List Int) : ∀ (d i : Nat), ks.length - i = d → i ≤ ks.length → i ≤ runTo f ks i ∧ runTo f ks i ≤ ks.length ∧ (runTo f ks i < ks.length → f (nth ks (runTo f ks i)) = false) ∧ ∀ j, i ≤ j → j < runTo f ks i → f (nth ks j) = true
  | 0, i, hd, hi => by
    rw [runTo_stop (fun h => by omega)]
    exact ⟨Nat.le_refl _, hi, fun h => by omega, fun j h1 h2 => by omega⟩
  | d + 1, i, hd, hi => by
    cases hf : f (nth ks i) with
    | false =>
      rw [runTo_stop (fun _ => hf)]
      exact ⟨Nat.le_refl _, hi, fun _ => hf, fun j h1 h2 => by omega⟩
    | true =>
      rw [runTo_step (by omega) hf]
      obtain ⟨h1, h2, h3, h4⟩ := runTo_spec f ks d (i + 1) (by omega) (by omega)
      refine ⟨by omega, h2, h3, fun j h5 h6 => ?_⟩
      rcases Nat.lt_or_ge i j with h7 | h7
      · exact h4 j h7 h6
      · obtain rfl : j = i := by omega
        exact hf
def isReg (c : Int) : Bool := c == 6
def isExt (c : Int) : Bool := c == 4 || c == 5
def winEnd (ks : List Int) (i : Nat) : Nat := max (runTo isReg ks i) (runTo isExt ks i)
theorem winEnd_one {ks : List Int} {i : Nat} (h : i < runTo isReg ks i) (hi : i ≤ ks.length) : runTo isExt ks i = i := by
  obtain ⟨h1, h2, h3, h4⟩ := runTo_spec isReg ks _ i rfl hi
  refine runTo_stop fun hl => ?_
  have := h4 i (Nat.le_refl _) h
  simp [isReg] at this
  simp [isExt, this]

/-- beyond its window a text's boundaries do not hang on what stands ahead -/
theorem hang_beyond {p y : List Int} {i : Nat} (h0 : winEnd y 0 < i) (hi : i < y.length) : hangAt (p ++ y) (p.length + i) = hangAt y i := by
  obtain ⟨a1, a2, a3, a4⟩ := runTo_spec isReg y _ 0 rfl (by omega)
  obtain ⟨b1, b2, b3, b4⟩ := runTo_spec isExt y _ 0 rfl (by omega)
  unfold winEnd at h0
  have hr : regs (p ++ y) (p.length + i) = regs y i := by
    have := a3 (by omega)
    exact regs_shift (j := runTo isReg y 0) (by omega) (by simpa [isReg] using this)
  unfold hangAt
  rw [show p.length + i - 1 = p.length + (i - 1) by omega, nth_hi, nth_hi, hr]
  by_cases h5 : nth y (i - 1) = 5 ∧ nth y i = 14
  · have hp : picAt (p ++ y) (p.length + (i - 1)) = picAt y (i - 1) := by
      have he := b3 (by omega)
      have hlt : runTo isExt y 0 < i - 1 := by
        rcases Nat.lt_or_ge (runTo isExt y 0) (i - 1) with h | h
        · exact h
        · have e : runTo isExt y 0 = i - 1 := by omega
          rw [e, h5.1] at he
          simp [isExt] at he
      refine picAt_shift (j := runTo isExt y 0) hlt ?_
      intro e
      rw [e] at he
      simp [isExt] at he
    rw [hp]
  · have hx : ∀ q, hngB (nth y (i - 1)) (nth y i) q (regs y i % 2 == 1) = hngB (nth y (i - 1)) (nth y i) false (regs y i % 2 == 1) := by
      intro q
      have e : (nth y (i - 1) == 5 && nth y i == 14) = false := by
        cases e : (nth y (i - 1) == 5 && nth y i == 14)
        · rfl
        · simp at e; exact absurd e h5
      unfold hngB
      rw [e]
      simp
    rw [hx, hx (picAt y (i - 1))]
theorem is_within {x u v y : List Int} {i : Nat} (h : i < x.length) : isN (x ++ u ++ y) i = isN (x ++ v ++ y) i := by
  rcases Nat.eq_zero_or_pos i with h0 | h0
  · subst h0
    rw [isN_zero (by simp; omega), isN_zero (by simp; omega)]
  · rw [isN_mid h0 (by simp; omega), isN_mid h0 (by simp; omega)]
    rw [hangAt_congr (ms := x ++ v ++ y)]
    intro j hj
    rw [List.append_assoc, List.append_assoc, nth_lo (by omega), nth_lo (by omega)]
theorem is_beyond {x u v y : List Int} {i : Nat} (h0 : winEnd y 0 < i) (hi : i ≤ y.length) : isN (x ++ u ++ y) (x.length + u.length + i) = isN (x ++ v ++ y) (x.length + v.length + i) := by
  rcases Nat.lt_or_ge i y.length with h | h
  · rw [isN_mid (by omega) (by simp; omega), isN_mid (by omega) (by simp; omega)]
    rw [show x.length + u.length = (x ++ u).length by simp, show x.length + v.length = (x ++ v).length by simp, hang_beyond h0 h, hang_beyond h0 h]
  · obtain rfl : i = y.length := by omega
    have e1 : x.length + u.length + y.length = (x ++ u ++ y).length := by simp; omega
    have e2 : x.length + v.length + y.length = (x ++ v ++ y).length := by simp; omega
    rw [e1, e2, isN_end (by simp; omega), isN_end (by simp; omega)]
end Go.Proofs.YtmbgeeiidpllcaaDoor
