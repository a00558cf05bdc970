/- Chapter 8: the kind of a stretch, how many words there are; texts of letters and blanks alone; plain. No program in sight. -/
import Derived.Test.YtefajgfhdnhmmaaDoorWlaw
namespace Go.Proofs.YtefajgfhdnhmmaaDoor

/-- is a class among d code points from i on? -/
def hasF (ws : List Int) (cls : Int) (i : Nat) : Nat → Bool
  | 0 => false
  | d + 1 => nth ws i == cls || hasF ws cls (i + 1) d
theorem hasF_succ (ws : List Int) (cls : Int) (d i : Nat) : hasF ws cls i (d + 1) = (nth ws i == cls || hasF ws cls (i + 1) d) := rfl
theorem hasF_yes {ws : List Int} {cls : Int} {i d : Nat} (h : nth ws i = cls) : hasF ws cls i (d + 1) = true := by simp [hasF, h]
theorem hasF_no {ws : List Int} {cls : Int} {i d : Nat} (h : nth ws i ≠ cls) : hasF ws cls i (d + 1) = hasF ws cls (i + 1) d := by simp [hasF, h]
theorem hasF_snoc (ws : List Int) (cls : Int) : ∀ (d i : Nat), hasF ws cls i (d + 1) = (hasF ws cls i d || nth ws (i + d) == cls)
  | 0, i => by simp [hasF]
  | d + 1, i => by
    have ih := hasF_snoc ws cls d (i + 1)
    rw [hasF_succ ws cls (d + 1), ih, hasF_succ ws cls d, show i + 1 + d = i + (d + 1) by omega, Bool.or_assoc]
theorem hasF_iff (ws : List Int) (cls : Int) : ∀ (d i : Nat), hasF ws cls i d = true ↔ ∃ j, i ≤ j ∧ j < i + d ∧ nth ws j = cls
  | 0, i => by simp [hasF]; omega
  | d + 1, i => by
    rw [hasF_snoc, Bool.or_eq_true, hasF_iff ws cls d i, beq_iff_eq]
    constructor
    · rintro (⟨j, h1, h2, h3⟩ | h)
      · exact ⟨j, h1, by omega, h3⟩
      · exact ⟨i + d, by omega, by omega, h⟩
    · rintro ⟨j, h1, h2, h3⟩
      rcases Nat.lt_or_ge j (i + d) with h4 | h4
      · exact .inl ⟨j, h1, h4, h3⟩
      · obtain rfl : j = i + d := by omega
        exact .inr h3
def kindK (a b c : Bool) : Int := if a = true then 1 else if b = true then 2 else if c = true then 7 else 0
/-- the kind of a stretch -/
def kindC (ws : List Int) (f t : Int) : Int :=
  if f < 0 ∨ (ws.length : Int) < t ∨ t ≤ f then 0 else kindK (hasF ws 1 f.toNat (t.toNat - f.toNat)) (hasF ws 2 f.toNat (t.toNat - f.toNat)) (hasF ws 7 f.toNat (t.toNat - f.toNat))
theorem kindC_out {ws : List Int} {f t : Int} (h : f < 0 ∨ (ws.length : Int) < t ∨ t ≤ f) : kindC ws f t = 0 := by unfold kindC; rw [if_pos h]
theorem kindC_in {ws : List Int} {f d : Nat} (h : f + d ≤ ws.length) (hd : 0 < d) : kindC ws (f : Int) ((f + d : Nat) : Int) = kindK (hasF ws 1 f d) (hasF ws 2 f d) (hasF ws 7 f d) := by
  unfold kindC
  rw [if_neg (by omega)]
  simp only [Int.toNat_natCast]
  rw [show f + d - f = d by omega]
/-- how many of the first k words are of letters or digits -/
def cntW (ws : List Int) (B : List Nat) (k : Nat) : Nat := ((List.range k).filter fun i => solB (kindC ws (atN B i) (atN B (i + 1)))).length
theorem cntW_yes {ws : List Int} {B : List Nat} {k : Nat} (h : solB (kindC ws (atN B k) (atN B (k + 1))) = true) : cntW ws B (k + 1) = cntW ws B k + 1 := by
  unfold cntW; rw [List.range_succ, List.filter_append]; simp [h]
theorem cntW_no {ws : List Int} {B : List Nat} {k : Nat} (h : solB (kindC ws (atN B k) (atN B (k + 1))) = false) : cntW ws B (k + 1) = cntW ws B k := by
  unfold cntW; rw [List.range_succ, List.filter_append]; simp [h]
theorem cntW_le (ws : List Int) (B : List Nat) (k : Nat) : cntW ws B k ≤ k := by
  have := List.length_filter_le (fun i => solB (kindC ws (atN B i) (atN B (i + 1)))) (List.range k)
  rw [List.length_range] at this
  exact this
def countW (ws : List Int) (B : List Nat) : Nat := cntW ws B (B.length - 1)

/-! ### texts without anything that clings -/
theorem zero_is {l : List Int} (h : ∀ i, i < l.length → nth l i = 0) {i : Nat} (hi : i ≤ l.length) (h0 : 0 < l.length) : isN l i = true := by
  rcases Nat.eq_zero_or_pos i with h1 | h1
  · subst h1; exact isN_zero h0
  · rcases Nat.lt_or_ge i l.length with h2 | h2
    · rw [isN_mid h1 h2]
      unfold hangAt
      rw [h i h2, h (i - 1) (by omega), (alone 0 0 _ _).2.1 rfl rfl]
      rfl
    · obtain rfl : i = l.length := by omega
      exact isN_end h0
theorem zero_bnd {l : List Int} (h : ∀ i, i < l.length → nth l i = 0) (h0 : 0 < l.length) : bndA l = List.range (l.length + 1) := by
  unfold bndA bndN
  rw [List.filter_eq_self]
  intro a ha
  exact zero_is h (by have := List.mem_range.1 ha; omega) h0
theorem atN_range {n i : Nat} (h : i < n) : atN (List.range n) i = i := by simp [atN, h]
theorem range_kinds {ws : List Int} {n : Nat} (hn : ws.length = n) (h : ∀ i, i < n → nth ws i ≠ 6) : wkinds ws (List.range (n + 1)) = ws := by
  unfold wkinds kinds
  rw [List.length_range, Nat.add_sub_cancel]
  refine List.ext_getElem? fun i => ?_
  rw [List.getElem?_map]
  rcases Nat.lt_or_ge i n with hi | hi
  · rw [List.getElem?_eq_getElem (by simpa using hi)]
    have e : kindN ws (List.range (n + 1)) i = nth ws i := by
      unfold kindN
      rw [atN_range (by omega), atN_range (by omega), show i + 1 - i = 0 + 1 by omega, kindF_no (h i hi)]
    simp only [List.getElem_range, Option.map_some, e]
    rw [List.getElem?_eq_getElem (by omega), nth_eq (by omega)]
  · rw [List.getElem?_eq_none (by simpa using hi), List.getElem?_eq_none (by omega)]
    rfl
theorem wbs_skip {bs : List Nat} {K : List Int} {a : Nat} : ∀ d, (∀ j, a ≤ j → j < a + d → wisB K j = false) → wbs bs K (a + d) = wbs bs K a
  | 0, _ => rfl
  | d + 1, h => by
    rw [show a + (d + 1) = a + d + 1 by omega, wbs_no (h _ (by omega) (by omega))]
    exact wbs_skip d fun j h1 h2 => h j h1 (by omega)
theorem whB_sol {p a b q : Int} (ha : solB a = true) (hb : solB b = true) : whB p a b q = true := by simp [whB, ha, hb]
theorem whB_spc {p q : Int} : whB p 7 7 q = true := by simp [whB, solB]
theorem whB_sp1 {p a q : Int} (ha : solB a = true) : whB p a 7 q = false := by
  have : a = 1 ∨ a = 2 := by simpa [solB] using ha
  rcases this with rfl | rfl <;> simp [whB, solB, brB]
theorem whB_sp2 {p b q : Int} (hb : solB b = true) : whB p 7 b q = false := by
  have : b = 1 ∨ b = 2 := by simpa [solB] using hb
  rcases this with rfl | rfl <;> simp [whB, solB, brB]
theorem whang_at {K : List Int} {j : Nat} (h0 : 0 < j) (h : j < K.length) : whang K j = whB (kat K ((j : Int) - 2)) (nth K (j - 1)) (nth K j) (kat K ((j : Int) + 1)) := by
  unfold whang
  rw [kat_in h, show (j : Int) - 1 = ((j - 1 : Nat) : Int) by omega, kat_in (by omega)]
theorem wisB_mid {K : List Int} {j : Nat} (h0 : 0 < j) (h : j < K.length) : wisB K j = !whang K j := by
  have h1 : (j == 0) = false := by simp; omega
  have h2 : (j == K.length) = false := by simp; omega
  simp [wisB, h1, h2]
theorem wisB_end (K : List Int) : wisB K K.length = true := by simp [wisB]
/-- one word -/
theorem one_word {bs : List Nat} {K : List Int} {n : Nat} (hK : K.length = n) (h0 : 0 < n) (h : ∀ j, 0 < j → j < n → whang K j = true) : wbs bs K (n + 1) = [atN bs 0, atN bs n] := by
  have h1 : wbs bs K n = [atN bs 0] := by
    have := wbs_skip (bs := bs) (K := K) (a := 1) (n - 1) fun j h1 h2 => by rw [wisB_mid (by omega) (by omega), h j (by omega) (by omega)]; rfl
    rw [show 1 + (n - 1) = n by omega, wbs_one] at this
    exact this
  have h2 := wisB_end K
  rw [hK] at h2
  rw [wbs_yes h2, h1]
  rfl
/-- three -/
theorem three_words {bs : List Nat} {K : List Int} {n m : Nat} (hK : K.length = 2 * n + m) (h0 : 0 < n) (hm : 0 < m) (h : ∀ j, 0 < j → j < 2 * n + m → j ≠ n → j ≠ n + m → whang K j = true) (h1 : whang K n = false) (h2 : whang K (n + m) = false) :
    wbs bs K (2 * n + m + 1) = [atN bs 0, atN bs n, atN bs (n + m), atN bs (2 * n + m)] := by
  have e1 : wbs bs K n = [atN bs 0] := by
    have := wbs_skip (bs := bs) (K := K) (a := 1) (n - 1) fun j h1 h2 => by rw [wisB_mid (by omega) (by omega), h j (by omega) (by omega) (by omega) (by omega)]; rfl
    rw [show 1 + (n - 1) = n by omega, wbs_one] at this
    exact this
  have e2 : wbs bs K (n + 1) = [atN bs 0, atN bs n] := by
    rw [wbs_yes (by rw [wisB_mid h0 (by omega), h1]; rfl), e1]; rfl
  have e3 : wbs bs K (n + m) = [atN bs 0, atN bs n] := by
    have := wbs_skip (bs := bs) (K := K) (a := n + 1) (m - 1) fun j h1 h2 => by rw [wisB_mid (by omega) (by omega), h j (by omega) (by omega) (by omega) (by omega)]; rfl
    rw [show n + 1 + (m - 1) = n + m by omega, e2] at this
    exact this
  have e4 : wbs bs K (n + m + 1) = [atN bs 0, atN bs n, atN bs (n + m)] := by
    rw [wbs_yes (by rw [wisB_mid (by omega) (by omega), h2]; rfl), e3]; rfl
  have e5 : wbs bs K (2 * n + m) = [atN bs 0, atN bs n, atN bs (n + m)] := by
    have := wbs_skip (bs := bs) (K := K) (a := n + m + 1) (n - 1) fun j h1 h2 => by rw [wisB_mid (by omega) (by omega), h j (by omega) (by omega) (by omega) (by omega)]; rfl
    rw [show n + m + 1 + (n - 1) = 2 * n + m by omega, e4] at this
    exact this
  have h3 := wisB_end K
  rw [hK] at h3
  rw [wbs_yes h3, e5]
  rfl
end Go.Proofs.YtefajgfhdnhmmaaDoor
