/- Chapter 8: words, as plain functions: kinds of clusters, which clusters hang together, where words part. No program in sight. -/
import Derived.Test.YtgianjnccpbnaaaDoorGlaw2
import Derived.Test.YtgianjnccpbnaaaDoorPtab
namespace Go.Proofs.YtgianjnccpbnaaaDoor

/-- the word class of a code point, of each code point of a text -/
def wdOf (r : Int) : Int := (propOf r).word
def wds (xs : List Int) : List Int := xs.map wdOf
theorem wds_len (xs : List Int) : (wds xs).length = xs.length := by simp [wds]
theorem wds_at {xs : List Int} {i : Nat} (h : i < xs.length) : nth (wds xs) i = wdOf (nth xs i) := by
  unfold nth wds
  simp [h]
/-- the kind of a stretch of d code points from i on: the first class that is not an extending one -/
def kindF (ws : List Int) (i : Nat) : Nat → Int
  | 0 => 0
  | d + 1 => if nth ws i = 6 then kindF ws (i + 1) d else nth ws i
theorem kindF_yes {ws : List Int} {i d : Nat} (h : nth ws i = 6) : kindF ws i (d + 1) = kindF ws (i + 1) d := by simp [kindF, h]
theorem kindF_no {ws : List Int} {i d : Nat} (h : nth ws i ≠ 6) : kindF ws i (d + 1) = nth ws i := by simp [kindF, h]
/-- the kinds of the first k clusters; bs the boundaries -/
def kindN (ws : List Int) (bs : List Nat) (i : Nat) : Int := kindF ws (atN bs i) (atN bs (i + 1) - atN bs i)
def kinds (ws : List Int) (bs : List Nat) (k : Nat) : List Int := (List.range k).map (kindN ws bs)
theorem kinds_succ (ws : List Int) (bs : List Nat) (k : Nat) : kinds ws bs (k + 1) = kinds ws bs k ++ [kindN ws bs k] := by
  unfold kinds; rw [List.range_succ, List.map_append]; rfl
theorem kinds_len (ws : List Int) (bs : List Nat) (k : Nat) : (kinds ws bs k).length = k := by simp [kinds]

def solB (k : Int) : Bool := k == 1 || k == 2
/-- the kind at a number; -1 beyond the ends -/
def kat (K : List Int) (i : Int) : Int := if 0 ≤ i ∧ i < K.length then nth K i.toNat else -1
theorem kat_in {K : List Int} {i : Nat} (h : i < K.length) : kat K (i : Int) = nth K i := by
  unfold kat
  rw [if_pos (by omega), Int.toNat_natCast]
theorem kat_neg {K : List Int} {i : Int} (h : i < 0) : kat K i = -1 := by
  unfold kat
  rw [if_neg (by omega)]
theorem kat_out {K : List Int} {i : Int} (h : (K.length : Int) ≤ i) : kat K i = -1 := by
  unfold kat
  rw [if_neg (by omega)]
/-- p, a, b, q: four kinds side by side: a middle one between two of a kind -/
def brB (p a b q two mid : Int) : Bool := (a == two && b == mid && q == two) || (p == two && a == mid && b == two)
def whB (p a b q : Int) : Bool :=
  if ((solB a && solB b) || (a == 7 && b == 7)) = true then true
  else if ((a == 5 && (solB b || b == 5)) || (b == 5 && solB a)) = true then true
  else brB p a b q 1 3 || brB p a b q 2 4
/-- the clusters i-1 and i hang together (0 < i < length) -/
def whang (K : List Int) (i : Nat) : Bool := whB (kat K ((i : Int) - 2)) (kat K ((i : Int) - 1)) (kat K i) (kat K ((i : Int) + 1))
/-- the reference's way -/
def heldB (p a b q own mid : Int) : Bool := if (a == own && b == mid) = true then q == own else a == mid && (b == own && p == own)
theorem held_br (p a b q own mid : Int) (h : own ≠ mid) : heldB p a b q own mid = brB p a b q own mid := by
  unfold heldB brB
  by_cases h1 : a = own
  · subst h1
    have h2 : (a == mid) = false := by simpa using h
    by_cases hb : b = mid <;> simp [h2, hb]
  · have h2 : (a == own) = false := by simpa using h1
    simp [h2]
    cases hp : (p == own) <;> cases ha : (a == mid) <;> cases hb : (b == own) <;> rfl

/-- is the boundary number j of clusters one of words? -/
def wisB (K : List Int) (j : Nat) : Bool := j == 0 || (j == K.length || !whang K j)
/-- the boundaries of words among the first j boundaries of clusters -/
def wbs (bs : List Nat) (K : List Int) (j : Nat) : List Nat := ((List.range j).filter (wisB K)).map (atN bs)
theorem wbs_yes {bs : List Nat} {K : List Int} {j : Nat} (h : wisB K j = true) : wbs bs K (j + 1) = wbs bs K j ++ [atN bs j] := by
  unfold wbs; rw [List.range_succ, List.filter_append, List.map_append]; simp [h]
theorem wbs_no {bs : List Nat} {K : List Int} {j : Nat} (h : wisB K j = false) : wbs bs K (j + 1) = wbs bs K j := by
  unfold wbs; rw [List.range_succ, List.filter_append, List.map_append]; simp [h]
theorem wbs_len (bs : List Nat) (K : List Int) (j : Nat) : (wbs bs K j).length ≤ j := by
  have := List.length_filter_le (wisB K) (List.range j)
  rw [List.length_range] at this
  simpa [wbs] using this
theorem wbs_one (bs : List Nat) (K : List Int) : wbs bs K 1 = [atN bs 0] := by
  rw [wbs_yes (by rfl)]; rfl
theorem wbs_mem {bs : List Nat} {K : List Int} {j x : Nat} (h : x ∈ wbs bs K j) : ∃ i, i < j ∧ x = atN bs i ∧ wisB K i = true := by
  unfold wbs at h
  obtain ⟨i, h1, h2⟩ := List.mem_map.1 h
  have := List.mem_filter.1 h1
  exact ⟨i, List.mem_range.1 this.1, h2.symm, this.2⟩

/-- the boundaries of a text's clusters, the kinds of these, the words' boundaries -/
def wkinds (ws : List Int) (bs : List Nat) : List Int := kinds ws bs (bs.length - 1)
def wbA (ws : List Int) (bs : List Nat) : List Nat := wbs bs (wkinds ws bs) bs.length
theorem wbA_len (ws : List Int) (bs : List Nat) : (wbA ws bs).length ≤ bs.length := wbs_len _ _ _

/-! ### a list that rises -/
def Rise (l : List Nat) : Prop := ∀ i, i + 1 < l.length → atN l i < atN l (i + 1)
theorem Rise.lt {l : List Nat} (h : Rise l) : ∀ {d i : Nat}, i + (d + 1) < l.length → atN l i < atN l (i + (d + 1))
  | 0, i, hi => h i hi
  | d + 1, i, hi => by
    have h1 := Rise.lt h (d := d) (i := i) (by omega)
    have h2 := h (i + (d + 1)) (by omega)
    rw [show i + (d + 1 + 1) = i + (d + 1) + 1 by omega]
    omega
theorem Rise.lt' {l : List Nat} (h : Rise l) {i j : Nat} (hij : i < j) (hj : j < l.length) : atN l i < atN l j := by
  obtain ⟨d, rfl⟩ : ∃ d, j = i + (d + 1) := ⟨j - i - 1, by omega⟩
  exact h.lt hj
theorem Rise.snoc {l : List Nat} {x : Nat} (h : Rise l) (hx : ∀ y ∈ l, y < x) : Rise (l ++ [x]) := by
  intro i hi
  simp only [List.length_append, List.length_singleton] at hi
  rcases Nat.lt_or_ge (i + 1) l.length with h1 | h1
  · rw [atN_lo h1, atN_lo (by omega)]; exact h i h1
  · obtain h2 : i + 1 = l.length := by omega
    rw [atN_lo (by omega), h2]
    have h3 : atN (l ++ [x]) l.length = x := by simp [atN]
    rw [h3]
    exact hx _ (atN_mem (by omega))
theorem wbs_rise {bs : List Nat} {K : List Int} (h : Rise bs) : ∀ j, j ≤ bs.length → Rise (wbs bs K j)
  | 0, _ => fun i hi => by simp [wbs] at hi
  | j + 1, hj => by
    have ih := wbs_rise (K := K) h j (by omega)
    cases hw : wisB K j with
    | false => rw [wbs_no hw]; exact ih
    | true =>
      rw [wbs_yes hw]
      refine ih.snoc fun y hy => ?_
      obtain ⟨i, h1, rfl, _⟩ := wbs_mem hy
      exact h.lt' h1 (by omega)
theorem bndA_Rise (ks : List Int) : Rise (bndA ks) := fun _ h => bndA_rise h
theorem wbs_first {bs : List Nat} {K : List Int} : ∀ {j : Nat}, 0 < j → 0 < (wbs bs K j).length ∧ atN (wbs bs K j) 0 = atN bs 0
  | 0, h => by omega
  | 1, _ => by rw [wbs_one]; simp [atN]
  | j + 2, _ => by
    obtain ⟨h1, h2⟩ := wbs_first (bs := bs) (K := K) (j := j + 1) (by omega)
    cases hw : wisB K (j + 1) with
    | false => rw [wbs_no hw]; exact ⟨h1, h2⟩
    | true =>
      rw [wbs_yes hw, atN_lo h1]
      exact ⟨by simp, h2⟩
theorem wbs_last {bs : List Nat} {K : List Int} {j : Nat} (h : wisB K j = true) : (wbs bs K (j + 1)).length = (wbs bs K j).length + 1 ∧ atN (wbs bs K (j + 1)) (wbs bs K j).length = atN bs j := by
  rw [wbs_yes h]
  exact ⟨by simp, by simp [atN]⟩
/-- what is known of the words' boundaries of a text that is not empty: m + 1 of its clusters' -/
theorem wbA_facts {ws : List Int} {bs : List Nat} (h2 : 2 ≤ bs.length) :
    2 ≤ (wbA ws bs).length ∧ atN (wbA ws bs) 0 = atN bs 0 ∧ atN (wbA ws bs) ((wbA ws bs).length - 1) = atN bs (bs.length - 1) := by
  obtain ⟨m, hm⟩ : ∃ m, bs.length = m + 2 := ⟨bs.length - 2, by omega⟩
  have hK : (wkinds ws bs).length = m + 1 := by unfold wkinds; rw [kinds_len]; omega
  have hw : wisB (wkinds ws bs) (m + 1) = true := by simp [wisB, hK]
  obtain ⟨h3, h4⟩ := wbs_last (bs := bs) hw
  obtain ⟨h5, h6⟩ := wbs_first (bs := bs) (K := wkinds ws bs) (j := m + 1) (by omega)
  have e : wbA ws bs = wbs bs (wkinds ws bs) (m + 1 + 1) := by unfold wbA; rw [hm]
  rw [e]
  refine ⟨by omega, ?_, ?_⟩
  · rw [wbs_yes hw, atN_lo h5]; exact h6
  · rw [h3, hm]; exact h4
theorem wbA_nil {ws : List Int} {bs : List Nat} (h : bs = []) : wbA ws bs = [] := by subst h; rfl
theorem wbA_mem {ws : List Int} {bs : List Nat} {x : Nat} (h : x ∈ wbA ws bs) : x ∈ bs := by
  obtain ⟨i, h1, rfl, _⟩ := wbs_mem h
  exact atN_mem h1
theorem wbA_rise {ws : List Int} {ks : List Int} : Rise (wbA ws (bndA ks)) := wbs_rise (bndA_Rise ks) _ (Nat.le_refl _)

/-! ### where a number stands in a list that rises -/
/-- how many of the list are at most j -/
def many (l : List Nat) (j : Nat) : Nat := (l.filter (fun x => decide (x ≤ j))).length
theorem many_snoc (l : List Nat) (x j : Nat) : many (l ++ [x]) j = many l j + if x ≤ j then 1 else 0 := by
  unfold many
  rw [List.filter_append]
  by_cases h : x ≤ j <;> simp [h]
theorem rise_init {l : List Nat} {x : Nat} (h : Rise (l ++ [x])) : Rise l := fun i hi => by
  have := h i (by simp; omega)
  rw [atN_lo hi, atN_lo (by omega)] at this
  exact this
theorem snoc_ind {P : List Nat → Prop} (h0 : P []) (hs : ∀ l x, P l → P (l ++ [x])) : ∀ (n : Nat) (l : List Nat), l.length = n → P l
  | 0, l, h => by rw [List.eq_nil_of_length_eq_zero h]; exact h0
  | n + 1, l, h => by
    have hne : l ≠ [] := by intro e; rw [e] at h; simp at h
    rw [← List.dropLast_concat_getLast hne]
    exact hs _ _ (snoc_ind h0 hs n _ (by simp; omega))
/-- the number k at which the list is at most j, and above it behind -/
theorem many_at : ∀ (l : List Nat) (k j : Nat), Rise l → k ≤ l.length → (0 < k → atN l (k - 1) ≤ j) → (k < l.length → j < atN l k) → many l j = k := by
  intro l
  refine snoc_ind (P := fun l => ∀ (k j : Nat), Rise l → k ≤ l.length → (0 < k → atN l (k - 1) ≤ j) → (k < l.length → j < atN l k) → many l j = k) ?_ ?_ _ l rfl
  · intro k j _ hk _ _; simp at hk; subst hk; rfl
  · intro l x ih k j hr hk h1 h2
    have hx : atN (l ++ [x]) l.length = x := by simp [atN]
    simp only [List.length_append, List.length_singleton] at hk h2
    rw [many_snoc]
    rcases Nat.lt_or_ge l.length k with h3 | h3
    · obtain rfl : k = l.length + 1 := by omega
      have h4 := h1 (by omega)
      rw [Nat.add_sub_cancel, hx] at h4
      rw [if_pos h4, ih l.length j (rise_init hr) (Nat.le_refl _) (fun h5 => ?_) (fun h5 => by omega)]
      have h6 := hr (l.length - 1) (by simp; omega)
      rw [show l.length - 1 + 1 = l.length by omega, hx, atN_lo (by omega)] at h6
      omega
    · have h4 := h2 (by omega)
      have h5 : j < x := by
        rcases Nat.lt_or_ge k l.length with h6 | h6
        · have := hr.lt' h6 (by simp)
          rw [hx] at this
          omega
        · obtain rfl : k = l.length := by omega
          rw [hx] at h4; exact h4
      rw [if_neg (by omega), ih k j (rise_init hr) h3 (fun h6 => ?_) (fun h6 => ?_)]
      · rfl
      · have := h1 h6
        rw [atN_lo (by omega)] at this
        exact this
      · rw [atN_lo h6] at h4; exact h4
/-- the word that has a place: its number -/
def wdNo (l : List Nat) (n i : Nat) : Nat := many l (min i (n - 1)) - 1
theorem wdNo_at {l : List Nat} (h : Rise l) {n i k : Nat} (hk : k + 1 < l.length) (h1 : atN l k ≤ min i (n - 1)) (h2 : min i (n - 1) < atN l (k + 1)) : wdNo l n i = k := by
  unfold wdNo
  rw [many_at l (k + 1) _ h (by omega) (fun _ => by simpa using h1) (fun _ => h2)]
  rfl
/-- there is one -/
theorem find_at {l : List Nat} (h2 : 2 ≤ l.length) {j : Nat} (h0 : atN l 0 ≤ j) (hl : j < atN l (l.length - 1)) : ∃ k, k + 1 < l.length ∧ atN l k ≤ j ∧ j < atN l (k + 1) := by
  have : ∀ d, d + 1 < l.length → j < atN l (d + 1) → ∃ k, k + 1 < l.length ∧ atN l k ≤ j ∧ j < atN l (k + 1) := by
    intro d
    induction d with
    | zero => intro h3 h4; exact ⟨0, h3, h0, h4⟩
    | succ d ih =>
      intro h3 h4
      rcases Nat.lt_or_ge j (atN l (d + 1)) with h5 | h5
      · exact ih (by omega) h5
      · exact ⟨d + 1, h3, h5, h4⟩
  obtain ⟨m, hm⟩ : ∃ m, l.length = m + 2 := ⟨l.length - 2, by omega⟩
  refine this m (by omega) ?_
  rw [hm] at hl
  exact hl
end Go.Proofs.YtgianjnccpbnaaaDoor
