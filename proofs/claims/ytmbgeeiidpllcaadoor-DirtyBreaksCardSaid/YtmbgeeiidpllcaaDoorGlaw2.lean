/- Chapter 7: the boundaries as a list; the next one, the one ahead; the clusters; plain. -/
import Derived.Test.YtmbgeeiidpllcaaDoorGlaw
namespace Go.Proofs.YtmbgeeiidpllcaaDoor

/-- the boundaries below m -/
def bndN (ks : List Int) (m : Nat) : List Nat := (List.range m).filter (isN ks)
theorem bnds_map (ks : List Int) (m : Nat) : bnds ks m = (bndN ks m).map Int.ofNat := rfl
theorem bndN_yes {ks : List Int} {m : Nat} (h : isN ks m = true) : bndN ks (m + 1) = bndN ks m ++ [m] := by
  unfold bndN; rw [List.range_succ, List.filter_append]; simp [h]
theorem bndN_no {ks : List Int} {m : Nat} (h : isN ks m = false) : bndN ks (m + 1) = bndN ks m := by
  unfold bndN; rw [List.range_succ, List.filter_append]; simp [h]
theorem bndN_mem {ks : List Int} {m x : Nat} (h : x ∈ bndN ks m) : x < m ∧ isN ks x = true := by
  unfold bndN at h
  have := List.mem_filter.1 h
  exact ⟨List.mem_range.1 this.1, this.2⟩
theorem bndN_len (ks : List Int) (m : Nat) : (bndN ks m).length ≤ m := by
  have := List.length_filter_le (isN ks) (List.range m)
  rw [List.length_range] at this
  exact this
theorem bnd_app (ks : List Int) (s : Nat) : ∀ d, ∃ r, bndN ks (s + d) = bndN ks s ++ r ∧ ∀ x ∈ r, s ≤ x ∧ x < s + d ∧ isN ks x = true
  | 0 => ⟨[], by simp, by simp⟩
  | d + 1 => by
    obtain ⟨r, h1, h2⟩ := bnd_app ks s d
    cases h : isN ks (s + d) with
    | true =>
      refine ⟨r ++ [s + d], ?_, fun x hx => ?_⟩
      · rw [show s + (d + 1) = s + d + 1 by omega, bndN_yes h, h1, List.append_assoc]
      · rcases List.mem_append.1 hx with h3 | h3
        · obtain ⟨a, b, c⟩ := h2 x h3
          exact ⟨a, by omega, c⟩
        · simp at h3; subst h3; exact ⟨by omega, by omega, h⟩
    | false =>
      refine ⟨r, ?_, fun x hx => ?_⟩
      · rw [show s + (d + 1) = s + d + 1 by omega, bndN_no h, h1]
      · obtain ⟨a, b, c⟩ := h2 x hx
        exact ⟨a, by omega, c⟩
/-- all of them -/
def bndA (ks : List Int) : List Nat := bndN ks (ks.length + 1)
theorem bounds_map (ks : List Int) : bounds ks = (bndA ks).map Int.ofNat := rfl
theorem bndA_app {ks : List Int} {s : Nat} (h : s ≤ ks.length + 1) : ∃ r, bndA ks = bndN ks s ++ r ∧ ∀ x ∈ r, s ≤ x ∧ x ≤ ks.length ∧ isN ks x = true := by
  obtain ⟨r, h1, h2⟩ := bnd_app ks s (ks.length + 1 - s)
  rw [show s + (ks.length + 1 - s) = ks.length + 1 by omega] at h1
  refine ⟨r, h1, fun x hx => ?_⟩
  obtain ⟨a, b, c⟩ := h2 x hx
  exact ⟨a, by omega, c⟩
def atN (l : List Nat) (k : Nat) : Nat := l.getD k 0
theorem atN_lo {l r : List Nat} {k : Nat} (h : k < l.length) : atN (l ++ r) k = atN l k := by simp [atN, List.getElem?_append_left h]
theorem atN_mem {l : List Nat} {k : Nat} (h : k < l.length) : atN l k ∈ l := by
  unfold atN; simp [h]
theorem atN_hi {l r : List Nat} {k : Nat} (h : l.length ≤ k) (h2 : k < (l ++ r).length) : atN (l ++ r) k ∈ r := by
  unfold atN
  simp only [List.length_append] at h2
  have h3 : k - l.length < r.length := by omega
  simp [List.getElem?_append_right h, h3]
theorem nth_map {l : List Nat} {k : Nat} (h : k < l.length) : nth (l.map Int.ofNat) k = (atN l k : Int) := by
  unfold nth atN
  simp [h]
/-- how many boundaries stand below s: those of the list that are below s -/
theorem below_lt {ks : List Int} {s k : Nat} (hs : s ≤ ks.length + 1) (h : k < (bndN ks s).length) : atN (bndA ks) k < s ∧ isN ks (atN (bndA ks) k) = true := by
  obtain ⟨r, h1, _⟩ := bndA_app hs
  rw [h1, atN_lo h]
  exact bndN_mem (atN_mem h)
theorem below_ge {ks : List Int} {s k : Nat} (hs : s ≤ ks.length + 1) (h : (bndN ks s).length ≤ k) (h2 : k < (bndA ks).length) : s ≤ atN (bndA ks) k ∧ atN (bndA ks) k ≤ ks.length ∧ isN ks (atN (bndA ks) k) = true := by
  obtain ⟨r, h1, h3⟩ := bndA_app hs
  rw [h1] at h2 ⊢
  exact h3 _ (atN_hi h h2)
theorem bnd_mono {ks : List Int} {s t : Nat} (h : s ≤ t) : (bndN ks s).length ≤ (bndN ks t).length := by
  obtain ⟨r, h1, _⟩ := bnd_app ks s (t - s)
  rw [show s + (t - s) = t by omega] at h1
  rw [h1]; simp
theorem at_is {ks : List Int} {s : Nat} (hs : s ≤ ks.length) (h : isN ks s = true) : (bndN ks s).length < (bndA ks).length ∧ atN (bndA ks) (bndN ks s).length = s := by
  obtain ⟨r, h1, _⟩ := bndA_app (ks := ks) (s := s + 1) (by omega)
  rw [bndN_yes h] at h1
  rw [h1]
  refine ⟨by simp <;> omega, ?_⟩
  rw [atN_lo (by simp)]
  simp [atN]

/-- the first boundary from s on; the length if there is none -/
def nxB (ks : List Int) (s : Nat) : Nat := (bndA ks).getD (bndN ks s).length ks.length
theorem nxB_yes {ks : List Int} {s : Nat} (hs : s ≤ ks.length) (h : isN ks s = true) : nxB ks s = s := by
  obtain ⟨h1, h2⟩ := at_is hs h
  unfold nxB
  unfold atN at h2
  rw [List.getD_eq_getElem?_getD, List.getElem?_eq_getElem h1] at h2 ⊢
  exact h2
theorem nxB_no {ks : List Int} {s : Nat} (h : isN ks s = false) : nxB ks s = nxB ks (s + 1) := by
  unfold nxB; rw [bndN_no h]
theorem nxB_end {ks : List Int} {s : Nat} (h : ks.length ≤ s) : nxB ks s = ks.length := by
  rcases Nat.lt_or_ge ks.length s with h1 | h1
  · unfold nxB
    have : (bndA ks).length ≤ (bndN ks s).length := bnd_mono h1
    rw [List.getD_eq_getElem?_getD, List.getElem?_eq_none this]
    rfl
  · obtain rfl : s = ks.length := by omega
    cases hk : isN ks ks.length with
    | true => exact nxB_yes (Nat.le_refl _) hk
    | false =>
      rw [nxB_no hk]
      unfold nxB
      have : (bndA ks).length ≤ (bndN ks (ks.length + 1)).length := Nat.le_refl _
      rw [List.getD_eq_getElem?_getD, List.getElem?_eq_none this]
      rfl
/-- by the list: the first of it that is above -/
theorem nxB_list {ks : List Int} {s k : Nat} (hs : s ≤ ks.length + 1) (hk : k < (bndA ks).length) (h1 : s ≤ atN (bndA ks) k) (h2 : ∀ j, j < k → atN (bndA ks) j < s) : nxB ks s = atN (bndA ks) k := by
  have e : (bndN ks s).length = k := by
    rcases Nat.lt_trichotomy (bndN ks s).length k with h | h | h
    · have h3 := h2 _ h
      have h4 := (below_ge hs (Nat.le_refl _) (by omega)).1
      omega
    · exact h
    · have h3 := (below_lt hs h).1
      omega
  unfold nxB atN
  rw [e, List.getD_eq_getElem?_getD, List.getD_eq_getElem?_getD, List.getElem?_eq_getElem hk]
  rfl
theorem nxB_list_none {ks : List Int} {s : Nat} (hs : s ≤ ks.length + 1) (h2 : ∀ j, j < (bndA ks).length → atN (bndA ks) j < s) : nxB ks s = ks.length := by
  unfold nxB
  have e : (bndA ks).length ≤ (bndN ks s).length := by
    rcases Nat.lt_or_ge (bndN ks s).length (bndA ks).length with h | h
    · have h3 := h2 _ h
      have h4 := (below_ge hs (Nat.le_refl _) h).1
      omega
    · exact h
  rw [List.getD_eq_getElem?_getD, List.getElem?_eq_none e]
  rfl
/-- the last boundary below s; 0 if there is none -/
def pvB (ks : List Int) (s : Nat) : Nat := (bndN ks s).getLastD 0
theorem pvB_zero (ks : List Int) : pvB ks 0 = 0 := rfl
theorem pvB_yes {ks : List Int} {s : Nat} (h : isN ks s = true) : pvB ks (s + 1) = s := by
  unfold pvB; rw [bndN_yes h]; simp
theorem pvB_no {ks : List Int} {s : Nat} (h : isN ks s = false) : pvB ks (s + 1) = pvB ks s := by
  unfold pvB; rw [bndN_no h]
theorem pvB_one (ks : List Int) : pvB ks 1 = 0 := by
  cases h : isN ks 0 with
  | true => rw [pvB_yes h]
  | false => rw [pvB_no h, pvB_zero]
theorem last_at {l : List Nat} (h : 0 < l.length) : l.getLastD 0 = atN l (l.length - 1) := by
  unfold atN
  cases l with
  | nil => simp at h
  | cons a l => simp [List.getLastD_eq_getLast?, List.getLast?_eq_getElem?]
theorem pvB_list {ks : List Int} {s k : Nat} (hs : s ≤ ks.length + 1) (hk : k < (bndA ks).length) (h1 : atN (bndA ks) k < s) (h2 : ∀ j, k < j → j < (bndA ks).length → s ≤ atN (bndA ks) j) : pvB ks s = atN (bndA ks) k := by
  have e : (bndN ks s).length = k + 1 := by
    rcases Nat.lt_trichotomy (bndN ks s).length (k + 1) with h | h | h
    · have h4 := (below_ge hs (by omega : (bndN ks s).length ≤ k) hk).1
      omega
    · exact h
    · have hm : (bndN ks s).length ≤ (bndA ks).length := bnd_mono hs
      have h3 := (below_lt hs h).1
      have h4 := h2 (k + 1) (by omega) (by omega)
      omega
  unfold pvB
  obtain ⟨r, h3, _⟩ := bndA_app hs
  rw [last_at (by omega), e, Nat.add_sub_cancel, h3, atN_lo (by omega)]
theorem pvB_list_none {ks : List Int} {s : Nat} (hs : s ≤ ks.length + 1) (h2 : ∀ j, j < (bndA ks).length → s ≤ atN (bndA ks) j) : pvB ks s = 0 := by
  have e : (bndN ks s).length = 0 := by
    rcases Nat.eq_zero_or_pos (bndN ks s).length with h | h
    · exact h
    · have hm : (bndN ks s).length ≤ (bndA ks).length := bnd_mono hs
      have h3 := (below_lt hs h).1
      have h4 := h2 0 (by omega)
      omega
  unfold pvB
  rw [List.eq_nil_of_length_eq_zero e]
  rfl
theorem pvB_at {ks : List Int} {s : Nat} (hs : s ≤ ks.length + 1) : pvB ks s = if (bndN ks s).length = 0 then 0 else atN (bndA ks) ((bndN ks s).length - 1) := by
  by_cases h : (bndN ks s).length = 0
  · rw [if_pos h]; unfold pvB; rw [List.eq_nil_of_length_eq_zero h]; rfl
  · rw [if_neg h]
    unfold pvB
    obtain ⟨r, h3, _⟩ := bndA_app hs
    rw [last_at (by omega), h3, atN_lo (by omega)]
theorem nxB_at {ks : List Int} {s : Nat} (h : (bndN ks s).length < (bndA ks).length) : nxB ks s = atN (bndA ks) (bndN ks s).length := by
  unfold nxB atN
  rw [List.getD_eq_getElem?_getD, List.getD_eq_getElem?_getD, List.getElem?_eq_getElem h]
  rfl

/-- neighbours of a list, as ranges: the first k of them -/
def prs (l : List Nat) (k : Nat) : List (Nat × Nat) := (List.range k).map fun i => (atN l i, atN l (i + 1))
theorem prs_succ (l : List Nat) (k : Nat) : prs l (k + 1) = prs l k ++ [(atN l k, atN l (k + 1))] := by
  unfold prs; rw [List.range_succ, List.map_append]; rfl
theorem prs_len (l : List Nat) (k : Nat) : (prs l k).length = k := by simp [prs]
/-- the clusters -/
def cutsL (ks : List Int) : List (Nat × Nat) := prs (bndA ks) ((bndA ks).length - 1)
theorem bndA_first {ks : List Int} (h : 0 < ks.length) : atN (bndA ks) 0 = 0 ∧ 0 < (bndA ks).length := by
  obtain ⟨h1, h2⟩ := at_is (Nat.zero_le _) (isN_zero h)
  exact ⟨h2, by have e : (bndN ks 0).length = 0 := rfl; omega⟩
theorem bndA_last {ks : List Int} (h : 0 < ks.length) : (bndA ks).length = (bndN ks ks.length).length + 1 ∧ atN (bndA ks) ((bndA ks).length - 1) = ks.length := by
  have h1 := bndN_yes (isN_end h)
  have e : bndA ks = bndN ks ks.length ++ [ks.length] := h1
  rw [e]
  refine ⟨by simp, ?_⟩
  simp [atN]
theorem bndA_two {ks : List Int} (h : 0 < ks.length) : 2 ≤ (bndA ks).length := by
  have h1 := (bndA_last h).1
  have h2 := bnd_mono (ks := ks) (s := 1) (t := ks.length) (by omega)
  rw [bndN_yes (isN_zero h)] at h2
  have : (bndN ks 0).length = 0 := rfl
  simp at h2
  omega
theorem bndA_nil {ks : List Int} (h : ks.length = 0) : bndA ks = [] := by
  have := List.eq_nil_of_length_eq_zero h
  subst this
  rfl
theorem bndA_rise {ks : List Int} {i : Nat} (h : i + 1 < (bndA ks).length) : atN (bndA ks) i < atN (bndA ks) (i + 1) := by
  have hi : i < (bndA ks).length := by omega
  have h0 : atN (bndA ks) i ∈ bndA ks := atN_mem hi
  obtain ⟨h1, h2⟩ := bndN_mem h0
  obtain ⟨h3, h4⟩ := at_is (by omega) h2
  -- the place of that boundary in the list is i
  have hl := bndN_yes h2
  rcases Nat.lt_trichotomy (bndN ks (atN (bndA ks) i)).length i with h5 | h5 | h5
  · have h6 := (below_ge (ks := ks) (s := atN (bndA ks) i + 1) (by omega) (k := i) (by rw [hl]; simp; omega) hi).1
    omega
  · have h6 := (below_ge (ks := ks) (s := atN (bndA ks) i + 1) (by omega) (k := i + 1) (by rw [hl]; simp; omega) h).1
    omega
  · have h6 := (below_lt (ks := ks) (s := atN (bndA ks) i) (by omega) h5).1
    omega
end Go.Proofs.YtmbgeeiidpllcaaDoor
