/- Chapter 8: texts of letters and digits alone, of blanks alone, and two words with blanks between them; plain. -/
import Derived.Test.YtefajgfhdnhmmaaDoorWb
namespace Go.Proofs.YtefajgfhdnhmmaaDoor

/-- what a sign is made to -/
def ltrN (r : Int) : Int := if r.tmod 36 < 0 then -(r.tmod 36) else r.tmod 36
def ltrV (r : Int) : Int := if ltrN r < 10 then 48 + ltrN r else 97 + ltrN r - 10
theorem ltrN_le (r : Int) : 0 ≤ ltrN r ∧ ltrN r ≤ 35 := by
  unfold ltrN
  rcases Int.le_total 0 r with h | h
  · rw [Int.tmod_eq_emod_of_nonneg h]
    split <;> omega
  · obtain ⟨s, rfl⟩ : ∃ s, r = -s := ⟨-r, by omega⟩
    rw [Int.neg_tmod, Int.tmod_eq_emod_of_nonneg (by omega)]
    split <;> omega
def isL (y : Int) : Bool := clu y == 0 && solB (wdOf y)
theorem letters_ok : (List.range 36).all (fun n => isL (if (n : Int) < 10 then 48 + (n : Int) else 97 + (n : Int) - 10)) = true := by decide +kernel
theorem ltrV_ok (r : Int) : isL (ltrV r) = true := by
  obtain ⟨h1, h2⟩ := ltrN_le r
  obtain ⟨n, hn⟩ : ∃ n : Nat, ltrN r = n := ⟨(ltrN r).toNat, by omega⟩
  have := List.all_eq_true.1 letters_ok n (List.mem_range.2 (by omega))
  unfold ltrV
  rw [hn]
  exact this
theorem ltrV_wf (r : Int) : 48 ≤ ltrV r ∧ ltrV r ≤ 122 := by
  obtain ⟨h1, h2⟩ := ltrN_le r
  unfold ltrV
  split <;> omega
theorem isL_sol {y : Int} (h : isL y = true) : clu y = 0 ∧ solB (wdOf y) = true := by
  unfold isL at h
  simpa using h
theorem sol_ne6 {k : Int} (h : solB k = true) : k ≠ 6 := by
  rintro rfl
  simp [solB] at h
theorem blank_ok : clu 32 = 0 ∧ wdOf 32 = 7 := by decide +kernel
/-- a sign that stands alone -/
def alone1 (y : Int) : Prop := clu y = 0 ∧ wdOf y ≠ 6
theorem alone_wb {ys : List Int} {n : Nat} (hn : ys.length = n) (h0 : 0 < n) (h : ∀ i, i < n → alone1 (nth ys i)) : wbL ys = wbs (List.range (n + 1)) (wds ys) (n + 1) := by
  have e1 : bndA (ks ys) = List.range (n + 1) := by
    have := zero_bnd (l := ks ys) (fun i hi => by rw [ks_len] at hi; rw [ks_at hi]; exact (h i (by omega)).1) (by rw [ks_len]; omega)
    rw [ks_len, hn] at this
    exact this
  have e2 : wkinds (wds ys) (List.range (n + 1)) = wds ys := range_kinds (by rw [wds_len]; exact hn) (fun i hi => by rw [wds_at (by omega)]; exact (h i hi).2)
  unfold wbL wbA
  rw [e1, e2, List.length_range]
/-- letters and digits alone -/
theorem whole_own {ys : List Int} {n : Nat} (hn : ys.length = n) (h0 : 0 < n) (h : ∀ i, i < n → isL (nth ys i) = true) : wbL ys = [0, n] := by
  rw [alone_wb hn h0 fun i hi => ⟨(isL_sol (h i hi)).1, sol_ne6 (isL_sol (h i hi)).2⟩]
  have hK : (wds ys).length = n := by rw [wds_len]; exact hn
  rw [one_word hK h0 fun j h1 h2 => ?_, atN_range (by omega), atN_range (by omega)]
  rw [whang_at h1 (by omega), wds_at (by omega), wds_at (by omega)]
  exact whB_sol (isL_sol (h _ (by omega))).2 (isL_sol (h _ h2)).2
/-- blanks alone -/
theorem whole_sp {ys : List Int} {n : Nat} (hn : ys.length = n) (h0 : 0 < n) (h : ∀ i, i < n → nth ys i = 32) : wbL ys = [0, n] := by
  rw [alone_wb hn h0 fun i hi => by rw [h i hi]; exact ⟨blank_ok.1, by rw [blank_ok.2]; omega⟩]
  have hK : (wds ys).length = n := by rw [wds_len]; exact hn
  rw [one_word hK h0 fun j h1 h2 => ?_, atN_range (by omega), atN_range (by omega)]
  rw [whang_at h1 (by omega), wds_at (by omega), wds_at (by omega), h _ h2, h _ (by omega), blank_ok.2]
  exact whB_spc
/-- two words, blanks between them -/
structure Apart3 (ys : List Int) (n m : Nat) : Prop where
  len : ys.length = 2 * n + m
  n0 : 0 < n
  m0 : 0 < m
  lo : ∀ i, i < n → isL (nth ys i) = true
  mid : ∀ i, n ≤ i → i < n + m → nth ys i = 32
  hi : ∀ i, n + m ≤ i → i < 2 * n + m → isL (nth ys i) = true
section
variable {ys : List Int} {n m : Nat}
theorem Apart3.each (h : Apart3 ys n m) {i : Nat} (hi : i < 2 * n + m) : (isL (nth ys i) = true ∧ (i < n ∨ n + m ≤ i)) ∨ (nth ys i = 32 ∧ n ≤ i ∧ i < n + m) := by
  rcases Nat.lt_or_ge i n with h1 | h1
  · exact .inl ⟨h.lo i h1, .inl h1⟩
  · rcases Nat.lt_or_ge i (n + m) with h2 | h2
    · exact .inr ⟨h.mid i h1 h2, h1, h2⟩
    · exact .inl ⟨h.hi i h2 hi, .inr h2⟩
theorem Apart3.wd (h : Apart3 ys n m) {i : Nat} (hi : i < 2 * n + m) : (solB (nth (wds ys) i) = true ∧ (i < n ∨ n + m ≤ i)) ∨ (nth (wds ys) i = 7 ∧ n ≤ i ∧ i < n + m) := by
  rw [wds_at (by rw [h.len]; exact hi)]
  rcases h.each hi with ⟨h1, h2⟩ | ⟨h1, h2⟩
  · exact .inl ⟨(isL_sol h1).2, h2⟩
  · rw [h1]; exact .inr ⟨blank_ok.2, h2⟩
theorem Apart3.wb (h : Apart3 ys n m) : wbL ys = [0, n, n + m, 2 * n + m] := by
  have hn0 := h.n0
  have hm0 := h.m0
  rw [alone_wb h.len (by omega) fun i hi => by
    rcases h.each hi with ⟨h1, _⟩ | ⟨h1, _⟩
    · exact ⟨(isL_sol h1).1, sol_ne6 (isL_sol h1).2⟩
    · rw [h1]; exact ⟨blank_ok.1, by rw [blank_ok.2]; omega⟩]
  have hK : (wds ys).length = 2 * n + m := by rw [wds_len]; exact h.len
  have key : wbs (List.range (2 * n + m + 1)) (wds ys) (2 * n + m + 1) = [atN (List.range (2 * n + m + 1)) 0, atN (List.range (2 * n + m + 1)) n, atN (List.range (2 * n + m + 1)) (n + m), atN (List.range (2 * n + m + 1)) (2 * n + m)] := by
    refine three_words hK h.n0 h.m0 (fun j h1 h2 h3 h4 => ?_) ?_ ?_
    · rw [whang_at h1 (by omega)]
      rcases h.wd h2 with ⟨a1, a2⟩ | ⟨a1, a2⟩
      · rcases h.wd (i := j - 1) (by omega) with ⟨b1, b2⟩ | ⟨b1, b2⟩
        · exact whB_sol b1 a1
        · omega
      · rcases h.wd (i := j - 1) (by omega) with ⟨b1, b2⟩ | ⟨b1, b2⟩
        · omega
        · rw [a1, b1]; exact whB_spc
    · rw [whang_at h.n0 (by omega)]
      rcases h.wd (i := n) (by omega) with ⟨a1, a2⟩ | ⟨a1, a2⟩
      · omega
      · rcases h.wd (i := n - 1) (by omega) with ⟨b1, b2⟩ | ⟨b1, b2⟩
        · rw [a1]; exact whB_sp1 b1
        · omega
    · rw [whang_at (by omega) (by omega)]
      rcases h.wd (i := n + m) (by omega) with ⟨a1, a2⟩ | ⟨a1, a2⟩
      · rcases h.wd (i := n + m - 1) (by omega) with ⟨b1, b2⟩ | ⟨b1, b2⟩
        · omega
        · rw [b1]; exact whB_sp2 a1
      · omega
  rw [key, atN_range (by omega), atN_range (by omega), atN_range (by omega), atN_range (by omega)]
end
/-! ### their kinds -/
theorem kind_sol {ws : List Int} {f d : Nat} (h : f + d ≤ ws.length) (hd : 0 < d) (hs : ∀ i, f ≤ i → i < f + d → solB (nth ws i) = true) : solB (kindC ws (f : Int) ((f + d : Nat) : Int)) = true := by
  rw [kindC_in h hd]
  have h1 := hs f (Nat.le_refl _) (by omega)
  have h2 : nth ws f = 1 ∨ nth ws f = 2 := by simpa [solB] using h1
  have h3 : hasF ws 1 f d = true ∨ hasF ws 2 f d = true := by
    rcases h2 with h2 | h2
    · exact .inl ((hasF_iff ws 1 d f).2 ⟨f, Nat.le_refl _, by omega, h2⟩)
    · exact .inr ((hasF_iff ws 2 d f).2 ⟨f, Nat.le_refl _, by omega, h2⟩)
  cases h4 : hasF ws 1 f d with
  | true => rfl
  | false =>
    rw [h4] at h3
    simp at h3
    rw [h3]
    rfl
theorem kind_spc {ws : List Int} {f d : Nat} (h : f + d ≤ ws.length) (hd : 0 < d) (hs : ∀ i, f ≤ i → i < f + d → nth ws i = 7) : kindC ws (f : Int) ((f + d : Nat) : Int) = 7 := by
  rw [kindC_in h hd]
  have no : ∀ c : Int, c ≠ 7 → hasF ws c f d = false := fun c hc => by
    cases h4 : hasF ws c f d with
    | false => rfl
    | true =>
      obtain ⟨j, h1, h2, h3⟩ := (hasF_iff ws c d f).1 h4
      rw [hs j h1 h2] at h3
      exact absurd h3.symm hc
  have h7 : hasF ws 7 f d = true := (hasF_iff ws 7 d f).2 ⟨f, Nat.le_refl _, by omega, hs f (Nat.le_refl _) (by omega)⟩
  rw [no 1 (by omega), no 2 (by omega), h7]
  rfl
theorem count_own {ys : List Int} {n : Nat} (hn : ys.length = n) (h0 : 0 < n) (h : ∀ i, i < n → isL (nth ys i) = true) : countW (wds ys) [0, n] = 1 := by
  have hk : solB (kindC (wds ys) ((0 : Nat) : Int) ((0 + n : Nat) : Int)) = true := kind_sol (by rw [wds_len]; omega) h0 fun i _ hi => by rw [wds_at (by omega)]; exact (isL_sol (h i (by omega))).2
  rw [Nat.zero_add] at hk
  show cntW (wds ys) [0, n] (0 + 1) = 1
  rw [cntW_yes hk]
  rfl
theorem count_sp {ys : List Int} {n : Nat} (hn : ys.length = n) (h0 : 0 < n) (h : ∀ i, i < n → nth ys i = 32) : countW (wds ys) [0, n] = 0 := by
  have hk := kind_spc (ws := wds ys) (f := 0) (d := n) (by rw [wds_len]; omega) h0 fun i _ hi => by rw [wds_at (by omega), h i (by omega)]; exact blank_ok.2
  rw [Nat.zero_add] at hk
  show cntW (wds ys) [0, n] (0 + 1) = 0
  rw [cntW_no (k := 0) (by show solB (kindC (wds ys) ((0 : Nat) : Int) (n : Int)) = false; rw [hk]; rfl)]
  rfl
theorem Apart3.kind {ys : List Int} {n m : Nat} (h : Apart3 ys n m) : kindC (wds ys) (n : Int) ((n + m : Nat) : Int) = 7 :=
  kind_spc (by rw [wds_len, h.len]; omega) h.m0 fun i h1 h2 => by rw [wds_at (by rw [h.len]; omega), h.mid i h1 h2]; exact blank_ok.2
theorem Apart3.count {ys : List Int} {n m : Nat} (h : Apart3 ys n m) : countW (wds ys) [0, n, n + m, 2 * n + m] = 2 := by
  have k1 : solB (kindC (wds ys) ((0 : Nat) : Int) ((0 + n : Nat) : Int)) = true := kind_sol (by rw [wds_len, h.len]; omega) h.n0 fun i _ hi => by rw [wds_at (by rw [h.len]; omega)]; exact (isL_sol (h.lo i (by omega))).2
  have k3 : solB (kindC (wds ys) ((n + m : Nat) : Int) ((n + m + n : Nat) : Int)) = true := kind_sol (by rw [wds_len, h.len]; omega) h.n0 fun i h1 h2 => by rw [wds_at (by rw [h.len]; omega)]; exact (isL_sol (h.hi i h1 (by omega))).2
  rw [Nat.zero_add] at k1
  rw [show n + m + n = 2 * n + m by omega] at k3
  have k2 := h.kind
  have eL : ([0, n, n + m, 2 * n + m] : List Nat).length - 1 = 3 := rfl
  unfold countW
  rw [eL]
  have e0 : atN [0, n, n + m, 2 * n + m] 0 = 0 := rfl
  have e1 : atN [0, n, n + m, 2 * n + m] 1 = n := rfl
  have e2 : atN [0, n, n + m, 2 * n + m] 2 = n + m := rfl
  have e3 : atN [0, n, n + m, 2 * n + m] 3 = 2 * n + m := rfl
  generalize [0, n, n + m, 2 * n + m] = B at *
  rw [cntW_yes (k := 2) (by rw [e2, e3]; exact k3), cntW_no (k := 1) (by rw [e1, e2, k2]; rfl), cntW_yes (k := 0) (by rw [e0, e1]; exact k1)]
  rfl
end Go.Proofs.YtefajgfhdnhmmaaDoor
