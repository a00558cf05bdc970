/- Chapter 20: places rise; capital letters count alike; even digits take places away at most: plain. No program in sight. -/
import Derived.Test.YtgianjnccpbnaaaDoorHtp
namespace Go.Proofs.YtgianjnccpbnaaaDoor
set_option linter.unusedSimpArgs false

theorem range_filter_rise (p : Nat → Bool) : ∀ m, ((List.range m).filter p).Pairwise (· < ·) := fun m =>
  List.Pairwise.filter _ (List.pairwise_lt_range (n := m))
theorem ptsN_rise (ms : List Int) (m : Nat) {i j : Nat} (hij : i < j) (hj : j < (ptsN ms m).length) : nth (ptsN ms m) i < nth (ptsN ms m) j := by
  have h := range_filter_rise (fun i => decide (2 ≤ i) && (nth ms (i + 1) % 2 == 1)) m
  have h2 : (ptsN ms m).Pairwise (· < ·) := by
    unfold ptsN
    rw [List.pairwise_map]
    exact h.imp fun h => by simpa using h
  have h3 := List.pairwise_iff_getElem.1 h2 i j (by omega) hj hij
  rw [nth_eq hj, nth_eq (show i < (ptsN ms m).length by omega)]
  exact h3
theorem ptsN_in (ms : List Int) (m : Nat) {i : Nat} (hi : i < (ptsN ms m).length) : 2 ≤ nth (ptsN ms m) i ∧ nth (ptsN ms m) i < m := by
  have h : nth (ptsN ms m) i ∈ ptsN ms m := by rw [nth_eq hi]; exact List.getElem_mem ..
  obtain ⟨k, h1, h2, h3, _⟩ := ptsN_mem.1 h
  omega
/-- what is known of each place -/
theorem points_each {L : List Pat} {xs out : List Int} (h : Points L xs out) {i : Nat} (hi : i < out.length) : 2 ≤ nth out i ∧ nth out i + 3 ≤ xs.length ∧ ∀ j, j < i → nth out j < nth out i := by
  unfold Points at h
  split at h
  · subst h; simp at hi
  · obtain ⟨ms, _, _, rfl⟩ := h
    obtain ⟨h1, h2⟩ := ptsN_in ms _ hi
    exact ⟨h1, by omega, fun j hj => ptsN_rise ms _ hj hi⟩
/-- a letter as a capital one -/
def great20 (r : Int) : Int := if 97 ≤ r ∧ r ≤ 122 then r - 32 else r
theorem small_great (r : Int) : small20 (great20 r) = small20 r := by
  unfold small20 great20
  by_cases h1 : 97 ≤ r ∧ r ≤ 122
  · rw [if_pos h1, if_pos (by omega), if_neg (by omega)]; omega
  · rw [if_neg h1]
theorem dotted_great (xs : List Int) : dotted (xs.map great20) = dotted xs := by
  unfold dotted
  rw [List.map_map]
  congr 2
  exact List.map_congr_left fun r _ => small_great r
theorem points_great {L : List Pat} {xs out : List Int} (h : Points L (xs.map great20) out) : Points L xs out := by
  unfold Points at h ⊢
  rw [dotted_great, List.length_map] at h
  exact h
/-- are all digits even? -/
def evenB (ds : List Int) : Bool := ds.all fun d => d % 2 == 0
theorem points_even {L : List Pat} {p : Pat} (he : evenB p.2 = true) {xs a b : List Int} (ha : Points L xs a) (hb : Points (L ++ [p]) xs b) : ∀ x ∈ b, x ∈ a := by
  unfold Points at ha hb
  split at ha
  · rename_i h
    rw [if_pos h] at hb
    subst hb
    intro x hx; cases hx
  · rename_i h
    rw [if_neg h] at hb
    obtain ⟨ms, i1, l1, rfl⟩ := ha
    obtain ⟨ms', i2, l2, rfl⟩ := hb
    intro x hx
    obtain ⟨i, rfl, h2, h3, h4⟩ := ptsN_mem.1 hx
    refine ptsN_mem.2 ⟨i, rfl, h2, h3, ?_⟩
    have hl1 : i + 1 < ms.length := by omega
    have hl2 : i + 1 < ms'.length := by omega
    rcases i2.hit _ hl2 with h5 | ⟨q, hq, a, ha, hs, k, hk, hj, hv⟩
    · rw [h5] at h4; simp at h4
    · rcases List.mem_append.1 hq with h6 | h6
      · have h7 : nth ms' (i + 1) ≤ nth ms (i + 1) := i1.low _ _ ⟨q, h6, a, ha, hs, k, hk, hj, hv⟩ hl1
        have h8 : nth ms (i + 1) ≤ nth ms' (i + 1) := i1.le i2 (fun j v ⟨q, hq, r⟩ => ⟨q, List.mem_append_left _ hq, r⟩) hl1 hl2
        rw [show nth ms (i + 1) = nth ms' (i + 1) by omega]
        exact h4
      · obtain rfl := List.mem_singleton.1 h6
        unfold evenB at he
        have := List.all_eq_true.1 he (nth q.2 k) (by rw [nth_eq hk]; exact List.getElem_mem ..)
        rw [hv] at h4
        simp at this
        omega
/-- the patterns of texts, and one more -/
theorem newF_more : ∀ (ss : List ByteArray) (i : Nat) (L L' : List Pat) (s : ByteArray), newF ss i L = .inl L' → newF (ss ++ [s]) i L = newF [s] (i + ss.length) L'
  | [], i, L, L', s, h => by injection h with h; subst h; rfl
  | t :: ss, i, L, L', s, h => by
    cases hp : parsed t with
    | none => rw [newF_none hp] at h; cases h
    | some p =>
      cases hl : lookP L p.1 with
      | some d => rw [newF_twice hp (by rw [hl]; rfl)] at h; cases h
      | none =>
        rw [newF_next hp hl] at h
        rw [List.cons_append, newF_next hp hl, newF_more ss (i + 1) _ L' s h, List.length_cons]
        congr 1
        omega
theorem newF_one {L : List Pat} {s : ByteArray} {i : Nat} {p : Pat} (hp : parsed s = some p) : newF [s] i L = if (lookP L p.1).isSome = true then .inr (i, 15) else .inl (L ++ [p]) := by
  cases hl : lookP L p.1 with
  | some d => rw [newF_twice hp (by rw [hl]; rfl)]; rfl
  | none => rw [newF_next hp hl]; rfl

/-! ### the example: 1b parts aabaa behind the second letter -/
def exS : ByteArray := ⟨#[49, 98]⟩
theorem ex_parsed : parsed exS = some ([98], [1, 0]) := by decide +kernel
theorem ex_new : newF [exS] 0 [] = .inl [([98], [1, 0])] := by rw [newF_next ex_parsed rfl]; rfl
theorem ex_points {out : List Int} (h : Points [([98], [1, 0])] [97, 97, 98, 97, 97] out) : out = [2] := by
  unfold Points at h
  rw [if_neg (by decide)] at h
  obtain ⟨ms, i1, l1, rfl⟩ := h
  have hlay : Lays [([98], [1, 0])] (dotted [97, 97, 98, 97, 97]) 3 1 := ⟨_, List.mem_singleton.2 rfl, 3, by decide, by decide, 0, by decide, rfl, rfl⟩
  have l1' : ms.length = 8 := l1
  have h1 := i1.low 3 1 hlay (by omega)
  have hst : ∀ a, a < 7 → standsB [98] (dotted [97, 97, 98, 97, 97]) a = true → a = 3 := by decide
  have h2 : nth ms 3 = 1 := by
    rcases i1.hit 3 (by omega) with h | ⟨q, hq, a, ha, hs, k, hk, hj, hv⟩
    · omega
    · obtain rfl := List.mem_singleton.1 hq
      have := hst a ha hs
      have hk0 : k = 0 := by omega
      subst hk0
      exact hv
  show ptsN ms 3 = [2]
  rw [ptsN_yes (m := 2) (Nat.le_refl _) (by rw [h2]; rfl), ptsN_low ms (Nat.le_refl _)]
  rfl
end Go.Proofs.YtgianjnccpbnaaaDoor
