/- Chapter 20: the places of soft hyphens, and which of them part clusters: plain. No program in sight. -/
import Derived.Test.YtgianjnccpbnaaaDoorWlaw
namespace Go.Proofs.YtgianjnccpbnaaaDoor

/-- does a soft hyphen stand right ahead of place m, and m inside the text? -/
def hitB (xs : List Int) (m : Nat) : Bool := decide (0 < m ∧ m < xs.length) && nth xs (m - 1) == 173
/-- the places below m behind soft hyphens -/
def softN (xs : List Int) (m : Nat) : List Int := ((List.range m).filter (hitB xs)).map Int.ofNat
theorem softN_succ (xs : List Int) (m : Nat) : softN xs (m + 1) = if hitB xs m = true then softN xs m ++ [(m : Int)] else softN xs m := by
  unfold softN
  rw [List.range_succ, List.filter_append, List.map_append]
  by_cases h : hitB xs m = true
  · simp [h]
  · simp [h]
theorem softN_one (xs : List Int) : softN xs 1 = [] := by rw [softN_succ]; simp [hitB, softN]
theorem softN_len (xs : List Int) (m : Nat) : (softN xs m).length ≤ m := by
  unfold softN
  rw [List.length_map]
  exact Nat.le_trans (List.length_filter_le _ _) (by simp)
theorem softN_mem {xs : List Int} {m : Nat} {x : Int} (h : x ∈ softN xs m) : 0 ≤ x ∧ x < m := by
  unfold softN at h
  obtain ⟨a, ha, rfl⟩ := List.mem_map.1 h
  have := List.mem_range.1 (List.mem_filter.1 ha).1
  show (0 : Int) ≤ (a : Int) ∧ (a : Int) < m
  omega
theorem hit_yes {xs : List Int} {i : Nat} (h : i + 1 < xs.length) (hr : nth xs i = 173) : hitB xs (i + 1) = true := by simp [hitB, h, hr]
theorem hit_no {xs : List Int} {i : Nat} (hr : nth xs i ≠ 173) : hitB xs (i + 1) = false := by simp [hitB, hr]
theorem hit_end {xs : List Int} {i : Nat} (h : xs.length ≤ i + 1) : hitB xs (i + 1) = false := by simp [hitB]; omega
/-- the places where clusters part, of those behind soft hyphens -/
def nilIn (xs : List Int) (ks : List Int) : List Int := ((List.range (xs.length + 1)).filter (fun m => isN ks m && hitB xs m)).map Int.ofNat
def keepB (ks : List Int) (x : Int) : Bool := isN ks x.toNat
theorem soft_keep (xs ks : List Int) : (softN xs (xs.length + 1)).filter (keepB ks) = nilIn xs ks := by
  unfold softN nilIn
  rw [List.filter_map, List.filter_filter]
  congr 1
theorem bnds_keep (xs ks : List Int) (hl : ks.length = xs.length) : (bounds ks).filter (fun x => hitB xs x.toNat) = nilIn xs ks := by
  unfold bounds bnds nilIn
  rw [hl, List.filter_map, List.filter_filter]
  congr 1
  apply List.filter_congr
  intro m _
  simp [Function.comp, Bool.and_comm]
end Go.Proofs.YtgianjnccpbnaaaDoor
