/- Chapter 17: the order in which signs are seen, plain: stretches turned round by round. No program in sight. -/
import Derived.Test.YteedngkbcbojjaaLib
import Derived.Test.YteedngkbcbojjaaStop
namespace Go.Proofs.Yteedngkbcbojjaa
set_option linter.unusedSimpArgs false

/-- a level as it counts -/
def heldN (x : Int) : Nat := (max 0 (min x 126)).toNat
theorem heldN_le (x : Int) : heldN x ≤ 126 := by unfold heldN; omega
theorem heldN_cast (x : Int) : ((heldN x : Nat) : Int) = max 0 (min x 126) := by unfold heldN; omega

/-! ### two elements exchanged, a stretch turned -/
def swp (xs : List Int) (i j : Nat) : List Int := (xs.set i (nth xs j)).set j (nth xs i)
theorem swp_len (xs : List Int) (i j : Nat) : (swp xs i j).length = xs.length := by simp [swp]
theorem nth_set (xs : List Int) (i q : Nat) (v : Int) (h : i < xs.length) : nth (xs.set i v) q = if i = q then v else nth xs q := by
  unfold nth
  rw [List.getD_eq_getElem?_getD, List.getElem?_set, List.getD_eq_getElem?_getD]
  split
  · rename_i e; subst e; simp [h]
  · rfl
theorem nth_swp {xs : List Int} {i j : Nat} (hi : i < xs.length) (hj : j < xs.length) (q : Nat) : nth (swp xs i j) q = if j = q then nth xs i else if i = q then nth xs j else nth xs q := by
  unfold swp
  rw [nth_set _ _ _ _ (by simpa using hj), nth_set _ _ _ _ hi]
/-- exchanged from both ends -/
def swF (a b : Nat) (xs : List Int) : List Int := if a + 1 < b then swF (a + 1) (b - 1) (swp xs a (b - 1)) else xs
termination_by b - a
theorem swF_step {a b : Nat} (h : a + 1 < b) (xs : List Int) : swF a b xs = swF (a + 1) (b - 1) (swp xs a (b - 1)) := by rw [swF, if_pos h]
theorem swF_end {a b : Nat} (h : ¬ a + 1 < b) (xs : List Int) : swF a b xs = xs := by rw [swF, if_neg h]
theorem nth_swF : ∀ (d a b : Nat) (xs : List Int), b - a ≤ d → b ≤ xs.length → (swF a b xs).length = xs.length ∧ ∀ q, nth (swF a b xs) q = if a ≤ q ∧ q < b then nth xs (a + b - 1 - q) else nth xs q
  | 0, a, b, xs, hd, hb => by
    rw [swF_end (by omega)]
    refine ⟨rfl, fun q => ?_⟩
    rw [if_neg (by omega)]
  | d + 1, a, b, xs, hd, hb => by
    by_cases h : a + 1 < b
    · rw [swF_step h]
      obtain ⟨h1, h2⟩ := nth_swF d (a + 1) (b - 1) (swp xs a (b - 1)) (by omega) (by rw [swp_len]; omega)
      refine ⟨h1.trans (swp_len _ _ _), fun q => ?_⟩
      rw [h2, nth_swp (by omega) (by omega), nth_swp (by omega) (by omega)]
      by_cases c1 : a + 1 ≤ q ∧ q < b - 1
      · rw [if_pos c1, if_neg (by omega), if_neg (by omega), if_pos (by omega), show a + 1 + (b - 1) - 1 - q = a + b - 1 - q by omega]
      · rw [if_neg c1]
        by_cases c2 : b - 1 = q
        · rw [if_pos c2, if_pos (by omega), show a + b - 1 - q = a by omega]
        · rw [if_neg c2]
          by_cases c3 : a = q
          · rw [if_pos c3, if_pos (by omega), show a + b - 1 - q = b - 1 by omega]
          · rw [if_neg c3, if_neg (by omega)]
    · rw [swF_end h]
      refine ⟨rfl, fun q => ?_⟩
      split
      · rename_i c
        rw [show a + b - 1 - q = q by omega]
      · rfl
def cutRev (xs : List Int) (a b : Nat) : List Int := xs.take a ++ ((xs.take b).drop a).reverse ++ xs.drop b
theorem cutRev_perm {xs : List Int} {a b : Nat} (h : a ≤ b) : (cutRev xs a b).Perm xs := by
  have e : xs.take a ++ (xs.take b).drop a ++ xs.drop b = xs := by
    have h1 : xs.take a ++ (xs.take b).drop a = xs.take b := by
      have := List.take_append_drop a (xs.take b)
      rwa [List.take_take, Nat.min_eq_left h] at this
    rw [h1, List.take_append_drop]
  unfold cutRev
  exact ((List.Perm.append_left (xs.take a) (List.reverse_perm _)).append_right _).trans (by rw [e])
theorem cutRev_len {xs : List Int} {a b : Nat} (h : a ≤ b) : (cutRev xs a b).length = xs.length := (cutRev_perm h).length_eq
theorem nth_cutRev {xs : List Int} {a b : Nat} (hab : a ≤ b) (hb : b ≤ xs.length) (q : Nat) : nth (cutRev xs a b) q = if a ≤ q ∧ q < b then nth xs (a + b - 1 - q) else nth xs q := by
  unfold nth cutRev
  simp only [List.getD_eq_getElem?_getD]
  by_cases h1 : q < a
  · rw [if_neg (by omega), List.append_assoc, List.getElem?_append_left (by simp; omega), List.getElem?_take, if_pos h1]
  · by_cases h2 : q < b
    · rw [if_pos (by omega), List.getElem?_append_left (by simp; omega), List.getElem?_append_right (by simp; omega), List.getElem?_reverse (by simp; omega), List.getElem?_drop, List.getElem?_take, if_pos (by simp; omega)]
      congr 2
      simp
      omega
    · rw [if_neg (by omega), List.getElem?_append_right (by simp; omega), List.getElem?_drop]
      congr 2
      simp
      omega
theorem ext_nth {xs ys : List Int} (hl : xs.length = ys.length) (h : ∀ q, nth xs q = nth ys q) : xs = ys := by
  apply List.ext_getElem hl
  intro q h1 h2
  have := h q
  rwa [nth_eq h1, nth_eq h2] at this
theorem swF_rev {xs : List Int} {a b : Nat} (hab : a ≤ b) (hb : b ≤ xs.length) : swF a b xs = cutRev xs a b := by
  obtain ⟨h1, h2⟩ := nth_swF (b - a) a b xs (Nat.le_refl _) hb
  exact ext_nth (h1.trans (cutRev_len hab).symm) fun q => by rw [h2, nth_cutRev hab hb]
theorem cutRev_none {xs : List Int} {a b : Nat} (h : b ≤ a + 1) (hab : a ≤ b) (hb : b ≤ xs.length) : cutRev xs a b = xs := by rw [← swF_rev hab hb, swF_end (by omega)]

/-! ### one round -/
/-- does the place at j of the order turn in round k? -/
def geK (lv o : List Int) (k j : Nat) : Bool := decide (k ≤ heldN (nth lv (nth o j).toNat))
def runE (lv o : List Int) (k N i : Nat) : Nat := stopAt (geK lv o k) N i
theorem runE_le (lv o : List Int) (k : Nat) {N i : Nat} (h : i ≤ N) : i ≤ runE lv o k N i ∧ runE lv o k N i ≤ N := by
  have := stopAt_spec (geK lv o k) N _ i rfl h
  exact ⟨this.1, this.2.1⟩
def pass (lv : List Int) (k N : Nat) (o : List Int) (i : Nat) : List Int :=
  if h : i < N then pass lv k N (cutRev o i (runE lv o k N i)) (runE lv o k N i + 1) else o
termination_by N - i
decreasing_by
  have := (runE_le lv o k (Nat.le_of_lt h)).1
  omega
theorem pass_step {lv : List Int} {k N : Nat} {o : List Int} {i : Nat} (h : i < N) : pass lv k N o i = pass lv k N (cutRev o i (runE lv o k N i)) (runE lv o k N i + 1) := by rw [pass, dif_pos h]
theorem pass_end {lv : List Int} {k N : Nat} {o : List Int} {i : Nat} (h : N ≤ i) : pass lv k N o i = o := by rw [pass, dif_neg (by omega)]
/-- a place that does not turn is passed over -/
theorem pass_skip {lv : List Int} {k N : Nat} {o : List Int} {i : Nat} (hN : o.length = N) (h : i < N → geK lv o k i = false) : pass lv k N o i = pass lv k N o (i + 1) := by
  by_cases hi : i < N
  · rw [pass_step hi]
    have e : runE lv o k N i = i := stopAt_stop fun _ => h hi
    rw [e, cutRev_none (by omega) (Nat.le_refl _) (by omega)]
  · rw [pass_end (by omega), pass_end (by omega)]
theorem pass_perm (lv : List Int) (k N : Nat) : ∀ (d : Nat) (o : List Int) (i : Nat), N - i ≤ d → (pass lv k N o i).Perm o
  | 0, o, i, h => by rw [pass_end (by omega)]
  | d + 1, o, i, h => by
    by_cases hi : i < N
    · rw [pass_step hi]
      have := (runE_le lv o k (Nat.le_of_lt hi)).1
      exact (pass_perm lv k N d _ _ (by omega)).trans (cutRev_perm this)
    · rw [pass_end (by omega)]
/-- behind a stretch that was turned the order is as it was -/
theorem geK_behind {lv o : List Int} {k N i : Nat} (hN : o.length = N) (hi : i ≤ N) (h : runE lv o k N i < N) : geK lv (cutRev o i (runE lv o k N i)) k (runE lv o k N i) = false := by
  obtain ⟨h1, h2⟩ := runE_le lv o k hi
  have h3 : geK lv o k (runE lv o k N i) = false := by
    unfold runE at h ⊢
    exact stopAt_no hi h
  unfold geK at h3 ⊢
  rwa [nth_cutRev h1 (by omega), if_neg (by omega)]

/-! ### all rounds -/
def rnd (lv : List Int) (N least : Nat) : Nat → List Int → List Int
  | 0, o => o
  | k + 1, o => if least ≤ k + 1 then rnd lv N least k (pass lv (k + 1) N o 0) else o
theorem rnd_perm (lv : List Int) (N least : Nat) : ∀ (k : Nat) (o : List Int), (rnd lv N least k o).Perm o
  | 0, o => List.Perm.refl _
  | k + 1, o => by
    simp only [rnd]
    split
    · exact (rnd_perm lv N least k _).trans (pass_perm lv (k + 1) N N o 0 (by omega))
    · exact List.Perm.refl _
/-- the greatest level of the first n, and the least odd one (127: there is none) -/
def mostN (lv : List Int) : Nat → Nat
  | 0 => 0
  | i + 1 => max (mostN lv i) (heldN (nth lv i))
def leastN (lv : List Int) : Nat → Nat
  | 0 => 127
  | i + 1 => if heldN (nth lv i) % 2 = 1 then min (leastN lv i) (heldN (nth lv i)) else leastN lv i
theorem mostN_le (lv : List Int) : ∀ n, mostN lv n ≤ 126
  | 0 => by simp [mostN]
  | n + 1 => by
    have := mostN_le lv n
    have := heldN_le (nth lv n)
    simp only [mostN]
    omega
theorem leastN_le (lv : List Int) : ∀ n, 1 ≤ leastN lv n ∧ leastN lv n ≤ 127
  | 0 => by simp [leastN]
  | n + 1 => by
    have := leastN_le lv n
    simp only [leastN]
    split <;> omega
def idL (n : Nat) : List Int := (List.range n).map Int.ofNat
theorem idL_len (n : Nat) : (idL n).length = n := by simp [idL]
theorem idL_succ (n : Nat) : idL (n + 1) = idL n ++ [(n : Int)] := by simp [idL, List.range_succ]
/-- the places from left to right -/
def visual (lv : List Int) : List Int := rnd lv lv.length (leastN lv lv.length) (mostN lv lv.length) (idL lv.length)
theorem visual_perm (lv : List Int) : (visual lv).Perm (idL lv.length) := rnd_perm _ _ _ _ _
/-- an order of n places -/
structure IsOrd (o : List Int) (n : Nat) : Prop where
  len : o.length = n
  ge : ∀ j, j < n → 0 ≤ nth o j
  lt : ∀ j, j < n → (nth o j).toNat < n
  inj : ∀ i j, i < n → j < n → (nth o i).toNat = (nth o j).toNat → i = j
  sur : ∀ k, k < n → ∃ j, j < n ∧ (nth o j).toNat = k
theorem isOrd_of_perm {o : List Int} {n : Nat} (h : o.Perm (idL n)) : IsOrd o n := by
  have hl : o.length = n := by rw [h.length_eq, idL_len]
  have hm : ∀ j, j < n → ∃ k, k < n ∧ nth o j = (k : Int) := by
    intro j hj
    have h1 : nth o j ∈ o := by rw [nth_eq (by omega)]; exact List.getElem_mem _
    have h2 := (h.mem_iff).1 h1
    simp only [idL, List.mem_map, List.mem_range] at h2
    obtain ⟨k, h3, h4⟩ := h2
    exact ⟨k, h3, h4.symm⟩
  have hnd : o.Nodup := by
    rw [h.nodup_iff, idL]
    rw [List.nodup_iff_pairwise_ne, List.pairwise_map]
    exact List.Pairwise.imp (fun h => by intro e; apply h; exact Int.ofNat.inj e) List.nodup_range
  refine ⟨hl, fun j hj => ?_, fun j hj => ?_, fun i j hi hj e => ?_, fun k hk => ?_⟩
  · obtain ⟨k, _, e⟩ := hm j hj
    omega
  · obtain ⟨k, _, e⟩ := hm j hj
    omega
  · obtain ⟨a, _, ea⟩ := hm i hi
    obtain ⟨b, _, eb⟩ := hm j hj
    rw [ea, eb] at e
    have e2 : nth o i = nth o j := by omega
    rw [nth_eq (by omega), nth_eq (by omega)] at e2
    exact (List.getElem_inj hnd).1 e2
  · have h1 : (k : Int) ∈ o := by
      rw [h.mem_iff, idL]
      simp only [List.mem_map, List.mem_range]
      exact ⟨k, hk, rfl⟩
    obtain ⟨j, hj, e⟩ := List.getElem_of_mem h1
    refine ⟨j, by omega, ?_⟩
    rw [nth_eq hj, e]
    omega
theorem visual_ord {lv : List Int} {n : Nat} (h : lv.length = n) : IsOrd (visual lv) n := by
  subst h
  exact isOrd_of_perm (visual_perm lv)
end Go.Proofs.Yteedngkbcbojjaa
