/- Joining, the plain laws: who joins is joined; what is put in a text leaves the forms outside its window. -/
import Derived.Test.YtajippjknikciaaDoorJlaw
namespace Go.Proofs.YtajippjknikciaaDoor

theorem tr5 {r : Int} (h : tr r = true) : joinOf r = 5 := by simpa [tr] using h
theorem joinsB_and (x y : Int) : (joinsB y false && joinsB x true) = (joinsB x true && joinsB y false) := Bool.and_comm _ _

/-- what the nearest sign ahead of k, if there is one, has left open -/
def opn (xs : List Int) (k : Nat) : Bool := match prv xs k with | none => false | some j => jnB xs j
def wantF (a b : Bool) : Int := if a && b then 3 else if b then 2 else if a then 4 else 1

theorem prv_tr {xs : List Int} {k : Nat} (h : tr (nth xs k) = true) : prv xs (k + 1) = prv xs k := by
  rcases prv_spec (xs := xs) k with ⟨j, h1, h2, h3, h4⟩ | ⟨h1, h2⟩
  · rw [h1]
    refine prv_some (by omega) h3 fun i h5 h6 => ?_
    rcases Nat.lt_or_ge i k with h7 | h7
    · exact h4 i h5 h7
    · rw [show i = k by omega]; exact h
  · rw [h1]
    refine prv_none fun i h5 => ?_
    rcases Nat.lt_or_ge i k with h7 | h7
    · exact h2 i h7
    · rw [show i = k by omega]; exact h
theorem prv_sign {xs : List Int} {k : Nat} (h : tr (nth xs k) = false) : prv xs (k + 1) = some k := prv_some (by omega) h fun i h1 h2 => by omega
theorem opn_zero (xs : List Int) : opn xs 0 = false := rfl
theorem opn_tr {xs : List Int} {k : Nat} (h : tr (nth xs k) = true) : opn xs (k + 1) = opn xs k := by unfold opn; rw [prv_tr h]
theorem opn_sign {xs : List Int} {k : Nat} (h : tr (nth xs k) = false) : opn xs (k + 1) = jnB xs k := by unfold opn; rw [prv_sign h]
theorem opn_is {xs : List Int} {k : Nat} (hk : k < xs.length) (h : tr (nth xs k) = false) : jnA xs k = opn xs k := by
  unfold opn jnA nbB
  rcases prv_spec (xs := xs) k with ⟨j, h1, h2, h3, h4⟩ | ⟨h1, h2⟩
  · rw [h1]
    simp only
    unfold jnB nbF
    rw [nxt_some (k := j + 1) (j := k) (by omega) hk h fun i h5 h6 => h4 i (by omega) h6]
    exact joinsB_and _ _
  · rw [h1]; simp [joinsB]
theorem opn_end (xs : List Int) : opn xs xs.length = false := by
  unfold opn
  rcases prv_spec (xs := xs) xs.length with ⟨j, h1, h2, h3, h4⟩ | ⟨h1, h2⟩
  · rw [h1]
    simp only
    unfold jnB nbF
    rw [nxt_none (k := j + 1) fun i h5 h6 => h4 i (by omega) h6]
    simp [joinsB]
  · rw [h1]
theorem form_tr {xs : List Int} {k : Nat} (h : tr (nth xs k) = true) : formAt xs k = 0 := by
  unfold formAt; rw [tr5 h]; rfl
theorem jn_tr2 {xs : List Int} {k : Nat} (h : tr (nth xs k) = true) : jnA xs k = false ∧ jnB xs k = false := by
  unfold jnA jnB
  rw [tr5 h]
  exact ⟨by simp [joinsB], by simp [joinsB]⟩
theorem form_or (xs : List Int) (k : Nat) : formAt xs k = 0 ∨ formAt xs k = wantF (jnA xs k) (jnB xs k) := by
  unfold formAt wantF
  simp only
  by_cases h : (joinOf (nth xs k) == 1 || joinOf (nth xs k) == 2 || joinOf (nth xs k) == 3) = true
  · rw [if_pos h]; exact .inr rfl
  · rw [if_neg h]; exact .inl rfl

/-! ### what is put in -/
theorem form_congr {xs ys : List Int} {a b : Nat} (h1 : nth xs a = nth ys b) (h2 : nbF xs a = nbF ys b) (h3 : nbB xs a = nbB ys b) : formAt xs a = formAt ys b := by
  unfold formAt jnA jnB
  rw [h1, h2, h3]

section
variable {t put : List Int} {i : Nat}
def putIn (t put : List Int) (i : Nat) : List Int := t.take i ++ put ++ t.drop i
theorem putIn_len (hi : i ≤ t.length) : (putIn t put i).length = t.length + put.length := by unfold putIn; simp; omega
theorem putIn_lo (hi : i ≤ t.length) {j : Nat} (hj : j < i) : nth (putIn t put i) j = nth t j := by
  unfold nth putIn
  simp only [List.getD_eq_getElem?_getD]
  rw [List.append_assoc, List.getElem?_append_left (by simp; omega), List.getElem?_take, if_pos hj]
theorem putIn_hi (hi : i ≤ t.length) {j : Nat} (hj : i ≤ j) : nth (putIn t put i) (j + put.length) = nth t j := by
  unfold nth putIn
  simp only [List.getD_eq_getElem?_getD]
  rw [List.getElem?_append_right (by simp; omega), List.getElem?_drop]
  congr 2
  simp
  omega

theorem put_lo (hi : i ≤ t.length) {j : Nat} (hj : j < winF t i) : formAt (putIn t put i) j = formAt t j := by
  have hlen := putIn_len (put := put) hi
  unfold winF at hj
  rcases prv_spec (xs := t) i with ⟨f, h1, h2, h3, h4⟩ | ⟨h1, h2⟩
  · rw [h1] at hj
    simp only [Option.getD_some] at hj
    refine form_congr (putIn_lo hi (by omega)) ?_ ?_
    · unfold nbF
      rcases nxt_spec (xs := t) (k := j + 1) with ⟨m, a1, a2, a3, a4, a5⟩ | ⟨a1, a2⟩
      · have hm : m ≤ f := by
          rcases Nat.lt_or_ge f m with h | h
          · have := a5 f (by omega) h
            rw [h3] at this
            cases this
          · exact h
        rw [a1, nxt_some (xs := putIn t put i) (k := j + 1) (j := m) a2 (by omega) (by rw [putIn_lo hi (by omega)]; exact a4) fun q b1 b2 => by rw [putIn_lo hi (by omega)]; exact a5 q b1 b2]
        simp only
        rw [putIn_lo hi (by omega)]
      · have := a2 f (by omega) (by omega)
        rw [h3] at this
        cases this
    · unfold nbB
      rcases prv_spec (xs := t) j with ⟨m, a1, a2, a3, a4⟩ | ⟨a1, a2⟩
      · rw [a1, prv_some (xs := putIn t put i) (k := j) (j := m) a2 (by rw [putIn_lo hi (by omega)]; exact a3) fun q b1 b2 => by rw [putIn_lo hi (by omega)]; exact a4 q b1 b2]
        simp only
        rw [putIn_lo hi (by omega)]
      · rw [a1, prv_none (xs := putIn t put i) fun q b1 => by rw [putIn_lo hi (by omega)]; exact a2 q b1]
  · rw [h1] at hj
    simp at hj

theorem put_hi (hi : i ≤ t.length) {j : Nat} (hj : winT t i ≤ j) (hjl : j < t.length) : formAt (putIn t put i) (j + put.length) = formAt t j := by
  have hlen := putIn_len (put := put) hi
  unfold winT at hj
  rcases nxt_spec (xs := t) (k := i) with ⟨f, h1, h2, h3, h4, h5⟩ | ⟨h1, h2⟩
  · rw [h1] at hj
    simp only at hj
    refine form_congr (putIn_hi hi (by omega)) ?_ ?_
    · unfold nbF
      rcases nxt_spec (xs := t) (k := j + 1) with ⟨m, a1, a2, a3, a4, a5⟩ | ⟨a1, a2⟩
      · rw [a1, nxt_some (xs := putIn t put i) (k := j + put.length + 1) (j := m + put.length) (by omega) (by omega) (by rw [putIn_hi hi (by omega)]; exact a4) fun q b1 b2 => by
          obtain ⟨q', rfl⟩ : ∃ q', q = q' + put.length := ⟨q - put.length, by omega⟩
          rw [putIn_hi hi (by omega)]
          exact a5 q' (by omega) (by omega)]
        simp only
        rw [putIn_hi hi (by omega)]
      · rw [a1, nxt_none (xs := putIn t put i) fun q b1 b2 => by
          obtain ⟨q', rfl⟩ : ∃ q', q = q' + put.length := ⟨q - put.length, by omega⟩
          rw [putIn_hi hi (by omega)]
          exact a2 q' (by omega) (by omega)]
    · unfold nbB
      rcases prv_spec (xs := t) j with ⟨m, a1, a2, a3, a4⟩ | ⟨a1, a2⟩
      · have hm : f ≤ m := by
          rcases Nat.lt_or_ge m f with h | h
          · have := a4 f h (by omega)
            rw [h4] at this
            cases this
          · exact h
        rw [a1, prv_some (xs := putIn t put i) (k := j + put.length) (j := m + put.length) (by omega) (by rw [putIn_hi hi (by omega)]; exact a3) fun q b1 b2 => by
          obtain ⟨q', rfl⟩ : ∃ q', q = q' + put.length := ⟨q - put.length, by omega⟩
          rw [putIn_hi hi (by omega)]
          exact a4 q' (by omega) (by omega)]
        simp only
        rw [putIn_hi hi (by omega)]
      · have := a2 f (by omega)
        rw [h4] at this
        cases this
  · rw [h1] at hj
    simp only at hj
    omega

theorem put_take (hi : i ≤ t.length) : (forms t).take (winF t i) = (forms (putIn t put i)).take (winF t i) := by
  have hw : winF t i ≤ i := by
    unfold winF
    rcases prv_spec (xs := t) i with ⟨f, h1, h2, h3, h4⟩ | ⟨h1, h2⟩
    · rw [h1]; simp only [Option.getD_some]; omega
    · rw [h1]; simp
  have hlen := putIn_len (put := put) hi
  refine List.ext_getElem (by unfold forms; simp; omega) fun j h1 h2 => ?_
  simp only [List.getElem_take]
  unfold forms
  simp only [List.getElem_map, List.getElem_range]
  exact (put_lo hi (by simp at h1; omega)).symm
theorem put_drop (hi : i ≤ t.length) : (forms t).drop (winT t i) = (forms (putIn t put i)).drop (winT t i + put.length) := by
  have hlen := putIn_len (put := put) hi
  refine List.ext_getElem (by unfold forms; simp; omega) fun j h1 h2 => ?_
  simp only [List.getElem_drop]
  unfold forms
  simp only [List.getElem_map, List.getElem_range]
  have hj : winT t i + j < t.length := by unfold forms at h1; simp at h1; omega
  rw [show winT t i + put.length + j = winT t i + j + put.length by omega]
  exact (put_hi hi (by omega) hj).symm
end
theorem win_in (t : List Int) (i : Nat) (hi : i ≤ t.length) : winF t i ≤ i ∧ i ≤ winT t i ∧ winT t i ≤ t.length := by
  refine ⟨?_, ?_⟩
  · unfold winF
    rcases prv_spec (xs := t) i with ⟨f, h1, h2, h3, h4⟩ | ⟨h1, h2⟩
    · rw [h1]; simp only [Option.getD_some]; omega
    · rw [h1]; simp
  · unfold winT
    rcases nxt_spec (xs := t) (k := i) with ⟨f, h1, h2, h3, h4, h5⟩ | ⟨h1, h2⟩
    · rw [h1]; simp only; omega
    · rw [h1]; simp only; omega
end Go.Proofs.YtajippjknikciaaDoor
