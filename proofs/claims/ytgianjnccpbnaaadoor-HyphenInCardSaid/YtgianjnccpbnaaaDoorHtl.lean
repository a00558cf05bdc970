/- Chapter 20: patterns, the digits that they lay on a word, and the places to part it: plain. No program in sight. -/
import Derived.Test.YtgianjnccpbnaaaDoorHlaw
namespace Go.Proofs.YtgianjnccpbnaaaDoor
set_option linter.unusedSimpArgs false

/-- letters and digits of a pattern -/
abbrev Pat := List Int × List Int

/-! ### a list of numbers, each the greatest of those that were laid at its place -/
/-- each number of ms is the greatest of 0 and of what R lays at its place -/
structure IsBest (R : Nat → Int → Prop) (ms : List Int) : Prop where
  low : ∀ j v, R j v → j < ms.length → v ≤ nth ms j
  hit : ∀ j, j < ms.length → nth ms j = 0 ∨ R j (nth ms j)
  pos : ∀ j, j < ms.length → 0 ≤ nth ms j
theorem nth_set_same {xs : List Int} {k : Nat} {x : Int} (h : k < xs.length) : nth (xs.set k x) k = x := by
  simp [nth, h]
theorem nth_set_other {xs : List Int} {k j : Nat} {x : Int} (h : k ≠ j) : nth (xs.set k x) j = nth xs j := by
  simp [nth, List.getElem?_set, h]
theorem IsBest.zero (n : Nat) : IsBest (fun _ _ => False) (List.replicate n 0) :=
  ⟨fun _ _ h => h.elim, fun j hj => .inl (by simp at hj; simp [nth, hj]), fun j hj => by simp at hj; simp [nth, hj]⟩
theorem IsBest.iff {R R' : Nat → Int → Prop} {ms : List Int} (h : IsBest R ms) (e : ∀ j v, R j v ↔ R' j v) : IsBest R' ms :=
  ⟨fun j v hr hj => h.low j v ((e j v).2 hr) hj, fun j hj => (h.hit j hj).imp id (fun hr => (e _ _).1 hr), h.pos⟩
theorem IsBest.lay {R : Nat → Int → Prop} {ms : List Int} (h : IsBest R ms) {k : Nat} (hk : k < ms.length) (x : Int) :
    IsBest (fun j v => R j v ∨ (j = k ∧ v = x)) (ms.set k (max (nth ms k) x)) := by
  refine ⟨fun j v hr hj => ?_, fun j hj => ?_, fun j hj => ?_⟩
  · rw [List.length_set] at hj
    by_cases hjk : k = j
    · subst hjk
      rw [nth_set_same hk]
      rcases hr with hr | ⟨_, rfl⟩
      · have := h.low k v hr hj; omega
      · omega
    · rw [nth_set_other hjk]
      rcases hr with hr | ⟨h1, _⟩
      · exact h.low j v hr hj
      · exact absurd h1.symm hjk
  · rw [List.length_set] at hj
    by_cases hjk : k = j
    · subst hjk
      rw [nth_set_same hk]
      rcases Int.le_total (nth ms k) x with h1 | h1
      · rw [Int.max_eq_right h1]; exact .inr (.inr ⟨rfl, rfl⟩)
      · rw [Int.max_eq_left h1]
        exact (h.hit k hj).imp id .inl
    · rw [nth_set_other hjk]
      exact (h.hit j hj).imp id .inl
  · rw [List.length_set] at hj
    by_cases hjk : k = j
    · subst hjk
      rw [nth_set_same hk]
      have := h.pos k hj
      omega
    · rw [nth_set_other hjk]
      exact h.pos j hj
theorem IsBest.le {R R' : Nat → Int → Prop} {ms ms' : List Int} (h : IsBest R ms) (h' : IsBest R' ms') (e : ∀ j v, R j v → R' j v) {j : Nat} (hj : j < ms.length) (hj' : j < ms'.length) : nth ms j ≤ nth ms' j := by
  rcases h.hit j hj with h0 | h0
  · rw [h0]; exact h'.pos j hj'
  · exact h'.low j _ (e _ _ h0) hj'
theorem IsBest.unique {R : Nat → Int → Prop} {ms ms' : List Int} (h : IsBest R ms) (h' : IsBest R ms') (hl : ms.length = ms'.length) : ms = ms' := by
  refine List.ext_getElem hl fun j h1 h2 => ?_
  have a := h.le h' (fun _ _ x => x) h1 h2
  have b := h'.le h (fun _ _ x => x) h2 h1
  rw [nth_eq h1, nth_eq h2] at a
  rw [nth_eq h1, nth_eq h2] at b
  omega
theorem IsBest.most {R : Nat → Int → Prop} {ms : List Int} (h : IsBest R ms) {M : Int} (h0 : 0 ≤ M) (e : ∀ j v, R j v → v ≤ M) {j : Nat} (hj : j < ms.length) : nth ms j ≤ M := by
  rcases h.hit j hj with h1 | h1
  · rw [h1]; exact h0
  · exact e _ _ h1

/-! ### patterns on a word -/
def small20 (r : Int) : Int := if 65 ≤ r ∧ r ≤ 90 then r + 32 else r
/-- a word between dots, letters as they count -/
def dotted (xs : List Int) : List Int := 46 :: (xs.map small20 ++ [46])
theorem dotted_len (xs : List Int) : (dotted xs).length = xs.length + 2 := by simp [dotted]
/-- do letters stand in t from a place on? -/
def standsB (ls t : List Int) (i : Nat) : Bool := decide (i + ls.length ≤ t.length) && ((t.drop i).take ls.length == ls)
theorem standsB_iff (ls t : List Int) (i : Nat) : standsB ls t i = true ↔ i + ls.length ≤ t.length ∧ (t.drop i).take ls.length = ls := by
  simp [standsB]
/-- what patterns lay on a word -/
def Lays (L : List Pat) (t : List Int) (j : Nat) (v : Int) : Prop :=
  ∃ p ∈ L, ∃ a, a < t.length ∧ standsB p.1 t a = true ∧ ∃ i, i < p.2.length ∧ j = a + i ∧ v = nth p.2 i
/-- the places at which the numbers are odd, from 2 on, below m -/
def ptsN (ms : List Int) (m : Nat) : List Int := ((List.range m).filter fun i => decide (2 ≤ i) && (nth ms (i + 1) % 2 == 1)).map Int.ofNat
theorem ptsN_succ (ms : List Int) (m : Nat) : ptsN ms (m + 1) = if (decide (2 ≤ m) && (nth ms (m + 1) % 2 == 1)) = true then ptsN ms m ++ [(m : Int)] else ptsN ms m := by
  unfold ptsN
  rw [List.range_succ, List.filter_append, List.map_append]
  split
  · rename_i h; simp [List.filter_cons, h]
  · rename_i h; simp [List.filter_cons, h]
theorem ptsN_yes {ms : List Int} {m : Nat} (h : 2 ≤ m) (ho : nth ms (m + 1) % 2 = 1) : ptsN ms (m + 1) = ptsN ms m ++ [(m : Int)] := by
  rw [ptsN_succ]; simp [h, ho]
theorem ptsN_no {ms : List Int} {m : Nat} (ho : ¬ nth ms (m + 1) % 2 = 1) : ptsN ms (m + 1) = ptsN ms m := by
  rw [ptsN_succ]; simp [ho]
theorem ptsN_low (ms : List Int) : ∀ {m : Nat}, m ≤ 2 → ptsN ms m = []
  | 0, _ => rfl
  | 1, _ => by rw [ptsN_succ]; simp [ptsN]
  | 2, _ => by rw [ptsN_succ, ptsN_succ]; simp [ptsN]
theorem ptsN_len (ms : List Int) (m : Nat) : (ptsN ms m).length ≤ m := by
  unfold ptsN
  rw [List.length_map]
  exact Nat.le_trans (List.length_filter_le _ _) (by simp)
theorem ptsN_mem {ms : List Int} {m : Nat} {x : Int} : x ∈ ptsN ms m ↔ ∃ i : Nat, x = i ∧ 2 ≤ i ∧ i < m ∧ nth ms (i + 1) % 2 = 1 := by
  unfold ptsN
  simp
  constructor
  · rintro ⟨a, ⟨h1, h2, h3⟩, rfl⟩; exact ⟨a, rfl, h2, h1, h3⟩
  · rintro ⟨a, rfl, h2, h1, h3⟩; exact ⟨a, ⟨h1, h2, h3⟩, rfl⟩
/-- the places to part a word by patterns: at most 64 letters -/
def Points (L : List Pat) (xs : List Int) (out : List Int) : Prop :=
  if 64 < xs.length then out = [] else ∃ ms, IsBest (Lays L (dotted xs)) ms ∧ ms.length = xs.length + 3 ∧ out = ptsN ms (xs.length - 2)
theorem Points.unique {L : List Pat} {xs a b : List Int} (h1 : Points L xs a) (h2 : Points L xs b) : a = b := by
  unfold Points at h1 h2
  split at h1
  · rename_i hl; rw [if_pos hl] at h2; rw [h1, h2]
  · rename_i hl
    rw [if_neg hl] at h2
    obtain ⟨m1, i1, l1, rfl⟩ := h1
    obtain ⟨m2, i2, l2, rfl⟩ := h2
    rw [i1.unique i2 (by omega)]

/-! ### patterns by their letters -/
/-- the digits of the pattern with these letters -/
def lookP (L : List Pat) (q : List Int) : Option (List Int) := (L.find? fun p => p.1 == q).map (·.2)
theorem look_nil (q : List Int) : lookP [] q = none := rfl
theorem look_snoc {L : List Pat} {l d q : List Int} (h : lookP L l = none) : lookP (L ++ [(l, d)]) q = if q = l then some d else lookP L q := by
  unfold lookP at *
  rw [List.find?_append]
  by_cases hq : q = l
  · subst hq
    rw [if_pos rfl]
    have h1 : L.find? (fun p => p.1 == q) = none := by simpa using h
    rw [h1]
    simp [List.find?]
  · rw [if_neg hq]
    cases hf : L.find? (fun p => p.1 == q) with
    | some p => simp
    | none =>
      have : (l == q) = false := by simpa using fun h => hq h.symm
      simp [List.find?, this]
theorem lookP_mem {L : List Pat} {q d : List Int} (h : lookP L q = some d) : (q, d) ∈ L := by
  unfold lookP at h
  cases hf : L.find? (fun p => p.1 == q) with
  | none => rw [hf] at h; cases h
  | some p =>
    rw [hf] at h
    have h1 := List.mem_of_find?_eq_some hf
    have h2 := List.find?_some hf
    simp at h h2
    obtain ⟨a, b⟩ := p
    simp at h h2
    subst h; subst h2
    exact h1
/-- no two patterns have the same letters -/
def Uniq (L : List Pat) : Prop := L.Pairwise fun p q => p.1 ≠ q.1
theorem look_of_mem : ∀ {L : List Pat}, Uniq L → ∀ {q d : List Int}, (q, d) ∈ L → lookP L q = some d
  | [], _, _, _, h => by cases h
  | p :: L, hu, q, d, h => by
    have hu2 := List.pairwise_cons.1 hu
    rcases List.mem_cons.1 h with h | h
    · subst h; simp [lookP, List.find?]
    · have h1 : p.1 ≠ q := hu2.1 _ h
      have : (p.1 == q) = false := by simpa using h1
      have ih := look_of_mem hu2.2 h
      unfold lookP at ih ⊢
      rw [List.find?_cons, this]
      exact ih
theorem look_none {L : List Pat} {q : List Int} : lookP L q = none ↔ ∀ p ∈ L, p.1 ≠ q := by
  unfold lookP; simp
theorem Uniq.snoc {L : List Pat} {l d : List Int} (h : Uniq L) (hl : lookP L l = none) : Uniq (L ++ [(l, d)]) := by
  unfold Uniq
  rw [List.pairwise_append]
  refine ⟨h, by simp, fun p hp q hq => ?_⟩
  simp at hq
  subst hq
  exact look_none.1 hl p hp
/-- is a pattern in its form? -/
def PatOk (p : Pat) : Prop := 0 < p.1.length ∧ p.2.length = p.1.length + 1 ∧ (∀ r ∈ p.1, dig r = false ∧ scalar r = true) ∧ ∀ d ∈ p.2, 0 ≤ d ∧ d ≤ 9
structure PatsOk (L : List Pat) : Prop where
  uniq : Uniq L
  ok : ∀ p ∈ L, PatOk p
theorem PatsOk.nil : PatsOk [] := ⟨List.Pairwise.nil, fun p h => by cases h⟩
theorem PatsOk.snoc {L : List Pat} {p : Pat} (h : PatsOk L) (hp : PatOk p) (hl : lookP L p.1 = none) : PatsOk (L ++ [p]) :=
  ⟨h.uniq.snoc hl, fun q hq => by
    rcases List.mem_append.1 hq with h1 | h1
    · exact h.ok q h1
    · obtain rfl := List.mem_singleton.1 h1; exact hp⟩

/-! ### what the patterns lay at a place of a word, by the length of their letters -/
def seg (t : List Int) (a m : Nat) : List Int := (t.drop a).take m
theorem seg_zero (t : List Int) (a : Nat) : seg t a 0 = [] := rfl
theorem seg_succ {t : List Int} {a m : Nat} (h : a + m < t.length) : seg t a (m + 1) = seg t a m ++ [nth t (a + m)] := by
  unfold seg
  have h1 : m < (t.drop a).length := by rw [List.length_drop]; omega
  rw [List.take_succ_eq_append_getElem h1, nth_eq h, List.getElem_drop]
theorem seg_len {t : List Int} {a m : Nat} (h : a + m ≤ t.length) : (seg t a m).length = m := by
  unfold seg; rw [List.length_take, List.length_drop]; omega
def LaysTo (L : List Pat) (t : List Int) (a m : Nat) (j : Nat) (v : Int) : Prop :=
  ∃ q, 1 ≤ q ∧ q ≤ m ∧ ∃ ds, lookP L (seg t a q) = some ds ∧ ∃ i, i < ds.length ∧ j = a + i ∧ v = nth ds i
theorem LaysTo.zero {L : List Pat} {t : List Int} {a j : Nat} {v : Int} : ¬ LaysTo L t a 0 j v := by
  rintro ⟨q, h1, h2, _⟩; omega
theorem laysTo_succ {L : List Pat} {t : List Int} {a m j : Nat} {v : Int} : LaysTo L t a (m + 1) j v ↔ LaysTo L t a m j v ∨ ∃ ds, lookP L (seg t a (m + 1)) = some ds ∧ ∃ i, i < ds.length ∧ j = a + i ∧ v = nth ds i := by
  constructor
  · rintro ⟨q, h1, h2, ds, h3, h4⟩
    rcases Nat.lt_or_ge m q with h5 | h5
    · obtain rfl : q = m + 1 := by omega
      exact .inr ⟨ds, h3, h4⟩
    · exact .inl ⟨q, h1, h5, ds, h3, h4⟩
  · rintro (⟨q, h1, h2, h3⟩ | ⟨ds, h3, h4⟩)
    · exact ⟨q, h1, by omega, h3⟩
    · exact ⟨m + 1, by omega, Nat.le_refl _, ds, h3, h4⟩
theorem laysTo_none {L : List Pat} {t : List Int} {a m : Nat} (h : ∀ q, m < q → lookP L (seg t a q) = none) {k : Nat} (hk : m ≤ k) {j : Nat} {v : Int} : LaysTo L t a k j v ↔ LaysTo L t a m j v := by
  constructor
  · rintro ⟨q, h1, h2, ds, h3, h4⟩
    rcases Nat.lt_or_ge m q with h5 | h5
    · rw [h q h5] at h3; cases h3
    · exact ⟨q, h1, h5, ds, h3, h4⟩
  · rintro ⟨q, h1, h2, h3⟩
    exact ⟨q, h1, by omega, h3⟩
/-- what the patterns lay from a place on -/
def LaysAt (L : List Pat) (t : List Int) (a : Nat) (j : Nat) (v : Int) : Prop :=
  ∃ p ∈ L, standsB p.1 t a = true ∧ ∃ i, i < p.2.length ∧ j = a + i ∧ v = nth p.2 i
theorem laysAt_to {L : List Pat} (hL : PatsOk L) {t : List Int} {a : Nat} (ha : a ≤ t.length) {j : Nat} {v : Int} : LaysTo L t a (t.length - a) j v ↔ LaysAt L t a j v := by
  constructor
  · rintro ⟨q, h1, h2, ds, h3, h4⟩
    refine ⟨_, lookP_mem h3, ?_, h4⟩
    rw [standsB_iff, seg_len (by omega)]
    exact ⟨by omega, rfl⟩
  · rintro ⟨p, hp, hs, h4⟩
    rw [standsB_iff] at hs
    have := (hL.ok p hp).1
    refine ⟨p.1.length, by omega, by omega, p.2, ?_, h4⟩
    have e : seg t a p.1.length = p.1 := hs.2
    rw [e]
    exact look_of_mem hL.uniq hp
/-- .. ahead of a place -/
def LaysLo (L : List Pat) (t : List Int) (m : Nat) (j : Nat) (v : Int) : Prop := ∃ a, a < m ∧ LaysAt L t a j v
theorem laysLo_zero {L : List Pat} {t : List Int} {j : Nat} {v : Int} : LaysLo L t 0 j v ↔ False := ⟨fun ⟨_, h, _⟩ => by omega, fun h => h.elim⟩
theorem laysLo_succ {L : List Pat} {t : List Int} {m j : Nat} {v : Int} : LaysLo L t (m + 1) j v ↔ LaysLo L t m j v ∨ LaysAt L t m j v := by
  constructor
  · rintro ⟨a, h1, h2⟩
    rcases Nat.lt_or_ge a m with h3 | h3
    · exact .inl ⟨a, h3, h2⟩
    · obtain rfl : a = m := by omega
      exact .inr h2
  · rintro (⟨a, h1, h2⟩ | h2)
    · exact ⟨a, by omega, h2⟩
    · exact ⟨m, by omega, h2⟩
theorem laysLo_all {L : List Pat} {t : List Int} {j : Nat} {v : Int} : LaysLo L t t.length j v ↔ Lays L t j v := by
  constructor
  · rintro ⟨a, h1, p, hp, hs, h4⟩; exact ⟨p, hp, a, h1, hs, h4⟩
  · rintro ⟨p, hp, a, h1, hs, h4⟩; exact ⟨a, h1, p, hp, hs, h4⟩
/-- the same, pattern by pattern -/
def LaysP (L : List Pat) (t : List Int) (m : Nat) (j : Nat) (v : Int) : Prop := ∃ k, k < m ∧ k < L.length ∧ ∃ a, a < t.length ∧ standsB (L.getD k ([], [])).1 t a = true ∧ ∃ i, i < (L.getD k ([], [])).2.length ∧ j = a + i ∧ v = nth (L.getD k ([], [])).2 i
theorem laysP_zero {L : List Pat} {t : List Int} {j : Nat} {v : Int} : LaysP L t 0 j v ↔ False := ⟨fun ⟨_, h, _⟩ => by omega, fun h => h.elim⟩
theorem laysP_all {L : List Pat} {t : List Int} {j : Nat} {v : Int} : LaysP L t L.length j v ↔ Lays L t j v := by
  constructor
  · rintro ⟨k, h1, h2, a, h3, h4, h5⟩
    refine ⟨L.getD k ([], []), ?_, a, h3, h4, h5⟩
    rw [List.getD_eq_getElem?_getD, List.getElem?_eq_getElem h2]
    exact List.getElem_mem ..
  · rintro ⟨p, hp, a, h3, h4, h5⟩
    obtain ⟨k, hk, he⟩ := List.getElem_of_mem hp
    have e : L.getD k ([], []) = p := by rw [List.getD_eq_getElem?_getD, List.getElem?_eq_getElem hk, he]; rfl
    exact ⟨k, hk, hk, a, h3, by rw [e]; exact h4, by rw [e]; exact h5⟩
/-- one pattern, ahead of a place -/
def LaysQ (p : Pat) (t : List Int) (m : Nat) (j : Nat) (v : Int) : Prop := ∃ a, a < m ∧ standsB p.1 t a = true ∧ ∃ i, i < p.2.length ∧ j = a + i ∧ v = nth p.2 i
theorem laysQ_zero {p : Pat} {t : List Int} {j : Nat} {v : Int} : LaysQ p t 0 j v ↔ False := ⟨fun ⟨_, h, _⟩ => by omega, fun h => h.elim⟩
theorem laysQ_yes {p : Pat} {t : List Int} {m j : Nat} {v : Int} (hs : standsB p.1 t m = true) : LaysQ p t (m + 1) j v ↔ LaysQ p t m j v ∨ ∃ i, i < p.2.length ∧ j = m + i ∧ v = nth p.2 i := by
  constructor
  · rintro ⟨a, h1, h2, h3⟩
    rcases Nat.lt_or_ge a m with h4 | h4
    · exact .inl ⟨a, h4, h2, h3⟩
    · obtain rfl : a = m := by omega
      exact .inr h3
  · rintro (⟨a, h1, h2⟩ | h2)
    · exact ⟨a, by omega, h2⟩
    · exact ⟨m, by omega, hs, h2⟩
theorem laysQ_no {p : Pat} {t : List Int} {m j : Nat} {v : Int} (hs : standsB p.1 t m = false) : LaysQ p t (m + 1) j v ↔ LaysQ p t m j v := by
  constructor
  · rintro ⟨a, h1, h2, h3⟩
    rcases Nat.lt_or_ge a m with h4 | h4
    · exact ⟨a, h4, h2, h3⟩
    · obtain rfl : a = m := by omega
      rw [hs] at h2; cases h2
  · rintro ⟨a, h1, h2⟩
    exact ⟨a, by omega, h2⟩
theorem laysP_succ {L : List Pat} {t : List Int} {m j : Nat} {v : Int} (hm : m < L.length) : LaysP L t (m + 1) j v ↔ LaysP L t m j v ∨ LaysQ (L.getD m ([], [])) t t.length j v := by
  constructor
  · rintro ⟨k, h1, h2, h3⟩
    rcases Nat.lt_or_ge k m with h4 | h4
    · exact .inl ⟨k, h4, h2, h3⟩
    · obtain rfl : k = m := by omega
      exact .inr h3
  · rintro (⟨k, h1, h2⟩ | h2)
    · exact ⟨k, by omega, h2⟩
    · exact ⟨m, by omega, hm, h2⟩

/-! ### the patterns of many texts -/
/-- the patterns, or the first that is wrong and its error -/
def newF : List ByteArray → Nat → List Pat → List Pat ⊕ (Nat × Int)
  | [], _, L => .inl L
  | s :: t, i, L => match parsed s with
    | none => .inr (i, 3)
    | some p => if (lookP L p.1).isSome = true then .inr (i, 15) else newF t (i + 1) (L ++ [p])
theorem newF_none {s : ByteArray} {t : List ByteArray} {i : Nat} {L : List Pat} (h : parsed s = none) : newF (s :: t) i L = .inr (i, 3) := by simp [newF, h]
theorem newF_twice {s : ByteArray} {t : List ByteArray} {i : Nat} {L : List Pat} {p : Pat} (h : parsed s = some p) (hl : (lookP L p.1).isSome = true) : newF (s :: t) i L = .inr (i, 15) := by simp [newF, h, hl]
theorem newF_next {s : ByteArray} {t : List ByteArray} {i : Nat} {L : List Pat} {p : Pat} (h : parsed s = some p) (hl : lookP L p.1 = none) : newF (s :: t) i L = newF t (i + 1) (L ++ [p]) := by simp [newF, h, hl]
end Go.Proofs.YtgianjnccpbnaaaDoor
