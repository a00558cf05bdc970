/- Chapter 10: matches of isolates and the first strong class, as plain functions on a list of classes. No program in sight. -/
import Derived.Test.YtanfcfppmpabpaaDoorLib
namespace Go.Proofs.YtanfcfppmpabpaaDoor

theorem nth_app_lt {l m : List Int} {j : Nat} (h : j < l.length) : nth (l ++ m) j = nth l j := by
  simp [nth, List.getElem?_append_left h]
theorem nth_app_at {l : List Int} {x : Int} {k : Nat} (h : l.length = k) : nth (l ++ [x]) k = x := by
  subst h; simp [nth]
theorem nth_set_at {l : List Int} {x : Int} {j : Nat} (h : j < l.length) : nth (l.set j x) j = x := by simp [nth, h]
theorem nth_set_ne {l : List Int} {x : Int} {j i : Nat} (h : j ≠ i) : nth (l.set j x) i = nth l i := by simp [nth, List.getElem?_set_ne h]
theorem drop_cons_nth {cs : List Int} {k : Nat} (h : k < cs.length) : cs.drop k = nth cs k :: cs.drop (k + 1) := by
  rw [List.drop_eq_getElem_cons h, nth_eq h]

def opnB (c : Int) : Bool := c == 20 || c == 21 || c == 22
def strB (c : Int) : Bool := c == 1 || c == 2 || c == 3
/-- what Match knows ahead of place k: what it has told so far, and the initiators still open, the last one first -/
def mst (cs : List Int) : Nat → List Int × List Nat
  | 0 => ([], [])
  | k + 1 =>
    if opnB (nth cs k) then ((mst cs k).1 ++ [-1], k :: (mst cs k).2)
    else if nth cs k == 11 then ((mst cs k).1 ++ [-1], [])
    else if nth cs k == 23 then
      match (mst cs k).2 with
      | [] => ((mst cs k).1 ++ [-1], [])
      | j :: s => (((mst cs k).1 ++ [(j : Int)]).set j k, s)
    else ((mst cs k).1 ++ [-1], (mst cs k).2)
/-- the first strong class, read with a count of the isolates that are open -/
def scn : List Int → Nat → Int
  | [], _ => 0
  | c :: r, 0 => if strB c then c else if c == 11 then 0 else if opnB c then scn r 1 else scn r 0
  | c :: r, d + 1 => if c == 11 then 0 else if opnB c then scn r (d + 2) else if c == 23 then scn r d else scn r (d + 1)

theorem scn_B {cs : List Int} {k : Nat} (h : k < cs.length) (hc : nth cs k = 11) (d : Nat) : scn (cs.drop k) d = 0 := by
  rw [drop_cons_nth h, hc]; cases d <;> simp [scn, strB]
theorem scn_open {cs : List Int} {k : Nat} (h : k < cs.length) (hc : opnB (nth cs k) = true) (d : Nat) : scn (cs.drop k) d = scn (cs.drop (k + 1)) (d + 1) := by
  rw [drop_cons_nth h]
  have : nth cs k = 20 ∨ nth cs k = 21 ∨ nth cs k = 22 := by simpa [opnB, or_assoc] using hc
  rcases this with e | e | e <;> rw [e] <;> cases d <;> simp [scn, strB, opnB]
theorem scn_pdi {cs : List Int} {k : Nat} (h : k < cs.length) (hc : nth cs k = 23) (d : Nat) : scn (cs.drop k) (d + 1) = scn (cs.drop (k + 1)) d := by
  rw [drop_cons_nth h, hc]; simp [scn, opnB]
theorem scn_pdi0 {cs : List Int} {k : Nat} (h : k < cs.length) (hc : nth cs k = 23) : scn (cs.drop k) 0 = scn (cs.drop (k + 1)) 0 := by
  rw [drop_cons_nth h, hc]; simp [scn, opnB, strB]
theorem scn_else {cs : List Int} {k : Nat} (h : k < cs.length) (h1 : opnB (nth cs k) = false) (h2 : nth cs k ≠ 11) (h3 : nth cs k ≠ 23) (d : Nat) : scn (cs.drop k) (d + 1) = scn (cs.drop (k + 1)) (d + 1) := by
  rw [drop_cons_nth h]
  simp [scn, h1, h2, h3]
theorem scn_str {cs : List Int} {k : Nat} (h : k < cs.length) (h1 : strB (nth cs k) = true) : scn (cs.drop k) 0 = nth cs k := by
  rw [drop_cons_nth h]
  simp [scn, h1]
theorem scn_else0 {cs : List Int} {k : Nat} (h : k < cs.length) (h1 : opnB (nth cs k) = false) (h2 : nth cs k ≠ 11) (h3 : strB (nth cs k) = false) : scn (cs.drop k) 0 = scn (cs.drop (k + 1)) 0 := by
  rw [drop_cons_nth h]
  simp [scn, h1, h2, h3]
theorem scn_end {cs : List Int} {k : Nat} (h : cs.length ≤ k) (d : Nat) : scn (cs.drop k) d = 0 := by
  rw [List.drop_of_length_le h]; rfl

structure MInv (cs : List Int) (k : Nat) (o : List Int) (s : List Nat) : Prop where
  len : o.length = k
  st : ∀ j ∈ s, j < k ∧ opnB (nth cs j) = true ∧ nth o j = -1
  srt : s.Pairwise (· > ·)
  pair : ∀ i, i < k → nth o i = -1 ∨ ∃ q : Nat, q < k ∧ nth o i = q ∧ nth o q = i ∧ q ≠ i
  fwd : ∀ i q : Nat, i < q → q < k → nth o i = q → opnB (nth cs i) = true ∧ nth cs q = 23 ∧
    (∀ j, i < j → j < q → nth cs j ≠ 11 ∧ (nth o j ≠ -1 → (i : Int) < nth o j ∧ nth o j < q) ∧ (nth o j = -1 → nth cs j ≠ 23)) ∧
    ∀ e, scn (cs.drop (i + 1)) (e + 1) = scn (cs.drop (q + 1)) e
  stk : ∀ a i b, s = a ++ i :: b → (∀ j, i < j → j < k → nth cs j ≠ 11 ∧ (nth o j ≠ -1 → (i : Int) < nth o j) ∧ (nth o j = -1 → nth cs j ≠ 23)) ∧
    ∀ e, scn (cs.drop (i + 1)) (e + 1) = scn (cs.drop k) (e + 1 + a.length)
  dead : ∀ i, i < k → opnB (nth cs i) = true → nth o i = -1 → i ∈ s ∨ ∀ e, scn (cs.drop (i + 1)) (e + 1) = 0

section
variable {cs : List Int} {k : Nat} {o : List Int} {s : List Nat}
theorem MInv.lo (h : MInv cs k o s) {x : Int} {j : Nat} (hj : j < k) : nth (o ++ [x]) j = nth o j := nth_app_lt (by rw [h.len]; exact hj)
/-- a place at which nothing is told: what holds of the pairs is carried on -/
theorem MInv.pair' (h : MInv cs k o s) : ∀ i, i < k + 1 → nth (o ++ [-1]) i = -1 ∨ ∃ q : Nat, q < k + 1 ∧ nth (o ++ [-1]) i = q ∧ nth (o ++ [-1]) q = i ∧ q ≠ i := by
  intro i hi
  rcases Nat.lt_or_ge i k with hik | hik
  · rw [h.lo hik]
    rcases h.pair i hik with h1 | ⟨q, h1, h2, h3, h4⟩
    · exact .inl h1
    · exact .inr ⟨q, by omega, h2, by rw [h.lo h1]; exact h3, h4⟩
  · obtain rfl : i = k := by omega
    exact .inl (nth_app_at h.len)
theorem MInv.fwd' (h : MInv cs k o s) : ∀ i q : Nat, i < q → q < k + 1 → nth (o ++ [-1]) i = q → opnB (nth cs i) = true ∧ nth cs q = 23 ∧
    (∀ j, i < j → j < q → nth cs j ≠ 11 ∧ (nth (o ++ [-1]) j ≠ -1 → (i : Int) < nth (o ++ [-1]) j ∧ nth (o ++ [-1]) j < q) ∧ (nth (o ++ [-1]) j = -1 → nth cs j ≠ 23)) ∧
    ∀ e, scn (cs.drop (i + 1)) (e + 1) = scn (cs.drop (q + 1)) e := by
  intro i q h1 h2 h3
  rw [h.lo (by omega)] at h3
  have hq : q < k := by
    rcases h.pair i (by omega) with h4 | ⟨q', h4, h5, _⟩
    · omega
    · omega
  obtain ⟨a1, a2, a3, a4⟩ := h.fwd i q h1 hq h3
  refine ⟨a1, a2, fun j hj1 hj2 => ?_, a4⟩
  rw [h.lo (by omega)]
  exact a3 j hj1 hj2

theorem minv_open (h : MInv cs k o s) (hk : k < cs.length) (hc : opnB (nth cs k) = true) : MInv cs (k + 1) (o ++ [-1]) (k :: s) where
  len := by simp [h.len]
  st := by
    intro j hj
    rcases List.mem_cons.1 hj with rfl | hj
    · exact ⟨by omega, hc, nth_app_at h.len⟩
    · obtain ⟨h1, h2, h3⟩ := h.st j hj
      exact ⟨by omega, h2, by rw [h.lo h1]; exact h3⟩
  srt := List.pairwise_cons.2 ⟨fun j hj => (h.st j hj).1, h.srt⟩
  pair := h.pair'
  fwd := h.fwd'
  stk := by
    intro a i b hs
    cases a with
    | nil =>
      simp only [List.nil_append, List.cons.injEq] at hs
      obtain ⟨rfl, rfl⟩ := hs
      refine ⟨fun j h1 h2 => by omega, fun e => ?_⟩
      simp
    | cons a0 a =>
      simp only [List.cons_append, List.cons.injEq] at hs
      obtain ⟨rfl, hs⟩ := hs
      obtain ⟨h1, h2⟩ := h.stk a i b hs
      refine ⟨fun j hj1 hj2 => ?_, fun e => ?_⟩
      · rcases Nat.lt_or_ge j k with hjk | hjk
        · rw [h.lo hjk]; exact h1 j hj1 hjk
        · obtain rfl : j = k := by omega
          rw [nth_app_at h.len]
          refine ⟨fun e => ?_, fun e => absurd rfl e, fun _ e => ?_⟩
          · rw [e] at hc; simp [opnB] at hc
          · rw [e] at hc; simp [opnB] at hc
      · rw [h2, scn_open hk hc]; rfl
  dead := by
    intro i hi h1 h2
    rcases Nat.lt_or_ge i k with hik | hik
    · rw [h.lo hik] at h2
      rcases h.dead i hik h1 h2 with h3 | h3
      · exact .inl (List.mem_cons_of_mem _ h3)
      · exact .inr h3
    · obtain rfl : i = k := by omega
      exact .inl (List.mem_cons_self ..)
theorem minv_B (h : MInv cs k o s) (hk : k < cs.length) (hc : nth cs k = 11) : MInv cs (k + 1) (o ++ [-1]) [] where
  len := by simp [h.len]
  st := by simp
  srt := List.Pairwise.nil
  pair := h.pair'
  fwd := h.fwd'
  stk := by intro a i b hs; simp at hs
  dead := by
    intro i hi h1 h2
    rcases Nat.lt_or_ge i k with hik | hik
    · rw [h.lo hik] at h2
      rcases h.dead i hik h1 h2 with h3 | h3
      · obtain ⟨a, b, hs⟩ := List.append_of_mem h3
        refine .inr fun e => ?_
        rw [(h.stk a i b hs).2, scn_B hk hc]
      · exact .inr h3
    · obtain rfl : i = k := by omega
      rw [hc] at h1; simp [opnB] at h1
theorem minv_same (h : MInv cs k o s) (hk : k < cs.length) (hc : opnB (nth cs k) = false) (h11 : nth cs k ≠ 11) (h23 : nth cs k ≠ 23 ∨ s = []) : MInv cs (k + 1) (o ++ [-1]) s where
  len := by simp [h.len]
  st := by
    intro j hj
    obtain ⟨h1, h2, h3⟩ := h.st j hj
    exact ⟨by omega, h2, by rw [h.lo h1]; exact h3⟩
  srt := h.srt
  pair := h.pair'
  fwd := h.fwd'
  stk := by
    intro a i b hs
    obtain ⟨h1, h2⟩ := h.stk a i b hs
    have h23 : nth cs k ≠ 23 := by
      rcases h23 with h4 | h4
      · exact h4
      · rw [h4] at hs; simp at hs
    refine ⟨fun j hj1 hj2 => ?_, fun e => ?_⟩
    · rcases Nat.lt_or_ge j k with hjk | hjk
      · rw [h.lo hjk]; exact h1 j hj1 hjk
      · obtain rfl : j = k := by omega
        rw [nth_app_at h.len]
        exact ⟨h11, fun e => absurd rfl e, fun _ => h23⟩
    · rw [h2, show e + 1 + a.length = (e + a.length) + 1 by omega, scn_else hk hc h11 h23]
  dead := by
    intro i hi h1 h2
    rcases Nat.lt_or_ge i k with hik | hik
    · rw [h.lo hik] at h2
      exact h.dead i hik h1 h2
    · obtain rfl : i = k := by omega
      rw [hc] at h1; cases h1
theorem minv_pdi {t : Nat} (h : MInv cs k o (t :: s)) (hk : k < cs.length) (hc : nth cs k = 23) : MInv cs (k + 1) ((o ++ [(t : Int)]).set t k) s := by
  obtain ⟨ht1, ht2, ht3⟩ := h.st t (List.mem_cons_self ..)
  have hlen : (o ++ [(t : Int)]).length = k + 1 := by simp [h.len]
  have hat : nth ((o ++ [(t : Int)]).set t k) t = k := nth_set_at (by omega)
  have hak : nth ((o ++ [(t : Int)]).set t k) k = t := by rw [nth_set_ne (by omega), nth_app_at h.len]
  have hlo : ∀ j, j < k → j ≠ t → nth ((o ++ [(t : Int)]).set t k) j = nth o j := fun j h1 h2 => by rw [nth_set_ne (by omega), h.lo h1]
  have htop := h.stk [] t s rfl
  have hsrt := List.pairwise_cons.1 h.srt
  refine ⟨by simp [h.len], ?_, hsrt.2, ?_, ?_, ?_, ?_⟩
  · intro j hj
    obtain ⟨h1, h2, h3⟩ := h.st j (List.mem_cons_of_mem _ hj)
    have := hsrt.1 j hj
    exact ⟨by omega, h2, by rw [hlo j h1 (by omega)]; exact h3⟩
  · intro i hi
    by_cases hit : i = t
    · subst hit; exact .inr ⟨k, by omega, hat, hak, by omega⟩
    · rcases Nat.lt_or_ge i k with hik | hik
      · rw [hlo i hik hit]
        rcases h.pair i hik with h1 | ⟨q, h1, h2, h3, h4⟩
        · exact .inl h1
        · have hqt : q ≠ t := by
            rintro rfl
            rw [ht3] at h3; omega
          exact .inr ⟨q, by omega, h2, by rw [hlo q h1 hqt]; exact h3, h4⟩
      · obtain rfl : i = k := by omega
        exact .inr ⟨t, by omega, hak, hat, by omega⟩
  · intro i q h1 h2 h3
    by_cases hit : i = t
    · subst hit
      rw [hat] at h3
      obtain rfl : q = k := by omega
      refine ⟨ht2, hc, fun j hj1 hj2 => ?_, fun e => ?_⟩
      · rw [hlo j hj2 (by omega)]
        obtain ⟨b1, b2, b3⟩ := htop.1 j hj1 hj2
        refine ⟨b1, fun hne => ⟨b2 hne, ?_⟩, b3⟩
        rcases h.pair j hj2 with h4 | ⟨q, h4, h5, _⟩
        · exact absurd h4 hne
        · omega
      · rw [htop.2]
        exact scn_pdi hk hc e
    · have hik : i < k := by
        omega
      rw [hlo i hik hit] at h3
      have hqk : q < k := by
        rcases h.pair i hik with h4 | ⟨q', h4, h5, _⟩
        · omega
        · omega
      obtain ⟨a1, a2, a3, a4⟩ := h.fwd i q h1 hqk h3
      refine ⟨a1, a2, fun j hj1 hj2 => ?_, a4⟩
      have hjt : j ≠ t := by
        rintro rfl
        have hqo : nth o q = i := by
          rcases h.pair i hik with h4 | ⟨q', h4, h5, h6, _⟩
          · omega
          · obtain rfl : q = q' := by omega
            exact h6
        have := (htop.1 q hj2 hqk).2.1 (by rw [hqo]; omega)
        omega
      rw [hlo j (by omega) hjt]
      exact a3 j hj1 hj2
  · intro a i b hs
    obtain ⟨h1, h2⟩ := h.stk (t :: a) i b (by rw [hs]; rfl)
    have hti : i < t := hsrt.1 i (by rw [hs]; simp)
    refine ⟨fun j hj1 hj2 => ?_, fun e => ?_⟩
    · by_cases hjt : j = t
      · subst hjt
        rw [hat]
        refine ⟨fun e => ?_, fun _ => by omega, fun e => by omega⟩
        rw [e] at ht2; simp [opnB] at ht2
      · rcases Nat.lt_or_ge j k with hjk | hjk
        · rw [hlo j hjk hjt]; exact h1 j hj1 hjk
        · obtain rfl : j = k := by omega
          rw [hak]
          exact ⟨by omega, fun _ => by omega, fun e => by omega⟩
    · rw [h2, List.length_cons, show e + 1 + (a.length + 1) = (e + 1 + a.length) + 1 by omega, scn_pdi hk hc]
  · intro i hi h1 h2
    by_cases hit : i = t
    · subst hit; rw [hat] at h2; omega
    · rcases Nat.lt_or_ge i k with hik | hik
      · rw [hlo i hik hit] at h2
        rcases h.dead i hik h1 h2 with h3 | h3
        · rcases List.mem_cons.1 h3 with h4 | h4
          · exact absurd h4 hit
          · exact .inl h4
        · exact .inr h3
      · obtain rfl : i = k := by omega
        rw [hc] at h1; simp [opnB] at h1
end

/-- a list that falls, below a bound, is not longer than it -/
theorem falls_len : ∀ (s : List Nat) (k : Nat), s.Pairwise (· > ·) → (∀ j ∈ s, j < k) → s.length ≤ k
  | [], _, _, _ => Nat.zero_le _
  | j :: s, k, h1, h2 => by
    have h3 := List.pairwise_cons.1 h1
    have h4 := falls_len s j h3.2 fun i hi => h3.1 i hi
    have h5 := h2 j (List.mem_cons_self ..)
    simp only [List.length_cons]
    omega
theorem MInv.stk_le {cs : List Int} {k : Nat} {o : List Int} {s : List Nat} (h : MInv cs k o s) : s.length ≤ k := falls_len s k h.srt fun j hj => (h.st j hj).1
theorem mst_open {cs : List Int} {k : Nat} (h : opnB (nth cs k) = true) : mst cs (k + 1) = ((mst cs k).1 ++ [-1], k :: (mst cs k).2) := by simp [mst, h]
theorem mst_B {cs : List Int} {k : Nat} (h : nth cs k = 11) : mst cs (k + 1) = ((mst cs k).1 ++ [-1], []) := by simp [mst, h, opnB]
theorem mst_pdi {cs : List Int} {k j : Nat} {s : List Nat} (h : nth cs k = 23) (hs : (mst cs k).2 = j :: s) : mst cs (k + 1) = (((mst cs k).1 ++ [(j : Int)]).set j k, s) := by simp [mst, h, opnB, hs]
theorem mst_pdi0 {cs : List Int} {k : Nat} (h : nth cs k = 23) (hs : (mst cs k).2 = []) : mst cs (k + 1) = ((mst cs k).1 ++ [-1], []) := by simp [mst, h, opnB, hs]
theorem mst_else {cs : List Int} {k : Nat} (h : opnB (nth cs k) = false) (h1 : nth cs k ≠ 11) (h2 : nth cs k ≠ 23) : mst cs (k + 1) = ((mst cs k).1 ++ [-1], (mst cs k).2) := by simp [mst, h, h1, h2]

theorem minv (cs : List Int) : ∀ k, k ≤ cs.length → MInv cs k (mst cs k).1 (mst cs k).2
  | 0, _ => ⟨rfl, by simp [mst], List.Pairwise.nil, fun i h => by omega, fun i q h1 h2 => by omega, fun a i b h => by simp [mst] at h, fun i h => by omega⟩
  | k + 1, hk => by
    have ih := minv cs k (by omega)
    have hk : k < cs.length := by omega
    by_cases h1 : opnB (nth cs k) = true
    · rw [mst_open h1]; exact minv_open ih hk h1
    · simp only [Bool.not_eq_true] at h1
      by_cases h2 : nth cs k = 11
      · rw [mst_B h2]; exact minv_B ih hk h2
      · by_cases h3 : nth cs k = 23
        · cases hs : (mst cs k).2 with
          | nil =>
            rw [mst_pdi0 h3 hs]
            rw [hs] at ih
            exact minv_same ih hk h1 h2 (.inr rfl)
          | cons j s =>
            rw [mst_pdi h3 hs]
            rw [hs] at ih
            exact minv_pdi ih hk h3
        · rw [mst_else h1 h2 h3]
          exact minv_same ih hk h1 h2 (.inl h3)

/-- the matches of a list of classes -/
def matches_ (cs : List Int) : List Int := (mst cs cs.length).1
theorem matches_len (cs : List Int) : (matches_ cs).length = cs.length := (minv cs _ (Nat.le_refl _)).len
/-- what an initiator's match is good for -/
theorem matches_open {cs : List Int} {i : Nat} (hi : i < cs.length) (ho : opnB (nth cs i) = true) :
    (nth (matches_ cs) i = -1 ∧ ∀ e, scn (cs.drop (i + 1)) (e + 1) = 0) ∨ ∃ q : Nat, i < q ∧ q < cs.length ∧ nth (matches_ cs) i = q ∧ nth cs q = 23 ∧ ∀ e, scn (cs.drop (i + 1)) (e + 1) = scn (cs.drop (q + 1)) e := by
  have h := minv cs _ (Nat.le_refl _)
  rcases h.pair i hi with h1 | ⟨q, h1, h2, h3, h4⟩
  · refine .inl ⟨h1, ?_⟩
    rcases h.dead i hi ho h1 with h5 | h5
    · obtain ⟨a, b, hs⟩ := List.append_of_mem h5
      intro e
      rw [(h.stk a i b hs).2, scn_end (Nat.le_refl _)]
    · exact h5
  · rcases Nat.lt_or_ge i q with hq | hq
    · obtain ⟨_, a2, _, a4⟩ := h.fwd i q hq h1 h2
      exact .inr ⟨q, hq, h1, h2, a2, a4⟩
    · have := (h.fwd q i (by omega) hi h3).2.1
      rw [this] at ho; simp [opnB] at ho
/-- what BaseNests asks -/
theorem matches_nest {cs : List Int} {i : Nat} (hi : i < cs.length) :
    nth (matches_ cs) i = -1 ∨ ∃ q : Nat, q < cs.length ∧ nth (matches_ cs) i = q ∧ nth (matches_ cs) q = i ∧ q ≠ i ∧ (i < q → opnB (nth cs i) = true ∧ nth cs q = 23 ∧
      ∀ j, i < j → j < q → nth cs j ≠ 11 ∧ (nth (matches_ cs) j ≠ -1 → (i : Int) < nth (matches_ cs) j ∧ nth (matches_ cs) j < q) ∧ (nth (matches_ cs) j = -1 → nth cs j ≠ 23)) := by
  have h := minv cs _ (Nat.le_refl _)
  rcases h.pair i hi with h1 | ⟨q, h1, h2, h3, h4⟩
  · exact .inl h1
  · refine .inr ⟨q, h1, h2, h3, h4, fun hq => ?_⟩
    obtain ⟨a1, a2, a3, _⟩ := h.fwd i q hq h1 h2
    exact ⟨a1, a2, a3⟩

/-! ### what stands between -/
def spec (c : Int) : Bool := c == 11 || opnB c || c == 23
theorem scn_skip (e : Nat) : ∀ (l r : List Int), (∀ c ∈ l, spec c = false) → scn (l ++ r) (e + 1) = scn r (e + 1)
  | [], r, _ => rfl
  | c :: l, r, h => by
    have hc := h c (List.mem_cons_self ..)
    simp only [spec, Bool.or_eq_false_iff, beq_eq_false_iff_ne] at hc
    simp only [List.cons_append, scn]
    simp [hc]
    exact scn_skip e l r fun x hx => h x (List.mem_cons_of_mem _ hx)
/-- two rests that answer alike at each depth but 0, behind one beginning that ends with an initiator -/
theorem scn_cong {r r' : List Int} (h : ∀ e, scn r (e + 1) = scn r' (e + 1)) : ∀ (l : List Int) (o : Int) (d : Nat), opnB o = true → scn (l ++ o :: r) d = scn (l ++ o :: r') d
  | [], o, d, ho => by
    have : o = 20 ∨ o = 21 ∨ o = 22 := by simpa [opnB, or_assoc] using ho
    rcases this with e | e | e <;> subst e <;> cases d <;> simp [scn, strB, opnB, h]
  | c :: l, o, d, ho => by
    have ih := fun d => scn_cong h l o d ho
    cases d <;> simp only [List.cons_append, scn, ih]
theorem hides {cs more : List Int} {i q : Nat} (hi : i < cs.length) (ho : opnB (nth cs i) = true) (hq : nth (matches_ cs) i = q) (hm : ∀ c ∈ more, spec c = false) :
    scn (cs.take (i + 1) ++ more ++ cs.drop q) 0 = scn cs 0 := by
  rcases matches_open hi ho with ⟨h1, _⟩ | ⟨q', h1, h2, h3, h4, h5⟩
  · omega
  · obtain rfl : q = q' := by omega
    have e1 : cs.take (i + 1) = cs.take i ++ [nth cs i] := by rw [List.take_succ_eq_append_getElem hi, nth_eq hi]
    have e2 : cs = cs.take i ++ nth cs i :: cs.drop (i + 1) := by rw [← drop_cons_nth hi, List.take_append_drop]
    rw [e1]
    conv => rhs; rw [e2]
    simp only [List.append_assoc, List.singleton_append, List.cons_append, List.nil_append]
    refine scn_cong (fun e => ?_) _ _ _ ho
    rw [scn_skip e _ _ hm, scn_pdi h2 h4, h5]
end Go.Proofs.YtanfcfppmpabpaaDoor
