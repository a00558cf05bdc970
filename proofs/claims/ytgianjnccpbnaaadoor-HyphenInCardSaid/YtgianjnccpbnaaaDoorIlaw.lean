/- Chapter 20: where a text may be parted: behind soft hyphens, and inside its words by patterns: plain. No program in sight. -/
import Derived.Test.YtgianjnccpbnaaaDoorNlaw
import Derived.Test.YtgianjnccpbnaaaDoorHtp
namespace Go.Proofs.YtgianjnccpbnaaaDoor
set_option linter.unusedSimpArgs false

theorem range_split (a d : Nat) : List.range (a + d) = List.range a ++ (List.range d).map (a + ·) := by
  rw [List.range_add]
open Classical in
/-- the places of a word -/
noncomputable def ptsF (L : List Pat) (xs : List Int) : List Int := if h : ∃ out, Points L xs out then Classical.choose h else []
theorem ptsF_eq {L : List Pat} {xs out : List Int} (h : Points L xs out) : ptsF L xs = out := by
  have he : ∃ out, Points L xs out := ⟨out, h⟩
  unfold ptsF
  rw [dif_pos he]
  exact Points.unique (Classical.choose_spec he) h
/-- is a number a place of a word? -/
noncomputable def ptB (L : List Pat) (xs : List Int) (p : Nat) : Bool := (ptsF L xs).contains (p : Int)
theorem ptB_points {L : List Pat} {xs out : List Int} (h : Points L xs out) : out = ((List.range xs.length).filter (ptB L xs)).map Int.ofNat ∧ ∀ p, ptB L xs p = true → 2 ≤ p ∧ p + 3 ≤ xs.length := by
  have e := ptsF_eq h
  have hb : ∀ p : Nat, ptB L xs p = out.contains (p : Int) := fun p => by unfold ptB; rw [e]
  have key : ∃ q : Nat → Bool, out = ((List.range xs.length).filter q).map Int.ofNat ∧ ∀ p, q p = true → 2 ≤ p ∧ p + 3 ≤ xs.length := by
    unfold Points at h
    split at h
    · exact ⟨fun _ => false, by rw [h]; simp, fun p hp => by cases hp⟩
    · obtain ⟨ms, _, _, rfl⟩ := h
      refine ⟨fun i => decide (i < xs.length - 2) && (decide (2 ≤ i) && (nth ms (i + 1) % 2 == 1)), ?_, fun p hp => by simp at hp; omega⟩
      unfold ptsN
      congr 1
      have e1 : List.range (xs.length - 2) = (List.range xs.length).filter (fun i => decide (i < xs.length - 2)) := by
        have e2 : List.range xs.length = List.range (xs.length - 2) ++ (List.range (xs.length - (xs.length - 2))).map (xs.length - 2 + ·) := by
          rw [← range_split]
          congr 1
          omega
        rw [e2, List.filter_append, List.filter_eq_self.2 (fun a ha => by simpa using ha), List.filter_eq_nil_iff.2 (fun a ha => by simp at ha ⊢; omega), List.append_nil]
      rw [e1, List.filter_filter]
      apply List.filter_congr
      intro i _
      simp [Bool.and_comm]
  obtain ⟨q, hq, hq2⟩ := key
  have hqp : ∀ p : Nat, ptB L xs p = q p := fun p => by
    rw [hb, hq, Bool.eq_iff_iff, List.contains_iff_mem, List.mem_map]
    constructor
    · rintro ⟨a, ha, he⟩
      have : a = p := by have : (a : Int) = (p : Int) := he; omega
      subst this
      exact (List.mem_filter.1 ha).2
    · intro h
      exact ⟨p, List.mem_filter.2 ⟨List.mem_range.2 (by have := hq2 p h; omega), h⟩, rfl⟩
  refine ⟨?_, fun p hp => hq2 p (by rw [← hqp]; exact hp)⟩
  rw [show ptB L xs = q from funext hqp]
  exact hq

theorem ptB_two (L : List Pat) (ys : List Int) (p : Nat) (h : ptB L ys p = true) : 2 ≤ p := by
  by_cases he : ∃ out, Points L ys out
  · obtain ⟨out, ho⟩ := he
    exact ((ptB_points ho).2 p h).1
  · unfold ptB ptsF at h
    rw [dif_neg he] at h
    simp at h
/-- does a letter stand at a place? -/
def letB (xs : List Int) (i : Nat) : Bool := decide (i < xs.length) && (wdOf (nth xs i) == 1)
/-- where the run of letters that holds a place begins -/
def runA (xs : List Int) : Nat → Nat
  | 0 => 0
  | i + 1 => if letB xs i = true then runA xs i else i + 1
theorem runA_no {xs : List Int} {i : Nat} (h : letB xs i = false) : runA xs (i + 1) = i + 1 := by simp [runA, h]
theorem runA_yes {xs : List Int} {i : Nat} (h : letB xs i = true) : runA xs (i + 1) = runA xs i := by simp [runA, h]
/-- where the letters from a place on end -/
def runBF (xs : List Int) : Nat → Nat → Nat
  | 0, i => i
  | f + 1, i => if letB xs i = true then runBF xs f (i + 1) else i
def runB (xs : List Int) (i : Nat) : Nat := runBF xs (xs.length - i) i
theorem letB_lt {xs : List Int} {i : Nat} (h : letB xs i = true) : i < xs.length := by unfold letB at h; simp at h; exact h.1
theorem runB_no {xs : List Int} {i : Nat} (h : letB xs i = false) : runB xs i = i := by
  unfold runB
  cases xs.length - i with
  | zero => rfl
  | succ f => simp [runBF, h]
theorem runB_yes {xs : List Int} {i : Nat} (h : letB xs i = true) : runB xs i = runB xs (i + 1) := by
  have hl := letB_lt h
  unfold runB
  obtain ⟨f, hf⟩ : ∃ f, xs.length - i = f + 1 := ⟨xs.length - i - 1, by omega⟩
  rw [hf, show xs.length - (i + 1) = f by omega]
  simp [runBF, h]
/-- a run of letters: from a up to b, and no further -/
structure Run (xs : List Int) (a b : Nat) : Prop where
  le : a ≤ b
  fst : a = 0 ∨ letB xs (a - 1) = false
  all : ∀ i, a ≤ i → i < b → letB xs i = true
  stop : letB xs b = false
theorem Run.atA {xs : List Int} {a b : Nat} (h : Run xs a b) : runA xs a = a := by
  rcases h.fst with h0 | h0
  · subst h0; rfl
  · cases a with
    | zero => rfl
    | succ a => exact runA_no (by simpa using h0)
theorem Run.runA_eq {xs : List Int} {a b : Nat} (h : Run xs a b) : ∀ {m : Nat}, a ≤ m → m ≤ b → runA xs m = a := by
  intro m
  induction m with
  | zero =>
    intro h1 _
    have : a = 0 := by omega
    rw [this]; rfl
  | succ m ih =>
    intro h1 h2
    rcases Nat.lt_or_ge m a with h3 | h3
    · obtain rfl : a = m + 1 := by omega
      exact h.atA
    · rw [runA_yes (h.all m h3 (by omega))]
      exact ih h3 (by omega)
theorem Run.runB_eq {xs : List Int} {a b : Nat} (h : Run xs a b) : ∀ (d m : Nat), b - m = d → a ≤ m → m ≤ b → runB xs m = b
  | 0, m, hd, h1, h2 => by obtain rfl : m = b := by omega
                           exact runB_no h.stop
  | d + 1, m, hd, h1, h2 => by rw [runB_yes (h.all m h1 (by omega))]; exact Run.runB_eq h d (m + 1) (by omega) (by omega) (by omega)
/-- a place inside a word, by patterns -/
noncomputable def wordB (L : List Pat) (xs : List Int) (m : Nat) : Bool := letB xs m && ptB L ((xs.take (runB xs m)).drop (runA xs m)) (m - runA xs m)
theorem Run.word {L : List Pat} {xs : List Int} {a b m : Nat} (h : Run xs a b) (h1 : a ≤ m) (h2 : m < b) : wordB L xs m = ptB L ((xs.take b).drop a) (m - a) := by
  unfold wordB
  rw [h.all m h1 h2, h.runA_eq h1 (by omega), h.runB_eq _ m rfl h1 (by omega), Bool.true_and]
theorem word_no {L : List Pat} {xs : List Int} {m : Nat} (h : letB xs m = false) : wordB L xs m = false := by unfold wordB; rw [h]; rfl
/-- a place at which a text may be parted, clusters aside -/
noncomputable def inHit (L : List Pat) (xs : List Int) (m : Nat) : Bool := hitB xs m || wordB L xs m
noncomputable def inN (L : List Pat) (xs : List Int) (m : Nat) : List Int := ((List.range m).filter (inHit L xs)).map Int.ofNat
theorem inN_succ (L : List Pat) (xs : List Int) (m : Nat) : inN L xs (m + 1) = if inHit L xs m = true then inN L xs m ++ [(m : Int)] else inN L xs m := by
  unfold inN
  rw [List.range_succ, List.filter_append, List.map_append]
  by_cases h : inHit L xs m = true
  · simp [h]
  · simp [h]
theorem inN_len (L : List Pat) (xs : List Int) (m : Nat) : (inN L xs m).length ≤ m := by
  unfold inN
  rw [List.length_map]
  exact Nat.le_trans (List.length_filter_le _ _) (by simp)
theorem inN_mem {L : List Pat} {xs : List Int} {m : Nat} {x : Int} (h : x ∈ inN L xs m) : 0 ≤ x ∧ x < m := by
  unfold inN at h
  obtain ⟨a, ha, rfl⟩ := List.mem_map.1 h
  have := List.mem_range.1 (List.mem_filter.1 ha).1
  show (0 : Int) ≤ (a : Int) ∧ (a : Int) < m
  omega
theorem wordB_low {L : List Pat} (hL : ∀ ys, ∀ p, ptB L ys p = true → 2 ≤ p) {xs : List Int} {m : Nat} (h : runA xs m = m) : wordB L xs m = false := by
  unfold wordB
  rw [h, Nat.sub_self]
  cases hp : ptB L ((xs.take (runB xs m)).drop m) 0 with
  | false => simp
  | true => have := hL _ _ hp; omega
theorem inN_one {L : List Pat} (hL : ∀ ys, ∀ p, ptB L ys p = true → 2 ≤ p) (xs : List Int) : inN L xs 1 = [] := by
  rw [inN_succ]
  have : inHit L xs 0 = false := by unfold inHit; rw [wordB_low hL rfl]; simp [hitB]
  rw [this]
  simp [inN]
/-- a sign that is no letter: what stands behind it is a place if it is a soft hyphen -/
theorem inHit_sign {L : List Pat} (hL : ∀ ys, ∀ p, ptB L ys p = true → 2 ≤ p) {xs : List Int} {k : Nat} (h : letB xs k = false) : inHit L xs (k + 1) = hitB xs (k + 1) := by
  unfold inHit
  rw [wordB_low hL (runA_no h), Bool.or_false]
/-- the places of a word in the text -/
noncomputable def wordN (L : List Pat) (xs : List Int) (a b : Nat) : List Int := ((List.range (b - a)).filter (ptB L ((xs.take b).drop a))).map fun p => ((a : Int) + Int.ofNat p)
theorem inN_word {L : List Pat} (hL : ∀ ys, ∀ p, ptB L ys p = true → 2 ≤ p) {xs : List Int} (hs : ∀ i, letB xs i = true → nth xs i ≠ 173) {a b : Nat} (h : Run xs a b) (hab : a < b) :
    inN L xs (b + 1) = inN L xs (a + 1) ++ wordN L xs a b := by
  have hno : ∀ m, a < m → m ≤ b → hitB xs m = false := fun m h1 h2 => by
    obtain ⟨i, rfl⟩ : ∃ i, m = i + 1 := ⟨m - 1, by omega⟩
    exact hit_no (hs i (h.all i (by omega) (by omega)))
  have hz : ptB L ((xs.take b).drop a) 0 = false := by
    cases hp : ptB L ((xs.take b).drop a) 0 with
    | false => rfl
    | true => have := hL _ _ hp; omega
  have e1 : b + 1 = a + 1 + (b - a) := by omega
  unfold inN wordN
  rw [e1, range_split (a + 1) (b - a), List.filter_append, List.map_append]
  congr 1
  have e2 : ((List.range (b - a)).map (a + 1 + ·)).filter (inHit L xs) = ((List.range (b - a)).filter (ptB L ((xs.take b).drop a))).map (a + ·) := by
    obtain ⟨d, hd⟩ : ∃ d, b - a = d + 1 := ⟨b - a - 1, by omega⟩
    rw [hd]
    conv => lhs; rw [List.range_succ]
    conv => rhs; rw [List.range_succ_eq_map]
    rw [List.map_append, List.filter_append, List.filter_cons, if_neg (by rw [hz]; simp)]
    have hlast : inHit L xs (a + 1 + d) = false := by
      rw [show a + 1 + d = b by omega]
      unfold inHit
      rw [hno b hab (Nat.le_refl _), word_no h.stop]; rfl
    rw [List.map_singleton, List.filter_cons, if_neg (by rw [hlast]; simp), List.filter_nil, List.append_nil]
    rw [List.filter_map, List.filter_map, List.map_map]
    have e3 : ∀ i, i < d → inHit L xs (a + 1 + i) = ptB L ((xs.take b).drop a) (i + 1) := fun i hi => by
      unfold inHit
      rw [hno _ (by omega) (by omega), h.word (by omega) (by omega), Bool.false_or]
      congr 1
      omega
    have e4 : (List.range d).filter (inHit L xs ∘ fun x => a + 1 + x) = (List.range d).filter (ptB L ((xs.take b).drop a) ∘ Nat.succ) := by
      apply List.filter_congr
      intro i hi
      exact e3 i (List.mem_range.1 hi)
    rw [e4]
    apply List.map_congr_left
    intro i _
    simp only [Function.comp]
    omega
  rw [e2, List.map_map]
  apply List.map_congr_left
  intro p _
  simp [Function.comp]
theorem wordN_pts {L : List Pat} {xs : List Int} {a b : Nat} (hab : a ≤ b) (hb : b ≤ xs.length) {out : List Int} (h : Points L ((xs.take b).drop a) out) : wordN L xs a b = out.map fun p => (a : Int) + p := by
  obtain ⟨h1, _⟩ := ptB_points h
  have hl : ((xs.take b).drop a).length = b - a := by rw [List.length_drop, List.length_take]; omega
  rw [hl] at h1
  unfold wordN
  conv => rhs; rw [h1]
  rw [List.map_map]
  rfl
/-- the places where clusters part, of those -/
noncomputable def allIn (L : List Pat) (xs : List Int) (ks : List Int) : List Int := ((List.range (xs.length + 1)).filter (fun m => isN ks m && inHit L xs m)).map Int.ofNat
theorem in_keepB (L : List Pat) (xs ks : List Int) : (inN L xs (xs.length + 1)).filter (keepB ks) = allIn L xs ks := by
  unfold inN allIn
  rw [List.filter_map, List.filter_filter]
  congr 1
theorem bnds_in (L : List Pat) (xs ks : List Int) (hl : ks.length = xs.length) : (bounds ks).filter (fun x => inHit L xs x.toNat) = allIn L xs ks := by
  unfold bounds bnds allIn
  rw [hl, List.filter_map, List.filter_filter]
  congr 1
  apply List.filter_congr
  intro m _
  simp [Function.comp, Bool.and_comm]
theorem allIn_len (L : List Pat) (xs ks : List Int) : (allIn L xs ks).length ≤ xs.length + 1 := by
  unfold allIn
  rw [List.length_map]
  exact Nat.le_trans (List.length_filter_le _ _) (by simp)
/-- marks of places: those behind soft hyphens, and those of words ahead of a place -/
noncomputable def markB (L : List Pat) (xs : List Int) (a m : Nat) : Bool := hitB xs m || (decide (m < a) && wordB L xs m)
theorem markB_zero (L : List Pat) (xs : List Int) (m : Nat) : markB L xs 0 m = hitB xs m := by simp [markB]
theorem markB_all {L : List Pat} {xs : List Int} {a m : Nat} (ha : xs.length ≤ a) : markB L xs a m = inHit L xs m := by
  unfold markB inHit
  by_cases h : m < a
  · simp [h]
  · rw [word_no (by unfold letB; simp; omega)]; simp
theorem markB_run {L : List Pat} {xs : List Int} {a b m : Nat} (h : Run xs a b) : markB L xs (b + 1) m = (markB L xs a m || (decide (a ≤ m ∧ m < b) && ptB L ((xs.take b).drop a) (m - a))) := by
  unfold markB
  by_cases h1 : a ≤ m
  · by_cases h2 : m < b
    · rw [h.word h1 h2]
      have e1 : decide (m < b + 1) = true := by simp; omega
      have e2 : decide (m < a) = false := by simp; omega
      have e3 : decide (a ≤ m ∧ m < b) = true := by simp; omega
      rw [e1, e2, e3]; simp
    · by_cases h3 : m = b
      · subst h3
        rw [word_no h.stop]; simp
      · have e1 : decide (m < b + 1) = false := by simp; omega
        have e2 : decide (m < a) = false := by simp; omega
        have e3 : decide (a ≤ m ∧ m < b) = false := by simp; omega
        rw [e1, e2, e3]; simp
  · have e1 : decide (m < b + 1) = true := by have := h.le; simp; omega
    have e2 : decide (m < a) = true := by simp; omega
    have e3 : decide (a ≤ m ∧ m < b) = false := by simp; omega
    rw [e1, e2, e3]; simp
end Go.Proofs.YtgianjnccpbnaaaDoor
