/- Chapter 23: the fonts of a text, cluster by cluster and place by place; plain. -/
import Derived.Test.YtefajgfhdnhmmaaDoorFmany
import Derived.Test.YtefajgfhdnhmmaaDoorSpl
import Derived.Test.YtefajgfhdnhmmaaDoorWlaw
namespace Go.Proofs.YtefajgfhdnhmmaaDoor

/-- the font of the k-th cluster (from 1 on) -/
def fontA (fs : List Fd) (sp : List Sp) (xs : List Int) (bs : List Nat) : Nat → Int
  | 0 => -1
  | k + 1 => pickV fs (spAt sp (atN bs k)) ((xs.take (atN bs (k + 1))).drop (atN bs k)) (fontA fs sp xs bs k)
/-- values of clusters, place by place -/
def clV (bs : List Nat) (a : Nat → Int) : Nat → List Int
  | 0 => []
  | k + 1 => clV bs a k ++ List.replicate (atN bs (k + 1) - atN bs k) (a (k + 1))
/-- their spans, cluster by cluster -/
def clS (bs : List Nat) (a : Nat → Int) : Nat → List Sp
  | 0 => []
  | k + 1 => addSp (clS bs a k) (atN bs k) (atN bs (k + 1)) (a (k + 1))
theorem clV_len {bs : List Nat} {a : Nat → Int} (h : Rise bs) (h0 : atN bs 0 = 0) : ∀ k, (k < bs.length ∨ k = 0) → (clV bs a k).length = atN bs k
  | 0, _ => h0.symm
  | k + 1, hk => by
    have h1 := h k (by omega)
    have ih := clV_len (a := a) h h0 k (by omega)
    simp only [clV, List.length_append, List.length_replicate]
    omega
theorem clS_val {bs : List Nat} {a : Nat → Int} (h : Rise bs) (h0 : atN bs 0 = 0) : ∀ k, (k < bs.length ∨ k = 0) → valN (clV bs a k) (atN bs k) = clS bs a k
  | 0, _ => by rw [h0]; rfl
  | k + 1, hk => by
    have h1 := h k (by omega)
    have ih := clS_val (a := a) h h0 k (by omega)
    have hl := clV_len (a := a) h h0 k (by omega)
    obtain ⟨d, hd⟩ : ∃ d, atN bs (k + 1) = atN bs k + (d + 1) := ⟨atN bs (k + 1) - atN bs k - 1, by omega⟩
    simp only [clV, clS]
    rw [hd, show atN bs k + (d + 1) - atN bs k = d + 1 by omega, ← hl, valN_rep _ _ _ d (Nat.le_refl _), hl, ih]
theorem clS_len (bs : List Nat) (a : Nat → Int) : ∀ k, (clS bs a k).length ≤ k
  | 0 => Nat.le_refl _
  | k + 1 => by
    have h1 := clS_len bs a k
    have h2 := addSp_len (clS bs a k) (atN bs k) (atN bs (k + 1)) (a (k + 1))
    simp only [clS]
    omega
/-- all of one value -/
theorem clS_const {bs : List Nat} {a : Nat → Int} {v : Int} (h0 : atN bs 0 = 0) (h : ∀ k, a (k + 1) = v) : ∀ k, clS bs a (k + 1) = [⟨0, atN bs (k + 1), v⟩]
  | 0 => by
    simp only [clS, addSp_nil]
    rw [h, h0]
    rfl
  | k + 1 => by
    have ih := clS_const h0 h k
    have e : clS bs a (k + 1 + 1) = addSp (clS bs a (k + 1)) (atN bs (k + 1)) (atN bs (k + 1 + 1)) (a (k + 1 + 1)) := rfl
    rw [e, ih, h]
    exact addSp_eq [] ⟨0, atN bs (k + 1), v⟩ _ _
/-- with one font, or none, it is 0 -/
theorem pickV_one {fs : List Fd} (h : fs.length ≤ 1) (pre : Int) (cl : List Int) (ahead : Int) : pickV fs pre cl ahead = 0 := by
  have hb : ∀ i, isB fs.length i = true → i = 0 := fun i hi => by unfold isB at hi; simp at hi; omega
  cases h1 : (isB fs.length pre && fHas fs cl pre.toNat) with
  | true => rw [pickV_pre h1]; exact hb _ (Bool.and_eq_true_iff.1 h1).1
  | false =>
    by_cases h2 : fs.length = 1 ∧ fHas fs cl 0 = true
    · rw [pickV_at h1 (j := 0) (by omega) (fun i hi => by omega) h2.2]; rfl
    · rw [pickV_tail h1 (fun i hi => by
        obtain rfl : i = 0 := by omega
        cases h3 : fHas fs cl 0 with
        | false => rfl
        | true => exact absurd ⟨by omega, h3⟩ h2)]
      unfold tailV
      split
      · rename_i h3
        simp only [Bool.and_eq_true] at h3
        exact hb _ h3.1.1
      · split
        · rename_i h3; exact hb _ h3
        · rfl
theorem firstF_ge {fs : List Fd} {cl : List Int} : ∀ {d k j : Nat}, firstF fs cl d k = some j → k ≤ j ∧ j < k + d ∧ fHas fs cl j = true
  | 0, _, _, h => by simp [firstF] at h
  | d + 1, k, j, h => by
    unfold firstF at h
    cases hk : fHas fs cl k with
    | true =>
      rw [hk] at h
      simp at h
      subst h
      exact ⟨Nat.le_refl _, by omega, hk⟩
    | false =>
      rw [hk] at h
      simp at h
      obtain ⟨h1, h2, h3⟩ := firstF_ge h
      exact ⟨by omega, by omega, h3⟩
/-- the font that is picked has the cluster, if one has -/
theorem pickV_has {fs : List Fd} {cl : List Int} {j : Nat} (hj : j < fs.length) (h : fHas fs cl j = true) (pre ahead : Int) : ∃ q : Nat, pickV fs pre cl ahead = q ∧ q < fs.length ∧ fHas fs cl q = true := by
  cases h1 : (isB fs.length pre && fHas fs cl pre.toNat) with
  | true =>
    rw [pickV_pre h1]
    have h2 := Bool.and_eq_true_iff.1 h1
    have h3 : 0 ≤ pre ∧ pre < fs.length := by
      have := h2.1
      unfold isB at this
      simpa using this
    exact ⟨pre.toNat, by omega, by omega, h2.2⟩
  | false =>
    cases hf : firstF fs cl fs.length 0 with
    | some q =>
      obtain ⟨_, h3, h4⟩ := firstF_ge hf
      refine ⟨q, ?_, by omega, h4⟩
      unfold pickV
      rw [h1, hf]
      rfl
    | none =>
      exfalso
      have : ∀ d k, firstF fs cl d k = none → ∀ i, k ≤ i → i < k + d → fHas fs cl i = false := by
        intro d
        induction d with
        | zero => intro k _ i h5 h6; omega
        | succ d ih =>
          intro k h4 i h5 h6
          unfold firstF at h4
          cases hk : fHas fs cl k with
          | true => rw [hk] at h4; simp at h4
          | false =>
            rw [hk] at h4
            simp at h4
            rcases Nat.eq_or_lt_of_le h5 with h7 | h7
            · subst h7; exact hk
            · exact ih (k + 1) h4 i h7 (by omega)
      have h5 := this _ _ hf j (Nat.zero_le _) (by omega)
      rw [h5] at h
      cases h

/-! ### what the spans of clusters are like -/
def spTo (S : List Sp) : Nat → Int
  | 0 => 0
  | j + 1 => (snth S j).t
theorem spTo_lo {S R : List Sp} {j : Nat} (h : j ≤ S.length) : spTo (S ++ R) j = spTo S j := by
  cases j with
  | zero => rfl
  | succ j => simp only [spTo]; rw [snth_lo (by omega)]
structure WholeS (S : List Sp) (bs : List Nat) (a : Nat → Int) (k : Nat) : Prop where
  each : ∀ j, j < S.length → (snth S j).f = spTo S j ∧ (snth S j).f < (snth S j).t ∧ ∃ i, i < k ∧ (snth S j).f = (atN bs i : Int)
  last : spTo S S.length = (atN bs k : Int)
  part : ∀ j, 0 < j → j < S.length → (snth S j).v ≠ (snth S (j - 1)).v
  has : ∀ i, i < k → ∃ j, j < S.length ∧ (snth S j).f ≤ (atN bs i : Int) ∧ (atN bs i : Int) < (snth S j).t ∧ (snth S j).v = a (i + 1)
theorem snth_len {S : List Sp} {s : Sp} {j : Nat} (h : j < (S ++ [s]).length) : (j < S.length ∧ snth (S ++ [s]) j = snth S j) ∨ (j = S.length ∧ snth (S ++ [s]) j = s) := by
  simp only [List.length_append, List.length_singleton] at h
  rcases Nat.lt_or_ge j S.length with h1 | h1
  · exact .inl ⟨h1, snth_lo h1⟩
  · obtain rfl : j = S.length := by omega
    exact .inr ⟨rfl, snth_at⟩
theorem wholeS {bs : List Nat} {a : Nat → Int} (h : Rise bs) (h0 : atN bs 0 = 0) : ∀ k, (k < bs.length ∨ k = 0) → WholeS (clS bs a k) bs a k
  | 0, _ => ⟨fun j hj => by simp [clS] at hj, by show (0 : Int) = _; rw [h0]; rfl, fun j _ hj => by simp [clS] at hj, fun i hi => by omega⟩
  | k + 1, hk => by
    have h1 := h k (by omega)
    obtain ⟨ea, el, ep, eh⟩ := wholeS (a := a) h h0 k (by omega)
    have e : clS bs a (k + 1) = addSp (clS bs a k) (atN bs k) (atN bs (k + 1)) (a (k + 1)) := rfl
    rw [e]
    rcases nil_or_snoc (clS bs a k) with h2 | ⟨S, s, h2⟩
    · rw [h2] at el eh ⊢
      have hk0 : k = 0 := by
        rcases Nat.eq_zero_or_pos k with h3 | h3
        · exact h3
        · obtain ⟨j, h4, _⟩ := eh 0 h3
          simp at h4
      subst hk0
      rw [addSp_nil, h0]
      refine ⟨fun j hj => ?_, rfl, fun j hj1 hj2 => ?_, fun i hi => ?_⟩
      · simp at hj; subst hj
        refine ⟨rfl, ?_, 0, by omega, ?_⟩
        · show ((0 : Nat) : Int) < ((atN bs (0 + 1) : Nat) : Int); omega
        · show ((0 : Nat) : Int) = _; rw [h0]
      · simp at hj2; omega
      · obtain rfl : i = 0 := by omega
        refine ⟨0, by simp, ?_, ?_, rfl⟩
        · show ((0 : Nat) : Int) ≤ _; omega
        · show _ < ((atN bs (0 + 1) : Nat) : Int); omega
    · rw [h2] at ea el ep eh ⊢
      have el2 : s.t = (atN bs k : Int) := by
        have : spTo (S ++ [s]) (S ++ [s]).length = (snth (S ++ [s]) S.length).t := by simp [spTo]
        rw [this, snth_at] at el
        exact el
      have es := ea S.length (by simp)
      rw [snth_at] at es
      by_cases hv : s.v = a (k + 1)
      · rw [← hv, addSp_eq S s]
        refine ⟨fun j hj => ?_, ?_, fun j hj1 hj2 => ?_, fun i hi => ?_⟩
        · rcases snth_len hj with ⟨h3, h4⟩ | ⟨h3, h4⟩
          · obtain ⟨q1, q2, i, q3, q4⟩ := ea j (by simp; omega)
            rw [snth_lo h3] at q1 q2 q4
            rw [h4, spTo_lo (by omega)]
            rw [spTo_lo (by omega)] at q1
            exact ⟨q1, q2, i, by omega, q4⟩
          · obtain ⟨q1, q2, i, q3, q4⟩ := es
            subst h3
            rw [h4, spTo_lo (by omega)]
            rw [spTo_lo (by omega)] at q1
            exact ⟨q1, by show s.f < ((atN bs (k + 1) : Nat) : Int); omega, i, by omega, q4⟩
        · simp [spTo, snth_at]
        · rcases snth_len hj2 with ⟨h3, h4⟩ | ⟨h3, h4⟩
          · have q := ep j hj1 (by simp; omega)
            rw [snth_lo h3, snth_lo (by omega)] at q
            rw [h4, snth_lo (by omega)]
            exact q
          · have q := ep j hj1 (by simp; omega)
            subst h3
            rw [snth_at, snth_lo (by omega)] at q
            rw [h4, snth_lo (by omega)]
            exact q
        · rcases Nat.lt_or_ge i k with h3 | h3
          · obtain ⟨j, q1, q2, q3, q4⟩ := eh i h3
            refine ⟨j, by simpa using q1, ?_⟩
            rcases snth_len q1 with ⟨h5, h6⟩ | ⟨h5, h6⟩
            · rw [snth_lo h5]
              rw [h6] at q2 q3 q4
              exact ⟨q2, q3, q4⟩
            · subst h5
              rw [snth_at]
              rw [h6] at q2 q3 q4
              exact ⟨q2, by show _ < ((atN bs (k + 1) : Nat) : Int); omega, q4⟩
          · obtain rfl : i = k := by omega
            refine ⟨S.length, by simp, ?_⟩
            rw [snth_at]
            exact ⟨by show s.f ≤ _; omega, by show _ < ((atN bs (i + 1) : Nat) : Int); omega, hv⟩
      · rw [addSp_ne S s _ _ _ hv]
        have hl : (S ++ [s]).length = S.length + 1 := by simp
        refine ⟨fun j hj => ?_, ?_, fun j hj1 hj2 => ?_, fun i hi => ?_⟩
        · rcases snth_len hj with ⟨h3, h4⟩ | ⟨h3, h4⟩
          · obtain ⟨q1, q2, i, q3, q4⟩ := ea j h3
            rw [h4, spTo_lo (by omega)]
            exact ⟨q1, q2, i, by omega, q4⟩
          · subst h3
            rw [h4, spTo_lo (Nat.le_refl _)]
            exact ⟨el.symm, by show ((atN bs k : Nat) : Int) < ((atN bs (k + 1) : Nat) : Int); omega, k, by omega, rfl⟩
        · have : ((S ++ [s]) ++ [(⟨(atN bs k : Int), (atN bs (k + 1) : Int), a (k + 1)⟩ : Sp)]).length = (S ++ [s]).length + 1 := by simp
          rw [this]
          simp only [spTo]
          rw [snth_at]
        · rcases snth_len hj2 with ⟨h3, h4⟩ | ⟨h3, h4⟩
          · rw [h4, snth_lo (l := S ++ [s]) (j := j - 1) (by omega)]
            exact ep j hj1 h3
          · subst h3
            rw [h4, hl, Nat.add_sub_cancel, snth_lo (l := S ++ [s]) (j := S.length) (by omega), snth_at]
            exact fun q => hv q.symm
        · rcases Nat.lt_or_ge i k with h3 | h3
          · obtain ⟨j, q1, q2, q3, q4⟩ := eh i h3
            refine ⟨j, by simp at q1 ⊢; omega, ?_⟩
            rw [snth_lo q1]
            exact ⟨q2, q3, q4⟩
          · obtain rfl : i = k := by omega
            refine ⟨(S ++ [s]).length, by simp, ?_⟩
            rw [snth_at]
            exact ⟨Int.le_refl _, by show ((atN bs i : Nat) : Int) < ((atN bs (i + 1) : Nat) : Int); omega, rfl⟩
/-- the value at a cluster's place -/
theorem spF_find {S : List Sp} {x : Int} : ∀ {d j q : Nat}, j ≤ q → q < j + d → (∀ i, j ≤ i → i < q → ¬ ((snth S i).f ≤ x ∧ x < (snth S i).t)) → ((snth S q).f ≤ x ∧ x < (snth S q).t) → spF S x d j = (snth S q).v
  | 0, _, _, h1, h2, _, _ => by omega
  | d + 1, j, q, h1, h2, h3, h4 => by
    rcases Nat.eq_or_lt_of_le h1 with h5 | h5
    · subst h5; exact spF_yes h4
    · rw [spF_no (h3 j (Nat.le_refl _) h5)]
      exact spF_find (by omega) (by omega) (fun i h6 h7 => h3 i (by omega) h7) h4
theorem WholeS.rise {S : List Sp} {bs : List Nat} {a : Nat → Int} {k : Nat} (h : WholeS S bs a k) : ∀ (d i : Nat), i + d < S.length → (snth S i).t ≤ (snth S (i + d)).t
  | 0, _, _ => Int.le_refl _
  | d + 1, i, hi => by
    have h1 := WholeS.rise h d i (by omega)
    obtain ⟨q1, q2, _⟩ := h.each (i + (d + 1)) hi
    have e : spTo S (i + (d + 1)) = (snth S (i + d)).t := rfl
    rw [e] at q1
    omega
theorem WholeS.at_ {S : List Sp} {bs : List Nat} {a : Nat → Int} {k i : Nat} (h : WholeS S bs a k) (hi : i < k) : spAt S (atN bs i) = a (i + 1) := by
  obtain ⟨j, q1, q2, q3, q4⟩ := h.has i hi
  unfold spAt
  rw [← q4]
  refine spF_find (Nat.zero_le _) (by omega) (fun p _ hp => ?_) ⟨q2, q3⟩
  rintro ⟨_, h2⟩
  obtain ⟨d, rfl⟩ : ∃ d, j = p + d + 1 := ⟨j - p - 1, by omega⟩
  have h3 := h.rise d p (by omega)
  obtain ⟨r1, _⟩ := h.each (p + d + 1) q1
  have e : spTo S (p + d + 1) = (snth S (p + d)).t := rfl
  rw [e] at r1
  omega
end Go.Proofs.YtefajgfhdnhmmaaDoor
