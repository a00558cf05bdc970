/- Chapter 20: what Print writes, and that it is read back: plain. No program in sight. -/
import Derived.Test.YteehcmcljjdbeaaHlaw
import Derived.Lib.RuneBytes
namespace Go.Proofs.Yteehcmcljjdbeaa

def dg (d : Int) : List Int := if 0 < d then [48 + d] else []
/-- the signs that Print writes -/
def outR : List Int → List Int → List Int
  | _, [] => []
  | [], d :: ds => dg d ++ outR [] ds
  | l :: ls, d :: ds => dg d ++ l :: outR ls ds
theorem outR_nil (ls : List Int) : outR ls [] = [] := by cases ls <;> rfl
theorem outR_both : ∀ (ls ds : List Int) (l d : Int), ls.length = ds.length → outR (ls ++ [l]) (ds ++ [d]) = outR ls ds ++ (dg d ++ [l])
  | [], [], l, d, _ => by simp [outR]
  | a :: ls, b :: ds, l, d, h => by
    have := outR_both ls ds l d (by simpa using h)
    simp [outR, this]
theorem outR_last : ∀ (ls ds : List Int) (d : Int), ls.length = ds.length → outR ls (ds ++ [d]) = outR ls ds ++ dg d
  | [], [], d, _ => by simp [outR]
  | a :: ls, b :: ds, d, h => by
    have := outR_last ls ds d (by simpa using h)
    simp [outR, this]
/-- the signs written for the first k digits -/
def outK (ls ds : List Int) (k : Nat) : List Int := outR (ls.take k) (ds.take k)
theorem outK_zero (ls ds : List Int) : outK ls ds 0 = [] := by simp [outK, outR]
theorem outK_letter {ls ds : List Int} {k : Nat} (h1 : k < ds.length) (h2 : k < ls.length) : outK ls ds (k + 1) = outK ls ds k ++ (dg (nth ds k) ++ [nth ls k]) := by
  unfold outK
  rw [List.take_succ_eq_append_getElem h1, List.take_succ_eq_append_getElem h2, outR_both _ _ _ _ (by simp; omega), nth_eq h1, nth_eq h2]
theorem outK_last {ls ds : List Int} {k : Nat} (h1 : k < ds.length) (h2 : ls.length = k) : outK ls ds (k + 1) = outK ls ds k ++ dg (nth ds k) := by
  unfold outK
  rw [List.take_succ_eq_append_getElem h1, List.take_of_length_le (by omega : ls.length ≤ k + 1), List.take_of_length_le (by omega : ls.length ≤ k), outR_last _ _ _ (by simp; omega), nth_eq h1]
theorem outK_full {ls ds : List Int} (h : ls.length ≤ ds.length) : outK ls ds ds.length = outR ls ds := by
  unfold outK
  rw [List.take_of_length_le h, List.take_of_length_le (Nat.le_refl _)]
theorem dig_dg {d : Int} (h0 : 0 < d) (h9 : d ≤ 9) : dig (48 + d) = true := by simp [dig]; omega
theorem fold_out : ∀ (ls ds A D : List Int), ds.length = ls.length + 1 → (∀ d ∈ ds, 0 ≤ d ∧ d ≤ 9) → (∀ l ∈ ls, dig l = false) → foldP (outR ls ds) A D 0 false = some (A ++ ls, D ++ ds)
  | [], [d], A, D, _, hd, _ => by
    obtain ⟨h1, h2⟩ := hd d (by simp)
    by_cases h : 0 < d
    · simp [outR, dg, h, foldP, dig_dg h h2, show 48 + d - 48 = d by omega]
    · obtain rfl : d = 0 := by omega
      simp [outR, dg, foldP]
  | l :: ls, d :: ds, A, D, hl, hd, hg => by
    obtain ⟨h1, h2⟩ := hd d (by simp)
    have hll := hg l (by simp)
    have ih := fold_out ls ds (A ++ [l]) (D ++ [d]) (by simpa using hl) (fun x hx => hd x (by simp [hx])) (fun x hx => hg x (by simp [hx]))
    rw [List.append_assoc, List.append_assoc] at ih
    by_cases h : 0 < d
    · simpa [outR, dg, h, foldP, dig_dg h h2, hll, show 48 + d - 48 = d by omega] using ih
    · obtain rfl : d = 0 := by omega
      simpa [outR, dg, foldP, hll] using ih

/-- the bytes of signs -/
def encZ (t : List Int) : List Int := t.flatMap Lib.encodeRuneZ
def encL (t : List Int) : List UInt8 := (encZ t).map fun x => x.toNat.toUInt8
theorem encZ_app (a b : List Int) : encZ (a ++ b) = encZ a ++ encZ b := by simp [encZ]
theorem encZ_one (r : Int) : encZ [r] = Lib.encodeRuneZ r := by simp [encZ]
theorem encZ_dg {d : Int} (h0 : 0 < d) (h9 : d ≤ 9) : encZ [48 + d] = [48 + d] := by rw [encZ_one, Lib.encodeRuneZ_one (by omega) (by omega)]
theorem encZ_byte (t : List Int) : ∀ x ∈ encZ t, 0 ≤ x ∧ x < 256 := by
  intro x hx
  unfold encZ at hx
  obtain ⟨r, _, h2⟩ := List.mem_flatMap.1 hx
  exact Lib.encodeRuneZ_byte r x h2
theorem encZ_len (t : List Int) : (encZ t).length ≤ 4 * t.length := by
  induction t with
  | nil => simp [encZ]
  | cons a t ih =>
    have := (Lib.encodeRuneZ_length a).2
    have e : encZ (a :: t) = Lib.encodeRuneZ a ++ encZ t := by simp [encZ]
    rw [e, List.length_append]
    simp
    omega
theorem encZ_pos {t : List Int} (h : t ≠ []) : encZ t ≠ [] := by
  cases t with
  | nil => exact absurd rfl h
  | cons a t =>
    have := (Lib.encodeRuneZ_length a).1
    have e : encZ (a :: t) = Lib.encodeRuneZ a ++ encZ t := by simp [encZ]
    intro hc
    rw [e] at hc
    have h2 := congrArg List.length hc
    rw [List.length_append, List.length_nil] at h2
    omega
theorem bt_list {l : List Int} (hb : ∀ x ∈ l, 0 ≤ x ∧ x < 256) {i : Nat} (h : i < l.length) : (bt ⟨(l.map fun x => x.toNat.toUInt8).toArray⟩ i : Int) = l[i] := by
  rw [bt_mk]
  have hm := hb l[i] (List.getElem_mem h)
  simp [h]
  omega

set_option maxRecDepth 100000 in
set_option maxHeartbeats 4000000 in
theorem decN_enc {m b0 b1 b2 b3 : Nat} {r : Int} (hs : scalar r = true) (hm : (Lib.encodeRuneZ r).length ≤ m)
    (e0 : (b0 : Int) = nth (Lib.encodeRuneZ r) 0) (e1 : 1 < (Lib.encodeRuneZ r).length → (b1 : Int) = nth (Lib.encodeRuneZ r) 1) (e2 : 2 < (Lib.encodeRuneZ r).length → (b2 : Int) = nth (Lib.encodeRuneZ r) 2) (e3 : 3 < (Lib.encodeRuneZ r).length → (b3 : Int) = nth (Lib.encodeRuneZ r) 3) :
    Lib.decodeN m b0 b1 b2 b3 = (r.toNat, (Lib.encodeRuneZ r).length) := by
  have hs2 : (0 ≤ r ∧ r < 55296) ∨ (57343 < r ∧ r ≤ 1114111) := by unfold scalar at hs; simpa using hs
  clear hs
  have hc : (0 ≤ r ∧ r ≤ 127) ∨ (128 ≤ r ∧ r ≤ 2047) ∨ ((2048 ≤ r ∧ r < 55296) ∨ (57343 < r ∧ r ≤ 65535)) ∨ (65536 ≤ r ∧ r ≤ 1114111) := by omega
  rcases hc with ⟨h, k⟩ | ⟨h, k⟩ | h | ⟨h, k⟩
  · rw [Lib.encodeRuneZ_one h k] at *
    simp [nth] at e0 hm ⊢
    unfold Lib.decodeN
    rw [if_pos (by omega)]
    simp; omega
  · rw [Lib.encodeRuneZ_two h k] at *
    simp [nth] at e0 e1 hm ⊢
    unfold Lib.decodeN
    rw [if_neg (by omega), if_pos (by omega), if_pos (by omega)]
    simp; omega
  · rw [Lib.encodeRuneZ_three h] at *
    simp [nth] at e0 e1 e2 hm ⊢
    unfold Lib.decodeN
    rw [if_neg (by omega), if_neg (by omega), if_pos (by omega), if_pos (by omega)]
    simp; omega
  · rw [Lib.encodeRuneZ_four h k] at *
    simp [nth] at e0 e1 e2 e3 hm ⊢
    unfold Lib.decodeN
    rw [if_neg (by omega), if_neg (by omega), if_neg (by omega), if_pos (by omega), if_pos (by omega)]
    simp; omega

/-- the text whose bytes are these numbers -/
def txt (l : List Int) : ByteArray := ⟨(l.map fun x => x.toNat.toUInt8).toArray⟩
theorem txt_size (l : List Int) : (txt l).size = l.length := by
  have : (txt l).size = (l.map fun x => x.toNat.toUInt8).length := rfl
  rw [this, List.length_map]
theorem nth_mid {a b c : List Int} {j : Nat} (h : j < b.length) : (a ++ b ++ c)[a.length + j]? = some (nth b j) := by
  rw [List.append_assoc, List.getElem?_append_right (by omega), show a.length + j - a.length = j by omega, List.getElem?_append_left h, List.getElem?_eq_getElem h, nth_eq h]
theorem dec_enc {a c : List Int} {r : Int} (ha : ∀ x ∈ a ++ Lib.encodeRuneZ r ++ c, 0 ≤ x ∧ x < 256) (hs : scalar r = true) :
    Utf8.decode (txt (a ++ Lib.encodeRuneZ r ++ c)) a.length = (r.toNat, (Lib.encodeRuneZ r).length) := by
  rw [Lib.decode_at]
  have hl := Lib.encodeRuneZ_length r
  have key : ∀ j, j < (Lib.encodeRuneZ r).length → (bt (txt (a ++ Lib.encodeRuneZ r ++ c)) (a.length + j) : Int) = nth (Lib.encodeRuneZ r) j := fun j hj => by
    have hlt : a.length + j < (a ++ Lib.encodeRuneZ r ++ c).length := by simp; omega
    rw [show bt (txt (a ++ Lib.encodeRuneZ r ++ c)) (a.length + j) = bt ⟨((a ++ Lib.encodeRuneZ r ++ c).map fun x => x.toNat.toUInt8).toArray⟩ (a.length + j) from rfl, bt_list ha hlt]
    have := nth_mid (a := a) (b := Lib.encodeRuneZ r) (c := c) hj
    rw [List.getElem?_eq_getElem hlt] at this
    exact Option.some.inj this
  exact decN_enc hs (by rw [txt_size]; simp <;> omega) (key 0 (by omega)) (fun h => key 1 h) (fun h => key 2 h) (fun h => key 3 h)
theorem ok_enc {s : ByteArray} {pos k : Nat} {r : Int} (h : pos < s.size) (hd : Utf8.decode s pos = (r.toNat, k)) (hk : r.toNat = 65533 → k ≠ 1) : okU s pos = true := by
  cases ho : okU s pos with
  | true => rfl
  | false =>
    have := st_no h ho
    rw [hd] at this
    injection this with h1 h2
    exact absurd h2 (hk h1)
theorem dec_endL {s : ByteArray} {f pos : Nat} (h : ¬ pos < s.size) : decF s f pos = some [] := by
  cases f with
  | zero => rfl
  | succ f => unfold decF; rw [if_neg h]
theorem decF_enc : ∀ (t a : List Int) (f : Nat), (∀ x ∈ a, 0 ≤ x ∧ x < 256) → (∀ r ∈ t, scalar r = true) → (encZ t).length ≤ f → decF (txt (a ++ encZ t)) f a.length = some t
  | [], a, f, ha, ht, hf => by
    have e : encZ ([] : List Int) = [] := rfl
    rw [e, List.append_nil]
    exact dec_endL (by rw [txt_size]; omega)
  | r :: t, a, f, ha, ht, hf => by
    have e : encZ (r :: t) = Lib.encodeRuneZ r ++ encZ t := by simp [encZ]
    rw [e] at hf ⊢
    rw [← List.append_assoc]
    have hl := Lib.encodeRuneZ_length r
    rw [List.length_append] at hf
    have hs := ht r (by simp)
    have hb : ∀ x ∈ a ++ Lib.encodeRuneZ r ++ encZ t, 0 ≤ x ∧ x < 256 := fun x hx => by
      rcases List.mem_append.1 hx with h | h
      · rcases List.mem_append.1 h with h | h
        · exact ha x h
        · exact Lib.encodeRuneZ_byte r x h
      · exact encZ_byte t x h
    have hd := dec_enc (a := a) (c := encZ t) (r := r) hb hs
    have hp : a.length < (txt (a ++ Lib.encodeRuneZ r ++ encZ t)).size := by rw [txt_size]; simp; omega
    have hs2 : (0 ≤ r ∧ r < 55296) ∨ (57343 < r ∧ r ≤ 1114111) := by have := hs; unfold scalar at this; simpa using this
    have hok := ok_enc hp hd (fun h => by
      have hr : r = 65533 := by omega
      subst hr
      rw [Lib.encodeRuneZ_three (.inr ⟨by omega, by omega⟩)]
      simp)
    obtain ⟨f, rfl⟩ : ∃ f', f = f' + 1 := ⟨f - 1, by omega⟩
    have hw : wd (txt (a ++ Lib.encodeRuneZ r ++ encZ t)) a.length = (Lib.encodeRuneZ r).length := by unfold wd; rw [hd]
    have hr : ru (txt (a ++ Lib.encodeRuneZ r ++ encZ t)) a.length = r := by unfold ru; rw [hd]; simp; omega
    have ih := decF_enc t (a ++ Lib.encodeRuneZ r) f (fun x hx => hb x (by simp at hx ⊢; rcases hx with h | h <;> simp [h])) (fun x hx => ht x (by simp [hx])) (by omega)
    rw [List.length_append] at ih
    conv => lhs; unfold decF
    rw [if_pos hp, if_pos hok, hw, hr, ih]
    rfl

/-- may these be printed? -/
def okP (ls ds : List Int) : Bool := ds.length == ls.length + 1 && (rightB ls && someB ds)
/-- what Print gives -/
def printed (ls ds : List Int) : ByteArray := if okP ls ds = true then txt (encZ (outR ls ds)) else ⟨#[]⟩
theorem okP_facts {ls ds : List Int} (h : okP ls ds = true) : ds.length = ls.length + 1 ∧ (∀ r ∈ ls, dig r = false ∧ scalar r = true) ∧ (∀ d ∈ ds, 0 ≤ d ∧ d ≤ 9) ∧ anyB ds = true ∧ mayB ls = true := by
  unfold okP at h
  simp only [Bool.and_eq_true, beq_iff_eq] at h
  obtain ⟨h1, h2, h3⟩ := h
  have hl : ∀ r ∈ ls, dig r = false ∧ scalar r = true := fun r hr => by
    obtain ⟨i, hi, rfl⟩ := List.getElem_of_mem hr
    have hb : rbad ls i = false := by
      cases hb : rbad ls i with
      | false => rfl
      | true => rw [rightB_false hi hb] at h2; cases h2
    unfold rbad at hb
    rw [nth_eq hi] at hb
    simp only [Bool.or_eq_false_iff, Bool.not_eq_false'] at hb
    exact hb.2
  have hd : ∀ d ∈ ds, 0 ≤ d ∧ d ≤ 9 := fun d hd => by
    obtain ⟨i, hi, rfl⟩ := List.getElem_of_mem hd
    have hb : dbad ds i = false := by
      cases hb : dbad ds i with
      | false => rfl
      | true => rw [someB_false hi hb] at h3; cases h3
    unfold dbad at hb
    rw [nth_eq hi] at hb
    simp at hb
    omega
  exact ⟨h1, hl, hd, by rw [← someB_anyB hd]; exact h3, by rw [← rightB_mayB hl]; exact h2⟩
theorem out_scalar : ∀ (ls ds : List Int), (∀ r ∈ ls, scalar r = true) → (∀ d ∈ ds, 0 ≤ d ∧ d ≤ 9) → ∀ x ∈ outR ls ds, scalar x = true
  | ls, [], _, _, x, hx => by rw [outR_nil] at hx; cases hx
  | [], d :: ds, hl, hd, x, hx => by
    have ih := out_scalar [] ds hl (fun y hy => hd y (by simp [hy])) x
    obtain ⟨h1, h2⟩ := hd d (by simp)
    unfold outR dg at hx
    split at hx
    · simp at hx
      rcases hx with rfl | hx
      · unfold scalar; simp; omega
      · exact ih hx
    · simpa using ih (by simpa using hx)
  | l :: ls, d :: ds, hl, hd, x, hx => by
    have ih := out_scalar ls ds (fun y hy => hl y (by simp [hy])) (fun y hy => hd y (by simp [hy])) x
    obtain ⟨h1, h2⟩ := hd d (by simp)
    unfold outR dg at hx
    split at hx
    · simp at hx
      rcases hx with rfl | rfl | hx
      · unfold scalar; simp; omega
      · exact hl x (by simp)
      · exact ih hx
    · simp at hx
      rcases hx with rfl | hx
      · exact hl x (by simp)
      · exact ih hx
/-- what Print gives is read back -/
theorem parsed_print {ls ds : List Int} (h : okP ls ds = true) : parsed (txt (encZ (outR ls ds))) = some (ls, ds) := by
  obtain ⟨h1, h2, h3, h4, h5⟩ := okP_facts h
  unfold parsed
  rw [parse_split]
  have hd := decF_enc (outR ls ds) [] (txt (encZ (outR ls ds))).size (fun x hx => by cases hx) (out_scalar ls ds (fun r hr => (h2 r hr).2) h3) (by rw [txt_size]; exact Nat.le_refl _)
  rw [List.nil_append, List.length_nil] at hd
  rw [hd]
  show (foldP (outR ls ds) [] [] 0 false).bind _ = _
  rw [fold_out ls ds [] [] h1 h3 (fun l hl => (h2 l hl).1), List.nil_append, List.nil_append]
  have : goodB (ls, ds) = true := by unfold goodB; rw [h5, h4]; rfl
  simp [this]
theorem parsed_empty : parsed ⟨#[]⟩ = none := by rfl
theorem print_nonempty {ls ds : List Int} (h : okP ls ds = true) : (encZ (outR ls ds)) ≠ [] := by
  obtain ⟨h1, h2, h3, h4, h5⟩ := okP_facts h
  refine encZ_pos ?_
  cases ls with
  | nil => exfalso; unfold mayB at h5; simp [notDots] at h5
  | cons l ls =>
    cases ds with
    | nil => simp at h1
    | cons d ds =>
      unfold outR
      simp
end Go.Proofs.Yteehcmcljjdbeaa
