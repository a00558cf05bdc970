/- Chapter 20: how a text is read as a pattern's letters and digits: plain. No program in sight. -/
import Derived.Test.YtgianjnccpbnaaaDoorUlaw
namespace Go.Proofs.YtgianjnccpbnaaaDoor
set_option linter.unusedSimpArgs false

/-- a fact that nothing opens: Lib.Hid is a definition, and what compares a goal with it unfolds it down to the numerals -/
structure Shut (p : Prop) : Prop where
  out : p

def dig (r : Int) : Bool := decide (48 ≤ r ∧ r ≤ 57)
def scalar (r : Int) : Bool := decide ((0 ≤ r ∧ r < 55296) ∨ (57343 < r ∧ r ≤ 1114111))
def ru (s : ByteArray) (pos : Nat) : Int := ((Utf8.decode s pos).1 : Int)
def wd (s : ByteArray) (pos : Nat) : Nat := (Utf8.decode s pos).2
def okU (s : ByteArray) (pos : Nat) : Bool := (st s pos).2

/-- the text read from a place on, letters ls, finished digits ds, the digit now, whether it was told -/
def parseF (s : ByteArray) : Nat → Nat → List Int → List Int → Int → Bool → Option (List Int × List Int)
  | 0, _, ls, ds, now, _ => some (ls, ds ++ [now])
  | f + 1, pos, ls, ds, now, told =>
    if pos < s.size then
      if okU s pos = true then
        if dig (ru s pos) = true then (if told = true then none else parseF s f (pos + wd s pos) ls ds (ru s pos - 48) true)
        else parseF s f (pos + wd s pos) (ls ++ [ru s pos]) (ds ++ [now]) 0 false
      else none
    else some (ls, ds ++ [now])
def decF (s : ByteArray) : Nat → Nat → Option (List Int)
  | 0, _ => some []
  | f + 1, pos => if pos < s.size then (if okU s pos = true then (decF s f (pos + wd s pos)).map (ru s pos :: ·) else none) else some []
def foldP : List Int → List Int → List Int → Int → Bool → Option (List Int × List Int)
  | [], ls, ds, now, _ => some (ls, ds ++ [now])
  | r :: t, ls, ds, now, told => if dig r = true then (if told = true then none else foldP t ls ds (r - 48) true) else foldP t (ls ++ [r]) (ds ++ [now]) 0 false
theorem parse_split (s : ByteArray) : ∀ (f pos : Nat) (ls ds : List Int) (now : Int) (told : Bool), parseF s f pos ls ds now told = (decF s f pos).bind fun t => foldP t ls ds now told
  | 0, _, ls, ds, now, told => rfl
  | f + 1, pos, ls, ds, now, told => by
    unfold parseF decF
    by_cases h : pos < s.size
    · rw [if_pos h, if_pos h]
      cases ho : okU s pos with
      | false => rfl
      | true =>
        rw [if_pos rfl, if_pos rfl]
        cases hd : dig (ru s pos) with
        | false =>
          rw [if_neg (by simp), parse_split s f]
          cases decF s f (pos + wd s pos) with
          | none => rfl
          | some t => simp [foldP, hd]
        | true =>
          rw [if_pos rfl]
          cases told with
          | true =>
            rw [if_pos rfl]
            cases decF s f (pos + wd s pos) with
            | none => rfl
            | some t => simp [foldP, hd]
          | false =>
            rw [if_neg (by simp), parse_split s f]
            cases decF s f (pos + wd s pos) with
            | none => rfl
            | some t => simp [foldP, hd]
    · rw [if_neg h, if_neg h]
      rfl

/-- may a letter not stand at a place? -/
def rbad (ls : List Int) (i : Nat) : Bool := (nth ls i == 46 && (decide (0 < i) && decide (i + 1 < ls.length))) || (dig (nth ls i) || !scalar (nth ls i))
def mbad (ls : List Int) (i : Nat) : Bool := nth ls i == 46 && (decide (0 < i) && decide (i + 1 < ls.length))
def notDots (ls : List Int) : Nat := (ls.filter fun r => !(r == 46)).length
def rightB (ls : List Int) : Bool := (List.range ls.length).all (fun i => !rbad ls i) && (decide (1 ≤ notDots ls) && decide (notDots ls ≤ 16))
def mayB (ls : List Int) : Bool := (List.range ls.length).all (fun i => !mbad ls i) && (decide (1 ≤ notDots ls) && decide (notDots ls ≤ 16))
theorem all_false {p : Nat → Bool} {n i : Nat} (hi : i < n) (h : p i = true) : (List.range n).all (fun i => !p i) = false := by
  rw [Bool.eq_false_iff]
  intro h2
  rw [List.all_eq_true] at h2
  have := h2 i (List.mem_range.2 hi)
  rw [h] at this
  cases this
theorem all_true {p : Nat → Bool} {n : Nat} (h : ∀ j, j < n → p j = false) : (List.range n).all (fun i => !p i) = true := by
  rw [List.all_eq_true]
  intro j hj
  rw [h j (List.mem_range.1 hj)]
  rfl
theorem rightB_false {ls : List Int} {i : Nat} (hi : i < ls.length) (h : rbad ls i = true) : rightB ls = false := by
  unfold rightB; rw [all_false hi h]; rfl
theorem rightB_end {ls : List Int} (h : ∀ j, j < ls.length → rbad ls j = false) : rightB ls = (decide (1 ≤ notDots ls) && decide (notDots ls ≤ 16)) := by
  unfold rightB; rw [all_true h]; rfl
theorem mayB_false {ls : List Int} {i : Nat} (hi : i < ls.length) (h : mbad ls i = true) : mayB ls = false := by
  unfold mayB; rw [all_false hi h]; rfl
theorem mayB_end {ls : List Int} (h : ∀ j, j < ls.length → mbad ls j = false) : mayB ls = (decide (1 ≤ notDots ls) && decide (notDots ls ≤ 16)) := by
  unfold mayB; rw [all_true h]; rfl
theorem rightB_mayB {ls : List Int} (h : ∀ r ∈ ls, dig r = false ∧ scalar r = true) : rightB ls = mayB ls := by
  have e : ∀ i, i < ls.length → rbad ls i = mbad ls i := fun i hi => by
    obtain ⟨h1, h2⟩ := h (nth ls i) (by rw [nth_eq hi]; exact List.getElem_mem ..)
    unfold rbad mbad
    rw [h1, h2]
    simp
  unfold rightB mayB
  congr 1
  rw [Bool.eq_iff_iff, List.all_eq_true, List.all_eq_true]
  constructor
  · intro h j hj; rw [← e j (List.mem_range.1 hj)]; exact h j hj
  · intro h j hj; rw [e j (List.mem_range.1 hj)]; exact h j hj
theorem notDots_snoc (ls : List Int) (r : Int) : notDots (ls ++ [r]) = notDots ls + (if (r == 46) = true then 0 else 1) := by
  unfold notDots
  rw [List.filter_append, List.length_append]
  congr 1
  cases h : (r == 46) <;> simp [List.filter_cons, h]
theorem notDots_le (ls : List Int) : notDots ls ≤ ls.length := List.length_filter_le _ _
theorem notDots_take {ls : List Int} {i : Nat} (h : i < ls.length) : notDots (ls.take (i + 1)) = notDots (ls.take i) + (if (nth ls i == 46) = true then 0 else 1) := by
  rw [List.take_succ_eq_append_getElem h, notDots_snoc, nth_eq h]

theorem rbad_iff (ls : List Int) (i : Nat) : rbad ls i = true ↔ ((nth ls i = 46 ∧ 0 < i ∧ i + 1 < ls.length) ∨ (48 ≤ nth ls i ∧ nth ls i ≤ 57) ∨ nth ls i < 0 ∨ (55296 ≤ nth ls i ∧ nth ls i ≤ 57343) ∨ 1114111 < nth ls i) := by
  unfold rbad dig scalar
  simp
  omega
theorem mbad_iff (ls : List Int) (i : Nat) : mbad ls i = true ↔ (nth ls i = 46 ∧ 0 < i ∧ i + 1 < ls.length) := by
  unfold mbad
  simp
theorem dbad_iff' (ds : List Int) (i : Nat) (b : Bool) (h : b = decide (nth ds i < 0 ∨ 9 < nth ds i)) : (b = true ↔ (nth ds i < 0 ∨ 9 < nth ds i)) := by
  subst h
  simp

/-- are these a pattern's digits? -/
def dbad (ds : List Int) (i : Nat) : Bool := decide (nth ds i < 0 ∨ 9 < nth ds i)
def anyB (ds : List Int) : Bool := ds.any fun d => decide (0 < d)
def someB (ds : List Int) : Bool := (List.range ds.length).all (fun i => !dbad ds i) && anyB ds
theorem someB_false {ds : List Int} {i : Nat} (hi : i < ds.length) (h : dbad ds i = true) : someB ds = false := by
  unfold someB; rw [all_false hi h]; rfl
theorem someB_end {ds : List Int} (h : ∀ j, j < ds.length → dbad ds j = false) : someB ds = anyB ds := by
  unfold someB; rw [all_true h]; rfl
theorem anyB_take {ds : List Int} {i : Nat} (h : i < ds.length) : anyB (ds.take (i + 1)) = (anyB (ds.take i) || decide (0 < nth ds i)) := by
  unfold anyB
  rw [List.take_succ_eq_append_getElem h, List.any_append, nth_eq h]
  simp
theorem anyB_snoc (ds : List Int) (d : Int) : anyB (ds ++ [d]) = (anyB ds || decide (0 < d)) := by
  unfold anyB; rw [List.any_append]; simp
theorem someB_anyB {ds : List Int} (h : ∀ d ∈ ds, 0 ≤ d ∧ d ≤ 9) : someB ds = anyB ds :=
  someB_end fun j hj => by
    obtain ⟨h1, h2⟩ := h (nth ds j) (by rw [nth_eq hj]; exact List.getElem_mem ..)
    simp [dbad]; omega

def goodB (p : List Int × List Int) : Bool := mayB p.1 && anyB p.2
/-- what a text is read as -/
def parsed (s : ByteArray) : Option (List Int × List Int) := (parseF s s.size 0 [] [] 0 false).bind fun p => if goodB p = true then some p else none

/-! ### one step of the reading -/
section
variable {s : ByteArray} {f pos : Nat} {ls ds : List Int} {now : Int} {told : Bool}
theorem parse_bad (h : pos < s.size) (ho : okU s pos = false) : parseF s (f + 1) pos ls ds now told = none := by
  unfold parseF; rw [if_pos h, if_neg (by rw [ho]; simp)]
theorem parse_end (h : ¬ pos < s.size) : parseF s f pos ls ds now told = some (ls, ds ++ [now]) := by
  cases f with
  | zero => rfl
  | succ f => unfold parseF; rw [if_neg h]
theorem parse_told (h : pos < s.size) (ho : okU s pos = true) (hd : dig (ru s pos) = true) : parseF s (f + 1) pos ls ds now true = none := by
  unfold parseF; rw [if_pos h, if_pos ho, if_pos hd, if_pos rfl]
theorem parse_digit (h : pos < s.size) (ho : okU s pos = true) (hd : dig (ru s pos) = true) : parseF s (f + 1) pos ls ds now false = parseF s f (pos + wd s pos) ls ds (ru s pos - 48) true := by
  conv => lhs; unfold parseF
  rw [if_pos h, if_pos ho, if_pos hd, if_neg (by simp)]
theorem parse_letter (h : pos < s.size) (ho : okU s pos = true) (hd : dig (ru s pos) = false) : parseF s (f + 1) pos ls ds now told = parseF s f (pos + wd s pos) (ls ++ [ru s pos]) (ds ++ [now]) 0 false := by
  conv => lhs; unfold parseF
  rw [if_pos h, if_pos ho, if_neg (by rw [hd]; simp)]
end
theorem ok_width {s : ByteArray} {pos : Nat} (h : pos < s.size) (ho : okU s pos = true) : 1 ≤ wd s pos ∧ pos + wd s pos ≤ s.size ∧ scalar (ru s pos) = true := by
  obtain ⟨_, h2⟩ := st_dec s pos h
  obtain ⟨h3, _, h4, h5, h6⟩ := h2 ho
  unfold wd ru scalar
  rw [h3]
  refine ⟨by omega, by omega, ?_⟩
  simp
  omega
theorem bad_ru {s : ByteArray} {pos : Nat} (h : pos < s.size) (ho : okU s pos = false) : (Utf8.decode s pos).1 = 65533 := by rw [st_no h ho]
def LsOk (ls : List Int) : Prop := ∀ r ∈ ls, dig r = false ∧ scalar r = true
def DsOk (ds : List Int) : Prop := ∀ d ∈ ds, 0 ≤ d ∧ d ≤ 9
theorem LsOk.snoc {ls : List Int} {r : Int} (h : LsOk ls) (h1 : dig r = false) (h2 : scalar r = true) : LsOk (ls ++ [r]) := by
  intro x hx
  rcases List.mem_append.1 hx with h3 | h3
  · exact h x h3
  · obtain rfl := List.mem_singleton.1 h3
    exact ⟨h1, h2⟩
theorem DsOk.snoc {ds : List Int} {d : Int} (h : DsOk ds) (h1 : 0 ≤ d) (h2 : d ≤ 9) : DsOk (ds ++ [d]) := by
  intro x hx
  rcases List.mem_append.1 hx with h3 | h3
  · exact h x h3
  · obtain rfl := List.mem_singleton.1 h3
    exact ⟨h1, h2⟩
end Go.Proofs.YtgianjnccpbnaaaDoor
