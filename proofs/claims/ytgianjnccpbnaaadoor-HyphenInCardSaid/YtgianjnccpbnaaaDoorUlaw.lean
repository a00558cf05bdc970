/- UTF-8 as the document reads it (Stands, rune1), held against the model's decode: plain. No program in sight. -/
import Derived.Lib.DecodeNEq
import Derived.Laws.RangeAny
import Derived.Laws.Strings2
import Derived.Test.YtgianjnccpbnaaaDoorLib
namespace Go.Proofs.YtgianjnccpbnaaaDoor
set_option linter.unusedSimpArgs false

def bt (s : ByteArray) (i : Nat) : Nat := (s.get! i).toNat
theorem bt_lt (s : ByteArray) (i : Nat) : bt s i < 256 := UInt8.toNat_lt _
theorem bt_at {s : ByteArray} {i : Nat} (h : i < s.size) : bt s i = (s[i]'h).toNat := by
  have := get_at s i h
  unfold bt
  rw [Nat.add_zero] at this
  rw [this]
def longN (c : Nat) : Nat := if c < 128 then 1 else if c < 194 ∨ 244 < c then 0 else if c < 224 then 2 else if c < 240 then 3 else 4
def secLo (a : Nat) : Nat := if a = 224 then 160 else if a = 240 then 144 else 128
def secHi (a : Nat) : Nat := if a = 237 then 159 else if a = 244 then 143 else 191
def secB (a b : Nat) : Bool := decide (secLo a ≤ b ∧ b ≤ secHi a)
theorem secB_no (a b : Nat) : (secB a b = false) = (b < secLo a ∨ secHi a < b) := by
  unfold secB
  simp
  omega
theorem longN_le (c : Nat) : longN c ≤ 4 := by
  unfold longN
  repeat' split
  all_goals omega
/-- may the byte k places on not stand there? -/
def badC (s : ByteArray) (pos k : Nat) : Bool := (decide (k = 1) && !secB (bt s pos) (bt s (pos + 1))) || decide (bt s (pos + k) < 128 ∨ 191 < bt s (pos + k))
def stF (s : ByteArray) (pos n : Nat) : Nat → Nat → Nat × Bool
  | 0, k => (k, k == n)
  | f + 1, k => if pos + k < s.size then (if badC s pos k = true then (k, false) else stF s pos n f (k + 1)) else (k, k == n)
/-- how many bytes the form at a place has, and whether it is whole -/
def st (s : ByteArray) (pos : Nat) : Nat × Bool := if longN (bt s pos) = 0 then (1, false) else stF s pos (longN (bt s pos)) (longN (bt s pos) - 1) 1

def stN (m b0 b1 b2 b3 : Nat) : Nat × Bool :=
  if longN b0 = 0 then (1, false) else if longN b0 = 1 then (1, true)
  else if m ≤ 1 then (1, false) else if b1 < secLo b0 ∨ secHi b0 < b1 ∨ b1 < 128 ∨ 191 < b1 then (1, false)
  else if longN b0 = 2 then (2, true)
  else if m ≤ 2 then (2, false) else if b2 < 128 ∨ 191 < b2 then (2, false)
  else if longN b0 = 3 then (3, true)
  else if m ≤ 3 then (3, false) else if b3 < 128 ∨ 191 < b3 then (3, false) else (4, true)

theorem badC1 (s : ByteArray) (pos : Nat) : badC s pos 1 = true ↔ (bt s (pos + 1) < secLo (bt s pos) ∨ secHi (bt s pos) < bt s (pos + 1) ∨ bt s (pos + 1) < 128 ∨ 191 < bt s (pos + 1)) := by
  rw [← or_assoc (a := bt s (pos + 1) < secLo (bt s pos)), ← secB_no]
  simp [badC]
theorem badC2 (s : ByteArray) (pos : Nat) : badC s pos 2 = true ↔ (bt s (pos + 2) < 128 ∨ 191 < bt s (pos + 2)) := by
  simp [badC]
theorem badC3 (s : ByteArray) (pos : Nat) : badC s pos 3 = true ↔ (bt s (pos + 3) < 128 ∨ 191 < bt s (pos + 3)) := by
  simp [badC]

theorem st_eq (s : ByteArray) (pos : Nat) : st s pos = stN (s.size - pos) (bt s pos) (bt s (pos + 1)) (bt s (pos + 2)) (bt s (pos + 3)) := by
  have h4 := longN_le (bt s pos)
  have c1 : (pos + 1 < s.size) = ¬ (s.size - pos ≤ 1) := propext ⟨fun h => by omega, fun h => by omega⟩
  have c2 : (pos + 2 < s.size) = ¬ (s.size - pos ≤ 2) := propext ⟨fun h => by omega, fun h => by omega⟩
  have c3 : (pos + 3 < s.size) = ¬ (s.size - pos ≤ 3) := propext ⟨fun h => by omega, fun h => by omega⟩
  unfold st stN
  have hc : longN (bt s pos) = 0 ∨ longN (bt s pos) = 1 ∨ longN (bt s pos) = 2 ∨ longN (bt s pos) = 3 ∨ longN (bt s pos) = 4 := by omega
  rcases hc with h | h | h | h | h
  all_goals rw [h]
  all_goals simp only [stF, c1, c2, c3, badC1, badC2, badC3, Nat.reduceSub, Nat.reduceAdd, Nat.reduceEqDiff, if_true, if_false, Nat.reduceBEq]
  all_goals (repeat' split)
  all_goals first | rfl | (exfalso; simp_all; done) | simp_all

def lead (n c : Nat) : Int := (c : Int) - (if n = 2 then 192 else if n = 3 then 224 else if n = 4 then 240 else 0)
/-- the rune of a form of n bytes, after i of them behind the first -/
def rv (s : ByteArray) (pos n : Nat) : Nat → Int
  | 0 => lead n (bt s pos)
  | i + 1 => rv s pos n i * 64 + (bt s (pos + (i + 1)) : Int) - 128

def StDec (m b0 b1 b2 b3 : Nat) (q : Nat × Bool) (d : Nat × Nat) : Prop :=
  (q.2 = false → d = (65533, 1)) ∧ (q.2 = true → d.2 = q.1 ∧ (d.1 = 65533 → q.1 = 3 ∧ b0 = 239 ∧ b1 = 191 ∧ b2 = 189) ∧ q.1 ≤ m ∧ (d.1 < 55296 ∨ (57344 ≤ d.1 ∧ d.1 ≤ 1114111)) ∧
    ((q.1 = 1 ∧ (d.1 : Int) = b0 ∧ b0 < 128) ∨ (q.1 = 2 ∧ (d.1 : Int) = ((b0 : Int) - 192) * 64 + b1 - 128) ∨
      (q.1 = 3 ∧ (d.1 : Int) = (((b0 : Int) - 224) * 64 + b1 - 128) * 64 + b2 - 128) ∨
      (q.1 = 4 ∧ (d.1 : Int) = ((((b0 : Int) - 240) * 64 + b1 - 128) * 64 + b2 - 128) * 64 + b3 - 128)))
set_option maxRecDepth 100000 in
set_option maxHeartbeats 4000000 in
theorem std2 (m b0 b1 b2 b3 : Nat) (hm : 1 ≤ m) (h1 : b1 < 256) (hb : 194 ≤ b0 ∧ b0 < 224) : StDec m b0 b1 b2 b3 (stN m b0 b1 b2 b3) (Lib.slowN m b0 b1 b2 b3 2 128 191) := by
  have hl : longN b0 = 2 := by unfold longN; (repeat' split) <;> omega
  have e1 : secLo b0 = 128 := by unfold secLo; (repeat' split) <;> omega
  have e2 : secHi b0 = 191 := by unfold secHi; (repeat' split) <;> omega
  unfold StDec stN Lib.slowN
  rw [hl, e1, e2]
  clear hl e1 e2
  simp only [Nat.reduceEqDiff, if_false, if_true, Nat.reduceLeDiff]
  repeat' split
  all_goals simp only [reduceCtorEq, false_implies, true_implies, forall_const, true_and, and_true, Prod.mk.injEq, Nat.reduceEqDiff, false_and, or_false, false_or]
  all_goals omega
set_option maxRecDepth 100000 in
set_option maxHeartbeats 4000000 in
theorem std3 (m b0 b1 b2 b3 lo hi : Nat) (hm : 1 ≤ m) (h1 : b1 < 256) (h2 : b2 < 256) (hb : 224 ≤ b0 ∧ b0 < 240) (e1 : secLo b0 = lo) (e2 : secHi b0 = hi) :
    StDec m b0 b1 b2 b3 (stN m b0 b1 b2 b3) (Lib.slowN m b0 b1 b2 b3 3 lo hi) := by
  have hl : longN b0 = 3 := by unfold longN; (repeat' split) <;> omega
  have l1 : 128 ≤ lo ∧ hi ≤ 191 := by
    constructor
    · rw [← e1]; unfold secLo; (repeat' split) <;> omega
    · rw [← e2]; unfold secHi; (repeat' split) <;> omega
  have l2 : b0 = 224 → lo = 160 := fun h => by rw [← e1]; unfold secLo; rw [if_pos h]
  have l3 : b0 = 237 → hi = 159 := fun h => by rw [← e2]; unfold secHi; rw [if_pos h]
  unfold StDec stN Lib.slowN
  rw [hl, e1, e2]
  clear e1 e2 hl
  simp only [Nat.reduceEqDiff, if_false, if_true, Nat.reduceLeDiff]
  repeat' split
  all_goals simp only [reduceCtorEq, false_implies, true_implies, forall_const, true_and, and_true, Prod.mk.injEq, Nat.reduceEqDiff, false_and, or_false, false_or]
  all_goals omega
set_option maxRecDepth 100000 in
set_option maxHeartbeats 4000000 in
theorem std4 (m b0 b1 b2 b3 lo hi : Nat) (hm : 1 ≤ m) (h1 : b1 < 256) (h2 : b2 < 256) (h3 : b3 < 256) (hb : 240 ≤ b0 ∧ b0 < 245) (e1 : secLo b0 = lo) (e2 : secHi b0 = hi) :
    StDec m b0 b1 b2 b3 (stN m b0 b1 b2 b3) (Lib.slowN m b0 b1 b2 b3 4 lo hi) := by
  have hl : longN b0 = 4 := by unfold longN; (repeat' split) <;> omega
  have l1 : 128 ≤ lo ∧ hi ≤ 191 := by
    constructor
    · rw [← e1]; unfold secLo; (repeat' split) <;> omega
    · rw [← e2]; unfold secHi; (repeat' split) <;> omega
  have l2 : b0 = 240 → lo = 144 := fun h => by rw [← e1]; unfold secLo; rw [if_neg (by omega), if_pos h]
  have l3 : b0 = 244 → hi = 143 := fun h => by rw [← e2]; unfold secHi; rw [if_neg (by omega), if_pos h]
  unfold StDec stN Lib.slowN
  rw [hl, e1, e2]
  clear e1 e2 hl
  simp only [Nat.reduceEqDiff, if_false, if_true, Nat.reduceLeDiff]
  repeat' split
  all_goals simp only [reduceCtorEq, false_implies, true_implies, forall_const, true_and, and_true, Prod.mk.injEq, Nat.reduceEqDiff, false_and, or_false, false_or]
  all_goals omega
set_option maxRecDepth 100000 in
set_option maxHeartbeats 4000000 in
theorem stN_dec (m b0 b1 b2 b3 : Nat) (hm : 1 ≤ m) (h0 : b0 < 256) (h1 : b1 < 256) (h2 : b2 < 256) (h3 : b3 < 256) : StDec m b0 b1 b2 b3 (stN m b0 b1 b2 b3) (Lib.decodeN m b0 b1 b2 b3) := by
  have hf : Lib.firstT b0 = 240 ∨ Lib.firstT b0 = 241 ∨ Lib.firstT b0 < 240 := by
    unfold Lib.firstT
    repeat' split
    all_goals omega
  rcases hf with hx | hx | hx
  · rw [Lib.ascii_eq m b0 b1 b2 b3 hx]
    have hb : b0 < 128 := by
      unfold Lib.firstT at hx
      repeat' split at hx
      all_goals omega
    have hl : longN b0 = 1 := by unfold longN; rw [if_pos hb]
    unfold StDec stN
    rw [hl]
    simp
    omega
  · rw [Lib.bad_eq m b0 b1 b2 b3 h0 hx]
    have hb : (128 ≤ b0 ∧ b0 < 194) ∨ 244 < b0 := by
      unfold Lib.firstT at hx
      repeat' split at hx
      all_goals omega
    have hl : longN b0 = 0 := by unfold longN; rw [if_neg (by omega), if_pos (by omega)]
    unfold StDec stN
    rw [hl]
    simp
  · rw [← Lib.slow_eq m b0 b1 b2 b3 hm h1 h2 h3 hx]
    rcases Lib.firstT_low hx with h | h | h | h | h | h | h
    · rw [Lib.firstT_C2 h]; exact std2 m b0 b1 b2 b3 hm h1 h
    · rw [Lib.firstT_E0 h]; exact std3 m b0 b1 b2 b3 _ _ hm h1 h2 (by omega) (by unfold secLo; rw [if_pos h]; rfl) (by unfold secHi; rw [if_neg (by omega), if_neg (by omega)]; rfl)
    · rw [Lib.firstT_E1 h]; exact std3 m b0 b1 b2 b3 _ _ hm h1 h2 (by omega) (by unfold secLo; rw [if_neg (by omega), if_neg (by omega)]; rfl) (by unfold secHi; rw [if_neg (by omega), if_neg (by omega)]; rfl)
    · rw [Lib.firstT_ED h]; exact std3 m b0 b1 b2 b3 _ _ hm h1 h2 (by omega) (by unfold secLo; rw [if_neg (by omega), if_neg (by omega)]; rfl) (by unfold secHi; rw [if_pos h]; rfl)
    · rw [Lib.firstT_F0 h]; exact std4 m b0 b1 b2 b3 _ _ hm h1 h2 h3 (by omega) (by unfold secLo; rw [if_neg (by omega), if_pos h]; rfl) (by unfold secHi; rw [if_neg (by omega), if_neg (by omega)]; rfl)
    · rw [Lib.firstT_F1 h]; exact std4 m b0 b1 b2 b3 _ _ hm h1 h2 h3 (by omega) (by unfold secLo; rw [if_neg (by omega), if_neg (by omega)]; rfl) (by unfold secHi; rw [if_neg (by omega), if_neg (by omega)]; rfl)
    · rw [Lib.firstT_F4 h]; exact std4 m b0 b1 b2 b3 _ _ hm h1 h2 h3 (by omega) (by unfold secLo; rw [if_neg (by omega), if_neg (by omega)]; rfl) (by unfold secHi; rw [if_neg (by omega), if_pos h]; rfl)
theorem st_dec (s : ByteArray) (pos : Nat) (h : pos < s.size) : StDec (s.size - pos) (bt s pos) (bt s (pos + 1)) (bt s (pos + 2)) (bt s (pos + 3)) (st s pos) (Utf8.decode s pos) := by
  rw [st_eq, Lib.decode_at]
  exact stN_dec _ _ _ _ _ (by omega) (bt_lt _ _) (bt_lt _ _) (bt_lt _ _) (bt_lt _ _)
/-- a form that is whole begins where the bytes of U+FFFD stand -/
theorem st_fffd (s : ByteArray) (pos : Nat) (h : pos + 3 ≤ s.size) (h0 : bt s pos = 239) (h1 : bt s (pos + 1) = 191) (h2 : bt s (pos + 2) = 189) : (st s pos).2 = true := by
  rw [st_eq, h0, h1, h2]
  have e1 : longN 239 = 3 := rfl
  have e2 : secLo 239 = 128 := rfl
  have e5 : secHi 239 = 191 := rfl
  unfold stN
  rw [e1, e2, e5]
  have e3 : ¬ s.size - pos ≤ 1 := by omega
  have e4 : ¬ s.size - pos ≤ 2 := by omega
  simp [e3, e4]
theorem rv_st (s : ByteArray) (pos : Nat) (h : pos < s.size) (ho : (st s pos).2 = true) : ((Utf8.decode s pos).1 : Int) = rv s pos (st s pos).1 ((st s pos).1 - 1) := by
  obtain ⟨_, hd⟩ := st_dec s pos h
  obtain ⟨_, _, _, _, hd⟩ := hd ho
  rcases hd with ⟨h1, h2, _⟩ | ⟨h1, h2⟩ | ⟨h1, h2⟩ | ⟨h1, h2⟩
  all_goals (rw [h1, h2]; simp [rv, lead])
theorem bt_mk (l : List UInt8) (i : Nat) : bt ⟨l.toArray⟩ i = (l.getD i 0).toNat := by
  unfold bt ByteArray.get!
  simp
  rfl
theorem pre3 (t : ByteArray) (h : 3 ≤ t.size) : ((t.extract 0 3).toList == [239, 191, 189]) = decide (3 ≤ t.size ∧ bt t 0 = 239 ∧ bt t 1 = 191 ∧ bt t 2 = 189) := by
  obtain ⟨d⟩ := t
  obtain ⟨l⟩ := d
  match l, h with
  | a :: b :: c :: r, h =>
    have e := ByteArray.extract_mk (a :: b :: c :: r) 0 3
    rw [show (ByteArray.mk ⟨a :: b :: c :: r⟩) = ByteArray.mk (a :: b :: c :: r).toArray from rfl, e, ByteArray.toList_mk, bt_mk, bt_mk, bt_mk]
    rw [Bool.eq_iff_iff]
    simp [← UInt8.toNat_inj]
    intro _ _ _
    exact h
/-- behind a cut of the string's head -/
theorem bt_tail (s : ByteArray) (i j : Nat) (h : i + j < s.size) : bt (s.extract i s.size) j = bt s (i + j) := by
  obtain ⟨d⟩ := s
  obtain ⟨l⟩ := d
  have e := ByteArray.extract_mk l i (ByteArray.mk l.toArray).size
  rw [show (ByteArray.mk ⟨l⟩) = ByteArray.mk l.toArray from rfl, e, bt_mk, bt_mk]
  have hl : (ByteArray.mk l.toArray).size = l.length := rfl
  have h2 : i + j < l.length := h
  rw [hl]
  congr 1
  simp only [List.getD_eq_getElem?_getD, List.getElem?_take, List.getElem?_drop]
  rw [if_pos (by omega)]
theorem size_tail (s : ByteArray) (i : Nat) : (s.extract i s.size).size = s.size - i := by simp
/-- a text's own test: does U+FFFD stand there, written out? -/
theorem fffd_test (s : ByteArray) (pos : Nat) (h : pos < s.size) :
    decide (3 ≤ (s.extract pos s.size).size ∧ bt (s.extract pos s.size) 0 = 239 ∧ bt (s.extract pos s.size) 1 = 191 ∧ bt (s.extract pos s.size) 2 = 189) = decide (pos + 3 ≤ s.size ∧ bt s pos = 239 ∧ bt s (pos + 1) = 191 ∧ bt s (pos + 2) = 189) := by
  rw [size_tail]
  by_cases h3 : pos + 3 ≤ s.size
  · rw [bt_tail s pos 0 (by omega), bt_tail s pos 1 (by omega), bt_tail s pos 2 (by omega)]
    have e : (3 ≤ s.size - pos) = (pos + 3 ≤ s.size) := propext ⟨fun h => by omega, fun h => by omega⟩
    simp only [e, Nat.add_zero]
  · have e : ¬ 3 ≤ s.size - pos := by omega
    simp [h3, e]
/-- where the model reads U+FFFD, the form is whole just where U+FFFD stands written out -/
theorem fffd_ok (s : ByteArray) (pos : Nat) (h : pos < s.size) (hr : (Utf8.decode s pos).1 = 65533) : decide (pos + 3 ≤ s.size ∧ bt s pos = 239 ∧ bt s (pos + 1) = 191 ∧ bt s (pos + 2) = 189) = (st s pos).2 := by
  obtain ⟨h1, h2⟩ := st_dec s pos h
  cases ho : (st s pos).2 with
  | true =>
    obtain ⟨_, g, h3, _⟩ := h2 ho
    obtain ⟨h4, h5, h6, h7⟩ := g hr
    simp [h5, h6, h7]
    omega
  | false =>
    rw [decide_eq_false_iff_not]
    rintro ⟨g1, g2, g3, g4⟩
    rw [st_fffd s pos g1 g2 g3 g4] at ho
    cases ho
theorem st_no {s : ByteArray} {pos : Nat} (h : pos < s.size) (ho : (st s pos).2 = false) : Utf8.decode s pos = (65533, 1) := (st_dec s pos h).1 ho
end Go.Proofs.YtgianjnccpbnaaaDoor
