/- Chapter 36: the reference's Window; Tag, both ways; the example. -/
import Derived.Test.YtajippjknikciaaDoorJwin
import Derived.Test.YtajippjknikciaaDoorInts
namespace Go.Proofs.YtajippjknikciaaDoor
open Go.ChangeShapes Go.WideShapes Go.ChangeAt Go.RowKit
set_option maxRecDepth 100000

theorem winF_oI (xs : List Int) (s : Nat) : (winF xs s : Int) = if 0 < oI (prv xs s) then oI (prv xs s) else 0 := by
  unfold winF
  cases h : prv xs s with
  | none => rfl
  | some j => simp [oI] <;> omega
theorem winT_oI {xs : List Int} {n : Nat} (hl : xs.length = n) (s : Nat) : (winT xs s : Int) = if oI (nxt xs s) < 0 then (n : Int) else oI (nxt xs s) + 1 := by
  unfold winT
  cases h : nxt xs s with
  | none => simp [oI, hl]
  | some j => simp [oI]; omega
theorem oI_le {xs : List Int} {n : Nat} (hl : xs.length = n) (s : Nat) : -1 ≤ oI (nxt xs s) ∧ oI (nxt xs s) < n ∨ (n = 0 ∧ oI (nxt xs s) = -1) := by
  rcases nxt_spec (xs := xs) (k := s) with ⟨j, h1, h2, h3, _⟩ | ⟨h1, _⟩
  · rw [h1]; simp only [oI]; omega
  · rw [h1]; simp only [oI]; omega

set_option maxHeartbeats 4000000 in
theorem rWindow_any (A : Option Addr) (n c : Nat) (xs : List Int) (i : Int) (w : World) (hx : SliceIn .i32 w A n c xs) (hn : n ≤ 140737488355328) :
    Calls Tryd.prog 30 #[.slice A n c, .int .i64 i] w fun e w' => e = .returned (.tuple #[.int .i64 (winF xs (clampN i n)), .int .i64 (winT xs (clampN i n))]) ∧ Below w.heap.size w w' := by
  have hlen := hx.at_.len
  obtain ⟨s, hs, hsn, h4⟩ := clamp4 i n
  rw [hs, winF_oI, winT_oI hlen]
  have ho := oI_le hlen s
  clear hs
  have BB := Lib.hid (fun w' (hb : Below w.heap.size w w') => besideB_any A n c xs s hsn w' (hx.pass hb) hn)
  have BF := Lib.hid (fun (m : Int) (hm : m + 1 = s) w' (hb : Below w.heap.size w w') => besideF_any A n c xs m s hm hsn w' (hx.pass hb) hn)
  generalize oI (prv xs s) = a at *
  generalize oI (nxt xs s) = b at *
  clear hx hlen
  have HS := Lib.hid hsn
  clear hsn
  have HO := Lib.hid ho
  clear ho
  rcases h4 with ⟨h1, h2, h3⟩ | ⟨h1, h2, h3⟩ | ⟨h1, h2, h3⟩ | ⟨h1, h3⟩
  · subst h3
    have d1 : (s : Int) < i := h1
    have d2 : (0 : Int) < (s : Int) := by omega
    clear h1 h2
    go_enter Tryd.func30, Tryd.ntmps30
    go_wp2_with fail
    refine (BB.out _ (Below.refl _ _)).mono ?_
    rintro e w1 ⟨rfl, x1⟩
    go_wp2_with fail
    refine (BF.out _ (by omega) _ x1).mono ?_
    rintro e w2 ⟨rfl, hb2⟩
    have x2 := x1.trans (hb2.mono x1.size)
    have ho := HO.out
    by_cases hb : b < 0
    · go_wp2_with fail
      all_goals go_ret2
      all_goals exact ⟨by simp <;> omega, x2⟩
    · go_wp2_with fail
      all_goals go_ret2
      all_goals exact ⟨by simp <;> omega, x2⟩
  · subst h3
    subst h2
    have d1 : (0 : Int) < i := by omega
    clear h1
    go_enter Tryd.func30, Tryd.ntmps30
    go_wp2_with fail
    refine (BB.out _ (Below.refl _ _)).mono ?_
    rintro e w1 ⟨rfl, x1⟩
    go_wp2_with fail
    refine (BF.out _ (by omega) _ x1).mono ?_
    rintro e w2 ⟨rfl, hb2⟩
    have x2 := x1.trans (hb2.mono x1.size)
    have ho := HO.out
    by_cases hb : b < 0
    · go_wp2_with fail
      all_goals go_ret2
      all_goals exact ⟨by simp <;> omega, x2⟩
    · go_wp2_with fail
      all_goals go_ret2
      all_goals exact ⟨by simp <;> omega, x2⟩
  · subst h3
    have d1 : ¬ (n : Int) < (s : Int) := by omega
    have d2 : (0 : Int) < (s : Int) := by omega
    clear h1 h2
    go_enter Tryd.func30, Tryd.ntmps30
    go_wp2_with fail
    refine (BB.out _ (Below.refl _ _)).mono ?_
    rintro e w1 ⟨rfl, x1⟩
    go_wp2_with fail
    refine (BF.out _ (by omega) _ x1).mono ?_
    rintro e w2 ⟨rfl, hb2⟩
    have x2 := x1.trans (hb2.mono x1.size)
    have ho := HO.out
    by_cases hb : b < 0
    · go_wp2_with fail
      all_goals go_ret2
      all_goals exact ⟨by simp <;> omega, x2⟩
    · go_wp2_with fail
      all_goals go_ret2
      all_goals exact ⟨by simp <;> omega, x2⟩
  · subst h3
    have d1 : ¬ (n : Int) < i := by omega
    have d2 : ¬ (0 : Int) < i := by omega
    clear h1
    go_enter Tryd.func30, Tryd.ntmps30
    go_wp2_with fail
    refine (BB.out _ (Below.refl _ _)).mono ?_
    rintro e w1 ⟨rfl, x1⟩
    go_wp2_with fail
    refine (BF.out _ (by omega) _ x1).mono ?_
    rintro e w2 ⟨rfl, hb2⟩
    have x2 := x1.trans (hb2.mono x1.size)
    have ho := HO.out
    by_cases hb : b < 0
    · go_wp2_with fail
      all_goals go_ret2
      all_goals exact ⟨by simp <;> omega, x2⟩
    · go_wp2_with fail
      all_goals go_ret2
      all_goals exact ⟨by simp <;> omega, x2⟩

def tagOf (i : Int) : Array UInt8 := if i = 1 then #[105, 115, 111, 108] else if i = 2 then #[105, 110, 105, 116] else if i = 3 then #[109, 101, 100, 105] else if i = 4 then #[102, 105, 110, 97] else #[]
theorem rets {a b : Array UInt8} (h : a = b) : Ending.returned (.string ⟨a⟩) = Ending.returned (.string ⟨b⟩) := by rw [h]
theorem pTag_any (i : Int) (w : World) : Calls Tryd.prog 31 #[.int .i64 i] w fun e w' => e = .returned (.string ⟨tagOf i⟩) ∧ Below w.heap.size w w' := by
  go_enter Tryd.func31, Tryd.ntmps31
  go_wp2
  all_goals go_ret
  all_goals refine ⟨rets ?_, Below.refl _ _⟩
  all_goals simp only [beq_iff_eq, beq_eq_false_iff_ne] at *
  all_goals simp_all [tagOf]
theorem rTag_any (i : Int) (w : World) : Calls Tryd.prog 32 #[.int .i64 i] w fun e w' => e = .returned (.string ⟨tagOf i⟩) ∧ Below w.heap.size w w' := by
  go_enter Tryd.func32, Tryd.ntmps32
  go_wp2
  all_goals go_ret
  all_goals refine ⟨rets ?_, Below.refl _ _⟩
  all_goals simp only [beq_iff_eq, beq_eq_false_iff_ne] at *
  all_goals simp_all [tagOf]
end Go.Proofs.YtajippjknikciaaDoor
