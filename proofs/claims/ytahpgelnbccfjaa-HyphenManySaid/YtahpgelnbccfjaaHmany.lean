/- Chapter 20: the walk of HyphenMany: more than 512 patterns are too many, whatever they are. -/
import Derived.Test.YtahpgelnbccfjaaRows
import Derived.Test.YtahpgelnbccfjaaLib
namespace Go.Proofs.Ytahpgelnbccfjaa
open Go.ChangeShapes Go.WideShapes Go.ChangeAt Go.RowKit
set_option maxRecDepth 100000
set_option linter.unusedSimpArgs false

theorem TS : SliceOf Try.prog 22 9 1 16 := sliceOf_mk Try.underlying22 (z := .string ⟨#[]⟩) (by kernel_rfl) rfl (by omega) (by omega)
theorem many_any (A : Option Addr) (n c : Nat) (h : 512 < n) (hn : n ≤ 140737488355328) (w : World) :
    Calls Try.prog 4 #[.slice A n c] w fun e w' => e = .returned (.tuple #[.pointer none, .int .i64 0, .int .i64 5]) ∧ Below w.heap.size w w' := by
  go_enter Try.func4, Try.ntmps4
  go_wp2_with fail
  go_ret3
  exact ⟨rfl, Below.refl _ _⟩
theorem num20_any (e : Int) (w : World) : Calls Try.prog 5 #[.int .i64 e] w fun r w' => r = .returned (.int .i64 e) ∧ Below w.heap.size w w' := by
  go_enter Try.func5, Try.ntmps5
  go_wp2_with fail
  go_ret
  exact ⟨rfl, Below.refl _ _⟩
theorem cells_one (w : World) (v : Value) (t : TypeId) : ∀ j u, [v][j]? = some u → (w.alloc (.cells #[v] t)).cell? ⟨w.heap.size, j, none⟩ = some u := by
  intro j u h
  rw [cell_of_row _ _ _ _ _ _ (heap_alloc_new w _)]
  simpa using h

set_option maxHeartbeats 1000000 in
theorem HyphenMany_walk (s : ByteArray) (hs : s.size ≤ maxLen) (m : Int) (hm : (Lit.int .u8 m).wf = true) (w : World) :
    Calls Try.prog 3 #[.string s, .int .u8 m] w fun e w' => e = .returned (.bool true) ∧ Below w.heap.size w w' := by
  obtain ⟨m1, m2⟩ := bounds_u8 hm
  unfold maxLen at hs
  obtain ⟨q, hq⟩ : ∃ q : Nat, m % 4 = q := ⟨(m % 4).toNat, by omega⟩
  have hq4 : q < 4 := by omega
  obtain ⟨t, ht⟩ : ∃ t, 513 + q = t := ⟨_, rfl⟩
  have ht1 : 512 < t := by omega
  have ht2 : t ≤ 516 := by omega
  have hti : (513 : Int) + (q : Int) = (t : Int) := by omega
  clear hm ht
  by_cases hlen : 20 < s.size
  · go_enter Try.func3, Try.ntmps3
    go_wp2_with fail
    go_ret
    exact ⟨rfl, Below.refl _ _⟩
  · have hl2 : ¬ (20 : Int) < (s.size : Int) := by omega
    go_enter Try.func3, Try.ntmps3
    go_wp2_with fail
    go_loopw [5, 6] (fun l i wr => ∃ (k : Nat) (A' : Option Addr) (c' : Nat), k ≤ t ∧ i = .int .i64 k ∧ l = .slice A' k c' ∧ OwnV wr w.heap.size 9 1 A' k c' (List.replicate k (.string s)) ∧ Below w.heap.size w wr) (fun _ i _ => t - (intOf i).toNat)
    case atStart => exact ⟨0, none, 0, Nat.zero_le _, rfl, rfl, OwnV.nil _ _ _ _, Below.refl _ _⟩
    case round =>
      obtain ⟨k, A', c', hk, rfl, rfl, ho, hb⟩ := hrel
      have HO := Lib.hid ho
      have HB := Lib.hid hb
      clear ho hb
      by_cases hlt : k < t
      · have l1 : (k : Int) < (t : Int) := by omega
        go_wp2_with (at_builtin; refine wpList_pushV TS rfl (.tmp 21) (.tmp 23) rfl rfl (HO.out.alloc _) rfl (news := [.string s]) rfl (cells_one _ _ _) (by intro u hu; simp at hu; subst hu; rfl) (by omega) (by have := HB.out.size; simp; omega) ?_; intro A4 c4 w4 o4 b4)
        have hbw : Below w.heap.size w w4 := (HB.out.alloc (by have := HB.out.size; omega) _).trans b4
        go_roundw
        case rel => exact ⟨k + 1, A4, c4, by omega, by go_num, rfl, by rw [List.replicate_succ']; exact o4, hbw⟩
        case measure => simp [intOf] <;> omega
      · obtain rfl : t = k := by omega
        have l1 : ¬ (t : Int) < (t : Int) := by omega
        go_wp2_with fail
        refine (many_any A' t c' ht1 (by omega) _).mono ?_
        rintro e w1 ⟨rfl, x1⟩
        have y1 := HB.out.trans (x1.mono HB.out.size)
        go_wp2_with fail
        refine (num20_any _ _).mono ?_
        rintro e w2 ⟨rfl, x2⟩
        have y2 := y1.trans (x2.mono y1.size)
        go_wp2_with fail
        refine (num20_any _ _).mono ?_
        rintro e w3 ⟨rfl, x3⟩
        have y3 := y2.trans (x3.mono y2.size)
        go_wp2_with fail
        go_ret
        exact ⟨rfl, y3⟩
end Go.Proofs.Ytahpgelnbccfjaa
