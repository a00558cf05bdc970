/- Chapter 52: which edits fit; the text behind one; the paragraphs of a document, both ways. -/
import Derived.Test.YtmbgeeiidpllcaaDoorDlaw
import Derived.Test.YtmbgeeiidpllcaaDoorBpar
namespace Go.Proofs.YtmbgeeiidpllcaaDoor
open Go.ChangeShapes Go.WideShapes Go.ChangeAt Go.RowKit
set_option maxRecDepth 100000
set_option linter.unusedSimpArgs false

theorem TI32d : SliceOf Tryd.prog 22 21 1 4 := sliceOf_mk Tryd.underlying22 (z := .int .i32 0) (by kernel_rfl) rfl (by omega) (by omega)
def fitsB (n m : Nat) (p g : Int) : Bool := decide (0 ≤ p ∧ p ≤ (n : Int) ∧ 0 ≤ g ∧ g ≤ (n : Int) - p ∧ (n : Int) - g + (m : Int) ≤ 65536)
set_option maxHeartbeats 1000000 in
theorem long52_any (A : Option Addr) (n c : Nat) (p g : Int) (B : Option Addr) (m d : Nat) (st : Int) (w : World) :
    Calls Tryd.prog 5 #[.slice A n c, .agg #[.int .i64 p, .int .i64 g, .slice B m d, .int .i64 st]] w fun e w' => e = .returned (.bool (decide (40 < n) || decide (20 < m))) ∧ Below w.heap.size w w' := by
  by_cases h1 : 40 < n
  · rw [show (decide (40 < n) || decide (20 < m)) = true by simp [h1]]
    go_enter Tryd.func5, Tryd.ntmps5
    go_wp2_with fail
    go_ret
    exact ⟨retb (by simp <;> omega), below_alloc w _⟩
  · by_cases h2 : 20 < m
    · rw [show (decide (40 < n) || decide (20 < m)) = true by simp [h2]]
      go_enter Tryd.func5, Tryd.ntmps5
      go_wp2_with fail
      go_ret
      exact ⟨retb (by simp <;> omega), below_alloc w _⟩
    · rw [show (decide (40 < n) || decide (20 < m)) = false by simp [h1, h2]]
      go_enter Tryd.func5, Tryd.ntmps5
      go_wp2_with fail
      go_ret
      exact ⟨retb (by simp <;> omega), below_alloc w _⟩

set_option maxHeartbeats 2000000 in
theorem pfits_any (n : Nat) (hn : n ≤ 140737488355328) (p g : Int) (B : Option Addr) (m d : Nat) (st : Int) (hm : m ≤ 140737488355328) (w : World) :
    Calls Tryd.prog 14 #[.int .i64 (n : Int), .agg #[.int .i64 p, .int .i64 g, .slice B m d, .int .i64 st]] w fun e w' => e = .returned (.bool (fitsB n m p g)) ∧ Below w.heap.size w w' := by
  by_cases h1 : 0 ≤ p
  · by_cases h2 : p ≤ (n : Int)
    · by_cases h3 : 0 ≤ g
      · by_cases h4 : g ≤ (n : Int) - p
        · by_cases h5 : (n : Int) - g + (m : Int) ≤ 65536
          · rw [show fitsB n m p g = true by simp [fitsB]; omega]
            go_enter Tryd.func14, Tryd.ntmps14
            go_wp2_with fail
            go_ret
            exact ⟨rfl, below_alloc w _⟩
          · rw [show fitsB n m p g = false by simp [fitsB]; omega]
            go_enter Tryd.func14, Tryd.ntmps14
            go_wp2_with fail
            go_ret
            exact ⟨rfl, below_alloc w _⟩
        · rw [show fitsB n m p g = false by simp [fitsB]; omega]
          go_enter Tryd.func14, Tryd.ntmps14
          go_wp2_with fail
          go_ret
          exact ⟨rfl, below_alloc w _⟩
      · rw [show fitsB n m p g = false by simp [fitsB]; omega]
        go_enter Tryd.func14, Tryd.ntmps14
        go_wp2_with fail
        go_ret
        exact ⟨rfl, below_alloc w _⟩
    · rw [show fitsB n m p g = false by simp [fitsB]; omega]
      go_enter Tryd.func14, Tryd.ntmps14
      go_wp2_with fail
      go_ret
      exact ⟨rfl, below_alloc w _⟩
  · rw [show fitsB n m p g = false by simp [fitsB]; omega]
    go_enter Tryd.func14, Tryd.ntmps14
    go_wp2_with fail
    go_ret
    exact ⟨rfl, below_alloc w _⟩

set_option maxHeartbeats 2000000 in
theorem rfits_any (A : Option Addr) (n c : Nat) (hn : n ≤ 140737488355328) (p g : Int) (B : Option Addr) (m d : Nat) (st : Int) (hm : m ≤ 140737488355328) (w : World) :
    Calls Tryd.prog 8 #[.slice A n c, .agg #[.int .i64 p, .int .i64 g, .slice B m d, .int .i64 st]] w fun e w' => e = .returned (.bool (fitsB n m p g)) ∧ Below w.heap.size w w' := by
  by_cases h1 : 0 ≤ p
  · by_cases h2 : p ≤ (n : Int)
    · by_cases h3 : 0 ≤ g
      · by_cases h4 : g ≤ (n : Int) - p
        · by_cases h5 : (n : Int) - g + (m : Int) ≤ 65536
          · rw [show fitsB n m p g = true by simp [fitsB]; omega]
            go_enter Tryd.func8, Tryd.ntmps8
            go_wp2_with fail
            go_ret
            exact ⟨rfl, below_alloc w _⟩
          · rw [show fitsB n m p g = false by simp [fitsB]; omega]
            go_enter Tryd.func8, Tryd.ntmps8
            go_wp2_with fail
            go_ret
            exact ⟨rfl, below_alloc w _⟩
        · rw [show fitsB n m p g = false by simp [fitsB]; omega]
          go_enter Tryd.func8, Tryd.ntmps8
          go_wp2_with fail
          go_ret
          exact ⟨rfl, below_alloc w _⟩
      · rw [show fitsB n m p g = false by simp [fitsB]; omega]
        go_enter Tryd.func8, Tryd.ntmps8
        go_wp2_with fail
        go_ret
        exact ⟨rfl, below_alloc w _⟩
    · rw [show fitsB n m p g = false by simp [fitsB]; omega]
      go_enter Tryd.func8, Tryd.ntmps8
      go_wp2_with fail
      go_ret
      exact ⟨rfl, below_alloc w _⟩
  · rw [show fitsB n m p g = false by simp [fitsB]; omega]
    go_enter Tryd.func8, Tryd.ntmps8
    go_wp2_with fail
    go_ret
    exact ⟨rfl, below_alloc w _⟩

/-- the boxed argument is kept -/
theorem box_keep {w w1 : World} {cs : Array Value} {t : TypeId} (h : Below (w.heap.size + 1) (w.alloc (.cells cs t)) w1) (o : Nat) : w1.cell? ⟨w.heap.size, o, none⟩ = cs[o]? :=
  (h.cell (p := ⟨w.heap.size, o, none⟩) (Nat.lt_succ_self _)).trans (by rw [cell_of_row _ _ _ _ _ _ (heap_alloc_new w _)])
set_option maxHeartbeats 2000000 in
theorem rbehind_any (A : Option Addr) (n c : Nat) (xs : List Int) (p g : Nat) (hpg : p + g ≤ n) (B : Option Addr) (m d : Nat) (st : Int) (ys : List Int) (w : World) (hx : SliceIn .i32 w A n c xs) (hy : SliceIn .i32 w B m d ys) (hn : (n + m) * 4 ≤ 140737488355328) :
    Calls Tryd.prog 12 #[.slice A n c, .agg #[.int .i64 (p : Int), .int .i64 (g : Int), .slice B m d, .int .i64 st]] w fun e w' => ∃ (A2 : Option Addr) (c2 : Nat), e = .returned (.slice A2 (n - g + m) c2) ∧ SliceIn .i32 w' A2 (n - g + m) c2 (behind xs ys p g) ∧ Below w.heap.size w w' := by
  have HX := Lib.hid hx
  have HY := Lib.hid hy
  have HLEN := Lib.hid hx.at_.len
  have hle := hx.le
  obtain ⟨Ah, ch, CH⟩ := cut_h TI32d A n c p (by omega) hle p rfl
  obtain ⟨Al, cl, CL⟩ := cut_l TI32d A n c (p + g) hpg hle ((p : Int) + (g : Int)) (by omega)
  have rh := CH.run
  have rl := CL.run
  have SH := Lib.hid (CH.sliceIn hx)
  have SL := Lib.hid (CL.sliceIn hx)
  clear hx hy CH CL
  go_enter Tryd.func12, Tryd.ntmps12
  go_wp2_with (first
    | (at_builtin; refine wpList_appendN TI32d rfl (.tmp 6) (.tmp 10) rfl rfl (Own.nil _ (w.heap.size + 1) _ .i32) rfl (SH.out.at_.later (below_alloc w _)) p (by omega) (by omega) (by simp) ?_; intro A1 c1 w1 o1 b1; have q0 := box_keep b1 0; have q1 := box_keep b1 1; have q2 := box_keep b1 2; have z1 : w.heap.size + 1 ≤ w1.heap.size := (by have := b1.size; simpa using this); have x1 := (below_alloc w _).trans (b1.mono (Nat.le_succ _)); have O1 := Lib.hid o1; have X1 := Lib.hid x1; clear o1 b1 x1)
    | (at_builtin; refine wpList_appendN TI32d rfl (.tmp 12) (.tmp 14) rfl rfl O1.out rfl (HY.out.pass X1.out).at_ (p + m) rfl (by omega) z1 ?_; intro A2 c2 w2 o2 b2; have r0 := (b2.cell (p := ⟨w.heap.size, 0, none⟩) (Nat.lt_succ_self _)).trans q0; have r1 := (b2.cell (p := ⟨w.heap.size, 1, none⟩) (Nat.lt_succ_self _)).trans q1; have x2 := X1.out.trans (b2.mono (Nat.le_succ _)); have z2 := Nat.le_trans z1 b2.size; have O2 := Lib.hid o2; have X2 := Lib.hid x2; clear o2 b2 x2)
    | (at_builtin; refine wpList_appendN TI32d rfl (.tmp 16) (.tmp 23) rfl rfl O2.out rfl (SL.out.pass X2.out).at_ (n - g + m) (by omega) (by omega) z2 ?_; intro A3 c3 w3 o3 b3; have x3 := X2.out.trans (b3.mono (Nat.le_succ _)); have O3 := Lib.hid o3; have X3 := Lib.hid x3; clear o3 b3 x3))
  go_ret
  have ho := O3.out
  have et : xs.take n = xs := List.take_of_length_le (by rw [HLEN.out]; exact Nat.le_refl _)
  rw [List.nil_append, List.drop_zero, et] at ho
  refine ⟨A3, c3, rfl, ho.sliceIn ?_, X3.out⟩
  intro x hx
  rcases List.mem_append.1 hx with h | h
  · rcases List.mem_append.1 h with h | h
    · exact HX.out.wf x (List.mem_of_mem_take h)
    · exact HY.out.wf x h
  · exact HX.out.wf x (List.mem_of_mem_drop h)
end Go.Proofs.YtmbgeeiidpllcaaDoor
