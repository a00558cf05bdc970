/- Chapter 4: a row of the table; the walk of PropsRows. -/
import Derived.Test.YtajippjknikciaaDoorProps4
namespace Go.Proofs.YtajippjknikciaaDoor
open Go.ChangeShapes Go.WideShapes Go.ChangeAt Go.RowKit
set_option maxRecDepth 100000

theorem chunk_extract (k j : Nat) (hk : k < 13) (hj : j < 20) : (chunkCells k).extract (j * 11) (j * 11 + 11) = (rowCells (tabN (20 * k + j))).toArray := by
  apply Array.ext_getElem?
  intro i
  rw [Array.getElem?_extract]
  have hs := chunkCells_size k hk
  by_cases hi : i < 11
  · rw [if_pos (by omega), Nat.mul_comm, chunk_get k j i hk hj hi]
    simp
  · rw [if_neg (by omega)]
    have : (rowCells (tabN (20 * k + j))).length ≤ i := by simp [rowCells]; omega
    simp [List.getElem?_eq_none this]
theorem rowSize : (Tryd.prog.info? 50).map (·.size) = some 11 := by kernel_rfl
theorem chunk_index (k j : Nat) (hk : k < 13) (hj : j < 20) (w : World) :
    (Instr.index 57 (.agg (chunkCells k)) (.int .i64 (j : Int))).run Tryd.prog w = .ok (.agg (rowCells (tabN (20 * k + j))).toArray) w := by
  have hu := Tryd.underlying57
  have hr := Tryd.underlying50
  have hx := chunk_extract k j hk hj
  obtain ⟨i0, hi0⟩ : ∃ i, Tryd.prog.info? 50 = some i := by
    have := rowSize
    cases h : Tryd.prog.info? 50 with
    | none => rw [h] at this; cases this
    | some i => exact ⟨i, rfl⟩
  have hsz : i0.size = 11 := by have := rowSize; rw [hi0] at this; simpa using this
  have h1 : (0 : Int) ≤ (j : Int) ∧ (j : Int) < ((20 : Nat) : Int) := by omega
  simp [Instr.index, asIntOf, run_underlying hu, run_underlying hr, part, isAgg, sizeOf, typeInfo, hi0, hsz, h1.2, hx, hj]

set_option maxHeartbeats 1000000 in
theorem pRow_in (i : Nat) (hi : i < 260) (f t : Int) (p : Pr) (hx : tabN i = (f, t, p)) (w : World) :
    Calls Tryd.prog 21 #[.int .i64 i] w fun e w' => e = .returned (.tuple #[.agg #[.int .i32 f, .int .i32 t], .agg #[.int .i64 p.bidi, .int .i64 p.cluster, .int .i64 p.brk, .int .i64 p.script, .int .i64 p.join, .int .i64 p.word, .int .i32 p.mirror, .int .i32 p.pair, .bool p.opens]]) ∧ Below w.heap.size w w' := by
  have hk : i / 20 < 13 := by omega
  have he : 20 * (i / 20) + i % 20 = i := by omega
  have CI : ∀ w, (Instr.index 57 (.agg (chunkCells (i / 20))) (.int .i64 ((i : Int) % 20))).run Tryd.prog w = .ok (.agg (rowCells (tabN (20 * (i / 20) + i % 20))).toArray) w := fun w => by
    rw [show (i : Int) % 20 = ((i % 20 : Nat) : Int) by omega]
    exact chunk_index (i / 20) (i % 20) hk (by omega) w
  rw [he, hx] at CI
  simp only [rowCells] at CI
  have CH := Lib.hid (chunkAt_any (i / 20) hk)
  clear he hx
  go_enter Tryd.func21, Tryd.ntmps21
  go_wp2_with (go_at_call 41; refine (CH.out _).mono ?_; rintro e w1 ⟨rfl, hb1⟩)
  have hz1 : w.heap.size + 1 < w1.heap.size := by have := hb1.size; simp only [World.size_alloc] at this; omega
  have hA : w1.heap[w.heap.size]? = some (.cells #[.int .i32 0, .int .i32 0] 35 (0, 0)) := by
    rw [hb1.block _ (by simp only [World.size_alloc]; omega), Below.heap_alloc _ _ _ (by simp)]; exact heap_alloc_new w _
  have hB : w1.heap[w.heap.size + 1]? = some (.cells #[.int .i64 0, .int .i64 0, .int .i64 0, .int .i64 0, .int .i64 0, .int .i64 0, .int .i32 0, .int .i32 0, .bool false] 23 (0, 0)) := by
    rw [hb1.block _ (by simp only [World.size_alloc]; omega)]
    have := heap_alloc_new (w.alloc (.cells #[.int .i32 0, .int .i32 0] 35)) (.cells #[.int .i64 0, .int .i64 0, .int .i64 0, .int .i64 0, .int .i64 0, .int .i64 0, .int .i32 0, .int .i32 0, .bool false] 23)
    simpa using this
  have a0 : w1.cell? ⟨w.heap.size, 0, none⟩ = some (.int .i32 0) := cell_of_row _ _ _ _ _ _ hA
  have b0 : w1.frozen? ⟨w.heap.size, 0, none⟩ = false := frozen_of_row _ _ _ _ _ hA
  have a1 : w1.cell? ⟨w.heap.size, 1, none⟩ = some (.int .i32 0) := cell_of_row _ _ _ _ _ _ hA
  have b1 : w1.frozen? ⟨w.heap.size, 1, none⟩ = false := frozen_of_row _ _ _ _ _ hA
  have c0 : w1.cell? ⟨w.heap.size + 1, 0, none⟩ = some (.int .i64 0) := cell_of_row _ _ _ _ _ _ hB
  have d0 : w1.frozen? ⟨w.heap.size + 1, 0, none⟩ = false := frozen_of_row _ _ _ _ _ hB
  have c1 : w1.cell? ⟨w.heap.size + 1, 1, none⟩ = some (.int .i64 0) := cell_of_row _ _ _ _ _ _ hB
  have d1 : w1.frozen? ⟨w.heap.size + 1, 1, none⟩ = false := frozen_of_row _ _ _ _ _ hB
  have c2 : w1.cell? ⟨w.heap.size + 1, 2, none⟩ = some (.int .i64 0) := cell_of_row _ _ _ _ _ _ hB
  have d2 : w1.frozen? ⟨w.heap.size + 1, 2, none⟩ = false := frozen_of_row _ _ _ _ _ hB
  have c3 : w1.cell? ⟨w.heap.size + 1, 3, none⟩ = some (.int .i64 0) := cell_of_row _ _ _ _ _ _ hB
  have d3 : w1.frozen? ⟨w.heap.size + 1, 3, none⟩ = false := frozen_of_row _ _ _ _ _ hB
  have c4 : w1.cell? ⟨w.heap.size + 1, 4, none⟩ = some (.int .i64 0) := cell_of_row _ _ _ _ _ _ hB
  have d4 : w1.frozen? ⟨w.heap.size + 1, 4, none⟩ = false := frozen_of_row _ _ _ _ _ hB
  have c5 : w1.cell? ⟨w.heap.size + 1, 5, none⟩ = some (.int .i64 0) := cell_of_row _ _ _ _ _ _ hB
  have d5 : w1.frozen? ⟨w.heap.size + 1, 5, none⟩ = false := frozen_of_row _ _ _ _ _ hB
  have c6 : w1.cell? ⟨w.heap.size + 1, 6, none⟩ = some (.int .i32 0) := cell_of_row _ _ _ _ _ _ hB
  have d6 : w1.frozen? ⟨w.heap.size + 1, 6, none⟩ = false := frozen_of_row _ _ _ _ _ hB
  have c7 : w1.cell? ⟨w.heap.size + 1, 7, none⟩ = some (.int .i32 0) := cell_of_row _ _ _ _ _ _ hB
  have d7 : w1.frozen? ⟨w.heap.size + 1, 7, none⟩ = false := frozen_of_row _ _ _ _ _ hB
  have c8 : w1.cell? ⟨w.heap.size + 1, 8, none⟩ = some (.bool false) := cell_of_row _ _ _ _ _ _ hB
  have d8 : w1.frozen? ⟨w.heap.size + 1, 8, none⟩ = false := frozen_of_row _ _ _ _ _ hB
  have hne1 : ¬ (w1.heap.size = w.heap.size) := by omega
  have hne2 : ¬ (w1.heap.size = w.heap.size + 1) := by omega
  have hlt1 : w.heap.size < w1.heap.size := by omega
  have HA := Lib.hid hA
  have HB := Lib.hid hB
  have HB1 := Lib.hid hb1
  clear hA hB hb1 CI CH
  go_region
  go_wp2
  refine bodyPost_ret (v := .tuple #[.agg #[.int .i32 f, .int .i32 t], .agg #[.int .i64 p.bidi, .int .i64 p.cluster, .int .i64 p.brk, .int .i64 p.script, .int .i64 p.join, .int .i64 p.word, .int .i32 p.mirror, .int .i32 p.pair, .bool p.opens]]) (by simp [results, Tryd.results21, go_sem, a0, a1, c0, c1, c2, c3, c4, c5, c6, c7, c8, hz1, hlt1, hne1, hne2]) rfl ⟨rfl, ?_⟩
  (repeat (first | (with_reducible refine Below.setCell ?_ ?_ _) | (with_reducible refine Below.alloc ?_ ?_ _) | (with_reducible refine Below.drew ?_) | (with_reducible exact Below.refl _ _) | (with_reducible refine Below.trans ?_ (Below.mono HB1.out ?_)) | (with_reducible exact Nat.le_refl _) | omega | (simp; omega) | simp))

set_option maxHeartbeats 1000000 in
theorem pRow_out (i : Int) (hi : i < 0 ∨ 260 ≤ i) (w : World) :
    Calls Tryd.prog 21 #[.int .i64 i] w fun e w' => e = .returned (.tuple #[.agg #[.int .i32 0, .int .i32 0], .agg #[.int .i64 1, .int .i64 0, .int .i64 0, .int .i64 0, .int .i64 0, .int .i64 0, .int .i32 0, .int .i32 0, .bool false]]) ∧ Below w.heap.size w w' := by
  rcases hi with hi | hi
  all_goals
    go_enter Tryd.func21, Tryd.ntmps21
    go_wp2_with (go_at_call 37; refine (prest_any _).mono ?_; rintro e w1 ⟨rfl, hb1⟩; obtain ⟨hc1, hf1⟩ := bcell hb1; have hz1 : w.heap.size + 1 < w1.heap.size := (by have := hb1.size; simp only [World.size_alloc] at this; omega); have hz0 : w.heap.size < w1.heap.size := (by omega); simp only [World.size_alloc] at hc1 hf1)
    have hA : w1.heap[w.heap.size]? = some (.cells #[.int .i32 0, .int .i32 0] 35 (0, 0)) := by
      rw [hb1.block _ (by simp only [World.size_alloc]; omega), Below.heap_alloc _ _ _ (by simp)]; exact heap_alloc_new w _
    have hB : w1.heap[w.heap.size + 1]? = some (.cells #[.int .i64 0, .int .i64 0, .int .i64 0, .int .i64 0, .int .i64 0, .int .i64 0, .int .i32 0, .int .i32 0, .bool false] 23 (0, 0)) := by
      rw [hb1.block _ (by simp only [World.size_alloc]; omega)]
      have := heap_alloc_new (w.alloc (.cells #[.int .i32 0, .int .i32 0] 35)) (.cells #[.int .i64 0, .int .i64 0, .int .i64 0, .int .i64 0, .int .i64 0, .int .i64 0, .int .i32 0, .int .i32 0, .bool false] 23)
      simpa using this
    have a0 : w1.cell? ⟨w.heap.size, 0, none⟩ = some (.int .i32 0) := cell_of_row _ _ _ _ _ _ hA
    have a1 : w1.cell? ⟨w.heap.size, 1, none⟩ = some (.int .i32 0) := cell_of_row _ _ _ _ _ _ hA
    have c0 : w1.cell? ⟨w.heap.size + 1, 0, none⟩ = some (.int .i64 0) := cell_of_row _ _ _ _ _ _ hB
    have c1 : w1.cell? ⟨w.heap.size + 1, 1, none⟩ = some (.int .i64 0) := cell_of_row _ _ _ _ _ _ hB
    have c2 : w1.cell? ⟨w.heap.size + 1, 2, none⟩ = some (.int .i64 0) := cell_of_row _ _ _ _ _ _ hB
    have c3 : w1.cell? ⟨w.heap.size + 1, 3, none⟩ = some (.int .i64 0) := cell_of_row _ _ _ _ _ _ hB
    have c4 : w1.cell? ⟨w.heap.size + 1, 4, none⟩ = some (.int .i64 0) := cell_of_row _ _ _ _ _ _ hB
    have c5 : w1.cell? ⟨w.heap.size + 1, 5, none⟩ = some (.int .i64 0) := cell_of_row _ _ _ _ _ _ hB
    have c6 : w1.cell? ⟨w.heap.size + 1, 6, none⟩ = some (.int .i32 0) := cell_of_row _ _ _ _ _ _ hB
    have c7 : w1.cell? ⟨w.heap.size + 1, 7, none⟩ = some (.int .i32 0) := cell_of_row _ _ _ _ _ _ hB
    have c8 : w1.cell? ⟨w.heap.size + 1, 8, none⟩ = some (.bool false) := cell_of_row _ _ _ _ _ _ hB
    refine bodyPost_ret (v := .tuple #[.agg #[.int .i32 0, .int .i32 0], .agg #[.int .i64 1, .int .i64 0, .int .i64 0, .int .i64 0, .int .i64 0, .int .i64 0, .int .i32 0, .int .i32 0, .bool false]]) (by simp [results, Tryd.results21, go_sem, a0, a1, c0, c1, c2, c3, c4, c5, c6, c7, c8]) rfl ⟨rfl, ?_⟩
    (repeat (first | (with_reducible refine Below.setCell ?_ ?_ _) | (with_reducible refine Below.alloc ?_ ?_ _) | (with_reducible refine Below.drew ?_) | (with_reducible exact Below.refl _ _) | (with_reducible refine Below.trans ?_ (Below.mono hb1 ?_)) | (with_reducible exact Nat.le_refl _) | omega | (simp; omega) | simp))
end Go.Proofs.YtajippjknikciaaDoor
