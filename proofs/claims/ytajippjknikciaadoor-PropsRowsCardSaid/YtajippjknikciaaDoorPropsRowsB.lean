/- The walk of PropsRows. -/
import Derived.Test.YtajippjknikciaaDoorPrownew
namespace Go.Proofs.YtajippjknikciaaDoor
open Go.ChangeShapes Go.WideShapes Go.ChangeAt Go.RowKit
set_option maxRecDepth 100000

theorem rows_facts : ∀ i, i < 260 → (tabN i).1 ≤ (tabN i).2.1 ∧ propOf (tabN i).2.1 = (tabN i).2.2 ∧ (propOf (tabN i).1 = (tabN i).2.2 ∨ (tabN i).1 = 44032) ∧ 0 ≤ (tabN i).1 ∧ (tabN i).2.1 ≤ 1114111 := by decide +kernel
theorem rows_next : ∀ i, i < 259 → (tabN i).2.1 < (tabN (i + 1)).1 := by decide +kernel

theorem rOf_last (w : World) : Calls Tryd.prog 14 #[.int .i32 1114111] w fun e w' => e = .returned (.agg #[.int .i64 1, .int .i64 0, .int .i64 0, .int .i64 0, .int .i64 0, .int .i64 0, .int .i32 0, .int .i32 0, .bool false]) ∧ Below w.heap.size w w' := by
  have := rOf_lit 1114111 (by omega) (by omega) w
  rw [show propOf 1114111 = Pr.rest by decide +kernel] at this
  exact this

set_option maxHeartbeats 1000000 in
theorem rows_out (i : Int) (hi : i < 0 ∨ 260 ≤ i) (w : World) (hl : Laid w) :
    Calls Tryd.prog 6 #[.int .i64 i] w fun e w' => e = .returned (.bool true) ∧ Below w.heap.size w w' := by
  have RO := Lib.hid (pRow_out i hi w)
  have HL := Lib.hid hl
  clear hl
  rcases hi with hi | hi
  all_goals
    go_enter Tryd.func6, Tryd.ntmps6
    go_wp2_with fail
    refine RO.out.mono ?_
    rintro e w1 ⟨rfl, hb1⟩
    go_wp2_with fail
    generalize hW : World.alloc (World.alloc w1 _) _ = W
    have hbW : Below w.heap.size w W := by rw [← hW]; exact (hb1.alloc hb1.size _).alloc (by simp; exact Nat.le_succ_of_le hb1.size) _
    have c0 := later_cell (w := W) (p := ⟨w1.heap.size, 0, none⟩) (v := .int .i32 0) (by rw [← hW]; simp)
    have c1 := later_cell (w := W) (p := ⟨w1.heap.size, 1, none⟩) (v := .int .i32 0) (by rw [← hW]; simp)
    have d0 := later_cell (w := W) (p := ⟨w1.heap.size + 1, 0, none⟩) (v := .int .i64 1) (by rw [← hW]; simp)
    have d1 := later_cell (w := W) (p := ⟨w1.heap.size + 1, 1, none⟩) (v := .int .i64 0) (by rw [← hW]; simp)
    have d2 := later_cell (w := W) (p := ⟨w1.heap.size + 1, 2, none⟩) (v := .int .i64 0) (by rw [← hW]; simp)
    have d3 := later_cell (w := W) (p := ⟨w1.heap.size + 1, 3, none⟩) (v := .int .i64 0) (by rw [← hW]; simp)
    have d4 := later_cell (w := W) (p := ⟨w1.heap.size + 1, 4, none⟩) (v := .int .i64 0) (by rw [← hW]; simp)
    have d5 := later_cell (w := W) (p := ⟨w1.heap.size + 1, 5, none⟩) (v := .int .i64 0) (by rw [← hW]; simp)
    have d6 := later_cell (w := W) (p := ⟨w1.heap.size + 1, 6, none⟩) (v := .int .i32 0) (by rw [← hW]; simp)
    have d7 := later_cell (w := W) (p := ⟨w1.heap.size + 1, 7, none⟩) (v := .int .i32 0) (by rw [← hW]; simp)
    have d8 := later_cell (w := W) (p := ⟨w1.heap.size + 1, 8, none⟩) (v := .bool false) (by rw [← hW]; simp)
    have HB := Lib.hid hbW
    clear hW hbW
    refine wp_region_later (by kernel_rfl) (by kernel_rfl) ?_
    repeat (go_big_quiet_step ((first
      | (go_at_call 14; exact quiet_later (rOf_last _))
      | (go_at_call 13; exact quiet_later (alive4_any _ ((HL.out.pass HB.out).pass (Subtype.property _))))))) 
    refine wpQuiet_nil ?_
    intro _ hw'
    obtain ⟨nq, hw''⟩ := hw'
    subst hw''
    go_wp2_with fail
    go_ret
    exact ⟨rfl, HB.out.trans (nq.2.mono HB.out.size)⟩

set_option maxHeartbeats 2000000 in
theorem rows_in (i : Nat) (hi : i < 260) (f t f2 t2 : Int) (p p2 : Pr) (b2 : Bool) (hx : tabN i = (f, t, p)) (w : World) (hl : Laid w)
    (R2 : Hid (∀ w, Calls Tryd.prog 21 #[.int .i64 ((i : Int) + 1)] w fun e w' => e = .returned (.tuple #[.agg #[.int .i32 f2, .int .i32 t2], .agg #[.int .i64 p2.bidi, .int .i64 p2.cluster, .int .i64 p2.brk, .int .i64 p2.script, .int .i64 p2.join, .int .i64 p2.word, .int .i32 p2.mirror, .int .i32 p2.pair, .bool p2.opens]]) ∧ Below w.heap.size w w'))
    (hb2 : decide ((i : Int) + 1 < 260) = b2) (h2 : i + 1 < 260 → t < f2) (hff : propOf f = p ∨ f = 44032) :
    Calls Tryd.prog 6 #[.int .i64 i] w fun e w' => e = .returned (.bool true) ∧ Below w.heap.size w w' := by
  obtain ⟨z1, z2, z3, z4, z5⟩ := rows_facts i hi
  rw [hx] at z1 z2 z3 z4 z5
  simp only at z1 z2 z3 z4 z5
  have R1 := Lib.hid (pRow_in i hi f t p hx)
  have O1 := Lib.hid (rOf_lit t (by omega) (by omega))
  have O2 := Lib.hid (rOf_lit f (by omega) (by omega))
  rw [z2] at O1
  have HL := Lib.hid hl
  have he : ∀ w, (binOp .eql 23 (.agg #[.int .i64 p.bidi, .int .i64 p.cluster, .int .i64 p.brk, .int .i64 p.script, .int .i64 p.join, .int .i64 p.word, .int .i32 p.mirror, .int .i32 p.pair, .bool p.opens]) (.agg #[.int .i64 p.bidi, .int .i64 p.cluster, .int .i64 p.brk, .int .i64 p.script, .int .i64 p.join, .int .i64 p.word, .int .i32 p.mirror, .int .i32 p.pair, .bool p.opens])).run Tryd.prog w = .ok (.bool true) w := fun w => by
    have := propEql p p w
    rwa [show decide (p = p) = true by simp] at this
  have hq : ∀ w, (binOp .eql 23 (.agg #[.int .i64 (propOf f).bidi, .int .i64 (propOf f).cluster, .int .i64 (propOf f).brk, .int .i64 (propOf f).script, .int .i64 (propOf f).join, .int .i64 (propOf f).word, .int .i32 (propOf f).mirror, .int .i32 (propOf f).pair, .bool (propOf f).opens]) (.agg #[.int .i64 p.bidi, .int .i64 p.cluster, .int .i64 p.brk, .int .i64 p.script, .int .i64 p.join, .int .i64 p.word, .int .i32 p.mirror, .int .i32 p.pair, .bool p.opens])).run Tryd.prog w = .ok (.bool (decide (propOf f = p))) w := propEql (propOf f) p
  have HQ := Lib.hid hff
  clear hl z3 z2 hx hff
  have hnn : ¬ ((i : Int) < 0) := by omega
  have htf : ¬ (t < f) := by omega
  clear hb2
  by_cases h9 : i + 1 < 260
  · have h9' : (i : Int) + 1 < 260 := by omega
    have h2' := h2 h9
    clear h2
    go_enter Tryd.func6, Tryd.ntmps6
    go_wp2_with fail
    refine (R1.out _).mono ?_
    rintro e w1 ⟨rfl, hb1⟩
    go_wp2_with fail
    generalize hW : World.alloc (World.alloc w1 _) _ = W
    have hbW : Below w.heap.size w W := by rw [← hW]; exact (hb1.alloc hb1.size _).alloc (by simp; exact Nat.le_succ_of_le hb1.size) _
    have k0 : W.cell? ⟨w1.heap.size, 0, none⟩ = some (.int .i32 f) := by rw [← hW]; simp
    have k1 : W.cell? ⟨w1.heap.size, 1, none⟩ = some (.int .i32 t) := by rw [← hW]; simp
    have m0 : W.cell? ⟨w1.heap.size + 1, 0, none⟩ = some (.int .i64 p.bidi) := by rw [← hW]; simp
    have m1 : W.cell? ⟨w1.heap.size + 1, 1, none⟩ = some (.int .i64 p.cluster) := by rw [← hW]; simp
    have m2 : W.cell? ⟨w1.heap.size + 1, 2, none⟩ = some (.int .i64 p.brk) := by rw [← hW]; simp
    have m3 : W.cell? ⟨w1.heap.size + 1, 3, none⟩ = some (.int .i64 p.script) := by rw [← hW]; simp
    have m4 : W.cell? ⟨w1.heap.size + 1, 4, none⟩ = some (.int .i64 p.join) := by rw [← hW]; simp
    have m5 : W.cell? ⟨w1.heap.size + 1, 5, none⟩ = some (.int .i64 p.word) := by rw [← hW]; simp
    have m6 : W.cell? ⟨w1.heap.size + 1, 6, none⟩ = some (.int .i32 p.mirror) := by rw [← hW]; simp
    have m7 : W.cell? ⟨w1.heap.size + 1, 7, none⟩ = some (.int .i32 p.pair) := by rw [← hW]; simp
    have m8 : W.cell? ⟨w1.heap.size + 1, 8, none⟩ = some (.bool p.opens) := by rw [← hW]; simp
    have HB := Lib.hid hbW
    clear hW hbW
    generalize w1.heap.size = g1 at *
    refine (R2.out _).mono ?_
    rintro e w2 ⟨rfl, hb2⟩
    have hgW : g1 + 1 < W.heap.size := block_lt_of_cell m0
    have hs2 := hb2.size
    replace k0 : w2.cell? ⟨g1, 0, none⟩ = some (.int .i32 f) := ((bcell hb2).1 (g1) 0 (by omega)).trans k0
    replace k1 : w2.cell? ⟨g1, 1, none⟩ = some (.int .i32 t) := ((bcell hb2).1 (g1) 1 (by omega)).trans k1
    replace m0 : w2.cell? ⟨g1 + 1, 0, none⟩ = some (.int .i64 p.bidi) := ((bcell hb2).1 (g1 + 1) 0 (by omega)).trans m0
    replace m1 : w2.cell? ⟨g1 + 1, 1, none⟩ = some (.int .i64 p.cluster) := ((bcell hb2).1 (g1 + 1) 1 (by omega)).trans m1
    replace m2 : w2.cell? ⟨g1 + 1, 2, none⟩ = some (.int .i64 p.brk) := ((bcell hb2).1 (g1 + 1) 2 (by omega)).trans m2
    replace m3 : w2.cell? ⟨g1 + 1, 3, none⟩ = some (.int .i64 p.script) := ((bcell hb2).1 (g1 + 1) 3 (by omega)).trans m3
    replace m4 : w2.cell? ⟨g1 + 1, 4, none⟩ = some (.int .i64 p.join) := ((bcell hb2).1 (g1 + 1) 4 (by omega)).trans m4
    replace m5 : w2.cell? ⟨g1 + 1, 5, none⟩ = some (.int .i64 p.word) := ((bcell hb2).1 (g1 + 1) 5 (by omega)).trans m5
    replace m6 : w2.cell? ⟨g1 + 1, 6, none⟩ = some (.int .i32 p.mirror) := ((bcell hb2).1 (g1 + 1) 6 (by omega)).trans m6
    replace m7 : w2.cell? ⟨g1 + 1, 7, none⟩ = some (.int .i32 p.pair) := ((bcell hb2).1 (g1 + 1) 7 (by omega)).trans m7
    replace m8 : w2.cell? ⟨g1 + 1, 8, none⟩ = some (.bool p.opens) := ((bcell hb2).1 (g1 + 1) 8 (by omega)).trans m8
    have hl1 : g1 < w2.heap.size := by omega
    have hl2 : g1 + 1 < w2.heap.size := by omega
    have hn1 : ¬ (w2.heap.size = g1) := by omega
    have hn2 : ¬ (w2.heap.size = g1 + 1) := by omega
    have hn3 : ¬ (w2.heap.size + 1 = g1) := by omega
    have hn4 : ¬ (w2.heap.size = g1) := by omega
    have HB2 := Lib.hid (HB.out.trans (hb2.mono HB.out.size))
    have HL2 := Lib.hid (HL.out.pass HB2.out)
    clear hb2 hs2 hgW HB
    clear W
    go_wp2_with fail
    refine (O1.out _).mono ?_
    rintro e w3 ⟨rfl, hb3⟩
    have hs3 := hb3.size
    have hc3 := (bcell hb3).1
    simp only [World.size_alloc] at hc3
    simp only [World.size_alloc] at hs3
    replace k0 : w3.cell? ⟨g1, 0, none⟩ = some (.int .i32 f) := cell_pass (cell_alloc (cell_alloc k0 _) _) hb3
    replace k1 : w3.cell? ⟨g1, 1, none⟩ = some (.int .i32 t) := cell_pass (cell_alloc (cell_alloc k1 _) _) hb3
    replace m0 : w3.cell? ⟨g1 + 1, 0, none⟩ = some (.int .i64 p.bidi) := cell_pass (cell_alloc (cell_alloc m0 _) _) hb3
    replace m1 : w3.cell? ⟨g1 + 1, 1, none⟩ = some (.int .i64 p.cluster) := cell_pass (cell_alloc (cell_alloc m1 _) _) hb3
    replace m2 : w3.cell? ⟨g1 + 1, 2, none⟩ = some (.int .i64 p.brk) := cell_pass (cell_alloc (cell_alloc m2 _) _) hb3
    replace m3 : w3.cell? ⟨g1 + 1, 3, none⟩ = some (.int .i64 p.script) := cell_pass (cell_alloc (cell_alloc m3 _) _) hb3
    replace m4 : w3.cell? ⟨g1 + 1, 4, none⟩ = some (.int .i64 p.join) := cell_pass (cell_alloc (cell_alloc m4 _) _) hb3
    replace m5 : w3.cell? ⟨g1 + 1, 5, none⟩ = some (.int .i64 p.word) := cell_pass (cell_alloc (cell_alloc m5 _) _) hb3
    replace m6 : w3.cell? ⟨g1 + 1, 6, none⟩ = some (.int .i32 p.mirror) := cell_pass (cell_alloc (cell_alloc m6 _) _) hb3
    replace m7 : w3.cell? ⟨g1 + 1, 7, none⟩ = some (.int .i32 p.pair) := cell_pass (cell_alloc (cell_alloc m7 _) _) hb3
    replace m8 : w3.cell? ⟨g1 + 1, 8, none⟩ = some (.bool p.opens) := cell_pass (cell_alloc (cell_alloc m8 _) _) hb3
    have HB3 := Lib.hid (((HB2.out.alloc HB2.out.size _).alloc (by simp; exact Nat.le_succ_of_le HB2.out.size) _).trans (hb3.mono (by simp; exact Nat.le_trans HB2.out.size (by omega))))
    have HL3 := Lib.hid (HL.out.pass HB3.out)
    replace hl1 : g1 < w3.heap.size := by omega
    replace hl2 : g1 + 1 < w3.heap.size := by omega
    replace hn1 : ¬ (w3.heap.size = g1) := by omega
    replace hn2 : ¬ (w3.heap.size = g1 + 1) := by omega
    clear hb3 hs3 hn3 hn4 hc3
    go_wp2_with fail
    generalize hW : World.alloc w3 _ = W
    have hbW : Below w.heap.size w W := by rw [← hW]; exact HB3.out.alloc HB3.out.size _
    replace k0 := later_cell (w := W) (p := ⟨g1, 0, none⟩) (v := .int .i32 f) (by rw [← hW]; exact cell_alloc k0 _)
    replace k1 := later_cell (w := W) (p := ⟨g1, 1, none⟩) (v := .int .i32 t) (by rw [← hW]; exact cell_alloc k1 _)
    replace m0 := later_cell (w := W) (p := ⟨g1 + 1, 0, none⟩) (v := .int .i64 p.bidi) (by rw [← hW]; exact cell_alloc m0 _)
    replace m1 := later_cell (w := W) (p := ⟨g1 + 1, 1, none⟩) (v := .int .i64 p.cluster) (by rw [← hW]; exact cell_alloc m1 _)
    replace m2 := later_cell (w := W) (p := ⟨g1 + 1, 2, none⟩) (v := .int .i64 p.brk) (by rw [← hW]; exact cell_alloc m2 _)
    replace m3 := later_cell (w := W) (p := ⟨g1 + 1, 3, none⟩) (v := .int .i64 p.script) (by rw [← hW]; exact cell_alloc m3 _)
    replace m4 := later_cell (w := W) (p := ⟨g1 + 1, 4, none⟩) (v := .int .i64 p.join) (by rw [← hW]; exact cell_alloc m4 _)
    replace m5 := later_cell (w := W) (p := ⟨g1 + 1, 5, none⟩) (v := .int .i64 p.word) (by rw [← hW]; exact cell_alloc m5 _)
    replace m6 := later_cell (w := W) (p := ⟨g1 + 1, 6, none⟩) (v := .int .i32 p.mirror) (by rw [← hW]; exact cell_alloc m6 _)
    replace m7 := later_cell (w := W) (p := ⟨g1 + 1, 7, none⟩) (v := .int .i32 p.pair) (by rw [← hW]; exact cell_alloc m7 _)
    replace m8 := later_cell (w := W) (p := ⟨g1 + 1, 8, none⟩) (v := .bool p.opens) (by rw [← hW]; exact cell_alloc m8 _)
    have q0 := later_cell (w := W) (p := ⟨w3.heap.size, 0, none⟩) (v := .int .i64 p.bidi) (by rw [← hW]; simp)
    have q1 := later_cell (w := W) (p := ⟨w3.heap.size, 1, none⟩) (v := .int .i64 p.cluster) (by rw [← hW]; simp)
    have q2 := later_cell (w := W) (p := ⟨w3.heap.size, 2, none⟩) (v := .int .i64 p.brk) (by rw [← hW]; simp)
    have q3 := later_cell (w := W) (p := ⟨w3.heap.size, 3, none⟩) (v := .int .i64 p.script) (by rw [← hW]; simp)
    have q4 := later_cell (w := W) (p := ⟨w3.heap.size, 4, none⟩) (v := .int .i64 p.join) (by rw [← hW]; simp)
    have q5 := later_cell (w := W) (p := ⟨w3.heap.size, 5, none⟩) (v := .int .i64 p.word) (by rw [← hW]; simp)
    have q6 := later_cell (w := W) (p := ⟨w3.heap.size, 6, none⟩) (v := .int .i32 p.mirror) (by rw [← hW]; simp)
    have q7 := later_cell (w := W) (p := ⟨w3.heap.size, 7, none⟩) (v := .int .i32 p.pair) (by rw [← hW]; simp)
    have q8 := later_cell (w := W) (p := ⟨w3.heap.size, 8, none⟩) (v := .bool p.opens) (by rw [← hW]; simp)
    have HB4 := Lib.hid hbW
    clear hW hbW HL2 HL3 HB2
    by_cases hc : propOf f = p
    · rw [hc] at O2
      clear hc hq
      refine wp_region_later (by kernel_rfl) (by kernel_rfl) ?_
      repeat (go_big_quiet_step ((first
        | (go_at_call 14; exact quiet_later (O2.out _))
        | (go_at_call 22; exact quiet_later (prows_any _))
        | (go_at_call 13; exact quiet_later (alive4_any _ ((HL.out.pass HB4.out).pass (Subtype.property _)))))))
      refine wpQuiet_nil ?_
      intro _ hw'
      obtain ⟨nq, hw''⟩ := hw'
      subst hw''
      go_wp2_with fail
      go_ret
      exact ⟨rfl, HB4.out.trans (nq.2.mono HB4.out.size)⟩
    · have hf4 : ((f : Int) == 44032) = true := by rcases HQ.out with h | h; exact absurd h hc; simp [h]
      simp only [hc, decide_false] at hq
      clear hc
      refine wp_region_later (by kernel_rfl) (by kernel_rfl) ?_
      repeat (go_big_quiet_step ((first
        | (go_at_call 14; exact quiet_later (O2.out _))
        | (go_at_call 22; exact quiet_later (prows_any _))
        | (go_at_call 13; exact quiet_later (alive4_any _ ((HL.out.pass HB4.out).pass (Subtype.property _)))))))
      refine wpQuiet_nil ?_
      intro _ hw'
      obtain ⟨nq, hw''⟩ := hw'
      subst hw''
      go_wp2_with fail
      go_ret
      exact ⟨rfl, HB4.out.trans (nq.2.mono HB4.out.size)⟩
  · have h9' : ¬ ((i : Int) + 1 < 260) := by omega
    clear h2
    go_enter Tryd.func6, Tryd.ntmps6
    go_wp2_with fail
    refine (R1.out _).mono ?_
    rintro e w1 ⟨rfl, hb1⟩
    go_wp2_with fail
    generalize hW : World.alloc (World.alloc w1 _) _ = W
    have hbW : Below w.heap.size w W := by rw [← hW]; exact (hb1.alloc hb1.size _).alloc (by simp; exact Nat.le_succ_of_le hb1.size) _
    have k0 : W.cell? ⟨w1.heap.size, 0, none⟩ = some (.int .i32 f) := by rw [← hW]; simp
    have k1 : W.cell? ⟨w1.heap.size, 1, none⟩ = some (.int .i32 t) := by rw [← hW]; simp
    have m0 : W.cell? ⟨w1.heap.size + 1, 0, none⟩ = some (.int .i64 p.bidi) := by rw [← hW]; simp
    have m1 : W.cell? ⟨w1.heap.size + 1, 1, none⟩ = some (.int .i64 p.cluster) := by rw [← hW]; simp
    have m2 : W.cell? ⟨w1.heap.size + 1, 2, none⟩ = some (.int .i64 p.brk) := by rw [← hW]; simp
    have m3 : W.cell? ⟨w1.heap.size + 1, 3, none⟩ = some (.int .i64 p.script) := by rw [← hW]; simp
    have m4 : W.cell? ⟨w1.heap.size + 1, 4, none⟩ = some (.int .i64 p.join) := by rw [← hW]; simp
    have m5 : W.cell? ⟨w1.heap.size + 1, 5, none⟩ = some (.int .i64 p.word) := by rw [← hW]; simp
    have m6 : W.cell? ⟨w1.heap.size + 1, 6, none⟩ = some (.int .i32 p.mirror) := by rw [← hW]; simp
    have m7 : W.cell? ⟨w1.heap.size + 1, 7, none⟩ = some (.int .i32 p.pair) := by rw [← hW]; simp
    have m8 : W.cell? ⟨w1.heap.size + 1, 8, none⟩ = some (.bool p.opens) := by rw [← hW]; simp
    have HB := Lib.hid hbW
    clear hW hbW
    generalize w1.heap.size = g1 at *
    refine (R2.out _).mono ?_
    rintro e w2 ⟨rfl, hb2⟩
    have hgW : g1 + 1 < W.heap.size := block_lt_of_cell m0
    have hs2 := hb2.size
    replace k0 : w2.cell? ⟨g1, 0, none⟩ = some (.int .i32 f) := ((bcell hb2).1 (g1) 0 (by omega)).trans k0
    replace k1 : w2.cell? ⟨g1, 1, none⟩ = some (.int .i32 t) := ((bcell hb2).1 (g1) 1 (by omega)).trans k1
    replace m0 : w2.cell? ⟨g1 + 1, 0, none⟩ = some (.int .i64 p.bidi) := ((bcell hb2).1 (g1 + 1) 0 (by omega)).trans m0
    replace m1 : w2.cell? ⟨g1 + 1, 1, none⟩ = some (.int .i64 p.cluster) := ((bcell hb2).1 (g1 + 1) 1 (by omega)).trans m1
    replace m2 : w2.cell? ⟨g1 + 1, 2, none⟩ = some (.int .i64 p.brk) := ((bcell hb2).1 (g1 + 1) 2 (by omega)).trans m2
    replace m3 : w2.cell? ⟨g1 + 1, 3, none⟩ = some (.int .i64 p.script) := ((bcell hb2).1 (g1 + 1) 3 (by omega)).trans m3
    replace m4 : w2.cell? ⟨g1 + 1, 4, none⟩ = some (.int .i64 p.join) := ((bcell hb2).1 (g1 + 1) 4 (by omega)).trans m4
    replace m5 : w2.cell? ⟨g1 + 1, 5, none⟩ = some (.int .i64 p.word) := ((bcell hb2).1 (g1 + 1) 5 (by omega)).trans m5
    replace m6 : w2.cell? ⟨g1 + 1, 6, none⟩ = some (.int .i32 p.mirror) := ((bcell hb2).1 (g1 + 1) 6 (by omega)).trans m6
    replace m7 : w2.cell? ⟨g1 + 1, 7, none⟩ = some (.int .i32 p.pair) := ((bcell hb2).1 (g1 + 1) 7 (by omega)).trans m7
    replace m8 : w2.cell? ⟨g1 + 1, 8, none⟩ = some (.bool p.opens) := ((bcell hb2).1 (g1 + 1) 8 (by omega)).trans m8
    have hl1 : g1 < w2.heap.size := by omega
    have hl2 : g1 + 1 < w2.heap.size := by omega
    have hn1 : ¬ (w2.heap.size = g1) := by omega
    have hn2 : ¬ (w2.heap.size = g1 + 1) := by omega
    have hn3 : ¬ (w2.heap.size + 1 = g1) := by omega
    have hn4 : ¬ (w2.heap.size = g1) := by omega
    have HB2 := Lib.hid (HB.out.trans (hb2.mono HB.out.size))
    have HL2 := Lib.hid (HL.out.pass HB2.out)
    clear hb2 hs2 hgW HB
    clear W
    go_wp2_with fail
    refine (O1.out _).mono ?_
    rintro e w3 ⟨rfl, hb3⟩
    have hs3 := hb3.size
    have hc3 := (bcell hb3).1
    simp only [World.size_alloc] at hc3
    simp only [World.size_alloc] at hs3
    replace k0 : w3.cell? ⟨g1, 0, none⟩ = some (.int .i32 f) := cell_pass (cell_alloc (cell_alloc k0 _) _) hb3
    replace k1 : w3.cell? ⟨g1, 1, none⟩ = some (.int .i32 t) := cell_pass (cell_alloc (cell_alloc k1 _) _) hb3
    replace m0 : w3.cell? ⟨g1 + 1, 0, none⟩ = some (.int .i64 p.bidi) := cell_pass (cell_alloc (cell_alloc m0 _) _) hb3
    replace m1 : w3.cell? ⟨g1 + 1, 1, none⟩ = some (.int .i64 p.cluster) := cell_pass (cell_alloc (cell_alloc m1 _) _) hb3
    replace m2 : w3.cell? ⟨g1 + 1, 2, none⟩ = some (.int .i64 p.brk) := cell_pass (cell_alloc (cell_alloc m2 _) _) hb3
    replace m3 : w3.cell? ⟨g1 + 1, 3, none⟩ = some (.int .i64 p.script) := cell_pass (cell_alloc (cell_alloc m3 _) _) hb3
    replace m4 : w3.cell? ⟨g1 + 1, 4, none⟩ = some (.int .i64 p.join) := cell_pass (cell_alloc (cell_alloc m4 _) _) hb3
    replace m5 : w3.cell? ⟨g1 + 1, 5, none⟩ = some (.int .i64 p.word) := cell_pass (cell_alloc (cell_alloc m5 _) _) hb3
    replace m6 : w3.cell? ⟨g1 + 1, 6, none⟩ = some (.int .i32 p.mirror) := cell_pass (cell_alloc (cell_alloc m6 _) _) hb3
    replace m7 : w3.cell? ⟨g1 + 1, 7, none⟩ = some (.int .i32 p.pair) := cell_pass (cell_alloc (cell_alloc m7 _) _) hb3
    replace m8 : w3.cell? ⟨g1 + 1, 8, none⟩ = some (.bool p.opens) := cell_pass (cell_alloc (cell_alloc m8 _) _) hb3
    have HB3 := Lib.hid (((HB2.out.alloc HB2.out.size _).alloc (by simp; exact Nat.le_succ_of_le HB2.out.size) _).trans (hb3.mono (by simp; exact Nat.le_trans HB2.out.size (by omega))))
    have HL3 := Lib.hid (HL.out.pass HB3.out)
    replace hl1 : g1 < w3.heap.size := by omega
    replace hl2 : g1 + 1 < w3.heap.size := by omega
    replace hn1 : ¬ (w3.heap.size = g1) := by omega
    replace hn2 : ¬ (w3.heap.size = g1 + 1) := by omega
    clear hb3 hs3 hn3 hn4 hc3
    go_wp2_with fail
    generalize hW : World.alloc w3 _ = W
    have hbW : Below w.heap.size w W := by rw [← hW]; exact HB3.out.alloc HB3.out.size _
    replace k0 := later_cell (w := W) (p := ⟨g1, 0, none⟩) (v := .int .i32 f) (by rw [← hW]; exact cell_alloc k0 _)
    replace k1 := later_cell (w := W) (p := ⟨g1, 1, none⟩) (v := .int .i32 t) (by rw [← hW]; exact cell_alloc k1 _)
    replace m0 := later_cell (w := W) (p := ⟨g1 + 1, 0, none⟩) (v := .int .i64 p.bidi) (by rw [← hW]; exact cell_alloc m0 _)
    replace m1 := later_cell (w := W) (p := ⟨g1 + 1, 1, none⟩) (v := .int .i64 p.cluster) (by rw [← hW]; exact cell_alloc m1 _)
    replace m2 := later_cell (w := W) (p := ⟨g1 + 1, 2, none⟩) (v := .int .i64 p.brk) (by rw [← hW]; exact cell_alloc m2 _)
    replace m3 := later_cell (w := W) (p := ⟨g1 + 1, 3, none⟩) (v := .int .i64 p.script) (by rw [← hW]; exact cell_alloc m3 _)
    replace m4 := later_cell (w := W) (p := ⟨g1 + 1, 4, none⟩) (v := .int .i64 p.join) (by rw [← hW]; exact cell_alloc m4 _)
    replace m5 := later_cell (w := W) (p := ⟨g1 + 1, 5, none⟩) (v := .int .i64 p.word) (by rw [← hW]; exact cell_alloc m5 _)
    replace m6 := later_cell (w := W) (p := ⟨g1 + 1, 6, none⟩) (v := .int .i32 p.mirror) (by rw [← hW]; exact cell_alloc m6 _)
    replace m7 := later_cell (w := W) (p := ⟨g1 + 1, 7, none⟩) (v := .int .i32 p.pair) (by rw [← hW]; exact cell_alloc m7 _)
    replace m8 := later_cell (w := W) (p := ⟨g1 + 1, 8, none⟩) (v := .bool p.opens) (by rw [← hW]; exact cell_alloc m8 _)
    have q0 := later_cell (w := W) (p := ⟨w3.heap.size, 0, none⟩) (v := .int .i64 p.bidi) (by rw [← hW]; simp)
    have q1 := later_cell (w := W) (p := ⟨w3.heap.size, 1, none⟩) (v := .int .i64 p.cluster) (by rw [← hW]; simp)
    have q2 := later_cell (w := W) (p := ⟨w3.heap.size, 2, none⟩) (v := .int .i64 p.brk) (by rw [← hW]; simp)
    have q3 := later_cell (w := W) (p := ⟨w3.heap.size, 3, none⟩) (v := .int .i64 p.script) (by rw [← hW]; simp)
    have q4 := later_cell (w := W) (p := ⟨w3.heap.size, 4, none⟩) (v := .int .i64 p.join) (by rw [← hW]; simp)
    have q5 := later_cell (w := W) (p := ⟨w3.heap.size, 5, none⟩) (v := .int .i64 p.word) (by rw [← hW]; simp)
    have q6 := later_cell (w := W) (p := ⟨w3.heap.size, 6, none⟩) (v := .int .i32 p.mirror) (by rw [← hW]; simp)
    have q7 := later_cell (w := W) (p := ⟨w3.heap.size, 7, none⟩) (v := .int .i32 p.pair) (by rw [← hW]; simp)
    have q8 := later_cell (w := W) (p := ⟨w3.heap.size, 8, none⟩) (v := .bool p.opens) (by rw [← hW]; simp)
    have HB4 := Lib.hid hbW
    clear hW hbW HL2 HL3 HB2
    by_cases hc : propOf f = p
    · rw [hc] at O2
      clear hc hq
      refine wp_region_later (by kernel_rfl) (by kernel_rfl) ?_
      repeat (go_big_quiet_step ((first
        | (go_at_call 14; exact quiet_later (O2.out _))
        | (go_at_call 22; exact quiet_later (prows_any _))
        | (go_at_call 13; exact quiet_later (alive4_any _ ((HL.out.pass HB4.out).pass (Subtype.property _)))))))
      refine wpQuiet_nil ?_
      intro _ hw'
      obtain ⟨nq, hw''⟩ := hw'
      subst hw''
      go_wp2_with fail
      go_ret
      exact ⟨rfl, HB4.out.trans (nq.2.mono HB4.out.size)⟩
    · have hf4 : ((f : Int) == 44032) = true := by rcases HQ.out with h | h; exact absurd h hc; simp [h]
      simp only [hc, decide_false] at hq
      clear hc
      refine wp_region_later (by kernel_rfl) (by kernel_rfl) ?_
      repeat (go_big_quiet_step ((first
        | (go_at_call 14; exact quiet_later (O2.out _))
        | (go_at_call 22; exact quiet_later (prows_any _))
        | (go_at_call 13; exact quiet_later (alive4_any _ ((HL.out.pass HB4.out).pass (Subtype.property _)))))))
      refine wpQuiet_nil ?_
      intro _ hw'
      obtain ⟨nq, hw''⟩ := hw'
      subst hw''
      go_wp2_with fail
      go_ret
      exact ⟨rfl, HB4.out.trans (nq.2.mono HB4.out.size)⟩

theorem PropsRows_walk (i : Int) (hi : (Lit.int .i64 i).wf = true) (w : World) (hl : Laid w) :
    Calls Tryd.prog 6 #[.int .i64 i] w fun e w' => e = .returned (.bool true) ∧ Below w.heap.size w w' := by
  by_cases ho : i < 0 ∨ 260 ≤ i
  · exact rows_out i ho w hl
  · obtain ⟨n, rfl⟩ : ∃ n : Nat, i = n := ⟨i.toNat, by omega⟩
    have hn : n < 260 := by omega
    obtain ⟨⟨f, t, p⟩, hx⟩ : ∃ x, tabN n = x := ⟨_, rfl⟩
    have hff := (rows_facts n hn).2.2.1
    rw [hx] at hff
    by_cases h9 : n + 1 < 260
    · obtain ⟨⟨f2, t2, p2⟩, hx2⟩ : ∃ x, tabN (n + 1) = x := ⟨_, rfl⟩
      have hnx := rows_next n (by omega)
      rw [hx, hx2] at hnx
      exact rows_in n hn f t f2 t2 p p2 true hx w hl (pRow_in (n + 1) h9 f2 t2 p2 hx2) (by simp; omega) (fun _ => hnx) hff
    · exact rows_in n hn f t 0 0 p Pr.rest false hx w hl (pRow_out _ (by omega)) (by simp; omega) (fun h => absurd h h9) hff
end Go.Proofs.YtajippjknikciaaDoor
