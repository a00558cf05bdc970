/- Chapter 4: Canon, Rows, Row, Same; the example; the plain laws of the table; the walks of PropsTells and PropsMirrors. -/
import Derived.Test.YtajippjknikciaaDoorNeeds
import Derived.Deep.RegionWith
namespace Go.Proofs.YtajippjknikciaaDoor
open Go.ChangeShapes Go.WideShapes Go.ChangeAt Go.RowKit
set_option maxRecDepth 100000

theorem propEql (p q : Pr) (w : World) : (binOp .eql 23 (.agg #[.int .i64 p.bidi, .int .i64 p.cluster, .int .i64 p.brk, .int .i64 p.script, .int .i64 p.join, .int .i64 p.word, .int .i32 p.mirror, .int .i32 p.pair, .bool p.opens]) (.agg #[.int .i64 q.bidi, .int .i64 q.cluster, .int .i64 q.brk, .int .i64 q.script, .int .i64 q.join, .int .i64 q.word, .int .i32 q.mirror, .int .i32 q.pair, .bool q.opens])).run Tryd.prog w = .ok (.bool (decide (p = q))) w := by
  by_cases h : p = q
  · subst h
    simp [go_sem]
  · have hd : decide (p = q) = false := by simp [h]
    rw [hd]
    by_cases h1 : p.bidi = q.bidi
    · by_cases h2 : p.cluster = q.cluster
      · by_cases h3 : p.brk = q.brk
        · by_cases h4 : p.script = q.script
          · by_cases h5 : p.join = q.join
            · by_cases h6 : p.word = q.word
              · by_cases h7 : p.mirror = q.mirror
                · by_cases h8 : p.pair = q.pair
                  · by_cases h9 : p.opens = q.opens
                    · exact absurd (Pr.eq_of ⟨h1, h2, h3, h4, h5, h6, h7, h8, h9⟩) h
                    · simp [go_sem, h1, h2, h3, h4, h5, h6, h7, h8, h9]
                  · simp [go_sem, h1, h2, h3, h4, h5, h6, h7, h8]
                · simp [go_sem, h1, h2, h3, h4, h5, h6, h7]
              · simp [go_sem, h1, h2, h3, h4, h5, h6]
            · simp [go_sem, h1, h2, h3, h4, h5]
          · simp [go_sem, h1, h2, h3, h4]
        · simp [go_sem, h1, h2, h3]
      · simp [go_sem, h1, h2]
    · simp [go_sem, h1]

def canonV (r : Int) : Int := if r = 9001 then 12296 else if r = 9002 then 12297 else r
theorem rcanon_any (r : Int) (w : World) : Calls Tryd.prog 17 #[.int .i32 r] w fun e w' => e = .returned (.int .i32 (canonV r)) ∧ Below w.heap.size w w' := by
  go_enter Tryd.func17, Tryd.ntmps17
  go_wp2
  all_goals go_ret
  all_goals refine ⟨reti ?_, Below.refl _ _⟩
  all_goals simp only [beq_iff_eq, beq_eq_false_iff_ne] at *
  all_goals simp_all [canonV]
theorem pcanon_any (r : Int) (w : World) : Calls Tryd.prog 16 #[.int .i32 r] w fun e w' => e = .returned (.int .i32 (canonV r)) ∧ Below w.heap.size w w' := by
  go_enter Tryd.func16, Tryd.ntmps16
  go_wp2
  all_goals go_ret
  all_goals refine ⟨reti ?_, Below.refl _ _⟩
  all_goals simp only [beq_iff_eq, beq_eq_false_iff_ne] at *
  all_goals simp_all [canonV]
theorem prows_any (w : World) : Calls Tryd.prog 22 #[] w fun e w' => e = .returned (.int .i64 260) ∧ Below w.heap.size w w' := by
  go_enter Tryd.func22, Tryd.ntmps22
  go_wp2
  go_ret
  exact ⟨rfl, Below.refl _ _⟩

theorem Laid.pass {w w1 : World} (h : Laid w) (hb : Below w.heap.size w w1) : Laid w1 := h.below hb h.1

/-- the example's three code points -/
theorem pOf_40 (w : World) (hl : Laid w) : Calls Tryd.prog 12 #[.int .i32 40] w fun e w' => e = .returned (.agg #[.int .i64 14, .int .i64 0, .int .i64 18, .int .i64 0, .int .i64 0, .int .i64 0, .int .i32 41, .int .i32 41, .bool true]) ∧ Below w.heap.size w w' := by
  have := pOf_lit 40 (by omega) (by omega) w hl
  rw [show propOf 40 = ⟨14, 0, 18, 0, 0, 0, 41, 41, true⟩ by decide +kernel] at this
  exact this
theorem pOf_lv (w : World) (hl : Laid w) : Calls Tryd.prog 12 #[.int .i32 44032] w fun e w' => e = .returned (.agg #[.int .i64 1, .int .i64 12, .int .i64 33, .int .i64 9, .int .i64 0, .int .i64 1, .int .i32 0, .int .i32 0, .bool false]) ∧ Below w.heap.size w w' := by
  have := pOf_lit 44032 (by omega) (by omega) w hl
  rw [show propOf 44032 = ⟨1, 12, 33, 9, 0, 1, 0, 0, false⟩ by decide +kernel] at this
  exact this
theorem pOf_lvt (w : World) (hl : Laid w) : Calls Tryd.prog 12 #[.int .i32 44033] w fun e w' => e = .returned (.agg #[.int .i64 1, .int .i64 13, .int .i64 34, .int .i64 9, .int .i64 0, .int .i64 1, .int .i32 0, .int .i32 0, .bool false]) ∧ Below w.heap.size w w' := by
  have := pOf_lit 44033 (by omega) (by omega) w hl
  rw [show propOf 44033 = ⟨1, 13, 34, 9, 0, 1, 0, 0, false⟩ by decide +kernel] at this
  exact this
theorem canon_lit : canonV 9001 = 12296 := by decide

set_option maxHeartbeats 1000000 in
theorem alive4_any (w : World) (hl : Laid w) : Calls Tryd.prog 13 #[] w fun e w' => e = .returned (.bool true) ∧ Below w.heap.size w w' := by
  have L0 := Lib.hid hl
  clear hl
  go_enter Tryd.func13, Tryd.ntmps13
  go_wp2_with (first
    | (go_at_call_of 12 (Value.int IntKind.i32 40); refine (pOf_40 _ L0.out).mono ?_; rintro e w1 ⟨rfl, hb1⟩; have L1 := Lib.hid (L0.out.pass hb1))
    | (go_at_call_of 12 (Value.int IntKind.i32 44032); refine (pOf_lv _ (L1.out.alloc _)).mono ?_; rintro e w2 ⟨rfl, hb2⟩; have L2 := Lib.hid ((L1.out.alloc _).pass hb2))
    | (go_at_call_of 12 (Value.int IntKind.i32 44033); refine (pOf_lvt _ L2.out).mono ?_; rintro e w3 ⟨rfl, hb3⟩)
    | (go_at_call 22; refine (prows_any _).mono ?_; rintro e w4 ⟨rfl, hb4⟩)
    | (go_at_call 16; refine (pcanon_any _ _).mono ?_; rw [canon_lit]; rintro e w5 ⟨rfl, hb5⟩))
  go_ret
  refine ⟨rfl, ?_⟩
  have hx : Below w.heap.size w (w1.alloc (.cells #[.int .i64 14, .int .i64 0, .int .i64 18, .int .i64 0, .int .i64 0, .int .i64 0, .int .i32 41, .int .i32 41, .bool true] 23)) := hb1.alloc hb1.size _
  have h2 := hx.trans (hb2.mono hx.size)
  have h3 := h2.trans (hb3.mono h2.size)
  have h4 := h3.trans (hb4.mono h3.size)
  exact h4.trans (hb5.mono h4.size)

theorem psame_any (r s : Int) (h1 : -2147483648 ≤ r) (h2 : r ≤ 2147483647) (h3 : -2147483648 ≤ s) (h4 : s ≤ 2147483647) (w : World) (hl : Laid w) :
    Calls Tryd.prog 15 #[.int .i32 r, .int .i32 s] w fun e w' => e = .returned (.bool (decide (propOf r = propOf s))) ∧ Below w.heap.size w w' := by
  have L0 := Lib.hid hl
  have Pr_ := Lib.hid (pOf_lit r h1 h2)
  have Ps := Lib.hid (pOf_lit s h3 h4)
  have he := propEql (propOf r) (propOf s)
  clear hl h1 h2 h3 h4
  generalize propOf r = p at *
  generalize propOf s = q at *
  go_enter Tryd.func15, Tryd.ntmps15
  go_wp2_with fail
  refine (Pr_.out _ L0.out).mono ?_
  rintro e w1 ⟨rfl, hb1⟩
  have L1 := Lib.hid (L0.out.pass hb1)
  go_wp2_with fail
  refine (Ps.out _ L1.out).mono ?_
  rintro e w2 ⟨rfl, hb2⟩
  go_wp2_with fail
  go_ret
  exact ⟨rfl, hb1.trans (hb2.mono hb1.size)⟩

set_option maxHeartbeats 1000000 in
theorem PropsTells_walk (r : Int) (hr : (Lit.int .i32 r).wf = true) (s : Int) (hs : (Lit.int .i32 s).wf = true) (w : World) (hl : Laid w) :
    Calls Tryd.prog 4 #[.int .i32 r, .int .i32 s] w fun e w' => e = .returned (.bool true) ∧ Below w.heap.size w w' := by
  obtain ⟨h1, h2⟩ := bounds_i32 hr
  obtain ⟨h3, h4⟩ := bounds_i32 hs
  have L0 := Lib.hid hl
  have Pr_ := Lib.hid (pOf_lit r h1 h2)
  have Rr := Lib.hid (rOf_lit r h1 h2)
  have Rs := Lib.hid (rOf_lit s h3 h4)
  have PS := Lib.hid (psame_any r s h1 h2 h3 h4)
  have he := propEql (propOf r) (propOf s)
  have he' := propEql (propOf r) (propOf r)
  rw [show decide (propOf r = propOf r) = true by simp] at he'
  clear hl h1 h2 h3 h4 hr hs
  generalize propOf r = p at *
  generalize propOf s = q at *
  go_enter Tryd.func4, Tryd.ntmps4
  go_wp2_with fail
  refine (Pr_.out _ L0.out).mono ?_
  rintro e w1 ⟨rfl, hb1⟩
  have L1 := Lib.hid (L0.out.pass hb1)
  go_wp2_with fail
  refine (Rr.out _).mono ?_
  rintro e w2 ⟨rfl, hb2⟩
  have L2 := Lib.hid (L1.out.pass hb2)
  go_wp2_with fail
  refine (PS.out _ L2.out).mono ?_
  rintro e w3 ⟨rfl, hb3⟩
  have L3 := Lib.hid (L2.out.pass hb3)
  go_wp2_with fail
  refine (Rr.out _).mono ?_
  rintro e w4 ⟨rfl, hb4⟩
  have L4 := Lib.hid (L3.out.pass hb4)
  go_wp2_with fail
  refine (Rs.out _).mono ?_
  rintro e w5 ⟨rfl, hb5⟩
  have L5 := Lib.hid (L4.out.pass hb5)
  go_wp2_with fail
  refine (pcanon_any _ _).mono ?_
  rintro e w6 ⟨rfl, hb6⟩
  have L6 := Lib.hid (L5.out.pass hb6)
  go_wp2_with fail
  refine (rcanon_any _ _).mono ?_
  rintro e w7 ⟨rfl, hb7⟩
  have L7 := Lib.hid (L6.out.pass hb7)
  go_wp2_with fail
  refine (alive4_any _ L7.out).mono ?_
  rintro e w8 ⟨rfl, hb8⟩
  go_wp2_with fail
  go_ret
  refine ⟨rfl, ?_⟩
  have x2 := hb1.trans (hb2.mono hb1.size)
  have x3 := x2.trans (hb3.mono x2.size)
  have x4 := x3.trans (hb4.mono x3.size)
  have x5 := x4.trans (hb5.mono x4.size)
  have x6 := x5.trans (hb6.mono x5.size)
  have x7 := x6.trans (hb7.mono x6.size)
  exact x7.trans (hb8.mono x7.size)

/-- the table's mirrors and pairs -/
theorem mirror_row : tab.all (fun x => decide ((x.2.2.mirror ≠ 0 → x.1 = x.2.1 ∧ (propOf x.2.2.mirror).mirror = x.1 ∧ 0 ≤ x.2.2.mirror ∧ x.2.2.mirror ≤ 100000) ∧ (x.2.2.pair = 0 → x.2.2.opens = false) ∧
    (x.2.2.pair ≠ 0 → x.1 = x.2.1 ∧ (propOf x.2.2.pair).pair = x.1 ∧ (propOf x.2.2.pair).opens ≠ x.2.2.opens ∧ 0 ≤ x.2.2.pair ∧ x.2.2.pair ≤ 100000))) = true := by decide +kernel
theorem mirror_laws (r : Int) : ((propOf r).mirror ≠ 0 → (propOf (propOf r).mirror).mirror = r ∧ 0 ≤ (propOf r).mirror ∧ (propOf r).mirror ≤ 100000) ∧ ((propOf r).pair = 0 → (propOf r).opens = false) ∧
    ((propOf r).pair ≠ 0 → (propOf (propOf r).pair).pair = r ∧ (propOf (propOf r).pair).opens ≠ (propOf r).opens ∧ 0 ≤ (propOf r).pair ∧ (propOf r).pair ≤ 100000) := by
  cases hl : look tab r with
  | none => rw [propOf_none hl]; simp [Pr.rest]
  | some p =>
    obtain ⟨lo, hi, h1, h2, h3⟩ := look_mem _ _ _ hl
    have h := of_decide_eq_true (List.all_eq_true.1 mirror_row _ h1)
    simp only at h
    obtain ⟨k1, k2, k3⟩ := h
    have e : (propOf r).mirror = p.mirror ∧ (propOf r).pair = p.pair ∧ (propOf r).opens = p.opens := by
      rw [propOf_some hl]; split <;> exact ⟨rfl, rfl, rfl⟩
    rw [e.1, e.2.1, e.2.2]
    refine ⟨fun h => ?_, k2, fun h => ?_⟩
    · have := k1 h; exact ⟨by omega, this.2.2⟩
    · have := k3 h; exact ⟨by omega, this.2.2⟩
end Go.Proofs.YtajippjknikciaaDoor
