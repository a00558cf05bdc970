/- Which code points need a glyph: both functions, and the law's walk. -/
import Derived.Test.YtajippjknikciaaDoorPof
import Derived.Test.YtajippjknikciaaDoorLib
namespace Go.Proofs.YtajippjknikciaaDoor
open Go.ChangeShapes Go.WideShapes Go.ChangeAt Go.RowKit
set_option maxRecDepth 100000

def needsP (p : Pr) : Bool := !(p.cluster == 1 || p.cluster == 2 || p.cluster == 3 || p.cluster == 5) && (p.bidi != 10 && decide (p.bidi < 15))
def needsB (r : Int) : Bool := needsP (propOf r)

theorem pOf_lit (r : Int) (hlo : -2147483648 ≤ r) (hhi : r ≤ 2147483647) (w : World) (hl : Laid w) :
    Calls Tryd.prog 12 #[.int .i32 r] w fun e w' => e = .returned (.agg #[.int .i64 (propOf r).bidi, .int .i64 (propOf r).cluster, .int .i64 (propOf r).brk, .int .i64 (propOf r).script, .int .i64 (propOf r).join, .int .i64 (propOf r).word, .int .i32 (propOf r).mirror, .int .i32 (propOf r).pair, .bool (propOf r).opens]) ∧ Below w.heap.size w w' :=
  pOf_any r hlo hhi w hl
theorem rOf_lit (r : Int) (hlo : -2147483648 ≤ r) (hhi : r ≤ 2147483647) (w : World) :
    Calls Tryd.prog 14 #[.int .i32 r] w fun e w' => e = .returned (.agg #[.int .i64 (propOf r).bidi, .int .i64 (propOf r).cluster, .int .i64 (propOf r).brk, .int .i64 (propOf r).script, .int .i64 (propOf r).join, .int .i64 (propOf r).word, .int .i32 (propOf r).mirror, .int .i32 (propOf r).pair, .bool (propOf r).opens]) ∧ Below w.heap.size w w' :=
  rOf_any r hlo hhi w

theorem bidi_le (r : Int) : (propOf r).bidi ≤ 23 := by
  have h : tab.all (fun x => decide (x.2.2.bidi ≤ 23)) = true := by decide +kernel
  cases hl : look tab r with
  | none => rw [propOf_none hl]; decide
  | some p =>
    obtain ⟨lo, hi, h1, _, _⟩ := look_mem _ _ _ hl
    have := of_decide_eq_true (List.all_eq_true.1 h _ h1)
    rw [propOf_some hl]
    split <;> exact this

/-- a field of a struct by value -/
@[go_sem] theorem fld_bidi (a b c d e f g h : Int) (o : Bool) (w : World) : (Instr.field 23 (.agg #[.int .i64 a, .int .i64 b, .int .i64 c, .int .i64 d, .int .i64 e, .int .i64 f, .int .i32 g, .int .i32 h, .bool o]) 0).run Tryd.prog w = .ok (.int .i64 a) w := by kernel_rfl
@[go_sem] theorem fld_cluster (a b c d e f g h : Int) (o : Bool) (w : World) : (Instr.field 23 (.agg #[.int .i64 a, .int .i64 b, .int .i64 c, .int .i64 d, .int .i64 e, .int .i64 f, .int .i32 g, .int .i32 h, .bool o]) 1).run Tryd.prog w = .ok (.int .i64 b) w := by kernel_rfl
@[go_sem] theorem fld_brk (a b c d e f g h : Int) (o : Bool) (w : World) : (Instr.field 23 (.agg #[.int .i64 a, .int .i64 b, .int .i64 c, .int .i64 d, .int .i64 e, .int .i64 f, .int .i32 g, .int .i32 h, .bool o]) 2).run Tryd.prog w = .ok (.int .i64 c) w := by kernel_rfl
@[go_sem] theorem fld_script (a b c d e f g h : Int) (o : Bool) (w : World) : (Instr.field 23 (.agg #[.int .i64 a, .int .i64 b, .int .i64 c, .int .i64 d, .int .i64 e, .int .i64 f, .int .i32 g, .int .i32 h, .bool o]) 3).run Tryd.prog w = .ok (.int .i64 d) w := by kernel_rfl
@[go_sem] theorem fld_join (a b c d e f g h : Int) (o : Bool) (w : World) : (Instr.field 23 (.agg #[.int .i64 a, .int .i64 b, .int .i64 c, .int .i64 d, .int .i64 e, .int .i64 f, .int .i32 g, .int .i32 h, .bool o]) 4).run Tryd.prog w = .ok (.int .i64 e) w := by kernel_rfl
@[go_sem] theorem fld_word (a b c d e f g h : Int) (o : Bool) (w : World) : (Instr.field 23 (.agg #[.int .i64 a, .int .i64 b, .int .i64 c, .int .i64 d, .int .i64 e, .int .i64 f, .int .i32 g, .int .i32 h, .bool o]) 5).run Tryd.prog w = .ok (.int .i64 f) w := by kernel_rfl
@[go_sem] theorem fld_mirror (a b c d e f g h : Int) (o : Bool) (w : World) : (Instr.field 23 (.agg #[.int .i64 a, .int .i64 b, .int .i64 c, .int .i64 d, .int .i64 e, .int .i64 f, .int .i32 g, .int .i32 h, .bool o]) 6).run Tryd.prog w = .ok (.int .i32 g) w := by kernel_rfl
@[go_sem] theorem fld_pair (a b c d e f g h : Int) (o : Bool) (w : World) : (Instr.field 23 (.agg #[.int .i64 a, .int .i64 b, .int .i64 c, .int .i64 d, .int .i64 e, .int .i64 f, .int .i32 g, .int .i32 h, .bool o]) 7).run Tryd.prog w = .ok (.int .i32 h) w := by kernel_rfl
@[go_sem] theorem fld_opens (a b c d e f g h : Int) (o : Bool) (w : World) : (Instr.field 23 (.agg #[.int .i64 a, .int .i64 b, .int .i64 c, .int .i64 d, .int .i64 e, .int .i64 f, .int .i32 g, .int .i32 h, .bool o]) 8).run Tryd.prog w = .ok (.bool o) w := by kernel_rfl

set_option maxHeartbeats 1000000 in
theorem pNeeds_any (r : Int) (hlo : -2147483648 ≤ r) (hhi : r ≤ 2147483647) (w : World) (hl : Laid w) :
    Calls Tryd.prog 34 #[.int .i32 r] w fun e w' => e = .returned (.bool (needsB r)) ∧ Below w.heap.size w w' := by
  have O := Lib.hid (pOf_lit r hlo hhi w hl)
  have hb := bidi_le r
  have HE : needsB r = needsP (propOf r) := rfl
  rw [HE]
  clear HE hl
  generalize propOf r = p at *
  go_enter Tryd.func34, Tryd.ntmps34
  go_wp2_with (go_at_call 12; refine O.out.mono ?_; rintro e w1 ⟨rfl, hbw1⟩)
  all_goals go_ret
  all_goals refine ⟨retb ?_, hbw1.alloc hbw1.size _⟩
  all_goals clear O hbw1
  all_goals rw [Bool.eq_iff_iff]
  all_goals simp only [beq_iff_eq, beq_eq_false_iff_ne] at *
  all_goals simp [needsP]
  all_goals omega

set_option maxHeartbeats 1000000 in
theorem rNeeds_any (r : Int) (hlo : -2147483648 ≤ r) (hhi : r ≤ 2147483647) (w : World) :
    Calls Tryd.prog 35 #[.int .i32 r] w fun e w' => e = .returned (.bool (needsB r)) ∧ Below w.heap.size w w' := by
  have O := Lib.hid (rOf_lit r hlo hhi w)
  have HE : needsB r = needsP (propOf r) := rfl
  rw [HE]
  clear HE
  generalize propOf r = p at *
  go_enter Tryd.func35, Tryd.ntmps35
  go_wp2_with (go_at_call 14; refine O.out.mono ?_; rintro e w1 ⟨rfl, hbw1⟩)
  all_goals go_ret
  all_goals refine ⟨retb ?_, hbw1.alloc hbw1.size _⟩
  all_goals clear O hbw1
  all_goals rw [Bool.eq_iff_iff]
  all_goals simp only [beq_iff_eq, beq_eq_false_iff_ne] at *
  all_goals simp [needsP]
  all_goals omega

theorem FallbackNeeds_walk (r : Int) (hr : (Lit.int .i32 r).wf = true) (w : World) (hl : Laid w) :
    Calls Tryd.prog 11 #[.int .i32 r] w fun e w' => e = .returned (.bool true) ∧ Below w.heap.size w w' := by
  obtain ⟨hlo, hhi⟩ := bounds_i32 hr
  have P := Lib.hid (pNeeds_any r hlo hhi w hl)
  have R := Lib.hid (rNeeds_any r hlo hhi)
  clear hr hl
  generalize needsB r = b at *
  go_enter Tryd.func11, Tryd.ntmps11
  go_wp2_with (first
    | (go_at_call 34; refine P.out.mono ?_; rintro e w1 ⟨rfl, hb1⟩)
    | (go_at_call 35; refine (R.out _).mono ?_; rintro e w2 ⟨rfl, hb2⟩))
  go_ret
  exact ⟨retb (by simp), hb1.trans (hb2.mono hb1.size)⟩
end Go.Proofs.YtajippjknikciaaDoor
