/- Which code points need a glyph: both functions. -/
import Derived.Test.YtefajgfhdnhmmaaDoorOfs
namespace Go.Proofs.YtefajgfhdnhmmaaDoor
open Go.ChangeShapes Go.WideShapes Go.ChangeAt Go.RowKit
set_option maxRecDepth 100000

def needsP (p : Pr) : Bool := !(p.cluster == 1 || p.cluster == 2 || p.cluster == 3 || p.cluster == 5) && (p.bidi != 10 && decide (p.bidi < 15))
def needsB (r : Int) : Bool := needsP (propOf r)

set_option maxHeartbeats 1000000 in
theorem pNeeds_any (r : Int) (hlo : -2147483648 ≤ r) (hhi : r ≤ 2147483647) (w : World) (hl : Laid w) :
    Calls Tryd.prog 73 #[.int .i32 r] w fun e w' => e = .returned (.bool (needsB r)) ∧ Below w.heap.size w w' := by
  have O := Lib.hid (pOf_lit r hlo hhi w hl)
  have hb := bidi_le r
  have HE : needsB r = needsP (propOf r) := rfl
  rw [HE]
  clear HE hl
  generalize propOf r = p at *
  go_enter Tryd.func73, Tryd.ntmps73
  go_wp2_with (go_at_call 48; refine O.out.mono ?_; rintro e w1 ⟨rfl, hbw1⟩)
  all_goals go_ret
  all_goals refine ⟨retb ?_, hbw1.alloc hbw1.size _⟩
  all_goals clear O hbw1
  all_goals rw [Bool.eq_iff_iff]
  all_goals simp only [beq_iff_eq, beq_eq_false_iff_ne] at *
  all_goals simp [needsP]
  all_goals omega

set_option maxHeartbeats 1000000 in
theorem rNeeds_any (r : Int) (hlo : -2147483648 ≤ r) (hhi : r ≤ 2147483647) (w : World) :
    Calls Tryd.prog 111 #[.int .i32 r] w fun e w' => e = .returned (.bool (needsB r)) ∧ Below w.heap.size w w' := by
  have O := Lib.hid (rOf_lit r hlo hhi w)
  have HE : needsB r = needsP (propOf r) := rfl
  rw [HE]
  clear HE
  generalize propOf r = p at *
  go_enter Tryd.func111, Tryd.ntmps111
  go_wp2_with (go_at_call 76; refine O.out.mono ?_; rintro e w1 ⟨rfl, hbw1⟩)
  all_goals go_ret
  all_goals refine ⟨retb ?_, hbw1.alloc hbw1.size _⟩
  all_goals clear O hbw1
  all_goals rw [Bool.eq_iff_iff]
  all_goals simp only [beq_iff_eq, beq_eq_false_iff_ne] at *
  all_goals simp [needsP]
  all_goals omega

end Go.Proofs.YtefajgfhdnhmmaaDoor
