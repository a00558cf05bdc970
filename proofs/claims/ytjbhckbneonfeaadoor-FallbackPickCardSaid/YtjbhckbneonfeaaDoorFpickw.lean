/- The walk of FallbackPick. -/
import Derived.Test.YtjbhckbneonfeaaDoorFpickr
namespace Go.Proofs.YtjbhckbneonfeaaDoor
open Go.ChangeShapes Go.WideShapes Go.ChangeAt Go.RowKit
set_option maxRecDepth 100000
set_option linter.unusedSimpArgs false

set_option maxHeartbeats 4000000 in
theorem FallbackPick_walk (A : Option Addr) (n c : Nat) (fs : List Fd) (A2 : Option Addr) (n2 c2 : Nat) (xs : List Int) (p q : Int) (w : World) (hF : FontsAt w w.heap.size A n fs) (hx : SliceIn .i32 w A2 n2 c2 xs) (hl : Laid w) :
    Calls Tryd.prog 4 #[.slice A n c, .slice A2 n2 c2, .agg #[.int .i64 p, .int .i64 q]] w fun e w' => e = .returned (.bool true) ∧ Below w.heap.size w w' := by
  have B0 : Below (w.heap.size + 1) (w.alloc (.cells #[.int .i64 p, .int .i64 q] 32)) (w.alloc (.cells #[.int .i64 p, .int .i64 q] 32)) := Below.refl _ _
  have HB0 := Lib.hid B0
  have MA := Lib.hid (many_any A n c fs (w.alloc (.cells #[.int .i64 p, .int .i64 q] 32)) (hF.later (box_belowF B0)))
  have HF := Lib.hid hF
  have HX := Lib.hid hx
  have HL := Lib.hid hl
  have HN := Lib.hid hF.1
  clear B0 hF hx hl
  cases hmany : manyB fs
  · rw [hmany] at MA
    by_cases h2 : 20 < n2
    · go_enter Tryd.func4, Tryd.ntmps4
      go_wp2_with fail
      refine MA.out.mono ?_
      rintro e w1 ⟨rfl, hb1⟩
      have HB := Lib.hid (box_stepF HB0.out hb1)
      clear hb1
      go_wp2_with fail
      go_ret
      exact ⟨rfl, box_belowF HB.out⟩
    · obtain ⟨h4, hm⟩ := manyB_mn hmany
      rw [HN.out] at h4 hm
      have HM := Lib.hid hm
      clear hm
      go_enter Tryd.func4, Tryd.ntmps4
      go_wp2_with fail
      refine MA.out.mono ?_
      rintro e w1 ⟨rfl, hb1⟩
      have hb := box_stepF HB0.out hb1
      have HB := Lib.hid hb
      have d0 := later_cell (box_keepF hb 0)
      have d1 := later_cell (box_keepF hb 1)
      have P1 := Lib.hid (fun N : Later w1 => ppick_any A n c fs p A2 n2 c2 xs q N.1 ((HF.out.later (box_belowF hb)).later N.2) ((HX.out.pass (box_belowF hb)).pass N.2) ((HL.out.pass (box_belowF hb)).pass N.2) (fun j hj => Nat.le_trans (HM.out j hj) (by omega)) (by omega) (by omega))
      have P2 := Lib.hid (fun N : Later w1 => rpick_any A n c fs p A2 n2 c2 xs q N.1 ((HF.out.later (box_belowF hb)).later N.2) ((HX.out.pass (box_belowF hb)).pass N.2) (fun j hj => Nat.le_trans (HM.out j hj) (by omega)) (by omega) (by omega))
      obtain ⟨v, hv⟩ : ∃ v, pickV fs p xs q = v := ⟨_, rfl⟩
      rw [hv] at P1 P2
      clear hb1 hb hv hmany
      go_wp2_with fail
      refine wp_region_later (by kernel_rfl) (by kernel_rfl) ?_
      repeat (go_big_quiet_step ((first | (go_at_call 8; with_reducible exact quiet_later (P1.out _)) | (go_at_call 9; with_reducible exact quiet_later (P2.out _)))))
      refine wpQuiet_nil ?_
      intro _ hw'
      obtain ⟨nq, hw''⟩ := hw'
      subst hw''
      have HB2 := Lib.hid (box_stepF HB.out nq.2)
      go_wp2_with fail
      go_ret
      exact ⟨retb (by simp), box_belowF HB2.out⟩
  · rw [hmany] at MA
    go_enter Tryd.func4, Tryd.ntmps4
    go_wp2_with fail
    refine MA.out.mono ?_
    rintro e w1 ⟨rfl, hb1⟩
    have HB := Lib.hid (box_stepF HB0.out hb1)
    clear hb1
    go_wp2_with fail
    go_ret
    exact ⟨rfl, box_belowF HB.out⟩
end Go.Proofs.YtjbhckbneonfeaaDoor
