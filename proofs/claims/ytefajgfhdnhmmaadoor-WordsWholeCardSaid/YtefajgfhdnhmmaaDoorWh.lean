/- Chapter 8: what bridges, what hangs together: the program's way. -/
import Derived.Test.YtefajgfhdnhmmaaDoorWk
namespace Go.Proofs.YtefajgfhdnhmmaaDoor
open Go.ChangeShapes Go.WideShapes Go.ChangeAt Go.RowKit
set_option maxRecDepth 100000
set_option linter.unusedSimpArgs false

theorem box_keepW {w w1 : World} {cs : Array Value} {t : TypeId} (h : Below (w.heap.size + 1) (w.alloc (.cells cs t)) w1) (o : Nat) : w1.cell? ⟨w.heap.size, o, none⟩ = cs[o]? :=
  (h.cell (p := ⟨w.heap.size, o, none⟩) (Nat.lt_succ_self _)).trans (by rw [cell_of_row _ _ _ _ _ _ (heap_alloc_new w _)])
theorem box_belowW {w w1 : World} {o : Obj} (h : Below (w.heap.size + 1) (w.alloc o) w1) : Below w.heap.size w w1 := (below_alloc w o).trans (h.mono (Nat.le_succ _))
theorem box_stepW {w w1 w2 : World} {o : Obj} (h : Below (w.heap.size + 1) (w.alloc o) w1) (h2 : Below w1.heap.size w1 w2) : Below (w.heap.size + 1) (w.alloc o) w2 := h.trans (h2.mono (by have := h.size; simpa using this))

set_option maxHeartbeats 4000000 in
theorem pbridge_any (Ac : Option Addr) (nc cc : Nat) (Ak : Option Addr) (nk ck : Nat) (K : List Int) (i : Nat) (two mid : Int) (w : World) (hk : IntsAt w w.heap.size .i64 Ak nk K) (hn : nk ≤ 140737488355328) (hi : i ≤ 140737488355328) :
    Calls Tryd.prog 86 #[.agg #[.slice Ac nc cc, .slice Ak nk ck], .int .i64 (i : Int), .int .i64 two, .int .i64 mid] w fun e w' => e = .returned (.bool (brB (kat K ((i : Int) - 1)) (kat K (i : Int)) (kat K ((i : Int) + 1)) (kat K ((i : Int) + 2)) two mid)) ∧ Below w.heap.size w w' := by
  have PA := Lib.hid (fun (W : World) (j : Int) (hb : Below (w.heap.size + 1) (w.alloc (.cells #[.slice Ac nc cc, .slice Ak nk ck] 75)) W) =>
    (pat_any Ac nc cc Ak nk ck K j W (hk.later (box_belowW hb)) hn).mono fun e w' (h : e = .returned (.int .i64 (kat K j)) ∧ Below W.heap.size W w') => (⟨h.1, box_stepW hb h.2⟩ : e = .returned (.int .i64 (kat K j)) ∧ Below (w.heap.size + 1) (w.alloc (.cells #[.slice Ac nc cc, .slice Ak nk ck] 75)) w'))
  have hb0 : Below (w.heap.size + 1) (w.alloc (.cells #[.slice Ac nc cc, .slice Ak nk ck] 75)) (w.alloc (.cells #[.slice Ac nc cc, .slice Ak nk ck] 75)) := Below.refl _ _
  clear hk
  go_enter Tryd.func86, Tryd.ntmps86
  go_wp2_with (go_at_call 85; refine (PA.out _ _ (by assumption)).mono ?_; rintro e w1 ⟨rfl, h1⟩; have q0 := box_keepW h1 0; have q1 := box_keepW h1 1)
  all_goals go_ret
  all_goals refine ⟨retb ?_, box_belowW (by assumption)⟩
  all_goals simp_all [brB]
theorem whang_succ (K : List Int) (i : Nat) : whang K (i + 1) = whB (kat K ((i : Int) - 1)) (kat K (i : Int)) (kat K ((i : Int) + 1)) (kat K ((i : Int) + 2)) := by
  unfold whang
  rw [show ((i + 1 : Nat) : Int) - 2 = (i : Int) - 1 by omega, show ((i + 1 : Nat) : Int) - 1 = (i : Int) by omega, show ((i + 1 : Nat) : Int) = (i : Int) + 1 by omega, show (i : Int) + 1 + 1 = (i : Int) + 2 by omega]

set_option maxHeartbeats 8000000 in
theorem phangsW_any (Ac : Option Addr) (nc cc : Nat) (Ak : Option Addr) (nk ck : Nat) (K : List Int) (i : Nat) (w : World) (hk : IntsAt w w.heap.size .i64 Ak nk K) (hn : nk ≤ 140737488355328) (hi : i ≤ 140737488355328) :
    Calls Tryd.prog 54 #[.agg #[.slice Ac nc cc, .slice Ak nk ck], .int .i64 (i : Int)] w fun e w' => e = .returned (.bool (whang K (i + 1))) ∧ Below w.heap.size w w' := by
  have PB := Lib.hid (fun (W : World) (two mid : Int) (hb : Below (w.heap.size + 1) (w.alloc (.cells #[.slice Ac nc cc, .slice Ak nk ck] 75)) W) =>
    (pbridge_any Ac nc cc Ak nk ck K i two mid W (hk.later (box_belowW hb)) hn hi).mono fun e w' (h : e = .returned (.bool (brB (kat K ((i : Int) - 1)) (kat K (i : Int)) (kat K ((i : Int) + 1)) (kat K ((i : Int) + 2)) two mid)) ∧ Below W.heap.size W w') =>
      (⟨h.1, box_stepW hb h.2⟩ : e = .returned (.bool (brB (kat K ((i : Int) - 1)) (kat K (i : Int)) (kat K ((i : Int) + 1)) (kat K ((i : Int) + 2)) two mid)) ∧ Below (w.heap.size + 1) (w.alloc (.cells #[.slice Ac nc cc, .slice Ak nk ck] 75)) w'))
  have PA := Lib.hid (fun (j : Int) (N : Later (w.alloc (.cells #[.slice Ac nc cc, .slice Ak nk ck] 75))) => pat_any Ac nc cc Ak nk ck K j N.1 (hk.later (box_belowW (by simpa using N.2))) hn)
  have hb0 : Below (w.heap.size + 1) (w.alloc (.cells #[.slice Ac nc cc, .slice Ak nk ck] 75)) (w.alloc (.cells #[.slice Ac nc cc, .slice Ak nk ck] 75)) := Below.refl _ _
  have k0 : ∀ N : Later (w.alloc (.cells #[.slice Ac nc cc, .slice Ak nk ck] 75)), N.1.cell? ⟨w.heap.size, 0, none⟩ = some (.slice Ac nc cc) := fun N => box_keepW (by simpa using N.2) 0
  have k1 : ∀ N : Later (w.alloc (.cells #[.slice Ac nc cc, .slice Ak nk ck] 75)), N.1.cell? ⟨w.heap.size, 1, none⟩ = some (.slice Ak nk ck) := fun N => box_keepW (by simpa using N.2) 1
  rw [whang_succ]
  generalize kat K ((i : Int) - 1) = p at *
  have PA1 := Lib.hid (PA.out (i : Int))
  have PA2 := Lib.hid (PA.out ((i : Int) + 1))
  generalize kat K (i : Int) = a at *
  generalize kat K ((i : Int) + 1) = b at *
  generalize kat K ((i : Int) + 2) = q at *
  clear hk PA
  go_enter Tryd.func54, Tryd.ntmps54
  go_wp2_with fail
  refine wp_region_later (by kernel_rfl) (by kernel_rfl) ?_
  repeat (go_big_quiet_step ((first | (go_at_call 85; with_reducible exact quiet_later (PA1.out _)) | (go_at_call 85; with_reducible exact quiet_later (PA2.out _)))))
  refine wpQuiet_nil ?_
  intro _ hw'
  obtain ⟨nq, hw''⟩ := hw'
  subst hw''
  have hb1 : Below (w.heap.size + 1) (w.alloc (.cells #[.slice Ac nc cc, .slice Ak nk ck] 75)) nq.1 := by simpa using nq.2
  have q0 := k0 nq
  have q1 := k1 nq
  generalize nq.1 = W at *
  clear k0 k1 PA1 PA2 nq
  cases hsa : solB a
  all_goals cases hsb : solB b
  all_goals go_wp2_with (first
    | (go_at_call 50; refine (letters_any _ _).mono ?_; rintro e w' ⟨rfl, rfl⟩)
    | (go_at_call 86; refine (PB.out _ _ _ (by assumption)).mono ?_; rintro e w1 ⟨rfl, h1⟩; have q0 := box_keepW h1 0; have q1 := box_keepW h1 1))
  all_goals go_ret
  all_goals refine ⟨retb ?_, box_belowW (by assumption)⟩
  all_goals try simp only [beq_iff_eq, beq_eq_false_iff_ne] at *
  all_goals simp_all [whB]
end Go.Proofs.YtefajgfhdnhmmaaDoor
