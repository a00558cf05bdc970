/- Chapter 8: which clusters hang together, where words part: the reference's way. -/
import Derived.Test.YtefajgfhdnhmmaaDoorWf
namespace Go.Proofs.YtefajgfhdnhmmaaDoor
open Go.ChangeShapes Go.WideShapes Go.ChangeAt Go.RowKit
set_option maxRecDepth 100000
set_option linter.unusedSimpArgs false

set_option maxHeartbeats 8000000 in
theorem rwhang_any (Ak : Option Addr) (nk ck : Nat) (K : List Int) (j : Nat) (hj : j + 1 < nk) (w : World) (hk : IntsAt w w.heap.size .i64 Ak nk K) (hn : nk ≤ 140737488355328) :
    Calls Tryd.prog 57 #[.slice Ak nk ck, .int .i64 ((j : Int) + 1)] w fun e w' => e = .returned (.bool (whang K (j + 1))) ∧ Below w.heap.size w w' := by
  have HE := Lib.hid (fun (own mid : Int) (ho : 0 ≤ own) (hne : own ≠ mid) (n : Nat) => (rheld_any Ak nk ck K j hj own mid ho (w.drewN n) hk hn).mono fun e w' (h : e = .returned (.bool (heldB (kat K ((j : Int) - 1)) (kat K (j : Int)) (kat K ((j : Int) + 1)) (kat K ((j : Int) + 2)) own mid)) ∧ w.drewN n = w') =>
    (show e = .returned (.bool (brB (kat K ((j : Int) - 1)) (kat K (j : Int)) (kat K ((j : Int) + 1)) (kat K ((j : Int) + 2)) own mid)) ∧ w.drewN n = w' by rw [← held_br _ _ _ _ _ _ hne]; exact h))
  have H1 := Lib.hid (HE.out 1 3 (by omega) (by omega))
  have H2 := Lib.hid (HE.out 2 4 (by omega) (by omega))
  rw [whang_succ]
  have HL := Lib.hid hk.1
  obtain ⟨ad, rfl, hab, hcx⟩ := hk.2 (by omega)
  have c0 := hcx j (by omega)
  have c1 := hcx (j + 1) hj
  have e0 := kat_in (K := K) (i := j) (by rw [HL.out]; omega)
  have e1 := kat_in (K := K) (i := j + 1) (by rw [HL.out]; exact hj)
  rw [show ((j + 1 : Nat) : Int) = (j : Int) + 1 by omega] at e1
  rw [← e0] at c0
  rw [← e1, add_succ] at c1
  have p0 : (0 : Int) ≤ (j : Int) := by omega
  have p1 : (j : Int) < (nk : Int) := by omega
  have p2 : (0 : Int) ≤ (j : Int) + 1 := by omega
  have p3 : (j : Int) + 1 < (nk : Int) := by omega
  have p4 : IntKind.i64.wrap (j : Int) = (j : Int) := IntWalk.i64_in _ (by omega)
  clear hcx hk e0 e1 HE
  generalize kat K ((j : Int) - 1) = p at *
  generalize kat K (j : Int) = a at *
  generalize kat K ((j : Int) + 1) = b at *
  generalize kat K ((j : Int) + 2) = q at *
  go_enter Tryd.func57, Tryd.ntmps57
  go_wp2_with fail
  go_quiet (fail)
  clear p4
  cases hsa : solB a
  all_goals cases hsb : solB b
  all_goals go_wp2_with (first
    | (go_at_call 52; refine (solid_any _ _).mono ?_; rintro e w' ⟨rfl, rfl⟩)
    | (go_at_call 88; (with_reducible refine (H1.out _).mono ?_); rintro e w' ⟨rfl, rfl⟩)
    | (go_at_call 88; (with_reducible refine (H2.out _).mono ?_); rintro e w' ⟨rfl, rfl⟩))
  all_goals go_ret
  all_goals refine ⟨retb ?_, below_drewN (Below.refl _ _) _⟩
  all_goals try simp only [beq_iff_eq, beq_eq_false_iff_ne] at *
  all_goals simp_all [whB]
end Go.Proofs.YtefajgfhdnhmmaaDoor
