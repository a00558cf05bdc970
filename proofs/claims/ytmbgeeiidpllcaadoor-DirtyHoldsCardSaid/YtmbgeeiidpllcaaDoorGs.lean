/- Chapter 7: what hangs together, and which places are boundaries, both ways. -/
import Derived.Test.YtmbgeeiidpllcaaDoorGr
namespace Go.Proofs.YtmbgeeiidpllcaaDoor
open Go.ChangeShapes Go.WideShapes Go.ChangeAt Go.RowKit
set_option maxRecDepth 100000
set_option linter.unusedSimpArgs false

set_option maxHeartbeats 4000000 in
theorem phangs_any (A : Option Addr) (n c : Nat) (xs : List Int) (m : Nat) (hm : m + 1 < n) (w : World) (hx : SliceIn .i32 w A n c xs) (hl : Laid w) (hn : n ≤ 140737488355328) :
    Calls Tryd.prog 26 #[.slice A n c, .int .i64 ((m : Int) + 1)] w fun e w' => e = .returned (.bool (hangAt (ks xs) (m + 1))) ∧ Below w.heap.size w w' := by
  have HX := Lib.hid hx
  have HL := Lib.hid hl
  have HLEN := Lib.hid hx.at_.len
  obtain ⟨ad, rfl, hab, hcx⟩ := hx.at_.2 (by omega)
  have hc0 := hcx m (by omega)
  have hc1 := hcx (m + 1) hm
  rw [add_succ] at hc1
  obtain ⟨g1, g2⟩ := bounds_i32 (hx.nth_wf (i := m) (by omega))
  obtain ⟨g3, g4⟩ := bounds_i32 (hx.nth_wf hm)
  have C0 := Lib.hid (fun N : Later w => pclass_any (nth xs m) g1 g2 N.1 (HL.out.pass N.2))
  have C1 := Lib.hid (fun N : Later w => pclass_any (nth xs (m + 1)) g3 g4 N.1 (HL.out.pass N.2))
  have PIC := Lib.hid (fun w' (hb : Below w.heap.size w w') => ppic_any (some ad) n c xs m (by omega) w' (HX.out.pass hb) (HL.out.pass hb) hn)
  have REG := Lib.hid (fun w' (hb : Below w.heap.size w w') => preg_any (some ad) n c xs (m + 1) (by omega) w' (HX.out.pass hb) (HL.out.pass hb) hn)
  have e1 : ((m + 1 : Nat) : Int) = (m : Int) + 1 := by omega
  rw [e1] at REG
  have e2 : hangAt (ks xs) (m + 1) = hngB (clu (nth xs m)) (clu (nth xs (m + 1))) (picAt (ks xs) m) (regs (ks xs) (m + 1) % 2 == 1) := by
    unfold hangAt
    rw [Nat.add_sub_cancel, ks_at (by rw [HLEN.out]; omega), ks_at (by rw [HLEN.out]; exact hm)]
  rw [e2]
  have pm : (0 : Int) ≤ (m : Int) := by omega
  have pm2 : (m : Int) + 1 < (n : Int) := by omega
  clear e1 e2 hx hl hcx g1 g2 g3 g4
  generalize clu (nth xs m) = a at *
  generalize clu (nth xs (m + 1)) = b at *
  generalize nth xs m = ra at *
  generalize nth xs (m + 1) = rb at *
  generalize picAt (ks xs) m = pic at *
  generalize regs (ks xs) (m + 1) = rg at *
  have k0 := later_cell hc0
  have k1 := later_cell hc1
  clear hc0 hc1
  rw [← hng_same]
  go_enter Tryd.func26, Tryd.ntmps26
  go_wp2_with fail
  refine wp_region_later (by kernel_rfl) (by kernel_rfl) ?_
  repeat (go_big_quiet_step ((first | (go_at_call 32; with_reducible exact quiet_later (C0.out _)) | (go_at_call 32; with_reducible exact quiet_later (C1.out _)))))
  refine wpQuiet_nil ?_
  intro _ hw'
  obtain ⟨nq, hw''⟩ := hw'
  subst hw''
  have x := nq.2
  clear k0 k1
  go_wp2_with (first
    | (go_at_call 33; refine (phard_any _ _).mono ?_; rintro e v ⟨rfl, hv⟩; replace x := x.trans (hv.mono x.size); clear hv)
    | (go_at_call 34; refine (phgl_any _ _ _).mono ?_; rintro e v ⟨rfl, hv⟩; replace x := x.trans (hv.mono x.size); clear hv)
    | (go_at_call 35; refine (PIC.out _ x).mono ?_; rintro e v ⟨rfl, hv⟩; replace x := x.trans (hv.mono x.size); clear hv)
    | (go_at_call 36; refine (REG.out _ x).mono ?_; rintro e v ⟨rfl, hv⟩; replace x := x.trans (hv.mono x.size); clear hv))
  all_goals go_ret
  all_goals refine ⟨retb ?_, x⟩
  all_goals clear x C0 C1 PIC REG HX HLEN pm pm2
  all_goals try simp only [beq_iff_eq, beq_eq_false_iff_ne] at *
  all_goals simp_all [hngP]

set_option maxHeartbeats 4000000 in
theorem rhangs_any (A : Option Addr) (n c : Nat) (xs : List Int) (m : Nat) (hm : m + 1 < n) (w : World) (hx : SliceIn .i32 w A n c xs) (hn : n ≤ 140737488355328) :
    Calls Tryd.prog 67 #[.slice A n c, .int .i64 ((m : Int) + 1)] w fun e w' => e = .returned (.bool (hangAt (ks xs) (m + 1))) ∧ Below w.heap.size w w' := by
  have HX := Lib.hid hx
  have HLEN := Lib.hid hx.at_.len
  obtain ⟨ad, rfl, hab, hcx⟩ := hx.at_.2 (by omega)
  have hc0 := hcx m (by omega)
  have hc1 := hcx (m + 1) hm
  rw [add_succ] at hc1
  obtain ⟨g1, g2⟩ := bounds_i32 (hx.nth_wf (i := m) (by omega))
  obtain ⟨g3, g4⟩ := bounds_i32 (hx.nth_wf hm)
  have C0 := Lib.hid (fun N : Later w => rclass_any (nth xs m) g1 g2 N.1)
  have C1 := Lib.hid (fun N : Later w => rclass_any (nth xs (m + 1)) g3 g4 N.1)
  have PIC := Lib.hid (fun w' (hb : Below w.heap.size w w') => rpic_any (some ad) n c xs m (by omega) w' (HX.out.pass hb) hn)
  have REG := Lib.hid (fun w' (hb : Below w.heap.size w w') => rreg_any (some ad) n c xs (m + 1) (by omega) w' (HX.out.pass hb) hn)
  have e1 : ((m + 1 : Nat) : Int) = (m : Int) + 1 := by omega
  rw [e1] at REG
  have e2 : hangAt (ks xs) (m + 1) = hngB (clu (nth xs m)) (clu (nth xs (m + 1))) (picAt (ks xs) m) (regs (ks xs) (m + 1) % 2 == 1) := by
    unfold hangAt
    rw [Nat.add_sub_cancel, ks_at (by rw [HLEN.out]; omega), ks_at (by rw [HLEN.out]; exact hm)]
  rw [e2]
  have pm : (0 : Int) ≤ (m : Int) := by omega
  have pm2 : (m : Int) + 1 < (n : Int) := by omega
  clear e1 e2 hx hcx g1 g2 g3 g4
  generalize clu (nth xs m) = a at *
  generalize clu (nth xs (m + 1)) = b at *
  generalize nth xs m = ra at *
  generalize nth xs (m + 1) = rb at *
  generalize picAt (ks xs) m = pic at *
  generalize regs (ks xs) (m + 1) = rg at *
  have k0 := later_cell hc0
  have k1 := later_cell hc1
  clear hc0 hc1
  have er : (((rg : Nat) : Int) % 2 == 1) = (rg % 2 == 1) := by rw [Bool.eq_iff_iff]; simp; omega
  go_enter Tryd.func67, Tryd.ntmps67
  go_wp2_with fail
  refine wp_region_later (by kernel_rfl) (by kernel_rfl) ?_
  repeat (go_big_quiet_step ((first | (go_at_call 87; with_reducible exact quiet_later (C0.out _)) | (go_at_call 87; with_reducible exact quiet_later (C1.out _)))))
  refine wpQuiet_nil ?_
  intro _ hw'
  obtain ⟨nq, hw''⟩ := hw'
  subst hw''
  have x := nq.2
  clear k0 k1
  go_wp2_with (first
    | (go_at_call 89; refine (rhard_any _ _).mono ?_; rintro e v ⟨rfl, hv⟩; replace x := x.trans (hv.mono x.size); clear hv)
    | (go_at_call 88; refine (rhgl_any _ _ _).mono ?_; rintro e v ⟨rfl, hv⟩; replace x := x.trans (hv.mono x.size); clear hv)
    | (go_at_call 90; refine (PIC.out _ x).mono ?_; rintro e v ⟨rfl, hv⟩; replace x := x.trans (hv.mono x.size); clear hv)
    | (go_at_call 91; refine (REG.out _ x).mono ?_; rintro e v ⟨rfl, hv⟩; replace x := x.trans (hv.mono x.size); clear hv))
  all_goals go_ret
  all_goals refine ⟨retb ?_, x⟩
  all_goals clear x C0 C1 PIC REG HX HLEN pm pm2
  all_goals try simp only [beq_iff_eq, beq_eq_false_iff_ne] at *
  all_goals simp_all [hngB]
end Go.Proofs.YtmbgeeiidpllcaaDoor
