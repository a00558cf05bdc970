/- Chapter 17: a stretch of an own slice turned; a level as it counts. -/
import Derived.Test.YteedngkbcbojjaaVbase
import Derived.Deep.RegionLaw
namespace Go.Proofs.Yteedngkbcbojjaa
open Go.ChangeShapes Go.WideShapes Go.ChangeAt Go.RowKit
set_option maxRecDepth 100000
set_option linter.unusedSimpArgs false

set_option maxHeartbeats 2000000 in
theorem held_any (x : Int) (w : World) : Calls Try.prog 26 #[.int .i64 x] w fun e w' => e = .returned (.int .i64 (heldN x : Nat)) ∧ w' = w := by
  go_enter Try.func26, Try.ntmps26
  go_wp2_with fail
  all_goals
    go_ret
    exact ⟨intv (by rw [heldN_cast]; omega), rfl⟩
set_option maxHeartbeats 4000000 in
theorem reverse_any (B g a m N c cap : Nat) (xs : List Int) (W : World) (h : Own W B 3 .i64 (some ⟨g, 0, none⟩) N c xs) (hb : a + m ≤ N) (hN : N ≤ 4000) :
    Calls Try.prog 27 #[.slice (some ⟨g, a, none⟩) m cap] W fun e w' => e = .returned (.tuple #[]) ∧ Own w' B 3 .i64 (some ⟨g, 0, none⟩) N c (cutRev xs a (a + m)) ∧ Below B W w' := by
  have hl := h.len
  have FI : Shut (swF (a + 0) (a + m) xs = cutRev xs a (a + m)) := ⟨swF_rev (by omega) (by omega)⟩
  have O0 : Shut _ := ⟨h⟩
  generalize cutRev xs a (a + m) = FIN at *
  clear h hl
  go_enter Try.func27, Try.ntmps27
  go_wp2_with fail
  go_loopg [2, 3] (m + 1) (fun gg v2 v3 wr => ∃ (i q : Nat) (ys : List Int), q - i < gg ∧ i ≤ q ∧ q ≤ m ∧ v2 = .int .i64 (i : Int) ∧ v3 = .int .i64 ((q : Int) - 1) ∧ Shut (swF (a + i) (a + q) ys = FIN) ∧ Shut (Own wr B 3 .i64 (some ⟨g, 0, none⟩) N c ys) ∧ Shut (Below B W wr))
  case atStart => exact ⟨0, m, xs, by omega, by omega, by omega, rfl, by go_num, FI, O0, ⟨Below.refl _ _⟩⟩
  case round =>
    obtain ⟨i, q, ys, hg, hiq, hqm, rfl, rfl, SI, OM, BE⟩ := hrel
    clear O0 FI
    by_cases hlt : i + 1 < q
    · obtain ⟨r, rfl⟩ : ∃ r, q = r + 1 := ⟨q - 1, by omega⟩
      rw [show ((r + 1 : Nat) : Int) - 1 = (r : Int) from by omega]
      have c1 := own_cellH OM.out (j := a + i) (by omega)
      have c2 := own_cellH OM.out (j := a + r) (by omega)
      have f1 := OwnV.frozenAt OM.out (a + i)
      have f2 := OwnV.frozenAt OM.out (a + r)
      have hlen := OM.out.len
      have SI2 : Shut (swF (a + (i + 1)) (a + r) (swp ys (a + i) (a + r)) = FIN) := ⟨by
        have := SI.out
        rw [swF_step (by omega)] at this
        rw [show a + i + 1 = a + (i + 1) by omega, show a + (r + 1) - 1 = a + r by omega] at this
        exact this⟩
      have SO : Shut (Own ((wr.setCell ⟨g, a + i, none⟩ (.int .i64 (nth ys (a + r)))).setCell ⟨g, a + r, none⟩ (.int .i64 (nth ys (a + i)))) B 3 .i64 (some ⟨g, 0, none⟩) N c (swp ys (a + i) (a + r))) := ⟨Own.set_ (Own.set_ OM.out (a + i) _) (a + r) _⟩
      have hne : a + i ≠ a + r := by omega
      have i1 : (i : Int) < (r : Int) := by omega
      have i2 : (i : Int) < (m : Int) := by omega
      have i3 : (r : Int) < (m : Int) := by omega
      clear SI hlen
      go_wp2_with fail
      go_region
      go_wp2_with fail
      go_roundg (r - i)
      case measure => omega
      case rel => exact ⟨i + 1, r, swp ys (a + i) (a + r), by omega, by omega, by omega, by go_num, rfl, SI2, SO, ⟨below_drew (Below.setCell (Below.setCell BE.out (p := ⟨g, a + i, none⟩) (OwnV.ltH OM.out).1 _) (p := ⟨g, a + r, none⟩) (OwnV.ltH OM.out).1 _)⟩⟩
    · have E : Shut (ys = FIN) := ⟨by have := SI.out; rwa [swF_end (by omega)] at this⟩
      have i1 : decide ((i : Int) < (q : Int) - 1) = false := by simp; omega
      go_wp2_with fail
      go_end0
      exact ⟨rfl, by rw [← E.out]; exact OM.out, BE.out⟩
end Go.Proofs.Yteedngkbcbojjaa
