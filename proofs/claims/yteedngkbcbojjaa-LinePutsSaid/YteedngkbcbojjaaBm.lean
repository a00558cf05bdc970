/- Chapter 45: the reference's Modest: where it says yes, boxes are not great. -/
import Derived.Test.YteedngkbcbojjaaBg
namespace Go.Proofs.Yteedngkbcbojjaa
open Go.ChangeShapes Go.WideShapes Go.ChangeAt Go.RowKit
set_option maxRecDepth 100000
set_option linter.unusedSimpArgs false
set_option linter.unusedVariables false

/-- a box that is not great -/
def OkB (b : BoxD) : Prop := (-1073741824 ≤ b.x ∧ b.x ≤ 1073741824) ∧ (-1073741824 ≤ b.wd ∧ b.wd ≤ 1073741824) ∧ b.gs.length ≤ 20 ∧ ∀ k, k < b.gs.length → -1073741824 ≤ (pnth b.gs k).x ∧ (pnth b.gs k).x ≤ 1073741824
def ModR (n : Nat) (bs : List BoxD) (w : World) (e : Ending) (w' : World) : Prop := ∃ r : Bool, e = .returned (.bool r) ∧ (r = true → ∀ j, j < n → OkB (bnth bs j)) ∧ Below w.heap.size w w'
set_option maxHeartbeats 16000000 in
theorem modest_any (A : Option Addr) (n c : Nat) (bs : List BoxD) (w : World) (hx : BoxesAt w w.heap.size A n bs) (hn : n ≤ 40) :
    Calls Try.prog 4 #[.slice A n c] w (ModR n bs w) := by
  have HX : Shut _ := ⟨hx⟩
  clear hx
  go_enter Try.func4, Try.ntmps4
  go_wp2_with fail
  go_loopg [3, 4, 5] (n + 1) (fun gg v3 _ _ wr => ∃ j : Nat, n - j < gg ∧ j ≤ n ∧ v3 = .int .i64 (j : Int) ∧ Shut (∀ q, q < j → OkB (bnth bs q)) ∧ Shut (Below w.heap.size w wr))
  case atStart => exact ⟨0, by omega, by omega, rfl, ⟨fun q hq => by omega⟩, ⟨Below.refl _ _⟩⟩
  case round =>
    obtain ⟨j, hgg, hj, rfl, OK, BE⟩ := hrel
    obtain ⟨wo, rfl⟩ : ∃ wo : World, wo = wr := ⟨_, rfl⟩
    by_cases hlt : j < n
    · have HG : Shut (n - j < gk) := ⟨hgg⟩
      obtain ⟨ad, rfl, _, hcb⟩ := (HX.out.later BE.out).2 (by omega)
      obtain ⟨G, gc, ⟨a0, a1, a2, a3, a4, a5⟩, hP⟩ := bdx (hcb j hlt)
      have OKN : Shut (OkB (bnth bs j) → ∀ q, q < j + 1 → OkB (bnth bs q)) := ⟨fun h q hq => by
        by_cases e : q = j
        · subst e; exact h
        · exact OK.out q (by omega)⟩
      generalize hb : bnth bs j = b at *
      obtain ⟨gn, hgn⟩ : ∃ gn, b.gs.length = gn := ⟨_, rfl⟩
      have HGN : Shut (b.gs.length = gn) := ⟨hgn⟩
      rw [hgn] at a5 hP
      obtain ⟨w2, hw2, X2, S2, RA⟩ := box_new wo b.f b.t b.lv b.x b.wd (.slice G gn gc)
      have HP : Shut (PutsAt w2 w2.heap.size G gn b.gs) := ⟨hP.later X2.out X2.out.size⟩
      have B2 : Shut (Below w.heap.size w w2) := ⟨BE.out.trans (X2.out.mono BE.out.size)⟩
      obtain ⟨s0, s1, s2, s3, s4, s5⟩ := S2.out.cs
      have j1 : (j : Int) < (n : Int) := by omega
      clear hcb hP hgn hgg hb BE s0 s1
      by_cases q0 : b.lv < 0
      · clear HP OKN
        go_wp2_with (refine wpList_store_row rfl 37 (.tmp 4) (.tmp 15) rfl wo.heap.size _ rfl rfl 37 _ RA.out boxSize (by rfl) (six_allB _ _ _ _ _ _ _ _) ?_; rw [← hw2]; clear hw2)
        go_ret
        exact ⟨false, rfl, (by intro h; cases h), B2.out⟩
      have d0 : decide (b.lv < 0) = false := by simp; omega
      by_cases q1 : 126 < b.lv
      · clear HP OKN
        go_wp2_with (refine wpList_store_row rfl 37 (.tmp 4) (.tmp 15) rfl wo.heap.size _ rfl rfl 37 _ RA.out boxSize (by rfl) (six_allB _ _ _ _ _ _ _ _) ?_; rw [← hw2]; clear hw2)
        go_ret
        exact ⟨false, rfl, (by intro h; cases h), B2.out⟩
      have d1 : decide (126 < b.lv) = false := by simp; omega
      by_cases q2 : 1073741824 < b.x
      · clear HP OKN
        go_wp2_with (refine wpList_store_row rfl 37 (.tmp 4) (.tmp 15) rfl wo.heap.size _ rfl rfl 37 _ RA.out boxSize (by rfl) (six_allB _ _ _ _ _ _ _ _) ?_; rw [← hw2]; clear hw2)
        go_ret
        exact ⟨false, rfl, (by intro h; cases h), B2.out⟩
      have d2 : decide (1073741824 < b.x) = false := by simp; omega
      by_cases q3 : b.x < -1073741824
      · clear HP OKN
        go_wp2_with (refine wpList_store_row rfl 37 (.tmp 4) (.tmp 15) rfl wo.heap.size _ rfl rfl 37 _ RA.out boxSize (by rfl) (six_allB _ _ _ _ _ _ _ _) ?_; rw [← hw2]; clear hw2)
        go_ret
        exact ⟨false, rfl, (by intro h; cases h), B2.out⟩
      have d3 : decide (b.x < -1073741824) = false := by simp; omega
      by_cases q4 : 1073741824 < b.wd
      · clear HP OKN
        go_wp2_with (refine wpList_store_row rfl 37 (.tmp 4) (.tmp 15) rfl wo.heap.size _ rfl rfl 37 _ RA.out boxSize (by rfl) (six_allB _ _ _ _ _ _ _ _) ?_; rw [← hw2]; clear hw2)
        go_ret
        exact ⟨false, rfl, (by intro h; cases h), B2.out⟩
      have d4 : decide (1073741824 < b.wd) = false := by simp; omega
      by_cases q5 : b.wd < -1073741824
      · clear HP OKN
        go_wp2_with (refine wpList_store_row rfl 37 (.tmp 4) (.tmp 15) rfl wo.heap.size _ rfl rfl 37 _ RA.out boxSize (by rfl) (six_allB _ _ _ _ _ _ _ _) ?_; rw [← hw2]; clear hw2)
        go_ret
        exact ⟨false, rfl, (by intro h; cases h), B2.out⟩
      have d5 : decide (b.wd < -1073741824) = false := by simp; omega
      by_cases q6 : (20 : Int) < (gn : Int)
      · clear HP OKN
        go_wp2_with (refine wpList_store_row rfl 37 (.tmp 4) (.tmp 15) rfl wo.heap.size _ rfl rfl 37 _ RA.out boxSize (by rfl) (six_allB _ _ _ _ _ _ _ _) ?_; rw [← hw2]; clear hw2)
        go_ret
        exact ⟨false, rfl, (by intro h; cases h), B2.out⟩
      have d6 : decide ((20 : Int) < (gn : Int)) = false := by simp; omega
      have e6 : decide (20 < gn) = false := by simp; omega
      have OK1 : Shut (((-1073741824 ≤ b.x ∧ b.x ≤ 1073741824) ∧ (-1073741824 ≤ b.wd ∧ b.wd ≤ 1073741824)) ∧ gn ≤ 20) := ⟨by omega⟩
      go_wp2_with (refine wpList_store_row rfl 37 (.tmp 4) (.tmp 15) rfl wo.heap.size _ rfl rfl 37 _ RA.out boxSize (by rfl) (six_allB _ _ _ _ _ _ _ _) ?_; rw [← hw2]; clear hw2)
      go_loopg [5] (gn + 1) (fun gg v5 wr => ∃ k : Nat, gn - k < gg ∧ k ≤ gn ∧ v5 = .int .i64 (k : Int) ∧ Shut (∀ q, q < k → -1073741824 ≤ (pnth b.gs q).x ∧ (pnth b.gs q).x ≤ 1073741824) ∧ wr = w2)
      case atStart => exact ⟨0, by omega, by omega, rfl, ⟨fun q hq => by omega⟩, rfl⟩
      case round =>
        obtain ⟨k, hg2, hk, rfl, OG, rfl⟩ := hrel
        by_cases hkn : k < gn
        · obtain ⟨ag, rfl, _, hcg⟩ := HP.out.2 (by omega)
          obtain ⟨_, _, z2, _⟩ := pdx (hcg k hkn)
          have OGN : Shut (-1073741824 ≤ (pnth b.gs k).x ∧ (pnth b.gs k).x ≤ 1073741824 → ∀ q, q < k + 1 → -1073741824 ≤ (pnth b.gs q).x ∧ (pnth b.gs q).x ≤ 1073741824) := ⟨fun h q hq => by
            by_cases e : q = k
            · subst e; exact h
            · exact OG.out q (by omega)⟩
          generalize (pnth b.gs k).x = gx at *
          have i1 : (k : Int) < (gn : Int) := by omega
          clear hcg
          by_cases g1 : 1073741824 < gx
          · clear OGN
            go_wp2_with fail
            go_ret
            exact ⟨false, rfl, (by intro h; cases h), B2.out⟩
          have g2 : decide (1073741824 < gx) = false := by simp; omega
          by_cases g3 : gx < -1073741824
          · clear OGN
            go_wp2_with fail
            go_ret
            exact ⟨false, rfl, (by intro h; cases h), B2.out⟩
          have g4 : decide (gx < -1073741824) = false := by simp; omega
          have OGK : Shut _ := ⟨OGN.out ⟨by omega, by omega⟩⟩
          clear OGN g1 g3
          go_wp2_with fail
          go_roundg (gn - k)
          case measure => omega
          case rel => exact ⟨k + 1, by omega, by omega, by go_num, OGK, rfl⟩
        · obtain rfl : k = gn := by omega
          have OKF : Shut (∀ q, q < j + 1 → OkB (bnth bs q)) := ⟨OKN.out ⟨OK1.out.1.1, OK1.out.1.2, by rw [HGN.out]; exact OK1.out.2, fun q hq => OG.out q (by rw [← HGN.out]; exact hq)⟩⟩
          clear hkn OKN
          go_wp2_with fail
          go_roundg (n - j)
          case measure => exact HG.out
          case rel => exact ⟨j + 1, by omega, by omega, by go_num, OKF, B2⟩
    · obtain rfl : j = n := by omega
      clear hlt
      go_wp2_with fail
      go_ret
      exact ⟨true, rfl, fun _ => OK.out, BE.out⟩
end Go.Proofs.Yteedngkbcbojjaa
