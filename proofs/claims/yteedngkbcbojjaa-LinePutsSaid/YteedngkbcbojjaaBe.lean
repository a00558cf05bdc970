/- Chapter 45: alike boxes are told alike; alike rows of integers; how far boxes reach, both ways. -/
import Derived.Test.YteedngkbcbojjaaBm
import Derived.BigQuiet
namespace Go.Proofs.Yteedngkbcbojjaa
open Go.ChangeShapes Go.WideShapes Go.ChangeAt Go.RowKit
set_option maxRecDepth 100000
set_option linter.unusedSimpArgs false
set_option linter.unusedVariables false

set_option maxHeartbeats 4000000 in
theorem one_any (b : BoxD) (n : Nat) (hn : n ≤ 1000) (hb : b.gs.length = n) (G1 : Option Addr) (c1 : Nat) (G2 : Option Addr) (c2 : Nat) (w : World) (h1 : PutsAt w w.heap.size G1 n b.gs) (h2 : PutsAt w w.heap.size G2 n b.gs) :
    Calls Try.prog 17 #[.agg #[.int .i64 b.f, .int .i64 b.t, .int .i64 b.lv, .int .i64 b.x, .int .i64 b.wd, .slice G1 n c1], .agg #[.int .i64 b.f, .int .i64 b.t, .int .i64 b.lv, .int .i64 b.x, .int .i64 b.wd, .slice G2 n c2]] w
      fun e w' => e = .returned (.bool true) ∧ Below w.heap.size w w' := by
  obtain ⟨W1, hW1⟩ : ∃ W1, W1 = (w.alloc (.cells #[.int .i64 b.f, .int .i64 b.t, .int .i64 b.lv, .int .i64 b.x, .int .i64 b.wd, .slice G1 n c1] 37)).alloc (.cells #[.int .i64 b.f, .int .i64 b.t, .int .i64 b.lv, .int .i64 b.x, .int .i64 b.wd, .slice G2 n c2] 37) := ⟨_, rfl⟩
  have S1 : Shut (Six W1 w.heap.size (.int .i64 b.f) (.int .i64 b.t) (.int .i64 b.lv) (.int .i64 b.x) (.int .i64 b.wd) (.slice G1 n c1)) := ⟨by rw [hW1]; exact Six.alloc (heap_alloc_new w _) _⟩
  have S2 : Shut (Six W1 (w.heap.size + 1) (.int .i64 b.f) (.int .i64 b.t) (.int .i64 b.lv) (.int .i64 b.x) (.int .i64 b.wd) (.slice G2 n c2)) := ⟨by rw [hW1]; exact six_newN _ _ _ _ _ _ _ _ (by simp)⟩
  have B1 : Shut (Below w.heap.size w W1) := ⟨by rw [hW1]; exact (below_alloc w _).alloc (by simp) _⟩
  have P1 : Shut (PutsAt W1 W1.heap.size G1 n b.gs) := ⟨h1.later B1.out B1.out.size⟩
  have P2 : Shut (PutsAt W1 W1.heap.size G2 n b.gs) := ⟨h2.later B1.out B1.out.size⟩
  have hl : Shut (b.gs.length = n) := ⟨hb⟩
  clear h1 h2 hb
  generalize hgs : b.gs = gs at *
  go_enter Try.func17, Try.ntmps17
  go_wp2_with fail
  rw [← hW1]
  clear hW1 hgs
  go_loopg [5] (n + 1) (fun gg v5 wr => ∃ k : Nat, n - k < gg ∧ k ≤ n ∧ v5 = .int .i64 (k : Int) ∧ Shut (Below W1.heap.size W1 wr))
  case atStart => exact ⟨0, by omega, by omega, rfl, ⟨Below.refl _ _⟩⟩
  case round =>
    obtain ⟨k, hg, hk, rfl, BE⟩ := hrel
    obtain ⟨_, _, _, _, _, a5⟩ := (S1.out.pass BE.out S1.out.lt).cs
    obtain ⟨_, _, _, _, _, e5⟩ := (S2.out.pass BE.out S2.out.lt).cs
    by_cases hlt : k < n
    · obtain ⟨ag, rfl, _, hc1⟩ := (P1.out.later BE.out BE.out.size).2 (by omega)
      obtain ⟨bg, rfl, _, hc2⟩ := (P2.out.later BE.out BE.out.size).2 (by omega)
      obtain ⟨z0, z1, z2, z3⟩ := pdx (hc1 k hlt)
      obtain ⟨y0, y1, y2, y3⟩ := pdx (hc2 k hlt)
      have i1 : (k : Int) < (n : Int) := by omega
      have i0 : (0 : Int) ≤ (k : Int) := by omega
      generalize pnth gs k = g at *
      clear hc1 hc2
      go_wp2_with fail
      go_quiet (fail)
      go_wp2_with fail
      go_roundg (n - k)
      case measure => omega
      case rel => exact ⟨k + 1, by omega, by omega, by go_num, ⟨below_drewN BE.out _⟩⟩
    · obtain rfl : k = n := by omega
      clear hlt
      go_wp2_with fail
      go_ret
      exact ⟨rfl, B1.out.trans (BE.out.mono B1.out.size)⟩
set_option maxHeartbeats 8000000 in
theorem all_any (A : Option Addr) (n c : Nat) (bs : List BoxD) (hn : n ≤ 1000) (hgs : ∀ j, (bnth bs j).gs.length ≤ 1000) (A2 : Option Addr) (c2 : Nat) (w : World) (hx : BoxesAt w w.heap.size A n bs) (hy : BoxesAt w w.heap.size A2 n bs) :
    Calls Try.prog 8 #[.slice A n c, .slice A2 n c2] w fun e w' => e = .returned (.bool true) ∧ Below w.heap.size w w' := by
  have HX : Shut _ := ⟨hx⟩
  have HY : Shut _ := ⟨hy⟩
  clear hx hy
  go_enter Try.func8, Try.ntmps8
  go_wp2_with fail
  go_loopg [5] (n + 1) (fun gg v5 wr => ∃ k : Nat, n - k < gg ∧ k ≤ n ∧ v5 = .int .i64 (k : Int) ∧ Shut (Below w.heap.size w wr))
  case atStart => exact ⟨0, by omega, by omega, rfl, ⟨Below.refl _ _⟩⟩
  case round =>
    obtain ⟨k, hg, hk, rfl, BE⟩ := hrel
    by_cases hlt : k < n
    · obtain ⟨ad, rfl, _, hc1⟩ := (HX.out.later BE.out).2 (by omega)
      obtain ⟨bd, rfl, _, hc2⟩ := (HY.out.later BE.out).2 (by omega)
      obtain ⟨G1, g1, ⟨a0, a1, a2, a3, a4, a5⟩, hP1⟩ := bdx (hc1 k hlt)
      obtain ⟨G2, g2, ⟨e0, e1, e2, e3, e4, e5⟩, hP2⟩ := bdx (hc2 k hlt)
      have hgk := hgs k
      generalize bnth bs k = b at *
      obtain ⟨gn, hgn⟩ : ∃ gn, b.gs.length = gn := ⟨_, rfl⟩
      have ON : Shut (∀ W, Below wr.heap.size wr W → _) := ⟨fun W hW => one_any b gn (by omega) hgn G1 g1 G2 g2 W (by rw [hgn] at hP1; exact hP1.later hW hW.size) (by rw [hgn] at hP2; exact hP2.later hW hW.size)⟩
      rw [hgn] at a5 e5
      have i1 : (k : Int) < (n : Int) := by omega
      have i0 : (0 : Int) ≤ (k : Int) := by omega
      have A0 := later_cell a0
      have A1 := later_cell a1
      have A2 := later_cell a2
      have A3 := later_cell a3
      have A4 := later_cell a4
      have A5 := later_cell a5
      have E0 := later_cell e0
      have E1 := later_cell e1
      have E2 := later_cell e2
      have E3 := later_cell e3
      have E4 := later_cell e4
      have E5 := later_cell e5
      have OL := Lib.hid (fun N : Later wr => ON.out N.1 N.2)
      clear hc1 hc2 hP1 hP2 hgn hgk a0 a1 a2 a3 a4 a5 e0 e1 e2 e3 e4 e5
      go_wp2_with fail
      refine wp_region_later (by kernel_rfl) (by kernel_rfl) ?_
      repeat (go_big_quiet_step ((go_at_call 17; with_reducible exact quiet_later (OL.out _))))
      refine wpQuiet_nil ?_
      intro _ hw'
      obtain ⟨nq, hw''⟩ := hw'
      subst hw''
      go_wp2_with fail
      go_roundg (n - k)
      case measure => omega
      case rel => exact ⟨k + 1, by omega, by omega, by go_num, ⟨BE.out.trans (nq.2.mono BE.out.size)⟩⟩
    · obtain rfl : k = n := by omega
      clear hlt
      go_wp2_with fail
      go_ret
      exact ⟨rfl, BE.out⟩
set_option maxHeartbeats 4000000 in
theorem ints_any (A : Option Addr) (n c : Nat) (xs : List Int) (hn : n ≤ 4000) (A2 : Option Addr) (c2 : Nat) (w : World) (hx : IntsAt w w.heap.size .i64 A n xs) (hy : IntsAt w w.heap.size .i64 A2 n xs) :
    Calls Try.prog 9 #[.slice A n c, .slice A2 n c2] w fun e w' => e = .returned (.bool true) ∧ Below w.heap.size w w' := by
  have HX : Shut _ := ⟨hx⟩
  have HY : Shut _ := ⟨hy⟩
  clear hx hy
  go_enter Try.func9, Try.ntmps9
  go_wp2_with fail
  go_loopg [5] (n + 1) (fun gg v5 wr => ∃ k : Nat, n - k < gg ∧ k ≤ n ∧ v5 = .int .i64 (k : Int) ∧ Shut (Below w.heap.size w wr))
  case atStart => exact ⟨0, by omega, by omega, rfl, ⟨Below.refl _ _⟩⟩
  case round =>
    obtain ⟨k, hg, hk, rfl, BE⟩ := hrel
    by_cases hlt : k < n
    · obtain ⟨ad, rfl, _, hc1⟩ := (HX.out.later BE.out).2 (by omega)
      obtain ⟨bd, rfl, _, hc2⟩ := (HY.out.later BE.out).2 (by omega)
      have z1 := hc1 k hlt
      have z2 := hc2 k hlt
      generalize nth xs k = x at *
      have i1 : (k : Int) < (n : Int) := by omega
      have i0 : (0 : Int) ≤ (k : Int) := by omega
      clear hc1 hc2
      go_wp2_with fail
      go_quiet (fail)
      go_wp2_with fail
      go_roundg (n - k)
      case measure => omega
      case rel => exact ⟨k + 1, by omega, by omega, by go_num, ⟨below_drewN BE.out _⟩⟩
    · obtain rfl : k = n := by omega
      clear hlt
      go_wp2_with fail
      go_ret
      exact ⟨rfl, BE.out⟩
end Go.Proofs.Yteedngkbcbojjaa
