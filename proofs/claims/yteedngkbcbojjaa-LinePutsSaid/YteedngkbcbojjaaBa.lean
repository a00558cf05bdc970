/- Chapter 45: the law's own example. -/
import Derived.Test.YteedngkbcbojjaaBp
namespace Go.Proofs.Yteedngkbcbojjaa
open Go.ChangeShapes Go.WideShapes Go.ChangeAt Go.RowKit
set_option maxRecDepth 100000
set_option linter.unusedSimpArgs false
set_option linter.unusedVariables false

def bs3 : List BoxD := [⟨0, 0, 0, 0, 5, []⟩, ⟨0, 0, 1, 0, 3, []⟩, ⟨0, 0, 1, 0, 2, []⟩]
def out3 : List BoxD := [⟨0, 0, 0, 0, 5, []⟩, ⟨0, 0, 1, 5, 2, []⟩, ⟨0, 0, 1, 7, 3, []⟩]
theorem ord3 : ordB bs3 = [0, 2, 1] := by
  have h0 : lvL bs3 = [0, 1, 1] := rfl
  have h1 : mostN [0, 1, 1] 3 = 1 := by decide
  have h2 : leastN [0, 1, 1] 3 = 1 := by decide
  have h3 : idL 3 = [0, 1, 2] := rfl
  unfold ordB visual
  rw [h0, show ([0, 1, 1] : List Int).length = 3 from rfl, h1, h2, h3]
  rw [rnd_step (by decide)]
  rw [pass_step (by decide)]
  rw [show runE [0, 1, 1] [0, 1, 2] (0 + 1) 3 0 = 0 by decide, show cutRev [0, 1, 2] 0 0 = [0, 1, 2] from rfl, pass_step (by decide), show runE [0, 1, 1] [0, 1, 2] (0 + 1) 3 (0 + 1) = 3 by decide,
    show cutRev [0, 1, 2] (0 + 1) 3 = [0, 2, 1] from rfl, pass_end (by decide)]
  rfl
theorem put3 : putL bs3 (ordB bs3) (shiftP bs3 (ordB bs3) 3 (oddB 0) 0) 3 = out3 := by
  rw [ord3]
  rfl
theorem boxes3 (w : World) : BoxesAt (w.alloc (.cells #[.int .i64 0, .int .i64 0, .int .i64 0, .int .i64 0, .int .i64 5, .slice none 0 0, .int .i64 0, .int .i64 0, .int .i64 1, .int .i64 0, .int .i64 3, .slice none 0 0, .int .i64 0, .int .i64 0, .int .i64 1, .int .i64 0, .int .i64 2, .slice none 0 0] 37))
    (w.alloc (.cells #[.int .i64 0, .int .i64 0, .int .i64 0, .int .i64 0, .int .i64 5, .slice none 0 0, .int .i64 0, .int .i64 0, .int .i64 1, .int .i64 0, .int .i64 3, .slice none 0 0, .int .i64 0, .int .i64 0, .int .i64 1, .int .i64 0, .int .i64 2, .slice none 0 0] 37)).heap.size (some ⟨w.heap.size, 0, none⟩) 3 bs3 := by
  have hc : ∀ q v, #[Value.int .i64 0, .int .i64 0, .int .i64 0, .int .i64 0, .int .i64 5, .slice none 0 0, .int .i64 0, .int .i64 0, .int .i64 1, .int .i64 0, .int .i64 3, .slice none 0 0, .int .i64 0, .int .i64 0, .int .i64 1, .int .i64 0, .int .i64 2, .slice none 0 0][q]? = some v →
      (w.alloc (.cells #[.int .i64 0, .int .i64 0, .int .i64 0, .int .i64 0, .int .i64 5, .slice none 0 0, .int .i64 0, .int .i64 0, .int .i64 1, .int .i64 0, .int .i64 3, .slice none 0 0, .int .i64 0, .int .i64 0, .int .i64 1, .int .i64 0, .int .i64 2, .slice none 0 0] 37)).cell? ⟨w.heap.size, q, none⟩ = some v := by
    intro q v h
    rw [cell_of_row _ _ _ _ _ _ (heap_alloc_new w _)]
    exact h
  have pn : ∀ W B, PutsAt W B none 0 [] := fun W B => ⟨rfl, fun h => absurd h (by omega)⟩
  refine ⟨rfl, fun _ => ⟨_, rfl, by simp, fun j hj => ?_⟩⟩
  obtain rfl | rfl | rfl : j = 0 ∨ j = 1 ∨ j = 2 := by omega
  · exact ⟨hc 0 _ rfl, hc 1 _ rfl, hc 2 _ rfl, hc 3 _ rfl, hc 4 _ rfl, none, 0, hc 5 _ rfl, pn _ _⟩
  · exact ⟨hc 6 _ rfl, hc 7 _ rfl, hc 8 _ rfl, hc 9 _ rfl, hc 10 _ rfl, none, 0, hc 11 _ rfl, pn _ _⟩
  · exact ⟨hc 12 _ rfl, hc 13 _ rfl, hc 14 _ rfl, hc 15 _ rfl, hc 16 _ rfl, none, 0, hc 17 _ rfl, pn _ _⟩
theorem bs3_in : WdIn bs3 ∧ ∀ j, GxIn (bnth bs3 j).gs := by
  have h : ∀ j, (bnth bs3 j = ⟨0, 0, 0, 0, 5, []⟩ ∨ bnth bs3 j = ⟨0, 0, 1, 0, 3, []⟩ ∨ bnth bs3 j = ⟨0, 0, 1, 0, 2, []⟩ ∨ bnth bs3 j = default) := by
    intro j
    match j with
    | 0 => exact .inl rfl
    | 1 => exact .inr (.inl rfl)
    | 2 => exact .inr (.inr (.inl rfl))
    | j + 3 => exact .inr (.inr (.inr rfl))
  have g : GxIn [] := ⟨by decide, fun j => ⟨by show (-1073741824 : Int) ≤ 0; decide, by show (0 : Int) ≤ 1073741824; decide⟩⟩
  refine ⟨fun j => ?_, fun j => ?_⟩
  · rcases h j with e | e | e | e <;> rw [e] <;> exact ⟨by decide, by decide⟩
  · rcases h j with e | e | e | e <;> rw [e] <;> exact g
set_option maxHeartbeats 4000000 in
theorem alive_any (w : World) : Calls Try.prog 5 #[] w fun e w' => e = .returned (.bool true) ∧ Below w.heap.size w w' := by
  have PT : Shut _ := ⟨put_any (some ⟨w.heap.size, 0, none⟩) 3 3 bs3 3 0 0 _ (boxes3 w) (by omega) (by omega) (by omega) bs3_in.1 bs3_in.2 (by decide) (by decide)⟩
  rw [put3, show ((3 : Nat) : Int) = 3 from rfl] at PT
  go_enter Try.func5, Try.ntmps5
  go_wp2_with fail
  refine PT.out.mono ?_
  rintro e w1 ⟨A2, c2, ps, rfl, ob, pe, b1⟩
  have hl : ps.length = 3 := by
    have := congrArg List.length pe
    rw [List.length_map] at this
    exact this
  have bx := ob.boxes
  rw [pe, hl] at bx
  have BX : Shut (BoxesAt w1 w1.heap.size A2 3 out3) := ⟨bx⟩
  have B1 : Shut (Below w.heap.size w w1) := ⟨(below_alloc w _).trans (b1.mono (by simp))⟩
  clear ob pe b1 PT bx hl
  obtain ⟨ad, rfl, _, hc⟩ := BX.out.2 (by omega)
  obtain ⟨_, _, ⟨_, _, _, x0, _, _⟩, _⟩ := bdx (hc 0 (by omega))
  obtain ⟨_, _, ⟨_, _, _, x1, d1, _⟩, _⟩ := bdx (hc 1 (by omega))
  obtain ⟨_, _, ⟨_, _, _, x2, d2, _⟩, _⟩ := bdx (hc 2 (by omega))
  have y0 : w1.cell? ⟨ad.block, ad.off + 3, none⟩ = some (.int .i64 0) := by have := x0; simpa [Addr.add, bnth, out3] using this
  have y1 : w1.cell? ⟨ad.block, ad.off + 6 + 3, none⟩ = some (.int .i64 5) := by have := x1; simpa [Addr.add, bnth, out3] using this
  have z1 : w1.cell? ⟨ad.block, ad.off + 6 + 4, none⟩ = some (.int .i64 2) := by have := d1; simpa [Addr.add, bnth, out3] using this
  have y2 : w1.cell? ⟨ad.block, ad.off + 12 + 3, none⟩ = some (.int .i64 7) := by have := x2; simpa [Addr.add, bnth, out3] using this
  have z2 : w1.cell? ⟨ad.block, ad.off + 12 + 4, none⟩ = some (.int .i64 3) := by have := d2; simpa [Addr.add, bnth, out3] using this
  clear hc x0 x1 x2 d1 d2
  go_wp2_with fail
  go_ret
  exact ⟨rfl, B1.out⟩
end Go.Proofs.Yteedngkbcbojjaa
