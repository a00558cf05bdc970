/- Chapter 4: the directions' classes of a text, both ways. -/
import Derived.Test.YtilbcafkjpikgaaDoorOfs
namespace Go.Proofs.YtilbcafkjpikgaaDoor
open Go.ChangeShapes Go.WideShapes Go.ChangeAt Go.RowKit
set_option maxRecDepth 100000

def bidiOf (r : Int) : Int := (propOf r).bidi
theorem TI : SliceOf Tryd.prog 41 3 1 8 := sliceOf_mk Tryd.underlying41 (z := .int .i64 0) (by kernel_rfl) rfl (by omega) (by omega)

set_option maxHeartbeats 1000000 in
theorem pBidi_any (A : Option Addr) (n c : Nat) (xs : List Int) (w : World) (hl : Laid w) (hx : SliceIn .i32 w A n c xs) (hn : n * 8 ≤ 140737488355328) :
    Calls Tryd.prog 43 #[.slice A n c] w (NewInts w 3 .i64 n (xs.map bidiOf)) := by
  have HX := Lib.hid hx
  have HL := Lib.hid hl
  have hlen := hx.at_.len
  have HLEN := Lib.hid hlen
  clear hx hl hlen
  go_enter Tryd.func43, Tryd.ntmps43
  go_wp2_with (at_make; refine wpList_make0 TI rfl _ _ rfl n rfl rfl rfl hn w.heap.size (Nat.le_refl _) ?_; intro g0 w0 hown0 hb0)
  go_loopw [3, 11] (fun v i wr => ∃ (k : Nat) (A' : Option Addr) (c' : Nat), k ≤ n ∧ i = .int .i64 k ∧ v = .slice A' k c' ∧ Own wr w.heap.size 3 .i64 A' k c' ((xs.take k).map bidiOf) ∧ Below w.heap.size w wr) (fun _ i _ => n - (intOf i).toNat)
  case atStart => exact ⟨0, _, _, Nat.zero_le _, rfl, rfl, hown0, hb0⟩
  case round =>
    obtain ⟨k, A', c', hk, rfl, rfl, hown, hb⟩ := hrel
    by_cases hlt : k < n
    · obtain ⟨h1, h2⟩ := bounds_i32 (HX.out.nth_wf hlt)
      obtain ⟨ad, rfl, hab, hc⟩ := (HX.out.at_.below hb).2 (by omega)
      have hc := hc k hlt
      have O := Lib.hid (pOf_lit (nth xs k) h1 h2 wr (HL.out.pass hb))
      have hBr := hb.size
      clear h1 h2
      go_wp2_with (first
        | (go_at_call 33; refine O.out.mono ?_; rintro e w1 ⟨rfl, hb1⟩; have hown1 := hown.pass hb1; have hs1 := hb1.size)
        | (at_builtin; refine wpList_push TI rfl (.tmp 15) (.tmp 19) rfl rfl (hown1.alloc _) rfl (y := bidiOf (nth xs k)) (cell_new _ _ _) (by omega) (by simp; omega) ?_; intro A2 c2 w2 hown2 hb2))
      have hbw : Below w.heap.size w w2 := ((hb.trans (hb1.mono hBr)).alloc (by omega) _).trans hb2
      go_roundw
      case rel => exact ⟨k + 1, A2, c2, by omega, by go_num, rfl, by rw [take_succ_map _ (by rw [HLEN.out]; exact hlt)]; exact hown2, hbw⟩
      case measure => simp [intOf]; omega
    · obtain rfl : k = n := by omega
      go_wp2
      go_ret
      rw [List.take_of_length_le (by rw [HLEN.out]; exact Nat.le_refl _)] at hown
      exact ⟨A', c', rfl, hown, hb⟩

set_option maxHeartbeats 1000000 in
theorem rBidi_any (A : Option Addr) (n c : Nat) (xs : List Int) (w : World) (hx : SliceIn .i32 w A n c xs) (hn : n * 8 ≤ 140737488355328) :
    Calls Tryd.prog 34 #[.slice A n c] w (NewInts w 3 .i64 n (xs.map bidiOf)) := by
  have HX := Lib.hid hx
  have hlen := hx.at_.len
  have HLEN := Lib.hid hlen
  clear hx hlen
  go_enter Tryd.func34, Tryd.ntmps34
  go_wp2
  go_loopw [3, 4] (fun v i wr => ∃ (k : Nat) (A' : Option Addr) (c' : Nat), k ≤ n ∧ i = .int .i64 k ∧ v = .slice A' k c' ∧ Own wr w.heap.size 3 .i64 A' k c' ((xs.take k).map bidiOf) ∧ Below w.heap.size w wr) (fun _ i _ => n - (intOf i).toNat)
  case atStart => exact ⟨0, none, 0, Nat.zero_le _, rfl, rfl, Own.nil _ _ _ _, Below.refl _ _⟩
  case round =>
    obtain ⟨k, A', c', hk, rfl, rfl, hown, hb⟩ := hrel
    by_cases hlt : k < n
    · obtain ⟨h1, h2⟩ := bounds_i32 (HX.out.nth_wf hlt)
      obtain ⟨ad, rfl, hab, hc⟩ := (HX.out.at_.below hb).2 (by omega)
      have hc := hc k hlt
      have O := Lib.hid (rOf_lit (nth xs k) h1 h2 wr)
      have hBr := hb.size
      clear h1 h2
      go_wp2_with (first
        | (go_at_call 20; refine O.out.mono ?_; rintro e w1 ⟨rfl, hb1⟩; have hown1 := hown.pass hb1; have hs1 := hb1.size)
        | (at_builtin; refine wpList_push TI rfl (.tmp 11) (.tmp 18) rfl rfl (hown1.alloc _) rfl (y := bidiOf (nth xs k)) (cell_new _ _ _) (by omega) (by simp; omega) ?_; intro A2 c2 w2 hown2 hb2))
      have hbw : Below w.heap.size w w2 := ((hb.trans (hb1.mono hBr)).alloc (by omega) _).trans hb2
      go_roundw
      case rel => exact ⟨k + 1, A2, c2, by omega, by go_num, rfl, by rw [take_succ_map _ (by rw [HLEN.out]; exact hlt)]; exact hown2, hbw⟩
      case measure => simp [intOf]; omega
    · obtain rfl : k = n := by omega
      go_wp2
      go_ret
      rw [List.take_of_length_le (by rw [HLEN.out]; exact Nat.le_refl _)] at hown
      exact ⟨A', c', rfl, hown, hb⟩


end Go.Proofs.YtilbcafkjpikgaaDoor
