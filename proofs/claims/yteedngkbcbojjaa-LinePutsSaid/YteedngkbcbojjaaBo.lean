/- Chapter 45: the visual order of boxes, both ways. -/
import Derived.Test.YteedngkbcbojjaaBw
namespace Go.Proofs.Yteedngkbcbojjaa
open Go.ChangeShapes Go.WideShapes Go.ChangeAt Go.RowKit
set_option maxRecDepth 100000
set_option linter.unusedSimpArgs false

def lvL (bs : List BoxD) : List Int := bs.map (·.lv)
theorem lvL_len (bs : List BoxD) : (lvL bs).length = bs.length := by simp [lvL]
theorem lvL_at {bs : List BoxD} {k : Nat} (h : k < bs.length) : nth (lvL bs) k = (bnth bs k).lv := by
  rw [nth_eq (by rw [lvL_len]; exact h), bnth_eq h]
  simp [lvL]
def lvP (bs : List BoxD) (n k : Nat) : List Int := (lvL bs).take k ++ List.replicate (n - k) 0
theorem lvP_zero (bs : List BoxD) (n : Nat) : lvP bs n 0 = List.replicate n 0 := by simp [lvP]
theorem lvP_full {bs : List BoxD} {n : Nat} (h : bs.length = n) : lvP bs n n = lvL bs := by
  unfold lvP
  rw [List.take_of_length_le (by rw [lvL_len, h]; exact Nat.le_refl _)]
  simp
theorem lv_take {bs : List BoxD} {k : Nat} (h : k < bs.length) : (lvL bs).take (k + 1) = (lvL bs).take k ++ [(bnth bs k).lv] := by
  rw [List.take_succ_eq_append_getElem (by rw [lvL_len]; exact h), ← lvL_at h, nth_eq (by rw [lvL_len]; exact h)]
theorem lvP_set {bs : List BoxD} {n k : Nat} (h : bs.length = n) (hk : k < n) : (lvP bs n k).set k (bnth bs k).lv = lvP bs n (k + 1) := by
  have hl : ((lvL bs).take k).length = k := by rw [List.length_take, lvL_len]; omega
  obtain ⟨d, hd⟩ : ∃ d, n - k = d + 1 := ⟨n - k - 1, by omega⟩
  unfold lvP
  rw [hd, show n - (k + 1) = d by omega, lv_take (by omega), List.set_append_right _ _ (by rw [hl]; exact Nat.le_refl _), hl, Nat.sub_self]
  simp [List.replicate_succ]
/-- the order of boxes -/
def ordB (bs : List BoxD) : List Int := visual (lvL bs)
theorem ordB_ord {bs : List BoxD} {n : Nat} (h : bs.length = n) : IsOrd (ordB bs) n := visual_ord (by rw [lvL_len, h])

set_option maxHeartbeats 1000000 in
theorem visual_any (A : Option Addr) (n c : Nat) (lv : List Int) (w : World) (hx : IntsAt w w.heap.size .i64 A n lv) (hn : n ≤ 4000) :
    Calls Try.prog 18 #[.slice A n c] w (NewInts w 3 .i64 n (visual lv)) := by
  have RD : Shut _ := ⟨rounds_any A n c lv w hx hn⟩
  generalize visual lv = V at *
  clear hx
  go_enter Try.func18, Try.ntmps18
  go_wp2_with fail
  refine RD.out.mono ?_
  rintro e w1 ⟨A2, c2, rfl, o1, b1⟩
  have O1 : Shut _ := ⟨o1⟩
  have B1 : Shut _ := ⟨b1⟩
  clear o1 b1
  go_wp2_with fail
  go_ret
  exact ⟨A2, c2, rfl, O1.out, B1.out⟩
set_option maxHeartbeats 1000000 in
theorem rvisual_any (A : Option Addr) (n c : Nat) (lv : List Int) (w : World) (hx : IntsAt w w.heap.size .i64 A n lv) (hn : n ≤ 4000) :
    Calls Try.prog 19 #[.slice A n c] w (NewInts w 3 .i64 n (visual lv)) := by
  have RD : Shut _ := ⟨rrounds_any A n c lv w hx hn⟩
  generalize visual lv = V at *
  clear hx
  go_enter Try.func19, Try.ntmps19
  go_wp2_with fail
  refine RD.out.mono ?_
  rintro e w1 ⟨A2, c2, m, rfl, o1, b1⟩
  have O1 : Shut _ := ⟨o1⟩
  have B1 : Shut _ := ⟨b1⟩
  clear o1 b1
  go_wp2_with fail
  go_ret
  exact ⟨A2, c2, rfl, O1.out, B1.out⟩
set_option maxHeartbeats 2000000 in
theorem levels_any (A : Option Addr) (n c : Nat) (bs : List BoxD) (w : World) (hx : BoxesAt w w.heap.size A n bs) (hn : n ≤ 4000) :
    Calls Try.prog 20 #[.slice A n c] w (NewInts w 3 .i64 n (lvL bs)) := by
  have HX : Shut _ := ⟨hx⟩
  have CS : Shut (∀ k, k < n → (lvL bs).take (k + 1) = (lvL bs).take k ++ [(bnth bs k).lv]) := ⟨fun k hk => lv_take (by rw [hx.1]; exact hk)⟩
  have CF : Shut ((lvL bs).take n = lvL bs) := ⟨by rw [List.take_of_length_le (by rw [lvL_len, hx.1]; exact Nat.le_refl _)]⟩
  clear hx
  go_enter Try.func20, Try.ntmps20
  go_wp2_with fail
  go_loopg [3, 4] (n + 1) (fun gg v3 v4 wr => ∃ (k : Nat) (A' : Option Addr) (c' : Nat), n - k < gg ∧ k ≤ n ∧ v3 = .slice A' k c' ∧ v4 = .int .i64 (k : Int) ∧ Shut (Own wr w.heap.size 3 .i64 A' k c' ((lvL bs).take k)) ∧ Shut (Below w.heap.size w wr))
  case atStart => exact ⟨0, none, 0, by omega, by omega, rfl, rfl, ⟨Own.nil _ _ _ _⟩, ⟨Below.refl _ _⟩⟩
  case round =>
    obtain ⟨k, A', c', hg, hk, rfl, rfl, RO, BE⟩ := hrel
    by_cases hlt : k < n
    · obtain ⟨ad, rfl, _, hc⟩ := (HX.out.later BE.out).2 (by omega)
      obtain ⟨G, gc, ⟨_, _, c2, _, _, _⟩, _⟩ := bdx (hc k hlt)
      have E : Shut _ := ⟨CS.out k hlt⟩
      generalize (bnth bs k).lv = x at *
      have i1 : (k : Int) < (n : Int) := by omega
      have hs := BE.out.size
      clear hc
      go_wp2_with (at_builtin; refine wpList_push TIv rfl (.tmp 11) (.tmp 17) rfl rfl (RO.out.alloc _) rfl (y := x) (cell_newN _ _ _ _ (by simp)) (by omega) (by simp; omega) ?_; intro A4 c4 w4 o4 b4; have O4 : Shut _ := ⟨o4⟩; have X4 : Shut (Below w.heap.size w w4) := ⟨(BE.out.alloc (by omega) _).trans b4⟩; clear o4 b4)
      go_roundg (n - k)
      case measure => omega
      case rel => exact ⟨k + 1, A4, c4, by omega, by omega, rfl, by go_num, ⟨by rw [E.out]; exact O4.out⟩, X4⟩
    · obtain rfl : k = n := by omega
      rw [CF.out] at RO
      clear hlt CS
      go_wp2_with fail
      go_ret
      exact ⟨A', c', rfl, RO.out, BE.out⟩
set_option maxHeartbeats 1000000 in
theorem rorder_any (A : Option Addr) (n c : Nat) (bs : List BoxD) (w : World) (hx : BoxesAt w w.heap.size A n bs) (hn : n ≤ 4000) :
    Calls Try.prog 11 #[.slice A n c] w (NewInts w 3 .i64 n (ordB bs)) := by
  have LV : Shut _ := ⟨levels_any A n c bs w hx hn⟩
  unfold ordB
  clear hx
  go_enter Try.func11, Try.ntmps11
  go_wp2_with fail
  refine LV.out.mono ?_
  rintro e w1 ⟨A1, c1, rfl, o1, b1⟩
  have VS : Shut _ := ⟨rvisual_any A1 n c1 (lvL bs) w1 o1.ints hn⟩
  have B1 : Shut _ := ⟨b1⟩
  clear o1 b1 LV
  go_wp2_with fail
  refine VS.out.mono ?_
  rintro e w2 ⟨A2, c2, rfl, o2, b2⟩
  have O2 : Shut _ := ⟨Own.weakB o2 B1.out.size⟩
  have B2 : Shut _ := ⟨B1.out.trans (b2.mono B1.out.size)⟩
  clear o2 b2 VS
  go_wp2_with fail
  go_ret
  exact ⟨A2, c2, rfl, O2.out, B2.out⟩
set_option maxHeartbeats 4000000 in
theorem order_any (A : Option Addr) (n c : Nat) (bs : List BoxD) (w : World) (hx : BoxesAt w w.heap.size A n bs) (hn : n ≤ 4000) :
    Calls Try.prog 10 #[.slice A n c] w (NewInts w 3 .i64 n (ordB bs)) := by
  have HX : Shut _ := ⟨hx⟩
  have HL : Shut (bs.length = n) := ⟨hx.1⟩
  unfold ordB
  clear hx
  go_enter Try.func10, Try.ntmps10
  go_wp2_with (refine wpList_makeInts TIv zeroInt rfl (.tmp 7) (.tmp 7) rfl n rfl rfl rfl rfl (by omega) w.heap.size (Nat.le_refl _) ?_; intro g w1 o1 b1; have O1 : Shut _ := ⟨o1⟩; have B1 : Shut _ := ⟨b1⟩; clear o1 b1)
  go_loopg [4, 5, 11] (n + 1) (fun gg _ _ v11 wr => ∃ k : Nat, n - k < gg ∧ k ≤ n ∧ v11 = .int .i64 (k : Int) ∧ Shut (Own wr w.heap.size 3 .i64 (some ⟨g, 0, none⟩) n n (lvP bs n k)) ∧ Shut (Below w.heap.size w wr))
  case atStart => exact ⟨0, by omega, by omega, rfl, ⟨by rw [lvP_zero]; exact O1.out⟩, B1⟩
  case round =>
    obtain ⟨k, hg, hk, rfl, OM, BE⟩ := hrel
    clear O1 B1
    by_cases hlt : k < n
    · obtain ⟨ad, rfl, _, hc⟩ := (HX.out.later BE.out).2 (by omega)
      obtain ⟨G, gc, ⟨c0, c1, c2, c3, c4, c5⟩, _⟩ := bdx (hc k hlt)
      have E : Shut _ := ⟨lvP_set HL.out hlt⟩
      obtain ⟨w2, hw2, X2, S2, RA⟩ := box_new wr (bnth bs k).f (bnth bs k).t (bnth bs k).lv (bnth bs k).x (bnth bs k).wd (.slice G (bnth bs k).gs.length gc)
      obtain ⟨s0, s1, s2, s3, s4, s5⟩ := S2.out.cs
      generalize bnth bs k = b at *
      have OM2 : Shut _ := ⟨OM.out.pass X2.out⟩
      have BE2 : Shut (Below w.heap.size w w2) := ⟨BE.out.trans (X2.out.mono BE.out.size)⟩
      obtain ⟨u, hu⟩ : ∃ u, w2.cell? ⟨g, k, none⟩ = some u := ⟨_, own_cellH OM2.out hlt⟩
      have f1 := OwnV.frozenAt OM2.out k
      have SO : Shut (Own (w2.setCell ⟨g, k, none⟩ (.int .i64 b.lv)) w.heap.size 3 .i64 (some ⟨g, 0, none⟩) n n (lvP bs n (k + 1))) := ⟨by rw [← E.out]; exact Own.set_ OM2.out k _⟩
      have SE : Shut (Below w.heap.size w (w2.setCell ⟨g, k, none⟩ (.int .i64 b.lv))) := ⟨Below.setCell BE2.out (p := ⟨g, k, none⟩) (OwnV.ltH OM2.out).1 _⟩
      have i1 : (k : Int) < (n : Int) := by omega
      clear hc s0 s1 s3 s4 s5 E
      go_wp2_with (refine wpList_store_row rfl 37 (.tmp 5) (.tmp 15) rfl wr.heap.size _ rfl rfl 37 _ RA.out boxSize (by rfl) (six_allB _ _ _ _ _ _ _ _) ?_; rw [← hw2]; clear hw2)
      go_roundg (n - k)
      case measure => omega
      case rel => exact ⟨k + 1, by omega, by omega, by go_num, SO, SE⟩
    · obtain rfl : k = n := by omega
      rw [lvP_full HL.out] at OM
      have VS : Shut _ := ⟨visual_any (some ⟨g, 0, none⟩) k k (lvL bs) wr OM.out.ints hn⟩
      clear hlt OM
      go_wp2_with fail
      refine VS.out.mono ?_
      rintro e w2 ⟨A2, c2, rfl, o2, b2⟩
      have O2 : Shut _ := ⟨Own.weakB o2 BE.out.size⟩
      have B2 : Shut _ := ⟨BE.out.trans (b2.mono BE.out.size)⟩
      clear o2 b2 VS
      go_wp2_with fail
      go_ret
      exact ⟨A2, c2, rfl, O2.out, B2.out⟩
end Go.Proofs.Yteedngkbcbojjaa
