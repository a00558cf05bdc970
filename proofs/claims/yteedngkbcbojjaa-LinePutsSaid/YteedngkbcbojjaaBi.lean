/- Chapter 45: how far boxes reach, both ways. -/
import Derived.Test.YteedngkbcbojjaaBe
import Derived.Deep.RegionLaw
namespace Go.Proofs.Yteedngkbcbojjaa
open Go.ChangeShapes Go.WideShapes Go.ChangeAt Go.RowKit
set_option maxRecDepth 100000
set_option linter.unusedSimpArgs false
set_option linter.unusedVariables false

def loN (bs : List BoxD) : Nat → Int
  | 0 => (bnth bs 0).x
  | k + 1 => min (loN bs k) (bnth bs k).x
def hiN (bs : List BoxD) : Nat → Int
  | 0 => (bnth bs 0).x + (bnth bs 0).wd
  | k + 1 => max (hiN bs k) ((bnth bs k).x + (bnth bs k).wd)
def inkL (bs : List BoxD) (n : Nat) : Int := if n = 0 then 0 else loN bs n
def inkH (bs : List BoxD) (n : Nat) : Int := if n = 0 then 0 else hiN bs n
abbrev lineV (A : Option Addr) (n c : Nat) : Value := .agg #[.int .i64 0, .int .i64 0, .int .i64 0, .int .i64 0, .int .i64 0, .int .i64 0, .bool false, .slice A n c]
theorem tup2 {a b a' b' : Int} (h1 : a = a') (h2 : b = b') : Ending.returned (.tuple #[Value.int .i64 a, Value.int .i64 b]) = Ending.returned (.tuple #[Value.int .i64 a', Value.int .i64 b']) := by rw [h1, h2]
set_option maxHeartbeats 8000000 in
theorem ink_any (A : Option Addr) (n c : Nat) (bs : List BoxD) (w : World) (hx : BoxesAt w w.heap.size A n bs) (hn : n ≤ 40) (hok : ∀ j, j < n → OkB (bnth bs j)) :
    Calls Try.prog 12 #[lineV A n c] w fun e w' => e = .returned (.tuple #[.int .i64 (inkL bs n), .int .i64 (inkH bs n)]) ∧ Below w.heap.size w w' := by
  have HX : Shut _ := ⟨hx⟩
  have OK : Shut _ := ⟨hok⟩
  clear hx hok
  unfold lineV
  rcases Nat.eq_zero_or_pos n with h0 | h0
  · subst h0
    have E1 : Shut (inkL bs 0 = 0) := ⟨rfl⟩
    have E2 : Shut (inkH bs 0 = 0) := ⟨rfl⟩
    generalize inkL bs 0 = L at *
    generalize inkH bs 0 = H at *
    go_enter Try.func12, Try.ntmps12
    go_wp2_with fail
    go_ret2
    exact ⟨tup2 E1.out.symm E2.out.symm, below_alloc _ _⟩
  · have E1 : Shut (inkL bs n = loN bs n) := ⟨if_neg (by omega)⟩
    have E2 : Shut (inkH bs n = hiN bs n) := ⟨if_neg (by omega)⟩
    obtain ⟨W1, hW1⟩ : ∃ W1, W1 = w.alloc (.cells #[.int .i64 0, .int .i64 0, .int .i64 0, .int .i64 0, .int .i64 0, .int .i64 0, .bool false, .slice A n c] 33) := ⟨_, rfl⟩
    have L1 : Shut (W1.heap[w.heap.size]? = some (.cells #[.int .i64 0, .int .i64 0, .int .i64 0, .int .i64 0, .int .i64 0, .int .i64 0, .bool false, .slice A n c] 33 (0, 0))) := ⟨by rw [hW1]; exact heap_alloc_new _ _⟩
    have B1 : Shut (Below w.heap.size w W1) := ⟨by rw [hW1]; exact below_alloc _ _⟩
    have l7 : W1.cell? ⟨w.heap.size, 7, none⟩ = some (.slice A n c) := by rw [cell_of_row _ _ _ _ _ _ L1.out]; rfl
    have hn0 : ((n : Int) == 0) = false := by simp; omega
    have i00 : (0 : Int) < (n : Int) := by omega
    obtain ⟨ad, rfl, _, hcb⟩ := (HX.out.later B1.out).2 (by omega)
    obtain ⟨G, gc, ⟨_, _, _, a3, a4, _⟩, _⟩ := bdx (hcb 0 h0)
    have ho := OK.out 0 h0
    have hx1 := ho.1
    have hx2 := ho.2.1
    have EL0 : Shut (loN bs 0 = (bnth bs 0).x) := ⟨rfl⟩
    have EH0 : Shut (hiN bs 0 = (bnth bs 0).x + (bnth bs 0).wd) := ⟨rfl⟩
    generalize (bnth bs 0).x = x0 at *
    generalize (bnth bs 0).wd = d0 at *
    simp only [Nat.zero_mul] at a3 a4
    have b3 : W1.cell? ⟨ad.block, ad.off + 3, none⟩ = some (.int .i64 x0) := by have := a3; simpa [Addr.add] using this
    have b4 : W1.cell? ⟨ad.block, ad.off + 4, none⟩ = some (.int .i64 d0) := by have := a4; simpa [Addr.add] using this
    clear hcb ho
    go_enter Try.func12, Try.ntmps12
    go_wp2_with fail
    rw [← hW1]
    clear hW1
    go_quiet (fail)
    go_wp2_with fail
    go_loopg [4, 5, 7, 31] (n + 1) (fun gg v4 v5 _ v31 wr => ∃ k : Nat, n - k < gg ∧ k ≤ n ∧ v4 = .int .i64 (loN bs k) ∧ v5 = .int .i64 (hiN bs k) ∧ v31 = .int .i64 (k : Int) ∧ Shut (Below W1.heap.size W1 wr))
    case atStart => exact ⟨0, by omega, by omega, iv EL0.out.symm, iv EH0.out.symm, rfl, ⟨below_drewN (Below.refl _ _) _⟩⟩
    case round =>
      obtain ⟨k, hg, hk, rfl, rfl, rfl, BE⟩ := hrel
      clear a3 a4 b3 b4 l7 EL0 EH0
      have BW : Shut (Below w.heap.size w wr) := ⟨B1.out.trans (BE.out.mono B1.out.size)⟩
      by_cases hlt : k < n
      · obtain ⟨ad', e', _, hcb⟩ := (HX.out.later BW.out).2 (by omega)
        obtain rfl : ad = ad' := by injection e'
        obtain ⟨G', gc', ⟨a0, a1, a2, a3, a4, a5⟩, _⟩ := bdx (hcb k hlt)
        have ho := OK.out k hlt
        have hx1 := ho.1
        have hx2 := ho.2.1
        have EL : Shut (loN bs (k + 1) = min (loN bs k) (bnth bs k).x) := ⟨rfl⟩
        have EH : Shut (hiN bs (k + 1) = max (hiN bs k) ((bnth bs k).x + (bnth bs k).wd)) := ⟨rfl⟩
        generalize loN bs k = lo at *
        generalize hiN bs k = hi at *
        generalize bnth bs k = b at *
        have j1 : (k : Int) < (n : Int) := by omega
        have BN : ∀ q, Below W1.heap.size W1 ((wr.alloc (.cells #[.int .i64 b.f, .int .i64 b.t, .int .i64 b.lv, .int .i64 b.x, .int .i64 b.wd, .slice G' b.gs.length gc'] 37)).drewN q) := fun q => below_drewN (BE.out.alloc (by have := BE.out.size; omega) _) q
        clear hcb ho e'
        have m0 : b.x < lo ∨ lo ≤ b.x := by omega
        have l0 : hi < b.x + b.wd ∨ b.x + b.wd ≤ hi := by omega
        rcases m0 with m1 | m1
        all_goals
          rcases l0 with l1 | l1
          all_goals
            go_wp2_with fail
            go_quiet (fail)
            go_wp2_with fail
            go_roundg (n - k)
            case measure => omega
            case rel => exact ⟨k + 1, by omega, by omega, iv (by rw [EL.out]; omega), iv (by rw [EH.out]; omega), by go_num, ⟨BN _⟩⟩
      · obtain rfl : k = n := by omega
        clear hlt
        go_wp2_with fail
        go_ret2
        exact ⟨tup2 E1.out.symm E2.out.symm, BW.out⟩
set_option maxHeartbeats 8000000 in
theorem rink_any (A : Option Addr) (n c : Nat) (bs : List BoxD) (w : World) (hx : BoxesAt w w.heap.size A n bs) (hn : n ≤ 40) (hok : ∀ j, j < n → OkB (bnth bs j)) :
    Calls Try.prog 13 #[lineV A n c] w fun e w' => e = .returned (.tuple #[.int .i64 (inkL bs n), .int .i64 (inkH bs n)]) ∧ Below w.heap.size w w' := by
  have HX : Shut _ := ⟨hx⟩
  have OK : Shut _ := ⟨hok⟩
  clear hx hok
  unfold lineV
  rcases Nat.eq_zero_or_pos n with h0 | h0
  · subst h0
    have E1 : Shut (inkL bs 0 = 0) := ⟨rfl⟩
    have E2 : Shut (inkH bs 0 = 0) := ⟨rfl⟩
    generalize inkL bs 0 = L at *
    generalize inkH bs 0 = H at *
    go_enter Try.func13, Try.ntmps13
    go_wp2_with fail
    go_ret2
    exact ⟨tup2 E1.out.symm E2.out.symm, below_alloc _ _⟩
  · have E1 : Shut (inkL bs n = loN bs n) := ⟨if_neg (by omega)⟩
    have E2 : Shut (inkH bs n = hiN bs n) := ⟨if_neg (by omega)⟩
    obtain ⟨W1, hW1⟩ : ∃ W1, W1 = w.alloc (.cells #[.int .i64 0, .int .i64 0, .int .i64 0, .int .i64 0, .int .i64 0, .int .i64 0, .bool false, .slice A n c] 33) := ⟨_, rfl⟩
    have L1 : Shut (W1.heap[w.heap.size]? = some (.cells #[.int .i64 0, .int .i64 0, .int .i64 0, .int .i64 0, .int .i64 0, .int .i64 0, .bool false, .slice A n c] 33 (0, 0))) := ⟨by rw [hW1]; exact heap_alloc_new _ _⟩
    have B1 : Shut (Below w.heap.size w W1) := ⟨by rw [hW1]; exact below_alloc _ _⟩
    have l7 : W1.cell? ⟨w.heap.size, 7, none⟩ = some (.slice A n c) := by rw [cell_of_row _ _ _ _ _ _ L1.out]; rfl
    have hn0 : ((n : Int) == 0) = false := by simp; omega
    have i00 : (0 : Int) < (n : Int) := by omega
    obtain ⟨ad, rfl, _, hcb⟩ := (HX.out.later B1.out).2 (by omega)
    obtain ⟨G, gc, ⟨_, _, _, a3, a4, _⟩, _⟩ := bdx (hcb 0 h0)
    have ho := OK.out 0 h0
    have hx1 := ho.1
    have hx2 := ho.2.1
    have EL0 : Shut (loN bs 0 = (bnth bs 0).x) := ⟨rfl⟩
    have EH0 : Shut (hiN bs 0 = (bnth bs 0).x + (bnth bs 0).wd) := ⟨rfl⟩
    generalize (bnth bs 0).x = x0 at *
    generalize (bnth bs 0).wd = d0 at *
    simp only [Nat.zero_mul] at a3 a4
    have b3 : W1.cell? ⟨ad.block, ad.off + 3, none⟩ = some (.int .i64 x0) := by have := a3; simpa [Addr.add] using this
    have b4 : W1.cell? ⟨ad.block, ad.off + 4, none⟩ = some (.int .i64 d0) := by have := a4; simpa [Addr.add] using this
    clear hcb ho
    go_enter Try.func13, Try.ntmps13
    go_upto_region 3 with fail
    rw [← hW1]
    clear hW1
    go_wp2_with fail
    go_quiet (fail)
    go_wp2_with fail
    go_loopg [4, 5, 6, 7] (n + 1) (fun gg v4 v5 v31 _ wr => ∃ k : Nat, n - k < gg ∧ k ≤ n ∧ v4 = .int .i64 (loN bs k) ∧ v5 = .int .i64 (hiN bs k) ∧ v31 = .int .i64 (k : Int) ∧ Shut (Below W1.heap.size W1 wr))
    case atStart => exact ⟨0, by omega, by omega, iv EL0.out.symm, iv EH0.out.symm, rfl, ⟨below_drewN (Below.refl _ _) _⟩⟩
    case round =>
      obtain ⟨k, hg, hk, rfl, rfl, rfl, BE⟩ := hrel
      clear a3 a4 b3 b4 l7 EL0 EH0
      have l7 : wr.cell? ⟨w.heap.size, 7, none⟩ = some (.slice (some ad) n c) := by rw [cell_of_row _ _ _ _ _ _ ((BE.out.block _ (lt_of_block L1.out)).trans L1.out)]; rfl
      have BW : Shut (Below w.heap.size w wr) := ⟨B1.out.trans (BE.out.mono B1.out.size)⟩
      by_cases hlt : k < n
      · obtain ⟨ad', e', _, hcb⟩ := (HX.out.later BW.out).2 (by omega)
        obtain rfl : ad = ad' := by injection e'
        obtain ⟨G', gc', ⟨a0, a1, a2, a3, a4, a5⟩, _⟩ := bdx (hcb k hlt)
        have ho := OK.out k hlt
        have hx1 := ho.1
        have hx2 := ho.2.1
        have EL : Shut (loN bs (k + 1) = min (loN bs k) (bnth bs k).x) := ⟨rfl⟩
        have EH : Shut (hiN bs (k + 1) = max (hiN bs k) ((bnth bs k).x + (bnth bs k).wd)) := ⟨rfl⟩
        generalize loN bs k = lo at *
        generalize hiN bs k = hi at *
        generalize bnth bs k = b at *
        have j1 : (k : Int) < (n : Int) := by omega
        have BN : Below W1.heap.size W1 (wr.alloc (.cells #[.int .i64 b.f, .int .i64 b.t, .int .i64 b.lv, .int .i64 b.x, .int .i64 b.wd, .slice G' b.gs.length gc'] 37)) := BE.out.alloc (by have := BE.out.size; omega) _
        clear hcb ho e'
        have m0 : b.x < lo ∨ lo ≤ b.x := by omega
        have l0 : hi < b.x + b.wd ∨ b.x + b.wd ≤ hi := by omega
        rcases m0 with m1 | m1
        all_goals
          rcases l0 with l1 | l1
          all_goals
            go_wp2_with fail
            go_roundg (n - k)
            case measure => omega
            case rel => exact ⟨k + 1, by omega, by omega, iv (by rw [EL.out]; omega), iv (by rw [EH.out]; omega), by go_num, ⟨BN⟩⟩
      · obtain rfl : k = n := by omega
        clear hlt
        go_wp2_with fail
        go_ret2
        exact ⟨tup2 E1.out.symm E2.out.symm, BW.out⟩
end Go.Proofs.Yteedngkbcbojjaa
