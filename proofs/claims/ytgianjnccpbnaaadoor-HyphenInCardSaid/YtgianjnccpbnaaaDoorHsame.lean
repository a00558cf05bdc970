/- Chapter 20: two lists held against each other. -/
import Derived.Test.YtgianjnccpbnaaaDoorRows
import Derived.Test.YtgianjnccpbnaaaDoorLib
namespace Go.Proofs.YtgianjnccpbnaaaDoor
open Go.ChangeShapes Go.WideShapes Go.ChangeAt Go.RowKit
set_option maxRecDepth 100000

set_option maxHeartbeats 400000 in
theorem same02_any (A C : Option Addr) (n m c d : Nat) (xs ys : List Int) (w : World) (hx : IntsAt w w.heap.size .i32 A n xs) (hy : IntsAt w w.heap.size .i32 C m ys)
    (hn : n ≤ 140737488355328) (hm : m ≤ 140737488355328) :
    Calls Tryd.prog 27 #[.slice A n c, .slice C m d] w fun e w' => e = .returned (.bool (xs == ys)) ∧ Below w.heap.size w w' := by
  by_cases hnm : n = m
  · subst hnm
    obtain ⟨hxl, hx⟩ := hx
    obtain ⟨hyl, hy⟩ := hy
    have HX := Lib.hid hxl
    have HY := Lib.hid hyl
    clear hxl hyl
    go_enter Tryd.func27, Tryd.ntmps27
    go_wp2
    go_loopw [5] (fun i wr => ∃ k : Nat, k ≤ n ∧ i = .int .i64 k ∧ xs.take k = ys.take k ∧ ∃ q, wr = w.drewN q) (fun i _ => n - (intOf i).toNat)
    case atStart => exact ⟨0, Nat.zero_le _, rfl, by simp, 0, rfl⟩
    case round =>
      obtain ⟨k, hk, rfl, htk, q, rfl⟩ := hrel
      have HT := Lib.hid htk
      clear htk
      by_cases hlt : k < n
      · obtain ⟨ax, rfl, hxb, hxc⟩ := hx (by omega)
        obtain ⟨ay, rfl, hyb, hyc⟩ := hy (by omega)
        have c1 := hxc k hlt
        have c2 := hyc k hlt
        clear hxc hyc hx hy
        have h63 : (k : Int) + 1 ≤ 9223372036854775807 := by omega
        by_cases he : nth xs k = nth ys k
        · have hb : ((nth xs k : Int) != nth ys k) = false := by simp [he]
          have HE := Lib.hid he
          clear he
          go_wp2
          go_quiet (fail)
          go_wp2
          go_roundw
          case rel => exact ⟨k + 1, by omega, by go_num, same_take HT.out (by rw [HX.out]; exact hlt) (by rw [HY.out]; exact hlt) HE.out, q + nq, rfl⟩
          case measure => simp [intOf]; omega
        · have hb : ((nth xs k : Int) != nth ys k) = true := by simp [he]
          have HE := Lib.hid he
          clear he
          go_wp2
          go_quiet (fail)
          go_wp2
          go_ret
          exact ⟨retb (by rw [ne_of_nth HE.out]), below_drewN (below_drewN (Below.refl _ _) _) _⟩
      · clear hx hy
        obtain rfl : k = n := by omega
        go_wp2
        go_ret
        exact ⟨retb (by rw [eq_of_take HT.out HX.out HY.out]), below_drewN (Below.refl _ _) _⟩
  · have hne : ((n : Int) != m) = true := by simp; omega
    have HN : (xs == ys) = false := ne_of_len (by rw [hx.1, hy.1]; exact hnm)
    have HN := Lib.hid HN
    clear hx hy hnm
    go_enter Tryd.func27, Tryd.ntmps27
    go_wp2
    go_ret
    exact ⟨retb HN.out.symm, Below.refl _ _⟩

set_option maxHeartbeats 400000 in
theorem same01_any (A C : Option Addr) (n m c d : Nat) (xs ys : List Int) (w : World) (hx : IntsAt w w.heap.size .i64 A n xs) (hy : IntsAt w w.heap.size .i64 C m ys)
    (hn : n ≤ 140737488355328) (hm : m ≤ 140737488355328) :
    Calls Tryd.prog 5 #[.slice A n c, .slice C m d] w fun e w' => e = .returned (.bool (xs == ys)) ∧ Below w.heap.size w w' := by
  by_cases hnm : n = m
  · subst hnm
    obtain ⟨hxl, hx⟩ := hx
    obtain ⟨hyl, hy⟩ := hy
    have HX := Lib.hid hxl
    have HY := Lib.hid hyl
    clear hxl hyl
    go_enter Tryd.func5, Tryd.ntmps5
    go_wp2
    go_loopw [5] (fun i wr => ∃ k : Nat, k ≤ n ∧ i = .int .i64 k ∧ xs.take k = ys.take k ∧ ∃ q, wr = w.drewN q) (fun i _ => n - (intOf i).toNat)
    case atStart => exact ⟨0, Nat.zero_le _, rfl, by simp, 0, rfl⟩
    case round =>
      obtain ⟨k, hk, rfl, htk, q, rfl⟩ := hrel
      have HT := Lib.hid htk
      clear htk
      by_cases hlt : k < n
      · obtain ⟨ax, rfl, hxb, hxc⟩ := hx (by omega)
        obtain ⟨ay, rfl, hyb, hyc⟩ := hy (by omega)
        have c1 := hxc k hlt
        have c2 := hyc k hlt
        clear hxc hyc hx hy
        have h63 : (k : Int) + 1 ≤ 9223372036854775807 := by omega
        by_cases he : nth xs k = nth ys k
        · have hb : ((nth xs k : Int) != nth ys k) = false := by simp [he]
          have HE := Lib.hid he
          clear he
          go_wp2
          go_quiet (fail)
          go_wp2
          go_roundw
          case rel => exact ⟨k + 1, by omega, by go_num, same_take HT.out (by rw [HX.out]; exact hlt) (by rw [HY.out]; exact hlt) HE.out, q + nq, rfl⟩
          case measure => simp [intOf]; omega
        · have hb : ((nth xs k : Int) != nth ys k) = true := by simp [he]
          have HE := Lib.hid he
          clear he
          go_wp2
          go_quiet (fail)
          go_wp2
          go_ret
          exact ⟨retb (by rw [ne_of_nth HE.out]), below_drewN (below_drewN (Below.refl _ _) _) _⟩
      · clear hx hy
        obtain rfl : k = n := by omega
        go_wp2
        go_ret
        exact ⟨retb (by rw [eq_of_take HT.out HX.out HY.out]), below_drewN (Below.refl _ _) _⟩
  · have hne : ((n : Int) != m) = true := by simp; omega
    have HN : (xs == ys) = false := ne_of_len (by rw [hx.1, hy.1]; exact hnm)
    have HN := Lib.hid HN
    clear hx hy hnm
    go_enter Tryd.func5, Tryd.ntmps5
    go_wp2
    go_ret
    exact ⟨retb HN.out.symm, Below.refl _ _⟩
end Go.Proofs.YtgianjnccpbnaaaDoor
