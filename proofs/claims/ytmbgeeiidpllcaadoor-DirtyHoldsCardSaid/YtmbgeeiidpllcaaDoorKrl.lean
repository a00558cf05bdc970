/- Chapter 19: the reference's loops: root, spaces, flags. -/
import Derived.Test.YtmbgeeiidpllcaaDoorKr
namespace Go.Proofs.YtmbgeeiidpllcaaDoor
open Go.ChangeShapes Go.WideShapes Go.ChangeAt Go.RowKit
set_option maxRecDepth 100000
set_option linter.unusedSimpArgs false

theorem own19_at {A : Option Addr} {n c : Nat} {xs : List Int} {w : World} (hx : SliceIn .i32 w A n c xs) {i : Nat} (hi : i < n) :
    Shut (∀ w', Calls Tryd.prog 51 #[.int .i32 (nth xs i)] w' fun e w1 => e = .returned (.int .i64 (bk xs i)) ∧ Below w'.heap.size w' w1) :=
  ⟨fun w' => own19_any (nth xs i) (bounds_i32 (hx.nth_wf hi)).1 (bounds_i32 (hx.nth_wf hi)).2 w'⟩
theorem intv {a b : Int} (h : a = b) : Ending.returned (Value.int .i64 a) = Ending.returned (Value.int .i64 b) := by rw [h]

set_option maxHeartbeats 2000000 in
theorem root_any (A : Option Addr) (n c : Nat) (xs : List Int) (i : Nat) (hi : i < n) (w : World) (hx : SliceIn .i32 w A n c xs) (hn : n ≤ 4000) :
    Calls Tryd.prog 69 #[.slice A n c, .int .i64 (i : Int)] w fun e w' => e = .returned (.int .i64 (srcN xs i : Int)) ∧ Below w.heap.size w w' := by
  have HX : Shut _ := ⟨hx⟩
  obtain ⟨R, hR⟩ : ∃ R, srcN xs i = R := ⟨_, rfl⟩
  rw [hR]
  have SR : Shut _ := ⟨hR⟩
  clear hR hx
  go_enter Tryd.func69, Tryd.ntmps69
  go_wp2_with fail
  go_loopg [1] (i + 1) (fun gg v wr => ∃ k : Nat, k < gg ∧ k < n ∧ v = .int .i64 (k : Int) ∧ Shut (srcN xs k = R) ∧ Shut (Below w.heap.size w wr))
  case atStart => exact ⟨i, by omega, hi, rfl, SR, ⟨Below.refl _ _⟩⟩
  case round =>
    obtain ⟨k, hg, hk, rfl, SI, RB⟩ := hrel
    clear SR
    obtain rfl | ⟨j, rfl⟩ : k = 0 ∨ ∃ j, k = j + 1 := by cases k with | zero => exact .inl rfl | succ j => exact .inr ⟨j, rfl⟩
    · have E : Shut (0 = R) := ⟨SI.out⟩
      clear SI
      rw [show ((0 : Nat) : Int) = 0 from rfl]
      go_wp2_with fail
      go_ret
      exact ⟨intv (by rw [← E.out]; rfl), RB.out⟩
    · obtain ⟨ad, rfl, hab, hcx⟩ := (HX.out.pass RB.out).at_.2 (by omega)
      have c1 : wr.cell? ⟨ad.block, ad.off + (j + 1), none⟩ = some (.int .i32 (nth xs (j + 1))) := by rw [← add_succ]; exact hcx (j + 1) hk
      have c2 := hcx j (by omega)
      have habj : (ad.add j).block < wr.heap.size := by rw [block_of_add]; exact hab
      have O1 := own19_at HX.out hk
      have O2 := own19_at HX.out (i := j) (by omega)
      have Y : Shut (mkB (bk xs (j + 1)) = true → inL [1, 2, 3, 4, 5] (bk xs j) = false → srcN xs j = R) := ⟨fun h1 h2 => by
        have := SI.out
        simp only [srcN] at this
        rw [if_pos h1, if_neg (by unfold stopB; rw [h2]; simp)] at this
        exact this⟩
      have N1 : Shut (mkB (bk xs (j + 1)) = false → j + 1 = R) := ⟨fun h1 => by
        have := SI.out
        simp only [srcN] at this
        rw [if_neg (by rw [h1]; simp)] at this
        exact this⟩
      have N2 : Shut (mkB (bk xs (j + 1)) = true → inL [1, 2, 3, 4, 5] (bk xs j) = true → j + 1 = R) := ⟨fun h1 h2 => by
        have := SI.out
        simp only [srcN] at this
        rw [if_pos h1, if_pos (by unfold stopB; exact h2)] at this
        exact this⟩
      generalize nth xs (j + 1) = u at *
      generalize nth xs j = v at *
      generalize bk xs (j + 1) = cu at *
      generalize bk xs j = cv at *
      clear hcx SI
      rw [show ((j + 1 : Nat) : Int) = (j : Int) + 1 from rfl]
      cases hm : mkB cu with
      | false =>
        have E : Shut _ := ⟨N1.out hm⟩
        go_wp2_with (first
          | (go_at_call 51; with_reducible refine (O1.out _).mono ?_; rintro e w1 ⟨rfl, b1⟩)
          | (go_at_call 52; with_reducible refine (marks19_any _ _).mono ?_; rw [hm]; rintro e w1 ⟨rfl, rfl⟩))
        go_ret
        exact ⟨intv (by rw [← E.out]; rfl), RB.out.trans (b1.mono RB.out.size)⟩
      | true =>
        cases hs : inL [1, 2, 3, 4, 5] cv with
        | true =>
          have E : Shut _ := ⟨N2.out hm hs⟩
          go_wp2_with (first
            | (go_at_call 51; with_reducible refine (O1.out _).mono ?_; rintro e w1 ⟨rfl, b1⟩; have c2' := (b1.cell (p := ad.add j) habj).trans c2; have X1 : Shut (Below w.heap.size w w1) := ⟨RB.out.trans (b1.mono RB.out.size)⟩; clear b1 c1 c2 O1)
            | (go_at_call 51; with_reducible refine (O2.out _).mono ?_; rintro e w2 ⟨rfl, b2⟩; have X2 : Shut (Below w.heap.size w w2) := ⟨X1.out.trans (b2.mono X1.out.size)⟩; clear b2)
            | (go_at_call 52; with_reducible refine (marks19_any _ _).mono ?_; rw [hm]; rintro e w1 ⟨rfl, rfl⟩)
            | (go_at_call 53; (with_reducible refine (in_lit5 _ _ _ _ _ (by omega) (by omega) (by omega) (by omega) (by omega) _ _ _ _ (by simp)).mono ?_); rw [hs]; rintro e w' ⟨rfl, rfl⟩))
          go_ret
          exact ⟨intv (by rw [← E.out]; rfl), by bel X2⟩
        | false =>
          have E : Shut _ := ⟨Y.out hm hs⟩
          go_wp2_with (first
            | (go_at_call 51; with_reducible refine (O1.out _).mono ?_; rintro e w1 ⟨rfl, b1⟩; have c2' := (b1.cell (p := ad.add j) habj).trans c2; have X1 : Shut (Below w.heap.size w w1) := ⟨RB.out.trans (b1.mono RB.out.size)⟩; clear b1 c1 c2 O1)
            | (go_at_call 51; with_reducible refine (O2.out _).mono ?_; rintro e w2 ⟨rfl, b2⟩; have X2 : Shut (Below w.heap.size w w2) := ⟨X1.out.trans (b2.mono X1.out.size)⟩; clear b2)
            | (go_at_call 52; with_reducible refine (marks19_any _ _).mono ?_; rw [hm]; rintro e w1 ⟨rfl, rfl⟩)
            | (go_at_call 53; (with_reducible refine (in_lit5 _ _ _ _ _ (by omega) (by omega) (by omega) (by omega) (by omega) _ _ _ _ (by simp)).mono ?_); rw [hs]; rintro e w' ⟨rfl, rfl⟩))
          go_roundg (j + 1)
          case measure => omega
          case rel => exact ⟨j, by omega, by omega, by go_num, E, ⟨by bel X2⟩⟩
set_option maxHeartbeats 2000000 in
theorem spaces_any (A : Option Addr) (n c : Nat) (xs : List Int) (i : Nat) (hi : i ≤ n) (w : World) (hx : SliceIn .i32 w A n c xs) (hn : n ≤ 4000) :
    Calls Tryd.prog 68 #[.slice A n c, .int .i64 (i : Int)] w fun e w' => e = .returned (.int .i64 ((spN xs i : Int) - 1)) ∧ Below w.heap.size w w' := by
  have HX : Shut _ := ⟨hx⟩
  obtain ⟨R, hR⟩ : ∃ R, spN xs i = R := ⟨_, rfl⟩
  rw [hR]
  have SR : Shut _ := ⟨hR⟩
  clear hR hx
  go_enter Tryd.func68, Tryd.ntmps68
  go_wp2_with fail
  go_loopg [1] (i + 1) (fun gg v wr => ∃ k : Nat, k < gg ∧ k ≤ n ∧ v = .int .i64 ((k : Int) - 1) ∧ Shut (spN xs k = R) ∧ Shut (Below w.heap.size w wr))
  case atStart => exact ⟨i, by omega, hi, by go_num, SR, ⟨Below.refl _ _⟩⟩
  case round =>
    obtain ⟨k, hg, hk, rfl, SI, RB⟩ := hrel
    clear SR
    obtain rfl | ⟨j, rfl⟩ : k = 0 ∨ ∃ j, k = j + 1 := by cases k with | zero => exact .inl rfl | succ j => exact .inr ⟨j, rfl⟩
    · have E : Shut (0 = R) := ⟨SI.out⟩
      clear SI
      rw [show ((0 : Nat) : Int) - 1 = -1 from rfl]
      go_wp2_with fail
      go_ret
      exact ⟨intv (by rw [← E.out]; rfl), RB.out⟩
    · obtain ⟨ad, rfl, hab, hcx⟩ := (HX.out.pass RB.out).at_.2 (by omega)
      have c1 := hcx j (by omega)
      have O1 := own19_at HX.out (i := j) (by omega)
      have Y : Shut ((bk xs j == 4) = true → spN xs j = R) := ⟨fun h1 => by
        have := SI.out
        simp only [spN] at this
        rw [if_pos h1] at this
        exact this⟩
      have N1 : Shut ((bk xs j == 4) = false → j + 1 = R) := ⟨fun h1 => by
        have := SI.out
        simp only [spN] at this
        rw [if_neg (by rw [h1]; simp)] at this
        exact this⟩
      generalize nth xs j = v at *
      generalize bk xs j = cv at *
      clear hcx SI
      rw [show ((j + 1 : Nat) : Int) - 1 = (j : Int) from by omega]
      cases hm : (cv == 4) with
      | false =>
        have E : Shut _ := ⟨N1.out hm⟩
        go_wp2_with (first
          | (go_at_call 51; with_reducible refine (O1.out _).mono ?_; rintro e w1 ⟨rfl, b1⟩))
        go_ret
        exact ⟨intv (by rw [← E.out]; omega), RB.out.trans (b1.mono RB.out.size)⟩
      | true =>
        have E : Shut _ := ⟨Y.out hm⟩
        go_wp2_with (first
          | (go_at_call 51; with_reducible refine (O1.out _).mono ?_; rintro e w1 ⟨rfl, b1⟩; have X1 : Shut (Below w.heap.size w w1) := ⟨RB.out.trans (b1.mono RB.out.size)⟩; clear b1))
        go_roundg (j + 1)
        case measure => omega
        case rel => exact ⟨j, by omega, by omega, by go_num, E, X1⟩
/-- a slice of classes: each sign's class by what stands ahead -/
def ClsAt (w : World) (C : Option Addr) (n : Nat) (xs : List Int) : Prop := ∃ cs : List Int, IntsAt w w.heap.size .i64 C n cs ∧ ∀ i, i < n → nth cs i = cls xs i
theorem ClsAt.pass {w w' : World} {C : Option Addr} {n : Nat} {xs : List Int} (h : ClsAt w C n xs) (hb : Below w.heap.size w w') : ClsAt w' C n xs := by
  obtain ⟨cs, h1, h2⟩ := h
  exact ⟨cs, h1.later hb, h2⟩
theorem ClsAt.at_ {w : World} {C : Option Addr} {n : Nat} {xs : List Int} (h : ClsAt w C n xs) (hn : 0 < n) : ∃ ad, C = some ad ∧ ad.block < w.heap.size ∧ ∀ j, j < n → w.cell? (ad.add j) = some (.int .i64 (cls xs j)) := by
  obtain ⟨cs, h1, h2⟩ := h
  obtain ⟨ad, e, hb, hc⟩ := h1.2 hn
  exact ⟨ad, e, hb, fun j hj => by rw [← h2 j hj]; exact hc j hj⟩
set_option maxHeartbeats 2000000 in
theorem flags_any (A : Option Addr) (n c : Nat) (xs : List Int) (C : Option Addr) (cc : Nat) (i : Nat) (hi : i ≤ n) (w : World) (hx : SliceIn .i32 w A n c xs) (hc : ClsAt w C n xs) (hn : n ≤ 4000) :
    Calls Tryd.prog 60 #[.slice A n c, .slice C n cc, .int .i64 (i : Int)] w fun e w' => e = .returned (.int .i64 (flN xs i : Int)) ∧ Below w.heap.size w w' := by
  have HX : Shut _ := ⟨hx⟩
  have HC : Shut _ := ⟨hc⟩
  obtain ⟨R, hR⟩ : ∃ R, flN xs i = R := ⟨_, rfl⟩
  rw [hR]
  have SR : Shut (0 + flN xs i = R) := ⟨by omega⟩
  clear hR hx hc
  go_enter Tryd.func60, Tryd.ntmps60
  go_wp2_with fail
  go_loopg [8, 7] (i + 1) (fun gg v8 v7 wr => ∃ k m : Nat, k < gg ∧ k ≤ n ∧ m + k ≤ i ∧ v8 = .int .i64 ((k : Int) - 1) ∧ v7 = .int .i64 (m : Int) ∧ Shut (m + flN xs k = R) ∧ Shut (Below w.heap.size w wr))
  case atStart => exact ⟨i, 0, by omega, hi, by omega, by go_num, rfl, SR, ⟨Below.refl _ _⟩⟩
  case round =>
    obtain ⟨k, m, hg, hk, hm, rfl, rfl, SI, RB⟩ := hrel
    clear SR
    obtain rfl | ⟨j, rfl⟩ : k = 0 ∨ ∃ j, k = j + 1 := by cases k with | zero => exact .inl rfl | succ j => exact .inr ⟨j, rfl⟩
    · have E : Shut (m = R) := ⟨SI.out⟩
      clear SI
      rw [show ((0 : Nat) : Int) - 1 = -1 from rfl]
      go_wp2_with fail
      go_ret
      exact ⟨intv (by rw [← E.out]), RB.out⟩
    · obtain ⟨ad, rfl, hab, hcx⟩ := (HX.out.pass RB.out).at_.2 (by omega)
      obtain ⟨ac, rfl, hac, hcc⟩ := (HC.out.pass RB.out).at_ (by omega)
      have c1 := hcx j (by omega)
      have c2 := hcc j (by omega)
      have O1 := own19_at HX.out (i := j) (by omega)
      have Y : Shut ((cls xs j == 29) = true → (bk xs j == 29) = true → (m + 1) + flN xs j = R) := ⟨fun h1 h2 => by
        have := SI.out
        simp only [flN] at this
        rw [if_pos h1, if_pos h2] at this
        omega⟩
      have N1 : Shut ((cls xs j == 29) = true → (bk xs j == 29) = false → m + flN xs j = R) := ⟨fun h1 h2 => by
        have := SI.out
        simp only [flN] at this
        rw [if_pos h1, if_neg (by rw [h2]; simp)] at this
        omega⟩
      have N2 : Shut ((cls xs j == 29) = false → m = R) := ⟨fun h1 => by
        have := SI.out
        simp only [flN] at this
        rw [if_neg (by rw [h1]; simp)] at this
        omega⟩
      generalize nth xs j = v at *
      generalize bk xs j = cv at *
      generalize cls xs j = cl at *
      clear hcx hcc SI
      rw [show ((j + 1 : Nat) : Int) - 1 = (j : Int) from by omega]
      cases hs : (cl == 29) with
      | false =>
        have E : Shut _ := ⟨N2.out hs⟩
        go_wp2_with fail
        go_ret
        exact ⟨intv (by rw [← E.out]), RB.out⟩
      | true =>
        cases hq : (cv == 29) with
        | false =>
          have E : Shut _ := ⟨N1.out hs hq⟩
          go_wp2_with (first
            | (go_at_call 51; with_reducible refine (O1.out _).mono ?_; rintro e w1 ⟨rfl, b1⟩; have X1 : Shut (Below w.heap.size w w1) := ⟨RB.out.trans (b1.mono RB.out.size)⟩; clear b1))
          go_roundg (j + 1)
          case measure => omega
          case rel => exact ⟨j, m, by omega, by omega, by omega, by go_num, rfl, E, X1⟩
        | true =>
          have E : Shut _ := ⟨Y.out hs hq⟩
          go_wp2_with (first
            | (go_at_call 51; with_reducible refine (O1.out _).mono ?_; rintro e w1 ⟨rfl, b1⟩; have X1 : Shut (Below w.heap.size w w1) := ⟨RB.out.trans (b1.mono RB.out.size)⟩; clear b1))
          go_roundg (j + 1)
          case measure => omega
          case rel => exact ⟨j, m + 1, by omega, by omega, by omega, by go_num, by go_num, E, X1⟩
end Go.Proofs.YtmbgeeiidpllcaaDoor
