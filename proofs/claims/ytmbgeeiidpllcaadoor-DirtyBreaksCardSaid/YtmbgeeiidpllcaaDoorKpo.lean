/- Chapter 19: the program's hebrew, odd, syllable. -/
import Derived.Test.YtmbgeeiidpllcaaDoorKp
namespace Go.Proofs.YtmbgeeiidpllcaaDoor
open Go.ChangeShapes Go.WideShapes Go.ChangeAt Go.RowKit
set_option maxRecDepth 100000
set_option linter.unusedSimpArgs false

/-- a slice of numbers that a function tells -/
def FnAt (w : World) (C : Option Addr) (n : Nat) (f : Nat → Int) : Prop := ∃ cs : List Int, IntsAt w w.heap.size .i64 C n cs ∧ ∀ i, i < n → nth cs i = f i
theorem FnAt.pass {w w' : World} {C : Option Addr} {n : Nat} {f : Nat → Int} (h : FnAt w C n f) (hb : Below w.heap.size w w') : FnAt w' C n f := by
  obtain ⟨cs, h1, h2⟩ := h
  exact ⟨cs, h1.later hb, h2⟩
theorem FnAt.at_ {w : World} {C : Option Addr} {n : Nat} {f : Nat → Int} (h : FnAt w C n f) (hn : 0 < n) : ∃ ad, C = some ad ∧ ad.block < w.heap.size ∧ ∀ W, Below w.heap.size w W → ∀ j, j < n → W.cell? (ad.add j) = some (.int .i64 (f j)) := by
  obtain ⟨cs, h1, h2⟩ := h
  obtain ⟨ad, e, hb, hc⟩ := h1.2 hn
  exact ⟨ad, e, hb, fun W hW j hj => by rw [← h2 j hj, hW.cell (by rw [block_of_add]; exact hb)]; exact hc j hj⟩
theorem fnAt_own {w : World} {B : Nat} {e : TypeId} {A : Option Addr} {n c : Nat} {f : Nat → Int} (h : Own w B e .i64 A n c ((List.range n).map f)) : FnAt w A n f :=
  ⟨_, h.ints, fun _ hi => clsL_at hi⟩
set_option maxHeartbeats 2000000 in
theorem syl_any (c : Int) (w : World) : Calls Tryd.prog 64 #[.int .i64 c] w fun e w' => e = .returned (.bool (sylB c)) ∧ Below w.heap.size w w' := by
  unfold sylB
  go_enter Tryd.func64, Tryd.ntmps64
  go_wp2_with (go_at_call 45; (with_reducible refine (among_lit5 _ _ _ _ _ (by omega) (by omega) (by omega) (by omega) (by omega) _ _ _ _ (by simp)).mono ?_); rintro e w' ⟨rfl, rfl⟩)
  go_ret
  exact ⟨rfl, below_alloc _ _⟩
set_option maxHeartbeats 4000000 in
theorem heb_any (x : Value) (C S : Option Addr) (n cc sc : Nat) (xs : List Int) (j : Nat) (hj : j + 1 < n) (a b oa ob s os : Int) (w : World) (hC : FnAt w C n (cls xs)) (hS : FnAt w S n fun i => (srcN xs i : Int)) (hn : n ≤ 4000) :
    Calls Tryd.prog 63 #[.agg #[x, .slice C n cc, .slice S n sc, .int .i64 ((j : Int) + 1), .int .i64 a, .int .i64 b, .int .i64 oa, .int .i64 ob, .int .i64 s, .int .i64 os]] w fun e w' => e = .returned (.bool (hebN xs (j + 1))) ∧ Below w.heap.size w w' := by
  obtain ⟨ac, rfl, hac, hcc⟩ := hC.at_ (by omega)
  obtain ⟨az, rfl, has, hss⟩ := hS.at_ (by omega)
  have R0 : Shut (SpotI w (w.alloc (.cells #[x, .slice (some ac) n cc, .slice (some az) n sc, .int .i64 ((j : Int) + 1), .int .i64 a, .int .i64 b, .int .i64 oa, .int .i64 ob, .int .i64 s, .int .i64 os] 61)) x (.slice (some ac) n cc) (.slice (some az) n sc) ((j : Int) + 1) a b oa ob s os) := ⟨SpotI.new ..⟩
  have p2 := R0.out.c2
  have p1 := R0.out.c1
  have p3 := R0.out.c3
  have k1 := hss _ R0.out.be j (by omega)
  have HS : Shut (hebN xs (j + 1) = (decide (0 < srcN xs j) && (cls xs (srcN xs j - 1) == 28))) := ⟨hebN_src xs j⟩
  have hsn := srcN_le xs j
  have k2 : Shut (0 < srcN xs j → (w.alloc (.cells #[x, .slice (some ac) n cc, .slice (some az) n sc, .int .i64 ((j : Int) + 1), .int .i64 a, .int .i64 b, .int .i64 oa, .int .i64 ob, .int .i64 s, .int .i64 os] 61)).cell? (ac.add (srcN xs j - 1)) = some (.int .i64 (cls xs (srcN xs j - 1)))) := ⟨fun h => hcc _ R0.out.be _ (by omega)⟩
  clear hC hS hcc hss hac has
  generalize hebN xs (j + 1) = heb at *
  generalize srcN xs j = Q at *
  obtain rfl | ⟨q, rfl⟩ : Q = 0 ∨ ∃ q, Q = q + 1 := by cases Q with | zero => exact .inl rfl | succ q => exact .inr ⟨q, rfl⟩
  · have E : Shut (false = heb) := ⟨by rw [HS.out]; simp⟩
    clear HS k2
    rw [show ((0 : Nat) : Int) = 0 from rfl] at k1
    go_enter Tryd.func63, Tryd.ntmps63
    go_wp2_with fail
    go_ret
    exact ⟨retb E.out, R0.out.be⟩
  · have k3 := k2.out (by omega)
    have E : Shut ((cls xs q == 28) = heb) := ⟨by rw [HS.out]; simp⟩
    rw [Nat.add_sub_cancel] at k3
    generalize cls xs q = cq at *
    clear HS k2
    rw [show ((q + 1 : Nat) : Int) = (q : Int) + 1 from rfl] at k1
    cases hb : (cq == 28) with
    | true =>
      have E2 : Shut (true = heb) := ⟨by rw [← E.out, hb]⟩
      clear E
      go_enter Tryd.func63, Tryd.ntmps63
      go_wp2_with fail
      go_ret
      exact ⟨retb E2.out, R0.out.be⟩
    | false =>
      have E2 : Shut (false = heb) := ⟨by rw [← E.out, hb]⟩
      clear E
      go_enter Tryd.func63, Tryd.ntmps63
      go_wp2_with fail
      go_ret
      exact ⟨retb E2.out, R0.out.be⟩
set_option maxHeartbeats 4000000 in
theorem odd_any (O : Option Addr) (y z : Value) (n oc : Nat) (xs : List Int) (i : Nat) (hi : i ≤ n) (a b oa ob s os : Int) (w : World) (hO : FnAt w O n (bk xs)) (h0 : 0 < n) (hn : n ≤ 4000) :
    Calls Tryd.prog 65 #[.agg #[.slice O n oc, y, z, .int .i64 (i : Int), .int .i64 a, .int .i64 b, .int .i64 oa, .int .i64 ob, .int .i64 s, .int .i64 os]] w fun e w' => e = .returned (.bool (oddN xs i)) ∧ Below w.heap.size w w' := by
  obtain ⟨ad, rfl, hao, hoo⟩ := hO.at_ h0
  have R0 : Shut (SpotI w (w.alloc (.cells #[.slice (some ad) n oc, y, z, .int .i64 (i : Int), .int .i64 a, .int .i64 b, .int .i64 oa, .int .i64 ob, .int .i64 s, .int .i64 os] 61)) (.slice (some ad) n oc) y z (i : Int) a b oa ob s os) := ⟨SpotI.new ..⟩
  have p3 := R0.out.c3
  have HOO : Shut _ := ⟨hoo⟩
  have ODD : Shut (oddN xs i = (((riN xs i : Nat) : Int) % 2 == 1)) := ⟨by unfold oddN; rw [Bool.eq_iff_iff]; simp; omega⟩
  obtain ⟨R, hR⟩ : ∃ R, riN xs i = R := ⟨_, rfl⟩
  rw [hR] at ODD
  have SR : Shut (0 + riN xs i = R) := ⟨by omega⟩
  have hRi : R ≤ i := by rw [← hR]; exact riN_le xs i
  clear hO hoo hR
  generalize oddN xs i = od at *
  go_enter Tryd.func65, Tryd.ntmps65
  go_wp2_with fail
  go_loopg [4, 3] (i + 1) (fun gg v4 v3 wr => ∃ k m : Nat, k < gg ∧ k ≤ n ∧ m + k ≤ i ∧ v4 = .int .i64 ((k : Int) - 1) ∧ v3 = .int .i64 (m : Int) ∧ Shut (m + riN xs k = R) ∧ Shut (SpotI w wr (.slice (some ad) n oc) y z (i : Int) a b oa ob s os))
  case atStart => exact ⟨i, 0, by omega, hi, by omega, by go_num, rfl, SR, R0⟩
  case round =>
    obtain ⟨k, m, hg, hk, hm, rfl, rfl, SI, RB⟩ := hrel
    clear SR R0 p3
    obtain rfl | ⟨j, rfl⟩ : k = 0 ∨ ∃ j, k = j + 1 := by cases k with | zero => exact .inl rfl | succ j => exact .inr ⟨j, rfl⟩
    · have E : Shut (m = R) := ⟨SI.out⟩
      have E2 : Shut ((((m : Nat) : Int) % 2 == 1) = od) := ⟨by rw [ODD.out, E.out]⟩
      clear SI ODD
      rw [show ((0 : Nat) : Int) - 1 = -1 from rfl]
      cases hb : (((m : Nat) : Int) % 2 == 1)
      all_goals go_wp2_with fail
      all_goals go_ret
      all_goals exact ⟨retb (by rw [← E2.out]; simp_all), RB.out.be⟩
    · have c1 := HOO.out _ RB.out.be j (by omega)
      have p0 := RB.out.c0
      have Y : Shut ((bk xs j == 29) = true → (m + 1) + riN xs j = R) := ⟨fun h1 => by
        have := SI.out
        simp only [riN] at this
        rw [if_pos h1] at this
        omega⟩
      have N1 : Shut ((bk xs j == 29) = false → inL [8, 9] (bk xs j) = true → m + riN xs j = R) := ⟨fun h1 h2 => by
        have := SI.out
        simp only [riN] at this
        rw [if_neg (by rw [h1]; simp), if_pos (by exact h2)] at this
        omega⟩
      have N2 : Shut ((bk xs j == 29) = false → inL [8, 9] (bk xs j) = false → m = R) := ⟨fun h1 h2 => by
        have := SI.out
        simp only [riN] at this
        rw [if_neg (by rw [h1]; simp), if_neg (by unfold mkB; rw [h2]; simp)] at this
        omega⟩
      generalize bk xs j = cv at *
      clear SI
      rw [show ((j + 1 : Nat) : Int) - 1 = (j : Int) from by omega]
      cases hq : (cv == 29) with
      | true =>
        have E : Shut _ := ⟨Y.out hq⟩
        go_wp2_with fail
        go_roundg (j + 1)
        case measure => omega
        case rel => exact ⟨j, m + 1, by omega, by omega, by omega, by go_num, by go_num, E, RB⟩
      | false =>
        cases hs : inL [8, 9] cv with
        | true =>
          have E : Shut _ := ⟨N1.out hq hs⟩
          go_wp2_with (go_at_call 45; (with_reducible refine (among_lit2 _ _ (by omega) (by omega) _ _ _ _ (by simp)).mono ?_); rw [hs]; rintro e w' ⟨rfl, rfl⟩)
          go_roundg (j + 1)
          case measure => omega
          case rel => exact ⟨j, m, by omega, by omega, by omega, by go_num, rfl, E, ⟨by sp RB⟩⟩
        | false =>
          have E : Shut (m = R) := ⟨N2.out hq hs⟩
          have E2 : Shut ((((m : Nat) : Int) % 2 == 1) = od) := ⟨by rw [ODD.out, E.out]⟩
          clear ODD Y N1 N2
          cases hb : (((m : Nat) : Int) % 2 == 1)
          all_goals go_wp2_with (go_at_call 45; (with_reducible refine (among_lit2 _ _ (by omega) (by omega) _ _ _ _ (by simp)).mono ?_); rw [hs]; rintro e w' ⟨rfl, rfl⟩)
          all_goals go_ret
          all_goals exact ⟨retb (by rw [← E2.out]; simp_all), (RB.out.alloc _).be⟩
end Go.Proofs.YtmbgeeiidpllcaaDoor
