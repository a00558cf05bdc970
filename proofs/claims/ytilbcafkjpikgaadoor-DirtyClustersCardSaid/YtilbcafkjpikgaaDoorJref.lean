/- Chapter 36: the reference's joining functions. -/
import Derived.Test.YtilbcafkjpikgaaDoorJoin
namespace Go.Proofs.YtilbcafkjpikgaaDoor
open Go.ChangeShapes Go.WideShapes Go.ChangeAt Go.RowKit
set_option maxRecDepth 100000

theorem class36_any (r : Int) (h1 : -2147483648 ≤ r) (h2 : r ≤ 2147483647) (w : World) :
    Calls Tryd.prog 39 #[.int .i32 r] w fun e w' => e = .returned (.int .i64 (joinOf r)) ∧ Below w.heap.size w w' := by
  have O := Lib.hid (rOf_lit r h1 h2 w)
  clear h1 h2
  go_enter Tryd.func39, Tryd.ntmps39
  go_wp2_with fail
  refine O.out.mono ?_
  rintro e w1 ⟨rfl, hb1⟩
  go_wp2_with fail
  go_ret
  exact ⟨rfl, hb1⟩

def joinB (x y : Int) : Bool := (x == 1 || x == 3 || x == 4) && (y == 1 || y == 2 || y == 4)
set_option maxHeartbeats 1000000 in
theorem join36_any (r s : Int) (h1 : -2147483648 ≤ r) (h2 : r ≤ 2147483647) (h3 : -2147483648 ≤ s) (h4 : s ≤ 2147483647) (w : World) :
    Calls Tryd.prog 65 #[.int .i32 r, .int .i32 s] w fun e w' => e = .returned (.bool (joinB (joinOf r) (joinOf s))) ∧ Below w.heap.size w w' := by
  have O1 := Lib.hid (class36_any r h1 h2)
  have O2 := Lib.hid (class36_any s h3 h4)
  clear h1 h2 h3 h4
  generalize joinOf r = x at *
  generalize joinOf s = y at *
  go_enter Tryd.func65, Tryd.ntmps65
  go_wp2_with fail
  refine (O1.out _).mono ?_
  rintro e w1 ⟨rfl, hb1⟩
  go_wp2_with fail
  refine (O2.out _).mono ?_
  rintro e w2 ⟨rfl, hb2⟩
  have hbw := hb1.trans (hb2.mono hb1.size)
  clear O1 O2 hb1 hb2
  go_wp2_with fail
  all_goals go_ret
  all_goals refine ⟨retb ?_, hbw⟩
  all_goals clear hbw
  all_goals simp_all [joinB]

/-- an index, or -1 -/
def oI : Option Nat → Int | some j => j | none => -1

set_option maxHeartbeats 1000000 in
theorem besideF_any (A : Option Addr) (n c : Nat) (xs : List Int) (m : Int) (s : Nat) (hm : m + 1 = s) (hs : s ≤ n) (w : World) (hx : SliceIn .i32 w A n c xs) (hn : n ≤ 140737488355328) :
    Calls Tryd.prog 64 #[.slice A n c, .int .i64 m, .int .i64 1] w fun e w' => e = .returned (.int .i64 (oI (nxt xs s))) ∧ Below w.heap.size w w' := by
  have HX := Lib.hid hx
  have HLEN := Lib.hid hx.at_.len
  obtain rfl : m = (s : Int) - 1 := by omega
  clear hx hm
  have hs0 : (s : Int) - 1 + 1 = s := by omega
  have HS0 := Lib.hid hs0
  clear hs0
  go_enter Tryd.func64, Tryd.ntmps64
  go_wp2
  go_loopw [7] (fun v wr => ∃ k : Nat, s ≤ k ∧ k ≤ n ∧ v = .int .i64 k ∧ (∀ j, s ≤ j → j < k → tr (nth xs j) = true) ∧ Below w.heap.size w wr) (fun v _ => n - (intOf v).toNat)
  case atStart => exact ⟨s, Nat.le_refl _, hs, by go_num, fun j h1 h2 => by omega, Below.refl _ _⟩
  case round =>
    obtain ⟨k, hk1, hk2, rfl, htr, hb⟩ := hrel
    have HT := Lib.hid htr
    clear htr
    by_cases hlt : k < n
    · obtain ⟨h1, h2⟩ := bounds_i32 (HX.out.nth_wf hlt)
      obtain ⟨ad, rfl, hab, hc⟩ := (HX.out.at_.below hb).2 (by omega)
      have hc := hc k hlt
      have O := Lib.hid (class36_any (nth xs k) h1 h2 wr)
      clear h1 h2
      cases ht : tr (nth xs k)
      · have hbt : ((joinOf (nth xs k) : Int) != 5) = true := by simpa [joinOf] using tr_false ht
        have HTK := Lib.hid ht
        clear ht
        go_wp2_with (go_at_call 39; refine O.out.mono ?_; rintro e w1 ⟨rfl, hb1⟩)
        go_ret
        refine ⟨reti ?_, hb.trans (hb1.mono hb.size)⟩
        rw [nxt_some hk1 (by rw [HLEN.out]; exact hlt) HTK.out HT.out]
        rfl
      · have hbt : ((joinOf (nth xs k) : Int) != 5) = false := by simpa [joinOf] using tr_true ht
        have HTK := Lib.hid ht
        clear ht
        go_wp2_with (go_at_call 39; refine O.out.mono ?_; rintro e w1 ⟨rfl, hb1⟩)
        have hbw := hb.trans (hb1.mono hb.size)
        go_roundw
        case rel => exact ⟨k + 1, by omega, by omega, by go_num, fun j h3 h4 => by
          rcases Nat.lt_or_ge j k with h5 | h5
          · exact HT.out j h3 h5
          · rw [show j = k by omega]; exact HTK.out, hbw⟩
        case measure => simp [intOf]; omega
    · obtain rfl : k = n := by omega
      go_wp2
      go_ret
      refine ⟨reti ?_, hb⟩
      rw [nxt_none (fun j h3 h4 => HT.out j h3 (by rw [← HLEN.out]; exact h4))]
      rfl

set_option maxHeartbeats 1000000 in
theorem besideB_any (A : Option Addr) (n c : Nat) (xs : List Int) (i : Nat) (hi : i ≤ n) (w : World) (hx : SliceIn .i32 w A n c xs) (hn : n ≤ 140737488355328) :
    Calls Tryd.prog 64 #[.slice A n c, .int .i64 i, .int .i64 (-1)] w fun e w' => e = .returned (.int .i64 (oI (prv xs i))) ∧ Below w.heap.size w w' := by
  have HX := Lib.hid hx
  have HLEN := Lib.hid hx.at_.len
  clear hx
  go_enter Tryd.func64, Tryd.ntmps64
  go_wp2
  go_loopw [7] (fun v wr => ∃ k : Nat, k ≤ i ∧ ((k = 0 ∧ v = .int .i64 (-1)) ∨ (0 < k ∧ v = .int .i64 ((k - 1 : Nat) : Int))) ∧ (∀ j, k ≤ j → j < i → tr (nth xs j) = true) ∧ Below w.heap.size w wr) (fun v _ => (intOf v + 1).toNat)
  case atStart =>
    refine ⟨i, Nat.le_refl _, ?_, fun j h1 h2 => by omega, Below.refl _ _⟩
    rcases Nat.eq_zero_or_pos i with h0 | h0
    · subst h0; exact .inl ⟨rfl, by go_num⟩
    · exact .inr ⟨h0, by congr 1; omega⟩
  case round =>
    obtain ⟨k, hk1, hv, htr, hb⟩ := hrel
    have HT := Lib.hid htr
    clear htr
    rcases hv with ⟨rfl, rfl⟩ | ⟨hk0, rfl⟩
    · go_wp2
      go_ret
      refine ⟨reti ?_, hb⟩
      rw [prv_none (fun j h3 => HT.out j (Nat.zero_le _) h3)]
      first | done | rfl
    · obtain ⟨m, rfl⟩ : ∃ m, k = m + 1 := ⟨k - 1, by omega⟩
      simp only [Nat.add_sub_cancel]
      have hlt : m < n := by omega
      obtain ⟨h1, h2⟩ := bounds_i32 (HX.out.nth_wf hlt)
      obtain ⟨ad, rfl, hab, hc⟩ := (HX.out.at_.below hb).2 (by omega)
      have hc := hc m hlt
      have O := Lib.hid (class36_any (nth xs m) h1 h2 wr)
      clear h1 h2
      cases ht : tr (nth xs m)
      · have hbt : ((joinOf (nth xs m) : Int) != 5) = true := by simpa [joinOf] using tr_false ht
        have HTK := Lib.hid ht
        clear ht
        go_wp2_with (go_at_call 39; refine O.out.mono ?_; rintro e w1 ⟨rfl, hb1⟩)
        go_ret
        refine ⟨reti ?_, hb.trans (hb1.mono hb.size)⟩
        rw [prv_some (by omega) HTK.out (fun j h3 h4 => HT.out j (by omega) h4)]
        rfl
      · have hbt : ((joinOf (nth xs m) : Int) != 5) = false := by simpa [joinOf] using tr_true ht
        have HTK := Lib.hid ht
        clear ht
        go_wp2_with (go_at_call 39; refine O.out.mono ?_; rintro e w1 ⟨rfl, hb1⟩)
        have hbw := hb.trans (hb1.mono hb.size)
        go_roundw
        case rel =>
          refine ⟨m, by omega, ?_, fun j h3 h4 => ?_, hbw⟩
          · rcases Nat.eq_zero_or_pos m with h0 | h0
            · subst h0; exact .inl ⟨rfl, by go_num⟩
            · exact .inr ⟨h0, by congr 1; omega⟩
          · rcases Nat.lt_or_ge j (m + 1) with h5 | h5
            · rw [show j = m by omega]; exact HTK.out
            · exact HT.out j h5 h4
        case measure => simp [intOf]; omega

theorem joinB_eq (x y : Int) : joinB x y = (joinsB x true && joinsB y false) := by
  unfold joinB joinsB
  rw [Bool.eq_iff_iff]
  simp
  omega
theorem jn_tr {xs : List Int} {k : Nat} (h : tr (nth xs k) = true) : jnA xs k = false ∧ jnB xs k = false := by
  have h5 : joinOf (nth xs k) = 5 := by simpa [joinOf] using tr_true h
  unfold jnA jnB
  rw [h5]
  exact ⟨by simp [joinsB], by simp [joinsB]⟩
theorem jnA_none {xs : List Int} {k : Nat} (h : prv xs k = none) : jnA xs k = false := by
  unfold jnA nbB; rw [h]; simp [joinsB]
theorem jnB_none {xs : List Int} {k : Nat} (h : nxt xs (k + 1) = none) : jnB xs k = false := by
  unfold jnB nbF; rw [h]; simp [joinsB]
theorem jnA_some {xs : List Int} {k j : Nat} (h : prv xs k = some j) : jnA xs k = joinB (joinOf (nth xs j)) (joinOf (nth xs k)) := by
  unfold jnA nbB; rw [h, joinB_eq, Bool.and_comm]
theorem jnB_some {xs : List Int} {k j : Nat} (h : nxt xs (k + 1) = some j) : jnB xs k = joinB (joinOf (nth xs k)) (joinOf (nth xs j)) := by
  unfold jnB nbF; rw [h, joinB_eq]

end Go.Proofs.YtilbcafkjpikgaaDoor
