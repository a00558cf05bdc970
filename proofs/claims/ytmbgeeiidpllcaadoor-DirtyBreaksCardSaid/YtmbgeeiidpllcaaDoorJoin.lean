/- Chapter 36: the program's joining functions. -/
import Derived.Test.YtmbgeeiidpllcaaDoorOfs
import Derived.Test.YtmbgeeiidpllcaaDoorJlaw
import Derived.Deep.RegionWith
namespace Go.Proofs.YtmbgeeiidpllcaaDoor
open Go.ChangeShapes Go.WideShapes Go.ChangeAt Go.RowKit
set_option maxRecDepth 100000


theorem pjoins_any (c : Int) (b : Bool) (w : World) : Calls Tryd.prog 43 #[.int .i64 c, .bool b] w fun e w' => e = .returned (.bool (joinsB c b)) ∧ Below w.heap.size w w' := by
  go_enter Tryd.func43, Tryd.ntmps43
  go_wp2
  all_goals go_ret
  all_goals refine ⟨retb ?_, Below.refl _ _⟩
  all_goals simp only [beq_iff_eq, beq_eq_false_iff_ne] at *
  all_goals simp_all [joinsB]

theorem tr_true {r : Int} (h : tr r = true) : (propOf r).join = 5 := by simpa [tr, joinOf] using h
theorem tr_false {r : Int} (h : tr r = false) : (propOf r).join ≠ 5 := by simpa [tr, joinOf] using h

set_option maxHeartbeats 1000000 in
theorem neighF_any (A : Option Addr) (n c : Nat) (xs : List Int) (i : Nat) (hi : i < n) (w : World) (hx : SliceIn .i32 w A n c xs) (hl : Laid w) (hn : n ≤ 140737488355328) :
    Calls Tryd.prog 44 #[.slice A n c, .int .i64 i, .int .i64 1] w fun e w' => e = .returned (.int .i64 (nbF xs i)) ∧ Below w.heap.size w w' := by
  have HX := Lib.hid hx
  have HL := Lib.hid hl
  have HLEN := Lib.hid hx.at_.len
  clear hx hl
  go_enter Tryd.func44, Tryd.ntmps44
  go_wp2
  go_loopw [1] (fun v wr => ∃ k : Nat, i + 1 ≤ k ∧ k ≤ n ∧ v = .int .i64 k ∧ (∀ j, i + 1 ≤ j → j < k → tr (nth xs j) = true) ∧ Below w.heap.size w wr) (fun v _ => n - (intOf v).toNat)
  case atStart => exact ⟨i + 1, Nat.le_refl _, by omega, by go_num, fun j h1 h2 => by omega, Below.refl _ _⟩
  case round =>
    obtain ⟨k, hk1, hk2, rfl, htr, hb⟩ := hrel
    have HT := Lib.hid htr
    clear htr
    by_cases hlt : k < n
    · obtain ⟨h1, h2⟩ := bounds_i32 (HX.out.nth_wf hlt)
      obtain ⟨ad, rfl, hab, hc⟩ := (HX.out.at_.below hb).2 (by omega)
      have hc := hc k hlt
      have O := Lib.hid (pOf_lit (nth xs k) h1 h2 wr (HL.out.pass hb))
      clear h1 h2
      cases ht : tr (nth xs k)
      · have hbt : (((propOf (nth xs k)).join : Int) != 5) = true := by simpa using tr_false ht
        have HTK := Lib.hid ht
        clear ht
        go_wp2_with (go_at_call 30; refine O.out.mono ?_; rintro e w1 ⟨rfl, hb1⟩)
        go_ret
        refine ⟨reti ?_, hb.trans (hb1.mono hb.size)⟩
        unfold nbF
        rw [nxt_some hk1 (by rw [HLEN.out]; exact hlt) HTK.out HT.out]
        rfl
      · have hbt : (((propOf (nth xs k)).join : Int) != 5) = false := by simpa using tr_true ht
        have HTK := Lib.hid ht
        clear ht
        go_wp2_with (go_at_call 30; refine O.out.mono ?_; rintro e w1 ⟨rfl, hb1⟩)
        have hbw := hb.trans (hb1.mono hb.size)
        go_roundw
        case rel => exact ⟨k + 1, by omega, by omega, by go_num, fun j h3 h4 => by
          rcases Nat.lt_or_ge j k with h5 | h5
          · exact HT.out j h3 h5
          · rw [show j = k by omega]; exact HTK.out, hbw⟩
        case measure => simp [intOf]; omega
    · obtain rfl : k = n := by omega
      go_wp2
      go_ret
      refine ⟨reti ?_, hb⟩
      unfold nbF
      rw [nxt_none (fun j h3 h4 => HT.out j h3 (by rw [← HLEN.out]; exact h4))]

set_option maxHeartbeats 1000000 in
theorem neighB_any (A : Option Addr) (n c : Nat) (xs : List Int) (i : Nat) (hi : i < n) (w : World) (hx : SliceIn .i32 w A n c xs) (hl : Laid w) (hn : n ≤ 140737488355328) :
    Calls Tryd.prog 44 #[.slice A n c, .int .i64 i, .int .i64 (-1)] w fun e w' => e = .returned (.int .i64 (nbB xs i)) ∧ Below w.heap.size w w' := by
  have HX := Lib.hid hx
  have HL := Lib.hid hl
  have HLEN := Lib.hid hx.at_.len
  clear hx hl
  go_enter Tryd.func44, Tryd.ntmps44
  go_wp2
  go_loopw [1] (fun v wr => ∃ k : Nat, k ≤ i ∧ ((k = 0 ∧ v = .int .i64 (-1)) ∨ (0 < k ∧ v = .int .i64 ((k - 1 : Nat) : Int))) ∧ (∀ j, k ≤ j → j < i → tr (nth xs j) = true) ∧ Below w.heap.size w wr) (fun v _ => (intOf v + 1).toNat)
  case atStart =>
    refine ⟨i, Nat.le_refl _, ?_, fun j h1 h2 => by omega, Below.refl _ _⟩
    rcases Nat.eq_zero_or_pos i with h0 | h0
    · subst h0; exact .inl ⟨rfl, by go_num⟩
    · exact .inr ⟨h0, by congr 1; omega⟩
  case round =>
    obtain ⟨k, hk1, hv, htr, hb⟩ := hrel
    have HT := Lib.hid htr
    clear htr
    rcases hv with ⟨rfl, rfl⟩ | ⟨hk0, rfl⟩
    · go_wp2
      go_ret
      refine ⟨reti ?_, hb⟩
      unfold nbB
      rw [prv_none (fun j h3 => HT.out j (Nat.zero_le _) h3)]
    · obtain ⟨m, rfl⟩ : ∃ m, k = m + 1 := ⟨k - 1, by omega⟩
      simp only [Nat.add_sub_cancel]
      have hlt : m < n := by omega
      obtain ⟨h1, h2⟩ := bounds_i32 (HX.out.nth_wf hlt)
      obtain ⟨ad, rfl, hab, hc⟩ := (HX.out.at_.below hb).2 (by omega)
      have hc := hc m hlt
      have O := Lib.hid (pOf_lit (nth xs m) h1 h2 wr (HL.out.pass hb))
      clear h1 h2
      cases ht : tr (nth xs m)
      · have hbt : (((propOf (nth xs m)).join : Int) != 5) = true := by simpa using tr_false ht
        have HTK := Lib.hid ht
        clear ht
        go_wp2_with (go_at_call 30; refine O.out.mono ?_; rintro e w1 ⟨rfl, hb1⟩)
        go_ret
        refine ⟨reti ?_, hb.trans (hb1.mono hb.size)⟩
        unfold nbB
        rw [prv_some (by omega) HTK.out (fun j h3 h4 => HT.out j (by omega) h4)]
        rfl
      · have hbt : (((propOf (nth xs m)).join : Int) != 5) = false := by simpa using tr_true ht
        have HTK := Lib.hid ht
        clear ht
        go_wp2_with (go_at_call 30; refine O.out.mono ?_; rintro e w1 ⟨rfl, hb1⟩)
        have hbw := hb.trans (hb1.mono hb.size)
        go_roundw
        case rel =>
          refine ⟨m, by omega, ?_, fun j h3 h4 => ?_, hbw⟩
          · rcases Nat.eq_zero_or_pos m with h0 | h0
            · subst h0; exact .inl ⟨rfl, by go_num⟩
            · exact .inr ⟨h0, by congr 1; omega⟩
          · rcases Nat.lt_or_ge j (m + 1) with h5 | h5
            · rw [show j = m by omega]; exact HTK.out
            · exact HT.out j h5 h4
        case measure => simp [intOf]; omega

/-- what Joins tells of a place -/
def JA (xs : List Int) (i : Int) : Bool := if 0 ≤ i ∧ i < xs.length then jnA xs i.toNat else false
def JB (xs : List Int) (i : Int) : Bool := if 0 ≤ i ∧ i < xs.length then jnB xs i.toNat else false

set_option maxHeartbeats 1000000 in
theorem pJoins_any (A : Option Addr) (n c : Nat) (xs : List Int) (i : Int) (w : World) (hx : SliceIn .i32 w A n c xs) (hl : Laid w) (hn : n ≤ 140737488355328) :
    Calls Tryd.prog 31 #[.slice A n c, .int .i64 i] w fun e w' => e = .returned (.tuple #[.bool (JA xs i), .bool (JB xs i)]) ∧ Below w.heap.size w w' := by
  have HLEN := Lib.hid hx.at_.len
  by_cases hi : 0 ≤ i ∧ i < n
  · obtain ⟨k, rfl⟩ : ∃ k : Nat, i = k := ⟨i.toNat, by omega⟩
    have hk : k < n := by omega
    have ea : JA xs k = jnA xs k := by unfold JA; rw [HLEN.out, if_pos hi]; rfl
    have eb : JB xs k = jnB xs k := by unfold JB; rw [HLEN.out, if_pos hi]; rfl
    rw [ea, eb]
    unfold jnA jnB
    have HX := Lib.hid hx
    have HL := Lib.hid hl
    obtain ⟨h1, h2⟩ := bounds_i32 (hx.nth_wf hk)
    have O := Lib.hid (pOf_lit (nth xs k) h1 h2 w hl)
    have NF := Lib.hid (fun w' (hb : Below w.heap.size w w') => neighF_any A n c xs k hk w' (hx.pass hb) (hl.pass hb) hn)
    have NB := Lib.hid (fun w' (hb : Below w.heap.size w w') => neighB_any A n c xs k hk w' (hx.pass hb) (hl.pass hb) hn)
    obtain ⟨ad, rfl, hab, hc⟩ := hx.at_.2 (by omega)
    have hc := hc k hk
    have J1 := Lib.hid (pjoins_any (joinOf (nth xs k)) false)
    have J2 := Lib.hid (pjoins_any (joinOf (nth xs k)) true)
    have J3 := Lib.hid (pjoins_any (nbB xs k) true)
    have J4 := Lib.hid (pjoins_any (nbF xs k) false)
    clear hx hl h1 h2 hi ea eb
    have ej : (propOf (nth xs k)).join = joinOf (nth xs k) := rfl
    rw [ej] at O
    generalize joinOf (nth xs k) = jc at *
    generalize nbB xs k = nb at *
    generalize nbF xs k = nf at *
    clear ej
    cases ha : joinsB jc false
    · rw [ha] at J1
      clear ha
      cases hb0 : joinsB jc true
      · rw [hb0] at J2
        clear hb0
        go_enter Tryd.func31, Tryd.ntmps31
        go_wp2_with fail
        refine O.out.mono ?_
        rintro e w1 ⟨rfl, x1⟩
        go_wp2_with fail
        refine (J1.out _).mono ?_
        rintro e w2 ⟨rfl, hb2⟩
        have x2 := x1.trans (hb2.mono x1.size)
        go_wp2_with fail
        refine (J2.out _).mono ?_
        rintro e w3 ⟨rfl, hb3⟩
        have x3 := x2.trans (hb3.mono x2.size)
        go_wp2_with fail
        go_ret2
        exact ⟨by simp, x3⟩
      · rw [hb0] at J2
        clear hb0
        go_enter Tryd.func31, Tryd.ntmps31
        go_wp2_with fail
        refine O.out.mono ?_
        rintro e w1 ⟨rfl, x1⟩
        go_wp2_with fail
        refine (J1.out _).mono ?_
        rintro e w2 ⟨rfl, hb2⟩
        have x2 := x1.trans (hb2.mono x1.size)
        go_wp2_with fail
        refine (J2.out _).mono ?_
        rintro e w3 ⟨rfl, hb3⟩
        have x3 := x2.trans (hb3.mono x2.size)
        go_wp2_with fail
        refine (NF.out _ x3).mono ?_
        rintro e w4 ⟨rfl, hb4⟩
        have x4 := x3.trans (hb4.mono x3.size)
        go_wp2_with fail
        refine (J4.out _).mono ?_
        rintro e w5 ⟨rfl, hb5⟩
        have x5 := x4.trans (hb5.mono x4.size)
        go_wp2_with fail
        go_ret2
        exact ⟨by simp, x5⟩
    · rw [ha] at J1
      clear ha
      cases hb0 : joinsB jc true
      · rw [hb0] at J2
        clear hb0
        go_enter Tryd.func31, Tryd.ntmps31
        go_wp2_with fail
        refine O.out.mono ?_
        rintro e w1 ⟨rfl, x1⟩
        go_wp2_with fail
        refine (J1.out _).mono ?_
        rintro e w2 ⟨rfl, hb2⟩
        have x2 := x1.trans (hb2.mono x1.size)
        go_wp2_with fail
        refine (NB.out _ x2).mono ?_
        rintro e w3 ⟨rfl, hb3⟩
        have x3 := x2.trans (hb3.mono x2.size)
        go_wp2_with fail
        refine (J3.out _).mono ?_
        rintro e w4 ⟨rfl, hb4⟩
        have x4 := x3.trans (hb4.mono x3.size)
        go_wp2_with fail
        refine (J2.out _).mono ?_
        rintro e w5 ⟨rfl, hb5⟩
        have x5 := x4.trans (hb5.mono x4.size)
        go_wp2_with fail
        go_ret2
        exact ⟨by simp, x5⟩
      · rw [hb0] at J2
        clear hb0
        go_enter Tryd.func31, Tryd.ntmps31
        go_wp2_with fail
        refine O.out.mono ?_
        rintro e w1 ⟨rfl, x1⟩
        go_wp2_with fail
        refine (J1.out _).mono ?_
        rintro e w2 ⟨rfl, hb2⟩
        have x2 := x1.trans (hb2.mono x1.size)
        go_wp2_with fail
        refine (NB.out _ x2).mono ?_
        rintro e w3 ⟨rfl, hb3⟩
        have x3 := x2.trans (hb3.mono x2.size)
        go_wp2_with fail
        refine (J3.out _).mono ?_
        rintro e w4 ⟨rfl, hb4⟩
        have x4 := x3.trans (hb4.mono x3.size)
        go_wp2_with fail
        refine (J2.out _).mono ?_
        rintro e w5 ⟨rfl, hb5⟩
        have x5 := x4.trans (hb5.mono x4.size)
        go_wp2_with fail
        refine (NF.out _ x5).mono ?_
        rintro e w6 ⟨rfl, hb6⟩
        have x6 := x5.trans (hb6.mono x5.size)
        go_wp2_with fail
        refine (J4.out _).mono ?_
        rintro e w7 ⟨rfl, hb7⟩
        have x7 := x6.trans (hb7.mono x6.size)
        go_wp2_with fail
        go_ret2
        exact ⟨by simp, x7⟩
  · have ea : JA xs i = false := by unfold JA; rw [HLEN.out, if_neg hi]
    have eb : JB xs i = false := by unfold JB; rw [HLEN.out, if_neg hi]
    rw [ea, eb]
    have hi' : i < 0 ∨ (n : Int) ≤ i := by omega
    clear hi ea eb hx hl
    rcases hi' with h | h
    all_goals
      go_enter Tryd.func31, Tryd.ntmps31
      go_wp2
      go_ret2
      exact ⟨rfl, Below.refl _ _⟩

/-! ### Forms -/
def FormsEnd (w : World) (e : TypeId) (n : Nat) (xs : List Int) (r : Ending) (w' : World) : Prop := NewInts w e .i64 n (forms xs) r w'

theorem forms_take {xs : List Int} {n k : Nat} (hk : k < n) :
    ((List.range k).map (formAt xs) ++ List.replicate (n - k) 0).set k (formAt xs k) = (List.range (k + 1)).map (formAt xs) ++ List.replicate (n - (k + 1)) 0 := by
  have hl : ((List.range k).map (formAt xs)).length = k := by simp
  rw [List.set_append_right _ _ (by rw [hl]; exact Nat.le_refl _), hl, Nat.sub_self, List.range_succ, List.map_append, List.append_assoc]
  congr 1
  obtain ⟨m, hm⟩ : ∃ m, n - k = m + 1 := ⟨n - k - 1, by omega⟩
  rw [hm, show n - (k + 1) = m by omega]
  rfl
theorem forms_same {xs : List Int} {n k : Nat} (hk : k < n) (h : formAt xs k = 0) :
    (List.range k).map (formAt xs) ++ List.replicate (n - k) 0 = (List.range (k + 1)).map (formAt xs) ++ List.replicate (n - (k + 1)) 0 := by
  obtain ⟨m, hm⟩ : ∃ m, n - k = m + 1 := ⟨n - k - 1, by omega⟩
  rw [hm, show n - (k + 1) = m by omega, List.range_succ, List.map_append, List.append_assoc]
  congr 1
  simp [h, List.replicate_succ]
theorem nth_repl {ys : List Int} {n k : Nat} (hl : ys.length = k) (hk : k < n) : (ys ++ List.replicate (n - k) 0)[k]? = some 0 := by
  rw [List.getElem?_append_right (by omega), hl, Nat.sub_self]
  obtain ⟨m, hm⟩ : ∃ m, n - k = m + 1 := ⟨n - k - 1, by omega⟩
  rw [hm]; rfl
end Go.Proofs.YtmbgeeiidpllcaaDoor
