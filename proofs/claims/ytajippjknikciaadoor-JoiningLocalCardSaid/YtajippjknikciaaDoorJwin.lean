/- Chapter 36: Window and Tag, both ways. -/
import Derived.Test.YtajippjknikciaaDoorFormsr
namespace Go.Proofs.YtajippjknikciaaDoor
open Go.ChangeShapes Go.WideShapes Go.ChangeAt Go.RowKit
set_option maxRecDepth 100000

def clampN (i : Int) (n : Nat) : Nat := (max 0 (min i n)).toNat
theorem clamp4 (i : Int) (n : Nat) : ∃ s : Nat, clampN i n = s ∧ s ≤ n ∧ ((n < i ∧ 0 < n ∧ s = n) ∨ (n < i ∧ n = 0 ∧ s = 0) ∨ (0 < i ∧ i ≤ n ∧ i = s) ∨ (i ≤ 0 ∧ s = 0)) := by
  refine ⟨clampN i n, rfl, ?_, ?_⟩ <;> unfold clampN <;> omega

set_option maxHeartbeats 4000000 in
theorem pWindow_any (A : Option Addr) (n c : Nat) (xs : List Int) (i : Int) (w : World) (hx : SliceIn .i32 w A n c xs) (hl : Laid w) (hn : n ≤ 140737488355328) :
    Calls Tryd.prog 29 #[.slice A n c, .int .i64 i] w fun e w' => e = .returned (.tuple #[.int .i64 (winF xs (clampN i n)), .int .i64 (winT xs (clampN i n))]) ∧ Below w.heap.size w w' := by
  have HX := Lib.hid hx
  have HL := Lib.hid hl
  have HLEN := Lib.hid hx.at_.len
  clear hx hl
  obtain ⟨s, hs, hsn, h4⟩ := clamp4 i n
  rw [hs]
  clear hs
  have HS := Lib.hid hsn
  rcases h4 with ⟨h1, h2, h3⟩ | ⟨h1, h2, h3⟩ | ⟨h1, h2, h3⟩ | ⟨h1, h3⟩
  · have HE := Lib.hid h3
    have d1 : (n : Int) < i := h1
    have d2 : (0 : Int) < (n : Int) := by omega
    clear h1 h2 h3
    go_enter Tryd.func29, Tryd.ntmps29
    go_wp2
    go_loopw [6, 8] (fun u v wr => u = .int .i64 0 ∧ ∃ k : Nat, k ≤ s ∧ ((k = 0 ∧ v = .int .i64 (-1)) ∨ (0 < k ∧ v = .int .i64 ((k - 1 : Nat) : Int))) ∧ (∀ j, k ≤ j → j < s → tr (nth xs j) = true) ∧ Below w.heap.size w wr) (fun _ v _ => (intOf v + 1).toNat)
    case atStart =>
      have he := HE.out
      refine ⟨rfl, s, Nat.le_refl _, ?_, fun j h1 h2 => by omega, Below.refl _ _⟩
      rcases Nat.eq_zero_or_pos s with h0 | h0
      · refine .inl ⟨h0, ?_⟩; first | rfl | (congr 1; omega)
      · refine .inr ⟨h0, ?_⟩; first | rfl | (congr 1; omega)
    case round =>
      obtain ⟨rfl, k, hk1, hv, htr, hb⟩ := hrel
      have HT := Lib.hid htr
      clear htr
      rcases hv with ⟨rfl, rfl⟩ | ⟨hk0, rfl⟩
      · have hW : winF xs s = 0 := by unfold winF; rw [prv_none (fun j h3 => HT.out j (Nat.zero_le _) h3)]; rfl
        have HW := Lib.hid hW
        have HB0 := Lib.hid hb
        clear hW hb
        go_wp2
        go_loopw [7, 9] (fun u v wr => u = .int .i64 n ∧ ∃ k : Nat, s ≤ k ∧ k ≤ n ∧ v = .int .i64 k ∧ (∀ j, s ≤ j → j < k → tr (nth xs j) = true) ∧ Below w.heap.size w wr) (fun _ v _ => n - (intOf v).toNat)
        case atStart => exact ⟨rfl, s, Nat.le_refl _, HS.out, by first | go_num | (have he := HE.out; congr 1; omega), fun j h1 h2 => by omega, HB0.out⟩
        case round =>
          obtain ⟨rfl, k, hk1, hk2, rfl, htr, hb⟩ := hrel
          have HT := Lib.hid htr
          clear htr
          by_cases hlt : k < n
          · obtain ⟨h1, h2⟩ := bounds_i32 (HX.out.nth_wf hlt)
            obtain ⟨ad, rfl, hab, hc⟩ := (HX.out.at_.below hb).2 (by omega)
            have hc := hc k hlt
            have O := Lib.hid (pOf_lit (nth xs k) h1 h2 wr (HL.out.pass hb))
            clear h1 h2
            cases ht : tr (nth xs k)
            · have hbt : (((propOf (nth xs k)).join : Int) != 5) = true := by simpa using tr_false ht
              have hT : winT xs s = k + 1 := by
                unfold winT
                rw [nxt_some hk1 (by rw [HLEN.out]; exact hlt) ht HT.out]
              have HTT := Lib.hid hT
              clear ht hT
              go_wp2_with (go_at_call 12; refine O.out.mono ?_; rintro e w1 ⟨rfl, hb1⟩)
              go_ret2
              refine ⟨?_, hb.trans (hb1.mono hb.size)⟩
              rw [HW.out, HTT.out]
              try simp
            · have hbt : (((propOf (nth xs k)).join : Int) != 5) = false := by simpa using tr_true ht
              have HTK := Lib.hid ht
              clear ht
              go_wp2_with (go_at_call 12; refine O.out.mono ?_; rintro e w1 ⟨rfl, hb1⟩)
              have hbw := hb.trans (hb1.mono hb.size)
              go_roundw
              case rel => exact ⟨rfl, k + 1, by omega, by omega, by go_num, fun j h3 h4 => by
                rcases Nat.lt_or_ge j k with h5 | h5
                · exact HT.out j h3 h5
                · rw [show j = k by omega]; exact HTK.out, hbw⟩
              case measure => simp [intOf] <;> omega
          · obtain rfl : k = n := by omega
            have hT : winT xs s = k := by
              unfold winT
              rw [nxt_none (fun j h3 h4 => HT.out j h3 (by rw [← HLEN.out]; exact h4)), HLEN.out]
            have HTT := Lib.hid hT
            clear hT
            go_wp2
            go_ret2
            refine ⟨?_, hb⟩
            rw [HW.out, HTT.out]
            try simp
      · obtain ⟨m, rfl⟩ : ∃ m, k = m + 1 := ⟨k - 1, by omega⟩
        simp only [Nat.add_sub_cancel]
        have hlt : m < n := by omega
        obtain ⟨h1, h2⟩ := bounds_i32 (HX.out.nth_wf hlt)
        obtain ⟨ad, rfl, hab, hc⟩ := (HX.out.at_.below hb).2 (by omega)
        have hc := hc m hlt
        have O := Lib.hid (pOf_lit (nth xs m) h1 h2 wr (HL.out.pass hb))
        clear h1 h2
        cases ht : tr (nth xs m)
        · have hbt : (((propOf (nth xs m)).join : Int) != 5) = true := by simpa using tr_false ht
          have hW : winF xs s = m := by unfold winF; rw [prv_some (by omega) ht (fun j h3 h4 => HT.out j (by omega) h4)]; rfl
          have HW := Lib.hid hW
          clear ht hW
          go_wp2_with (go_at_call 12; refine O.out.mono ?_; rintro e w1 ⟨rfl, hb1⟩)
          have HB0 := Lib.hid (hb.trans (hb1.mono hb.size))
          clear hb hb1 hc hab
          go_loopw [7, 9] (fun u v wr => u = .int .i64 n ∧ ∃ k : Nat, s ≤ k ∧ k ≤ n ∧ v = .int .i64 k ∧ (∀ j, s ≤ j → j < k → tr (nth xs j) = true) ∧ Below w.heap.size w wr) (fun _ v _ => n - (intOf v).toNat)
          case atStart => exact ⟨rfl, s, Nat.le_refl _, HS.out, by first | go_num | (have he := HE.out; congr 1; omega), fun j h1 h2 => by omega, HB0.out⟩
          case round =>
            obtain ⟨rfl, k, hk1, hk2, rfl, htr, hb⟩ := hrel
            have HT := Lib.hid htr
            clear htr
            by_cases hlt : k < n
            · obtain ⟨h1, h2⟩ := bounds_i32 (HX.out.nth_wf hlt)
              obtain ⟨ad2, he2, hab, hc⟩ := (HX.out.at_.below hb).2 (by omega)
              obtain rfl : ad = ad2 := Option.some.inj he2
              have hc := hc k hlt
              have O := Lib.hid (pOf_lit (nth xs k) h1 h2 wr (HL.out.pass hb))
              clear h1 h2
              cases ht : tr (nth xs k)
              · have hbt : (((propOf (nth xs k)).join : Int) != 5) = true := by simpa using tr_false ht
                have hT : winT xs s = k + 1 := by
                  unfold winT
                  rw [nxt_some hk1 (by rw [HLEN.out]; exact hlt) ht HT.out]
                have HTT := Lib.hid hT
                clear ht hT
                go_wp2_with (go_at_call 12; refine O.out.mono ?_; rintro e w1 ⟨rfl, hb1⟩)
                go_ret2
                refine ⟨?_, hb.trans (hb1.mono hb.size)⟩
                rw [HW.out, HTT.out]
                try simp
              · have hbt : (((propOf (nth xs k)).join : Int) != 5) = false := by simpa using tr_true ht
                have HTK := Lib.hid ht
                clear ht
                go_wp2_with (go_at_call 12; refine O.out.mono ?_; rintro e w1 ⟨rfl, hb1⟩)
                have hbw := hb.trans (hb1.mono hb.size)
                go_roundw
                case rel => exact ⟨rfl, k + 1, by omega, by omega, by go_num, fun j h3 h4 => by
                  rcases Nat.lt_or_ge j k with h5 | h5
                  · exact HT.out j h3 h5
                  · rw [show j = k by omega]; exact HTK.out, hbw⟩
                case measure => simp [intOf] <;> omega
            · obtain rfl : k = n := by omega
              have hT : winT xs s = k := by
                unfold winT
                rw [nxt_none (fun j h3 h4 => HT.out j h3 (by rw [← HLEN.out]; exact h4)), HLEN.out]
              have HTT := Lib.hid hT
              clear hT
              go_wp2
              go_ret2
              refine ⟨?_, hb⟩
              rw [HW.out, HTT.out]
              try simp
        · have hbt : (((propOf (nth xs m)).join : Int) != 5) = false := by simpa using tr_true ht
          have HTK := Lib.hid ht
          clear ht
          go_wp2_with (go_at_call 12; refine O.out.mono ?_; rintro e w1 ⟨rfl, hb1⟩)
          have hbw := hb.trans (hb1.mono hb.size)
          go_roundw
          case rel =>
            refine ⟨rfl, m, by omega, ?_, fun j h3 h4 => ?_, hbw⟩
            · rcases Nat.eq_zero_or_pos m with h0 | h0
              · subst h0; exact .inl ⟨rfl, by go_num⟩
              · exact .inr ⟨h0, by congr 1; omega⟩
            · rcases Nat.lt_or_ge j (m + 1) with h5 | h5
              · rw [show j = m by omega]; exact HTK.out
              · exact HT.out j h5 h4
          case measure => simp [intOf] <;> omega
  · have HE := Lib.hid h3
    have d1 : (n : Int) < i := h1
    have d2 : ¬ (0 : Int) < (n : Int) := by omega
    clear h1 h2 h3
    go_enter Tryd.func29, Tryd.ntmps29
    go_wp2
    go_loopw [6, 8] (fun u v wr => u = .int .i64 0 ∧ ∃ k : Nat, k ≤ s ∧ ((k = 0 ∧ v = .int .i64 (-1)) ∨ (0 < k ∧ v = .int .i64 ((k - 1 : Nat) : Int))) ∧ (∀ j, k ≤ j → j < s → tr (nth xs j) = true) ∧ Below w.heap.size w wr) (fun _ v _ => (intOf v + 1).toNat)
    case atStart =>
      have he := HE.out
      refine ⟨rfl, s, Nat.le_refl _, ?_, fun j h1 h2 => by omega, Below.refl _ _⟩
      rcases Nat.eq_zero_or_pos s with h0 | h0
      · refine .inl ⟨h0, ?_⟩; first | rfl | (congr 1; omega)
      · refine .inr ⟨h0, ?_⟩; first | rfl | (congr 1; omega)
    case round =>
      obtain ⟨rfl, k, hk1, hv, htr, hb⟩ := hrel
      have HT := Lib.hid htr
      clear htr
      rcases hv with ⟨rfl, rfl⟩ | ⟨hk0, rfl⟩
      · have hW : winF xs s = 0 := by unfold winF; rw [prv_none (fun j h3 => HT.out j (Nat.zero_le _) h3)]; rfl
        have HW := Lib.hid hW
        have HB0 := Lib.hid hb
        clear hW hb
        go_wp2
        go_loopw [7, 9] (fun u v wr => u = .int .i64 n ∧ ∃ k : Nat, s ≤ k ∧ k ≤ n ∧ v = .int .i64 k ∧ (∀ j, s ≤ j → j < k → tr (nth xs j) = true) ∧ Below w.heap.size w wr) (fun _ v _ => n - (intOf v).toNat)
        case atStart => exact ⟨rfl, s, Nat.le_refl _, HS.out, by first | go_num | (have he := HE.out; congr 1; omega), fun j h1 h2 => by omega, HB0.out⟩
        case round =>
          obtain ⟨rfl, k, hk1, hk2, rfl, htr, hb⟩ := hrel
          have HT := Lib.hid htr
          clear htr
          by_cases hlt : k < n
          · obtain ⟨h1, h2⟩ := bounds_i32 (HX.out.nth_wf hlt)
            obtain ⟨ad, rfl, hab, hc⟩ := (HX.out.at_.below hb).2 (by omega)
            have hc := hc k hlt
            have O := Lib.hid (pOf_lit (nth xs k) h1 h2 wr (HL.out.pass hb))
            clear h1 h2
            cases ht : tr (nth xs k)
            · have hbt : (((propOf (nth xs k)).join : Int) != 5) = true := by simpa using tr_false ht
              have hT : winT xs s = k + 1 := by
                unfold winT
                rw [nxt_some hk1 (by rw [HLEN.out]; exact hlt) ht HT.out]
              have HTT := Lib.hid hT
              clear ht hT
              go_wp2_with (go_at_call 12; refine O.out.mono ?_; rintro e w1 ⟨rfl, hb1⟩)
              go_ret2
              refine ⟨?_, hb.trans (hb1.mono hb.size)⟩
              rw [HW.out, HTT.out]
              try simp
            · have hbt : (((propOf (nth xs k)).join : Int) != 5) = false := by simpa using tr_true ht
              have HTK := Lib.hid ht
              clear ht
              go_wp2_with (go_at_call 12; refine O.out.mono ?_; rintro e w1 ⟨rfl, hb1⟩)
              have hbw := hb.trans (hb1.mono hb.size)
              go_roundw
              case rel => exact ⟨rfl, k + 1, by omega, by omega, by go_num, fun j h3 h4 => by
                rcases Nat.lt_or_ge j k with h5 | h5
                · exact HT.out j h3 h5
                · rw [show j = k by omega]; exact HTK.out, hbw⟩
              case measure => simp [intOf] <;> omega
          · obtain rfl : k = n := by omega
            have hT : winT xs s = k := by
              unfold winT
              rw [nxt_none (fun j h3 h4 => HT.out j h3 (by rw [← HLEN.out]; exact h4)), HLEN.out]
            have HTT := Lib.hid hT
            clear hT
            go_wp2
            go_ret2
            refine ⟨?_, hb⟩
            rw [HW.out, HTT.out]
            try simp
      · obtain ⟨m, rfl⟩ : ∃ m, k = m + 1 := ⟨k - 1, by omega⟩
        simp only [Nat.add_sub_cancel]
        have hlt : m < n := by omega
        obtain ⟨h1, h2⟩ := bounds_i32 (HX.out.nth_wf hlt)
        obtain ⟨ad, rfl, hab, hc⟩ := (HX.out.at_.below hb).2 (by omega)
        have hc := hc m hlt
        have O := Lib.hid (pOf_lit (nth xs m) h1 h2 wr (HL.out.pass hb))
        clear h1 h2
        cases ht : tr (nth xs m)
        · have hbt : (((propOf (nth xs m)).join : Int) != 5) = true := by simpa using tr_false ht
          have hW : winF xs s = m := by unfold winF; rw [prv_some (by omega) ht (fun j h3 h4 => HT.out j (by omega) h4)]; rfl
          have HW := Lib.hid hW
          clear ht hW
          go_wp2_with (go_at_call 12; refine O.out.mono ?_; rintro e w1 ⟨rfl, hb1⟩)
          have HB0 := Lib.hid (hb.trans (hb1.mono hb.size))
          clear hb hb1 hc hab
          go_loopw [7, 9] (fun u v wr => u = .int .i64 n ∧ ∃ k : Nat, s ≤ k ∧ k ≤ n ∧ v = .int .i64 k ∧ (∀ j, s ≤ j → j < k → tr (nth xs j) = true) ∧ Below w.heap.size w wr) (fun _ v _ => n - (intOf v).toNat)
          case atStart => exact ⟨rfl, s, Nat.le_refl _, HS.out, by first | go_num | (have he := HE.out; congr 1; omega), fun j h1 h2 => by omega, HB0.out⟩
          case round =>
            obtain ⟨rfl, k, hk1, hk2, rfl, htr, hb⟩ := hrel
            have HT := Lib.hid htr
            clear htr
            by_cases hlt : k < n
            · obtain ⟨h1, h2⟩ := bounds_i32 (HX.out.nth_wf hlt)
              obtain ⟨ad2, he2, hab, hc⟩ := (HX.out.at_.below hb).2 (by omega)
              obtain rfl : ad = ad2 := Option.some.inj he2
              have hc := hc k hlt
              have O := Lib.hid (pOf_lit (nth xs k) h1 h2 wr (HL.out.pass hb))
              clear h1 h2
              cases ht : tr (nth xs k)
              · have hbt : (((propOf (nth xs k)).join : Int) != 5) = true := by simpa using tr_false ht
                have hT : winT xs s = k + 1 := by
                  unfold winT
                  rw [nxt_some hk1 (by rw [HLEN.out]; exact hlt) ht HT.out]
                have HTT := Lib.hid hT
                clear ht hT
                go_wp2_with (go_at_call 12; refine O.out.mono ?_; rintro e w1 ⟨rfl, hb1⟩)
                go_ret2
                refine ⟨?_, hb.trans (hb1.mono hb.size)⟩
                rw [HW.out, HTT.out]
                try simp
              · have hbt : (((propOf (nth xs k)).join : Int) != 5) = false := by simpa using tr_true ht
                have HTK := Lib.hid ht
                clear ht
                go_wp2_with (go_at_call 12; refine O.out.mono ?_; rintro e w1 ⟨rfl, hb1⟩)
                have hbw := hb.trans (hb1.mono hb.size)
                go_roundw
                case rel => exact ⟨rfl, k + 1, by omega, by omega, by go_num, fun j h3 h4 => by
                  rcases Nat.lt_or_ge j k with h5 | h5
                  · exact HT.out j h3 h5
                  · rw [show j = k by omega]; exact HTK.out, hbw⟩
                case measure => simp [intOf] <;> omega
            · obtain rfl : k = n := by omega
              have hT : winT xs s = k := by
                unfold winT
                rw [nxt_none (fun j h3 h4 => HT.out j h3 (by rw [← HLEN.out]; exact h4)), HLEN.out]
              have HTT := Lib.hid hT
              clear hT
              go_wp2
              go_ret2
              refine ⟨?_, hb⟩
              rw [HW.out, HTT.out]
              try simp
        · have hbt : (((propOf (nth xs m)).join : Int) != 5) = false := by simpa using tr_true ht
          have HTK := Lib.hid ht
          clear ht
          go_wp2_with (go_at_call 12; refine O.out.mono ?_; rintro e w1 ⟨rfl, hb1⟩)
          have hbw := hb.trans (hb1.mono hb.size)
          go_roundw
          case rel =>
            refine ⟨rfl, m, by omega, ?_, fun j h3 h4 => ?_, hbw⟩
            · rcases Nat.eq_zero_or_pos m with h0 | h0
              · subst h0; exact .inl ⟨rfl, by go_num⟩
              · exact .inr ⟨h0, by congr 1; omega⟩
            · rcases Nat.lt_or_ge j (m + 1) with h5 | h5
              · rw [show j = m by omega]; exact HTK.out
              · exact HT.out j h5 h4
          case measure => simp [intOf] <;> omega
  · subst h3
    have HE := Lib.hid (rfl : (s : Int) = (s : Int))
    have d1 : ¬ (n : Int) < (s : Int) := by omega
    have d2 : (0 : Int) < (s : Int) := by omega
    clear h1 h2
    go_enter Tryd.func29, Tryd.ntmps29
    go_wp2
    go_loopw [6, 8] (fun u v wr => u = .int .i64 0 ∧ ∃ k : Nat, k ≤ s ∧ ((k = 0 ∧ v = .int .i64 (-1)) ∨ (0 < k ∧ v = .int .i64 ((k - 1 : Nat) : Int))) ∧ (∀ j, k ≤ j → j < s → tr (nth xs j) = true) ∧ Below w.heap.size w wr) (fun _ v _ => (intOf v + 1).toNat)
    case atStart =>
      have he := HE.out
      refine ⟨rfl, s, Nat.le_refl _, ?_, fun j h1 h2 => by omega, Below.refl _ _⟩
      rcases Nat.eq_zero_or_pos s with h0 | h0
      · refine .inl ⟨h0, ?_⟩; first | rfl | (congr 1; omega)
      · refine .inr ⟨h0, ?_⟩; first | rfl | (congr 1; omega)
    case round =>
      obtain ⟨rfl, k, hk1, hv, htr, hb⟩ := hrel
      have HT := Lib.hid htr
      clear htr
      rcases hv with ⟨rfl, rfl⟩ | ⟨hk0, rfl⟩
      · have hW : winF xs s = 0 := by unfold winF; rw [prv_none (fun j h3 => HT.out j (Nat.zero_le _) h3)]; rfl
        have HW := Lib.hid hW
        have HB0 := Lib.hid hb
        clear hW hb
        go_wp2
        go_loopw [7, 9] (fun u v wr => u = .int .i64 n ∧ ∃ k : Nat, s ≤ k ∧ k ≤ n ∧ v = .int .i64 k ∧ (∀ j, s ≤ j → j < k → tr (nth xs j) = true) ∧ Below w.heap.size w wr) (fun _ v _ => n - (intOf v).toNat)
        case atStart => exact ⟨rfl, s, Nat.le_refl _, HS.out, by first | go_num | (have he := HE.out; congr 1; omega), fun j h1 h2 => by omega, HB0.out⟩
        case round =>
          obtain ⟨rfl, k, hk1, hk2, rfl, htr, hb⟩ := hrel
          have HT := Lib.hid htr
          clear htr
          by_cases hlt : k < n
          · obtain ⟨h1, h2⟩ := bounds_i32 (HX.out.nth_wf hlt)
            obtain ⟨ad, rfl, hab, hc⟩ := (HX.out.at_.below hb).2 (by omega)
            have hc := hc k hlt
            have O := Lib.hid (pOf_lit (nth xs k) h1 h2 wr (HL.out.pass hb))
            clear h1 h2
            cases ht : tr (nth xs k)
            · have hbt : (((propOf (nth xs k)).join : Int) != 5) = true := by simpa using tr_false ht
              have hT : winT xs s = k + 1 := by
                unfold winT
                rw [nxt_some hk1 (by rw [HLEN.out]; exact hlt) ht HT.out]
              have HTT := Lib.hid hT
              clear ht hT
              go_wp2_with (go_at_call 12; refine O.out.mono ?_; rintro e w1 ⟨rfl, hb1⟩)
              go_ret2
              refine ⟨?_, hb.trans (hb1.mono hb.size)⟩
              rw [HW.out, HTT.out]
              try simp
            · have hbt : (((propOf (nth xs k)).join : Int) != 5) = false := by simpa using tr_true ht
              have HTK := Lib.hid ht
              clear ht
              go_wp2_with (go_at_call 12; refine O.out.mono ?_; rintro e w1 ⟨rfl, hb1⟩)
              have hbw := hb.trans (hb1.mono hb.size)
              go_roundw
              case rel => exact ⟨rfl, k + 1, by omega, by omega, by go_num, fun j h3 h4 => by
                rcases Nat.lt_or_ge j k with h5 | h5
                · exact HT.out j h3 h5
                · rw [show j = k by omega]; exact HTK.out, hbw⟩
              case measure => simp [intOf] <;> omega
          · obtain rfl : k = n := by omega
            have hT : winT xs s = k := by
              unfold winT
              rw [nxt_none (fun j h3 h4 => HT.out j h3 (by rw [← HLEN.out]; exact h4)), HLEN.out]
            have HTT := Lib.hid hT
            clear hT
            go_wp2
            go_ret2
            refine ⟨?_, hb⟩
            rw [HW.out, HTT.out]
            try simp
      · obtain ⟨m, rfl⟩ : ∃ m, k = m + 1 := ⟨k - 1, by omega⟩
        simp only [Nat.add_sub_cancel]
        have hlt : m < n := by omega
        obtain ⟨h1, h2⟩ := bounds_i32 (HX.out.nth_wf hlt)
        obtain ⟨ad, rfl, hab, hc⟩ := (HX.out.at_.below hb).2 (by omega)
        have hc := hc m hlt
        have O := Lib.hid (pOf_lit (nth xs m) h1 h2 wr (HL.out.pass hb))
        clear h1 h2
        cases ht : tr (nth xs m)
        · have hbt : (((propOf (nth xs m)).join : Int) != 5) = true := by simpa using tr_false ht
          have hW : winF xs s = m := by unfold winF; rw [prv_some (by omega) ht (fun j h3 h4 => HT.out j (by omega) h4)]; rfl
          have HW := Lib.hid hW
          clear ht hW
          go_wp2_with (go_at_call 12; refine O.out.mono ?_; rintro e w1 ⟨rfl, hb1⟩)
          have HB0 := Lib.hid (hb.trans (hb1.mono hb.size))
          clear hb hb1 hc hab
          go_loopw [7, 9] (fun u v wr => u = .int .i64 n ∧ ∃ k : Nat, s ≤ k ∧ k ≤ n ∧ v = .int .i64 k ∧ (∀ j, s ≤ j → j < k → tr (nth xs j) = true) ∧ Below w.heap.size w wr) (fun _ v _ => n - (intOf v).toNat)
          case atStart => exact ⟨rfl, s, Nat.le_refl _, HS.out, by first | go_num | (have he := HE.out; congr 1; omega), fun j h1 h2 => by omega, HB0.out⟩
          case round =>
            obtain ⟨rfl, k, hk1, hk2, rfl, htr, hb⟩ := hrel
            have HT := Lib.hid htr
            clear htr
            by_cases hlt : k < n
            · obtain ⟨h1, h2⟩ := bounds_i32 (HX.out.nth_wf hlt)
              obtain ⟨ad2, he2, hab, hc⟩ := (HX.out.at_.below hb).2 (by omega)
              obtain rfl : ad = ad2 := Option.some.inj he2
              have hc := hc k hlt
              have O := Lib.hid (pOf_lit (nth xs k) h1 h2 wr (HL.out.pass hb))
              clear h1 h2
              cases ht : tr (nth xs k)
              · have hbt : (((propOf (nth xs k)).join : Int) != 5) = true := by simpa using tr_false ht
                have hT : winT xs s = k + 1 := by
                  unfold winT
                  rw [nxt_some hk1 (by rw [HLEN.out]; exact hlt) ht HT.out]
                have HTT := Lib.hid hT
                clear ht hT
                go_wp2_with (go_at_call 12; refine O.out.mono ?_; rintro e w1 ⟨rfl, hb1⟩)
                go_ret2
                refine ⟨?_, hb.trans (hb1.mono hb.size)⟩
                rw [HW.out, HTT.out]
                try simp
              · have hbt : (((propOf (nth xs k)).join : Int) != 5) = false := by simpa using tr_true ht
                have HTK := Lib.hid ht
                clear ht
                go_wp2_with (go_at_call 12; refine O.out.mono ?_; rintro e w1 ⟨rfl, hb1⟩)
                have hbw := hb.trans (hb1.mono hb.size)
                go_roundw
                case rel => exact ⟨rfl, k + 1, by omega, by omega, by go_num, fun j h3 h4 => by
                  rcases Nat.lt_or_ge j k with h5 | h5
                  · exact HT.out j h3 h5
                  · rw [show j = k by omega]; exact HTK.out, hbw⟩
                case measure => simp [intOf] <;> omega
            · obtain rfl : k = n := by omega
              have hT : winT xs s = k := by
                unfold winT
                rw [nxt_none (fun j h3 h4 => HT.out j h3 (by rw [← HLEN.out]; exact h4)), HLEN.out]
              have HTT := Lib.hid hT
              clear hT
              go_wp2
              go_ret2
              refine ⟨?_, hb⟩
              rw [HW.out, HTT.out]
              try simp
        · have hbt : (((propOf (nth xs m)).join : Int) != 5) = false := by simpa using tr_true ht
          have HTK := Lib.hid ht
          clear ht
          go_wp2_with (go_at_call 12; refine O.out.mono ?_; rintro e w1 ⟨rfl, hb1⟩)
          have hbw := hb.trans (hb1.mono hb.size)
          go_roundw
          case rel =>
            refine ⟨rfl, m, by omega, ?_, fun j h3 h4 => ?_, hbw⟩
            · rcases Nat.eq_zero_or_pos m with h0 | h0
              · subst h0; exact .inl ⟨rfl, by go_num⟩
              · exact .inr ⟨h0, by congr 1; omega⟩
            · rcases Nat.lt_or_ge j (m + 1) with h5 | h5
              · rw [show j = m by omega]; exact HTK.out
              · exact HT.out j h5 h4
          case measure => simp [intOf] <;> omega
  · have HE := Lib.hid h3
    have d1 : ¬ (n : Int) < i := by omega
    have d2 : ¬ (0 : Int) < i := by omega
    clear h1 h3
    go_enter Tryd.func29, Tryd.ntmps29
    go_wp2
    go_loopw [6, 8] (fun u v wr => u = .int .i64 0 ∧ ∃ k : Nat, k ≤ s ∧ ((k = 0 ∧ v = .int .i64 (-1)) ∨ (0 < k ∧ v = .int .i64 ((k - 1 : Nat) : Int))) ∧ (∀ j, k ≤ j → j < s → tr (nth xs j) = true) ∧ Below w.heap.size w wr) (fun _ v _ => (intOf v + 1).toNat)
    case atStart =>
      have he := HE.out
      refine ⟨rfl, s, Nat.le_refl _, ?_, fun j h1 h2 => by omega, Below.refl _ _⟩
      rcases Nat.eq_zero_or_pos s with h0 | h0
      · refine .inl ⟨h0, ?_⟩; first | rfl | (congr 1; omega)
      · refine .inr ⟨h0, ?_⟩; first | rfl | (congr 1; omega)
    case round =>
      obtain ⟨rfl, k, hk1, hv, htr, hb⟩ := hrel
      have HT := Lib.hid htr
      clear htr
      rcases hv with ⟨rfl, rfl⟩ | ⟨hk0, rfl⟩
      · have hW : winF xs s = 0 := by unfold winF; rw [prv_none (fun j h3 => HT.out j (Nat.zero_le _) h3)]; rfl
        have HW := Lib.hid hW
        have HB0 := Lib.hid hb
        clear hW hb
        go_wp2
        go_loopw [7, 9] (fun u v wr => u = .int .i64 n ∧ ∃ k : Nat, s ≤ k ∧ k ≤ n ∧ v = .int .i64 k ∧ (∀ j, s ≤ j → j < k → tr (nth xs j) = true) ∧ Below w.heap.size w wr) (fun _ v _ => n - (intOf v).toNat)
        case atStart => exact ⟨rfl, s, Nat.le_refl _, HS.out, by first | go_num | (have he := HE.out; congr 1; omega), fun j h1 h2 => by omega, HB0.out⟩
        case round =>
          obtain ⟨rfl, k, hk1, hk2, rfl, htr, hb⟩ := hrel
          have HT := Lib.hid htr
          clear htr
          by_cases hlt : k < n
          · obtain ⟨h1, h2⟩ := bounds_i32 (HX.out.nth_wf hlt)
            obtain ⟨ad, rfl, hab, hc⟩ := (HX.out.at_.below hb).2 (by omega)
            have hc := hc k hlt
            have O := Lib.hid (pOf_lit (nth xs k) h1 h2 wr (HL.out.pass hb))
            clear h1 h2
            cases ht : tr (nth xs k)
            · have hbt : (((propOf (nth xs k)).join : Int) != 5) = true := by simpa using tr_false ht
              have hT : winT xs s = k + 1 := by
                unfold winT
                rw [nxt_some hk1 (by rw [HLEN.out]; exact hlt) ht HT.out]
              have HTT := Lib.hid hT
              clear ht hT
              go_wp2_with (go_at_call 12; refine O.out.mono ?_; rintro e w1 ⟨rfl, hb1⟩)
              go_ret2
              refine ⟨?_, hb.trans (hb1.mono hb.size)⟩
              rw [HW.out, HTT.out]
              try simp
            · have hbt : (((propOf (nth xs k)).join : Int) != 5) = false := by simpa using tr_true ht
              have HTK := Lib.hid ht
              clear ht
              go_wp2_with (go_at_call 12; refine O.out.mono ?_; rintro e w1 ⟨rfl, hb1⟩)
              have hbw := hb.trans (hb1.mono hb.size)
              go_roundw
              case rel => exact ⟨rfl, k + 1, by omega, by omega, by go_num, fun j h3 h4 => by
                rcases Nat.lt_or_ge j k with h5 | h5
                · exact HT.out j h3 h5
                · rw [show j = k by omega]; exact HTK.out, hbw⟩
              case measure => simp [intOf] <;> omega
          · obtain rfl : k = n := by omega
            have hT : winT xs s = k := by
              unfold winT
              rw [nxt_none (fun j h3 h4 => HT.out j h3 (by rw [← HLEN.out]; exact h4)), HLEN.out]
            have HTT := Lib.hid hT
            clear hT
            go_wp2
            go_ret2
            refine ⟨?_, hb⟩
            rw [HW.out, HTT.out]
            try simp
      · obtain ⟨m, rfl⟩ : ∃ m, k = m + 1 := ⟨k - 1, by omega⟩
        simp only [Nat.add_sub_cancel]
        have hlt : m < n := by omega
        obtain ⟨h1, h2⟩ := bounds_i32 (HX.out.nth_wf hlt)
        obtain ⟨ad, rfl, hab, hc⟩ := (HX.out.at_.below hb).2 (by omega)
        have hc := hc m hlt
        have O := Lib.hid (pOf_lit (nth xs m) h1 h2 wr (HL.out.pass hb))
        clear h1 h2
        cases ht : tr (nth xs m)
        · have hbt : (((propOf (nth xs m)).join : Int) != 5) = true := by simpa using tr_false ht
          have hW : winF xs s = m := by unfold winF; rw [prv_some (by omega) ht (fun j h3 h4 => HT.out j (by omega) h4)]; rfl
          have HW := Lib.hid hW
          clear ht hW
          go_wp2_with (go_at_call 12; refine O.out.mono ?_; rintro e w1 ⟨rfl, hb1⟩)
          have HB0 := Lib.hid (hb.trans (hb1.mono hb.size))
          clear hb hb1 hc hab
          go_loopw [7, 9] (fun u v wr => u = .int .i64 n ∧ ∃ k : Nat, s ≤ k ∧ k ≤ n ∧ v = .int .i64 k ∧ (∀ j, s ≤ j → j < k → tr (nth xs j) = true) ∧ Below w.heap.size w wr) (fun _ v _ => n - (intOf v).toNat)
          case atStart => exact ⟨rfl, s, Nat.le_refl _, HS.out, by first | go_num | (have he := HE.out; congr 1; omega), fun j h1 h2 => by omega, HB0.out⟩
          case round =>
            obtain ⟨rfl, k, hk1, hk2, rfl, htr, hb⟩ := hrel
            have HT := Lib.hid htr
            clear htr
            by_cases hlt : k < n
            · obtain ⟨h1, h2⟩ := bounds_i32 (HX.out.nth_wf hlt)
              obtain ⟨ad2, he2, hab, hc⟩ := (HX.out.at_.below hb).2 (by omega)
              obtain rfl : ad = ad2 := Option.some.inj he2
              have hc := hc k hlt
              have O := Lib.hid (pOf_lit (nth xs k) h1 h2 wr (HL.out.pass hb))
              clear h1 h2
              cases ht : tr (nth xs k)
              · have hbt : (((propOf (nth xs k)).join : Int) != 5) = true := by simpa using tr_false ht
                have hT : winT xs s = k + 1 := by
                  unfold winT
                  rw [nxt_some hk1 (by rw [HLEN.out]; exact hlt) ht HT.out]
                have HTT := Lib.hid hT
                clear ht hT
                go_wp2_with (go_at_call 12; refine O.out.mono ?_; rintro e w1 ⟨rfl, hb1⟩)
                go_ret2
                refine ⟨?_, hb.trans (hb1.mono hb.size)⟩
                rw [HW.out, HTT.out]
                try simp
              · have hbt : (((propOf (nth xs k)).join : Int) != 5) = false := by simpa using tr_true ht
                have HTK := Lib.hid ht
                clear ht
                go_wp2_with (go_at_call 12; refine O.out.mono ?_; rintro e w1 ⟨rfl, hb1⟩)
                have hbw := hb.trans (hb1.mono hb.size)
                go_roundw
                case rel => exact ⟨rfl, k + 1, by omega, by omega, by go_num, fun j h3 h4 => by
                  rcases Nat.lt_or_ge j k with h5 | h5
                  · exact HT.out j h3 h5
                  · rw [show j = k by omega]; exact HTK.out, hbw⟩
                case measure => simp [intOf] <;> omega
            · obtain rfl : k = n := by omega
              have hT : winT xs s = k := by
                unfold winT
                rw [nxt_none (fun j h3 h4 => HT.out j h3 (by rw [← HLEN.out]; exact h4)), HLEN.out]
              have HTT := Lib.hid hT
              clear hT
              go_wp2
              go_ret2
              refine ⟨?_, hb⟩
              rw [HW.out, HTT.out]
              try simp
        · have hbt : (((propOf (nth xs m)).join : Int) != 5) = false := by simpa using tr_true ht
          have HTK := Lib.hid ht
          clear ht
          go_wp2_with (go_at_call 12; refine O.out.mono ?_; rintro e w1 ⟨rfl, hb1⟩)
          have hbw := hb.trans (hb1.mono hb.size)
          go_roundw
          case rel =>
            refine ⟨rfl, m, by omega, ?_, fun j h3 h4 => ?_, hbw⟩
            · rcases Nat.eq_zero_or_pos m with h0 | h0
              · subst h0; exact .inl ⟨rfl, by go_num⟩
              · exact .inr ⟨h0, by congr 1; omega⟩
            · rcases Nat.lt_or_ge j (m + 1) with h5 | h5
              · rw [show j = m by omega]; exact HTK.out
              · exact HT.out j h5 h4
          case measure => simp [intOf] <;> omega
end Go.Proofs.YtajippjknikciaaDoor
