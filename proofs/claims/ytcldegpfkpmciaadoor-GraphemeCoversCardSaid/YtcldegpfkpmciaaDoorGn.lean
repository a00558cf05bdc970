/- Chapter 7: the next boundary, the one ahead, the window, both ways. -/
import Derived.Test.YtcldegpfkpmciaaDoorGi
namespace Go.Proofs.YtcldegpfkpmciaaDoor
open Go.ChangeShapes Go.WideShapes Go.ChangeAt Go.RowKit
set_option maxRecDepth 100000
set_option linter.unusedSimpArgs false

def nextV (l : List Int) (i : Int) : Nat := nxB l (max (i + 1) 0).toNat
def prevV (l : List Int) (i : Int) : Nat := pvB l (min i.toNat (l.length + 1))
theorem bndA_le {l : List Int} {k : Nat} (h : k < (bndA l).length) : atN (bndA l) k ≤ l.length := by
  have h1 : atN (bndA l) k ∈ bndA l := atN_mem h
  have h2 := (bndN_mem (m := l.length + 1) h1).1
  omega
theorem isReg_is (c : Int) : isReg c = (c == 6) := rfl
theorem isExt_is (c : Int) : isExt c = (c == 4 || c == 5) := rfl

set_option maxHeartbeats 2000000 in
theorem pnext_any (A : Option Addr) (n c : Nat) (xs : List Int) (i : Int) (w : World) (hx : SliceIn .i32 w A n c xs) (hl : Laid w) (hn : (n + 1) * 16 ≤ 140737488355328) :
    Calls Tryd.prog 29 #[.slice A n c, .int .i64 i] w fun e w' => e = .returned (.int .i64 ((nextV (ks xs) i : Nat) : Int)) ∧ Below w.heap.size w w' := by
  have HX := Lib.hid hx
  have HL := Lib.hid hl
  have HLEN := Lib.hid hx.at_.len
  have KL := Lib.hid (ks_len xs)
  have IS := Lib.hid (fun k w' (hb : Below w.heap.size w w') => pisn_any A n c xs k w' (HX.out.pass hb) (HL.out.pass hb) (by omega))
  clear hx hl 
  by_cases hin : (n : Int) ≤ i
  · have E := Lib.hid (nxB_end (ks := ks xs) (s := (max (i + 1) 0).toNat) (by rw [KL.out, HLEN.out]; omega))
    go_enter Tryd.func29, Tryd.ntmps29
    go_wp2_with fail
    go_ret
    refine ⟨reti ?_, Below.refl _ _⟩
    unfold nextV
    rw [E.out, KL.out, HLEN.out]
  · have hsn : (max (i + 1) 0).toNat ≤ n := by omega
    obtain ⟨q, hq⟩ : ∃ q, (max (i + 1) 0).toNat = q := ⟨_, rfl⟩
    have HQ := Lib.hid hq
    by_cases hneg : i < -1
    · obtain rfl : q = 0 := by omega
      clear hq hsn
      go_enter Tryd.func29, Tryd.ntmps29
      go_wp2_with fail
      go_loopw [5] (fun v wr => ∃ k : Nat, 0 ≤ k ∧ k ≤ n ∧ v = .int .i64 k ∧ nxB (ks xs) k = nxB (ks xs) 0 ∧ Below w.heap.size w wr) (fun v _ => n - (intOf v).toNat)
      case atStart => exact ⟨0, Nat.le_refl _, by omega, rfl, rfl, Below.refl _ _⟩
      case round =>
        obtain ⟨k, hk1, hk, rfl, hnx, hb⟩ := hrel
        have NX := Lib.hid hnx
        have HB := Lib.hid hb
        clear hnx hb
        by_cases hlt : k < n
        · have IK := Lib.hid (IS.out k _ HB.out)
          cases hi : isN (ks xs) k
          · rw [hi] at IK
            have E := Lib.hid (nxB_no hi)
            clear hi
            go_wp2_with fail
            refine IK.out.mono ?_
            rintro e w1 ⟨rfl, hv⟩
            have HB2 := Lib.hid (HB.out.trans (hv.mono HB.out.size))
            clear hv
            go_wp2_with fail
            go_roundw
            case rel => exact ⟨k + 1, by omega, by omega, by go_num, by rw [← E.out]; exact NX.out, HB2.out⟩
            case measure => simp [intOf] <;> omega
          · rw [hi] at IK
            have E := Lib.hid (nxB_yes (by rw [KL.out, HLEN.out]; omega) hi)
            clear hi
            go_wp2_with fail
            refine IK.out.mono ?_
            rintro e w1 ⟨rfl, hv⟩
            have HB2 := Lib.hid (HB.out.trans (hv.mono HB.out.size))
            clear hv
            go_wp2_with fail
            go_ret
            refine ⟨reti ?_, HB2.out⟩
            unfold nextV
            rw [HQ.out, ← NX.out, E.out]
        · obtain rfl : k = n := by omega
          have E := Lib.hid (nxB_end (ks := ks xs) (s := k) (by rw [KL.out, HLEN.out]; exact Nat.le_refl _))
          go_wp2_with fail
          go_ret
          refine ⟨reti ?_, HB.out⟩
          unfold nextV
          rw [HQ.out, ← NX.out, E.out, KL.out, HLEN.out]
    · have hE : i + 1 = (q : Int) := by omega
      rw [hq] at hsn
      clear hq
      go_enter Tryd.func29, Tryd.ntmps29
      go_wp2_with fail
      go_loopw [5] (fun v wr => ∃ k : Nat, q ≤ k ∧ k ≤ n ∧ v = .int .i64 k ∧ nxB (ks xs) k = nxB (ks xs) q ∧ Below w.heap.size w wr) (fun v _ => n - (intOf v).toNat)
      case atStart => exact ⟨q, Nat.le_refl _, by omega, rfl, rfl, Below.refl _ _⟩
      case round =>
        obtain ⟨k, hk1, hk, rfl, hnx, hb⟩ := hrel
        have NX := Lib.hid hnx
        have HB := Lib.hid hb
        clear hnx hb
        by_cases hlt : k < n
        · have IK := Lib.hid (IS.out k _ HB.out)
          cases hi : isN (ks xs) k
          · rw [hi] at IK
            have E := Lib.hid (nxB_no hi)
            clear hi
            go_wp2_with fail
            refine IK.out.mono ?_
            rintro e w1 ⟨rfl, hv⟩
            have HB2 := Lib.hid (HB.out.trans (hv.mono HB.out.size))
            clear hv
            go_wp2_with fail
            go_roundw
            case rel => exact ⟨k + 1, by omega, by omega, by go_num, by rw [← E.out]; exact NX.out, HB2.out⟩
            case measure => simp [intOf] <;> omega
          · rw [hi] at IK
            have E := Lib.hid (nxB_yes (by rw [KL.out, HLEN.out]; omega) hi)
            clear hi
            go_wp2_with fail
            refine IK.out.mono ?_
            rintro e w1 ⟨rfl, hv⟩
            have HB2 := Lib.hid (HB.out.trans (hv.mono HB.out.size))
            clear hv
            go_wp2_with fail
            go_ret
            refine ⟨reti ?_, HB2.out⟩
            unfold nextV
            rw [HQ.out, ← NX.out, E.out]
        · obtain rfl : k = n := by omega
          have E := Lib.hid (nxB_end (ks := ks xs) (s := k) (by rw [KL.out, HLEN.out]; exact Nat.le_refl _))
          go_wp2_with fail
          go_ret
          refine ⟨reti ?_, HB.out⟩
          unfold nextV
          rw [HQ.out, ← NX.out, E.out, KL.out, HLEN.out]

set_option maxHeartbeats 2000000 in
theorem pprev_any (A : Option Addr) (n c : Nat) (xs : List Int) (i : Int) (w : World) (hx : SliceIn .i32 w A n c xs) (hl : Laid w) (hn : (n + 1) * 16 ≤ 140737488355328) :
    Calls Tryd.prog 31 #[.slice A n c, .int .i64 i] w fun e w' => e = .returned (.int .i64 ((prevV (ks xs) i : Nat) : Int)) ∧ Below w.heap.size w w' := by
  have HX := Lib.hid hx
  have HL := Lib.hid hl
  have HLEN := Lib.hid hx.at_.len
  have KL := Lib.hid (ks_len xs)
  have IS := Lib.hid (fun k w' (hb : Below w.heap.size w w') => pisn_any A n c xs k w' (HX.out.pass hb) (HL.out.pass hb) (by omega))
  clear hx hl 
  by_cases hin : i ≤ 0
  · have E : prevV (ks xs) i = 0 := by unfold prevV; rw [show min i.toNat ((ks xs).length + 1) = 0 by omega]; rfl
    rw [E]
    go_enter Tryd.func31, Tryd.ntmps31
    go_wp2_with fail
    go_ret
    exact ⟨rfl, Below.refl _ _⟩
  · by_cases hbig : (n : Int) + 1 < i
    · have E : prevV (ks xs) i = pvB (ks xs) (n + 1) := by unfold prevV; rw [KL.out, HLEN.out, show min i.toNat (n + 1) = n + 1 by omega]
      have EE := Lib.hid E
      clear E
      go_enter Tryd.func31, Tryd.ntmps31
      go_wp2_with fail
      go_loopw [5] (fun v wr => ∃ k : Nat, k ≤ n ∧ v = .int .i64 k ∧ pvB (ks xs) (k + 1) = pvB (ks xs) (n + 1) ∧ Below w.heap.size w wr) (fun v _ => (intOf v).toNat)
      case atStart => exact ⟨n, by omega, by first | rfl | go_num, rfl, Below.refl _ _⟩
      case round =>
        obtain ⟨k, hk, rfl, hpv, hb⟩ := hrel
        have PV := Lib.hid hpv
        have HB := Lib.hid hb
        clear hpv hb
        rcases Nat.eq_zero_or_pos k with h0 | h0
        · subst h0
          have E := Lib.hid (pvB_one (ks xs))
          have z0 : ¬ (0 : Int) < ((0 : Nat) : Int) := by omega
          go_wp2_with fail
          go_ret
          refine ⟨reti ?_, HB.out⟩
          rw [EE.out, ← PV.out, E.out]
          rfl
        · obtain ⟨m, rfl⟩ : ∃ m, k = m + 1 := ⟨k - 1, by omega⟩
          have e1 : ((m + 1 : Nat) : Int) = (m : Int) + 1 := by omega
          have IK := Lib.hid (IS.out (m + 1) _ HB.out)
          rw [e1] at IK ⊢
          have z0 : (0 : Int) < (m : Int) + 1 := by omega
          clear e1
          cases hi : isN (ks xs) (m + 1)
          · rw [hi] at IK
            have E := Lib.hid (pvB_no hi)
            clear hi
            go_wp2_with fail
            refine IK.out.mono ?_
            rintro e w1 ⟨rfl, hv⟩
            have HB2 := Lib.hid (HB.out.trans (hv.mono HB.out.size))
            clear hv
            go_wp2_with fail
            go_roundw
            case rel => exact ⟨m, by omega, by first | rfl | go_num, by rw [← E.out]; exact PV.out, HB2.out⟩
            case measure => simp [intOf] <;> omega
          · rw [hi] at IK
            have E := Lib.hid (pvB_yes hi)
            clear hi
            go_wp2_with fail
            refine IK.out.mono ?_
            rintro e w1 ⟨rfl, hv⟩
            have HB2 := Lib.hid (HB.out.trans (hv.mono HB.out.size))
            clear hv
            go_wp2_with fail
            go_ret
            refine ⟨reti ?_, HB2.out⟩
            rw [EE.out, ← PV.out, E.out]
            omega
    · obtain ⟨r, rfl⟩ : ∃ r : Nat, i = (r : Int) + 1 := ⟨(i - 1).toNat, by omega⟩
      have hrn : r ≤ n := by omega
      have E : prevV (ks xs) ((r : Int) + 1) = pvB (ks xs) (r + 1) := by unfold prevV; rw [KL.out, HLEN.out, show min ((r : Int) + 1).toNat (n + 1) = r + 1 by omega]
      have EE := Lib.hid E
      clear E
      go_enter Tryd.func31, Tryd.ntmps31
      go_wp2_with fail
      go_loopw [5] (fun v wr => ∃ k : Nat, k ≤ n ∧ v = .int .i64 k ∧ pvB (ks xs) (k + 1) = pvB (ks xs) (r + 1) ∧ Below w.heap.size w wr) (fun v _ => (intOf v).toNat)
      case atStart => exact ⟨r, by omega, by first | rfl | go_num, rfl, Below.refl _ _⟩
      case round =>
        obtain ⟨k, hk, rfl, hpv, hb⟩ := hrel
        have PV := Lib.hid hpv
        have HB := Lib.hid hb
        clear hpv hb
        rcases Nat.eq_zero_or_pos k with h0 | h0
        · subst h0
          have E := Lib.hid (pvB_one (ks xs))
          have z0 : ¬ (0 : Int) < ((0 : Nat) : Int) := by omega
          go_wp2_with fail
          go_ret
          refine ⟨reti ?_, HB.out⟩
          rw [EE.out, ← PV.out, E.out]
          rfl
        · obtain ⟨m, rfl⟩ : ∃ m, k = m + 1 := ⟨k - 1, by omega⟩
          have e1 : ((m + 1 : Nat) : Int) = (m : Int) + 1 := by omega
          have IK := Lib.hid (IS.out (m + 1) _ HB.out)
          rw [e1] at IK ⊢
          have z0 : (0 : Int) < (m : Int) + 1 := by omega
          clear e1
          cases hi : isN (ks xs) (m + 1)
          · rw [hi] at IK
            have E := Lib.hid (pvB_no hi)
            clear hi
            go_wp2_with fail
            refine IK.out.mono ?_
            rintro e w1 ⟨rfl, hv⟩
            have HB2 := Lib.hid (HB.out.trans (hv.mono HB.out.size))
            clear hv
            go_wp2_with fail
            go_roundw
            case rel => exact ⟨m, by omega, by first | rfl | go_num, by rw [← E.out]; exact PV.out, HB2.out⟩
            case measure => simp [intOf] <;> omega
          · rw [hi] at IK
            have E := Lib.hid (pvB_yes hi)
            clear hi
            go_wp2_with fail
            refine IK.out.mono ?_
            rintro e w1 ⟨rfl, hv⟩
            have HB2 := Lib.hid (HB.out.trans (hv.mono HB.out.size))
            clear hv
            go_wp2_with fail
            go_ret
            refine ⟨reti ?_, HB2.out⟩
            rw [EE.out, ← PV.out, E.out]
            omega

set_option maxHeartbeats 2000000 in
theorem rnext_any (A : Option Addr) (n c : Nat) (xs : List Int) (i : Int) (w : World) (hx : SliceIn .i32 w A n c xs) (hn : (n + 1) * 16 ≤ 140737488355328) :
    Calls Tryd.prog 30 #[.slice A n c, .int .i64 i] w fun e w' => e = .returned (.int .i64 ((nextV (ks xs) i : Nat) : Int)) ∧ Below w.heap.size w w' := by
  have HX := Lib.hid hx
  have HLEN := Lib.hid hx.at_.len
  have KL := Lib.hid (ks_len xs)
  have PB := Lib.hid (rbounds_any A n c xs w hx (by omega))
  clear hx
  have hle := fun k (h : k < (bndA (ks xs)).length) => bndA_le h
  obtain ⟨bs, hbs⟩ : ∃ bs, bndA (ks xs) = bs := ⟨_, rfl⟩
  have BS := Lib.hid hbs
  rw [bounds_map, hbs] at PB
  rw [hbs, KL.out, HLEN.out] at hle
  have HLE := Lib.hid hle
  obtain ⟨m, hm⟩ : ∃ m, bs.length = m := ⟨_, rfl⟩
  have HM := Lib.hid hm
  rw [hm] at PB
  have hmn : m ≤ n + 1 := by
    have := bndN_len (ks xs) ((ks xs).length + 1)
    have e1 : bndN (ks xs) ((ks xs).length + 1) = bs := hbs
    rw [e1, hm, KL.out, HLEN.out] at this
    exact this
  clear hbs hm hle
  go_enter Tryd.func30, Tryd.ntmps30
  go_wp2_with fail
  refine PB.out.mono ?_
  rintro e w1 ⟨Ab, cb, rfl, hob, hb1⟩
  have OB := Lib.hid hob
  have HB1 := Lib.hid hb1
  clear hob hb1 PB
  go_wp2_with fail
  go_loop [6] (fun v => ∃ k : Nat, k ≤ m ∧ v = .int .i64 k ∧ ∀ j, j < k → ((atN bs j : Nat) : Int) ≤ i) (fun v => m - (intOf v).toNat)
  case atStart => exact ⟨0, Nat.zero_le _, rfl, fun j h => by omega⟩
  case round =>
    obtain ⟨k, hk, rfl, hall⟩ := hrel
    have HALL := Lib.hid hall
    clear hall
    by_cases hlt : k < m
    · obtain ⟨gb, rfl, _⟩ := OwnV.form OB.out (by omega)
      have c0 := own_cellG OB.out (j := k) hlt
      rw [nth_map (by rw [HM.out]; exact hlt)] at c0
      have hkn := HLE.out k (by rw [HM.out]; exact hlt)
      obtain ⟨p, hp⟩ : ∃ p, atN bs k = p := ⟨_, rfl⟩
      have HP := Lib.hid hp
      rw [hp] at c0 hkn
      clear hp
      by_cases hgt : i < (p : Int)
      · have E := Lib.hid (nxB_list (ks := ks xs) (s := (max (i + 1) 0).toNat) (k := k) (by rw [KL.out, HLEN.out]; omega) (by rw [BS.out, HM.out]; exact hlt) (by rw [BS.out, HP.out]; omega) (fun j hj => by rw [BS.out]; have := HALL.out j hj; omega))
        go_wp2_with fail
        go_ret
        refine ⟨reti ?_, HB1.out⟩
        unfold nextV
        rw [E.out, BS.out, HP.out]
      · go_wp2_with fail
        go_round
        case rel => exact ⟨k + 1, by omega, by go_num, fun j hj => by
          rcases Nat.lt_or_ge j k with h5 | h5
          · exact HALL.out j h5
          · rw [show j = k by omega, HP.out]; omega⟩
        case measure => simp [intOf] <;> omega
    · obtain rfl : k = m := by omega
      have E : nextV (ks xs) i = n := by
        unfold nextV
        by_cases hbig : n ≤ (max (i + 1) 0).toNat
        · rw [nxB_end (by rw [KL.out, HLEN.out]; exact hbig), KL.out, HLEN.out]
        · rw [nxB_list_none (by rw [KL.out, HLEN.out]; omega) (fun j hj => by rw [BS.out] at hj ⊢; have := HALL.out j (by rw [HM.out] at hj; exact hj); omega), KL.out, HLEN.out]
      have EE := Lib.hid E
      clear E
      go_wp2_with fail
      go_ret
      exact ⟨reti (by rw [EE.out]), HB1.out⟩

set_option maxHeartbeats 2000000 in
theorem rprev_any (A : Option Addr) (n c : Nat) (xs : List Int) (i : Int) (w : World) (hx : SliceIn .i32 w A n c xs) (hn : (n + 1) * 16 ≤ 140737488355328) :
    Calls Tryd.prog 32 #[.slice A n c, .int .i64 i] w fun e w' => e = .returned (.int .i64 ((prevV (ks xs) i : Nat) : Int)) ∧ Below w.heap.size w w' := by
  have HX := Lib.hid hx
  have HLEN := Lib.hid hx.at_.len
  have KL := Lib.hid (ks_len xs)
  have PB := Lib.hid (rbounds_any A n c xs w hx (by omega))
  clear hx
  have hle := fun k (h : k < (bndA (ks xs)).length) => bndA_le h
  obtain ⟨bs, hbs⟩ : ∃ bs, bndA (ks xs) = bs := ⟨_, rfl⟩
  have BS := Lib.hid hbs
  rw [bounds_map, hbs] at PB
  rw [hbs, KL.out, HLEN.out] at hle
  have HLE := Lib.hid hle
  obtain ⟨m, hm⟩ : ∃ m, bs.length = m := ⟨_, rfl⟩
  have HM := Lib.hid hm
  rw [hm] at PB
  have hmn : m ≤ n + 1 := by
    have := bndN_len (ks xs) ((ks xs).length + 1)
    have e1 : bndN (ks xs) ((ks xs).length + 1) = bs := hbs
    rw [e1, hm, KL.out, HLEN.out] at this
    exact this
  clear hbs hm hle
  go_enter Tryd.func32, Tryd.ntmps32
  go_wp2_with fail
  refine PB.out.mono ?_
  rintro e w1 ⟨Ab, cb, rfl, hob, hb1⟩
  have OB := Lib.hid hob
  have HB1 := Lib.hid hb1
  clear hob hb1 PB
  go_wp2_with fail
  go_loop [6] (fun v => ∃ k : Nat, k ≤ m ∧ ((k = 0 ∧ v = .int .i64 (-1)) ∨ (0 < k ∧ v = .int .i64 ((k - 1 : Nat) : Int))) ∧ ∀ j, k ≤ j → j < m → i ≤ ((atN bs j : Nat) : Int)) (fun v => (intOf v + 1).toNat)
  case atStart =>
    refine ⟨m, Nat.le_refl _, ?_, fun j h1 h2 => by omega⟩
    rcases Nat.eq_zero_or_pos m with h0 | h0
    · subst h0; exact .inl ⟨rfl, by go_num⟩
    · refine .inr ⟨h0, ?_⟩; first | rfl | (congr 1; omega)
  case round =>
    obtain ⟨k, hk, hv, hall⟩ := hrel
    have HALL := Lib.hid hall
    clear hall
    rcases hv with ⟨rfl, rfl⟩ | ⟨hk0, rfl⟩
    · have E : prevV (ks xs) i = 0 := by
        unfold prevV
        exact pvB_list_none (by omega) (fun j hj => by rw [BS.out] at hj ⊢; have := HALL.out j (Nat.zero_le _) (by rw [HM.out] at hj; exact hj); omega)
      have EE := Lib.hid E
      clear E
      go_wp2_with fail
      go_ret
      exact ⟨reti (by rw [EE.out]; rfl), HB1.out⟩
    · obtain ⟨q, rfl⟩ : ∃ q, k = q + 1 := ⟨k - 1, by omega⟩
      simp only [Nat.add_sub_cancel]
      have hlt : q < m := by omega
      obtain ⟨gb, rfl, _⟩ := OwnV.form OB.out (by omega)
      have c0 := own_cellG OB.out (j := q) hlt
      rw [nth_map (by rw [HM.out]; exact hlt)] at c0
      have hkn := HLE.out q (by rw [HM.out]; exact hlt)
      obtain ⟨p, hp⟩ : ∃ p, atN bs q = p := ⟨_, rfl⟩
      have HP := Lib.hid hp
      rw [hp] at c0 hkn
      clear hp
      by_cases hgt : (p : Int) < i
      · have E := Lib.hid (pvB_list (ks := ks xs) (s := min i.toNat ((ks xs).length + 1)) (k := q) (by omega) (by rw [BS.out, HM.out]; exact hlt) (by rw [BS.out, HP.out, KL.out, HLEN.out]; omega) (fun j h1 h2 => by rw [BS.out] at h2 ⊢; have := HALL.out j (by omega) (by rw [HM.out] at h2; exact h2); omega))
        go_wp2_with fail
        go_ret
        refine ⟨reti ?_, HB1.out⟩
        unfold prevV
        rw [E.out, BS.out, HP.out]
      · go_wp2_with fail
        go_round
        case rel =>
          refine ⟨q, by omega, ?_, fun j h1 h2 => ?_⟩
          · rcases Nat.eq_zero_or_pos q with h0 | h0
            · subst h0; exact .inl ⟨rfl, by go_num⟩
            · refine .inr ⟨h0, ?_⟩; congr 1; omega
          · rcases Nat.lt_or_ge q j with h5 | h5
            · exact HALL.out j (by omega) h2
            · rw [show j = q by omega, HP.out]; omega
        case measure => simp [intOf] <;> omega
end Go.Proofs.YtcldegpfkpmciaaDoor
