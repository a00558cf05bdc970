/- Chapter 20: In of a nil trie: soft hyphens are places still. -/
import Derived.Test.YtgianjnccpbnaaaDoorNil
import Derived.Shelf.Abstract
namespace Go.Proofs.YtgianjnccpbnaaaDoor
open Go.ChangeShapes Go.WideShapes Go.ChangeAt Go.RowKit
set_option maxRecDepth 100000
set_option linter.unusedSimpArgs false

theorem OwnV.lowN {w : World} {B B' n c size : Nat} {e : TypeId} {A : Option Addr} {vs : List Value} (h : OwnV w B e size A n c vs) (hb : B' ≤ B) : OwnV w B' e size A n c vs := by
  refine ⟨h.1, ?_⟩
  rcases h.2 with h2 | ⟨g, cap, cur, hv, hg, r⟩
  · exact .inl h2
  · exact .inr ⟨g, cap, cur, hv, Nat.le_trans hb hg, r⟩
theorem in_keep {K : List Int} {x : Int} (h0 : 0 ≤ x) (h1 : x ≤ (K.length : Int)) : inB (bndA K) x = keepB K x := by
  obtain ⟨m, rfl⟩ : ∃ m : Nat, x = (m : Int) := ⟨x.toNat, by omega⟩
  unfold inB keepB bndA bndN
  rw [Bool.eq_iff_iff, List.contains_iff_mem, List.mem_map, Int.toNat_natCast]
  constructor
  · rintro ⟨a, ha, he⟩
    have : a = m := by
      have : (a : Int) = (m : Int) := he
      omega
    subst this
    exact (List.mem_filter.1 ha).2
  · intro h
    exact ⟨m, List.mem_filter.2 ⟨List.mem_range.2 (by omega), h⟩, rfl⟩
theorem cell_of_heap {w w' : World} {p : Addr} (h : w'.heap[p.block]? = w.heap[p.block]?) : w'.cell? p = w.cell? p := by
  unfold World.cell?
  rw [h]
theorem TI32d : SliceOf Tryd.prog 22 21 1 4 := sliceOf_mk Tryd.underlying22 (z := .int .i32 0) (by kernel_rfl) rfl (by omega) (by omega)
set_option maxHeartbeats 4000000 in
theorem pinNil_any (A : Option Addr) (n c : Nat) (xs : List Int) (w : World) (hx : SliceIn .i32 w A n c xs) (hl : Laid w) (hn : n ≤ 1000) :
    Calls Tryd.prog 6 #[.pointer none, .slice A n c] w (NewInts w 3 .i64 (nilIn xs (ks xs)).length (nilIn xs (ks xs))) := by
  have HX : Shut _ := ⟨hx⟩
  have HL : Shut _ := ⟨hl⟩
  have HLEN : Shut (xs.length = n) := ⟨hx.at_.len⟩
  have KL : Shut ((ks xs).length = n) := ⟨(ks_len xs).trans hx.at_.len⟩
  have CB : Shut _ := ⟨pbounds_any A n c xs w hx hl (by omega)⟩
  clear hx hl
  generalize ks xs = K at *
  go_enter Tryd.func6, Tryd.ntmps6
  go_wp2_with fail
  refine CB.out.mono ?_
  rintro e w1 ⟨A1, c1, rfl, o1, b1⟩
  have O1 : Shut _ := ⟨o1⟩
  have B1 : Shut _ := ⟨b1⟩
  clear o1 b1 CB
  go_wp2_with fail
  have hm : (bndA K).length ≤ n + 1 := by have := bndN_len K (K.length + 1); rw [KL.out] at this; unfold bndA; rw [KL.out]; exact this
  obtain ⟨m, hmm⟩ : ∃ m, (bndA K).length = m := ⟨_, rfl⟩
  rw [hmm] at hm O1 ⊢
  obtain ⟨bb, hbb⟩ : ∃ bb, w1.heap.size = bb := ⟨_, rfl⟩
  have hz1 : w.heap.size ≤ bb := by rw [← hbb]; exact B1.out.size
  have hO2 := Own.alloc O1.out (.cells #[.slice A1 m c1] 25)
  have hB2 := B1.out.alloc (by omega) (.cells #[.slice A1 m c1] 25)
  have hC2 : (w1.alloc (.cells #[.slice A1 m c1] 25)).cell? ⟨bb, 0, none⟩ = some (.slice A1 m c1) := by rw [← hbb]; exact cell_new _ _ _
  have hS2 : (w1.alloc (.cells #[.slice A1 m c1] 25)).heap.size = bb + 1 := by simp [hbb]
  have hA1 : ∀ gA, A1 = some ⟨gA, 0, none⟩ → gA < bb := fun gA h => by subst h; have := (OwnV.ltH O1.out).2; omega
  rw [hbb]
  generalize w1.alloc (.cells #[.slice A1 m c1] 25) = w2 at *
  have O2 : Shut _ := ⟨hO2⟩
  have B2 : Shut _ := ⟨hB2⟩
  have C2 : Shut _ := ⟨hC2⟩
  have S2 : Shut _ := ⟨hS2⟩
  have HA1 : Shut _ := ⟨hA1⟩
  have HM : Shut _ := ⟨hmm⟩
  have hz2 : w.heap.size ≤ w2.heap.size := B2.out.size
  clear hO2 hB2 hC2 hS2 hA1 hmm hbb O1 B1
  go_loopg [6, 7] (n + 1) (fun g v6 v7 wr => ∃ (k : Nat) (Ao : Option Addr) (co : Nat), n - k < g ∧ k ≤ n ∧ v6 = .slice Ao (softN xs (k + 1)).length co ∧ v7 = .int .i64 (k : Int) ∧ Shut (Own wr w2.heap.size 3 .i64 Ao (softN xs (k + 1)).length co (softN xs (k + 1))) ∧ Shut (Below w2.heap.size w2 wr))
  case atStart => exact ⟨0, none, 0, by omega, by omega, by rw [softN_one]; rfl, rfl, ⟨by rw [softN_one]; exact Own.nil _ _ _ _⟩, ⟨Below.refl _ _⟩⟩
  case round =>
    obtain ⟨k, Ao, co, hg, hk, rfl, rfl, OO, BE⟩ := hrel
    have hwz : w2.heap.size ≤ wr.heap.size := BE.out.size
    have BW : Shut (Below w.heap.size w wr) := ⟨B2.out.trans (BE.out.mono hz2)⟩
    have hsl := softN_len xs (k + 1)
    by_cases hlt : k < n
    · have HXr := HX.out.pass BW.out
      obtain ⟨g1, g2⟩ := bounds_i32 (HX.out.nth_wf hlt)
      obtain ⟨ad, hA, hab, hcx⟩ := HXr.at_.2 (by omega)
      subst hA
      have hc := hcx k hlt
      have CL : Shut _ := ⟨letter_any (nth xs k) g1 g2 wr (HL.out.pass BW.out)⟩
      have SS : Shut _ := ⟨softN_succ xs (k + 1)⟩
      have HY : Shut (k + 1 < n → nth xs k = 173 → hitB xs (k + 1) = true) := ⟨fun h1 h2 => hit_yes (by rw [HLEN.out]; exact h1) h2⟩
      have HN : Shut (nth xs k ≠ 173 → hitB xs (k + 1) = false) := ⟨fun h2 => hit_no h2⟩
      have HE : Shut (n ≤ k + 1 → hitB xs (k + 1) = false) := ⟨fun h => hit_end (by rw [HLEN.out]; exact h)⟩
      clear hcx HXr
      cases hw : (wdOf (nth xs k) == 1) with
      | false =>
        rw [hw] at CL
        obtain ⟨r, hr⟩ : ∃ r, nth xs k = r := ⟨_, rfl⟩
        rw [hr] at hc CL HY HN
        obtain ⟨l, hl⟩ : ∃ l, (softN xs (k + 1)).length = l := ⟨_, rfl⟩
        rw [hl] at OO hsl ⊢
        have HLL : Shut _ := ⟨hl⟩
        have ek : (k : Int) + 1 - 1 = (k : Int) := by omega
        clear hw g1 g2 hl hr
        go_wp2_with fail
        refine CL.out.mono ?_
        rintro e w3 ⟨rfl, b3⟩
        have B3 : Shut _ := ⟨BE.out.trans (b3.mono hwz)⟩
        have O3 : Shut _ := ⟨Own.pass OO.out b3⟩
        have hc3 := cell_pass hc b3
        have hz3 := b3.size
        clear b3 hc
        go_upto_region 7 with fail
        go_cut [36] (fun v wx => v = .bool (hitB xs (k + 1)) ∧ wx = w3)
        case first =>
          by_cases hr : r = 173
          · subst hr
            by_cases hk2 : k + 1 < n
            · have E : Shut _ := ⟨HY.out hk2 rfl⟩
              have i2 : (k : Int) + 1 < (n : Int) := by omega
              go_wp2_with fail
              go_meet
              exact ⟨by rw [E.out], rfl⟩
            · have E : Shut _ := ⟨HE.out (by omega)⟩
              have i2 : decide ((k : Int) + 1 < (n : Int)) = false := by simp; omega
              clear hk2
              go_wp2_with fail
              go_meet
              exact ⟨by rw [E.out], rfl⟩
          · have E : Shut _ := ⟨HN.out hr⟩
            have hb : ((r : Int) == 173) = false := by simpa using hr
            clear hr
            go_wp2_with fail
            go_meet
            exact ⟨by rw [E.out], rfl⟩
        case rest =>
          obtain ⟨rfl, rfl⟩ := hcut
          cases hh : hitB xs (k + 1) with
          | false =>
            have SN : Shut (softN xs (k + 1 + 1) = softN xs (k + 1)) := ⟨by rw [SS.out, if_neg (by rw [hh]; simp)]⟩
            clear hh
            go_wp2_with fail
            go_roundg (n - k)
            case measure => omega
            case rel => exact ⟨k + 1, Ao, co, by omega, by omega, by rw [SN.out, HLL.out], by go_num, ⟨by rw [SN.out, HLL.out]; exact O3.out⟩, B3⟩
          | true =>
            have SN : Shut (softN xs (k + 1 + 1) = softN xs (k + 1) ++ [((k + 1 : Nat) : Int)]) := ⟨by rw [SS.out, if_pos hh]⟩
            have hzz := B3.out.size
            clear hh
            go_wp2_with (at_builtin; refine wpList_push TI64n rfl (.tmp 37) (.tmp 39) rfl rfl (Own.alloc O3.out _) rfl (cell_new _ _ _) (by omega) (by simp; omega) ?_; intro A4 c4 w4 o4 b4; have O4 : Shut _ := ⟨o4⟩; have B4 : Shut _ := ⟨b4⟩; clear o4 b4)
            go_roundg (n - k)
            case measure => omega
            case rel =>
              have e1 : (softN xs (k + 1) ++ [((k + 1 : Nat) : Int)]).length = l + 1 := by simp [HLL.out]
              exact ⟨k + 1, A4, c4, by omega, by omega, by rw [SN.out, e1], by go_num, ⟨by rw [SN.out, e1]; exact O4.out⟩, ⟨(B3.out.alloc hzz _).trans B4.out⟩⟩
      | true =>
        rw [hw] at CL
        have HW : Shut _ := ⟨hw⟩
        clear hw SS HY HN HE
        go_wp2_with fail
        refine CL.out.mono ?_
        rintro e w3 ⟨rfl, b3⟩
        have B3 : Shut (Below w2.heap.size w2 w3) := ⟨BE.out.trans (b3.mono hwz)⟩
        have O3 : Shut _ := ⟨Own.pass OO.out b3⟩
        have hz3 : w2.heap.size ≤ w3.heap.size := B3.out.size
        clear b3 hc g1 g2 CL BW
        go_upto_block 2 with fail
        go_cut [7] (fun v wx => ∃ j : Nat, k < j ∧ j ≤ n ∧ v = .int .i64 (j : Int) ∧ Shut (softN xs (j + 1) = softN xs (k + 1)) ∧ Shut (Below w3.heap.size w3 wx))
        case first =>
          go_wp2_with fail
          go_loopg [7] (n + 1) (fun g v wr => ∃ j : Nat, n - j < g ∧ k ≤ j ∧ j ≤ n ∧ v = .int .i64 (j : Int) ∧ Shut (softN xs (j + 1) = softN xs (k + 1)) ∧ Shut (Below w3.heap.size w3 wr))
          case atStart => exact ⟨k, by omega, by omega, by omega, rfl, ⟨rfl⟩, ⟨Below.refl _ _⟩⟩
          case round =>
            obtain ⟨j, hg2, hkj, hjn, rfl, SJ, BJ⟩ := hrel
            by_cases hj : j < n
            · have BW : Shut (Below w.heap.size w wr) := ⟨B2.out.trans ((B3.out.trans (BJ.out.mono hz3)).mono hz2)⟩
              have HXr := HX.out.pass BW.out
              obtain ⟨g1, g2⟩ := bounds_i32 (HX.out.nth_wf hj)
              obtain ⟨ad2, hA2, hab2, hcx2⟩ := HXr.at_.2 (by omega)
              obtain rfl : ad = ad2 := by injection hA2
              have hc := hcx2 j hj
              have CL : Shut _ := ⟨letter_any (nth xs j) g1 g2 wr (HL.out.pass BW.out)⟩
              have SS : Shut _ := ⟨softN_succ xs (j + 1)⟩
              have i1 : (j : Int) < (n : Int) := by omega
              have hzj := BJ.out.size
              cases hw : (wdOf (nth xs j) == 1) with
              | true =>
                have hne : nth xs j ≠ 173 := fun h => by rw [h] at hw; exact soft_word (by simpa using hw)
                have SN : Shut (softN xs (j + 1 + 1) = softN xs (k + 1)) := ⟨by rw [SS.out, if_neg (by rw [hit_no hne]; simp)]; exact SJ.out⟩
                rw [hw] at CL
                generalize nth xs j = r at *
                clear hw hne hcx2 HXr g1 g2 hA2
                go_wp2_with fail
                refine CL.out.mono ?_
                rintro e w4 ⟨rfl, b4⟩
                have B4 : Shut _ := ⟨BJ.out.trans (b4.mono hzj)⟩
                clear b4
                go_wp2_with fail
                go_roundg (n - j)
                case measure => omega
                case rel => exact ⟨j + 1, by omega, by omega, by omega, by go_num, SN, B4⟩
              | false =>
                have hkj2 : k < j := by
                  rcases Nat.eq_or_lt_of_le hkj with h | h
                  · subst h
                    rw [HW.out] at hw
                    cases hw
                  · exact h
                rw [hw] at CL
                generalize nth xs j = r at *
                clear hw hcx2 HXr g1 g2 hA2
                go_wp2_with fail
                refine CL.out.mono ?_
                rintro e w4 ⟨rfl, b4⟩
                have B4 : Shut _ := ⟨BJ.out.trans (b4.mono hzj)⟩
                clear b4
                go_wp2_with fail
                go_meet
                exact ⟨j, hkj2, hjn, rfl, SJ, B4⟩
            · have i1 : decide (j < n) = false := by simp; omega
              obtain rfl : j = n := by omega
              go_wp2_with fail
              go_meet
              exact ⟨j, hlt, hjn, rfl, SJ, BJ⟩
        case rest =>
          obtain ⟨j, hkj, hjn, rfl, SJ, BJ⟩ := hcut
          obtain ⟨A5, c5, CR⟩ := cut_lh TI32d (some ad) n c k j (by omega) hjn HX.out.le (k : Int) (j : Int) rfl rfl
          have hrun := CR.run
          have O5 : Shut _ := ⟨Own.pass O3.out BJ.out⟩
          have B5 : Shut _ := ⟨B3.out.trans (BJ.out.mono hz3)⟩
          clear CR
          go_wp2_with fail
          refine (pointsNil_any A5 (j - k) c5 _).mono ?_
          rintro e w6 ⟨rfl, rfl⟩
          go_wp2_with fail
          go_loopg [6, 62] 1 (fun g v6 v wr => v6 = .slice Ao (softN xs (k + 1)).length co ∧ v = .int .i64 0 ∧ wr = wc)
          case atStart => exact ⟨rfl, rfl, rfl⟩
          case round =>
            obtain ⟨rfl, rfl, rfl⟩ := hrel
            go_wp2_with fail
            go_roundg (n - k)
            case measure => omega
            case rel => exact ⟨j, Ao, co, by omega, hjn, by rw [SJ.out], rfl, ⟨by rw [SJ.out]; exact O5.out⟩, B5⟩
    · obtain rfl : k = n := by omega
      have HOO : Shut (∀ r, Ao = some ⟨r, 0, none⟩ → w2.heap.size ≤ r) := ⟨fun r h => by subst h; exact (OwnV.ltH OO.out).1⟩
      have RB := bndA_Rise K
      have hbm : bounds K = (bndA K).map Int.ofNat := bounds_map K
      have hfil : (softN xs (k + 1)).filter (fun x => !(!inB (bndA K) x)) = nilIn xs K := by
        have h1 := soft_keep xs K
        rw [HLEN.out] at h1
        rw [← h1]
        apply List.filter_congr
        intro x hx
        obtain ⟨h2, h3⟩ := softN_mem hx
        rw [Bool.not_not, in_keep (by omega) (by rw [KL.out]; omega)]
      have T0 : ∀ W : World, Below w2.heap.size w2 W → Tells Tryd.prog 17 #[.pointer (some ⟨bb, 0, none⟩)] (fun x => !inB (bndA K) x) W := fun W hW x => by
        have hb2 : bb < w2.heap.size := by rw [S2.out]; exact Nat.lt_succ_self _
        have := inClo_any x bb A1 m c1 (bndA K) RB W ((hW.cell (p := ⟨bb, 0, none⟩) hb2).trans C2.out) (by rw [← hbm]; exact Own.ints (Own.pass O2.out hW)) (by omega)
        exact this
      have TO : ∀ r, Ao = some ⟨r, 0, none⟩ → TellsOver Tryd.prog 17 #[.pointer (some ⟨bb, 0, none⟩)] (fun x => !inB (bndA K) x) wr r := fun r hr W h1 h2 x => by
        have hrr := HOO.out r hr
        have hb2 : bb < w2.heap.size := by rw [S2.out]; exact Nat.lt_succ_self _
        have hcell : ∀ p : Addr, p.block < w2.heap.size → W.cell? p = w2.cell? p := fun p hp => by
          rw [← BE.out.cell hp]
          exact cell_of_heap (h2 p.block (by omega) (by omega))
        have hI : IntsAt W W.heap.size .i64 A1 m (bounds K) := ((Own.ints O2.out).keep hcell).more (by omega)
        exact inClo_any x bb A1 m c1 (bndA K) RB W ((hcell ⟨bb, 0, none⟩ hb2).trans C2.out) (by rw [← hbm]; exact hI) (by omega)
      have CD : Shut _ := ⟨del_any 17 ⟨bb, 0, none⟩ (fun x => !inB (bndA K) x) Ao (softN xs (k + 1)).length co (softN xs (k + 1)) w2.heap.size wr OO.out (by omega) (enters_of Tryd.func17 (by kernel_rfl) rfl) (T0 wr BE.out) TO⟩
      rw [hfil] at CD
      clear T0 TO hfil hbm RB
      go_wp2_with fail
      refine CD.out.mono ?_
      rintro e w9 ⟨A9, c9, rfl, o9, b9⟩
      have O9 : Shut _ := ⟨OwnV.lowN o9 hz2⟩
      have B9 : Shut _ := ⟨BW.out.trans (b9.mono hz2)⟩
      clear o9 b9
      go_wp2_with fail
      go_ret
      exact ⟨A9, c9, rfl, O9.out, B9.out⟩
end Go.Proofs.YtgianjnccpbnaaaDoor
