/- Chapter 20: the reference's In without patterns: the walk. -/
import Derived.Test.YtgianjnccpbnaaaDoorNre
namespace Go.Proofs.YtgianjnccpbnaaaDoor
open Go.ChangeShapes Go.WideShapes Go.ChangeAt Go.RowKit
set_option maxRecDepth 100000
set_option linter.unusedSimpArgs false

theorem bound_in {K : List Int} {k : Nat} (h : k < (bounds K).length) : ∃ m : Nat, nth (bounds K) k = (m : Int) ∧ m ≤ K.length := by
  have hm := List.getElem_mem h
  rw [nth_eq h]
  unfold bounds bnds at hm
  obtain ⟨a, ha, he⟩ := List.mem_map.1 hm
  refine ⟨a, he.symm, ?_⟩
  have := List.mem_range.1 (List.mem_filter.1 ha).1
  omega
theorem keep_take (p : Int → Bool) {zs : List Int} {k : Nat} (h : k < zs.length) : (zs.take (k + 1)).filter p = (zs.take k).filter p ++ (if p (nth zs k) = true then [nth zs k] else []) := by
  rw [List.take_succ_eq_append_getElem h, List.filter_append, nth_eq h]
  congr 1
  cases hp : p zs[k] <;> simp [hp]

set_option maxHeartbeats 4000000 in
theorem rinNil_any (A : Option Addr) (n c : Nat) (xs : List Int) (w : World) (hx : SliceIn .i32 w A n c xs) (hn : n ≤ 1000) :
    Calls Tryd.prog 7 #[.slice none 0 0, .slice A n c] w (NewInts w 3 .i64 (nilIn xs (ks xs)).length (nilIn xs (ks xs))) := by
  have HX : Shut _ := ⟨hx⟩
  have HLEN : Shut (xs.length = n) := ⟨hx.at_.len⟩
  have KL : Shut ((ks xs).length = n) := ⟨(ks_len xs).trans hx.at_.len⟩
  have CB : Shut (∀ W, Below w.heap.size w W → _) := ⟨fun W hW => rbounds_any A n c xs W (hx.pass hW) (by omega)⟩
  have zz : Shut ((Tryd.prog.info? 4).map (·.zero) = some (some (.bool false))) := ⟨by kernel_rfl⟩
  clear hx
  generalize ks xs = K at *
  go_enter Tryd.func7, Tryd.ntmps7
  go_wp2_with (refine wpList_makeVs TBn zz.out rfl rfl (.tmp 16) (.tmp 16) rfl (n + 1) rfl rfl (by go_num) (by go_num) (by omega) w.heap.size (Nat.le_refl _) ?_; intro gh w1 o1 b1; have O1 : Shut _ := ⟨o1⟩; have B1 : Shut _ := ⟨b1⟩; clear o1 b1)
  go_loopg [6] (n + 1) (fun g v wr => ∃ k : Nat, n - k < g ∧ k ≤ n ∧ v = .int .i64 (k : Int) ∧ Shut (OwnV wr w.heap.size 4 1 (some ⟨gh, 0, none⟩) (n + 1) (n + 1) (hitsV xs k)) ∧ Shut (Below w.heap.size w wr))
  case atStart => exact ⟨0, by omega, by omega, rfl, ⟨by rw [← hitsV_zero, HLEN.out]; exact O1.out⟩, B1⟩
  case round =>
    obtain ⟨k, hg, hk, rfl, OH, BE⟩ := hrel
    have hwz : w.heap.size ≤ wr.heap.size := BE.out.size
    by_cases hlt : k < n
    · have HXr := HX.out.pass BE.out
      obtain ⟨ad, hA, hab, hcx⟩ := HXr.at_.2 (by omega)
      subst hA
      have hc := hcx k hlt
      have HY : Shut (k + 1 < n → nth xs k = 173 → hitB xs (k + 1) = true) := ⟨fun h1 h2 => hit_yes (by rw [HLEN.out]; exact h1) h2⟩
      have HN : Shut (nth xs k ≠ 173 → hitB xs (k + 1) = false) := ⟨fun h2 => hit_no h2⟩
      have HE : Shut (n ≤ k + 1 → hitB xs (k + 1) = false) := ⟨fun h => hit_end (by rw [HLEN.out]; exact h)⟩
      generalize nth xs k = r at *
      have i1 : (k : Int) < (n : Int) := by omega
      clear hcx HXr
      go_upto_region 5 with fail
      go_cut [35] (fun v wx => v = .bool (hitB xs (k + 1)) ∧ wx = wr)
      case first =>
        by_cases hr : r = 173
        · subst hr
          by_cases hk2 : k + 1 < n
          · have E : Shut _ := ⟨HY.out hk2 rfl⟩
            have i2 : (k : Int) + 1 < (n : Int) := by omega
            go_wp2_with fail
            go_meet
            exact ⟨by rw [E.out], rfl⟩
          · have E : Shut _ := ⟨HE.out (by omega)⟩
            have i2 : decide ((k : Int) + 1 < (n : Int)) = false := by simp; omega
            clear hk2
            go_wp2_with fail
            go_meet
            exact ⟨by rw [E.out], rfl⟩
        · have E : Shut _ := ⟨HN.out hr⟩
          have hb : ((r : Int) == 173) = false := by simpa using hr
          clear hr
          go_wp2_with fail
          go_meet
          exact ⟨by rw [E.out], rfl⟩
      case rest =>
        obtain ⟨rfl, rfl⟩ := hcut
        cases hh : hitB xs (k + 1) with
        | false =>
          have HV : Shut _ := ⟨hitsV_no hh⟩
          clear hh
          go_wp2_with fail
          go_roundg (n - k)
          case measure => omega
          case rel => exact ⟨k + 1, by omega, by omega, by go_num, ⟨by rw [HV.out]; exact OH.out⟩, BE⟩
        | true =>
          have HV : Shut _ := ⟨hitsV_yes hh (by rw [HLEN.out]; omega)⟩
          have hgh := (OwnV.ltH OH.out).1
          have hfr := OwnV.frozenAt OH.out (k + 1)
          have hci := OwnV.cellAt OH.out (k + 1) (by omega)
          rw [hitsV_at (by rw [HLEN.out]; omega)] at hci
          have OH2 : Shut _ := ⟨OwnV.setV OH.out (k + 1) (.bool true)⟩
          have BE2 : Shut _ := ⟨Below.setCell BE.out (p := ⟨gh, k + 1, none⟩) hgh (.bool true)⟩
          have i3 : (k : Int) + 1 < (n : Int) + 1 := by omega
          clear hh
          go_wp2_with fail
          go_roundg (n - k)
          case measure => omega
          case rel => exact ⟨k + 1, by omega, by omega, by go_num, ⟨by rw [HV.out]; exact OH2.out⟩, BE2⟩
    · obtain rfl : k = n := by omega
      go_wp2_with fail
      obtain ⟨wo, rfl⟩ : ∃ wo : World, wo = wr := ⟨_, rfl⟩
      go_loopg [7] (k + 2) (fun g v wr => ∃ a : Nat, k + 1 - a < g ∧ a ≤ k + 1 ∧ v = .int .i64 (a : Int) ∧ Shut (Below wo.heap.size wo wr))
      case atStart => exact ⟨0, by omega, by omega, rfl, ⟨Below.refl _ _⟩⟩
      case round =>
        obtain ⟨a, hg2, ha, rfl, BA⟩ := hrel
        have hwa : wo.heap.size ≤ wr.heap.size := BA.out.size
        by_cases hlt2 : a < k
        · have i1 : (a : Int) < (k : Int) := by omega
          obtain ⟨wi, rfl⟩ : ∃ wi : World, wi = wr := ⟨_, rfl⟩
          go_upto_block 4 with fail
          go_cut [8] (fun v wx => ∃ j : Nat, a ≤ j ∧ j ≤ k ∧ v = .int .i64 (j : Int) ∧ Shut (Below wi.heap.size wi wx))
          case first =>
            go_wp2_with fail
            go_loopg [8] (k + 1) (fun g v wr => ∃ j : Nat, k - j < g ∧ a ≤ j ∧ j ≤ k ∧ v = .int .i64 (j : Int) ∧ Shut (Below wi.heap.size wi wr))
            case atStart => exact ⟨a, by omega, by omega, by omega, rfl, ⟨Below.refl _ _⟩⟩
            case round =>
              obtain ⟨j, hg3, haj, hjk, rfl, BJ⟩ := hrel
              have BW : Shut (Below w.heap.size w wr) := ⟨BE.out.trans ((BA.out.trans (BJ.out.mono hwa)).mono hwz)⟩
              by_cases hj : j < k
              · have HXr := HX.out.pass BW.out
                obtain ⟨g1, g2⟩ := bounds_i32 (HX.out.nth_wf hj)
                obtain ⟨ad2, hA2, hab2, hcx2⟩ := HXr.at_.2 (by omega)
                subst hA2
                have hc := hcx2 j hj
                have CL : Shut _ := ⟨rOf_lit (nth xs j) g1 g2 wr⟩
                have hw0 : (propOf (nth xs j)).word = wdOf (nth xs j) := rfl
                rw [hw0] at CL
                have i2 : (j : Int) < (k : Int) := by omega
                have hzj := BJ.out.size
                generalize nth xs j = r at *
                cases hw : (wdOf r == 1) with
                | true =>
                  generalize wdOf r = q at *
                  clear hcx2 HXr g1 g2 hw0
                  go_wp2_with fail
                  refine CL.out.mono ?_
                  rintro e w4 ⟨rfl, b4⟩
                  have B4 : Shut _ := ⟨BJ.out.trans (b4.mono hzj)⟩
                  clear b4
                  go_wp2_with fail
                  go_roundg (k - j)
                  case measure => omega
                  case rel => exact ⟨j + 1, by omega, by omega, by omega, by go_num, B4⟩
                | false =>
                  generalize wdOf r = q at *
                  clear hcx2 HXr g1 g2 hw0
                  go_wp2_with fail
                  refine CL.out.mono ?_
                  rintro e w4 ⟨rfl, b4⟩
                  have B4 : Shut _ := ⟨BJ.out.trans (b4.mono hzj)⟩
                  clear b4
                  go_wp2_with fail
                  go_meet
                  exact ⟨j, haj, hjk, rfl, B4⟩
              · have i1 : decide (j < k) = false := by simp; omega
                obtain rfl : j = k := by omega
                go_wp2_with fail
                go_meet
                exact ⟨j, haj, hjk, rfl, BJ⟩
          case rest =>
            obtain ⟨j, haj, hjk, rfl, BJ⟩ := hcut
            have BW : Shut (Below w.heap.size w wc) := ⟨BE.out.trans ((BA.out.trans (BJ.out.mono hwa)).mono hwz)⟩
            obtain ⟨A5, c5, CR⟩ := cut_lh TI32d A k c a j haj hjk HX.out.le (a : Int) (j : Int) rfl rfl
            have hrun := CR.run
            have CP : Shut _ := ⟨rpointsNil_any A5 (j - a) c5 _ wc (CR.sliceIn (HX.out.pass BW.out)) (by omega)⟩
            have hzc := BJ.out.size
            clear CR
            go_wp2_with fail
            refine CP.out.mono ?_
            rintro e w6 ⟨rfl, b6⟩
            have B6 : Shut (Below wo.heap.size wo w6) := ⟨BA.out.trans ((BJ.out.trans (b6.mono hzc)).mono hwa)⟩
            clear b6
            go_wp2_with fail
            go_loopg [10] 1 (fun g v wr => v = .int .i64 0 ∧ wr = w6)
            case atStart => exact ⟨rfl, rfl⟩
            case round =>
              obtain ⟨rfl, rfl⟩ := hrel
              go_wp2_with fail
              go_roundg (k + 1 - a)
              case measure => omega
              case rel => exact ⟨j + 1, by omega, by omega, by go_num, B6⟩
        · have i1 : ¬ ((a : Int) < (k : Int)) := by omega
          have BW : Shut (Below w.heap.size w wr) := ⟨BE.out.trans (BA.out.mono hwz)⟩
          have CBr : Shut _ := ⟨CB.out wr BW.out⟩
          have OH2 : Shut _ := ⟨OwnV.pass OH.out BA.out⟩
          clear CB
          go_wp2_with fail
          refine CBr.out.mono ?_
          rintro e w7 ⟨Ab, cb, rfl, o7, b7⟩
          have B7 : Shut (Below w.heap.size w w7) := ⟨BW.out.trans (b7.mono BW.out.size)⟩
          have O7 : Shut _ := ⟨o7⟩
          have O8 : Shut _ := ⟨OwnV.pass OH2.out b7⟩
          have hml : (bounds K).length = (bndA K).length := by rw [bounds_map]; simp
          have hm : (bndA K).length ≤ k + 1 := by have := bndN_len K (K.length + 1); rw [KL.out] at this; unfold bndA; rw [KL.out]; exact this
          obtain ⟨m, hmm⟩ : ∃ m, (bndA K).length = m := ⟨_, rfl⟩
          rw [hmm] at hm hml O7 ⊢
          have HM : Shut _ := ⟨hml⟩
          have BK : Shut ((bounds K).filter (fun x => hitB xs x.toNat) = nilIn xs K) := ⟨bnds_keep xs K (by rw [KL.out, HLEN.out])⟩
          clear o7 b7 hmm hml
          go_wp2_with fail
          obtain ⟨wi, rfl⟩ : ∃ wi : World, wi = wr := ⟨_, rfl⟩
          go_loopg [12, 13] (m + 1) (fun g v12 v13 wr => ∃ (q : Nat) (A2 : Option Addr) (c2 : Nat), m - q < g ∧ q ≤ m ∧ v13 = .int .i64 (q : Int) ∧ v12 = .slice A2 (((bounds K).take q).filter (fun x => hitB xs x.toNat)).length c2 ∧
            Shut (Own wr w7.heap.size 3 .i64 A2 (((bounds K).take q).filter (fun x => hitB xs x.toNat)).length c2 (((bounds K).take q).filter (fun x => hitB xs x.toNat))) ∧ Shut (Below w7.heap.size w7 wr))
          case atStart => exact ⟨0, none, 0, by omega, by omega, rfl, rfl, ⟨Own.nil _ _ _ _⟩, ⟨Below.refl _ _⟩⟩
          case round =>
            obtain ⟨q, A2, c2, hg4, hq, rfl, rfl, OQ, BQ⟩ := hrel
            have hlq : (((bounds K).take q).filter (fun x => hitB xs x.toNat)).length ≤ q := Nat.le_trans (List.length_filter_le _ _) (List.length_take_le _ _)
            have hzq : w7.heap.size ≤ wr.heap.size := BQ.out.size
            by_cases hlt4 : q < m
            · obtain ⟨x, hx1, hx2⟩ := bound_in (K := K) (k := q) (by rw [HM.out]; exact hlt4)
              rw [KL.out] at hx2
              have KT : Shut _ := ⟨keep_take (fun x => hitB xs x.toNat) (zs := bounds K) (k := q) (by rw [HM.out]; exact hlt4)⟩
              rw [hx1] at KT
              have OB7 := Own.pass O7.out BQ.out
              have OH7 := OwnV.pass O8.out BQ.out
              obtain ⟨gb, rfl, _, _⟩ := OwnV.form OB7 (by omega)
              have hc1 := own_cellN OB7 hlt4
              rw [hx1] at hc1
              have hc2 := OwnV.cellAt OH7 x (by omega)
              rw [hitsV_at (by rw [HLEN.out]; omega), show (decide (x ≤ k) && hitB xs x) = hitB xs x by rw [show decide (x ≤ k) = true by simpa using hx2]; rfl] at hc2
              have i2 : (q : Int) < (m : Int) := by omega
              have i3 : (x : Int) < (k : Int) + 1 := by omega
              obtain ⟨L, hL⟩ : ∃ L, (((bounds K).take q).filter (fun x => hitB xs x.toNat)) = L := ⟨_, rfl⟩
              rw [hL] at KT OQ hlq ⊢
              clear hL hx1 OB7 OH7
              cases hh : hitB xs x with
              | false =>
                rw [hh] at hc2
                have KT2 : Shut (((bounds K).take (q + 1)).filter (fun x => hitB xs x.toNat) = L) := ⟨by rw [KT.out, if_neg (by rw [Int.toNat_natCast, hh]; simp), List.append_nil]⟩
                clear hh
                go_wp2_with fail
                go_roundg (m - q)
                case measure => omega
                case rel => exact ⟨q + 1, A2, c2, by omega, by omega, by go_num, by rw [KT2.out], ⟨by rw [KT2.out]; exact OQ.out⟩, BQ⟩
              | true =>
                rw [hh] at hc2
                have KT2 : Shut (((bounds K).take (q + 1)).filter (fun x => hitB xs x.toNat) = L ++ [(x : Int)]) := ⟨by rw [KT.out, if_pos (by rw [Int.toNat_natCast, hh])]⟩
                obtain ⟨l, hl⟩ : ∃ l, L.length = l := ⟨_, rfl⟩
                rw [hl] at OQ hlq ⊢
                have HL : Shut _ := ⟨hl⟩
                clear hh hl
                go_wp2_with (at_builtin; refine wpList_push TI64n rfl (.tmp 97) (.tmp 102) rfl rfl (Own.alloc OQ.out _) rfl (cell_new _ _ _) (by omega) (by simp; omega) ?_; intro A4 c4 w4 o4 b4; have O4 : Shut _ := ⟨o4⟩; have B4 : Shut _ := ⟨b4⟩; clear o4 b4)
                go_roundg (m - q)
                case measure => omega
                case rel =>
                  have e1 : (L ++ [(x : Int)]).length = l + 1 := by simp [HL.out]
                  exact ⟨q + 1, A4, c4, by omega, by omega, by go_num, by rw [KT2.out, e1], ⟨by rw [KT2.out, e1]; exact O4.out⟩, ⟨(BQ.out.alloc hzq _).trans B4.out⟩⟩
            · obtain rfl : q = m := by omega
              have hfull : ((bounds K).take q).filter (fun x => hitB xs x.toNat) = nilIn xs K := by rw [List.take_of_length_le (by rw [HM.out]; exact Nat.le_refl _)]; exact BK.out
              rw [hfull] at OQ ⊢
              have O9 : Shut _ := ⟨OwnV.lowN OQ.out B7.out.size⟩
              have B9 : Shut _ := ⟨B7.out.trans (BQ.out.mono B7.out.size)⟩
              clear hfull
              go_wp2_with fail
              go_ret
              exact ⟨A2, c2, rfl, O9.out, B9.out⟩
end Go.Proofs.YtgianjnccpbnaaaDoor
