/- Chapter 20: the program's In. -/
import Derived.Test.YtgianjnccpbnaaaDoorNin
import Derived.Test.YtgianjnccpbnaaaDoorIlaw
import Derived.Test.YtgianjnccpbnaaaDoorHpts
import Derived.Test.YtgianjnccpbnaaaDoorHkl
namespace Go.Proofs.YtgianjnccpbnaaaDoor
open Go.ChangeShapes Go.WideShapes Go.ChangeAt Go.RowKit
set_option maxRecDepth 100000
set_option linter.unusedSimpArgs false

theorem let_soft {xs : List Int} : ∀ i, letB xs i = true → nth xs i ≠ 173 := fun i h h2 => by
  unfold letB at h
  rw [h2] at h
  simp at h
  exact soft_word h.2
theorem letB_yes {xs : List Int} {i : Nat} (h : i < xs.length) (hw : (wdOf (nth xs i) == 1) = true) : letB xs i = true := by unfold letB; simp [h]; simpa using hw
theorem letB_no {xs : List Int} {i : Nat} (hw : (wdOf (nth xs i) == 1) = false) : letB xs i = false := by unfold letB; rw [hw]; simp
theorem letB_end {xs : List Int} {i : Nat} (h : xs.length ≤ i) : letB xs i = false := by unfold letB; simp; omega
theorem map_snoc {k : Int} {l : List Int} {q : Nat} (h : q < l.length) : (l.take (q + 1)).map (fun p => k + p) = (l.take q).map (fun p => k + p) ++ [k + nth l q] := by
  rw [List.take_succ_eq_append_getElem h, List.map_append, nth_eq h]; rfl
/-- what is known while the places of a word are laid behind others -/
structure InRel (L : List Pat) (xs : List Int) (k : Nat) (pts : List Int) (w2 wr : World) (wcs : Nat) (A7 : Option Addr) (l0 c7 : Nat) (A6 : Option Addr) (c6 q : Nat) : Prop where
  out : Own wr w2.heap.size 3 .i64 A7 (l0 + q) c7 (inN L xs (k + 1) ++ (pts.take q).map (fun p => (k : Int) + p))
  op : Own wr wcs 3 .i64 A6 pts.length c6 pts
  ap : Apart A7 A6
  be : Below w2.heap.size w2 wr
set_option maxHeartbeats 8000000 in
theorem pin_any (w : World) (B b0 N : Nat) (L : List Pat) (hL : PatsOk L) (node kids : List Int → Option Nat) (hT : TrieAt Tryd.prog w B b0 N (lookP L) node kids) (A : Option Addr) (n c : Nat) (xs : List Int) (hx : SliceIn .i32 w A n c xs) (hl : Laid w) (hn : n ≤ 1000) :
    Calls Tryd.prog 6 #[.pointer (some ⟨b0, 0, none⟩), .slice A n c] w (NewInts w 3 .i64 (allIn L xs (ks xs)).length (allIn L xs (ks xs))) := by
  have HTR : Shut _ := ⟨hT⟩
  have HLP : Shut _ := ⟨hL⟩
  clear hT hL
  have HX : Shut _ := ⟨hx⟩
  have HL : Shut _ := ⟨hl⟩
  have HLEN : Shut (xs.length = n) := ⟨hx.at_.len⟩
  have KL : Shut ((ks xs).length = n) := ⟨(ks_len xs).trans hx.at_.len⟩
  have CB : Shut _ := ⟨pbounds_any A n c xs w hx hl (by omega)⟩
  clear hx hl
  generalize ks xs = K at *
  go_enter Tryd.func6, Tryd.ntmps6
  go_wp2_with fail
  refine CB.out.mono ?_
  rintro e w1 ⟨A1, c1, rfl, o1, b1⟩
  have O1 : Shut _ := ⟨o1⟩
  have B1 : Shut _ := ⟨b1⟩
  clear o1 b1 CB
  go_wp2_with fail
  have hm : (bndA K).length ≤ n + 1 := by have := bndN_len K (K.length + 1); rw [KL.out] at this; unfold bndA; rw [KL.out]; exact this
  obtain ⟨m, hmm⟩ : ∃ m, (bndA K).length = m := ⟨_, rfl⟩
  rw [hmm] at hm O1 ⊢
  obtain ⟨bb, hbb⟩ : ∃ bb, w1.heap.size = bb := ⟨_, rfl⟩
  have hz1 : w.heap.size ≤ bb := by rw [← hbb]; exact B1.out.size
  have hO2 := Own.alloc O1.out (.cells #[.slice A1 m c1] 25)
  have hB2 := B1.out.alloc (by omega) (.cells #[.slice A1 m c1] 25)
  have hC2 : (w1.alloc (.cells #[.slice A1 m c1] 25)).cell? ⟨bb, 0, none⟩ = some (.slice A1 m c1) := by rw [← hbb]; exact cell_new _ _ _
  have hS2 : (w1.alloc (.cells #[.slice A1 m c1] 25)).heap.size = bb + 1 := by simp [hbb]
  have hA1 : ∀ gA, A1 = some ⟨gA, 0, none⟩ → gA < bb := fun gA h => by subst h; have := (OwnV.ltH O1.out).2; omega
  rw [hbb]
  generalize w1.alloc (.cells #[.slice A1 m c1] 25) = w2 at *
  have O2 : Shut _ := ⟨hO2⟩
  have B2 : Shut _ := ⟨hB2⟩
  have C2 : Shut _ := ⟨hC2⟩
  have S2 : Shut _ := ⟨hS2⟩
  have HA1 : Shut _ := ⟨hA1⟩
  have HM : Shut _ := ⟨hmm⟩
  have hz2 : w.heap.size ≤ w2.heap.size := B2.out.size
  clear hO2 hB2 hC2 hS2 hA1 hmm hbb O1 B1
  go_loopg [6, 7] (n + 1) (fun g v6 v7 wr => ∃ (k : Nat) (Ao : Option Addr) (co : Nat), n - k < g ∧ k ≤ n ∧ v6 = .slice Ao (inN L xs (k + 1)).length co ∧ v7 = .int .i64 (k : Int) ∧ Shut (k = 0 ∨ letB xs (k - 1) = false ∨ letB xs k = false) ∧ Shut (Own wr w2.heap.size 3 .i64 Ao (inN L xs (k + 1)).length co (inN L xs (k + 1))) ∧ Shut (Below w2.heap.size w2 wr))
  case atStart => exact ⟨0, none, 0, by omega, by omega, by rw [inN_one (ptB_two L)]; rfl, rfl, ⟨.inl rfl⟩, ⟨by rw [inN_one (ptB_two L)]; exact Own.nil _ _ _ _⟩, ⟨Below.refl _ _⟩⟩
  case round =>
    obtain ⟨k, Ao, co, hg, hk, rfl, rfl, BD, OO, BE⟩ := hrel
    have hwz : w2.heap.size ≤ wr.heap.size := BE.out.size
    have BW : Shut (Below w.heap.size w wr) := ⟨B2.out.trans (BE.out.mono hz2)⟩
    have hsl := inN_len L xs (k + 1)
    by_cases hlt : k < n
    · have HXr := HX.out.pass BW.out
      obtain ⟨g1, g2⟩ := bounds_i32 (HX.out.nth_wf hlt)
      obtain ⟨ad, hA, hab, hcx⟩ := HXr.at_.2 (by omega)
      subst hA
      have hc := hcx k hlt
      have CL : Shut _ := ⟨letter_any (nth xs k) g1 g2 wr (HL.out.pass BW.out)⟩
      have SS : Shut _ := ⟨inN_succ L xs (k + 1)⟩
      have HY : Shut (k + 1 < n → nth xs k = 173 → hitB xs (k + 1) = true) := ⟨fun h1 h2 => hit_yes (by rw [HLEN.out]; exact h1) h2⟩
      have HN : Shut (nth xs k ≠ 173 → hitB xs (k + 1) = false) := ⟨fun h2 => hit_no h2⟩
      have HE : Shut (n ≤ k + 1 → hitB xs (k + 1) = false) := ⟨fun h => hit_end (by rw [HLEN.out]; exact h)⟩
      clear hcx HXr
      cases hw : (wdOf (nth xs k) == 1) with
      | false =>
        rw [hw] at CL
        have LN : Shut (letB xs k = false) := ⟨letB_no hw⟩
        have SG : Shut (inHit L xs (k + 1) = hitB xs (k + 1)) := ⟨inHit_sign (ptB_two L) LN.out⟩
        obtain ⟨r, hr⟩ : ∃ r, nth xs k = r := ⟨_, rfl⟩
        rw [hr] at hc CL HY HN
        obtain ⟨l, hl⟩ : ∃ l, (inN L xs (k + 1)).length = l := ⟨_, rfl⟩
        rw [hl] at OO hsl ⊢
        have HLL : Shut _ := ⟨hl⟩
        have ek : (k : Int) + 1 - 1 = (k : Int) := by omega
        clear hw g1 g2 hl hr
        go_wp2_with fail
        refine CL.out.mono ?_
        rintro e w3 ⟨rfl, b3⟩
        have B3 : Shut _ := ⟨BE.out.trans (b3.mono hwz)⟩
        have O3 : Shut _ := ⟨Own.pass OO.out b3⟩
        have hc3 := cell_pass hc b3
        have hz3 := b3.size
        clear b3 hc
        go_upto_region 7 with fail
        go_cut [36] (fun v wx => v = .bool (hitB xs (k + 1)) ∧ wx = w3)
        case first =>
          by_cases hr : r = 173
          · subst hr
            by_cases hk2 : k + 1 < n
            · have E : Shut _ := ⟨HY.out hk2 rfl⟩
              have i2 : (k : Int) + 1 < (n : Int) := by omega
              go_wp2_with fail
              go_meet
              exact ⟨by rw [E.out], rfl⟩
            · have E : Shut _ := ⟨HE.out (by omega)⟩
              have i2 : decide ((k : Int) + 1 < (n : Int)) = false := by simp; omega
              clear hk2
              go_wp2_with fail
              go_meet
              exact ⟨by rw [E.out], rfl⟩
          · have E : Shut _ := ⟨HN.out hr⟩
            have hb : ((r : Int) == 173) = false := by simpa using hr
            clear hr
            go_wp2_with fail
            go_meet
            exact ⟨by rw [E.out], rfl⟩
        case rest =>
          obtain ⟨rfl, rfl⟩ := hcut
          cases hh : hitB xs (k + 1) with
          | false =>
            have SN : Shut (inN L xs (k + 1 + 1) = inN L xs (k + 1)) := ⟨by rw [SS.out, if_neg (by rw [SG.out, hh]; simp)]⟩
            clear hh
            go_wp2_with fail
            go_roundg (n - k)
            case measure => omega
            case rel => exact ⟨k + 1, Ao, co, by omega, by omega, by rw [SN.out, HLL.out], by go_num, ⟨.inr (.inl LN.out)⟩, ⟨by rw [SN.out, HLL.out]; exact O3.out⟩, B3⟩
          | true =>
            have SN : Shut (inN L xs (k + 1 + 1) = inN L xs (k + 1) ++ [((k + 1 : Nat) : Int)]) := ⟨by rw [SS.out, if_pos (by rw [SG.out]; exact hh)]⟩
            have hzz := B3.out.size
            clear hh
            go_wp2_with (at_builtin; refine wpList_push TI64n rfl (.tmp 37) (.tmp 39) rfl rfl (Own.alloc O3.out _) rfl (cell_new _ _ _) (by omega) (by simp; omega) ?_; intro A4 c4 w4 o4 b4; have O4 : Shut _ := ⟨o4⟩; have B4 : Shut _ := ⟨b4⟩; clear o4 b4)
            go_roundg (n - k)
            case measure => omega
            case rel =>
              have e1 : (inN L xs (k + 1) ++ [((k + 1 : Nat) : Int)]).length = l + 1 := by simp [HLL.out]
              exact ⟨k + 1, A4, c4, by omega, by omega, by rw [SN.out, e1], by go_num, ⟨.inr (.inl LN.out)⟩, ⟨by rw [SN.out, e1]; exact O4.out⟩, ⟨(B3.out.alloc hzz _).trans B4.out⟩⟩
      | true =>
        rw [hw] at CL
        have HW : Shut _ := ⟨hw⟩
        clear hw SS HY HN HE
        go_wp2_with fail
        refine CL.out.mono ?_
        rintro e w3 ⟨rfl, b3⟩
        have B3 : Shut (Below w2.heap.size w2 w3) := ⟨BE.out.trans (b3.mono hwz)⟩
        have O3 : Shut _ := ⟨Own.pass OO.out b3⟩
        have hz3 : w2.heap.size ≤ w3.heap.size := B3.out.size
        clear b3 hc g1 g2 CL BW
        have FST : Shut (k = 0 ∨ letB xs (k - 1) = false) := ⟨by
          rcases BD.out with h | h | h
          · exact .inl h
          · exact .inr h
          · rw [letB_yes (by rw [HLEN.out]; exact hlt) HW.out] at h; cases h⟩
        go_upto_block 2 with fail
        go_cut [7] (fun v wx => ∃ j : Nat, k < j ∧ j ≤ n ∧ v = .int .i64 (j : Int) ∧ Shut (Run xs k j) ∧ Shut (Below w3.heap.size w3 wx))
        case first =>
          go_wp2_with fail
          go_loopg [7] (n + 1) (fun g v wr => ∃ j : Nat, n - j < g ∧ k ≤ j ∧ j ≤ n ∧ v = .int .i64 (j : Int) ∧ Shut (∀ i, k ≤ i → i < j → letB xs i = true) ∧ Shut (Below w3.heap.size w3 wr))
          case atStart => exact ⟨k, by omega, by omega, by omega, rfl, ⟨fun i h1 h2 => by omega⟩, ⟨Below.refl _ _⟩⟩
          case round =>
            obtain ⟨j, hg2, hkj, hjn, rfl, SJ, BJ⟩ := hrel
            by_cases hj : j < n
            · have BW : Shut (Below w.heap.size w wr) := ⟨B2.out.trans ((B3.out.trans (BJ.out.mono hz3)).mono hz2)⟩
              have HXr := HX.out.pass BW.out
              obtain ⟨g1, g2⟩ := bounds_i32 (HX.out.nth_wf hj)
              obtain ⟨ad2, hA2, hab2, hcx2⟩ := HXr.at_.2 (by omega)
              obtain rfl : ad = ad2 := by injection hA2
              have hc := hcx2 j hj
              have CL : Shut _ := ⟨letter_any (nth xs j) g1 g2 wr (HL.out.pass BW.out)⟩
              have i1 : (j : Int) < (n : Int) := by omega
              have hzj := BJ.out.size
              cases hw : (wdOf (nth xs j) == 1) with
              | true =>
                have SN : Shut (∀ i, k ≤ i → i < j + 1 → letB xs i = true) := ⟨fun i h1 h2 => by
                  rcases Nat.lt_or_ge i j with h3 | h3
                  · exact SJ.out i h1 h3
                  · obtain rfl : i = j := by omega
                    exact letB_yes (by rw [HLEN.out]; exact hj) hw⟩
                rw [hw] at CL
                generalize nth xs j = r at *
                clear hw hcx2 HXr g1 g2 hA2
                go_wp2_with fail
                refine CL.out.mono ?_
                rintro e w4 ⟨rfl, b4⟩
                have B4 : Shut _ := ⟨BJ.out.trans (b4.mono hzj)⟩
                clear b4
                go_wp2_with fail
                go_roundg (n - j)
                case measure => omega
                case rel => exact ⟨j + 1, by omega, by omega, by omega, by go_num, SN, B4⟩
              | false =>
                have hkj2 : k < j := by
                  rcases Nat.eq_or_lt_of_le hkj with h | h
                  · subst h
                    rw [HW.out] at hw
                    cases hw
                  · exact h
                have RN : Shut (Run xs k j) := ⟨⟨hkj, FST.out, SJ.out, letB_no hw⟩⟩
                rw [hw] at CL
                generalize nth xs j = r at *
                clear hw hcx2 HXr g1 g2 hA2
                go_wp2_with fail
                refine CL.out.mono ?_
                rintro e w4 ⟨rfl, b4⟩
                have B4 : Shut _ := ⟨BJ.out.trans (b4.mono hzj)⟩
                clear b4
                go_wp2_with fail
                go_meet
                exact ⟨j, hkj2, hjn, rfl, RN, B4⟩
            · have i1 : decide (j < n) = false := by simp; omega
              obtain rfl : j = n := by omega
              have RN : Shut (Run xs k j) := ⟨⟨hkj, FST.out, SJ.out, letB_end (by rw [HLEN.out]; exact Nat.le_refl _)⟩⟩
              go_wp2_with fail
              go_meet
              exact ⟨j, hlt, hjn, rfl, RN, BJ⟩
        case rest =>
          obtain ⟨j, hkj, hjn, rfl, RN, BJ⟩ := hcut
          obtain ⟨A5, c5, CR⟩ := cut_lh TI32d (some ad) n c k j (by omega) hjn HX.out.le (k : Int) (j : Int) rfl rfl
          have hrun := CR.run
          have O5 : Shut _ := ⟨Own.pass O3.out BJ.out⟩
          have B5 : Shut (Below w2.heap.size w2 wc) := ⟨B3.out.trans (BJ.out.mono hz3)⟩
          have BW5 : Shut (Below w.heap.size w wc) := ⟨B2.out.trans (B5.out.mono hz2)⟩
          have PP : Shut _ := ⟨ppoints_any wc B b0 N L HLP.out node kids (HTR.out.pass BW5.out) A5 (j - k) c5 _ (CR.sliceIn (HX.out.pass BW5.out)) (by omega)⟩
          have hseg : ((xs.take j).drop k).length = j - k := by rw [List.length_drop, List.length_take, HLEN.out]; omega
          have HSEG : Shut _ := ⟨hseg⟩
          obtain ⟨l0, hl0⟩ : ∃ l0, (inN L xs (k + 1)).length = l0 := ⟨_, rfl⟩
          rw [hl0] at O5 hsl ⊢
          have HL0 : Shut _ := ⟨hl0⟩
          clear CR hseg hl0
          go_wp2_with fail
          refine PP.out.mono ?_
          rintro e w6 ⟨pts, hpp, hpl, A6, c6, rfl, own6, b6⟩
          have hz5 := B5.out.size
          have WN : Shut (inN L xs (j + 1) = inN L xs (k + 1) ++ pts.map (fun p => (k : Int) + p)) := ⟨by
            rw [inN_word (ptB_two L) let_soft RN.out hkj, wordN_pts (by omega) (by rw [HLEN.out]; exact hjn) hpp]⟩
          have PE : Shut (∀ q, q < pts.length → 0 ≤ nth pts q ∧ nth pts q ≤ 1000) := ⟨fun q hq => by
            obtain ⟨h1, h2, _⟩ := points_each hpp hq
            rw [HSEG.out] at h2
            omega⟩
          rw [HSEG.out] at hpl
          have B6 : Shut (Below w2.heap.size w2 w6) := ⟨B5.out.trans (b6.mono hz5)⟩
          have O6 : Shut (Own w6 w2.heap.size 3 .i64 Ao l0 co (inN L xs (k + 1))) := ⟨Own.pass O5.out b6⟩
          have OP : Shut _ := ⟨own6⟩
          have hz6 := b6.size
          have hAlt : Shut (∀ gq, Ao = some ⟨gq, 0, none⟩ → gq < wc.heap.size) := ⟨fun gq h => by subst h; exact (OwnV.ltH O5.out).2⟩
          clear own6 b6 hpp PP
          go_wp2_with fail
          have HGK : Shut (n - k < gk) := ⟨hg⟩
          have R0 : Shut (InRel L xs k pts w2 w6 wc.heap.size Ao l0 co A6 c6 0) := ⟨⟨by simpa using O6.out, OP.out, fun gq h1 h2 => by
            subst h2
            have e1 := hAlt.out gq h1
            have e2 := (OwnV.ltH OP.out).1
            omega, B6.out⟩⟩
          obtain ⟨wcs, hwcs⟩ : ∃ wcs, wc.heap.size = wcs := ⟨_, rfl⟩
          rw [hwcs] at R0
          clear hg O6 OP hAlt O5 hwcs
          go_loopg [6, 10, 62] (pts.length + 1) (fun gg v6 v10 v62 wr => ∃ (q : Nat) (A7 : Option Addr) (c7 : Nat), pts.length - q < gg ∧ q ≤ pts.length ∧ v6 = .slice A7 (l0 + q) c7 ∧ v62 = .int .i64 (q : Int) ∧ Shut (InRel L xs k pts w2 wr wcs A7 l0 c7 A6 c6 q))
          case atStart => exact ⟨0, Ao, co, by omega, by omega, rfl, rfl, R0⟩
          case round =>
            obtain ⟨q, A7, c7, hg3, hq, rfl, rfl, I⟩ := hrel
            have hzi := I.out.be.size
            by_cases hlq : q < pts.length
            · obtain ⟨gp, rfl, _⟩ := OwnV.form I.out.op (by omega)
              have e1 := own_cellN I.out.op hlq
              obtain ⟨x0, x9⟩ := PE.out q hlq
              have MS : Shut _ := ⟨map_snoc (k := (k : Int)) hlq⟩
              generalize nth pts q = x at *
              go_wp2_with (at_builtin; refine wpList_pushAt TI64n rfl (.tmp 66) (.tmp 70) rfl rfl (Own.alloc I.out.out _) rfl (cell_new _ _ _) (by omega) (by simp; omega) ?_; intro A8 c8 w8 o8 b8 g8 a8)
              have hI2 : Shut (InRel L xs k pts w2 w8 wcs A8 l0 c8 (some ⟨gp, 0, none⟩) c6 (q + 1)) := ⟨⟨by
                rw [MS.out, ← List.append_assoc]; exact o8, OwnV.kept (Own.alloc I.out.op _) g8 I.out.ap.symm (OwnV.headC I.out.out), Apart.grow (w := wr.alloc (.cells #[.int .i64 ((k : Int) + x)] 3)) I.out.ap (fun g' hg' => by have := (OwnV.ltH I.out.op).2; injection hg' with h1; injection h1 with h1; subst h1; simp; omega) a8, (I.out.be.alloc hzi _).trans b8⟩⟩
              clear o8 b8 g8 a8
              go_roundg (pts.length - q)
              case measure => omega
              case rel => exact ⟨q + 1, A8, c8, by omega, by omega, rfl, by go_num, hI2⟩
            · obtain rfl : q = pts.length := by omega
              have hoo := I.out.out
              rw [List.take_length, ← WN.out] at hoo
              have HOO2 : Shut _ := ⟨hoo⟩
              have HLL2 : Shut ((inN L xs (j + 1)).length = l0 + pts.length) := ⟨by rw [WN.out, List.length_append, List.length_map, HL0.out]⟩
              clear hoo hlq
              go_wp2_with fail
              go_roundg (n - k)
              case measure => have := HGK.out; omega
              case rel => exact ⟨j, A7, c7, by omega, hjn, by rw [HLL2.out], rfl, ⟨.inr (.inr RN.out.stop)⟩, ⟨by rw [HLL2.out]; exact HOO2.out⟩, ⟨I.out.be⟩⟩
    · obtain rfl : k = n := by omega
      have HOO : Shut (∀ r, Ao = some ⟨r, 0, none⟩ → w2.heap.size ≤ r) := ⟨fun r h => by subst h; exact (OwnV.ltH OO.out).1⟩
      have RB := bndA_Rise K
      have hbm : bounds K = (bndA K).map Int.ofNat := bounds_map K
      have hfil : (inN L xs (k + 1)).filter (fun x => !(!inB (bndA K) x)) = allIn L xs K := by
        have h1 := in_keepB L xs K
        rw [HLEN.out] at h1
        rw [← h1]
        apply List.filter_congr
        intro x hx
        obtain ⟨h2, h3⟩ := inN_mem hx
        rw [Bool.not_not, in_keep (by omega) (by rw [KL.out]; omega)]
      have T0 : ∀ W : World, Below w2.heap.size w2 W → Tells Tryd.prog 17 #[.pointer (some ⟨bb, 0, none⟩)] (fun x => !inB (bndA K) x) W := fun W hW x => by
        have hb2 : bb < w2.heap.size := by rw [S2.out]; exact Nat.lt_succ_self _
        have := inClo_any x bb A1 m c1 (bndA K) RB W ((hW.cell (p := ⟨bb, 0, none⟩) hb2).trans C2.out) (by rw [← hbm]; exact Own.ints (Own.pass O2.out hW)) (by omega)
        exact this
      have TO : ∀ r, Ao = some ⟨r, 0, none⟩ → TellsOver Tryd.prog 17 #[.pointer (some ⟨bb, 0, none⟩)] (fun x => !inB (bndA K) x) wr r := fun r hr W h1 h2 x => by
        have hrr := HOO.out r hr
        have hb2 : bb < w2.heap.size := by rw [S2.out]; exact Nat.lt_succ_self _
        have hcell : ∀ p : Addr, p.block < w2.heap.size → W.cell? p = w2.cell? p := fun p hp => by
          rw [← BE.out.cell hp]
          exact cell_of_heap (h2 p.block (by omega) (by omega))
        have hI : IntsAt W W.heap.size .i64 A1 m (bounds K) := ((Own.ints O2.out).keep hcell).more (by omega)
        exact inClo_any x bb A1 m c1 (bndA K) RB W ((hcell ⟨bb, 0, none⟩ hb2).trans C2.out) (by rw [← hbm]; exact hI) (by omega)
      have CD : Shut _ := ⟨del_any 17 ⟨bb, 0, none⟩ (fun x => !inB (bndA K) x) Ao (inN L xs (k + 1)).length co (inN L xs (k + 1)) w2.heap.size wr OO.out (by omega) (enters_of Tryd.func17 (by kernel_rfl) rfl) (T0 wr BE.out) TO⟩
      rw [hfil] at CD
      clear T0 TO hfil hbm RB
      go_wp2_with fail
      refine CD.out.mono ?_
      rintro e w9 ⟨A9, c9, rfl, o9, b9⟩
      have O9 : Shut _ := ⟨OwnV.lowN o9 hz2⟩
      have B9 : Shut _ := ⟨BW.out.trans (b9.mono hz2)⟩
      clear o9 b9
      go_wp2_with fail
      go_ret
      exact ⟨A9, c9, rfl, O9.out, B9.out⟩
end Go.Proofs.YtgianjnccpbnaaaDoor
