/- Chapter 45: the reference's Put. -/
import Derived.Test.YteedngkbcbojjaaBp
namespace Go.Proofs.Yteedngkbcbojjaa
open Go.ChangeShapes Go.WideShapes Go.ChangeAt Go.RowKit
set_option maxRecDepth 100000
set_option linter.unusedSimpArgs false

theorem shR_in {bs : List BoxD} {o : List Int} {tail n : Nat} (hn : bs.length = n) (hn2 : n ≤ 40) (ht : tail ≤ n) (hw : WdIn bs) (od : Bool) {x : Int} (h1 : -1073741824 ≤ x) (h2 : x ≤ 1073741824) : ∀ j, j ≤ n →
    -137438953472 ≤ shR bs o tail od x j ∧ shR bs o tail od x j ≤ 137438953472
  | 0, _ => by
    have a := preS_in (o := o) hw n
    simp only [shR]
    rw [hn]
    split <;> omega
  | j + 1, hj => by
    have ih := shR_in (o := o) hn hn2 ht hw od h1 h2 j (by omega)
    have a := preS_in (o := o) hw j
    have b := preS_in (o := o) hw (j + 1)
    have c := wideN_in hw tail
    simp only [shR]
    split
    · split
      · omega
      · split <;> omega
    · exact ih
set_option maxHeartbeats 16000000 in
theorem rput_any (A : Option Addr) (n c : Nat) (bs : List BoxD) (tail : Nat) (base x : Int) (w : World) (hx : BoxesAt w w.heap.size A n bs) (hn : n ≤ 40) (ht : tail ≤ n) (hc : n ≤ c) (hw : WdIn bs) (hg : ∀ j, GxIn (bnth bs j).gs) (hx1 : -1073741824 ≤ x) (hx2 : x ≤ 1073741824) :
    Calls Try.prog 7 #[.slice A n c, .int .i64 (tail : Int), .int .i64 base, .int .i64 x] w fun e w' =>
      ∃ (A2 : Option Addr) (c2 : Nat) (ps : List BoxM), e = .returned (.slice A2 n c2) ∧ OwnB w' w.heap.size A2 c2 ps ∧ ps.map (·.1) = putL bs (ordB bs) (shiftP bs (ordB bs) tail (oddB base) x) n ∧ Below w.heap.size w w' := by
  have HX : Shut _ := ⟨hx⟩
  have HW : Shut _ := ⟨hw⟩
  have HGX : Shut _ := ⟨hg⟩
  have HN : Shut (bs.length = n) := ⟨hx.1⟩
  have OR : Shut (IsOrd (ordB bs) n) := ⟨ordB_ord hx.1⟩
  have OC : Shut _ := ⟨rorder_any A n c bs w hx (by omega)⟩
  have SI : Shut (∀ j, j ≤ n → _) := ⟨fun j hj => shR_in (o := ordB bs) hx.1 hn ht hw (oddB base) hx1 hx2 j hj⟩
  have SS : Shut (shR bs (ordB bs) tail (oddB base) x n = shiftP bs (ordB bs) tail (oddB base) x) := ⟨shift_same hx.1 (ordB_ord hx.1) ht _ _⟩
  have CU := cut_boxes TBox A n c tail ht hc
  have S0 : Shut (shR bs (ordB bs) tail (oddB base) x 0 = if oddB base = true then x - preS bs (ordB bs) n else x) := ⟨by simp only [shR]; rw [hx.1]⟩
  generalize ordB bs = o at *
  clear hx hw hg
  go_enter Try.func7, Try.ntmps7
  go_wp2_with fail
  refine OC.out.mono ?_
  rintro e w1 ⟨O, oc, rfl, o1, b1⟩
  have B1 : Shut (Below w.heap.size w w1) := ⟨b1⟩
  have O1 : Shut (IntsAt w1 w1.heap.size .i64 O n o) := ⟨o1.ints⟩
  clear o1 b1 OC
  have hs1 := B1.out.size
  go_wp2_with (refine wpList_makeInts TIv zeroInt rfl (.tmp 24) (.tmp 24) rfl n rfl rfl rfl rfl (by omega) w1.heap.size (Nat.le_refl _) ?_; intro g w2 o2 b2; have L2 : Shut _ := ⟨o2⟩; have B2 : Shut _ := ⟨b2⟩; clear o2 b2)
  go_loopg [11, 12] (n + 1) (fun gg v11 v12 wr => ∃ (j : Nat) (ls : List Int), n - j < gg ∧ j ≤ n ∧ v11 = .int .i64 (preS bs o j) ∧ v12 = .int .i64 (j : Int) ∧ Shut (Own wr w1.heap.size 3 .i64 (some ⟨g, 0, none⟩) n n ls) ∧ Shut (∀ q, q < j → nth ls (ordN o q) = preS bs o q) ∧ Shut (Below w1.heap.size w1 wr))
  case atStart => exact ⟨0, _, by omega, by omega, rfl, rfl, L2, ⟨fun q hq => by omega⟩, B2⟩
  case round =>
    obtain ⟨j, ls, hgg, hj, rfl, rfl, OL, LS, BE⟩ := hrel
    clear L2 B2
    by_cases hlt : j < n
    · obtain ⟨ao, rfl, _, hco⟩ := (O1.out.later BE.out).2 (by omega)
      obtain ⟨y, hy⟩ : ∃ y : Nat, nth o j = (y : Int) := ⟨(nth o j).toNat, by have := OR.out.ge j hlt; omega⟩
      have hyn : y < n := by have := OR.out.lt j hlt; omega
      have eo : ordN o j = y := by unfold ordN; omega
      have k1 := hco j hlt
      rw [hy] at k1
      have SB : Shut (Below w1.heap.size w1 (wr.setCell ⟨g, y, none⟩ (.int .i64 (preS bs o j)))) := ⟨Below.setCell BE.out (p := ⟨g, y, none⟩) (OwnV.ltH OL.out).1 _⟩
      have BWn : Below w.heap.size w (wr.setCell ⟨g, y, none⟩ (.int .i64 (preS bs o j))) := B1.out.trans (SB.out.mono hs1)
      obtain ⟨ad, rfl, _, hcb⟩ := (HX.out.later BWn).2 (by omega)
      obtain ⟨G, gc, ⟨_, _, _, _, a4, _⟩, _⟩ := bdx (hcb y hyn)
      have k1n := ((O1.out.later SB.out).2 (by omega)).choose_spec
      obtain ⟨ao2, e2, _, hco2⟩ := (O1.out.later SB.out).2 (by omega)
      obtain rfl : ao = ao2 := by injection e2
      have k2 := hco2 j hlt
      rw [hy] at k2
      obtain ⟨u, hu⟩ : ∃ u, wr.cell? ⟨g, y, none⟩ = some u := ⟨_, own_cellH OL.out hyn⟩
      have f1 := OwnV.frozenAt OL.out y
      have OLN : Shut (Own (wr.setCell ⟨g, y, none⟩ (.int .i64 (preS bs o j))) w1.heap.size 3 .i64 (some ⟨g, 0, none⟩) n n (ls.set y (preS bs o j))) := ⟨Own.set_ OL.out y _⟩
      have LSN : Shut (∀ q, q < j + 1 → nth (ls.set y (preS bs o j)) (ordN o q) = preS bs o q) := ⟨fun q hq => by
        rw [nth_set _ _ _ _ (by rw [OL.out.len]; exact hyn)]
        by_cases e : q = j
        · subst e; rw [if_pos eo.symm]
        · rw [if_neg (fun h => e (OR.out.inj q j (by omega) hlt (by unfold ordN at eo h; omega)))]
          exact LS.out q (by omega)⟩
      have EP : Shut (preS bs o (j + 1) = preS bs o j + (bnth bs y).wd) := ⟨by show _ + _ = _; rw [eo]⟩
      have h1 := preS_in (o := o) HW.out j
      have h3 := HW.out y
      have j1 : (j : Int) < (n : Int) := by omega
      have y0 : (0 : Int) ≤ (y : Int) := by omega
      have y1 : (y : Int) < (n : Int) := by omega
      generalize (bnth bs y).wd = wd at *
      generalize preS bs o j = S at *
      clear hco hco2 hcb hy eo k1n e2 BWn CU
      go_wp2_with fail
      go_roundg (n - j)
      case measure => omega
      case rel => exact ⟨j + 1, _, by omega, by omega, iv EP.out.symm, by go_num, OLN, LSN, SB⟩
    · have hjn : n = j := by omega
      subst hjn
      obtain ⟨wa, rfl⟩ : ∃ wa : World, wa = wr := ⟨_, rfl⟩
      have LA : Shut (IntsAt wa wa.heap.size .i64 (some ⟨g, 0, none⟩) n ls) := ⟨OL.out.ints⟩
      have OA : Shut (IntsAt wa wa.heap.size .i64 O n o) := ⟨O1.out.later BE.out⟩
      have BA : Shut (Below w.heap.size w wa) := ⟨B1.out.trans (BE.out.mono hs1)⟩
      have hsa := BA.out.size
      have h1 := preS_in (o := o) HW.out n
      clear hlt hgg hj OL O1 BE
      go_upto_if 52 with fail
      go_cut [13] (fun v wx => v = .int .i64 (shR bs o tail (oddB base) x 0) ∧ wx = wa)
      case first =>
        cases hod : (base.tmod 2 != 0) with
        | true =>
          have E : Shut (shR bs o tail (oddB base) x 0 = x - preS bs o n) := ⟨by rw [S0.out]; unfold oddB; rw [hod]; rfl⟩
          generalize preS bs o n = S at *
          clear S0
          go_wp2_with fail
          go_meet
          exact ⟨iv E.out.symm, rfl⟩
        | false =>
          have E : Shut (shR bs o tail (oddB base) x 0 = x) := ⟨by rw [S0.out]; unfold oddB; rw [hod]; rfl⟩
          clear S0
          go_wp2_with fail
          go_meet
          exact ⟨iv E.out.symm, rfl⟩
      case rest =>
        obtain ⟨rfl, rfl⟩ := hcut
        clear S0 h1
        go_wp2_with fail
        go_loopg [13, 14, 15, 16] (n + 1) (fun gg v13 v14 v15 _ wr => ∃ j : Nat, n - j < gg ∧ j ≤ n ∧ v13 = .int .i64 (shR bs o tail (oddB base) x j) ∧ v14 = .bool (oddB base || noneT o tail j) ∧ v15 = .int .i64 (j : Int) ∧ Shut (Below wc.heap.size wc wr))
        case atStart => exact ⟨0, by omega, by omega, rfl, bv (by simp [noneT]), rfl, ⟨Below.refl _ _⟩⟩
        case round =>
          obtain ⟨j, hgg, hj, rfl, rfl, rfl, BE⟩ := hrel
          by_cases hlt : j < n
          · obtain ⟨ao, rfl, _, hco⟩ := (OA.out.later BE.out).2 (by omega)
            obtain ⟨y, hy⟩ : ∃ y : Nat, nth o j = (y : Int) := ⟨(nth o j).toNat, by have := OR.out.ge j hlt; omega⟩
            have hyn : y < n := by have := OR.out.lt j hlt; omega
            have eo : ordN o j = y := by unfold ordN; omega
            have k1 := hco j hlt
            rw [hy] at k1
            obtain ⟨al, el, _, hcl⟩ := (LA.out.later BE.out).2 (by omega)
            obtain rfl : (⟨g, 0, none⟩ : Addr) = al := by injection el
            have k3 := hcl y hyn
            have k4 : nth ls y = preS bs o j := by rw [← eo]; exact LS.out j hlt
            rw [k4, add_zero_at] at k3
            obtain ⟨ad, rfl, _, hcb⟩ := (HX.out.later (BA.out.trans (BE.out.mono hsa))).2 (by omega)
            obtain ⟨G, gc, ⟨_, _, _, _, a4, _⟩, _⟩ := bdx (hcb y hyn)
            have WD : Shut (∀ W, Below wr.heap.size wr W → _) := ⟨fun W hW => wide_any (some ad) tail c (bs.take tail) W ((HX.out.later ((BA.out.trans (BE.out.mono hsa)).trans (hW.mono (by have := BA.out.size; have := BE.out.size; omega)))).take ht) (by omega) (HW.out.take tail)⟩
            rw [wideN_take bs tail tail (Nat.le_refl _)] at WD
            have ES : Shut (shR bs o tail (oddB base) x (j + 1) = if y < tail then (if oddB base = true then x + wideN bs tail - preS bs o (j + 1) else if noneT o tail j = true then x - preS bs o j else shR bs o tail (oddB base) x j) else shR bs o tail (oddB base) x j) := ⟨by simp only [shR]; rw [eo]⟩
            have EN : Shut (noneT o tail (j + 1) = (noneT o tail j && !decide (y < tail))) := ⟨by simp only [noneT]; rw [eo]⟩
            have EP : Shut (preS bs o (j + 1) = preS bs o j + (bnth bs y).wd) := ⟨by show _ + _ = _; rw [eo]⟩
            have h1 := preS_in (o := o) HW.out j
            have h2 := SI.out j hj
            have h3 := HW.out y
            have h4 := wideN_in HW.out tail
            have j1 : (j : Int) < (n : Int) := by omega
            have y0 : (0 : Int) ≤ (y : Int) := by omega
            have y1 : (y : Int) < (n : Int) := by omega
            have y2 : y ≤ 40 := by omega
            have hob : Shut (oddB base = (base.tmod 2 != 0)) := ⟨rfl⟩
            generalize oddB base = od at *
            generalize shR bs o tail od x j = R at *
            generalize noneT o tail j = N at *
            generalize (bnth bs y).wd = wd at *
            generalize preS bs o j = S at *
            generalize wideN bs tail = W at *
            clear hco hcl hcb hy eo el k4 hlt
            by_cases ht1 : y < tail
            · have t1 : (y : Int) < (tail : Int) := by omega
              cases hod : (base.tmod 2 != 0) with
              | true =>
                have hod2 : (base.tmod 2 == 0) = false := by simpa [bne] using hod
                have e1 : od = true := by rw [hob.out, hod]
                subst e1
                have E : Shut (shR bs o tail true x (j + 1) = x + W - S - wd) := ⟨by rw [ES.out, if_pos ht1, if_pos rfl, EP.out]; omega⟩
                clear ES EP
                go_wp2_with fail
                have k3L := later_cell k3
                have a4L := later_cell a4
                have WL := Lib.hid (fun N : Later wr => WD.out N.1 N.2)
                clear k3 a4 k1
                refine wp_region_later (by kernel_rfl) (by kernel_rfl) ?_
                repeat (go_big_quiet_step ((go_at_call 15; with_reducible exact quiet_later ((WL.out _).mono fun e w' ⟨he, hw⟩ => ⟨he, hw ▸ Below.refl _ _⟩))))
                refine wpQuiet_nil ?_
                intro _ hw'
                obtain ⟨nq, hw''⟩ := hw'
                subst hw''
                go_wp2_with fail
                go_roundg (n - j)
                case measure => omega
                case rel => exact ⟨j + 1, by omega, by omega, iv E.out.symm, bv (by simp), by go_num, ⟨BE.out.trans (nq.2.mono BE.out.size)⟩⟩
              | false =>
                have hod2 : (base.tmod 2 == 0) = true := by simpa [bne] using hod
                have e1 : od = false := by rw [hob.out, hod]
                subst e1
                cases hN : N with
                | true =>
                  have E : Shut (shR bs o tail false x (j + 1) = x - S) := ⟨by rw [ES.out, if_pos ht1, if_neg (by decide), if_pos hN]⟩
                  rw [hN] at EN
                  clear ES EP hN
                  go_wp2_with fail
                  go_roundg (n - j)
                  case measure => omega
                  case rel => exact ⟨j + 1, by omega, by omega, iv E.out.symm, bv (by rw [EN.out]; simp [ht1]), by go_num, BE⟩
                | false =>
                  have E : Shut (shR bs o tail false x (j + 1) = R) := ⟨by rw [ES.out, if_pos ht1, if_neg (by decide), if_neg (by rw [hN]; decide)]⟩
                  rw [hN] at EN
                  clear ES EP hN
                  go_wp2_with fail
                  go_roundg (n - j)
                  case measure => omega
                  case rel => exact ⟨j + 1, by omega, by omega, iv E.out.symm, bv (by rw [EN.out]; simp), by go_num, BE⟩
            · have t1 : decide ((y : Int) < (tail : Int)) = false := by simp; omega
              have t2 : decide (y < tail) = false := by simp; omega
              have E : Shut (shR bs o tail od x (j + 1) = R) := ⟨by rw [ES.out, if_neg ht1]⟩
              have EN2 : Shut (noneT o tail (j + 1) = N) := ⟨by rw [EN.out, t2]; simp⟩
              clear ES EP EN ht1
              go_wp2_with fail
              go_roundg (n - j)
              case measure => omega
              case rel => exact ⟨j + 1, by omega, by omega, iv E.out.symm, bv (by rw [EN2.out]), by go_num, BE⟩
          · have hjn : n = j := by omega
            subst hjn
            have hSH := SI.out n (Nat.le_refl _)
            rw [SS.out] at hSH
            rw [SS.out]
            generalize hE : shiftP bs o tail (oddB base) x = SH at *
            have SHE : Shut (shiftP bs o tail (oddB base) x = SH) := ⟨hE⟩
            have SIN : Shut _ := ⟨hSH⟩
            obtain ⟨wb, rfl⟩ : ∃ wb : World, wb = wr := ⟨_, rfl⟩
            have LB : Shut (IntsAt wb wb.heap.size .i64 (some ⟨g, 0, none⟩) n ls) := ⟨LA.out.later BE.out⟩
            have OB0 : Shut (IntsAt wb wb.heap.size .i64 O n o) := ⟨OA.out.later BE.out⟩
            have BB : Shut (Below w.heap.size w wb) := ⟨BA.out.trans (BE.out.mono hsa)⟩
            have hsb := BB.out.size
            clear hlt hgg hj hE hSH SI SS LA OA BA BE CU hsa
            go_wp2_with fail
            go_loopg [17, 18, 19, 20] (n + 1) (fun gg v17 v18 _ _ wr => ∃ (j : Nat) (A' : Option Addr) (c' : Nat) (ps : List BoxM), n - j < gg ∧ j ≤ n ∧ v17 = .slice A' j c' ∧ v18 = .int .i64 (j : Int) ∧ Shut (OwnB wr wb.heap.size A' c' ps) ∧ Shut (ps.map (·.1) = putL bs o SH j) ∧ Shut (Below wb.heap.size wb wr))
            case atStart => exact ⟨0, none, 0, [], by omega, by omega, rfl, rfl, ⟨OwnB.nil _ _⟩, ⟨rfl⟩, ⟨Below.refl _ _⟩⟩
            case round =>
              obtain ⟨j, A', c', ps, hgg, hj, rfl, rfl, OB, PE, BE⟩ := hrel
              have BW : Shut (Below w.heap.size w wr) := ⟨BB.out.trans (BE.out.mono hsb)⟩
              have hlen : ps.length = j := by have := congrArg List.length PE.out; simpa [putL_len] using this
              by_cases hlt : j < n
              · obtain ⟨ao, rfl, _, hco⟩ := (OB0.out.later BE.out).2 (by omega)
                obtain ⟨y, hy⟩ : ∃ y : Nat, nth o j = (y : Int) := ⟨(nth o j).toNat, by have := OR.out.ge j hlt; omega⟩
                have hyn : y < n := by have := OR.out.lt j hlt; omega
                have eo : ordN o j = y := by unfold ordN; omega
                have k1 := hco j hlt
                rw [hy] at k1
                obtain ⟨al, el, _, hcl⟩ := (LB.out.later BE.out).2 (by omega)
                obtain rfl : (⟨g, 0, none⟩ : Addr) = al := by injection el
                have k3 := hcl y hyn
                have k4 : nth ls y = preS bs o j := by rw [← eo]; exact LS.out j hlt
                rw [k4, add_zero_at] at k3
                obtain ⟨ad, rfl, _, hcb⟩ := (HX.out.later BW.out).2 (by omega)
                obtain ⟨G, gc, ⟨a0, a1, a2, a3, a4, a5⟩, hP⟩ := bdx (hcb y hyn)
                have EL : Shut (putL bs o SH (j + 1) = putL bs o SH j ++ [putB (bnth bs y) (preS bs o j + SH)]) := ⟨by rw [putL_succ, eo, Int.add_comm]⟩
                have h1 := preS_in (o := o) HW.out j
                have hSH := SIN.out
                have HGY : Shut _ := ⟨HGX.out y⟩
                generalize preS bs o j = S at *
                generalize bnth bs y = b at *
                obtain ⟨gn, hgn⟩ : ∃ gn, b.gs.length = gn := ⟨_, rfl⟩
                have HGN : Shut (b.gs.length = gn) := ⟨hgn⟩
                rw [hgn] at a5 hP
                have k1n := cell_alloc k1 (.cells #[.int .i64 b.f, .int .i64 b.t, .int .i64 b.lv, .int .i64 0, .int .i64 b.wd, .slice G gn gc] 37)
                have k3n := cell_alloc k3 (.cells #[.int .i64 b.f, .int .i64 b.t, .int .i64 b.lv, .int .i64 0, .int .i64 b.wd, .slice G gn gc] 37)
                have MV : Shut _ := ⟨moved_any b.f b.t b.lv 0 b.wd G gn gc b.gs (S + SH) (S + SH) (wr.alloc (.cells #[.int .i64 b.f, .int .i64 b.t, .int .i64 b.lv, .int .i64 0, .int .i64 b.wd, .slice G gn gc] 37)) (hP.later ((below_alloc wr _).mono (Nat.le_refl _)) (by simp)) HGY.out (by omega) (by omega) (by omega) (by omega)⟩
                rw [Int.zero_add] at MV
                have j1 : (j : Int) < (n : Int) := by omega
                have y0 : (0 : Int) ≤ (y : Int) := by omega
                have y1 : (y : Int) < (n : Int) := by omega
                have hsw := BE.out.size
                clear hco hcl hcb hy eo el k4 hgn hP
                go_wp2_with fail
                refine MV.out.mono ?_
                rintro e w5 ⟨G2, c2, rfl, o5, b5⟩
                have OG : Shut _ := ⟨o5⟩
                have B5 : Shut (Below wr.heap.size wr w5) := ⟨(below_alloc wr _).trans (b5.mono (by simp))⟩
                have hs5 := B5.out.size
                have OB3 : Shut (OwnB w5 wb.heap.size A' c' ps) := ⟨OB.out.pass B5.out⟩
                have OR3 : Shut (OwnV w5 wb.heap.size 37 6 A' j c' (ps.flatMap boxC)) := ⟨by have := OB3.out.row; rwa [hlen] at this⟩
                have PC : Shut (boxC (putB b (S + SH), G2, c2) = [.int .i64 b.f, .int .i64 b.t, .int .i64 b.lv, .int .i64 (S + SH), .int .i64 b.wd, .slice G2 gn c2]) := ⟨by unfold boxC putB; simp [HGN.out]⟩
                have PG : Shut (OwnG (w5.alloc (.cells #[.int .i64 b.f, .int .i64 b.t, .int .i64 b.lv, .int .i64 (S + SH), .int .i64 b.wd, .slice G2 gn c2] 37)) wb.heap.size G2 c2 (putB b (S + SH)).gs) := ⟨OwnV.alloc (OwnV.weakB OG.out (by simp; omega)) _⟩
                clear o5 b5 MV k1 k3 k1n k3n a0 a1 a2 a3 a4 a5 h1
                go_wp2_with (at_builtin; refine wpList_pushVAt TBox rfl (.tmp 131) (.tmp 136) rfl rfl (OwnV.alloc OR3.out _) rfl (news := [.int .i64 b.f, .int .i64 b.t, .int .i64 b.lv, .int .i64 (S + SH), .int .i64 b.wd, .slice G2 gn c2]) rfl (cells6_new _ _ _ _ _ _ _ _ _ (by simp)) (by rw [← PC.out]; exact boxC_one _) (by omega) (by simp; omega) ?_; intro A4 c4 w4 o4 b4 g4 _; have O4 : Shut _ := ⟨o4⟩; have B4 : Shut _ := ⟨b4⟩; have G4 : Shut _ := ⟨g4⟩; clear o4 b4 g4)
                have OBN : Shut (OwnB w4 wb.heap.size A4 c4 (ps ++ [(putB b (S + SH), G2, c2)])) := ⟨(OB3.out.pass (below_alloc _ _)).push (by rw [hlen, PC.out]; exact O4.out) (by rw [hlen]; exact G4.out) PG.out⟩
                have PEN : Shut ((ps ++ [(putB b (S + SH), G2, c2)]).map (·.1) = putL bs o SH (j + 1)) := ⟨by rw [EL.out, ← PE.out, List.map_append]; rfl⟩
                have BEN : Shut (Below wb.heap.size wb w4) := ⟨((BE.out.trans (B5.out.mono hsw)).alloc (by omega) _).trans B4.out⟩
                go_roundg (n - j)
                case measure => omega
                case rel => exact ⟨j + 1, A4, c4, _, by omega, by omega, rfl, by go_num, OBN, PEN, BEN⟩
              · have hjn : n = j := by omega
                subst hjn
                clear hlt hgg hj
                go_wp2_with fail
                go_ret
                exact ⟨A', c', ps, rfl, OB.out.weakB hsb, by rw [SHE.out]; exact PE.out, BW.out⟩
end Go.Proofs.Yteedngkbcbojjaa
