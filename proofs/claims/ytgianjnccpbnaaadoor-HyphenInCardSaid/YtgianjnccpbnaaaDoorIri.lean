/- Chapter 20: the reference's In. -/
import Derived.Test.YtgianjnccpbnaaaDoorNri
import Derived.Test.YtgianjnccpbnaaaDoorIin
import Derived.Test.YtgianjnccpbnaaaDoorHptr
namespace Go.Proofs.YtgianjnccpbnaaaDoor
open Go.ChangeShapes Go.WideShapes Go.ChangeAt Go.RowKit
set_option maxRecDepth 100000
set_option linter.unusedSimpArgs false

/-- the marks of the places up to n -/
def markV (f : Nat → Bool) (n : Nat) : List Value := (List.range (n + 1)).map fun m => .bool (f m)
theorem markV_at {f : Nat → Bool} {n j : Nat} (h : j < n + 1) : (markV f n)[j]? = some (.bool (f j)) := by
  simp [markV, h]
theorem markV_set (f : Nat → Bool) (n j : Nat) : (markV f n).set j (.bool true) = markV (fun m => f m || m == j) n := by
  apply List.ext_getElem?
  intro m
  by_cases hm : m < n + 1
  · rw [List.getElem?_set, markV_at hm, markV_at hm]
    by_cases he : j = m
    · subst he
      rw [if_pos rfl, if_pos (by simpa [markV] using hm)]; simp
    · rw [if_neg he]
      have : (m == j) = false := by simpa using Ne.symm he
      rw [this, Bool.or_false]
  · rw [List.getElem?_eq_none (by simp [markV]; omega), List.getElem?_eq_none (by simp [markV]; omega)]
theorem markV_congr {f g : Nat → Bool} {n : Nat} (h : ∀ m, m ≤ n → f m = g m) : markV f n = markV g n := by
  unfold markV
  apply List.map_congr_left
  intro m hm
  rw [h m (by have := List.mem_range.1 hm; omega)]
theorem hits_mark (L : List Pat) {xs : List Int} {n : Nat} (h : xs.length = n) : hitsV xs n = markV (markB L xs 0) n := by
  unfold hitsV markV
  rw [h]
  apply List.map_congr_left
  intro m hm
  have := List.mem_range.1 hm
  rw [markB_zero, show decide (m ≤ n) = true by simp; omega, Bool.true_and]
/-- the marks, q places of the word from a on among them -/
noncomputable def midB (L : List Pat) (xs : List Int) (a : Nat) (pts : List Int) (q m : Nat) : Bool := markB L xs a m || (pts.take q).contains ((m : Int) - a)
theorem midB_zero (L : List Pat) (xs : List Int) (a : Nat) (pts : List Int) (m : Nat) : midB L xs a pts 0 m = markB L xs a m := by simp [midB]
theorem midB_succ {L : List Pat} {xs : List Int} {a : Nat} {pts : List Int} {q x : Nat} (hq : q < pts.length) (hx : (a : Int) + nth pts q = (x : Int)) (m : Nat) : midB L xs a pts (q + 1) m = (midB L xs a pts q m || m == x) := by
  unfold midB
  rw [List.take_succ_eq_append_getElem hq, ← nth_eq hq, Bool.or_assoc]
  congr 1
  rw [Bool.eq_iff_iff]
  simp only [List.contains_iff_mem, List.mem_append, List.mem_singleton, Bool.or_eq_true, beq_iff_eq]
  constructor
  · rintro (h | h)
    · exact .inl h
    · right; omega
  · rintro (h | h)
    · exact .inl h
    · right; omega
theorem midB_all {L : List Pat} {xs : List Int} {a b : Nat} (h : Run xs a b) (hb : b ≤ xs.length) {pts : List Int} (hp : Points L ((xs.take b).drop a) pts) (m : Nat) : midB L xs a pts pts.length m = markB L xs (b + 1) m := by
  unfold midB
  rw [List.take_length, markB_run h]
  congr 1
  obtain ⟨h1, _⟩ := ptB_points hp
  have hl : ((xs.take b).drop a).length = b - a := by rw [List.length_drop, List.length_take]; omega
  rw [hl] at h1
  have hab := h.le
  rw [Bool.eq_iff_iff, List.contains_iff_mem]
  conv => lhs; rw [h1]
  rw [List.mem_map, Bool.and_eq_true, decide_eq_true_eq]
  constructor
  · rintro ⟨p, hp2, he⟩
    obtain ⟨h2, h3⟩ := List.mem_filter.1 hp2
    have h4 := List.mem_range.1 h2
    have he' : (p : Int) = (m : Int) - (a : Int) := he
    have : m - a = p := by omega
    exact ⟨by omega, by rw [this]; exact h3⟩
  · rintro ⟨h2, h3⟩
    refine ⟨m - a, List.mem_filter.2 ⟨List.mem_range.2 (by omega), h3⟩, ?_⟩
    show ((m - a : Nat) : Int) = _
    omega
set_option maxHeartbeats 8000000 in
theorem rin_any (w : World) (B : Nat) (Ap : Option Addr) (cp : Nat) (L : List Pat) (rs : List (Value × Value)) (hL : PatsOk L) (hP : PatsAt w B Ap cp L rs) (hLl : L.length ≤ 1000) (hLs : ∀ p ∈ L, p.1.length ≤ 1000) (A : Option Addr) (n c : Nat) (xs : List Int) (hx : SliceIn .i32 w A n c xs) (hn : n ≤ 1000) :
    Calls Tryd.prog 7 #[.slice Ap L.length cp, .slice A n c] w (NewInts w 3 .i64 (allIn L xs (ks xs)).length (allIn L xs (ks xs))) := by
  have HPT : Shut _ := ⟨hP⟩
  have HLP : Shut _ := ⟨hL⟩
  have HLS : Shut _ := ⟨hLs⟩
  clear hP hL hLs
  have HX : Shut _ := ⟨hx⟩
  have HLEN : Shut (xs.length = n) := ⟨hx.at_.len⟩
  have KL : Shut ((ks xs).length = n) := ⟨(ks_len xs).trans hx.at_.len⟩
  have CB : Shut (∀ W, Below w.heap.size w W → _) := ⟨fun W hW => rbounds_any A n c xs W (hx.pass hW) (by omega)⟩
  have zz : Shut ((Tryd.prog.info? 4).map (·.zero) = some (some (.bool false))) := ⟨by kernel_rfl⟩
  clear hx
  generalize ks xs = K at *
  go_enter Tryd.func7, Tryd.ntmps7
  go_wp2_with (refine wpList_makeVs TBn zz.out rfl rfl (.tmp 16) (.tmp 16) rfl (n + 1) rfl rfl (by go_num) (by go_num) (by omega) w.heap.size (Nat.le_refl _) ?_; intro gh w1 o1 b1; have O1 : Shut _ := ⟨o1⟩; have B1 : Shut _ := ⟨b1⟩; clear o1 b1)
  go_loopg [6] (n + 1) (fun g v wr => ∃ k : Nat, n - k < g ∧ k ≤ n ∧ v = .int .i64 (k : Int) ∧ Shut (OwnV wr w.heap.size 4 1 (some ⟨gh, 0, none⟩) (n + 1) (n + 1) (hitsV xs k)) ∧ Shut (Below w.heap.size w wr))
  case atStart => exact ⟨0, by omega, by omega, rfl, ⟨by rw [← hitsV_zero, HLEN.out]; exact O1.out⟩, B1⟩
  case round =>
    obtain ⟨k, hg, hk, rfl, OH, BE⟩ := hrel
    have hwz : w.heap.size ≤ wr.heap.size := BE.out.size
    by_cases hlt : k < n
    · have HXr := HX.out.pass BE.out
      obtain ⟨ad, hA, hab, hcx⟩ := HXr.at_.2 (by omega)
      subst hA
      have hc := hcx k hlt
      have HY : Shut (k + 1 < n → nth xs k = 173 → hitB xs (k + 1) = true) := ⟨fun h1 h2 => hit_yes (by rw [HLEN.out]; exact h1) h2⟩
      have HN : Shut (nth xs k ≠ 173 → hitB xs (k + 1) = false) := ⟨fun h2 => hit_no h2⟩
      have HE : Shut (n ≤ k + 1 → hitB xs (k + 1) = false) := ⟨fun h => hit_end (by rw [HLEN.out]; exact h)⟩
      generalize nth xs k = r at *
      have i1 : (k : Int) < (n : Int) := by omega
      clear hcx HXr
      go_upto_region 5 with fail
      go_cut [35] (fun v wx => v = .bool (hitB xs (k + 1)) ∧ wx = wr)
      case first =>
        by_cases hr : r = 173
        · subst hr
          by_cases hk2 : k + 1 < n
          · have E : Shut _ := ⟨HY.out hk2 rfl⟩
            have i2 : (k : Int) + 1 < (n : Int) := by omega
            go_wp2_with fail
            go_meet
            exact ⟨by rw [E.out], rfl⟩
          · have E : Shut _ := ⟨HE.out (by omega)⟩
            have i2 : decide ((k : Int) + 1 < (n : Int)) = false := by simp; omega
            clear hk2
            go_wp2_with fail
            go_meet
            exact ⟨by rw [E.out], rfl⟩
        · have E : Shut _ := ⟨HN.out hr⟩
          have hb : ((r : Int) == 173) = false := by simpa using hr
          clear hr
          go_wp2_with fail
          go_meet
          exact ⟨by rw [E.out], rfl⟩
      case rest =>
        obtain ⟨rfl, rfl⟩ := hcut
        cases hh : hitB xs (k + 1) with
        | false =>
          have HV : Shut _ := ⟨hitsV_no hh⟩
          clear hh
          go_wp2_with fail
          go_roundg (n - k)
          case measure => omega
          case rel => exact ⟨k + 1, by omega, by omega, by go_num, ⟨by rw [HV.out]; exact OH.out⟩, BE⟩
        | true =>
          have HV : Shut _ := ⟨hitsV_yes hh (by rw [HLEN.out]; omega)⟩
          have hgh := (OwnV.ltH OH.out).1
          have hfr := OwnV.frozenAt OH.out (k + 1)
          have hci := OwnV.cellAt OH.out (k + 1) (by omega)
          rw [hitsV_at (by rw [HLEN.out]; omega)] at hci
          have OH2 : Shut _ := ⟨OwnV.setV OH.out (k + 1) (.bool true)⟩
          have BE2 : Shut _ := ⟨Below.setCell BE.out (p := ⟨gh, k + 1, none⟩) hgh (.bool true)⟩
          have i3 : (k : Int) + 1 < (n : Int) + 1 := by omega
          clear hh
          go_wp2_with fail
          go_roundg (n - k)
          case measure => omega
          case rel => exact ⟨k + 1, by omega, by omega, by go_num, ⟨by rw [HV.out]; exact OH2.out⟩, BE2⟩
    · obtain rfl : k = n := by omega
      have OM : Shut _ := ⟨OH.out⟩
      rw [hits_mark L HLEN.out] at OM
      go_wp2_with fail
      go_loopg [7] (k + 2) (fun g v wr => ∃ a : Nat, k + 1 - a < g ∧ a ≤ k + 1 ∧ v = .int .i64 (a : Int) ∧ Shut (a = 0 ∨ letB xs (a - 1) = false) ∧ Shut (OwnV wr w.heap.size 4 1 (some ⟨gh, 0, none⟩) (k + 1) (k + 1) (markV (markB L xs a) k)) ∧ Shut (Below w.heap.size w wr))
      case atStart => exact ⟨0, by omega, by omega, rfl, ⟨.inl rfl⟩, OM, BE⟩
      case round =>
        obtain ⟨a, hg2, ha, rfl, BD, OA, BA⟩ := hrel
        have hwa : w.heap.size ≤ wr.heap.size := BA.out.size
        by_cases hlt2 : a < k
        · have i1 : (a : Int) < (k : Int) := by omega
          obtain ⟨wi, rfl⟩ : ∃ wi : World, wi = wr := ⟨_, rfl⟩
          go_upto_block 4 with fail
          go_cut [8] (fun v wx => ∃ j : Nat, a ≤ j ∧ j ≤ k ∧ v = .int .i64 (j : Int) ∧ Shut (Run xs a j) ∧ Shut (Below wi.heap.size wi wx))
          case first =>
            go_wp2_with fail
            go_loopg [8] (k + 1) (fun g v wr => ∃ j : Nat, k - j < g ∧ a ≤ j ∧ j ≤ k ∧ v = .int .i64 (j : Int) ∧ Shut (∀ i, a ≤ i → i < j → letB xs i = true) ∧ Shut (Below wi.heap.size wi wr))
            case atStart => exact ⟨a, by omega, by omega, by omega, rfl, ⟨fun i h1 h2 => by omega⟩, ⟨Below.refl _ _⟩⟩
            case round =>
              obtain ⟨j, hg3, haj, hjk, rfl, SJ, BJ⟩ := hrel
              have BW : Shut (Below w.heap.size w wr) := ⟨BA.out.trans (BJ.out.mono hwa)⟩
              by_cases hj : j < k
              · have HXr := HX.out.pass BW.out
                obtain ⟨g1, g2⟩ := bounds_i32 (HX.out.nth_wf hj)
                obtain ⟨ad2, hA2, hab2, hcx2⟩ := HXr.at_.2 (by omega)
                subst hA2
                have hc := hcx2 j hj
                have CL : Shut _ := ⟨rOf_lit (nth xs j) g1 g2 wr⟩
                have hw0 : (propOf (nth xs j)).word = wdOf (nth xs j) := rfl
                rw [hw0] at CL
                have i2 : (j : Int) < (k : Int) := by omega
                have hzj := BJ.out.size
                have LY : Shut ((wdOf (nth xs j) == 1) = true → ∀ i, a ≤ i → i < j + 1 → letB xs i = true) := ⟨fun hw i h1 h2 => by
                  rcases Nat.lt_or_ge i j with h3 | h3
                  · exact SJ.out i h1 h3
                  · obtain rfl : i = j := by omega
                    exact letB_yes (by rw [HLEN.out]; exact hj) hw⟩
                have LN : Shut ((wdOf (nth xs j) == 1) = false → Run xs a j) := ⟨fun hw => ⟨haj, BD.out, SJ.out, letB_no hw⟩⟩
                generalize nth xs j = r at *
                cases hw : (wdOf r == 1) with
                | true =>
                  have SN : Shut _ := ⟨LY.out hw⟩
                  clear LY LN
                  generalize wdOf r = q at *
                  clear hcx2 HXr g1 g2 hw0
                  go_wp2_with fail
                  refine CL.out.mono ?_
                  rintro e w4 ⟨rfl, b4⟩
                  have B4 : Shut _ := ⟨BJ.out.trans (b4.mono hzj)⟩
                  clear b4
                  go_wp2_with fail
                  go_roundg (k - j)
                  case measure => omega
                  case rel => exact ⟨j + 1, by omega, by omega, by omega, by go_num, SN, B4⟩
                | false =>
                  have RN : Shut _ := ⟨LN.out hw⟩
                  clear LY LN
                  generalize wdOf r = q at *
                  clear hcx2 HXr g1 g2 hw0
                  go_wp2_with fail
                  refine CL.out.mono ?_
                  rintro e w4 ⟨rfl, b4⟩
                  have B4 : Shut _ := ⟨BJ.out.trans (b4.mono hzj)⟩
                  clear b4
                  go_wp2_with fail
                  go_meet
                  exact ⟨j, haj, hjk, rfl, RN, B4⟩
              · have i1 : decide (j < k) = false := by simp; omega
                obtain rfl : j = k := by omega
                have RN : Shut (Run xs a j) := ⟨⟨haj, BD.out, SJ.out, letB_end (by rw [HLEN.out]; exact Nat.le_refl _)⟩⟩
                go_wp2_with fail
                go_meet
                exact ⟨j, haj, hjk, rfl, RN, BJ⟩
          case rest =>
            obtain ⟨j, haj, hjk, rfl, RN, BJ⟩ := hcut
            have BW : Shut (Below w.heap.size w wc) := ⟨BA.out.trans (BJ.out.mono hwa)⟩
            obtain ⟨A5, c5, CR⟩ := cut_lh TI32d A k c a j haj hjk HX.out.le (a : Int) (j : Int) rfl rfl
            have hrun := CR.run
            have CP : Shut _ := ⟨rpoints20_any wc B Ap cp L rs HLP.out (HPT.out.pass BW.out) hLl HLS.out A5 (j - a) c5 _ (CR.sliceIn (HX.out.pass BW.out)) (by omega)⟩
            have hseg : ((xs.take j).drop a).length = j - a := by rw [List.length_drop, List.length_take, HLEN.out]; omega
            have HSEG : Shut _ := ⟨hseg⟩
            have hzc := BJ.out.size
            have hzw := BW.out.size
            have OA5 : Shut _ := ⟨OwnV.pass OA.out BJ.out⟩
            have HG2 : Shut (k + 1 - a < gk) := ⟨hg2⟩
            clear CR hseg hg2
            go_wp2_with fail
            refine CP.out.mono ?_
            rintro e w6 ⟨pts, hpp, hpl, A6, c6, rfl, own6, b6⟩
            have PE : Shut (∀ q, q < pts.length → 0 ≤ nth pts q ∧ (a : Int) + nth pts q ≤ k) := ⟨fun q hq => by
              obtain ⟨h1, h2, _⟩ := points_each hpp hq
              rw [HSEG.out] at h2
              omega⟩
            have PPT : Shut _ := ⟨hpp⟩
            rw [HSEG.out] at hpl
            have O6 : Shut (OwnV w6 w.heap.size 4 1 (some ⟨gh, 0, none⟩) (k + 1) (k + 1) (markV (midB L xs a pts 0) k)) := ⟨by
              rw [markV_congr (g := markB L xs a) (fun m _ => midB_zero L xs a pts m)]; exact OwnV.pass OA5.out b6⟩
            have OP : Shut _ := ⟨own6⟩
            have B6 : Shut (Below w.heap.size w w6) := ⟨BW.out.trans (b6.mono hzw)⟩
            clear own6 b6 hpp CP OA5
            go_wp2_with fail
            go_loopg [10] (pts.length + 1) (fun g v wr => ∃ q : Nat, pts.length - q < g ∧ q ≤ pts.length ∧ v = .int .i64 (q : Int) ∧ Shut (OwnV wr w.heap.size 4 1 (some ⟨gh, 0, none⟩) (k + 1) (k + 1) (markV (midB L xs a pts q) k)) ∧ Shut (Own wr wc.heap.size 3 .i64 A6 pts.length c6 pts) ∧ Shut (Below w.heap.size w wr))
            case atStart => exact ⟨0, by omega, by omega, rfl, O6, OP, B6⟩
            case round =>
              obtain ⟨q, hg3, hq, rfl, OQ, OPq, BQ⟩ := hrel
              by_cases hlq : q < pts.length
              · obtain ⟨gp, rfl, _⟩ := OwnV.form OPq.out (by omega)
                have e1 := own_cellN OPq.out hlq
                obtain ⟨x0, x9⟩ := PE.out q hlq
                obtain ⟨x, hx⟩ : ∃ x : Nat, (a : Int) + nth pts q = (x : Int) := ⟨((a : Int) + nth pts q).toNat, by omega⟩
                have hxk : x < k + 1 := by omega
                have SET : Shut ((markV (midB L xs a pts q) k).set x (.bool true) = markV (midB L xs a pts (q + 1)) k) := ⟨by
                  rw [markV_set]
                  exact markV_congr fun m _ => (midB_succ hlq hx m).symm⟩
                have hfr := OwnV.frozenAt OQ.out x
                have hci := OwnV.cellAt OQ.out x (by omega)
                rw [markV_at (by omega)] at hci
                have hgh := (OwnV.ltH OQ.out).1
                have hne := own_apartN OPq.out OQ.out (by decide)
                have OQ2 : Shut _ := ⟨OwnV.setV OQ.out x (.bool true)⟩
                rw [SET.out] at OQ2
                have OP2 : Shut _ := ⟨Own.far OPq.out (g := gh) (j := x) hne (.bool true)⟩
                have BQ2 : Shut _ := ⟨Below.setCell BQ.out (p := ⟨gh, x, none⟩) hgh (.bool true)⟩
                have i3 : (x : Int) < (k : Int) + 1 := by omega
                generalize nth pts q = y at *
                generalize midB L xs a pts q x = bq at hci
                clear hne
                go_wp2_with fail
                go_roundg (pts.length - q)
                case measure => omega
                case rel => exact ⟨q + 1, by omega, by omega, by go_num, OQ2, OP2, BQ2⟩
              · obtain rfl : q = pts.length := by omega
                have OE : Shut _ := ⟨OQ.out⟩
                rw [markV_congr (g := markB L xs (j + 1)) (fun m _ => midB_all RN.out (by rw [HLEN.out]; exact hjk) PPT.out m)] at OE
                clear hlq
                go_wp2_with fail
                go_roundg (k + 1 - a)
                case measure => exact HG2.out
                case rel => exact ⟨j + 1, by omega, by omega, by go_num, ⟨.inr RN.out.stop⟩, OE, BQ⟩
        · have i1 : ¬ ((a : Int) < (k : Int)) := by omega
          have BW : Shut (Below w.heap.size w wr) := ⟨BA.out⟩
          have CBr : Shut _ := ⟨CB.out wr BW.out⟩
          have OH2 : Shut _ := ⟨OA.out⟩
          rw [markV_congr (g := inHit L xs) (fun m _ => markB_all (by rw [HLEN.out]; omega))] at OH2
          clear CB
          go_wp2_with fail
          refine CBr.out.mono ?_
          rintro e w7 ⟨Ab, cb, rfl, o7, b7⟩
          have B7 : Shut (Below w.heap.size w w7) := ⟨BW.out.trans (b7.mono BW.out.size)⟩
          have O7 : Shut _ := ⟨o7⟩
          have O8 : Shut _ := ⟨OwnV.pass OH2.out b7⟩
          have hml : (bounds K).length = (bndA K).length := by rw [bounds_map]; simp
          have hm : (bndA K).length ≤ k + 1 := by have := bndN_len K (K.length + 1); rw [KL.out] at this; unfold bndA; rw [KL.out]; exact this
          obtain ⟨m, hmm⟩ : ∃ m, (bndA K).length = m := ⟨_, rfl⟩
          rw [hmm] at hm hml O7 ⊢
          have HM : Shut _ := ⟨hml⟩
          have BK : Shut ((bounds K).filter (fun x => inHit L xs x.toNat) = allIn L xs K) := ⟨bnds_in L xs K (by rw [KL.out, HLEN.out])⟩
          clear o7 b7 hmm hml
          go_wp2_with fail
          obtain ⟨wi, rfl⟩ : ∃ wi : World, wi = wr := ⟨_, rfl⟩
          go_loopg [12, 13] (m + 1) (fun g v12 v13 wr => ∃ (q : Nat) (A2 : Option Addr) (c2 : Nat), m - q < g ∧ q ≤ m ∧ v13 = .int .i64 (q : Int) ∧ v12 = .slice A2 (((bounds K).take q).filter (fun x => inHit L xs x.toNat)).length c2 ∧
            Shut (Own wr w7.heap.size 3 .i64 A2 (((bounds K).take q).filter (fun x => inHit L xs x.toNat)).length c2 (((bounds K).take q).filter (fun x => inHit L xs x.toNat))) ∧ Shut (Below w7.heap.size w7 wr))
          case atStart => exact ⟨0, none, 0, by omega, by omega, rfl, rfl, ⟨Own.nil _ _ _ _⟩, ⟨Below.refl _ _⟩⟩
          case round =>
            obtain ⟨q, A2, c2, hg4, hq, rfl, rfl, OQ, BQ⟩ := hrel
            have hlq : (((bounds K).take q).filter (fun x => inHit L xs x.toNat)).length ≤ q := Nat.le_trans (List.length_filter_le _ _) (List.length_take_le _ _)
            have hzq : w7.heap.size ≤ wr.heap.size := BQ.out.size
            by_cases hlt4 : q < m
            · obtain ⟨x, hx1, hx2⟩ := bound_in (K := K) (k := q) (by rw [HM.out]; exact hlt4)
              rw [KL.out] at hx2
              have KT : Shut _ := ⟨keep_take (fun x => inHit L xs x.toNat) (zs := bounds K) (k := q) (by rw [HM.out]; exact hlt4)⟩
              rw [hx1] at KT
              have OB7 := Own.pass O7.out BQ.out
              have OH7 := OwnV.pass O8.out BQ.out
              obtain ⟨gb, rfl, _, _⟩ := OwnV.form OB7 (by omega)
              have hc1 := own_cellN OB7 hlt4
              rw [hx1] at hc1
              have hc2 := OwnV.cellAt OH7 x (by omega)
              rw [markV_at (by omega)] at hc2
              have i2 : (q : Int) < (m : Int) := by omega
              have i3 : (x : Int) < (k : Int) + 1 := by omega
              obtain ⟨LL, hL⟩ : ∃ LL, (((bounds K).take q).filter (fun x => inHit L xs x.toNat)) = LL := ⟨_, rfl⟩
              rw [hL] at KT OQ hlq ⊢
              clear hL hx1 OB7 OH7
              cases hh : inHit L xs x with
              | false =>
                rw [hh] at hc2
                have KT2 : Shut (((bounds K).take (q + 1)).filter (fun x => inHit L xs x.toNat) = LL) := ⟨by rw [KT.out, if_neg (by rw [Int.toNat_natCast, hh]; simp), List.append_nil]⟩
                clear hh
                go_wp2_with fail
                go_roundg (m - q)
                case measure => omega
                case rel => exact ⟨q + 1, A2, c2, by omega, by omega, by go_num, by rw [KT2.out], ⟨by rw [KT2.out]; exact OQ.out⟩, BQ⟩
              | true =>
                rw [hh] at hc2
                have KT2 : Shut (((bounds K).take (q + 1)).filter (fun x => inHit L xs x.toNat) = LL ++ [(x : Int)]) := ⟨by rw [KT.out, if_pos (by rw [Int.toNat_natCast, hh])]⟩
                obtain ⟨l, hl⟩ : ∃ l, LL.length = l := ⟨_, rfl⟩
                rw [hl] at OQ hlq ⊢
                have HL : Shut _ := ⟨hl⟩
                clear hh hl
                go_wp2_with (at_builtin; refine wpList_push TI64n rfl (.tmp 97) (.tmp 102) rfl rfl (Own.alloc OQ.out _) rfl (cell_new _ _ _) (by omega) (by simp; omega) ?_; intro A4 c4 w4 o4 b4; have O4 : Shut _ := ⟨o4⟩; have B4 : Shut _ := ⟨b4⟩; clear o4 b4)
                go_roundg (m - q)
                case measure => omega
                case rel =>
                  have e1 : (LL ++ [(x : Int)]).length = l + 1 := by simp [HL.out]
                  exact ⟨q + 1, A4, c4, by omega, by omega, by go_num, by rw [KT2.out, e1], ⟨by rw [KT2.out, e1]; exact O4.out⟩, ⟨(BQ.out.alloc hzq _).trans B4.out⟩⟩
            · obtain rfl : q = m := by omega
              have hfull : ((bounds K).take q).filter (fun x => inHit L xs x.toNat) = allIn L xs K := by rw [List.take_of_length_le (by rw [HM.out]; exact Nat.le_refl _)]; exact BK.out
              rw [hfull] at OQ ⊢
              have O9 : Shut _ := ⟨OwnV.lowN OQ.out B7.out.size⟩
              have B9 : Shut _ := ⟨B7.out.trans (BQ.out.mono B7.out.size)⟩
              clear hfull
              go_wp2_with fail
              go_ret
              exact ⟨A2, c2, rfl, O9.out, B9.out⟩
end Go.Proofs.YtgianjnccpbnaaaDoor
