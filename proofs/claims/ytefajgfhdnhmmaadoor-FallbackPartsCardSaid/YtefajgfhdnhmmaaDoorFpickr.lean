/- Chapter 23: the font that is picked, by the reference. -/
import Derived.Test.YtefajgfhdnhmmaaDoorFpick
namespace Go.Proofs.YtefajgfhdnhmmaaDoor
open Go.ChangeShapes Go.WideShapes Go.ChangeAt Go.RowKit
set_option maxRecDepth 100000
set_option linter.unusedSimpArgs false

set_option maxHeartbeats 8000000 in
theorem rpick_any (A : Option Addr) (n c : Nat) (fs : List Fd) (pre : Int) (A2 : Option Addr) (n2 c2 : Nat) (xs : List Int) (ahead : Int) (w : World) (hF : FontsAt w w.heap.size A n fs) (hx : SliceIn .i32 w A2 n2 c2 xs) (hm : ∀ j, j < n → (fnth fs j).mn ≤ 140737488355328) (hn2 : n2 ≤ 140737488355328) (hn : n ≤ 140737488355328) :
    Calls Tryd.prog 68 #[.slice A n c, .int .i64 pre, .slice A2 n2 c2, .int .i64 ahead] w fun e w' => e = .returned (.int .i64 (pickV fs pre xs ahead)) ∧ Below w.heap.size w w' := by
  have HF := Lib.hid hF
  have HX := Lib.hid hx
  have HN := Lib.hid hF.1
  have HM := Lib.hid hm
  have HLEN := Lib.hid hx.at_.len
  have HAS := Lib.hid (fun j (hj : j < n) w' (hb' : Below w.heap.size w w') => rhas_any (fnth fs j).em (fnth fs j).G (fnth fs j).gn (fnth fs j).gc (fnth fs j).M (fnth fs j).mn (fnth fs j).mc (fnth fs j).ms (fnth fs j).L (fnth fs j).ln (fnth fs j).lc (fnth fs j).F (fnth fs j).fn (fnth fs j).fc (fnth fs j).S (fnth fs j).sn (fnth fs j).sc A2 n2 c2 xs w' ((HF.out.later hb').maps hj) (HX.out.pass hb') (HM.out j hj) hn2)
  have OP := Lib.hid (fun w' => is_any A n c pre w')
  clear hF hx hm
  have HB0 := Lib.hid (Below.refl w.heap.size w)
  go_enter Tryd.func68, Tryd.ntmps68
  cases hp : isB n pre
  · rw [hp] at OP
    have FIRST := Lib.hid (show (isB fs.length pre && fHas fs xs pre.toNat) = false by rw [HN.out, hp]; rfl)
    go_wp2_with fail
    refine (OP.out _).mono ?_
    rintro e w1 ⟨rfl, hb1⟩
    have HB1 := Lib.hid (plain_step HB0.out hb1)
    clear hb1
    skip
    go_wp2_with fail
    go_loopw [9] (fun v wr => ∃ j : Nat, j ≤ n ∧ v = .int .i64 j ∧ (∀ i, i < j → fHas fs xs i = false) ∧ Below w.heap.size w wr) (fun v _ => n - (intOf v).toNat)
    case atStart => exact ⟨0, Nat.zero_le _, rfl, fun i h => by omega, HB1.out⟩
    case round =>
      obtain ⟨j, hj, rfl, hall, hb⟩ := hrel
      have ALL := Lib.hid hall
      have HB := Lib.hid hb
      clear hall
      skip
      by_cases hlt : j < n
      · have HA := Lib.hid (fun w' hb' => HAS.out j hlt w' hb')
        obtain ⟨ad1, ha, hcs⟩ := (HF.out.below (id hb)).cells hlt
        cases ha
        obtain ⟨y0, y1, y2, y3, y4, y5⟩ := fdx hcs
        cases hh : hasB (fnth fs j).ms xs
        all_goals rw [hh] at HA
        all_goals have HH := Lib.hid hh
        all_goals clear hh hcs hb
        · go_wp2_with fail
          refine (HA.out _ HB.out).mono ?_
          rintro e w3 ⟨rfl, hv⟩
          have HB3 := Lib.hid (plain_step HB.out hv)
          clear hv
          go_wp2_with fail
          go_roundw
          case rel => exact ⟨j + 1, by omega, by go_num, fun i hi => (Nat.lt_or_ge i j).elim (fun h => ALL.out i h) (fun h => by rw [show i = j by omega]; exact HH.out), HB3.out⟩
          case measure => simp [intOf] <;> omega
        · go_wp2_with fail
          refine (HA.out _ HB.out).mono ?_
          rintro e w3 ⟨rfl, hv⟩
          have HB3 := Lib.hid (plain_step HB.out hv)
          clear hv
          go_wp2_with fail
          go_ret
          exact ⟨reti (pickV_at FIRST.out (by rw [HN.out]; exact hlt) ALL.out HH.out).symm, id HB3.out⟩
      · have TL := Lib.hid (pickV_tail (ahead := ahead) FIRST.out (fun i hi => ALL.out i (by rw [HN.out] at hi; omega)))
        have TD : tailV fs pre xs ahead = if (isB fs.length ahead && decide (0 < xs.length) && glyphOf (fnth fs ahead.toNat).ms (nth xs 0) 0 != 0) = true then ahead else if isB fs.length pre = true then pre else 0 := rfl
        rw [HN.out, HLEN.out] at TD
        skip
        have OA := Lib.hid (fun N : Later wr => is_any A n c ahead N.1)
        have OP := Lib.hid (fun w' => is_any A n c pre w')
        rw [hp] at OP TD
        cases hah : isB n ahead
        · rw [hah] at OA TD
          simp only [Bool.false_and, eq_self, Bool.false_eq_true, if_true, if_false] at TD
          have TD2 := Lib.hid TD
          clear TD hb hah
          go_wp2_with fail
          refine wp_region_later (by kernel_rfl) (by kernel_rfl) ?_
          repeat (go_big_quiet_step ((first | (go_at_call 96; with_reducible exact quiet_later (OA.out _)) | (go_at_call 98; with_reducible exact quiet_later (SH.out _)))))
          refine wpQuiet_nil ?_
          intro _ hw'
          obtain ⟨nq, hw''⟩ := hw'
          subst hw''
          have HB2 := Lib.hid (plain_step HB.out nq.2)
          go_wp2_with fail
          refine (OP.out _).mono ?_
          rintro e w9 ⟨rfl, hv9⟩
          have HB3 := Lib.hid (plain_step HB2.out hv9)
          clear hv9
          go_wp2_with fail
          go_ret
          exact ⟨reti (by rw [TL.out, TD2.out]), id HB3.out⟩
        · obtain ⟨q, rfl, hq⟩ := isB_true hah
          rw [hah] at OA TD
          simp only [Int.toNat_natCast] at TD
          by_cases hpos : 0 < n2
          · obtain ⟨ad1, ha, hcs⟩ := (HF.out.below (id hb)).cells hq
            cases ha
            have SH := Lib.hid (fun N : Later wr => rglyph_any (fnth fs q).em (fnth fs q).G (fnth fs q).gn (fnth fs q).gc (fnth fs q).M (fnth fs q).mn (fnth fs q).mc (fnth fs q).ms (fnth fs q).L (fnth fs q).ln (fnth fs q).lc (fnth fs q).F (fnth fs q).fn (fnth fs q).fc (fnth fs q).S (fnth fs q).sn (fnth fs q).sc (nth xs 0) N.1 ((((HF.out.later (id hb)).later N.2)).maps hq) (HM.out q hq))
            obtain ⟨ad2, rfl, hab2, hcx2⟩ := (HX.out.at_.below (id hb)).2 hpos
            have x0 := later_cell (hcx2 0 hpos)
            have x1 := later_cell (show wr.cell? ad2 = some (.int .i32 (nth xs 0)) from hcx2 0 hpos)
            obtain ⟨y0, y1, y2, y3, y4, y5⟩ := fdx hcs
            have z0 := later_cell y0
            have z1 := later_cell y1
            have z2 := later_cell y2
            have z3 := later_cell y3
            have z4 := later_cell y4
            have z5 := later_cell y5
            obtain ⟨r, hr⟩ : ∃ r, nth xs 0 = r := ⟨_, rfl⟩
            rw [hr] at SH x0 x1 TD
            obtain ⟨g, hg⟩ : ∃ g, glyphOf (fnth fs q).ms r 0 = g := ⟨_, rfl⟩
            rw [hg] at SH
            cases hsh : (g != 0)
            all_goals simp only [hg, hsh, eq_self, decide_eq_true hpos, Bool.and_true, Bool.and_false, Bool.true_and, Bool.false_eq_true, if_true, if_false] at TD
            all_goals have TD2 := Lib.hid TD
            all_goals clear TD hb hah hcs hcx2 y0 y1 y2 y3 y4 y5 hr hg
            all_goals have n0 : ((g : Int) == 0) = !(g != 0) := (Bool.not_not _).symm
            all_goals rw [hsh] at n0
            all_goals simp only [Bool.not_false, Bool.not_true] at n0
            · go_wp2_with fail
              refine wp_region_later (by kernel_rfl) (by kernel_rfl) ?_
              repeat (go_big_quiet_step ((first | (go_at_call 96; with_reducible exact quiet_later (OA.out _)) | (go_at_call 98; with_reducible exact quiet_later (SH.out _)))))
              refine wpQuiet_nil ?_
              intro _ hw'
              obtain ⟨nq, hw''⟩ := hw'
              subst hw''
              have HB2 := Lib.hid (plain_step HB.out nq.2)
              go_wp2_with fail
              refine (OP.out _).mono ?_
              rintro e w9 ⟨rfl, hv9⟩
              have HB3 := Lib.hid (plain_step HB2.out hv9)
              clear hv9
              go_wp2_with fail
              go_ret
              exact ⟨reti (by rw [TL.out, TD2.out]), id HB3.out⟩
            · go_wp2_with fail
              refine wp_region_later (by kernel_rfl) (by kernel_rfl) ?_
              repeat (go_big_quiet_step ((first | (go_at_call 96; with_reducible exact quiet_later (OA.out _)) | (go_at_call 98; with_reducible exact quiet_later (SH.out _)))))
              refine wpQuiet_nil ?_
              intro _ hw'
              obtain ⟨nq, hw''⟩ := hw'
              subst hw''
              have HB2 := Lib.hid (plain_step HB.out nq.2)
              go_wp2_with fail
              go_ret
              exact ⟨reti (by rw [TL.out, TD2.out]), id HB2.out⟩
          · simp only [eq_self, if_true, decide_eq_false hpos, Bool.and_false, Bool.false_and, Bool.false_eq_true, if_false] at TD
            have TD2 := Lib.hid TD
            clear TD hb hah
            go_wp2_with fail
            refine wp_region_later (by kernel_rfl) (by kernel_rfl) ?_
            repeat (go_big_quiet_step ((first | (go_at_call 96; with_reducible exact quiet_later (OA.out _)) | (go_at_call 98; with_reducible exact quiet_later (SH.out _)))))
            refine wpQuiet_nil ?_
            intro _ hw'
            obtain ⟨nq, hw''⟩ := hw'
            subst hw''
            have HB2 := Lib.hid (plain_step HB.out nq.2)
            go_wp2_with fail
            refine (OP.out _).mono ?_
            rintro e w9 ⟨rfl, hv9⟩
            have HB3 := Lib.hid (plain_step HB2.out hv9)
            clear hv9
            go_wp2_with fail
            go_ret
            exact ⟨reti (by rw [TL.out, TD2.out]), id HB3.out⟩
  · obtain ⟨p, rfl, hpn⟩ := isB_true hp
    rw [hp] at OP
    obtain ⟨ad, ha, _⟩ := HF.out.cells hpn
    cases ha
    have HA := Lib.hid (fun w' hb' => HAS.out p hpn w' hb')
    go_wp2_with fail
    refine (OP.out _).mono ?_
    rintro e w0 ⟨rfl, hb0⟩
    have hb := plain_step HB0.out hb0
    have HBa := Lib.hid hb
    obtain ⟨ad1, ha, hcs⟩ := (HF.out.below (id hb)).cells hpn
    cases ha
    obtain ⟨y0, y1, y2, y3, y4, y5⟩ := fdx hcs
    skip
    cases hh : hasB (fnth fs p).ms xs
    all_goals rw [hh] at HA
    all_goals have HH := Lib.hid hh
    all_goals clear hh hcs hb hb0
    · have FIRST := Lib.hid (show (isB fs.length (p : Int) && fHas fs xs (p : Int).toNat) = false by rw [HN.out, hp, Int.toNat_natCast]; exact HH.out)
      go_wp2_with fail
      refine (HA.out _ (id HBa.out)).mono ?_
      rintro e w1 ⟨rfl, hb1⟩
      have HB1 := Lib.hid (plain_step HBa.out hb1)
      clear hb1 y0 y1 y2 y3 y4 y5
      skip
      go_wp2_with fail
      go_loopw [9] (fun v wr => ∃ j : Nat, j ≤ n ∧ v = .int .i64 j ∧ (∀ i, i < j → fHas fs xs i = false) ∧ Below w.heap.size w wr) (fun v _ => n - (intOf v).toNat)
      case atStart => exact ⟨0, Nat.zero_le _, rfl, fun i h => by omega, HB1.out⟩
      case round =>
        obtain ⟨j, hj, rfl, hall, hb⟩ := hrel
        have ALL := Lib.hid hall
        have HB := Lib.hid hb
        clear hall
        skip
        by_cases hlt : j < n
        · have HA := Lib.hid (fun w' hb' => HAS.out j hlt w' hb')
          obtain ⟨ad1, ha, hcs⟩ := (HF.out.below (id hb)).cells hlt
          cases ha
          obtain ⟨y0, y1, y2, y3, y4, y5⟩ := fdx hcs
          cases hh : hasB (fnth fs j).ms xs
          all_goals rw [hh] at HA
          all_goals have HH := Lib.hid hh
          all_goals clear hh hcs hb
          · go_wp2_with fail
            refine (HA.out _ HB.out).mono ?_
            rintro e w3 ⟨rfl, hv⟩
            have HB3 := Lib.hid (plain_step HB.out hv)
            clear hv
            go_wp2_with fail
            go_roundw
            case rel => exact ⟨j + 1, by omega, by go_num, fun i hi => (Nat.lt_or_ge i j).elim (fun h => ALL.out i h) (fun h => by rw [show i = j by omega]; exact HH.out), HB3.out⟩
            case measure => simp [intOf] <;> omega
          · go_wp2_with fail
            refine (HA.out _ HB.out).mono ?_
            rintro e w3 ⟨rfl, hv⟩
            have HB3 := Lib.hid (plain_step HB.out hv)
            clear hv
            go_wp2_with fail
            go_ret
            exact ⟨reti (pickV_at FIRST.out (by rw [HN.out]; exact hlt) ALL.out HH.out).symm, id HB3.out⟩
        · have TL := Lib.hid (pickV_tail (ahead := ahead) FIRST.out (fun i hi => ALL.out i (by rw [HN.out] at hi; omega)))
          have TD : tailV fs (p : Int) xs ahead = if (isB fs.length ahead && decide (0 < xs.length) && glyphOf (fnth fs ahead.toNat).ms (nth xs 0) 0 != 0) = true then ahead else if isB fs.length (p : Int) = true then (p : Int) else 0 := rfl
          rw [HN.out, HLEN.out] at TD
          skip
          have OA := Lib.hid (fun N : Later wr => is_any (some ad) n c ahead N.1)
          have OP := Lib.hid (fun w' => is_any (some ad) n c (p : Int) w')
          rw [hp] at OP TD
          cases hah : isB n ahead
          · rw [hah] at OA TD
            simp only [Bool.false_and, eq_self, Bool.false_eq_true, if_true, if_false] at TD
            have TD2 := Lib.hid TD
            clear TD hb hah
            go_wp2_with fail
            refine wp_region_later (by kernel_rfl) (by kernel_rfl) ?_
            repeat (go_big_quiet_step ((first | (go_at_call 96; with_reducible exact quiet_later (OA.out _)) | (go_at_call 98; with_reducible exact quiet_later (SH.out _)))))
            refine wpQuiet_nil ?_
            intro _ hw'
            obtain ⟨nq, hw''⟩ := hw'
            subst hw''
            have HB2 := Lib.hid (plain_step HB.out nq.2)
            go_wp2_with fail
            refine (OP.out _).mono ?_
            rintro e w9 ⟨rfl, hv9⟩
            have HB3 := Lib.hid (plain_step HB2.out hv9)
            clear hv9
            go_wp2_with fail
            go_ret
            exact ⟨reti (by rw [TL.out, TD2.out]), id HB3.out⟩
          · obtain ⟨q, rfl, hq⟩ := isB_true hah
            rw [hah] at OA TD
            simp only [Int.toNat_natCast] at TD
            by_cases hpos : 0 < n2
            · obtain ⟨ad1, ha, hcs⟩ := (HF.out.below (id hb)).cells hq
              cases ha
              have SH := Lib.hid (fun N : Later wr => rglyph_any (fnth fs q).em (fnth fs q).G (fnth fs q).gn (fnth fs q).gc (fnth fs q).M (fnth fs q).mn (fnth fs q).mc (fnth fs q).ms (fnth fs q).L (fnth fs q).ln (fnth fs q).lc (fnth fs q).F (fnth fs q).fn (fnth fs q).fc (fnth fs q).S (fnth fs q).sn (fnth fs q).sc (nth xs 0) N.1 ((((HF.out.later (id hb)).later N.2)).maps hq) (HM.out q hq))
              obtain ⟨ad2, rfl, hab2, hcx2⟩ := (HX.out.at_.below (id hb)).2 hpos
              have x0 := later_cell (hcx2 0 hpos)
              have x1 := later_cell (show wr.cell? ad2 = some (.int .i32 (nth xs 0)) from hcx2 0 hpos)
              obtain ⟨y0, y1, y2, y3, y4, y5⟩ := fdx hcs
              have z0 := later_cell y0
              have z1 := later_cell y1
              have z2 := later_cell y2
              have z3 := later_cell y3
              have z4 := later_cell y4
              have z5 := later_cell y5
              obtain ⟨r, hr⟩ : ∃ r, nth xs 0 = r := ⟨_, rfl⟩
              rw [hr] at SH x0 x1 TD
              obtain ⟨g, hg⟩ : ∃ g, glyphOf (fnth fs q).ms r 0 = g := ⟨_, rfl⟩
              rw [hg] at SH
              cases hsh : (g != 0)
              all_goals simp only [hg, hsh, eq_self, decide_eq_true hpos, Bool.and_true, Bool.and_false, Bool.true_and, Bool.false_eq_true, if_true, if_false] at TD
              all_goals have TD2 := Lib.hid TD
              all_goals clear TD hb hah hcs hcx2 y0 y1 y2 y3 y4 y5 hr hg
              all_goals have n0 : ((g : Int) == 0) = !(g != 0) := (Bool.not_not _).symm
              all_goals rw [hsh] at n0
              all_goals simp only [Bool.not_false, Bool.not_true] at n0
              · go_wp2_with fail
                refine wp_region_later (by kernel_rfl) (by kernel_rfl) ?_
                repeat (go_big_quiet_step ((first | (go_at_call 96; with_reducible exact quiet_later (OA.out _)) | (go_at_call 98; with_reducible exact quiet_later (SH.out _)))))
                refine wpQuiet_nil ?_
                intro _ hw'
                obtain ⟨nq, hw''⟩ := hw'
                subst hw''
                have HB2 := Lib.hid (plain_step HB.out nq.2)
                go_wp2_with fail
                refine (OP.out _).mono ?_
                rintro e w9 ⟨rfl, hv9⟩
                have HB3 := Lib.hid (plain_step HB2.out hv9)
                clear hv9
                go_wp2_with fail
                go_ret
                exact ⟨reti (by rw [TL.out, TD2.out]), id HB3.out⟩
              · go_wp2_with fail
                refine wp_region_later (by kernel_rfl) (by kernel_rfl) ?_
                repeat (go_big_quiet_step ((first | (go_at_call 96; with_reducible exact quiet_later (OA.out _)) | (go_at_call 98; with_reducible exact quiet_later (SH.out _)))))
                refine wpQuiet_nil ?_
                intro _ hw'
                obtain ⟨nq, hw''⟩ := hw'
                subst hw''
                have HB2 := Lib.hid (plain_step HB.out nq.2)
                go_wp2_with fail
                go_ret
                exact ⟨reti (by rw [TL.out, TD2.out]), id HB2.out⟩
            · simp only [eq_self, if_true, decide_eq_false hpos, Bool.and_false, Bool.false_and, Bool.false_eq_true, if_false] at TD
              have TD2 := Lib.hid TD
              clear TD hb hah
              go_wp2_with fail
              refine wp_region_later (by kernel_rfl) (by kernel_rfl) ?_
              repeat (go_big_quiet_step ((first | (go_at_call 96; with_reducible exact quiet_later (OA.out _)) | (go_at_call 98; with_reducible exact quiet_later (SH.out _)))))
              refine wpQuiet_nil ?_
              intro _ hw'
              obtain ⟨nq, hw''⟩ := hw'
              subst hw''
              have HB2 := Lib.hid (plain_step HB.out nq.2)
              go_wp2_with fail
              refine (OP.out _).mono ?_
              rintro e w9 ⟨rfl, hv9⟩
              have HB3 := Lib.hid (plain_step HB2.out hv9)
              clear hv9
              go_wp2_with fail
              go_ret
              exact ⟨reti (by rw [TL.out, TD2.out]), id HB3.out⟩
    · have FIRST := Lib.hid (show (isB fs.length (p : Int) && fHas fs xs (p : Int).toNat) = true by rw [HN.out, hp, Int.toNat_natCast]; exact HH.out)
      go_wp2_with fail
      refine (HA.out _ (id HBa.out)).mono ?_
      rintro e w1 ⟨rfl, hb1⟩
      have HB1 := Lib.hid (plain_step HBa.out hb1)
      clear hb1
      go_wp2_with fail
      go_ret
      exact ⟨reti (pickV_pre FIRST.out).symm, id HB1.out⟩
end Go.Proofs.YtefajgfhdnhmmaaDoor
