/- Chapter 20: the reference's Parse. -/
import Derived.Test.YtgianjnccpbnaaaDoorHrd
import Derived.Test.YtgianjnccpbnaaaDoorHpp
import Derived.Lib.SmallJoins
import Derived.Lib.AtoiErrMem
namespace Go.Proofs.YtgianjnccpbnaaaDoor
open Go.ChangeShapes Go.WideShapes Go.ChangeAt Go.RowKit
set_option maxRecDepth 100000
set_option linter.unusedSimpArgs false

theorem digit_any (r : Int) (w : World) : Calls Tryd.prog 43 #[.int .i32 r] w fun e w' => e = .returned (.bool (dig r)) ∧ w = w' := by
  go_enter Tryd.func43, Tryd.ntmps43
  go_wp2
  all_goals go_ret
  all_goals exact ⟨retb (by unfold dig; rw [Bool.eq_iff_iff]; simp <;> omega), rfl⟩

set_option maxHeartbeats 1000000 in
theorem may_any (A : Option Addr) (n c : Nat) (ls : List Int) (w : World) (hx : IntsAt w w.heap.size .i32 A n ls) (hn : n ≤ 140737488355328) :
    Calls Tryd.prog 44 #[.slice A n c] w fun e w' => e = .returned (.bool (mayB ls)) ∧ w = w' := by
  have HX := Lib.hid hx
  have HLEN := Lib.hid hx.len
  clear hx
  go_enter Tryd.func44, Tryd.ntmps44
  go_wp2_with fail
  go_loopg [3, 4] (n + 1) (fun g m i wr => ∃ k : Nat, k ≤ n ∧ n - k < g ∧ i = .int .i64 k ∧ m = .int .i64 (notDots (ls.take k) : Nat) ∧ Shut (∀ j, j < k → mbad ls j = false) ∧ wr = w)
  case atStart => exact ⟨0, Nat.zero_le _, by omega, rfl, by simp [notDots], ⟨fun j h => by omega⟩, rfl⟩
  case round =>
    obtain ⟨k, hk, hg, rfl, rfl, HALL, rfl⟩ := hrel
    have hnd := notDots_le (ls.take k)
    have hkl : (ls.take k).length ≤ k := List.length_take_le _ _
    by_cases hlt : k < n
    · obtain ⟨ad, rfl, hab, hcx⟩ := HX.out.2 (by omega)
      have hc := hcx k hlt
      have NT : Shut _ := ⟨notDots_take (ls := ls) (i := k) (by rw [HLEN.out]; exact hlt)⟩
      have RB := mbad_iff ls k
      rw [HLEN.out] at RB
      generalize hr : nth ls k = r at hc NT RB
      have RB : Shut _ := ⟨RB⟩
      clear hr hcx
      have hcs : (r ≤ 46 ∧ 46 ≤ r ∧ (r != 46) = false) ∨ ((r < 46 ∨ 46 < r) ∧ (r != 46) = true) := by
        by_cases h : r = 46
        · exact .inl ⟨by omega, by omega, by simp [h]⟩
        · exact .inr ⟨by omega, by simp [h]⟩
      rcases hcs with ⟨q1, q2, q3⟩ | ⟨q1, q3⟩
      all_goals go_wp2_with fail
      all_goals first
        | (go_roundg (n - k); case measure => omega
           case rel =>
             refine ⟨k + 1, by omega, by omega, by go_num, ?_, ⟨fun j hj => ?_⟩, rfl⟩
             · rw [NT.out]; first | rw [if_pos (by simp; omega)] | rw [if_neg (by simp; omega)]
               go_num
             · rcases Nat.lt_or_ge j k with h1 | h1
               · exact HALL.out j h1
               · obtain rfl : j = k := by omega
                 cases hb : mbad ls j with
                 | false => rfl
                 | true => have := RB.out.1 hb; omega)
        | (go_ret
           exact ⟨retb (mayB_false (i := k) (by rw [HLEN.out]; exact hlt) (RB.out.2 (by omega))).symm, rfl⟩)
    · obtain rfl : k = n := by omega
      have E : Shut _ := ⟨mayB_end (ls := ls) (fun j hj => HALL.out j (by rw [HLEN.out] at hj; exact hj))⟩
      have et : ls.take k = ls := List.take_of_length_le (by rw [HLEN.out]; exact Nat.le_refl _)
      rw [et] at hnd ⊢
      clear et
      generalize notDots ls = m at *
      go_wp2_with fail
      all_goals go_ret
      all_goals refine ⟨retb ?_, rfl⟩
      all_goals rw [E.out]
      all_goals rw [Bool.eq_iff_iff]
      all_goals simp
      all_goals omega

theorem dec_len (s : ByteArray) : ∀ (f pos : Nat) (l : List Int), decF s f pos = some l → l.length ≤ f
  | 0, _, l, h => by
    unfold decF at h
    injection h with h
    subst h
    simp
  | f + 1, pos, l, h => by
    unfold decF at h
    split at h
    · split at h
      · cases hd : decF s f (pos + wd s pos) with
        | none => rw [hd] at h; cases h
        | some t =>
          rw [hd] at h
          injection h with h
          subst h
          have := dec_len s f _ t hd
          simp
          omega
      · cases h
    · injection h with h
      subst h
      simp
/-- one step of the fold over what was decoded -/
theorem fold_told {r : Int} {t ls ds : List Int} {now : Int} (h : dig r = true) : foldP (r :: t) ls ds now true = none := by simp [foldP, h]
theorem fold_digit {r : Int} {t ls ds : List Int} {now : Int} (h : dig r = true) : foldP (r :: t) ls ds now false = foldP t ls ds (r - 48) true := by simp [foldP, h]
theorem fold_letter {r : Int} {t ls ds : List Int} {now : Int} {told : Bool} (h : dig r = false) : foldP (r :: t) ls ds now told = foldP t (ls ++ [r]) (ds ++ [now]) 0 false := by simp [foldP, h]
theorem drop_nth {xs : List Int} {k : Nat} (h : k < xs.length) : xs.drop k = nth xs k :: xs.drop (k + 1) := by
  rw [nth_eq h, List.drop_eq_getElem_cons h]

theorem bytes_ints (w : World) (e : TypeId) (s : ByteArray) : IntsAt (Lib.bytesWorld w e s) (Lib.bytesWorld w e s).heap.size .u8 (some ⟨w.heap.size, 0, none⟩) s.size (nums s) := by
  refine ⟨nums_len s, fun h => ⟨_, rfl, by rw [Lib.bytesWorld_size]; exact Nat.lt_succ_self _, fun j hj => ?_⟩⟩
  rw [add_zero_at, Lib.bytesWorld_cell w e s j hj]
  unfold nth nums
  have h2 : j < s.data.toList.length := hj
  rw [List.getD_eq_getElem?_getD, List.getD_eq_getElem?_getD, List.getElem?_map, List.getElem?_eq_getElem h2]
  rfl

theorem OwnV.lowB {w : World} {B B' n c size : Nat} {e : TypeId} {A : Option Addr} {vs : List Value} (h : OwnV w B e size A n c vs) (hb : B' ≤ B) : OwnV w B' e size A n c vs := by
  refine ⟨h.1, ?_⟩
  rcases h.2 with h2 | ⟨g, cap, cur, hv, hg, r⟩
  · exact .inl h2
  · exact .inr ⟨g, cap, cur, hv, Nat.le_trans hb hg, r⟩
/-- the loop's relation -/
structure RRel (w1 : World) (ts : List Int) (R : Option (List Int × List Int)) (n g : Nat) (v8 v9 v10 v11 v12 v13 : Value) (wr : World) (k : Nat) (ls ds : List Int) (now : Int) (told : Bool) (A B : Option Addr) (c d : Nat) : Prop where
  left : n - k < g
  kle : k ≤ n
  e13 : v13 = .int .i64 (k : Int)
  e8 : v8 = .slice A ls.length c
  e9 : v9 = .slice B ds.length d
  e10 : v10 = .int .i64 now
  e11 : v11 = .bool told
  e12 : v12 = .bool (anyB (ds ++ [now]))
  res : foldP (ts.drop k) ls ds now told = R
  lsl : ls.length ≤ k
  dsl : ds.length ≤ k
  now0 : 0 ≤ now
  now9 : now ≤ 9
  zero : told = false → now = 0
  oA : Own wr w1.heap.size 21 .i32 A ls.length c ls
  oB : Own wr w1.heap.size 3 .i64 B ds.length d ds
  ap : Apart A B
  be : Below w1.heap.size w1 wr
set_option maxHeartbeats 2000000 in
theorem rparse_any (s : ByteArray) (hs : s.size ≤ 1000000) (w : World) :
    Calls Tryd.prog 26 #[.string s] w (ParsePost w (parsed s)) := by
  have hsp := parse_split s s.size 0 [] [] 0 false
  have kc : Shut (∀ (w : World), (convert 9 75 (.string s)).run Tryd.prog w = .ok (.slice (some ⟨w.heap.size, 0, none⟩) s.size (grownCap w s.size 0 5)) (Lib.bytesWorld w 5 s)) := ⟨fun w => Lib.run_convert_string_bytes w _ _ _ s Tryd.underlying9 Tryd.underlying75 Tryd.underlying5⟩
  have kw := kc.out w
  have hbb := Lib.bytesWorld_below w 5 s
  have CD := decode_any (some ⟨w.heap.size, 0, none⟩) (grownCap w s.size 0 5) s hs (grownCap_ge _ _ _ _) (Lib.bytesWorld w 5 s) (bytes_ints w 5 s)
  generalize grownCap w s.size 0 5 = cc at kw CD
  generalize hbw : Lib.bytesWorld w 5 s = w0 at kw CD hbb
  have CD : Shut _ := ⟨CD⟩
  have BB : Shut _ := ⟨hbb⟩
  clear hbb hbw kc
  obtain ⟨D, hD⟩ : ∃ D, decF s s.size 0 = D := ⟨_, rfl⟩
  have hDL : Shut (∀ l, D = some l → l.length ≤ s.size) := ⟨fun l h => dec_len s _ _ l (hD.trans h)⟩
  rw [hD] at hsp CD
  obtain ⟨R, hR⟩ : ∃ R, parseF s s.size 0 [] [] 0 false = R := ⟨_, rfl⟩
  rw [hR] at hsp
  have HR : Shut (R = D.bind fun t => foldP t [] [] 0 false) := ⟨hsp⟩
  have HP : Shut (parsed s = R.bind fun p => if goodB p = true then some p else none) := ⟨by unfold parsed; rw [hR]⟩
  clear hsp hD hR
  go_enter Tryd.func26, Tryd.ntmps26
  go_wp2_with fail
  refine CD.out.mono ?_
  intro e w1 hdp
  cases D with
  | none =>
    obtain ⟨t, x, hx0, rfl, hb⟩ := hdp
    have hxb : (x != 0) = true := by simpa using hx0
    have BE : Shut _ := ⟨BB.out.trans (hb.mono BB.out.size)⟩
    clear hb hx0
    go_wp2_with fail
    go_ret3
    rw [HP.out, HR.out]
    exact ⟨rfl, BE.out⟩
  | some ts =>
    obtain ⟨A0, c0, rfl, o0, hb⟩ := hdp
    have BE : Shut _ := ⟨BB.out.trans (hb.mono BB.out.size)⟩
    have OT : Shut _ := ⟨o0⟩
    obtain ⟨n, hn⟩ : ∃ n, ts.length = n := ⟨_, rfl⟩
    have hnl := hDL.out ts rfl
    rw [hn] at OT hnl ⊢
    have HN : Shut _ := ⟨hn⟩
    clear hb o0 hn
    go_wp2_with fail
    have HF : Shut (foldP (ts.drop 0) [] [] 0 false = R) := ⟨by rw [HR.out]; rfl⟩
    clear HR CD
    go_loopg [8, 9, 10, 11, 12, 13] (n + 1) (fun g v8 v9 v10 v11 v12 v13 wr => ∃ k ls ds now told A B c d, RRel w1 ts R n g v8 v9 v10 v11 v12 v13 wr k ls ds now told A B c d)
    case atStart =>
      exact ⟨0, [], [], 0, false, none, none, 0, 0, by omega, by omega, rfl, rfl, rfl, rfl, rfl, rfl, HF.out, by simp, by simp, by omega, by omega, fun _ => rfl, Own.nil _ _ _ _, Own.nil _ _ _ _, none_apart _, Below.refl _ _⟩
    case round =>
      obtain ⟨k, ls, ds, now, told, A, B, c, d, hg, hk, rfl, rfl, rfl, rfl, rfl, rfl, hres, hll, hdl, hn0, hn9, hz0, hoA, hoB, hap, hbe⟩ := hrel
      have HZ0 : Shut _ := ⟨hz0⟩
      clear hz0
      have RES : Shut _ := ⟨hres⟩
      have OA : Shut _ := ⟨hoA⟩
      have OB : Shut _ := ⟨hoB⟩
      have AP : Shut _ := ⟨hap⟩
      have BW : Shut _ := ⟨hbe⟩
      have hwz : w1.heap.size ≤ wr.heap.size := hbe.size
      clear hres hoA hoB hap hbe
      by_cases hlt : k < n
      · obtain ⟨ad, rfl, hab, hcx⟩ := (OT.out.ints.later BW.out).2 (by omega)
        have hc := hcx k hlt
        have DR := drop_nth (xs := ts) (k := k) (by rw [HN.out]; exact hlt)
        generalize nth ts k = r at hc DR
        have RES : Shut (foldP (r :: ts.drop (k + 1)) ls ds now told = R) := ⟨by rw [← DR]; exact RES.out⟩
        have CG : Shut (∀ W, Calls Tryd.prog 43 #[.int .i32 r] W fun e w' => e = .returned (.bool (dig r)) ∧ W = w') := ⟨fun W => digit_any r W⟩
        have hdg : dig r = decide (48 ≤ r ∧ r ≤ 57) := rfl
        generalize dig r = b at CG hdg
        have HDG : Shut _ := ⟨hdg⟩
        clear hcx DR hdg
        cases b with
        | true =>
          have hr : 48 ≤ r ∧ r ≤ 57 := by have := HDG.out; simpa using this.symm
          have hd1 : dig r = true := HDG.out.symm
          obtain ⟨hr1, hr2⟩ := hr
          cases told with
          | true =>
            have NB : Shut (R = none) := ⟨by rw [← RES.out, fold_told hd1]⟩
            clear hd1
            go_wp2_with fail
            refine (CG.out _).mono ?_
            rintro e w2 ⟨rfl, rfl⟩
            go_wp2_with fail
            go_ret3
            rw [HP.out, NB.out]
            exact ⟨rfl, BE.out.trans (BW.out.mono BE.out.size)⟩
          | false =>
            have RES2 : Shut (foldP (ts.drop (k + 1)) ls ds (r - 48) true = R) := ⟨by rw [← RES.out, fold_digit hd1]⟩
            obtain rfl : now = 0 := HZ0.out rfl
            have AN : Shut (anyB (ds ++ [r - 48]) = (anyB (ds ++ [0]) || decide (0 < r - 48))) := ⟨by rw [anyB_snoc, anyB_snoc]; simp⟩
            generalize anyB (ds ++ [0]) = b0 at *
            clear hd1 HZ0
            cases b0
            all_goals
              go_wp2_with fail
              refine (CG.out _).mono ?_
              rintro e w2 ⟨rfl, rfl⟩
              go_wp2_with fail
              go_roundg (n - k)
              case measure => omega
              case rel =>
                refine ⟨k + 1, ls, ds, r - 48, true, A, B, c, d, by omega, by omega, by go_num, rfl, rfl, rfl, rfl, ?_, RES2.out, by omega, by omega, by omega, by omega, fun h => by (cases h), OA.out, OB.out, AP.out, BW.out⟩
                rw [AN.out]
                first | rfl | (congr 1; rw [Bool.eq_iff_iff]; simp <;> omega)
        | false =>
          have hd1 : dig r = false := HDG.out.symm
          have HD : Shut _ := ⟨hd1⟩
          have RES : Shut (foldP (ts.drop (k + 1)) (ls ++ [r]) (ds ++ [now]) 0 false = R) := ⟨by rw [← RES.out, fold_letter hd1]⟩
          have hAB : ∀ g, B = some ⟨g, 0, none⟩ → g < wr.heap.size := fun g hg => by subst hg; exact (OwnV.ltH OB.out).2
          have HAB : Shut _ := ⟨hAB⟩
          have AN : Shut (anyB ((ds ++ [now]) ++ [0]) = anyB (ds ++ [now])) := ⟨by rw [anyB_snoc (ds ++ [now])]; simp⟩
          generalize anyB (ds ++ [now]) = b0 at *
          obtain ⟨m, hm⟩ : ∃ m, ds.length = m := ⟨_, rfl⟩
          obtain ⟨l, hl⟩ : ∃ l, ls.length = l := ⟨_, rfl⟩
          rw [hm] at hdl OB ⊢
          rw [hl] at hll OA ⊢
          have HM : Shut _ := ⟨hm⟩
          have HL : Shut _ := ⟨hl⟩
          clear hAB hm hl hd1
          go_wp2_with fail
          refine (CG.out _).mono ?_
          rintro e w2 ⟨rfl, rfl⟩
          go_wp2_with (first
            | (at_builtin; refine wpList_pushAt TI32h rfl (.tmp 46) (.tmp 51) rfl rfl (Own.alloc OA.out _) rfl (cell_new _ _ _) (by omega) (by simp; omega) ?_; intro A4 c4 w4 o4 b4 g4 a4; have OA4 : Shut _ := ⟨o4⟩; have G4 : Shut _ := ⟨g4⟩; have A4' : Shut _ := ⟨a4⟩; have B4 : Shut _ := ⟨b4⟩; have z4 : wr.heap.size + 1 ≤ w4.heap.size := (by have := b4.size; simpa using this); clear o4 b4 g4 a4)
            | (at_builtin; refine wpList_pushAt TI64h rfl (.tmp 53) (.tmp 55) rfl rfl (Own.alloc (Own.kept (Own.alloc OB.out _) G4.out AP.out.symm (OwnV.headC OA.out)) _) rfl (cell_new _ _ _) (by omega) (by simp; omega) ?_; intro A5 c5 w5 o5 b5 g5 a5; have OB5 : Shut _ := ⟨o5⟩; have G5 : Shut _ := ⟨g5⟩; have A5' : Shut _ := ⟨a5⟩; have B5 : Shut _ := ⟨b5⟩; clear o5 b5 g5 a5))
          have hAB1 : Apart A4 B := Apart.grow (w := wr.alloc (.cells #[.int .i32 r] 21)) AP.out (fun g hg => by have := HAB.out g hg; simp; omega) A4'.out
          have hOA5 := Own.kept (Own.alloc OA4.out _) G5.out hAB1 (OwnV.headC OB.out)
          have hAB2 : Apart A5 A4 := Apart.grow (w := w4.alloc (.cells #[.int .i64 now] 3)) hAB1.symm (fun g hg => by subst hg; have := (OwnV.ltH OA4.out).2; simp; omega) A5'.out
          have hB5 := ((((BW.out.alloc hwz (.cells #[.int .i32 r] 21)).trans B4.out).alloc (by omega) (.cells #[.int .i64 now] 3))).trans B5.out
          go_roundg (n - k)
          case measure => omega
          case rel =>
            have e1 : (ls ++ [r]).length = l + 1 := by simp [HL.out]
            have e2 : (ds ++ [now]).length = m + 1 := by simp [HM.out]
            exact ⟨k + 1, ls ++ [r], ds ++ [now], 0, false, A4, A5, c4, c5, by omega, by omega, by go_num, by rw [e1], by rw [e2], rfl, rfl, by rw [AN.out], RES.out, by omega, by omega, by omega, by omega, fun _ => rfl, by rw [e1]; exact hOA5, by rw [e2]; exact OB5.out, hAB2.symm, hB5⟩
      · have hkn : ts.drop k = [] := List.drop_of_length_le (by rw [HN.out]; omega)
        have RES : Shut (R = some (ls, ds ++ [now])) := ⟨by rw [← RES.out, hkn]; rfl⟩
        have C2 : Shut (∀ W, W = wr → Calls Tryd.prog 44 #[.slice A ls.length c] W fun e w' => e = .returned (.bool (mayB ls)) ∧ W = w') := ⟨fun W h => may_any A ls.length c ls W (by subst h; exact OA.out.ints) (by omega)⟩
        have hgd : goodB (ls, ds ++ [now]) = (mayB ls && anyB (ds ++ [now])) := rfl
        have HGD : Shut _ := ⟨hgd⟩
        have e2 : (ds ++ [now]).length = ds.length + 1 := by simp
        have E2 : Shut _ := ⟨e2⟩
        have HAB : Shut (∀ g, A = some ⟨g, 0, none⟩ → g < wr.heap.size) := ⟨fun g hg => by subst hg; exact (OwnV.ltH OA.out).2⟩
        clear hgd e2 hkn
        generalize mayB ls = b1 at *
        generalize anyB (ds ++ [now]) = b2 at *
        cases b2 with
        | false =>
          go_wp2_with fail
          go_ret3
          rw [HP.out, RES.out]
          show ParsePost _ (if goodB (ls, ds ++ [now]) = true then some (ls, ds ++ [now]) else none) _ _
          rw [HGD.out, Bool.and_false]
          exact ⟨rfl, BE.out.trans (BW.out.mono BE.out.size)⟩
        | true =>
          cases b1 with
          | false =>
            go_wp2_with fail
            refine (C2.out _ rfl).mono ?_
            rintro e w2 ⟨rfl, rfl⟩
            go_wp2_with fail
            go_ret3
            rw [HP.out, RES.out]
            show ParsePost _ (if goodB (ls, ds ++ [now]) = true then some (ls, ds ++ [now]) else none) _ _
            rw [HGD.out]
            exact ⟨rfl, BE.out.trans (BW.out.mono BE.out.size)⟩
          | true =>
            go_wp2_with fail
            refine (C2.out _ rfl).mono ?_
            rintro e w2 ⟨rfl, rfl⟩
            go_wp2_with (at_builtin; refine wpList_pushAt TI64h rfl (.tmp 64) (.tmp 66) rfl rfl (Own.alloc OB.out _) rfl (cell_new _ _ _) (by omega) (by simp; omega) ?_; intro A5 c5 w5 o5 b5 g5 a5; have OB5 : Shut _ := ⟨o5⟩; have G5 : Shut _ := ⟨g5⟩; have B5 : Shut _ := ⟨b5⟩; clear o5 b5 g5 a5)
            have hOA5 := Own.kept (Own.alloc OA.out _) G5.out AP.out (OwnV.headC OB.out)
            have hB5 := (BW.out.alloc hwz _).trans B5.out
            go_ret3
            rw [HP.out, RES.out]
            show ParsePost _ (if goodB (ls, ds ++ [now]) = true then some (ls, ds ++ [now]) else none) _ _
            rw [HGD.out]
            refine ⟨A, A5, c, c5, ?_, OwnV.lowB hOA5 BE.out.size, ?_, BE.out.trans (hB5.mono BE.out.size)⟩
            · show Ending.returned (Value.tuple #[Value.slice A ls.length c, Value.slice A5 (ds.length + 1) c5, Value.bool true]) = Ending.returned (Value.tuple #[Value.slice A ls.length c, Value.slice A5 (ds ++ [now]).length c5, Value.bool true])
              rw [E2.out]
            · show Own _ _ _ _ A5 (ds ++ [now]).length c5 _
              rw [E2.out]
              exact OwnV.lowB OB5.out BE.out.size
end Go.Proofs.YtgianjnccpbnaaaDoor
