/- Chapter 20: the program's Parse. -/
import Derived.Test.YtgianjnccpbnaaaDoorHpw
import Derived.Test.YtgianjnccpbnaaaDoorHit
namespace Go.Proofs.YtgianjnccpbnaaaDoor
open Go.ChangeShapes Go.WideShapes Go.ChangeAt Go.RowKit
set_option maxRecDepth 100000
set_option linter.unusedSimpArgs false

theorem TI32h : SliceOf Tryd.prog 22 21 1 4 := sliceOf_mk Tryd.underlying22 (z := .int .i32 0) (by kernel_rfl) rfl (by omega) (by omega)
theorem TI64h : SliceOf Tryd.prog 25 3 1 8 := sliceOf_mk Tryd.underlying25 (z := .int .i64 0) (by kernel_rfl) rfl (by omega) (by omega)

theorem own_cellH {w : World} {B n c : Nat} {e : TypeId} {g : Nat} {k : IntKind} {xs : List Int} (h : Own w B e k (some ⟨g, 0, none⟩) n c xs) {j : Nat} (hj : j < n) : w.cell? ⟨g, j, none⟩ = some (.int k (nth xs j)) := by
  rw [OwnV.cellAt h j (by omega)]
  have hl : j < xs.length := by rw [h.len]; exact hj
  rw [List.getElem?_map, List.getElem?_eq_getElem hl, nth_eq hl]
  rfl
theorem own_one (w : World) (e : TypeId) (k : IntKind) (B : Nat) (hB : B ≤ w.heap.size) (x : Int) : Own (w.alloc (.cells #[.int k x] e)) B e k (some ⟨w.heap.size, 0, none⟩) 1 1 [x] :=
  ⟨by simp, .inr ⟨w.heap.size, 1, #[.int k x], rfl, hB, heap_alloc_new w _, by omega, by unfold maxLen; omega, by simp, by simp⟩⟩
theorem set_last (ds : List Int) (now x : Int) : (ds ++ [now]).set ds.length x = ds ++ [x] := by simp [List.set_append]
/-- what Parse leaves -/
def ParsePost (w : World) (r : Option (List Int × List Int)) (e : Ending) (w' : World) : Prop :=
  match r with
  | none => e = .returned (.tuple #[.slice none 0 0, .slice none 0 0, .bool false]) ∧ Below w.heap.size w w'
  | some p => ∃ (A B : Option Addr) (c d : Nat), e = .returned (.tuple #[.slice A p.1.length c, .slice B p.2.length d, .bool true]) ∧
      Own w' w.heap.size 21 .i32 A p.1.length c p.1 ∧ Own w' w.heap.size 3 .i64 B p.2.length d p.2 ∧ Below w.heap.size w w'

/-- the loop's relation -/
structure PRel (s : ByteArray) (w : World) (R : Option (List Int × List Int)) (g : Nat) (v5 v6 v7 : Value) (wr : World) (pos f : Nat) (ls ds : List Int) (now : Int) (told : Bool) (A B : Option Addr) (c d : Nat) : Prop where
  left : s.size - pos < g
  pos_le : pos ≤ s.size
  fuel : s.size ≤ pos + f
  e5 : v5 = .slice A ls.length c
  e6 : v6 = .slice B (ds.length + 1) d
  e7 : v7 = .bool told
  res : parseF s f pos ls ds now told = R
  lsl : ls.length ≤ pos
  dsl : ds.length ≤ pos
  lsok : LsOk ls
  dsok : DsOk ds
  now0 : 0 ≤ now
  now9 : now ≤ 9
  oA : Own wr w.heap.size 21 .i32 A ls.length c ls
  oB : Own wr w.heap.size 3 .i64 B (ds.length + 1) d (ds ++ [now])
  ap : Apart A B
  it : IterIs wr (w.heap.size + 1) s pos
  be : Below w.heap.size w wr

set_option maxHeartbeats 2000000 in
theorem pparse_any (s : ByteArray) (hs : s.size ≤ 1000000) (w : World) :
    Calls Tryd.prog 24 #[.string s] w (ParsePost w (parsed s)) := by
  obtain ⟨R, hR⟩ : ∃ R, parseF s s.size 0 [] [] 0 false = R := ⟨_, rfl⟩
  have hP : parsed s = R.bind fun p => if goodB p = true then some p else none := by unfold parsed; rw [hR]
  have HR := Lib.hid hR
  have HP := Lib.hid hP
  clear hR hP
  go_enter Tryd.func24, Tryd.ntmps24
  go_wp2_with fail
  go_loopg [5, 6, 7] (s.size + 1) (fun g v5 v6 v7 wr => ∃ pos f ls ds now told A B c d, PRel s w R g v5 v6 v7 wr pos f ls ds now told A B c d)
  case atStart =>
    refine ⟨0, s.size, [], [], 0, false, none, some ⟨w.heap.size, 0, none⟩, 0, 1, by omega, by omega, by omega, rfl, rfl, rfl, HR.out, by simp, by simp, fun r h => (by cases h), fun r h => (by cases h), by omega, by omega, Own.nil _ _ _ _, ?_, none_apart _, ?_, ?_⟩
    · exact OwnV.alloc (own_one w 3 .i64 w.heap.size (Nat.le_refl _) 0) _
    · have := World.iter_heap (w.alloc (.cells #[.int .i64 0] 3)) s 0
      unfold IterIs
      simpa using this
    · exact ((Below.refl w.heap.size w).alloc (Nat.le_refl _) _).alloc (by simp) _
  case round =>
    obtain ⟨pos, f, ls, ds, now, told, A, B, c, d, hg, hpos, hfu, rfl, rfl, rfl, hres, hll, hdl, hlo, hdo, hn0, hn9, hoA, hoB, hap, hit, hbe⟩ := hrel
    have RES := Lib.hid hres
    have HLO := Lib.hid hlo
    have HDO := Lib.hid hdo
    have AP := Lib.hid hap
    clear hres hlo hdo hap
    by_cases hp : pos < s.size
    · have hsz := hit.lt
      obtain ⟨rr, hrr⟩ : ∃ rr, (Utf8.decode s pos).1 = rr := ⟨_, rfl⟩
      obtain ⟨ww, hww⟩ : ∃ ww, (Utf8.decode s pos).2 = ww := ⟨_, rfl⟩
      have hnx : ∀ ty, (Instr.next (.pointer (some ⟨w.heap.size + 1, 0, none⟩)) true ty).run Tryd.prog wr = .ok (.tuple #[.bool true, .int .i64 pos, .int .i32 rr]) (wr.iterAt (w.heap.size + 1) s (pos + ww)) := fun ty => by rw [Lib.run_next_any_at wr (w.heap.size + 1) s pos ty hit hp, hrr, hww]
      have OA := Lib.hid (hoA.moved hit (pos + ww))
      have OB := Lib.hid (hoB.moved hit (pos + ww))
      have IT := Lib.hid (hit.moved (pos + ww))
      have BE := Lib.hid (Lib.below_iterAt hbe (k := w.heap.size + 1) (by omega) s (pos + ww))
      have hsz2 : w.heap.size + 1 < (wr.iterAt (w.heap.size + 1) s (pos + ww)).heap.size := by rw [Lib.iterAt_size]; exact hsz
      have hd1 := decode_le s pos
      rw [hrr] at hd1
      obtain ⟨f, rfl⟩ : ∃ f', f = f' + 1 := ⟨f - 1, by omega⟩
      obtain ⟨w1, hw1⟩ : ∃ w1, wr.iterAt (w.heap.size + 1) s (pos + ww) = w1 := ⟨_, rfl⟩
      rw [hw1] at hnx OA OB IT BE hsz2
      have HRR := Lib.hid hrr
      have HWW := Lib.hid hww
      clear hrr hww hw1 hoA hoB hit hbe hsz
      have FT := Lib.hid (fffd_test s pos hp)
      cases ho : okU s pos with
      | false =>
        have hr2 := bad_ru hp ho
        rw [HRR.out] at hr2
        subst hr2
        have FO := (fffd_ok s pos hp HRR.out).trans ho
        have C := fun W => prefix_any (s.extract pos s.size) (by rw [size_tail]; omega) W
        rw [FT.out, FO] at C
        have C := Lib.hid C
        have NB := Lib.hid ((parse_bad hp ho).symm.trans RES.out)
        clear FO
        go_wp2_with fail
        refine (C.out _).mono ?_
        rintro e w2 ⟨rfl, rfl⟩
        go_wp2_with fail
        go_ret3
        rw [HP.out, ← NB.out]
        exact ⟨rfl, BE.out⟩
      | true =>
        obtain ⟨hw1, hw2, hsc⟩ := ok_width hp ho
        have hrw : ru s pos = (rr : Int) := by unfold ru; rw [HRR.out]
        have hww2 : wd s pos = ww := HWW.out
        rw [hww2] at hw1 hw2
        rw [hrw] at hsc
        have HSC : Shut (scalar (rr : Int) = true) := ⟨hsc⟩
        have hF : rr = 65533 → decide (pos + 3 ≤ s.size ∧ bt s pos = 239 ∧ bt s (pos + 1) = 191 ∧ bt s (pos + 2) = 189) = true := fun h => (fffd_ok s pos hp (HRR.out.trans h)).trans ho
        have HF := Lib.hid hF
        have C := fun W => prefix_any (s.extract pos s.size) (by rw [size_tail]; omega) W
        rw [FT.out] at C
        have C := Lib.hid C
        have PD := Lib.hid (fun (h : dig (rr : Int) = true) => parse_digit (ls := ls) (ds := ds) (now := now) (f := f) hp ho (by rw [hrw]; exact h))
        have PT := Lib.hid (fun (h : dig (rr : Int) = true) => parse_told (ls := ls) (ds := ds) (now := now) (f := f) hp ho (by rw [hrw]; exact h))
        have PL := Lib.hid (fun (h : dig (rr : Int) = false) => parse_letter (ls := ls) (ds := ds) (now := now) (told := told) (f := f) hp ho (by rw [hrw]; exact h))
        rw [hrw, hww2] at PD PL
        clear hsc hF hrw hww2 FT ho
        go_upto_region 7 with fail
        go_cut [25] (fun v wx => v = .bool false ∧ wx = w1)
        case first =>
          by_cases hr : rr = 65533
          · rw [HF.out hr] at C
            subst hr
            go_wp2_with fail
            refine (C.out _).mono ?_
            rintro e w2 ⟨rfl, rfl⟩
            go_wp2_with fail
            go_meet
            exact ⟨rfl, rfl⟩
          · have hb : ((rr : Int) == 65533) = false := by simp; omega
            clear hr
            go_wp2_with fail
            go_meet
            exact ⟨rfl, rfl⟩
        case rest =>
          obtain ⟨rfl, rfl⟩ := hcut
          by_cases hdg : 48 ≤ (rr : Int) ∧ (rr : Int) ≤ 57
          · obtain ⟨k1, k2⟩ := hdg
            have hdd : dig (rr : Int) = true := by simp [dig]; omega
            cases told with
            | true =>
              have NB := Lib.hid ((PT.out hdd).symm.trans RES.out)
              clear hdd
              go_wp2_with fail
              go_ret3
              rw [HP.out, ← NB.out]
              exact ⟨rfl, BE.out⟩
            | false =>
              have NB := Lib.hid ((PD.out hdd).symm.trans RES.out)
              obtain ⟨gB, rfl, hgB, hgB2⟩ := OwnV.form OB.out (by omega)
              have hgi := OwnV.ne_iter OB.out IT.out
              have SB := Own.set_ OB.out ds.length ((rr : Int) - 48)
              rw [set_last] at SB
              have SB := Lib.hid SB
              have SA := Lib.hid (Own.far OA.out (g := gB) (j := ds.length) AP.out (.int .i64 ((rr : Int) - 48)))
              have SI := Lib.hid (IterIs.set_ IT.out (g := gB) (j := ds.length) hgi (.int .i64 ((rr : Int) - 48)))
              have SE := Lib.hid (Below.setCell BE.out (p := ⟨gB, ds.length, none⟩) hgB (.int .i64 ((rr : Int) - 48)))
              obtain ⟨m, hm⟩ : ∃ m, ds.length = m := ⟨_, rfl⟩
              rw [hm] at hdl OB SB SA SI SE ⊢
              have hfr := OwnV.frozenAt OB.out m
              have hcl : wc.cell? ⟨gB, m, none⟩ = some (.int .i64 now) := by
                rw [own_cellH OB.out (by omega)]
                unfold nth
                rw [← hm]
                simp
              have HM := Lib.hid hm
              have hmi : (m : Int) < (m : Int) + 1 := by omega
              have hgi2 : gB < wc.heap.size := hgB2
              clear hdd hgi hm
              go_wp2_with fail
              go_roundg (s.size - pos)
              case measure => omega
              case rel =>
                refine ⟨pos + ww, f, ls, ds, (rr : Int) - 48, true, A, some ⟨gB, 0, none⟩, c, d, ?_⟩
                exact ⟨by omega, by omega, by omega, rfl, by rw [HM.out], rfl, NB.out, by omega, by rw [HM.out]; omega, HLO.out, HDO.out, by omega, by omega, SA.out, by rw [HM.out]; exact SB.out, AP.out, SI.out, SE.out⟩
          · have hdd : dig (rr : Int) = false := by simp [dig]; omega
            have NB := Lib.hid ((PL.out hdd).symm.trans RES.out)
            have HD := Lib.hid hdd
            have HG := Lib.hid hdg
            clear hdd hdg
            go_upto_region 9 with fail
            go_cut [31] (fun v wx => v = .bool false ∧ wx = wc)
            case first =>
              have hg0 := HG.out
              by_cases h48 : (rr : Int) < 48
              · clear hg0
                go_wp2_with fail
                go_meet
                exact ⟨rfl, rfl⟩
              · have h57 : decide ((rr : Int) ≤ 57) = false := by simp; omega
                clear hg0
                go_wp2_with fail
                go_meet
                exact ⟨rfl, rfl⟩
            case rest =>
              obtain ⟨rfl, hw3⟩ := hcut
              subst hw3
              have hAB : ∀ g, B = some ⟨g, 0, none⟩ → g < wc.heap.size := fun g hg => by subst hg; exact (OwnV.ltH OB.out).2
              have HAB := Lib.hid hAB
              have hwz : w.heap.size ≤ wc.heap.size := BE.out.size
              obtain ⟨m, hm⟩ : ∃ m, ds.length = m := ⟨_, rfl⟩
              obtain ⟨l, hl⟩ : ∃ l, ls.length = l := ⟨_, rfl⟩
              rw [hm] at hdl OB ⊢
              rw [hl] at hll OA ⊢
              have HM := Lib.hid hm
              have HL := Lib.hid hl
              clear hAB hm hl
              go_wp2_with (first
                | (at_builtin; refine wpList_pushAt TI32h rfl (.tmp 41) (.tmp 43) rfl rfl (Own.alloc OA.out _) rfl (cell_new _ _ _) (by omega) (by simp; omega) ?_; intro A4 c4 w4 o4 b4 g4 a4; have OA4 := Lib.hid o4; have G4 := Lib.hid g4; have A4' := Lib.hid a4; have B4 := Lib.hid b4; have z4 : wc.heap.size + 1 ≤ w4.heap.size := (by have := b4.size; simpa using this); clear o4 b4 g4 a4)
                | (at_builtin; refine wpList_pushAt TI64h rfl (.tmp 45) (.tmp 46) rfl rfl (Own.alloc (Own.kept (Own.alloc OB.out _) G4.out AP.out.symm (OwnV.headC OA.out)) _) rfl (cell_new _ _ _) (by omega) (by simp; omega) ?_; intro A5 c5 w5 o5 b5 g5 a5; have OB5 := Lib.hid o5; have G5 := Lib.hid g5; have A5' := Lib.hid a5; have B5 := Lib.hid b5; clear o5 b5 g5 a5))
              have hAB1 : Apart A4 B := Apart.grow (w := wc.alloc (.cells #[.int .i32 (rr : Int)] 21)) AP.out (fun g hg => by have := HAB.out g hg; simp; omega) A4'.out
              have hOA5 := Own.kept (Own.alloc OA4.out _) G5.out hAB1 (OwnV.headC OB.out)
              have hAB2 : Apart A5 A4 := Apart.grow (w := w4.alloc (.cells #[.int .i64 0] 3)) hAB1.symm (fun g hg => by subst hg; have := (OwnV.ltH OA4.out).2; simp; omega) A5'.out
              have hOB4 := Own.kept (Own.alloc OB.out (.cells #[.int .i32 (rr : Int)] 21)) G4.out AP.out.symm (OwnV.headC OA.out)
              have hI4 := IterIs.grown (IterIs.alloc IT.out (.cells #[.int .i32 (rr : Int)] 21)) (Own.alloc OA.out (.cells #[.int .i32 (rr : Int)] 21)) G4.out
              have hI5 := IterIs.grown (IterIs.alloc hI4 (.cells #[.int .i64 0] 3)) (Own.alloc hOB4 (.cells #[.int .i64 0] 3)) G5.out
              have hB5 := ((((BE.out.alloc hwz (.cells #[.int .i32 (rr : Int)] 21)).trans B4.out).alloc (by omega) (.cells #[.int .i64 0] 3))).trans B5.out
              go_roundg (s.size - pos)
              case measure => omega
              case rel =>
                refine ⟨pos + ww, f, ls ++ [(rr : Int)], ds ++ [now], 0, false, A4, A5, c4, c5, ?_⟩
                have e1 : (ls ++ [(rr : Int)]).length = l + 1 := by simp [HL.out]
                have e2 : (ds ++ [now]).length = m + 1 := by simp [HM.out]
                exact ⟨by omega, by omega, by omega, by rw [e1], by rw [e2], rfl, NB.out, by omega, by omega, HLO.out.snoc HD.out HSC.out, HDO.out.snoc hn0 hn9, by omega, by omega, by rw [e1]; exact hOA5, by rw [e2]; exact OB5.out, hAB2.symm, hI5, hB5⟩
    · have hnx : ∀ ty, (Instr.next (.pointer (some ⟨w.heap.size + 1, 0, none⟩)) true ty).run Tryd.prog wr = _ := fun ty => Lib.run_next_end_at wr (w.heap.size + 1) s pos ty hit hp
      have NB := Lib.hid ((parse_end (f := f) (ls := ls) (ds := ds) (now := now) (told := told) hp).symm.trans RES.out)
      have hR2 : rightB ls = mayB ls := rightB_mayB HLO.out
      have hD2 : someB (ds ++ [now]) = anyB (ds ++ [now]) := someB_anyB (HDO.out.snoc hn0 hn9)
      have OA := Lib.hid hoA
      have OB := Lib.hid hoB
      have BE := Lib.hid hbe
      have hwz : w.heap.size ≤ wr.heap.size := hbe.size
      have C1 := fun W (h : W = wr) => right_any A ls.length c ls W (by subst h; exact OA.out.ints) (by omega)
      have C2 := fun W (h : W = wr) => some_any B (ds.length + 1) d (ds ++ [now]) W (by subst h; exact OB.out.ints) (by omega)
      rw [hR2] at C1
      rw [hD2] at C2
      have hgd : goodB (ls, ds ++ [now]) = (mayB ls && anyB (ds ++ [now])) := rfl
      have HGD := Lib.hid hgd
      have C1 := Lib.hid C1
      have C2 := Lib.hid C2
      have e2 : (ds ++ [now]).length = ds.length + 1 := by simp
      have E2 := Lib.hid e2
      clear hoA hoB hbe hit hR2 hD2 hgd e2
      generalize mayB ls = b1 at *
      generalize anyB (ds ++ [now]) = b2 at *
      cases b1 with
      | false =>
        go_wp2_with fail
        refine (C1.out _ rfl).mono ?_
        rintro e w2 ⟨rfl, rfl⟩
        go_wp2_with fail
        go_ret3
        rw [HP.out, ← NB.out]
        show ParsePost _ (if goodB (ls, ds ++ [now]) = true then some (ls, ds ++ [now]) else none) _ _
        rw [HGD.out]
        exact ⟨rfl, BE.out⟩
      | true =>
        go_wp2_with fail
        refine (C1.out _ rfl).mono ?_
        rintro e w2 ⟨rfl, rfl⟩
        go_wp2_with fail
        refine (C2.out _ rfl).mono ?_
        rintro e w2 ⟨rfl, rfl⟩
        cases b2 with
        | false =>
          go_wp2_with fail
          go_ret3
          rw [HP.out, ← NB.out]
          show ParsePost _ (if goodB (ls, ds ++ [now]) = true then some (ls, ds ++ [now]) else none) _ _
          rw [HGD.out]
          exact ⟨rfl, BE.out⟩
        | true =>
          go_wp2_with fail
          go_ret3
          rw [HP.out, ← NB.out]
          show ParsePost _ (if goodB (ls, ds ++ [now]) = true then some (ls, ds ++ [now]) else none) _ _
          rw [HGD.out]
          refine ⟨A, B, c, d, ?_, OA.out, ?_, BE.out⟩
          · show Ending.returned (Value.tuple #[Value.slice A ls.length c, Value.slice B (ds.length + 1) d, Value.bool true]) = Ending.returned (Value.tuple #[Value.slice A ls.length c, Value.slice B (ds ++ [now]).length d, Value.bool true])
            rw [E2.out]
          · show Own _ _ _ _ B (ds ++ [now]).length d _
            rw [E2.out]
            exact OB.out
end Go.Proofs.YtgianjnccpbnaaaDoor
