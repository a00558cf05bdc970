/- Chapter 20: the walk of HyphenKeeps. -/
import Derived.Test.YteehcmcljjdbeaaHkw
namespace Go.Proofs.Yteehcmcljjdbeaa
open Go.ChangeShapes Go.WideShapes Go.ChangeAt Go.RowKit
set_option maxRecDepth 100000
set_option linter.unusedSimpArgs false

/-- what the loops hold: the places, two lists -/
structure TwoL (w0 wr : World) (A : Option Addr) (c : Nat) (a : List Int) (B : Option Addr) (d : Nat) (b : List Int) : Prop where
  oa : IntsAt wr wr.heap.size .i64 A a.length a
  ob : IntsAt wr wr.heap.size .i64 B b.length b
  be : Below w0.heap.size w0 wr
theorem TwoL.pass {w0 wr w' : World} {A B : Option Addr} {c d : Nat} {a b : List Int} (h : TwoL w0 wr A c a B d b) (hb : Below wr.heap.size wr w') : TwoL w0 w' A c a B d b :=
  ⟨h.oa.later hb, h.ob.later hb, h.be.trans (hb.mono h.be.size)⟩

set_option maxHeartbeats 8000000 in
theorem HyphenKeeps_walk (A : Option Addr) (n c : Nat) (ss : List ByteArray) (C : Option Addr) (m d : Nat) (xs : List Int) (more : ByteArray) (hmore : more.size ≤ maxLen) (w : World) (hx : StrsIn w A n c ss) (hs : ∀ s ∈ ss, s.size ≤ maxLen) (hn : n ≤ 9223372036854775807) (hy : SliceIn .i32 w C m d xs) :
    Calls Try.prog 6 #[.slice A n c, .slice C m d, .string more] w fun e w' => e = .returned (.bool true) ∧ Below w.heap.size w w' := by
  have MN0 : Shut _ := ⟨many20_any A n c ss w hx hn hs⟩
  unfold maxLen at hmore
  cases hm : manyB ss with
  | true =>
    rw [hm] at MN0
    clear hm hx hs hy
    go_enter Try.func6, Try.ntmps6
    go_wp2_with fail
    refine MN0.out.mono ?_
    rintro e w1 ⟨rfl, rfl⟩
    go_wp2_with fail
    go_ret
    exact ⟨rfl, Below.refl _ _⟩
  | false =>
    rw [hm] at MN0
    obtain ⟨hl20, hs40⟩ := manyB_false hm
    rw [hx.len] at hl20
    by_cases h80 : 80 < m
    · have h8 : (80 : Int) < (m : Int) := by omega
      clear hm hx hs hy hs40
      go_enter Try.func6, Try.ntmps6
      go_wp2_with fail
      refine MN0.out.mono ?_
      rintro e w1 ⟨rfl, rfl⟩
      go_wp2_with fail
      go_ret
      exact ⟨rfl, Below.refl _ _⟩
    · have h8 : ¬ (80 : Int) < (m : Int) := by omega
      by_cases h40 : 40 < more.size
      · have h4 : (40 : Int) < (more.size : Int) := by omega
        clear hm hx hs hy hs40
        go_enter Try.func6, Try.ntmps6
        go_wp2_with fail
        refine MN0.out.mono ?_
        rintro e w1 ⟨rfl, rfl⟩
        go_wp2_with fail
        go_ret
        exact ⟨rfl, Below.refl _ _⟩
      · have h4 : ¬ (40 : Int) < (more.size : Int) := by omega
        have PN : Shut _ := ⟨pnew_any A n c ss w hx (by omega) (fun s h => by have := hs40 s h; omega)⟩
        have HX : Shut _ := ⟨hx⟩
        have HY : Shut _ := ⟨hy⟩
        have HS40 : Shut _ := ⟨hs40⟩
        have AL : Shut (∀ W, _) := ⟨fun W => alive20_any W⟩
        have XL : Shut _ := ⟨hy.at_.len⟩
        have SL : Shut _ := ⟨hx.len⟩
        cases hR : newF ss 0 [] with
        | inr q =>
          have hq := newF_err _ _ _ _ hR
          rw [hR] at PN
          obtain ⟨qi, qe⟩ := q
          simp only at hq
          have hq0 : ((qe : Int) != 0) = true := by rcases hq with rfl | rfl <;> rfl
          unfold NewPost at PN
          clear hm hx hs hy hs40 hR hq
          go_enter Try.func6, Try.ntmps6
          go_wp2_with fail
          refine MN0.out.mono ?_
          rintro e w1 ⟨rfl, rfl⟩
          go_wp2_with fail
          refine PN.out.mono ?_
          rintro e w1 ⟨rfl, b1⟩
          have B1 : Shut _ := ⟨b1⟩
          clear b1
          go_wp2_with fail
          refine (AL.out _).mono ?_
          rintro e w2 ⟨rfl, b2⟩
          have B2 : Shut _ := ⟨B1.out.trans (b2.mono B1.out.size)⟩
          clear b2
          go_wp2_with fail
          refine (AL.out _).mono ?_
          rintro e w3 ⟨rfl, b3⟩
          have B3 : Shut _ := ⟨B2.out.trans (b3.mono B2.out.size)⟩
          clear b3
          go_wp2_with fail
          go_ret
          exact ⟨rfl, B3.out⟩
        | inl L =>
          obtain ⟨hLok, hLl, hLm⟩ := newF_ok _ _ _ _ hR PatsOk.nil
          rw [hR] at PN
          unfold NewPost at PN
          have OK : Shut _ := ⟨hLok⟩
          have RR : Shut _ := ⟨hR⟩
          clear hm hx hs hy hs40 hR hLok hLl hLm
          go_enter Try.func6, Try.ntmps6
          go_wp2_with fail
          refine MN0.out.mono ?_
          rintro e w1 ⟨rfl, rfl⟩
          go_wp2_with fail
          refine PN.out.mono ?_
          rintro e w1 ⟨b0, N, node, kids, rfl, t1, b1⟩
          have B1 : Shut _ := ⟨b1⟩
          have T1 : Shut _ := ⟨t1⟩
          clear b1 t1 PN
          go_wp2_with fail
          refine (AL.out _).mono ?_
          rintro e w2 ⟨rfl, b2⟩
          have B2 : Shut _ := ⟨B1.out.trans (b2.mono B1.out.size)⟩
          have T2 : Shut _ := ⟨T1.out.pass b2⟩
          clear b2 T1 AL
          go_wp2_with fail
          refine (ppoints_any _ _ b0 N L OK.out node kids T2.out C m d xs (HY.out.passT B2.out) (by omega)).mono ?_
          rintro e w3 ⟨a, hpa, hal, A3, c3, rfl, own3, b3⟩
          have B3 : Shut (Below w.heap.size w w3) := ⟨B2.out.trans (b3.mono B2.out.size)⟩
          have T3 : Shut _ := ⟨T2.out.pass b3⟩
          have O3 : Shut _ := ⟨own3⟩
          have PA : Shut (Points L xs a) := ⟨hpa⟩
          rw [XL.out] at hal
          clear b3 T2 own3 hpa
          go_upto_block 0 with fail
          go_cut [11] (fun v wx => Shut (Below w3.heap.size w3 wx))
          case first =>
            go_wp2_with fail
            go_loopg [11] (a.length + 1) (fun gg v wr => ∃ i : Nat, a.length - i < gg ∧ i ≤ a.length ∧ v = .int .i64 (i : Int) ∧ Shut (Below w3.heap.size w3 wr))
            case atStart => exact ⟨0, by omega, by omega, rfl, ⟨Below.refl _ _⟩⟩
            case round =>
              obtain ⟨i, hg, hi, rfl, BE⟩ := hrel
              by_cases hlt : i < a.length
              · obtain ⟨e1, e2, e3⟩ := points_each PA.out hlt
                rw [XL.out] at e2
                have OB := O3.out.pass BE.out
                obtain ⟨ga, rfl, _⟩ := OwnV.form OB (by omega)
                have hc := later_cell (own_cellH OB hlt)
                have x1 : decide (nth a i < 2) = false := by simpa using e1
                have x2 : decide ((m : Int) - 3 < nth a i) = false := by simp; omega
                have x6 : IntKind.i64.wrap ((m : Int) - 3) = (m : Int) - 3 := IntWalk.i64_in _ (by omega)
                rcases Nat.eq_zero_or_pos i with h0 | h0
                · have x4 : decide ((0 : Int) < (i : Int)) = false := by simp; omega
                  have x5 : decide (0 < i) = false := by simp; omega
                  generalize nth a i = y at *
                  clear e3 OB e1 e2 h0
                  go_wp2_with fail
                  refine wp_region_later (by kernel_rfl) (by kernel_rfl) ?_
                  repeat (go_big_quiet_step (fail))
                  refine wpQuiet_nil ?_
                  intro _ hw'
                  obtain ⟨nqq, hw''⟩ := hw'
                  subst hw''
                  go_wp2_with fail
                  go_roundg (a.length - i)
                  case measure => omega
                  case rel => exact ⟨i + 1, by omega, by omega, by go_num, ⟨BE.out.trans (nqq.2.mono BE.out.size)⟩⟩
                · obtain ⟨k, hk⟩ : ∃ k, i = k + 1 := ⟨i - 1, by omega⟩
                  have hkk := e3 k (by omega)
                  have hck := later_cell (own_cellH OB (show k < a.length by omega))
                  have x3 : decide (nth a i ≤ nth a k) = false := by simp; omega
                  have x4 : decide ((0 : Int) < (i : Int)) = true := by simp; omega
                  have x5 : decide (0 < i) = true := by simp; omega
                  have x7 : (i : Int) - 1 = (k : Int) := by omega
                  have x8 : IntKind.i64.wrap (k : Int) = (k : Int) := IntWalk.i64_in _ (by omega)
                  have hkl : k < a.length := by omega
                  have HI : Shut (i = k + 1) := ⟨hk⟩
                  generalize nth a i = y at *
                  generalize nth a k = z at *
                  clear e3 OB e1 e2 h0 hk hkk
                  go_wp2_with fail
                  refine wp_region_later (by kernel_rfl) (by kernel_rfl) ?_
                  repeat (go_big_quiet_step (fail))
                  refine wpQuiet_nil ?_
                  intro _ hw'
                  obtain ⟨nqq, hw''⟩ := hw'
                  subst hw''
                  clear x7
                  go_wp2_with fail
                  go_roundg (a.length - i)
                  case measure => omega
                  case rel => exact ⟨i + 1, by omega, by omega, by go_num, ⟨BE.out.trans (nqq.2.mono BE.out.size)⟩⟩
              · go_wp2_with fail
                go_meet
                exact BE
          case rest =>
            have BC := hcut
            have hz3 := B3.out.size
            have BW : Shut (Below w.heap.size w wc) := ⟨B3.out.trans (BC.out.mono hz3)⟩
            have TC2 : Shut _ := ⟨T3.out.pass BC.out⟩
            have OC : Shut _ := ⟨O3.out.pass BC.out⟩
            have GR : Shut _ := ⟨great_any C m d xs wc (HY.out.passT BW.out) (by omega)⟩
            clear hcut BC T3
            go_wp2_with fail
            refine GR.out.mono ?_
            rintro e w4 ⟨A4, c4, rfl, own4, b4⟩
            have B4 : Shut (Below w.heap.size w w4) := ⟨BW.out.trans (b4.mono BW.out.size)⟩
            have T4 : Shut _ := ⟨TC2.out.pass b4⟩
            have O4 : Shut _ := ⟨OC.out.pass b4⟩
            have S4 : Shut (SliceIn .i32 w4 A4 m c4 (xs.map great20)) := ⟨Own.sliceIn own4 (fun x hx => by
              obtain ⟨y, hy, rfl⟩ := List.mem_map.1 hx
              exact great20_wf (HY.out.wf y hy))⟩
            clear b4 own4 TC2 OC GR
            go_wp2_with fail
            refine (ppoints_any _ _ b0 N L OK.out node kids T4.out A4 m c4 _ S4.out (by omega)).mono ?_
            rintro e w5 ⟨a2, hpa2, hal2, A5, c5, rfl, own5, b5⟩
            obtain rfl := Points.unique (points_great hpa2) PA.out
            have B5 : Shut (Below w.heap.size w w5) := ⟨B4.out.trans (b5.mono B4.out.size)⟩
            have O5 : Shut _ := ⟨O4.out.pass b5⟩
            have SM : Shut _ := ⟨same01_any A5 A3 a2.length a2.length c5 c3 a2 a2 w5 own5.ints O5.out.ints (by omega) (by omega)⟩
            rw [show (a2 == a2) = true by simp] at SM
            clear b5 own5 T4 O4 S4 hpa2 hal2
            go_wp2_with fail
            refine SM.out.mono ?_
            rintro e w6 ⟨rfl, b6⟩
            have B6 : Shut (Below w.heap.size w w6) := ⟨B5.out.trans (b6.mono B5.out.size)⟩
            have O6 : Shut _ := ⟨O5.out.pass b6⟩
            have PC : Shut _ := ⟨pparse_any more (by omega) w6⟩
            clear b6 O5 SM
            have X6 : Shut (∀ W, Below w6.heap.size w6 W → StrsIn W A n c ss) := ⟨fun W hW => HX.out.pass (B6.out.trans (hW.mono B6.out.size))⟩
            have MS : Shut (∀ s ∈ ss ++ [more], s.size ≤ 1000) := ⟨fun s hs => by
              rcases List.mem_append.1 hs with h | h
              · have := HS40.out s h; omega
              · obtain rfl := List.mem_singleton.1 h; omega⟩
            have NMO : Shut _ := ⟨newF_more ss 0 [] L more RR.out⟩
            have hz6 := B6.out.size
            have hml : (40 : Int) ≥ (more.size : Int) := by omega
            cases hp : parsed more with
            | none =>
              rw [hp] at PC
              rw [newF_none hp] at NMO
              clear hp
              go_wp2_with fail
              refine PC.out.mono ?_
              rintro e w7 ⟨rfl, b7⟩
              have B7 : Shut (Below w6.heap.size w6 w7) := ⟨b7⟩
              have hz7 := B7.out.size
              clear b7 PC
              go_wp2_with (first
                | (at_builtin; refine wpList_appendS rfl (.tmp 104) (.tmp 105) rfl rfl rfl (X6.out _ B7.out) (by omega) ?_; intro A8 c8 w8 o8 b8; have hz8 := b8.size)
                | (at_builtin; refine wpList_pushV TS rfl (.tmp 107) (.tmp 109) rfl rfl (OwnV.alloc o8 _) rfl (news := [.string more]) rfl (cells_one _ _ _) (fun u hu => by simp at hu; subst hu; rfl) (by omega) (by simp; omega) ?_; intro A9 c9 w9 o9 b9))
              rw [show ss.map Value.string ++ [.string more] = (ss ++ [more]).map Value.string by simp] at o9
              have PN2 : Shut _ := ⟨pnew_any A9 (n + 1) c9 (ss ++ [more]) w9 (strsIn_own o9) (by omega) MS.out⟩
              rw [NMO.out] at PN2
              unfold NewPost at PN2
              have B9 : Shut (Below w.heap.size w w9) := ⟨(((B6.out.trans (B7.out.mono hz6)).trans (b8.mono (by omega))).alloc (by omega) _).trans (b9.mono (by omega))⟩
              clear o8 o9 b8 b9
              go_wp2_with fail
              refine PN2.out.mono ?_
              rintro e w10 ⟨rfl, b10⟩
              have B10 : Shut (Below w.heap.size w w10) := ⟨B9.out.trans (b10.mono B9.out.size)⟩
              clear b10
              go_wp2_with fail
              go_ret
              exact ⟨rfl, B10.out⟩
            | some p =>
              rw [hp] at PC
              obtain ⟨q1, q2, q3, q4⟩ := parsed_ok hp
              have hpl := parsed_len20 hp
              have EV : Shut (∀ W A' c', IntsAt W W.heap.size .i64 A' p.2.length p.2 → _) := ⟨fun W A' c' h => even_any A' p.2.length c' p.2 W h (by omega) q4⟩
              have N1 : Shut _ := ⟨NMO.out.trans (newF_one hp)⟩
              clear hp q1 q2 q3 q4
              go_wp2_with fail
              refine PC.out.mono ?_
              rintro e w7 ⟨A7, D7, c7, d7, rfl, oL7, oD7, b7⟩
              have B7 : Shut (Below w6.heap.size w6 w7) := ⟨b7⟩
              have hz7 := B7.out.size
              have OD7 : Shut _ := ⟨oD7⟩
              clear b7 PC oL7 oD7
              go_wp2_with (first
                | (at_builtin; refine wpList_appendS rfl (.tmp 104) (.tmp 105) rfl rfl rfl (X6.out _ B7.out) (by omega) ?_; intro A8 c8 w8 o8 b8; have hz8 := b8.size)
                | (at_builtin; refine wpList_pushV TS rfl (.tmp 107) (.tmp 109) rfl rfl (OwnV.alloc o8 _) rfl (news := [.string more]) rfl (cells_one _ _ _) (fun u hu => by simp at hu; subst hu; rfl) (by omega) (by simp; omega) ?_; intro A9 c9 w9 o9 b9))
              rw [show ss.map Value.string ++ [.string more] = (ss ++ [more]).map Value.string by simp] at o9
              have PN2 : Shut _ := ⟨pnew_any A9 (n + 1) c9 (ss ++ [more]) w9 (strsIn_own o9) (by omega) MS.out⟩
              have X79 : Shut (Below w7.heap.size w7 w9) := ⟨(b8.alloc (by omega) _).trans b9⟩
              have B9 : Shut (Below w.heap.size w w9) := ⟨(B6.out.trans (B7.out.mono hz6)).trans (X79.out.mono (by omega))⟩
              have OD9 : Shut _ := ⟨OD7.out.pass X79.out⟩
              have O9 : Shut _ := ⟨(O6.out.pass B7.out).pass X79.out⟩
              have LR : Shut _ := ⟨newF_ok (ss ++ [more]) 0 [] (L ++ [p])⟩
              clear o8 o9 b8 b9 OD7 O6
              cases hlk : (look L p.1).isSome with
              | true =>
                rw [N1.out, hlk, if_pos rfl] at PN2
                unfold NewPost at PN2
                clear hlk
                go_wp2_with fail
                refine PN2.out.mono ?_
                rintro e w10 ⟨rfl, b10⟩
                have B10 : Shut (Below w.heap.size w w10) := ⟨B9.out.trans (b10.mono B9.out.size)⟩
                have E10 : Shut _ := ⟨EV.out w10 D7 d7 (OD9.out.pass b10).ints⟩
                clear b10
                cases hev : evenB p.2 with
                | true =>
                  rw [hev] at E10
                  clear hev
                  go_wp2_with fail
                  refine E10.out.mono ?_
                  rintro e w11 ⟨rfl, rfl⟩
                  go_wp2_with fail
                  go_ret
                  exact ⟨rfl, B10.out⟩
                | false =>
                  rw [hev] at E10
                  clear hev
                  go_wp2_with fail
                  refine E10.out.mono ?_
                  rintro e w11 ⟨rfl, rfl⟩
                  go_wp2_with fail
                  go_ret
                  exact ⟨rfl, B10.out⟩
              | false =>
                rw [N1.out, hlk, if_neg (by simp)] at PN2
                have OK2 : Shut (PatsOk (L ++ [p])) := ⟨(LR.out (by rw [N1.out, hlk, if_neg (by simp)]) PatsOk.nil).1⟩
                unfold NewPost at PN2
                clear hlk
                go_wp2_with fail
                refine PN2.out.mono ?_
                rintro e w10 ⟨b1, N', node', kids', rfl, t10, b10⟩
                have B10 : Shut (Below w.heap.size w w10) := ⟨B9.out.trans (b10.mono B9.out.size)⟩
                have T10 : Shut _ := ⟨t10⟩
                have O10 : Shut _ := ⟨O9.out.pass b10⟩
                have E10 : Shut _ := ⟨EV.out w10 D7 d7 (OD9.out.pass b10).ints⟩
                clear b10 t10
                cases hev : evenB p.2 with
                | false =>
                  rw [hev] at E10
                  clear hev
                  go_wp2_with fail
                  refine E10.out.mono ?_
                  rintro e w11 ⟨rfl, rfl⟩
                  go_wp2_with fail
                  go_ret
                  exact ⟨rfl, B10.out⟩
                | true =>
                  rw [hev] at E10
                  have HEV : Shut _ := ⟨hev⟩
                  clear hev
                  go_wp2_with fail
                  refine E10.out.mono ?_
                  rintro e w11 ⟨rfl, rfl⟩
                  go_wp2_with fail
                  refine (ppoints_any _ _ b1 N' (L ++ [p]) OK2.out node' kids' T10.out C m d xs (HY.out.passT B10.out) (by omega)).mono ?_
                  rintro e w12 ⟨b, hpb, hbl, A12, c12, rfl, own12, b12⟩
                  have B12 : Shut (Below w.heap.size w w12) := ⟨B10.out.trans (b12.mono B10.out.size)⟩
                  have OA : Shut _ := ⟨O10.out.pass b12⟩
                  have OB : Shut _ := ⟨own12⟩
                  have SUB : Shut _ := ⟨points_even HEV.out PA.out hpb⟩
                  have RA : Shut (∀ i, i < a2.length → ∀ j, j < i → nth a2 j < nth a2 i) := ⟨fun i hi => (points_each PA.out hi).2.2⟩
                  have RB : Shut (∀ i, i < b.length → ∀ j, j < i → nth b j < nth b i) := ⟨fun i hi => (points_each hpb hi).2.2⟩
                  rw [XL.out] at hbl
                  clear b12 own12 hpb E10 T10 O10 B10
                  go_wp2_with fail
                  go_loopg [20, 21] (b.length + 1) (fun gg v20 v21 wr => ∃ (k i : Nat), b.length - i < gg ∧ i ≤ b.length ∧ k ≤ a2.length ∧ v20 = .int .i64 (k : Int) ∧ v21 = .int .i64 (i : Int) ∧ Shut (∀ j, j < k → ∀ i', i ≤ i' → i' < b.length → nth a2 j < nth b i') ∧ Shut (Below w12.heap.size w12 wr))
                  case atStart => exact ⟨0, 0, by omega, by omega, by omega, rfl, rfl, ⟨fun j h => by omega⟩, ⟨Below.refl _ _⟩⟩
                  case round =>
                    obtain ⟨k, i, hg, hib, hka, rfl, rfl, KI, BE⟩ := hrel
                    by_cases hlt : i < b.length
                    · have HG : Shut (b.length - i < gk) := ⟨hg⟩
                      have K1 : Shut (∀ j, j < k → nth a2 j < nth b i) := ⟨fun j hj => KI.out j hj i (Nat.le_refl _) hlt⟩
                      obtain ⟨t, hta, htb⟩ : ∃ t, t < a2.length ∧ nth a2 t = nth b i := by
                        have := SUB.out (nth b i) (by rw [nth_eq hlt]; exact List.getElem_mem ..)
                        obtain ⟨t, ht, he⟩ := List.getElem_of_mem this
                        exact ⟨t, ht, by rw [nth_eq ht, he]⟩
                      have HT : Shut (t < a2.length ∧ nth a2 t = nth b i) := ⟨⟨hta, htb⟩⟩
                      have NXI : Shut (∀ k', (∀ j, j < k' → nth a2 j < nth b i) → ∀ j, j < k' → ∀ i', i + 1 ≤ i' → i' < b.length → nth a2 j < nth b i') := ⟨fun k' h j hj i' h1 h2 => by
                        have e1 := h j hj
                        have e2 := RB.out i' h2 i (by omega)
                        omega⟩
                      obtain ⟨wo, rfl⟩ : ∃ wo : World, wo = wr := ⟨_, rfl⟩
                      have BE0 : Shut (Below wo.heap.size wo wo) := ⟨Below.refl _ _⟩
                      clear hg hta htb
                      go_wp2_with fail
                      go_loopg [20] (a2.length + 1) (fun gg v20 wr => ∃ (k : Nat), a2.length - k < gg ∧ k ≤ a2.length ∧ v20 = .int .i64 (k : Int) ∧ Shut (∀ j, j < k → nth a2 j < nth b i) ∧ Shut (Below wo.heap.size wo wr))
                      case atStart => exact ⟨k, by omega, hka, rfl, K1, BE0⟩
                      case round =>
                        obtain ⟨k, hg2, hka2, rfl, K2, BW2⟩ := hrel
                        have hwz := BE.out.size
                        have B13 : Shut (Below w12.heap.size w12 wr) := ⟨BE.out.trans (BW2.out.mono hwz)⟩
                        have hkl : k < a2.length := by
                          rcases Nat.lt_or_ge k a2.length with h | h
                          · exact h
                          · have h1 := K2.out t (by have := HT.out.1; omega)
                            have h2 := HT.out.2
                            omega
                        have oa := OA.out.pass B13.out
                        have ob := OB.out.pass B13.out
                        obtain ⟨g1, rfl, _⟩ := OwnV.form oa (by omega)
                        obtain ⟨g2, rfl, _⟩ := OwnV.form ob (by omega)
                        have c1 := later_cell (own_cellH oa hkl)
                        have c2 := later_cell (own_cellH ob hlt)
                        have f1 : decide ((k : Int) < (a2.length : Int)) = true := by simp; omega
                        have f2 : decide (k < a2.length) = true := by simpa using hkl
                        by_cases hxy : nth a2 k < nth b i
                        · have K3 : Shut (∀ j, j < k + 1 → nth a2 j < nth b i) := ⟨fun j hj => by
                            rcases Nat.lt_or_ge j k with h3 | h3
                            · exact K2.out j h3
                            · obtain rfl : j = k := by omega
                              exact hxy⟩
                          have f3 : decide (nth a2 k < nth b i) = true := by simpa using hxy
                          generalize nth a2 k = x at c1 f3
                          generalize nth b i = y at c2 f3
                          clear oa ob hxy
                          go_wp2_with fail
                          refine wp_region_later (by kernel_rfl) (by kernel_rfl) ?_
                          repeat (go_big_quiet_step (fail))
                          refine wpQuiet_nil ?_
                          intro _ hw'
                          obtain ⟨nqq, hw''⟩ := hw'
                          subst hw''
                          go_wp2_with fail
                          have BN : Shut (Below wo.heap.size wo nqq.1) := ⟨BW2.out.trans (nqq.2.mono BW2.out.size)⟩
                          go_roundg (a2.length - k)
                          case measure => omega
                          case rel => exact ⟨k + 1, by omega, by omega, by go_num, K3, BN⟩
                        · have hEq : nth a2 k = nth b i := by
                            have h2 := HT.out.2
                            have h3 := HT.out.1
                            rcases Nat.lt_or_ge t k with h4 | h4
                            · have := K2.out t h4; omega
                            · rcases Nat.lt_or_ge k t with h5 | h5
                              · have := RA.out t h3 k h5; omega
                              · obtain rfl : k = t := by omega
                                exact h2
                          have f3 : decide (nth a2 k < nth b i) = false := by simpa using hxy
                          have f4 : (nth a2 k != nth b i) = false := by simp [hEq]
                          have f5 : ((k : Int) == (a2.length : Int)) = false := by simp; omega
                          generalize nth a2 k = x at c1 f3 f4
                          generalize nth b i = y at c2 f3 f4
                          clear oa ob hxy hEq
                          go_wp2_with fail
                          refine wp_region_later (by kernel_rfl) (by kernel_rfl) ?_
                          repeat (go_big_quiet_step (fail))
                          refine wpQuiet_nil ?_
                          intro _ hw'
                          obtain ⟨nqq, hw''⟩ := hw'
                          subst hw''
                          have c1n : ∀ N : Later nqq.1, _ := fun N => c1 ⟨N.1, nqq.2.trans (N.2.mono nqq.2.size)⟩
                          have c2n : ∀ N : Later nqq.1, _ := fun N => c2 ⟨N.1, nqq.2.trans (N.2.mono nqq.2.size)⟩
                          simp only at c1n c2n
                          clear c1 c2
                          go_wp2_with fail
                          refine wp_region_later (by kernel_rfl) (by kernel_rfl) ?_
                          repeat (go_big_quiet_step (fail))
                          refine wpQuiet_nil ?_
                          intro _ hw'
                          obtain ⟨nqr, hw''⟩ := hw'
                          subst hw''
                          go_wp2_with fail
                          have BN : Shut (Below w12.heap.size w12 nqr.1) := ⟨(B13.out.trans (nqq.2.mono B13.out.size)).trans (nqr.2.mono (Nat.le_trans B13.out.size nqq.2.size))⟩
                          have KN : Shut _ := ⟨NXI.out k K2.out⟩
                          go_roundg (b.length - i)
                          case measure => exact HG.out
                          case rel => exact ⟨k, i + 1, by omega, by omega, hka2, rfl, by go_num, KN, BN⟩
                    · go_wp2_with fail
                      go_ret
                      exact ⟨rfl, B12.out.trans (BE.out.mono B12.out.size)⟩
end Go.Proofs.Yteehcmcljjdbeaa
