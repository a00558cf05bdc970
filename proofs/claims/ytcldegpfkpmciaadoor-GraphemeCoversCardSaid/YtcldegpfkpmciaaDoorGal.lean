/- Chapter 7: the example; the walks of GraphemeCuts, GraphemeSteps, GraphemeAlone. -/
import Derived.Test.YtcldegpfkpmciaaDoorGw
namespace Go.Proofs.YtcldegpfkpmciaaDoor
open Go.ChangeShapes Go.WideShapes Go.ChangeAt Go.RowKit
set_option maxRecDepth 100000
set_option linter.unusedSimpArgs false

theorem exB1 : (bndA (ks [101, 769, 120])).length = 3 ∧ bounds (ks [101, 769, 120]) = [0, 2, 3] := by decide +kernel
theorem exB2 : (bndA (ks [127462, 127462, 127462, 127462])).length = 3 ∧ bounds (ks [127462, 127462, 127462, 127462]) = [0, 2, 4] := by decide +kernel
theorem exW : winF0 (ks [97, 769, 769, 98]) 1 = 1 ∧ winT0 (ks [97, 769, 769, 98]) 1 = 3 := by decide +kernel
theorem exC1 : (cutsL (ks [13, 10])).length = 1 := by decide +kernel
theorem exC2 : (cutsL (ks [128102, 8205, 128102])).length = 1 := by decide +kernel
theorem exC3 : (cutsL (ks [97, 8205, 128102])).length = 2 := by decide +kernel
theorem exBounds (xs : List Int) (k : Nat) (bs : List Int) (h : (bndA (ks xs)).length = k ∧ bounds (ks xs) = bs) (hk : 0 < k) (w : World) (hl : Laid w) (A : Option Addr) (n : Nat) (hx : SliceIn .i32 w A n n xs) (hn : (n + 1) * 8 ≤ 140737488355328) :
    Calls Tryd.prog 20 #[.slice A n n] w fun e w' => ∃ (g c : Nat), e = .returned (.slice (some ⟨g, 0, none⟩) k c) ∧ Own w' w.heap.size 3 .i64 (some ⟨g, 0, none⟩) k c bs ∧ Below w.heap.size w w' := by
  refine (pbounds_any A n n xs w hx hl hn).mono ?_
  rw [h.1, h.2]
  rintro e w' ⟨A1, c1, rfl, ho, hb⟩
  obtain ⟨g, rfl, _⟩ := OwnV.form ho hk
  exact ⟨g, c1, rfl, ho, hb⟩

set_option maxHeartbeats 4000000 in
theorem alive07_any (w : World) (hl : Laid w) : Calls Tryd.prog 14 #[] w fun e w' => e = .returned (.bool true) ∧ Below w.heap.size w w' := by
  have L0 := Lib.hid hl
  clear hl
  go_enter Tryd.func14, Tryd.ntmps14
  go_wp2_with fail
  refine (exBounds [101, 769, 120] 3 [0, 2, 3] exB1 (by omega) _ (L0.out.alloc _) _ 3 (lit_in [101, 769, 120] 3 rfl (by omega) (by decide) _ rfl) (by omega)).mono ?_
  rintro e w1 ⟨g1, c1, rfl, ho1, hb1⟩
  have x1 := (below_alloc w _).trans (hb1.mono (below_alloc w _).size)
  have X1 := Lib.hid x1
  have L1 := Lib.hid (L0.out.pass x1)
  have O1 := Lib.hid ho1
  clear hb1 x1 ho1
  go_wp2_with fail
  refine (exBounds [127462, 127462, 127462, 127462] 3 [0, 2, 4] exB2 (by omega) _ (L1.out.alloc _) _ 4 (lit_in [127462, 127462, 127462, 127462] 4 rfl (by omega) (by decide) _ rfl) (by omega)).mono ?_
  rintro e w2 ⟨g2, c2, rfl, ho2, hb2⟩
  have x2 := (below_alloc w1 _).trans (hb2.mono (below_alloc w1 _).size)
  have X2 := Lib.hid (X1.out.trans (x2.mono X1.out.size))
  have O1' := Lib.hid (O1.out.pass x2)
  have L2 := Lib.hid (L1.out.pass x2)
  have O2 := Lib.hid ho2
  clear hb2 x2 ho2
  go_wp2_with fail
  refine (pwindow_any _ 4 4 [97, 769, 769, 98] 1 _ (lit_in [97, 769, 769, 98] 4 rfl (by omega) (by decide) _ rfl) (L2.out.alloc _) (by omega)).mono ?_
  rw [exW.1, exW.2]
  rintro e w3 ⟨rfl, hb3⟩
  have x3 := (below_alloc w2 _).trans (hb3.mono (below_alloc w2 _).size)
  have X3 := Lib.hid (X2.out.trans (x3.mono X2.out.size))
  have L3 := Lib.hid (L2.out.pass x3)
  have m1 := own_cellG (O1'.out.pass x3) (j := 1) (by omega)
  have m2 := own_cellG (O2.out.pass x3) (j := 1) (by omega)
  simp only [nth, List.getD_eq_getElem?_getD, List.getElem?_cons_zero, List.getElem?_cons_succ, Option.getD_some] at m1 m2
  clear hb3 x3
  go_wp2_with fail
  refine (pcount_any _ 2 2 [13, 10] _ (lit_in [13, 10] 2 rfl (by omega) (by decide) _ rfl) (L3.out.alloc _) (by omega)).mono ?_
  rw [exC1]
  rintro e w4 ⟨rfl, hb4⟩
  have x4 := (below_alloc w3 _).trans (hb4.mono (below_alloc w3 _).size)
  have X4 := Lib.hid (X3.out.trans (x4.mono X3.out.size))
  have L4 := Lib.hid (L3.out.pass x4)
  clear hb4 x4
  go_wp2_with fail
  refine (pcount_any _ 3 3 [128102, 8205, 128102] _ (lit_in [128102, 8205, 128102] 3 rfl (by omega) (by decide) _ rfl) (L4.out.alloc _) (by omega)).mono ?_
  rw [exC2]
  rintro e w5 ⟨rfl, hb5⟩
  have x5 := (below_alloc w4 _).trans (hb5.mono (below_alloc w4 _).size)
  have X5 := Lib.hid (X4.out.trans (x5.mono X4.out.size))
  have L5 := Lib.hid (L4.out.pass x5)
  clear hb5 x5
  go_wp2_with fail
  refine (pcount_any _ 3 3 [97, 8205, 128102] _ (lit_in [97, 8205, 128102] 3 rfl (by omega) (by decide) _ rfl) (L5.out.alloc _) (by omega)).mono ?_
  rw [exC3]
  rintro e w6 ⟨rfl, hb6⟩
  have x6 := (below_alloc w5 _).trans (hb6.mono (below_alloc w5 _).size)
  have X6 := Lib.hid (X5.out.trans (x6.mono X5.out.size))
  clear hb6 x6
  go_wp2_with fail
  go_ret
  exact ⟨rfl, X6.out⟩

/-- two lists that are the same -/
theorem numbers_same (A C : Option Addr) (n c d : Nat) (xs : List Int) (w : World) (hx : IntsAt w w.heap.size .i64 A n xs) (hy : IntsAt w w.heap.size .i64 C n xs) (hn : n ≤ 140737488355328) :
    Calls Tryd.prog 19 #[.slice A n c, .slice C n d] w fun e w' => e = .returned (.bool true) ∧ Below w.heap.size w w' := by
  have HX := Lib.hid hx
  have HY := Lib.hid hy
  clear hx hy
  go_enter Tryd.func19, Tryd.ntmps19
  go_wp2_with fail
  go_loopw [13] (fun i wr => ∃ k : Nat, k ≤ n ∧ i = .int .i64 k ∧ Below w.heap.size w wr) (fun i _ => n - (intOf i).toNat)
  case atStart => exact ⟨0, Nat.zero_le _, rfl, Below.refl _ _⟩
  case round =>
    obtain ⟨k, hk, rfl, hb⟩ := hrel
    have HB := Lib.hid hb
    by_cases hlt : k < n
    · obtain ⟨ga, rfl, _, hca⟩ := (HX.out.below hb).2 (by omega)
      obtain ⟨gb, rfl, _, hcb⟩ := (HY.out.below hb).2 (by omega)
      have ca := hca k hlt
      have cb := hcb k hlt
      clear hca hcb hb
      generalize nth xs k = v at *
      go_wp2_with fail
      go_quiet (fail)
      go_wp2_with fail
      go_roundw
      case rel => exact ⟨k + 1, by omega, by go_num, below_drewN HB.out _⟩
      case measure => simp [intOf] <;> omega
    · obtain rfl : k = n := by omega
      go_wp2_with fail
      go_ret
      exact ⟨rfl, HB.out⟩
theorem cutNeqG (a b : Int) (w : World) : (binOp .neq 31 (.agg #[.int .i64 a, .int .i64 b]) (.agg #[.int .i64 a, .int .i64 b])).run Tryd.prog w = .ok (.bool false) w := by
  simp [go_sem]
theorem cutsL_le {l : List Int} {n : Nat} (h : l.length = n) : (cutsL l).length ≤ n ∧ (bndA l).length ≤ n + 1 := by
  have h1 := bndN_len l (l.length + 1)
  have e1 : bndN l (l.length + 1) = bndA l := rfl
  rw [e1, h] at h1
  unfold cutsL
  rw [prs_len]
  omega

set_option maxHeartbeats 4000000 in
theorem GraphemeCuts_walk (A : Option Addr) (n c : Nat) (xs : List Int) (w : World) (hx : SliceIn .i32 w A n c xs) (hl : Laid w) :
    Calls Tryd.prog 3 #[.slice A n c] w fun e w' => e = .returned (.bool true) ∧ Below w.heap.size w w' := by
  have HX := Lib.hid hx
  have HL := Lib.hid hl
  have hkn : (ks xs).length = n := by rw [ks_len]; exact hx.at_.len
  clear hx hl
  by_cases hlen : 200 < n
  · go_enter Tryd.func3, Tryd.ntmps3
    go_wp2_with fail
    refine (alive07_any _ HL.out).mono ?_
    rintro e w1 ⟨rfl, hb1⟩
    go_wp2_with fail
    go_ret
    exact ⟨rfl, hb1⟩
  · have P1 := Lib.hid (pcuts_any A n c xs w HX.out HL.out (by omega))
    have P2 := Lib.hid (fun w' (hb : Below w.heap.size w w') => rcuts_any A n c xs w' (HX.out.pass hb) (by omega))
    have P3 := Lib.hid (fun w' (hb : Below w.heap.size w w') => pcount_any A n c xs w' (HX.out.pass hb) (HL.out.pass hb) (by omega))
    have P4 := Lib.hid (fun w' (hb : Below w.heap.size w w') => rcount_any A n c xs w' (HX.out.pass hb) (by omega))
    have P5 := Lib.hid (fun w' (hb : Below w.heap.size w w') => pbounds_any A n c xs w' (HX.out.pass hb) (HL.out.pass hb) (by omega))
    have P6 := Lib.hid (fun w' (hb : Below w.heap.size w w') => rbounds_any A n c xs w' (HX.out.pass hb) (by omega))
    obtain ⟨hcl, hbl⟩ := cutsL_le hkn
    obtain ⟨ps, hps⟩ : ∃ ps, cutsL (ks xs) = ps := ⟨_, rfl⟩
    obtain ⟨bn, hbn⟩ : ∃ bn, (bndA (ks xs)).length = bn := ⟨_, rfl⟩
    obtain ⟨bs, hbs⟩ : ∃ bs, bounds (ks xs) = bs := ⟨_, rfl⟩
    rw [hps] at P1 P2 P3 P4 hcl
    rw [hbn] at P5 P6 hbl
    rw [hbs] at P5 P6
    obtain ⟨m, hm⟩ : ∃ m, ps.length = m := ⟨_, rfl⟩
    have HM := Lib.hid hm
    unfold NewCutsG at P1 P2
    rw [hm] at P1 P2 P3 P4 hcl
    clear hm hps hbn hbs hkn
    go_enter Tryd.func3, Tryd.ntmps3
    go_wp2_with fail
    refine P1.out.mono ?_
    rintro e w1 ⟨A1, c1, rfl, o1, x1⟩
    go_wp2_with fail
    refine (P2.out _ x1).mono ?_
    rintro e w2 ⟨A2, c2, rfl, o2, hb2⟩
    have x2 := x1.trans (hb2.mono x1.size)
    have O1 := Lib.hid (o1.pass hb2)
    have O2 := Lib.hid o2
    clear o1 o2 hb2 x1
    go_wp2_with fail
    refine (P3.out _ x2).mono ?_
    rintro e w3 ⟨rfl, hb3⟩
    have x3 := x2.trans (hb3.mono x2.size)
    go_wp2_with fail
    refine (P4.out _ x3).mono ?_
    rintro e w4 ⟨rfl, hb4⟩
    have x4 := x3.trans (hb4.mono x3.size)
    have y4 := hb3.trans (hb4.mono hb3.size)
    clear hb3 hb4 x2 x3
    go_wp2_with fail
    refine (P5.out _ x4).mono ?_
    rintro e w5 ⟨A5, c5, rfl, o5, hb5⟩
    have x5 := x4.trans (hb5.mono x4.size)
    have y5 := y4.trans (hb5.mono y4.size)
    clear hb5 x4 y4
    go_wp2_with fail
    refine (P6.out _ x5).mono ?_
    rintro e w6 ⟨A6, c6, rfl, o6, hb6⟩
    have x6 := x5.trans (hb6.mono x5.size)
    have y6 := y5.trans (hb6.mono y5.size)
    have N7 := Lib.hid (numbers_same A5 A6 bn c5 c6 bs w6 (o5.ints.later hb6) o6.ints (by omega))
    clear hb6 x5 y5 o5 o6
    go_wp2_with fail
    refine N7.out.mono ?_
    rintro e w7 ⟨rfl, hb7⟩
    have X7 := Lib.hid (x6.trans (hb7.mono x6.size))
    have y7 := y6.trans (hb7.mono y6.size)
    have OA := Lib.hid (O1.out.pass y7)
    have OB := Lib.hid (O2.out.pass y7)
    clear hb7 x6 y6 y7 N7
    go_wp2_with fail
    go_loopw [36] (fun i wr => ∃ k : Nat, k ≤ m ∧ i = .int .i64 k ∧ Below w7.heap.size w7 wr) (fun i _ => m - (intOf i).toNat)
    case atStart => exact ⟨0, Nat.zero_le _, rfl, Below.refl _ _⟩
    case round =>
      obtain ⟨k, hk, rfl, hb⟩ := hrel
      by_cases hlt : k < m
      · have oa := OA.out.pass hb
        have ob := OB.out.pass hb
        obtain ⟨ga, rfl, _⟩ := OwnV.form oa (by omega)
        obtain ⟨gb, rfl, _⟩ := OwnV.form ob (by omega)
        obtain ⟨v1, v2⟩ := cutsV_at ps k (by rw [HM.out]; exact hlt)
        have ca := (OwnV.cellAt oa (k * 2) (by omega)).trans v1
        have ca2 := (OwnV.cellAt oa (k * 2 + 1) (by omega)).trans v2
        have cb := (OwnV.cellAt ob (k * 2) (by omega)).trans v1
        have cb2 := (OwnV.cellAt ob (k * 2 + 1) (by omega)).trans v2
        have HB := Lib.hid hb
        clear oa ob hb v1 v2
        generalize (rng ps k).1 = f at *
        generalize (rng ps k).2 = t at *
        have cn := cutNeqG f t
        go_wp2_with fail
        go_quiet (fail)
        go_wp2_with fail
        go_roundw
        case rel => exact ⟨k + 1, by omega, by go_num, below_drewN HB.out _⟩
        case measure => simp [intOf] <;> omega
      · obtain rfl : k = m := by omega
        have X8 := Lib.hid (X7.out.trans (hb.mono X7.out.size))
        go_wp2_with fail
        refine (alive07_any _ (HL.out.pass X8.out)).mono ?_
        rintro e w8 ⟨rfl, hb8⟩
        have x8 := X8.out.trans (hb8.mono X8.out.size)
        go_wp2_with fail
        go_ret
        exact ⟨rfl, x8⟩

set_option maxHeartbeats 2000000 in
theorem GraphemeSteps_walk (A : Option Addr) (n c : Nat) (xs : List Int) (i : Int) (_hi : (Lit.int .i64 i).wf = true) (w : World) (hx : SliceIn .i32 w A n c xs) (hl : Laid w) :
    Calls Tryd.prog 6 #[.slice A n c, .int .i64 i] w fun e w' => e = .returned (.bool true) ∧ Below w.heap.size w w' := by
  have HX := Lib.hid hx
  have HL := Lib.hid hl
  clear hx hl
  by_cases hlen : 200 < n
  · go_enter Tryd.func6, Tryd.ntmps6
    go_wp2_with fail
    refine (alive07_any _ HL.out).mono ?_
    rintro e w1 ⟨rfl, hb1⟩
    go_wp2_with fail
    go_ret
    exact ⟨rfl, hb1⟩
  · have P1 := Lib.hid (fun w' (hb : Below w.heap.size w w') => pwindow_any A n c xs i w' (HX.out.pass hb) (HL.out.pass hb) (by omega))
    have P2 := Lib.hid (fun w' (hb : Below w.heap.size w w') => rwindow_any A n c xs i w' (HX.out.pass hb) (by omega))
    have P3 := Lib.hid (fun w' (hb : Below w.heap.size w w') => pis_any A n c xs i w' (HX.out.pass hb) (HL.out.pass hb) (by omega))
    have P4 := Lib.hid (fun w' (hb : Below w.heap.size w w') => ris_any A n c xs i w' (HX.out.pass hb) (by omega))
    have P5 := Lib.hid (fun w' (hb : Below w.heap.size w w') => pnext_any A n c xs i w' (HX.out.pass hb) (HL.out.pass hb) (by omega))
    have P6 := Lib.hid (fun w' (hb : Below w.heap.size w w') => rnext_any A n c xs i w' (HX.out.pass hb) (by omega))
    have P7 := Lib.hid (fun w' (hb : Below w.heap.size w w') => pprev_any A n c xs i w' (HX.out.pass hb) (HL.out.pass hb) (by omega))
    have P8 := Lib.hid (fun w' (hb : Below w.heap.size w w') => rprev_any A n c xs i w' (HX.out.pass hb) (by omega))
    generalize winF0 (ks xs) i = a at *
    generalize winT0 (ks xs) i = b at *
    generalize isI (ks xs) i = d at *
    generalize ((nextV (ks xs) i : Nat) : Int) = f at *
    generalize ((prevV (ks xs) i : Nat) : Int) = g at *
    go_enter Tryd.func6, Tryd.ntmps6
    go_wp2_with fail
    refine (P1.out _ (Below.refl _ _)).mono ?_
    rintro e v ⟨rfl, x⟩
    go_wp2_with fail
    refine (P2.out _ x).mono ?_
    rintro e v ⟨rfl, hv⟩
    replace x := x.trans (hv.mono x.size)
    clear hv
    go_wp2_with fail
    refine (P3.out _ x).mono ?_
    rintro e v ⟨rfl, hv⟩
    replace x := x.trans (hv.mono x.size)
    clear hv
    go_wp2_with fail
    refine (P4.out _ x).mono ?_
    rintro e v ⟨rfl, hv⟩
    replace x := x.trans (hv.mono x.size)
    clear hv
    go_wp2_with fail
    refine (P5.out _ x).mono ?_
    rintro e v ⟨rfl, hv⟩
    replace x := x.trans (hv.mono x.size)
    clear hv
    go_wp2_with fail
    refine (P6.out _ x).mono ?_
    rintro e v ⟨rfl, hv⟩
    replace x := x.trans (hv.mono x.size)
    clear hv
    go_wp2_with fail
    refine (P7.out _ x).mono ?_
    rintro e v ⟨rfl, hv⟩
    replace x := x.trans (hv.mono x.size)
    clear hv
    go_wp2_with fail
    refine (P8.out _ x).mono ?_
    rintro e v ⟨rfl, hv⟩
    replace x := x.trans (hv.mono x.size)
    clear hv
    go_wp2_with fail
    refine (alive07_any _ (HL.out.pass x)).mono ?_
    rintro e v ⟨rfl, hv⟩
    replace x := x.trans (hv.mono x.size)
    clear hv
    go_wp2_with fail
    go_ret
    exact ⟨rfl, x⟩

theorem stops07_any (c : Int) (w : World) : Calls Tryd.prog 26 #[.int .i64 c] w fun e w' => e = .returned (.bool (hardB c)) ∧ Below w.heap.size w w' := by
  go_enter Tryd.func26, Tryd.ntmps26
  go_wp2
  all_goals go_ret
  all_goals refine ⟨retb ?_, Below.refl _ _⟩
  all_goals try simp only [beq_iff_eq, beq_eq_false_iff_ne] at *
  all_goals simp_all [hardB]

set_option maxHeartbeats 8000000 in
theorem GraphemeAlone_walk (A : Option Addr) (n c : Nat) (xs : List Int) (w : World) (hx : SliceIn .i32 w A n c xs) (hl : Laid w) :
    Calls Tryd.prog 5 #[.slice A n c] w fun e w' => e = .returned (.bool true) ∧ Below w.heap.size w w' := by
  have HX := Lib.hid hx
  have HL := Lib.hid hl
  have HLEN := Lib.hid hx.at_.len
  have KL := Lib.hid (ks_len xs)
  clear hx hl
  by_cases hlen : 200 < n
  · go_enter Tryd.func5, Tryd.ntmps5
    go_wp2_with fail
    refine (alive07_any _ HL.out).mono ?_
    rintro e w1 ⟨rfl, hb1⟩
    go_wp2_with fail
    go_ret
    exact ⟨rfl, hb1⟩
  · have hn : n ≤ 200 := by omega
    go_enter Tryd.func5, Tryd.ntmps5
    go_wp2_with fail
    go_loopw [3] (fun i wr => ∃ m : Nat, (m + 1 ≤ n ∨ m = 0) ∧ i = .int .i64 ((m : Int) + 1) ∧ Below w.heap.size w wr) (fun i _ => n + 1 - (intOf i).toNat)
    case atStart => exact ⟨0, .inr rfl, rfl, Below.refl _ _⟩
    case round =>
      obtain ⟨m, hm0, rfl, hb⟩ := hrel
      have HB := Lib.hid hb
      by_cases hm : m + 1 < n
      · have l1 : (m : Int) + 1 < (n : Int) := by omega
        have pm : (0 : Int) ≤ (m : Int) := by omega
        have HX2 := Lib.hid (HX.out.pass hb)
        have HL2 := Lib.hid (HL.out.pass hb)
        obtain ⟨ad, rfl, hab, hcx⟩ := HX2.out.at_.2 (by omega)
        have hc0 := hcx m (by omega)
        have hc1 := hcx (m + 1) hm
        rw [add_succ] at hc1
        obtain ⟨g1, g2⟩ := bounds_i32 (HX2.out.nth_wf (i := m) (by omega))
        obtain ⟨g3, g4⟩ := bounds_i32 (HX2.out.nth_wf hm)
        have C0 := Lib.hid (fun N : Later wr => pOf_lit (nth xs m) g1 g2 N.1 (HL2.out.pass N.2))
        have C1 := Lib.hid (fun N : Later wr => pOf_lit (nth xs (m + 1)) g3 g4 N.1 (HL2.out.pass N.2))
        have IS := Lib.hid (fun w' (hb : Below wr.heap.size wr w') => pisn_any (some ad) n c xs (m + 1) w' (HX2.out.pass hb) (HL2.out.pass hb) (by omega))
        have e1 : ((m + 1 : Nat) : Int) = (m : Int) + 1 := by omega
        have e3 : isN (ks xs) (m + 1) = !hngB (clu (nth xs m)) (clu (nth xs (m + 1))) (picAt (ks xs) m) (regs (ks xs) (m + 1) % 2 == 1) := by
          rw [isN_mid (by omega) (by rw [KL.out, HLEN.out]; exact hm)]
          unfold hangAt
          rw [Nat.add_sub_cancel, ks_at (by rw [HLEN.out]; omega), ks_at (by rw [HLEN.out]; exact hm)]
        rw [e1, e3] at IS
        have e4 : (propOf (nth xs m)).cluster = clu (nth xs m) := rfl
        have e5 : (propOf (nth xs (m + 1))).cluster = clu (nth xs (m + 1)) := rfl
        rw [e4] at C0
        rw [e5] at C1
        have ST := Lib.hid (stops07_any (clu (nth xs m)))
        have AL := Lib.hid (alone (clu (nth xs m)) (clu (nth xs (m + 1))) (picAt (ks xs) m) (regs (ks xs) (m + 1) % 2 == 1))
        have k0 := later_cell hc0
        have k1 := later_cell hc1
        clear e1 e3 e4 e5 hcx hc0 hc1 g1 g2 g3 g4 hb
        generalize clu (nth xs m) = a at *
        generalize clu (nth xs (m + 1)) = b at *
        generalize propOf (nth xs m) = pa at *
        generalize propOf (nth xs (m + 1)) = pb at *
        generalize nth xs m = ra at *
        generalize nth xs (m + 1) = rb at *
        generalize hngB a b (picAt (ks xs) m) (regs (ks xs) (m + 1) % 2 == 1) = hg at *
        have wk : IntKind.i64.wrap (m : Int) = (m : Int) := IntWalk.i64_in _ (by omega)
        by_cases a1 : a = 1
        · subst a1
          have A1 := AL.out.1 rfl
          by_cases b2 : b = 2
          · subst b2
            obtain rfl : hg = true := by rw [A1]; rfl
            clear A1
            skip
            go_wp2_with fail
            refine wp_region_later (by kernel_rfl) (by kernel_rfl) ?_
            repeat (go_big_quiet_step ((first | (go_at_call 25; with_reducible exact quiet_later (C0.out _)) | (go_at_call 25; with_reducible exact quiet_later (C1.out _)))))
            refine wpQuiet_nil ?_
            intro _ hw'
            obtain ⟨nq, hw''⟩ := hw'
            subst hw''
            have x := nq.2
            clear k0 k1
            go_wp2_with fail
            refine (IS.out _ x).mono ?_
            rintro e v ⟨rfl, hv⟩
            replace x := x.trans (hv.mono x.size)
            clear hv
            go_wp2_with fail
            refine (ST.out _).mono ?_
            rintro e v ⟨rfl, hv⟩
            replace x := x.trans (hv.mono x.size)
            clear hv
            have X := Lib.hid x
            clear x
            go_wp2_with fail
            go_roundw
            case rel => exact ⟨m + 1, by omega, by go_num, HB.out.trans (X.out.mono HB.out.size)⟩
            case measure => simp [intOf] <;> omega
          · have nb : ((b : Int) == 2) = false := by simpa using b2
            obtain rfl : hg = false := by rw [A1, nb]; rfl
            clear A1 b2
            skip
            go_wp2_with fail
            refine wp_region_later (by kernel_rfl) (by kernel_rfl) ?_
            repeat (go_big_quiet_step ((first | (go_at_call 25; with_reducible exact quiet_later (C0.out _)) | (go_at_call 25; with_reducible exact quiet_later (C1.out _)))))
            refine wpQuiet_nil ?_
            intro _ hw'
            obtain ⟨nq, hw''⟩ := hw'
            subst hw''
            have x := nq.2
            clear k0 k1
            go_wp2_with fail
            refine (IS.out _ x).mono ?_
            rintro e v ⟨rfl, hv⟩
            replace x := x.trans (hv.mono x.size)
            clear hv
            go_wp2_with fail
            refine (ST.out _).mono ?_
            rintro e v ⟨rfl, hv⟩
            replace x := x.trans (hv.mono x.size)
            clear hv
            have X := Lib.hid x
            clear x
            go_wp2_with fail
            go_roundw
            case rel => exact ⟨m + 1, by omega, by go_num, HB.out.trans (X.out.mono HB.out.size)⟩
            case measure => simp [intOf] <;> omega
        · have na1 : ((a : Int) == 1) = false := by simpa using a1
          by_cases a2 : a = 2 ∨ a = 3
          · obtain rfl : hg = false := by
              have A1 := AL.out.1 (by rcases a2 with rfl | rfl <;> rfl)
              rw [A1, na1]; rfl
            rcases a2 with rfl | rfl
            all_goals
              clear a1
              skip
              go_wp2_with fail
              refine wp_region_later (by kernel_rfl) (by kernel_rfl) ?_
              repeat (go_big_quiet_step ((first | (go_at_call 25; with_reducible exact quiet_later (C0.out _)) | (go_at_call 25; with_reducible exact quiet_later (C1.out _)))))
              refine wpQuiet_nil ?_
              intro _ hw'
              obtain ⟨nq, hw''⟩ := hw'
              subst hw''
              have x := nq.2
              clear k0 k1
              go_wp2_with fail
              refine (IS.out _ x).mono ?_
              rintro e v ⟨rfl, hv⟩
              replace x := x.trans (hv.mono x.size)
              clear hv
              go_wp2_with fail
              refine (ST.out _).mono ?_
              rintro e v ⟨rfl, hv⟩
              replace x := x.trans (hv.mono x.size)
              clear hv
              have X := Lib.hid x
              clear x
              go_wp2_with fail
              go_roundw
              case rel => exact ⟨m + 1, by omega, by go_num, HB.out.trans (X.out.mono HB.out.size)⟩
              case measure => simp [intOf] <;> omega
          · have hh : hardB a = false := by simp [hardB, a1]; omega
            rw [hh] at ST
            by_cases a0 : a = 0
            · subst a0
              by_cases b0 : b = 0
              · subst b0
                obtain rfl : hg = false := AL.out.2.1 rfl rfl
                clear a1 a2 hh
                skip
                go_wp2_with fail
                refine wp_region_later (by kernel_rfl) (by kernel_rfl) ?_
                repeat (go_big_quiet_step ((first | (go_at_call 25; with_reducible exact quiet_later (C0.out _)) | (go_at_call 25; with_reducible exact quiet_later (C1.out _)))))
                refine wpQuiet_nil ?_
                intro _ hw'
                obtain ⟨nq, hw''⟩ := hw'
                subst hw''
                have x := nq.2
                clear k0 k1
                go_wp2_with fail
                refine (IS.out _ x).mono ?_
                rintro e v ⟨rfl, hv⟩
                replace x := x.trans (hv.mono x.size)
                clear hv
                go_wp2_with fail
                refine (ST.out _).mono ?_
                rintro e v ⟨rfl, hv⟩
                replace x := x.trans (hv.mono x.size)
                clear hv
                have X := Lib.hid x
                clear x
                go_wp2_with fail
                go_roundw
                case rel => exact ⟨m + 1, by omega, by go_num, HB.out.trans (X.out.mono HB.out.size)⟩
                case measure => simp [intOf] <;> omega
              · have nb0 : ((b : Int) == 0) = false := by simpa using b0
                by_cases b4 : b = 4 ∨ b = 5 ∨ b = 8
                · obtain rfl : hg = true := AL.out.2.2 rfl b4
                  clear a1 a2 hh b0
                  rcases b4 with rfl | rfl | rfl
                  all_goals
                    skip
                    go_wp2_with fail
                    refine wp_region_later (by kernel_rfl) (by kernel_rfl) ?_
                    repeat (go_big_quiet_step ((first | (go_at_call 25; with_reducible exact quiet_later (C0.out _)) | (go_at_call 25; with_reducible exact quiet_later (C1.out _)))))
                    refine wpQuiet_nil ?_
                    intro _ hw'
                    obtain ⟨nq, hw''⟩ := hw'
                    subst hw''
                    have x := nq.2
                    clear k0 k1
                    go_wp2_with fail
                    refine (IS.out _ x).mono ?_
                    rintro e v ⟨rfl, hv⟩
                    replace x := x.trans (hv.mono x.size)
                    clear hv
                    go_wp2_with fail
                    refine (ST.out _).mono ?_
                    rintro e v ⟨rfl, hv⟩
                    replace x := x.trans (hv.mono x.size)
                    clear hv
                    have X := Lib.hid x
                    clear x
                    go_wp2_with fail
                    go_roundw
                    case rel => exact ⟨m + 1, by omega, by go_num, HB.out.trans (X.out.mono HB.out.size)⟩
                    case measure => simp [intOf] <;> omega
                · have nb4 : ((b : Int) == 4) = false := by simp; omega
                  have nb5 : ((b : Int) == 5) = false := by simp; omega
                  have nb8 : ((b : Int) == 8) = false := by simp; omega
                  clear a1 a2 hh b0 b4
                  skip
                  go_wp2_with fail
                  refine wp_region_later (by kernel_rfl) (by kernel_rfl) ?_
                  repeat (go_big_quiet_step ((first | (go_at_call 25; with_reducible exact quiet_later (C0.out _)) | (go_at_call 25; with_reducible exact quiet_later (C1.out _)))))
                  refine wpQuiet_nil ?_
                  intro _ hw'
                  obtain ⟨nq, hw''⟩ := hw'
                  subst hw''
                  have x := nq.2
                  clear k0 k1
                  go_wp2_with fail
                  refine (IS.out _ x).mono ?_
                  rintro e v ⟨rfl, hv⟩
                  replace x := x.trans (hv.mono x.size)
                  clear hv
                  go_wp2_with fail
                  refine (ST.out _).mono ?_
                  rintro e v ⟨rfl, hv⟩
                  replace x := x.trans (hv.mono x.size)
                  clear hv
                  have X := Lib.hid x
                  clear x
                  go_wp2_with fail
                  go_roundw
                  case rel => exact ⟨m + 1, by omega, by go_num, HB.out.trans (X.out.mono HB.out.size)⟩
                  case measure => simp [intOf] <;> omega
            · have na0 : ((a : Int) == 0) = false := by simpa using a0
              clear a1 a2 hh a0
              skip
              go_wp2_with fail
              refine wp_region_later (by kernel_rfl) (by kernel_rfl) ?_
              repeat (go_big_quiet_step ((first | (go_at_call 25; with_reducible exact quiet_later (C0.out _)) | (go_at_call 25; with_reducible exact quiet_later (C1.out _)))))
              refine wpQuiet_nil ?_
              intro _ hw'
              obtain ⟨nq, hw''⟩ := hw'
              subst hw''
              have x := nq.2
              clear k0 k1
              go_wp2_with fail
              refine (IS.out _ x).mono ?_
              rintro e v ⟨rfl, hv⟩
              replace x := x.trans (hv.mono x.size)
              clear hv
              go_wp2_with fail
              refine (ST.out _).mono ?_
              rintro e v ⟨rfl, hv⟩
              replace x := x.trans (hv.mono x.size)
              clear hv
              have X := Lib.hid x
              clear x
              go_wp2_with fail
              go_roundw
              case rel => exact ⟨m + 1, by omega, by go_num, HB.out.trans (X.out.mono HB.out.size)⟩
              case measure => simp [intOf] <;> omega
      · have l1 : ¬ ((m : Int) + 1 < (n : Int)) := by omega
        go_wp2_with fail
        refine (alive07_any _ (HL.out.pass HB.out)).mono ?_
        rintro e w5 ⟨rfl, hb5⟩
        have x5 := HB.out.trans (hb5.mono HB.out.size)
        go_wp2_with fail
        go_ret
        exact ⟨rfl, x5⟩
end Go.Proofs.YtcldegpfkpmciaaDoor
