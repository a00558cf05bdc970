/- Chapter 8: the walk of WordsCover. -/
import Derived.Test.YtefajgfhdnhmmaaDoorWl
namespace Go.Proofs.YtefajgfhdnhmmaaDoor
open Go.ChangeShapes Go.WideShapes Go.ChangeAt Go.RowKit
set_option maxRecDepth 100000
set_option linter.unusedSimpArgs false

theorem cutNeqW (a b : Int) (w : World) : (binOp .neq 24 (.agg #[.int .i64 a, .int .i64 b]) (.agg #[.int .i64 a, .int .i64 b])).run Tryd.prog w = .ok (.bool false) w := by
  simp [go_sem]
/-- between two neighbours: the word around, and no boundary -/
theorem cov_in {l : List Nat} {n q k : Nat} (h : WbF l n) (h0 : 0 < n) (hq : q + 1 < l.length) (h1 : atN l q ≤ k) (h2 : k < atN l (q + 1)) :
    arF l n (k : Int) = (atN l q : Int) ∧ arT l n (k : Int) = (atN l (q + 1) : Int) ∧ (atN l q < k → wIsB l (k : Int) = false) := by
  have h3 := h.at_le h0 hq
  obtain ⟨e1, e2⟩ := ar_in (l := l) (n := n) (i := k) (by omega) h0
  have e3 : wdNo l n k = q := wdNo_at h.rise hq (by omega) (by omega)
  rw [e3] at e1 e2
  refine ⟨e1, e2, fun h4 => ?_⟩
  cases hb : wIsB l (k : Int) with
  | false => rfl
  | true =>
    obtain ⟨j, h5, h6⟩ := (wIsB_iff l k).1 hb
    have h7 : atN l j = k := by omega
    rcases Nat.lt_or_ge q j with h8 | h8
    · rcases Nat.eq_or_lt_of_le (show q + 1 ≤ j by omega) with h9 | h9
      · rw [← h9] at h7; omega
      · have := h.rise.lt' h9 h5; omega
    · rcases Nat.eq_or_lt_of_le h8 with h9 | h9
      · rw [h9] at h7; omega
      · have := h.rise.lt' h9 (by omega); omega

set_option maxHeartbeats 8000000 in
theorem WordsCover_walk (A : Option Addr) (n c : Nat) (xs : List Int) (w : World) (hx : SliceIn .i32 w A n c xs) (hl : Laid w) :
    Calls Tryd.prog 7 #[.slice A n c] w fun e w' => e = .returned (.bool true) ∧ Below w.heap.size w w' := by
  by_cases hlen : 40 < n
  · go_enter Tryd.func7, Tryd.ntmps7
    have ln : decide (40 < n) = true := by simpa using hlen
    go_wp2_with (go_at_call 15; refine (long08_any _ _ _ _).mono ?_; rintro e w' ⟨rfl, rfl⟩)
    go_ret
    exact ⟨rfl, Below.refl _ _⟩
  · have ln : decide (40 < n) = false := by simpa using hlen
    have P1 := Lib.hid (pwb_any A n c xs w hx hl (by omega))
    have P2 := Lib.hid (fun (i : Int) W (hb : Below w.heap.size w W) => pwis_any A n c xs i W (hx.pass hb) (hl.pass hb) (by omega))
    have P3 := Lib.hid (fun (k : Nat) W (hb : Below w.heap.size w W) => pisn_any A n c xs k W (hx.pass hb) (hl.pass hb) (by omega))
    have P4 := Lib.hid (fun (i : Int) W (hb : Below w.heap.size w W) => parnd_any A n c xs i W (hx.pass hb) (hl.pass hb) (by omega))
    have WF := Lib.hid (wbF hx.at_.len)
    have GI := Lib.hid (fun j (hj : j < (wbL xs).length) => (show isN (ks xs) (atN (wbL xs) j) = true from (bndN_mem (ks := ks xs) (m := (ks xs).length + 1) (x := atN (wbL xs) j) (wbA_mem (atN_mem hj))).2))
    have IS := Lib.hid (fun j (hj : j < (wbL xs).length) => (show wIsB (wbL xs) (atN (wbL xs) j : Int) = true from (wIsB_iff _ _).2 ⟨j, hj, rfl⟩))
    have EW := Lib.hid (show wbI xs = (wbL xs).map Int.ofNat from rfl)
    have CV := Lib.hid (fun q k (h0 : 0 < n) => cov_in (q := q) (k := k) WF.out h0)
    clear hx hl
    generalize wbL xs = l at *
    generalize wbI xs = wi at *
    generalize ks xs = gk at *
    by_cases h0 : n = 0
    · subst h0
      have hl0 := WF.out.nil rfl
      subst hl0
      have P5 := Lib.hid (P4.out 0)
      obtain ⟨e1, e2⟩ := ar_out (l := []) (n := 0) (i := 0) (.inr (.inr rfl))
      rw [e1, e2] at P5
      have ce := cutEqW 0 0
      have eL : ([] : List Nat).length = 0 := rfl
      rw [eL] at P1
      clear e1 e2 P2 P3 P4 GI IS CV eL
      go_enter Tryd.func7, Tryd.ntmps7
      go_wp2_with (go_at_call 15; refine (long08_any _ _ _ _).mono ?_; rintro e w' ⟨rfl, rfl⟩)
      refine P1.out.mono ?_
      rintro e w1 ⟨A1, c1, rfl, o1, x1⟩
      go_wp2_with fail
      refine (P5.out _ x1).mono ?_
      rintro e w2 ⟨rfl, x2⟩
      have y2 := x1.trans (x2.mono x1.size)
      go_wp2_with fail
      go_ret
      exact ⟨rfl, y2⟩
    · have hn0 : 0 < n := by omega
      have nz : ((n : Int) == 0) = false := by simp; omega
      have hL2 := WF.out.two hn0
      have hfirst := WF.out.first hn0
      have hlast := WF.out.last hn0
      have hLn := WF.out.len
      obtain ⟨L, hL⟩ : ∃ L, l.length = L := ⟨_, rfl⟩
      have HL := Lib.hid hL
      rw [hL] at P1 GI IS CV hL2 hlast hLn
      obtain ⟨M, hM⟩ : ∃ M, L - 1 = M := ⟨_, rfl⟩
      rw [hM] at hlast
      have HF := Lib.hid hfirst
      have HLA := Lib.hid hlast
      have hM2 : (L : Int) - 1 = (M : Int) := by omega
      have hML : M < L := by omega
      have RI := Lib.hid WF.out.rise
      clear h0 hfirst hlast hL hM
      go_enter Tryd.func7, Tryd.ntmps7
      go_wp2_with (go_at_call 15; refine (long08_any _ _ _ _).mono ?_; rintro e w' ⟨rfl, rfl⟩)
      refine P1.out.mono ?_
      rintro e w1 ⟨A1, c1, rfl, o1, x1⟩
      rw [EW.out] at o1
      have X1 := Lib.hid x1
      have OB := Lib.hid o1
      have z1 := x1.size
      obtain ⟨g, rfl, _⟩ := OwnV.form o1 (by omega)
      have b0 := own_cellG o1 (j := 0) (by omega)
      have bM := own_cellG o1 (j := M) hML
      rw [nth_map (by rw [HL.out]; omega)] at b0 bM
      rw [HF.out] at b0
      rw [HLA.out] at bM
      have p0 : (0 : Int) ≤ (M : Int) := by omega
      have p1 : (M : Int) < (L : Int) := by omega
      clear x1 o1
      go_wp2_with fail
      clear b0 bM p0 p1
      go_loopw [4] (fun v wr => ∃ i : Nat, i ≤ L ∧ v = .int .i64 i ∧ Below w1.heap.size w1 wr) (fun v _ => L - (intOf v).toNat)
      case atStart => exact ⟨0, Nat.zero_le _, rfl, Below.refl _ _⟩
      case round =>
        obtain ⟨i, hi, rfl, hb⟩ := hrel
        have HB := Lib.hid hb
        by_cases hlt : i < L
        · have BW := Lib.hid (X1.out.trans (hb.mono z1))
          have ob := OB.out.pass hb
          have c0 := own_cellG ob (j := i) hlt
          rw [nth_map (by rw [HL.out]; exact hlt)] at c0
          have Q2 := Lib.hid (P2.out (atN l i : Int))
          rw [IS.out i hlt] at Q2
          have Q3 := Lib.hid (P3.out (atN l i))
          rw [GI.out i hlt] at Q3
          rcases Nat.eq_zero_or_pos i with hi0 | hi0
          · subst hi0
            generalize atN l 0 = a at *
            clear ob hb
            go_wp2_with fail
            refine (Q2.out _ BW.out).mono ?_
            rintro e w3 ⟨rfl, x3⟩
            have B3 := Lib.hid (BW.out.trans (x3.mono BW.out.size))
            have y3 := HB.out.trans (x3.mono HB.out.size)
            have c3 := cell_pass c0 x3
            clear x3
            go_wp2_with fail
            refine (Q3.out _ B3.out).mono ?_
            rintro e w4 ⟨rfl, x4⟩
            have y4 := Lib.hid (y3.trans (x4.mono y3.size))
            clear x4 y3
            go_wp2_with fail
            go_roundw
            case rel => exact ⟨0 + 1, by omega, by go_num, y4.out⟩
            case measure => simp [intOf] <;> omega
          · obtain ⟨q, rfl⟩ : ∃ q, i = q + 1 := ⟨i - 1, by omega⟩
            have c1 := own_cellG ob (j := q) (by omega)
            rw [nth_map (by rw [HL.out]; omega)] at c1
            have hr := RI.out q (by rw [HL.out]; exact hlt)
            have hbn := WF.out.at_le hn0 (j := q + 1) (by rw [HL.out]; exact hlt)
            have CQ := Lib.hid (fun k h1 h2 => CV.out q k hn0 hlt h1 h2)
            have ei : ((q + 1 : Nat) : Int) = (q : Int) + 1 := by omega
            have nz2 : ((q : Int) + 1 == 0) = false := by simp; omega
            generalize atN l q = a at *
            generalize atN l (q + 1) = b at *
            rw [ei]
            have hn1 : q + 1 < L := hlt
            have p0 : (0 : Int) ≤ (q : Int) := by omega
            have p1 : (q : Int) < (L : Int) := by omega
            have p2 : (0 : Int) ≤ (q : Int) + 1 := by omega
            have p3 : (q : Int) + 1 < (L : Int) := by omega
            have OBR := Lib.hid ob
            clear ob hb ei
            go_wp2_with fail
            refine (Q2.out _ BW.out).mono ?_
            rintro e w3 ⟨rfl, x3⟩
            have B3 := Lib.hid (BW.out.trans (x3.mono BW.out.size))
            have y3 := HB.out.trans (x3.mono HB.out.size)
            have c3 := cell_pass c0 x3
            have c4 := cell_pass c1 x3
            clear x3
            go_wp2_with fail
            refine (Q3.out _ B3.out).mono ?_
            rintro e w4 ⟨rfl, x4⟩
            have Y4 := Lib.hid (y3.trans (x4.mono y3.size))
            have c5 := cell_pass c3 x4
            have c6 := cell_pass c4 x4
            clear x4 y3
            go_wp2_with fail
            have wk1 : IntKind.i64.wrap (q : Int) = (q : Int) := IntWalk.i64_in _ (by omega)
            have wk2 : IntKind.i64.wrap ((q : Int) + 1) = (q : Int) + 1 := IntWalk.i64_in _ (by omega)
            have tn : ((q : Int) + 1).toNat = q + 1 := by omega
            have l4 : ¬ (b : Int) ≤ (a : Int) := by omega
            go_quiet (fail)
            clear wk1 wk2 tn
            go_wp2_with fail
            have z4 := Y4.out.size
            have BW4 := Lib.hid (X1.out.trans (Y4.out.mono z1))
            have HN := Lib.hid hr
            go_loopw [5] (fun v wr => ∃ k : Nat, a ≤ k ∧ k ≤ b ∧ v = .int .i64 k ∧ Below w4.heap.size w4 wr) (fun v _ => b - (intOf v).toNat)
            case atStart => exact ⟨a, Nat.le_refl _, by omega, rfl, below_drewN (Below.refl _ _) _⟩
            case round =>
              obtain ⟨k, hk1, hk2, rfl, hb5⟩ := hrel
              have HB5 := Lib.hid hb5
              have d5 := (hb5.cell (block_lt_of_cell c5)).trans c5
              have d6 := (hb5.cell (block_lt_of_cell c6)).trans c6
              have k5 := later_cell d5
              have k6 := later_cell d6
              have BW5 := Lib.hid (BW4.out.trans (hb5.mono (by have := BW4.out.size; omega)))
              by_cases hkb : k < b
              · obtain ⟨e1, e2, e3⟩ := CQ.out k hk1 hkb
                have PA := Lib.hid (fun N : Later wr => P4.out (k : Int) N.1 (BW5.out.trans (N.2.mono BW5.out.size)))
                rw [e1, e2] at PA
                have cn := cutNeqW a b
                have l5 : (k : Int) < (b : Int) := by omega
                have wk1 : IntKind.i64.wrap (q : Int) = (q : Int) := IntWalk.i64_in _ (by omega)
                have wk2 : IntKind.i64.wrap ((q : Int) + 1) = (q : Int) + 1 := IntWalk.i64_in _ (by omega)
                have tn : ((q : Int) + 1).toNat = q + 1 := by omega
                by_cases hak : a < k
                · have PI := Lib.hid (fun N : Later wr => P2.out (k : Int) N.1 (BW5.out.trans (N.2.mono BW5.out.size)))
                  rw [e3 hak] at PI
                  have l6 : (a : Int) < (k : Int) := by omega
                  clear e1 e2 e3 c5 c6 hb5
                  go_wp2_with fail
                  clear d5 d6
                  refine wp_region_later (by kernel_rfl) (by kernel_rfl) ?_
                  repeat (go_big_quiet_step ((first | (go_at_call 26; with_reducible exact quiet_later (PA.out _)) | (go_at_call 24; with_reducible exact quiet_later (PI.out _)))))
                  refine wpQuiet_nil ?_
                  intro _ hw'
                  obtain ⟨nq, hw''⟩ := hw'
                  subst hw''
                  have H3 := Lib.hid (HB5.out.trans (nq.2.mono HB5.out.size))
                  clear wk1 wk2 tn
                  go_wp2_with fail
                  go_roundw
                  case rel => exact ⟨k + 1, by omega, by omega, by go_num, H3.out⟩
                  case measure => simp [intOf] <;> omega
                · have l6 : ¬ (a : Int) < (k : Int) := by omega
                  clear e1 e2 e3 c5 c6 hb5
                  go_wp2_with fail
                  clear d5 d6
                  refine wp_region_later (by kernel_rfl) (by kernel_rfl) ?_
                  repeat (go_big_quiet_step ((first | (go_at_call 26; with_reducible exact quiet_later (PA.out _)) | (go_at_call 24; with_reducible exact quiet_later (PI.out _)))))
                  refine wpQuiet_nil ?_
                  intro _ hw'
                  obtain ⟨nq, hw''⟩ := hw'
                  subst hw''
                  have H3 := Lib.hid (HB5.out.trans (nq.2.mono HB5.out.size))
                  clear wk1 wk2 tn
                  go_wp2_with fail
                  go_roundw
                  case rel => exact ⟨k + 1, by omega, by omega, by go_num, H3.out⟩
                  case measure => simp [intOf] <;> omega
              · have l5 : ¬ (k : Int) < (b : Int) := by omega
                have H3 := Lib.hid (Y4.out.trans (hb5.mono z4))
                clear d5 d6 k5 k6 hb5
                have d5 := (HB5.out.cell (block_lt_of_cell c5)).trans c5
                go_wp2_with fail
                go_roundw
                case rel => exact ⟨q + 1 + 1, by omega, by go_num, H3.out⟩
                case measure => simp [intOf] <;> omega
        · obtain rfl : i = L := by omega
          go_wp2_with fail
          go_ret
          exact ⟨rfl, X1.out.trans (HB.out.mono z1)⟩
end Go.Proofs.YtefajgfhdnhmmaaDoor
