/- Chapter 23: whether spans are whole; the walk of FallbackParts. -/
import Derived.Test.YtefajgfhdnhmmaaDoorFow
namespace Go.Proofs.YtefajgfhdnhmmaaDoor
open Go.ChangeShapes Go.WideShapes Go.ChangeAt Go.RowKit
set_option maxRecDepth 100000
set_option linter.unusedSimpArgs false

set_option maxHeartbeats 400000 in
/-- spans that are whole are told to be -/
theorem pwhole_any (A : Option Addr) (n c : Nat) (S : List Sp) (N : Nat) (w : World) (hS : SpansAt w w.heap.size A n S) (hn : n ≤ 140737488355328)
    (h1 : ∀ j, j < n → (snth S j).f = spTo S j ∧ (snth S j).f < (snth S j).t) (h2 : ∀ j, 0 < j → j < n → (snth S j).v ≠ (snth S (j - 1)).v) (h3 : spTo S n = (N : Int)) :
    Calls Tryd.prog 37 #[.slice A n c, .int .i64 (N : Int)] w fun e w' => e = .returned (.bool true) ∧ Below w.heap.size w w' := by
  have HS := Lib.hid hS
  have H1 := Lib.hid h1
  have H2 := Lib.hid h2
  have H3 := Lib.hid h3
  clear hS h1 h2 h3
  go_enter Tryd.func37, Tryd.ntmps37
  go_wp2_with fail
  go_loopw [5, 10] (fun u v wr => ∃ k : Nat, k ≤ n ∧ v = .int .i64 k ∧ u = .int .i64 (spTo S k) ∧ Below w.heap.size w wr) (fun _ v _ => n - (intOf v).toNat)
  case atStart => exact ⟨0, Nat.zero_le _, rfl, rfl, Below.refl _ _⟩
  case round =>
    obtain ⟨k, hk, rfl, rfl, hb⟩ := hrel
    have HB := Lib.hid hb
    by_cases hlt : k < n
    · obtain ⟨ad, rfl, c0, c1, c2⟩ := (HS.out.below hb).cells hlt
      obtain ⟨g1, g2⟩ := H1.out k hlt
      have ET := Lib.hid (show spTo S (k + 1) = (snth S k).t from rfl)
      rw [← g1]
      rcases Nat.eq_zero_or_pos k with hk0 | hk0
      · subst hk0
        obtain ⟨s, hs⟩ : ∃ s, snth S 0 = s := ⟨_, rfl⟩
        rw [hs] at c0 c1 c2 g2 ET ⊢
        obtain ⟨f, t, v⟩ := s
        simp only at c0 c1 c2 g2 ET ⊢
        have l2 : decide (t ≤ f) = false := by simp; omega
        have l3 : ((f : Int) != f) = false := by simp
        have d0 := cell_alloc c0 (.cells #[.int .i64 f, .int .i64 t, .int .i64 v] 54)
        have c0b : wr.cell? ad = some (.int .i64 f) := c0
        have c1b : wr.cell? { block := ad.block, off := ad.off + 1 } = some (.int .i64 t) := c1
        have c2b : wr.cell? { block := ad.block, off := ad.off + 2 } = some (.int .i64 v) := c2
        clear hs hb g1 d0
        go_wp2_with fail
        go_quiet (fail)
        go_wp2_with fail
        go_roundw
        case rel => exact ⟨0 + 1, by omega, by go_num, by rw [ET.out], below_drewN (HB.out.alloc (by have := HB.out.size; omega) _) _⟩
        case measure => simp [intOf] <;> omega
      · obtain ⟨q, rfl⟩ : ∃ q, k = q + 1 := ⟨k - 1, by omega⟩
        obtain ⟨ad', ha', _, _, e2⟩ := (HS.out.below hb).cells (j := q) (by omega)
        cases ha'
        have g3 := H2.out (q + 1) (by omega) hlt
        rw [Nat.add_sub_cancel] at g3
        obtain ⟨s, hs⟩ : ∃ s, snth S (q + 1) = s := ⟨_, rfl⟩
        rw [hs] at c0 c1 c2 g2 g3 ET ⊢
        obtain ⟨f, t, v⟩ := s
        generalize (snth S q).v = v' at *
        simp only at c0 c1 c2 g2 g3 ET ⊢
        have l2 : decide (t ≤ f) = false := by simp; omega
        have l3 : ((f : Int) != f) = false := by simp
        have be : ((v : Int) == v') = false := by simpa using g3
        have ei : ((q + 1 : Nat) : Int) = (q : Int) + 1 := by omega
        have p0 : (0 : Int) ≤ (q : Int) := by omega
        have p1 : (q : Int) < (n : Int) := by omega
        have p2 : (0 : Int) < (q : Int) + 1 := by omega
        have p3 : decide ((0 : Int) < (q : Int) + 1) = true := by simp <;> omega
        have wk1 : IntKind.i64.wrap (q : Int) = (q : Int) := IntWalk.i64_in _ (by omega)
        have e2b := cell_alloc e2 (.cells #[.int .i64 f, .int .i64 t, .int .i64 v] 54)
        have e2c : (wr.alloc (.cells #[.int .i64 f, .int .i64 t, .int .i64 v] 54)).cell? ((ad.add (q * 3)).add 2) = some (.int .i64 v') := e2b
        rw [ei]
        clear hs hb g1 g3 ei e2
        go_wp2_with fail
        go_quiet (fail)
        clear wk1
        go_wp2_with fail
        go_roundw
        case rel => exact ⟨q + 1 + 1, by omega, by go_num, by rw [ET.out], below_drewN (HB.out.alloc (by have := HB.out.size; omega) _) _⟩
        case measure => simp [intOf] <;> omega
    · obtain rfl : k = n := by omega
      rw [H3.out]
      go_wp2_with fail
      go_ret
      exact ⟨retb (by simp), HB.out⟩

/-- does one of the first fonts have a cluster? -/
def someF (fs : List Fd) (cl : List Int) : Nat → Bool
  | 0 => false
  | j + 1 => someF fs cl j || fHas fs cl j
theorem someF_ex {fs : List Fd} {cl : List Int} : ∀ {j : Nat}, someF fs cl j = true → ∃ i, i < j ∧ fHas fs cl i = true
  | 0, h => by cases h
  | j + 1, h => by
    rw [show someF fs cl (j + 1) = (someF fs cl j || fHas fs cl j) from rfl, Bool.or_eq_true] at h
    rcases h with h | h
    · obtain ⟨i, h1, h2⟩ := someF_ex h
      exact ⟨i, by omega, h2⟩
    · exact ⟨j, by omega, h⟩

set_option maxHeartbeats 8000000 in
theorem FallbackParts_walk (A : Option Addr) (n c : Nat) (fs : List Fd) (A2 : Option Addr) (n2 c2 : Nat) (xs : List Int) (A3 : Option Addr) (n3 c3 : Nat) (sp : List Sp) (w : World) (hF : FontsAt w w.heap.size A n fs) (hx : SliceIn .i32 w A2 n2 c2 xs) (hS : SpansAt w w.heap.size A3 n3 sp) (hl : Laid w) :
    Calls Tryd.prog 11 #[.slice A n c, .slice A2 n2 c2, .slice A3 n3 c3] w fun e w' => e = .returned (.bool true) ∧ Below w.heap.size w w' := by
  have MA := Lib.hid (many_any A n c fs w hF)
  cases hM : manyB fs with
  | true =>
    rw [hM] at MA
    clear hF hx hS hl hM
    go_enter Tryd.func11, Tryd.ntmps11
    go_wp2_with fail
    refine MA.out.mono ?_
    rintro e w1 ⟨rfl, hb1⟩
    go_wp2_with fail
    go_ret
    exact ⟨rfl, hb1⟩
  | false =>
    rw [hM] at MA
    obtain ⟨h4, hmn⟩ := manyB_mn hM
    rw [hF.1] at h4 hmn
    by_cases h30 : 30 < n2
    · clear hF hx hS hl hM
      go_enter Tryd.func11, Tryd.ntmps11
      go_wp2_with fail
      refine MA.out.mono ?_
      rintro e w1 ⟨rfl, hb1⟩
      go_wp2_with fail
      go_ret
      exact ⟨rfl, hb1⟩
    · by_cases h20 : 20 < n3
      · clear hF hx hS hl hM
        go_enter Tryd.func11, Tryd.ntmps11
        go_wp2_with fail
        refine MA.out.mono ?_
        rintro e w1 ⟨rfl, hb1⟩
        go_wp2_with fail
        go_ret
        exact ⟨rfl, hb1⟩
      · have hm : ∀ j, j < n → (fnth fs j).mn ≤ 140737488355328 := fun j hj => Nat.le_trans (hmn j hj) (by omega)
        have hfn := hF.1
        have P1 := Lib.hid (fun W (hb : Below w.heap.size w W) => pfOf_any A n c fs A2 n2 c2 xs A3 n3 c3 sp W (hF.later hb) (hx.pass hb) (hS.later hb) (hl.pass hb) hm (by omega) (by omega) (by omega))
        have P2 := Lib.hid (fun W (hb : Below w.heap.size w W) => pbounds_any A2 n2 c2 xs W (hx.pass hb) (hl.pass hb) (by omega))
        have P3 := Lib.hid (fun (i : Nat) W (hb : Below w.heap.size w W) => pisn_any A2 n2 c2 xs i W (hx.pass hb) (hl.pass hb) (by omega))
        have HAS := Lib.hid (fun j (hj : j < n) (f t : Nat) (h2 : t ≤ n2) (A4 : Option Addr) (c4 : Nat) (CH : CutRun Tryd.prog 22 A2 n2 c2 (some (.int .i64 (f : Int))) (some (.int .i64 (t : Int))) f t (t - f) A4 c4) W (hb : Below w.heap.size w W) =>
          phas_any (fnth fs j).em (fnth fs j).G (fnth fs j).gn (fnth fs j).gc (fnth fs j).M (fnth fs j).mn (fnth fs j).mc (fnth fs j).ms (fnth fs j).L (fnth fs j).ln (fnth fs j).lc (fnth fs j).F (fnth fs j).fn (fnth fs j).fc (fnth fs j).S (fnth fs j).sn (fnth fs j).sc A4 (t - f) c4 ((xs.take t).drop f) W ((hF.later hb).maps hj) ((CH.sliceIn hx).pass hb) (hl.pass hb) (hm j hj) (by omega))
        have HF := Lib.hid hF
        have hle2 := hx.le
        obtain ⟨hri, hb0, hbl, htop, hbz, hbp⟩ := bnd_facts hx.at_.len
        have GI := Lib.hid (fun j (hj : j < (bndA (ks xs)).length) => (show isN (ks xs) (atN (bndA (ks xs)) j) = true from (bndN_mem (ks := ks xs) (m := (ks xs).length + 1) (x := atN (bndA (ks xs)) j) (atN_mem hj)).2))
        have hfl := fontS_len (fs := fs) (sp := sp) hx.at_.len
        have hWS : WholeS (fontS fs sp xs) (bndA (ks xs)) (fontA fs sp xs (bndA (ks xs))) ((bndA (ks xs)).length - 1) := wholeS hri hb0 _ (by omega)
        have hlast : atN (bndA (ks xs)) ((bndA (ks xs)).length - 1) = n2 := by
          rcases Nat.eq_zero_or_pos n2 with h | h
          · rw [hbz h, h]; rfl
          · exact (hbp h).2
        have FX := Lib.hid (fun k => (show fontA fs sp xs (bndA (ks xs)) (k + 1) = pickV fs (spAt sp (atN (bndA (ks xs)) k)) ((xs.take (atN (bndA (ks xs)) (k + 1))).drop (atN (bndA (ks xs)) k)) (fontA fs sp xs (bndA (ks xs)) k) from rfl))
        rw [bounds_map] at P2
        generalize fontS fs sp xs = S at *
        generalize bndA (ks xs) = bs at *
        generalize fontA fs sp xs bs = a at *
        generalize ks xs = gk at *
        obtain ⟨L, hL⟩ : ∃ L, S.length = L := ⟨_, rfl⟩
        obtain ⟨B, hB⟩ : ∃ B, bs.length = B := ⟨_, rfl⟩
        have HB0 := Lib.hid hB
        have WS := Lib.hid hWS
        have HL := Lib.hid hL
        have HLA := Lib.hid hlast
        unfold NewSpans at P1
        rw [hL] at P1 hfl
        rw [hB] at P2 hbl htop GI
        have TOP := Lib.hid htop
        have RI := Lib.hid hri
        have PW := Lib.hid (fun (A9 : Option Addr) (c9 : Nat) (W : World) (hS9 : SpansAt W W.heap.size A9 L S) => pwhole_any A9 L c9 S n2 W hS9 (by omega)
          (fun j hj => by obtain ⟨q1, q2, _⟩ := WS.out.each j (by rw [HL.out]; exact hj); exact ⟨q1, q2⟩) (fun j h1 h2 => WS.out.part j h1 (by rw [HL.out]; exact h2))
          (by have := WS.out.last; rw [HL.out, HLA.out] at this; exact this))
        have PA := Lib.hid (fun (A9 : Option Addr) (c9 : Nat) (k : Nat) (hk : k + 1 < B) (W : World) (hS9 : SpansAt W W.heap.size A9 L S) => (show Calls Tryd.prog 39 #[.slice A9 L c9, .int .i64 ((atN bs k : Nat) : Int)] W fun e w' => e = .returned (.int .i64 (a (k + 1))) ∧ Below W.heap.size W w' by
          have := pspAt_any A9 L c9 S (atN bs k : Int) W hS9 (by omega)
          rw [WS.out.at_ (i := k) (by rw [HB0.out]; omega)] at this
          exact this))
        clear hF hx hS hl hM hm hmn hL hB hWS hlast hri hb0 htop hbz hbp
        go_enter Tryd.func11, Tryd.ntmps11
        go_wp2_with fail
        refine MA.out.mono ?_
        rintro e w1 ⟨rfl, x1⟩
        go_wp2_with fail
        refine (P1.out _ x1).mono ?_
        rintro e w2 ⟨A5, c5, rfl, o5, x2⟩
        have y2 := x1.trans (x2.mono x1.size)
        have PW2 := Lib.hid (PW.out A5 c5 w2 (OwnV.spans o5))
        have S5 := Lib.hid (OwnV.spans o5)
        clear o5 x2
        go_wp2_with fail
        refine PW2.out.mono ?_
        rintro e w3 ⟨rfl, x3⟩
        have Y3 := Lib.hid (y2.trans (x3.mono y2.size))
        have S3 := Lib.hid (S5.out.later x3)
        clear x3 y2 x1
        go_wp2_with fail
        go_loopw [8] (fun v wr => ∃ k : Nat, k ≤ L ∧ v = .int .i64 k ∧ Below w3.heap.size w3 wr) (fun v _ => L - (intOf v).toNat)
        case atStart => exact ⟨0, Nat.zero_le _, rfl, Below.refl _ _⟩
        case round =>
          obtain ⟨k, hk, rfl, hb⟩ := hrel
          have HB := Lib.hid hb
          by_cases hlt : k < L
          · obtain ⟨ad, rfl, q0, _, _⟩ := (S3.out.below hb).cells hlt
            obtain ⟨_, _, i, hi, hf⟩ := WS.out.each k (by rw [HL.out]; exact hlt)
            rw [hf] at q0
            have Q3 := Lib.hid (P3.out (atN bs i) wr (Y3.out.trans (hb.mono Y3.out.size)))
            rw [GI.out i (by have := HB0.out; omega)] at Q3
            generalize atN bs i = v at *
            clear hb hf
            go_wp2_with fail
            refine Q3.out.mono ?_
            rintro e w4 ⟨rfl, x4⟩
            have y4 := Lib.hid (HB.out.trans (x4.mono HB.out.size))
            clear x4
            go_wp2_with fail
            go_roundw
            case rel => exact ⟨k + 1, by omega, by go_num, y4.out⟩
            case measure => simp [intOf] <;> omega
          · obtain rfl : k = L := by omega
            have Y4 := Lib.hid (Y3.out.trans (hb.mono Y3.out.size))
            have S4 := Lib.hid (S3.out.later hb)
            have PB := Lib.hid (P2.out wr Y4.out)
            clear hb
            go_wp2_with fail
            refine PB.out.mono ?_
            rintro e w5 ⟨A6, c6, rfl, o6, x6⟩
            have Y5 := Lib.hid (Y4.out.trans (x6.mono Y4.out.size))
            have S6 := Lib.hid (S4.out.later x6)
            have O6 := Lib.hid o6
            clear o6 x6
            go_wp2_with fail
            go_loopw [10] (fun v wr => ∃ q : Nat, (q + 1 ≤ B ∨ q = 0) ∧ v = .int .i64 ((q : Int) + 1) ∧ Below w5.heap.size w5 wr) (fun v _ => B + 1 - (intOf v).toNat)
            case atStart => exact ⟨0, .inr rfl, rfl, Below.refl _ _⟩
            case round =>
              obtain ⟨q, hq, rfl, hb⟩ := hrel
              have HB := Lib.hid hb
              by_cases hlt2 : q + 1 < B
              · have o6 := O6.out.pass hb
                obtain ⟨gb, rfl, _⟩ := OwnV.form o6 (by omega)
                have c0 := own_cellG o6 (j := q) (by omega)
                have c1 := own_cellG o6 (j := q + 1) hlt2
                rw [nth_map (by rw [HB0.out]; omega)] at c0 c1
                have hft := RI.out q (by rw [HB0.out]; exact hlt2)
                have htn := TOP.out (q + 1) hlt2
                have PQ := Lib.hid (PA.out A5 c5 q hlt2 wr (S6.out.later hb))
                have EF := Lib.hid (FX.out q)
                obtain ⟨A4, c4, CH⟩ := cut_lh TI32w A2 n2 c2 (atN bs q) (atN bs (q + 1)) (Nat.le_of_lt hft) htn hle2 (atN bs q) (atN bs (q + 1)) rfl rfl
                have rh := CH.run
                have HQ0 := Lib.hid (fun j hj W hb => HAS.out j hj (atN bs q) (atN bs (q + 1)) htn A4 c4 CH W hb)
                have PH := Lib.hid (fun j (hj : j < n) (h : fHas fs ((xs.take (atN bs (q + 1))).drop (atN bs q)) j = true) => (show ∃ r : Nat, a (q + 1) = r ∧ r < n ∧ fHas fs ((xs.take (atN bs (q + 1))).drop (atN bs q)) r = true by
                  obtain ⟨r, h1, h2, h3⟩ := pickV_has (by rw [hfn]; exact hj) h (spAt sp (atN bs q)) (a q)
                  exact ⟨r, by rw [EF.out]; exact h1, by rw [← hfn]; exact h2, h3⟩))
                obtain ⟨cl, hcl⟩ : ∃ cl, (xs.take (atN bs (q + 1))).drop (atN bs q) = cl := ⟨_, rfl⟩
                rw [hcl] at HQ0 PH
                obtain ⟨av, hav⟩ : ∃ av, a (q + 1) = av := ⟨_, rfl⟩
                rw [hav] at PQ PH
                generalize atN bs q = f at *
                generalize atN bs (q + 1) = t at *
                have l1 : (q : Int) + 1 < (B : Int) := by omega
                have p0 : (0 : Int) ≤ (q : Int) := by omega
                have p1 : (q : Int) < (B : Int) := by omega
                have p2 : (0 : Int) ≤ (q : Int) + 1 := by omega
                clear o6 hb hcl hav CH EF
                go_wp2_with fail
                refine PQ.out.mono ?_
                rintro e w6 ⟨rfl, x7⟩
                have HB1 := Lib.hid (HB.out.trans (x7.mono HB.out.size))
                have Y6 := Lib.hid (Y5.out.trans (HB1.out.mono Y5.out.size))
                have d0 := cell_pass c0 x7
                have d1 := cell_pass c1 x7
                have hz6 := HB1.out.size
                clear x7 c0 c1
                go_wp2_with fail
                go_loopw [12, 13] (fun sm jv wr => ∃ j : Nat, j ≤ n ∧ jv = .int .i64 j ∧ sm = .bool (someF fs cl j) ∧ Below w6.heap.size w6 wr) (fun _ jv _ => n - (intOf jv).toNat)
                case atStart => exact ⟨0, Nat.zero_le _, rfl, rfl, Below.refl _ _⟩
                case round =>
                  obtain ⟨j, hj, rfl, rfl, hb2⟩ := hrel
                  have HB2 := Lib.hid hb2
                  have k0 := later_cell ((hb2.cell (block_lt_of_cell d0)).trans d0)
                  have k1 := later_cell ((hb2.cell (block_lt_of_cell d1)).trans d1)
                  have Y7 := Lib.hid (Y6.out.trans (hb2.mono Y6.out.size))
                  by_cases hjn : j < n
                  · have l5 : (j : Int) < (n : Int) := by omega
                    have ES := Lib.hid (show someF fs cl (j + 1) = (someF fs cl j || fHas fs cl j) from rfl)
                    cases hsm : someF fs cl j
                    · rw [hsm] at ES
                      have HQ1 := Lib.hid (fun N : Later wr => HQ0.out j hjn N.1 (Y7.out.trans (N.2.mono Y7.out.size)))
                      obtain ⟨ad, ha, hcs⟩ := ((HF.out.later Y7.out)).cells hjn
                      cases ha
                      obtain ⟨y0, y1, y2, y3, y4, y5⟩ := fdx hcs
                      have u0 := later_cell y0
                      have u1 := later_cell y1
                      have u2 := later_cell y2
                      have u3 := later_cell y3
                      have u4 := later_cell y4
                      have u5 := later_cell y5
                      have eh : fHas fs cl j = hasB (fnth fs j).ms cl := rfl
                      rw [eh] at ES
                      cases hh : hasB (fnth fs j).ms cl
                      all_goals
                        have HQ := HQ1
                        rw [hh] at HQ ES
                        have pj : (0 : Int) ≤ (j : Int) := by omega
                        clear hh eh hcs y0 y1 y2 y3 y4 y5 hsm HQ1 hb2
                        go_wp2_with fail
                        have wk1 : IntKind.i64.wrap (q : Int) = (q : Int) := IntWalk.i64_in _ (by omega)
                        have wk2 : IntKind.i64.wrap ((q : Int) + 1) = (q : Int) + 1 := IntWalk.i64_in _ (by omega)
                        have tn : ((q : Int) + 1).toNat = q + 1 := by omega
                        refine wp_region_later (by kernel_rfl) (by kernel_rfl) ?_
                        repeat (go_big_quiet_step ((first | (go_at_call 40; with_reducible exact quiet_later (HQ.out _)))))
                        refine wpQuiet_nil ?_
                        intro _ hw'
                        obtain ⟨nq, hw''⟩ := hw'
                        subst hw''
                        have H3 := Lib.hid (HB2.out.trans (nq.2.mono HB2.out.size))
                        clear wk1 wk2 tn
                        go_wp2_with fail
                        go_roundw
                        case rel => exact ⟨j + 1, by omega, by go_num, by rw [ES.out]; rfl, H3.out⟩
                        case measure => simp [intOf] <;> omega
                    · rw [hsm] at ES
                      have HQ := Lib.hid (fun N : Later wr => HQ0.out j hjn N.1 (Y7.out.trans (N.2.mono Y7.out.size)))
                      clear hsm hb2
                      go_wp2_with fail
                      have wk1 : IntKind.i64.wrap (q : Int) = (q : Int) := IntWalk.i64_in _ (by omega)
                      have wk2 : IntKind.i64.wrap ((q : Int) + 1) = (q : Int) + 1 := IntWalk.i64_in _ (by omega)
                      have tn : ((q : Int) + 1).toNat = q + 1 := by omega
                      refine wp_region_later (by kernel_rfl) (by kernel_rfl) ?_
                      repeat (go_big_quiet_step ((first | (go_at_call 40; with_reducible exact quiet_later (HQ.out _)))))
                      refine wpQuiet_nil ?_
                      intro _ hw'
                      obtain ⟨nq, hw''⟩ := hw'
                      subst hw''
                      have H3 := Lib.hid (HB2.out.trans (nq.2.mono HB2.out.size))
                      clear wk1 wk2 tn
                      go_wp2_with fail
                      go_roundw
                      case rel => exact ⟨j + 1, by omega, by go_num, by rw [ES.out]; rfl, H3.out⟩
                      case measure => simp [intOf] <;> omega
                  · obtain rfl : j = n := by omega
                    have l5 : ¬ (j : Int) < (j : Int) := by omega
                    cases hsm : someF fs cl j
                    · have HQ := Lib.hid (trivial : True)
                      clear hsm hb2 hfn
                      go_wp2_with fail
                      have wk1 : IntKind.i64.wrap (q : Int) = (q : Int) := IntWalk.i64_in _ (by omega)
                      have wk2 : IntKind.i64.wrap ((q : Int) + 1) = (q : Int) + 1 := IntWalk.i64_in _ (by omega)
                      have tn : ((q : Int) + 1).toNat = q + 1 := by omega
                      refine wp_region_later (by kernel_rfl) (by kernel_rfl) ?_
                      repeat (go_big_quiet_step (fail))
                      refine wpQuiet_nil ?_
                      intro _ hw'
                      obtain ⟨nq, hw''⟩ := hw'
                      subst hw''
                      have H3 := Lib.hid (HB2.out.trans (nq.2.mono HB2.out.size))
                      clear wk1 wk2 tn
                      go_wp2_with fail
                      go_roundw
                      case rel => exact ⟨q + 1, by omega, by go_num, HB1.out.trans (H3.out.mono hz6)⟩
                      case measure => simp [intOf] <;> omega
                    · obtain ⟨j0, hj0, hjt⟩ := someF_ex hsm
                      obtain ⟨r, hr1, hr2, hr3⟩ := PH.out j0 hj0 hjt
                      have HQ := Lib.hid (fun N : Later wr => HQ0.out r hr2 N.1 (Y7.out.trans (N.2.mono Y7.out.size)))
                      rw [show hasB (fnth fs r).ms cl = true from hr3] at HQ
                      obtain ⟨ad, ha, hcs⟩ := ((HF.out.later Y7.out)).cells hr2
                      cases ha
                      obtain ⟨y0, y1, y2, y3, y4, y5⟩ := fdx hcs
                      have u0 := later_cell y0
                      have u1 := later_cell y1
                      have u2 := later_cell y2
                      have u3 := later_cell y3
                      have u4 := later_cell y4
                      have u5 := later_cell y5
                      have e1 : decide ((r : Int) < 0) = false := by simp
                      have e2 : decide ((j : Int) ≤ (r : Int)) = false := by simp; omega
                      have e3 : decide (j ≤ r) = false := by simp; omega
                      have pr : (0 : Int) ≤ (r : Int) := by omega
                      have pr2 : (r : Int) < (j : Int) := by omega
                      subst hr1
                      clear hcs y0 y1 y2 y3 y4 y5 hsm hb2 hjt hj0 hr3 hfn
                      go_wp2_with fail
                      have wk1 : IntKind.i64.wrap (q : Int) = (q : Int) := IntWalk.i64_in _ (by omega)
                      have wk2 : IntKind.i64.wrap ((q : Int) + 1) = (q : Int) + 1 := IntWalk.i64_in _ (by omega)
                      have tn : ((q : Int) + 1).toNat = q + 1 := by omega
                      refine wp_region_later (by kernel_rfl) (by kernel_rfl) ?_
                      repeat (go_big_quiet_step ((first | (go_at_call 40; with_reducible exact quiet_later (HQ.out _)))))
                      refine wpQuiet_nil ?_
                      intro _ hw'
                      obtain ⟨nq, hw''⟩ := hw'
                      subst hw''
                      have H3 := Lib.hid (HB2.out.trans (nq.2.mono HB2.out.size))
                      clear wk1 wk2 tn
                      go_wp2_with fail
                      go_roundw
                      case rel => exact ⟨q + 1, by omega, by go_num, HB1.out.trans (H3.out.mono hz6)⟩
                      case measure => simp [intOf] <;> omega
              · have l1 : ¬ ((q : Int) + 1 < (B : Int)) := by omega
                go_wp2_with fail
                go_ret
                exact ⟨rfl, Y5.out.trans (HB.out.mono Y5.out.size)⟩
end Go.Proofs.YtefajgfhdnhmmaaDoor
