/- Chapter 52: the law DirtyKeeps: what is kept, taken out and put in are all paragraphs; those kept are as they were. -/
import Derived.Test.YtilbcafkjpikgaaDoorDpn
import Derived.Test.YtilbcafkjpikgaaDoorDkl
import Derived.Laws.Cover4
namespace Go.Proofs.YtilbcafkjpikgaaDoor
open Go.ChangeShapes Go.WideShapes Go.ChangeAt Go.RowKit
set_option maxRecDepth 100000
set_option linter.unusedSimpArgs false

/-- a slice of code points as a string -/
theorem conv_ints {w : World} {B n c : Nat} {A : Option Addr} {xs : List Int} (h : IntsAt w B .i32 A n xs) : (convert 22 9 (.slice A n c)).run Tryd.prog w = .ok (.string (runesBytes xs)) w := by
  rcases Nat.eq_zero_or_pos n with h0 | h0
  · subst h0
    have hx : xs = [] := List.eq_nil_of_length_eq_zero h.1
    subst hx
    cases A with
    | none => exact run_convert_runes_nil w _ _ _ _ _ Tryd.underlying22 Tryd.underlying21 Tryd.underlying9
    | some a => exact run_convert_runes w _ _ _ a 0 c [] (Nat.le_refl _) Tryd.underlying22 Tryd.underlying21 Tryd.underlying9 (fun j hj => by simp at hj)
  · obtain ⟨a, rfl, _, hc⟩ := h.2 h0
    have e := run_convert_runes w 22 9 21 a n c xs (by rw [h.1]; exact Nat.le_refl _) Tryd.underlying22 Tryd.underlying21 Tryd.underlying9 (fun j hj => hc j (by rw [← h.1]; exact hj))
    rw [List.take_of_length_le (by rw [h.1]; exact Nat.le_refl _)] at e
    exact e
theorem strNeqSame (s : ByteArray) (w : World) : (binOp .neq 9 (.string s) (.string s)).run Tryd.prog w = .ok (.bool false) w := by simp [go_sem]
/-- what lies in memory while paragraphs are held against each other -/
structure KRel (w wr : World) (p g : Nat) (D : Option Addr) (m d : Nat) (st : Int) (bb : Nat) (K C P T : Nat) (B5 : Nat) (A5 : Option Addr) (kn c5 : Nat) (k : List (Nat × Nat)) (B6 : Nat) (A6 : Option Addr) (ln c6 : Nat) (l : List (Nat × Nat))
    (A : Option Addr) (n c : Nat) (xs : List Int) (A3 : Option Addr) (nb c4 : Nat) (ys : List Int) : Prop where
  four : Four wr w.heap.size 24 (.int .i64 (p : Int)) (.int .i64 (g : Int)) (.slice D m d) (.int .i64 st)
  res : Four wr bb 28 (.int .i64 (K : Int)) (.int .i64 (C : Int)) (.int .i64 (P : Int)) (.int .i64 (T : Int))
  be : Below w.heap.size w wr
  ok : OwnV wr B5 35 2 A5 kn c5 (cutsV k)
  ol : OwnV wr B6 35 2 A6 ln c6 (cutsV l)
  sx : SliceIn .i32 wr A n c xs
  sy : SliceIn .i32 wr A3 nb c4 ys
theorem KRel.pass {w wr w' : World} {p g : Nat} {D : Option Addr} {m d : Nat} {st : Int} {bb K C P T : Nat} {B5 : Nat} {A5 : Option Addr} {kn c5 : Nat} {k : List (Nat × Nat)} {B6 : Nat} {A6 : Option Addr} {ln c6 : Nat} {l : List (Nat × Nat)}
    {A : Option Addr} {n c : Nat} {xs : List Int} {A3 : Option Addr} {nb c4 : Nat} {ys : List Int}
    (h : KRel w wr p g D m d st bb K C P T B5 A5 kn c5 k B6 A6 ln c6 l A n c xs A3 nb c4 ys) (hb : Below wr.heap.size wr w') : KRel w w' p g D m d st bb K C P T B5 A5 kn c5 k B6 A6 ln c6 l A n c xs A3 nb c4 ys :=
  ⟨h.four.pass hb h.four.lt, h.res.pass hb h.res.lt, h.be.trans (hb.mono h.be.size), h.ok.pass hb, h.ol.pass hb, h.sx.pass hb, h.sy.pass hb⟩

set_option maxHeartbeats 8000000 in
theorem DirtyKeeps_walk (A : Option Addr) (n c : Nat) (xs : List Int) (p : Int) (_ : (Lit.int .i64 p).wf = true) (g : Int) (_ : (Lit.int .i64 g).wf = true) (D : Option Addr) (m d : Nat) (ys : List Int) (st : Int) (_ : (Lit.int .i64 st).wf = true) (w : World)
    (hx : SliceIn .i32 w A n c xs) (hy : SliceIn .i32 w D m d ys) (hl : Laid w) :
    Calls Tryd.prog 4 #[.slice A n c, .agg #[.int .i64 p, .int .i64 g, .slice D m d, .int .i64 st]] w fun e w' => e = .returned (.bool true) ∧ Below w.heap.size w w' := by
  have LG : Shut (∀ W, _) := ⟨fun W => long52_any A n c p g D m d st W⟩
  cases hlong : (decide (40 < n) || decide (20 < m)) with
  | true =>
    rw [hlong] at LG
    clear hlong hx hy hl
    go_enter Tryd.func4, Tryd.ntmps4
    go_wp2_with fail
    refine (LG.out _).mono ?_
    rintro e w1 ⟨rfl, b1⟩
    go_wp2_with fail
    go_ret
    exact ⟨rfl, (below_alloc w _).trans (b1.mono (by simp))⟩
  | false =>
    rw [hlong] at LG
    simp only [Bool.or_eq_false_iff, decide_eq_false_iff_not] at hlong
    have hn : n ≤ 40 := by omega
    have hm : m ≤ 20 := by omega
    have FT : Shut (∀ W, _) := ⟨fun W => rfits_any A n c (by omega) p g D m d st (by omega) W⟩
    have HX : Shut _ := ⟨hx⟩
    have HY : Shut _ := ⟨hy⟩
    have HL : Shut _ := ⟨hl⟩
    clear hlong hx hy hl
    cases hf : fitsB n m p g with
    | false =>
      rw [hf] at FT
      clear hf
      go_enter Tryd.func4, Tryd.ntmps4
      go_wp2_with fail
      refine (LG.out _).mono ?_
      rintro e w1 ⟨rfl, b1⟩
      have Q1 : Shut (Four w1 w.heap.size 24 (.int .i64 p) (.int .i64 g) (.slice D m d) (.int .i64 st)) := ⟨(Four.new w _ _ _ _ _ _ rfl).pass b1 (by simp)⟩
      have B1 : Shut (Below w.heap.size w w1) := ⟨(below_alloc w _).trans (b1.mono (by simp))⟩
      have c0 := Q1.out.c0
      have c1 := Q1.out.c1
      have c2 := Q1.out.c2
      have c3 := Q1.out.c3
      clear b1 LG
      go_wp2_with fail
      refine (FT.out _).mono ?_
      rintro e w2 ⟨rfl, b2⟩
      have B2 : Shut (Below w.heap.size w w2) := ⟨B1.out.trans (b2.mono B1.out.size)⟩
      clear b2
      go_wp2_with fail
      go_ret
      exact ⟨rfl, B2.out⟩
    | true =>
      rw [hf] at FT
      have h0 : 0 ≤ p ∧ 0 ≤ g := by unfold fitsB at hf; simp at hf; omega
      obtain ⟨p, rfl⟩ := Int.eq_ofNat_of_zero_le h0.1
      obtain ⟨g, rfl⟩ := Int.eq_ofNat_of_zero_le h0.2
      have hpg : p + g ≤ n := by unfold fitsB at hf; simp at hf; omega
      obtain ⟨nb, hnb⟩ : ∃ nb, n - g + m = nb := ⟨_, rfl⟩
      have BH : Shut (∀ W, Below w.heap.size w W → _) := ⟨fun W hW => rbehind_any A n c xs p g hpg D m d st ys W (HX.out.pass hW) (HY.out.pass hW) (by omega)⟩
      rw [hnb] at BH
      have hnb1 : nb ≤ 60 := by omega
      have PA : Shut (∀ W, Below w.heap.size w W → _) := ⟨fun W hW => rall_any A n c xs W (HX.out.pass hW) (by omega)⟩
      have PP : Shut (∀ W A3 c4, Below w.heap.size w W → SliceIn .i32 W A3 nb c4 (behind xs ys p g) → _) := ⟨fun W A3 c4 hW hb => pdp_any A n c xs A3 nb c4 (behind xs ys p g) p g D m d st W (HX.out.pass hW) hb (HL.out.pass hW) (by omega) (by omega) (by omega) hf⟩
      have hxl := HX.out.at_.len
      have hyl := HY.out.at_.len
      have KLO : Shut (∀ i, _ → _) := ⟨fun i hi => keeps_lo (xs := xs) (ys := ys) (p := p) (g := g) (by rw [hxl]; exact hpg) (i := i) hi⟩
      have KHI : Shut (∀ i u, _ → _ → _ → _) := ⟨fun i u h1 h2 h3 => keeps_hi (xs := xs) (ys := ys) (p := p) (g := g) (by rw [hxl]; exact hpg) hyl (i := i) (u := u) h1 h2 h3⟩
      have E1 : Shut (∀ j, j < (allP xs).length → (rng (allP xs) j).1 ≤ (rng (allP xs) j).2 ∧ (rng (allP xs) j).2 ≤ n) := ⟨fun j hj => by have := allP_each xs j hj; rw [hxl] at this; exact this⟩
      have hbl : (behind xs ys p g).length = nb := by rw [behind_len (by rw [hxl]; exact hpg), hxl, hyl]; exact hnb
      have E2 : Shut (∀ j, j < (allP (behind xs ys p g)).length → (rng (allP (behind xs ys p g)) j).1 ≤ (rng (allP (behind xs ys p g)) j).2 ∧ (rng (allP (behind xs ys p g)) j).2 ≤ nb) := ⟨fun j hj => by have := allP_each (behind xs ys p g) j hj; rw [hbl] at this; exact this⟩
      have hk1 := allP_len xs
      have hl1 := allP_len (behind xs ys p g)
      rw [hxl] at hk1
      rw [hbl] at hl1
      have RB : Shut (∀ W A3 c4, SliceIn .i32 W A3 nb c4 (behind xs ys p g) → _) := ⟨fun W A3 c4 hb => rall_any A3 nb c4 (behind xs ys p g) W hb (by omega)⟩
      have hTle := tailN_le (allP xs) (allP (behind xs ys p g)) (p : Int) ((p : Int) + g) ((m : Int) - g)
      unfold paraV at PP
      unfold NewCuts at PA RB
      clear hf hnb h0 hxl hyl hbl
      generalize behind xs ys p g = bs at *
      generalize allP xs = k at *
      generalize allP bs = l at *
      obtain ⟨K, hK⟩ : ∃ K, keepN k l (p : Int) = K := ⟨_, rfl⟩
      obtain ⟨T, hT⟩ : ∃ T, tailN k l (p : Int) ((p : Int) + g) ((m : Int) - g) = T := ⟨_, rfl⟩
      obtain ⟨kn, hkn⟩ : ∃ kn, k.length = kn := ⟨_, rfl⟩
      obtain ⟨ln, hln⟩ : ∃ ln, l.length = ln := ⟨_, rfl⟩
      rw [hK, hT, hkn, hln] at hTle PP
      rw [hK] at KLO
      rw [hT, hkn, hln] at KHI
      rw [hkn] at E1 hk1 PA
      rw [hln] at E2 hl1 RB
      obtain ⟨C, hC⟩ : ∃ C : Nat, kn - K - T = C := ⟨_, rfl⟩
      obtain ⟨P, hP⟩ : ∃ P : Nat, ln - K - T = P := ⟨_, rfl⟩
      have eC : (kn : Int) - (K : Int) - (T : Int) = (C : Int) := by omega
      have eP : (ln : Int) - (K : Int) - (T : Int) = (P : Int) := by omega
      rw [eC, eP] at PP
      have HS : Shut (K + C + T = kn ∧ K + P + T = ln) := ⟨by omega⟩
      have HKN : Shut (k.length = kn) := ⟨hkn⟩
      have HLN : Shut (l.length = ln) := ⟨hln⟩
      clear hK hT hkn hln hC hP eC eP hTle
      go_enter Tryd.func4, Tryd.ntmps4
      go_wp2_with fail
      refine (LG.out _).mono ?_
      rintro e w1 ⟨rfl, b1⟩
      have Q1 : Shut (Four w1 w.heap.size 24 (.int .i64 (p : Int)) (.int .i64 (g : Int)) (.slice D m d) (.int .i64 st)) := ⟨(Four.new w _ _ _ _ _ _ rfl).pass b1 (by simp)⟩
      have B1 : Shut (Below w.heap.size w w1) := ⟨(below_alloc w _).trans (b1.mono (by simp))⟩
      have c0 := Q1.out.c0
      have c1 := Q1.out.c1
      have c2 := Q1.out.c2
      have c3 := Q1.out.c3
      clear b1 LG
      go_wp2_with fail
      refine (FT.out _).mono ?_
      rintro e w2 ⟨rfl, b2⟩
      have Q2 : Shut _ := ⟨Q1.out.pass b2 Q1.out.lt⟩
      have B2 : Shut (Below w.heap.size w w2) := ⟨B1.out.trans (b2.mono B1.out.size)⟩
      clear b2 c0 c1 c2 c3 Q1 B1 FT
      have c0 := Q2.out.c0
      have c1 := Q2.out.c1
      have c2 := Q2.out.c2
      have c3 := Q2.out.c3
      go_wp2_with fail
      refine (BH.out _ B2.out).mono ?_
      rintro e w3 ⟨A3, c4, rfl, o3, b3⟩
      have Q3 : Shut _ := ⟨Q2.out.pass b3 Q2.out.lt⟩
      have B3 : Shut (Below w.heap.size w w3) := ⟨B2.out.trans (b3.mono B2.out.size)⟩
      have O3 : Shut _ := ⟨o3⟩
      clear b3 o3 c0 c1 c2 c3 Q2 B2 BH
      go_wp2_with fail
      refine (PA.out _ B3.out).mono ?_
      rintro e w4 ⟨A5, c5, rfl, o5, b4⟩
      have Q4 : Shut _ := ⟨Q3.out.pass b4 Q3.out.lt⟩
      have B4 : Shut (Below w.heap.size w w4) := ⟨B3.out.trans (b4.mono B3.out.size)⟩
      have O4 : Shut _ := ⟨O3.out.pass b4⟩
      have O5 : Shut _ := ⟨o5⟩
      clear b4 o5 Q3 B3 O3 PA
      go_wp2_with fail
      refine (RB.out _ A3 c4 O4.out).mono ?_
      rintro e w5 ⟨A6, c6, rfl, o6, b5⟩
      have Q5 : Shut _ := ⟨Q4.out.pass b5 Q4.out.lt⟩
      have B5 : Shut (Below w.heap.size w w5) := ⟨B4.out.trans (b5.mono B4.out.size)⟩
      have R5 : Shut _ := ⟨O4.out.pass b5⟩
      have O6 : Shut _ := ⟨O5.out.pass b5⟩
      have O7 : Shut _ := ⟨o6⟩
      have c0 := Q5.out.c0
      have c1 := Q5.out.c1
      have c2 := Q5.out.c2
      have c3 := Q5.out.c3
      clear b5 o6 Q4 B4 O4 O5 RB
      go_wp2_with fail
      refine (PP.out _ A3 c4 B5.out R5.out).mono ?_
      rintro e w6 ⟨rfl, b6⟩
      have KR : Shut (KRel w (w6.alloc (.cells #[.int .i64 (K : Int), .int .i64 (C : Int), .int .i64 (P : Int), .int .i64 (T : Int)] 28)) p g D m d st w6.heap.size K C P T w3.heap.size A5 kn c5 k w4.heap.size A6 ln c6 l A n c xs A3 nb c4 bs) :=
        ⟨⟨(Q5.out.pass b6 Q5.out.lt).alloc _, Four.new _ _ _ _ _ _ _ rfl, (B5.out.trans (b6.mono B5.out.size)).alloc (by have := B5.out.size; have := b6.size; omega) _, (O6.out.pass b6).alloc _, (O7.out.pass b6).alloc _, HX.out.pass ((B5.out.trans (b6.mono B5.out.size)).alloc (by have := B5.out.size; have := b6.size; omega) _), (R5.out.pass b6).pass (below_alloc _ _)⟩⟩
      have g1 : ((K : Int) + (C : Int) + (T : Int)) = (kn : Int) := by have := HS.out; omega
      have g2 : ((K : Int) + (P : Int) + (T : Int)) = (ln : Int) := by have := HS.out; omega
      have hKk : (K : Int) ≤ 61 ∧ (C : Int) ≤ 61 ∧ (P : Int) ≤ 61 ∧ (T : Int) ≤ 61 := by omega
      clear b6 c0 c1 c2 c3 Q5 B5 R5 O6 O7 PP HX HY HL
      go_wp2_with fail
      go_loopg [9, 10] (kn + 1) (fun gg v9 v10 wr => ∃ i : Nat, kn - i < gg ∧ i ≤ kn ∧ v9 = .int .i64 (i : Int) ∧ Shut (KRel w wr p g D m d st w6.heap.size K C P T w3.heap.size A5 kn c5 k w4.heap.size A6 ln c6 l A n c xs A3 nb c4 bs))
      case atStart => exact ⟨0, by omega, by omega, rfl, KR⟩
      case round =>
        obtain ⟨i, hg, hik, rfl, R⟩ := hrel
        have S1 := HS.out
        by_cases h1 : i < kn
        · have r0 := R.out.res.c0
          have r1 := R.out.res.c1
          have r2 := R.out.res.c2
          obtain ⟨q1, q2⟩ := E1.out i h1
          rcases Nat.lt_or_ge i K with hiK | hiK
          · obtain ⟨e1, e2, e3⟩ := KLO.out i hiK
            have h2 : i < ln := by omega
            obtain ⟨q3, q4⟩ := E2.out i h2
            rw [e1] at q3 q4
            obtain ⟨v1, v2⟩ := cutsV_at k i (by rw [HKN.out]; exact h1)
            obtain ⟨v3, v4⟩ := cutsV_at l i (by rw [HLN.out]; exact h2)
            rw [e1] at v3 v4
            generalize (rng k i).1 = a1 at *
            generalize (rng k i).2 = a2 at *
            obtain ⟨ga, rfl, _⟩ := OwnV.form R.out.ok (by omega)
            obtain ⟨gb, rfl, _⟩ := OwnV.form R.out.ol (by omega)
            have d1 := later_cell ((OwnV.cellAt R.out.ok (i * 2) (by omega)).trans v1)
            have d2 := later_cell ((OwnV.cellAt R.out.ok (i * 2 + 1) (by omega)).trans v2)
            have d3 := later_cell ((OwnV.cellAt R.out.ol (i * 2) (by omega)).trans v3)
            have d4 := later_cell ((OwnV.cellAt R.out.ol (i * 2 + 1) (by omega)).trans v4)
            have d5 := later_cell R.out.four.c0
            obtain ⟨Ax, cx, CX⟩ := cut_lh TI32d A n c a1 a2 q1 q2 R.out.sx.le (a1 : Int) (a2 : Int) rfl rfl
            obtain ⟨Ay, cy, CY⟩ := cut_lh TI32d A3 nb c4 a1 a2 q1 q4 R.out.sy.le (a1 : Int) (a2 : Int) rfl rfl
            have rx := CX.run
            have ry := CY.run
            have cvx : ∀ N : Later wr, _ := fun N => conv_ints (c := cx) (CX.at_ (R.out.sx.pass N.2).at_)
            have cvy : ∀ N : Later wr, _ := fun N => conv_ints (c := cy) (CY.at_ (R.out.sy.pass N.2).at_)
            rw [e3] at cvy
            generalize runesBytes ((xs.take a2).drop a1) = ss at cvx cvy
            have nq : ∀ N : Later wr, _ := fun N => strNeqSame ss N.1
            have i1 : (i : Int) < (K : Int) := by omega
            have i2 : decide ((i : Int) < (K : Int)) = true := by simpa using hiK
            clear CX CY v1 v2 v3 v4 e1 e3
            by_cases h3 : a1 < p
            · have f1 : decide ((a1 : Int) < (p : Int)) = true := by simpa using h3
              have f2 : decide ((p : Int) < (a2 : Int)) = false := by simp; omega
              have f3 : decide (a1 < p) = true := by simpa using h3
              have f4 : decide (p < a2) = false := by simp; omega
              clear S1 q1 q2 q3 q4 h3 e2
              go_wp2_with fail
              refine wp_region_later (by kernel_rfl) (by kernel_rfl) ?_
              repeat (go_big_quiet_step (fail))
              refine wpQuiet_nil ?_
              intro _ hw'
              obtain ⟨nqq, hw''⟩ := hw'
              subst hw''
              go_wp2_with fail
              have R2 : Shut _ := ⟨R.out.pass nqq.2⟩
              go_roundg (kn - i)
              case measure => omega
              case rel => exact ⟨i + 1, by omega, by omega, by go_num, R2⟩
            · have f1 : decide ((a1 : Int) < (p : Int)) = false := by simpa using h3
              have f3 : decide (a1 < p) = false := by simpa using h3
              clear S1 q1 q2 q3 q4 h3 e2
              go_wp2_with fail
              refine wp_region_later (by kernel_rfl) (by kernel_rfl) ?_
              repeat (go_big_quiet_step (fail))
              refine wpQuiet_nil ?_
              intro _ hw'
              obtain ⟨nqq, hw''⟩ := hw'
              subst hw''
              go_wp2_with fail
              have R2 : Shut _ := ⟨R.out.pass nqq.2⟩
              go_roundg (kn - i)
              case measure => omega
              case rel => exact ⟨i + 1, by omega, by omega, by go_num, R2⟩
          · rcases Nat.lt_or_ge i (K + C) with hiC | hiC
            · have i1 : ¬ (i : Int) < (K : Int) := by omega
              have i3 : (i : Int) < (K : Int) + (C : Int) := by omega
              clear S1 q1 q2
              go_wp2_with fail
              go_roundg (kn - i)
              case measure => omega
              case rel => exact ⟨i + 1, by omega, by omega, by go_num, R⟩
            · obtain ⟨u, hu⟩ : ∃ u, u + kn = i + ln := ⟨i + ln - kn, by omega⟩
              have h2 : u < ln := by omega
              obtain ⟨e2, e3⟩ := KHI.out i u h1 hu (by omega)
              obtain ⟨q3, q4⟩ := E2.out u h2
              obtain ⟨v1, v2⟩ := cutsV_at k i (by rw [HKN.out]; exact h1)
              obtain ⟨v3, v4⟩ := cutsV_at l u (by rw [HLN.out]; exact h2)
              generalize (rng k i).1 = a1 at *
              generalize (rng k i).2 = a2 at *
              generalize (rng l u).1 = b1 at *
              generalize (rng l u).2 = b2 at *
              obtain ⟨ga, rfl, _⟩ := OwnV.form R.out.ok (by omega)
              obtain ⟨gb, rfl, _⟩ := OwnV.form R.out.ol (by omega)
              have d1 := later_cell ((OwnV.cellAt R.out.ok (i * 2) (by omega)).trans v1)
              have d2 := later_cell ((OwnV.cellAt R.out.ok (i * 2 + 1) (by omega)).trans v2)
              have d3 := later_cell ((OwnV.cellAt R.out.ol (u * 2) (by omega)).trans v3)
              have d4 := later_cell ((OwnV.cellAt R.out.ol (u * 2 + 1) (by omega)).trans v4)
              have d5 := later_cell R.out.four.c0
              obtain ⟨Ax, cx, CX⟩ := cut_lh TI32d A n c a1 a2 q1 q2 R.out.sx.le (a1 : Int) (a2 : Int) rfl rfl
              obtain ⟨Ay, cy, CY⟩ := cut_lh TI32d A3 nb c4 b1 b2 q3 q4 R.out.sy.le (b1 : Int) (b2 : Int) rfl rfl
              have rx := CX.run
              have ry := CY.run
              have cvx : ∀ N : Later wr, _ := fun N => conv_ints (c := cx) (CX.at_ (R.out.sx.pass N.2).at_)
              have cvy : ∀ N : Later wr, _ := fun N => conv_ints (c := cy) (CY.at_ (R.out.sy.pass N.2).at_)
              rw [e3] at cvy
              generalize runesBytes ((xs.take a2).drop a1) = ss at cvx cvy
              have nq : ∀ N : Later wr, _ := fun N => strNeqSame ss N.1
              have i1 : ¬ (i : Int) < (K : Int) := by omega
              have i3 : ¬ (i : Int) < (K : Int) + (C : Int) := by omega
              have eu : (i : Int) - (C : Int) + (P : Int) = (u : Int) := by omega
              have pu : (0 : Int) ≤ (u : Int) := by omega
              have pu2 : (u : Int) < (ln : Int) := by omega
              have f1 : decide ((a1 : Int) < (p : Int)) = false := by simp; omega
              have f3 : decide (a1 < p) = false := by simp; omega
              clear CX CY v1 v2 v3 v4 e2 e3 S1 q1 q2 q3 q4 hu
              go_wp2_with fail
              refine wp_region_later (by kernel_rfl) (by kernel_rfl) ?_
              repeat (go_big_quiet_step (fail))
              refine wpQuiet_nil ?_
              intro _ hw'
              obtain ⟨nqq, hw''⟩ := hw'
              subst hw''
              clear eu
              go_wp2_with fail
              have R2 : Shut _ := ⟨R.out.pass nqq.2⟩
              go_roundg (kn - i)
              case measure => omega
              case rel => exact ⟨i + 1, by omega, by omega, by go_num, R2⟩
        · have i1 : ¬ (i : Int) < (kn : Int) := by omega
          clear S1
          go_wp2_with fail
          go_ret
          exact ⟨rfl, R.out.be⟩
end Go.Proofs.YtilbcafkjpikgaaDoor
