/- Chapter 7: the walk of GraphemeCovers. -/
import Derived.Test.YtcldegpfkpmciaaDoorGal
namespace Go.Proofs.YtcldegpfkpmciaaDoor
open Go.ChangeShapes Go.WideShapes Go.ChangeAt Go.RowKit
set_option maxRecDepth 100000
set_option linter.unusedSimpArgs false

/-- at a boundary: where the list has it, and its neighbours -/
theorem cov_yes {l : List Int} {k : Nat} (hk : k ≤ l.length) (h : isN l k = true) :
    (bndN l k).length < (bndA l).length ∧ atN (bndA l) (bndN l k).length = k ∧ (bndN l (k + 1)).length = (bndN l k).length + 1 ∧
    (k < l.length → (bndN l k).length + 1 < (bndA l).length ∧ nextV l (k : Int) = atN (bndA l) ((bndN l k).length + 1)) ∧
    (0 < (bndN l k).length → prevV l (k : Int) = atN (bndA l) ((bndN l k).length - 1)) := by
  obtain ⟨h1, h2⟩ := at_is hk h
  have h3 : (bndN l (k + 1)).length = (bndN l k).length + 1 := by rw [bndN_yes h]; simp
  refine ⟨h1, h2, h3, fun hl => ?_, fun h0 => ?_⟩
  · have h4 := (bndA_last (ks := l) (by omega)).1
    have h5 := bnd_mono (ks := l) (s := k + 1) (t := l.length) (by omega)
    have h6 : (bndN l k).length + 1 < (bndA l).length := by omega
    refine ⟨h6, ?_⟩
    unfold nextV
    rw [show (max ((k : Int) + 1) 0).toNat = k + 1 by omega, nxB_at (by omega), h3]
  · unfold prevV
    rw [show min (k : Int).toNat (l.length + 1) = k by omega, pvB_at (by omega), if_neg (by omega)]
theorem cov_no {l : List Int} {k : Nat} (hk : k ≤ l.length) (h : isN l k = false) (hlt : (bndN l k).length < (bndA l).length) : atN (bndA l) (bndN l k).length ≠ k := by
  obtain ⟨_, _, h3⟩ := below_ge (ks := l) (s := k) (by omega) (Nat.le_refl _) hlt
  intro e
  rw [e, h] at h3
  cases h3
theorem rng_prs {l : List Nat} {m j : Nat} (h : j < m) : rng (prs l m) j = (atN l j, atN l (j + 1)) := by
  unfold rng prs
  simp [h]

set_option maxHeartbeats 8000000 in
theorem GraphemeCovers_walk (A : Option Addr) (n c : Nat) (xs : List Int) (w : World) (hx : SliceIn .i32 w A n c xs) (hl : Laid w) :
    Calls Tryd.prog 7 #[.slice A n c] w fun e w' => e = .returned (.bool true) ∧ Below w.heap.size w w' := by
  have HX := Lib.hid hx
  have HL := Lib.hid hl
  have hkn : (ks xs).length = n := by rw [ks_len]; exact hx.at_.len
  clear hx hl
  by_cases hlen : 200 < n
  · go_enter Tryd.func7, Tryd.ntmps7
    go_wp2_with fail
    refine (alive07_any _ HL.out).mono ?_
    rintro e w1 ⟨rfl, hb1⟩
    go_wp2_with fail
    go_ret
    exact ⟨rfl, hb1⟩
  · have hn : n ≤ 200 := by omega
    have P1 := Lib.hid (pbounds_any A n c xs w HX.out HL.out (by omega))
    obtain ⟨l, hl⟩ : ∃ l, ks xs = l := ⟨_, rfl⟩
    have KE := Lib.hid hl
    rw [hl] at P1 hkn
    have KN := Lib.hid hkn
    obtain ⟨_, hbl⟩ := cutsL_le hkn
    obtain ⟨m, hm⟩ : ∃ m, (bndA l).length = m := ⟨_, rfl⟩
    have HM := Lib.hid hm
    rw [bounds_map] at P1
    rw [hm] at P1 hbl
    clear hl hm hkn
    go_enter Tryd.func7, Tryd.ntmps7
    go_wp2_with fail
    refine P1.out.mono ?_
    rintro e w1 ⟨Ab, cb, rfl, ob, x1⟩
    have X1 := Lib.hid x1
    have OB := Lib.hid ob
    have IX := Lib.hid (HX.out.pass x1)
    have LX := Lib.hid (HL.out.pass x1)
    clear ob x1 P1
    go_wp2_with fail
    go_loopw [4, 5] (fun u i wr => ∃ k : Nat, k ≤ n + 1 ∧ i = .int .i64 k ∧ u = .int .i64 (((bndN l k).length : Nat) : Int) ∧ Below w1.heap.size w1 wr) (fun _ i _ => n + 1 - (intOf i).toNat)
    case atStart => exact ⟨0, Nat.zero_le _, rfl, rfl, Below.refl _ _⟩
    case round =>
      obtain ⟨k, hk, rfl, rfl, hb⟩ := hrel
      have HB := Lib.hid hb
      by_cases hlt : k ≤ n
      · have l1 : (k : Int) ≤ (n : Int) := by omega
        have ob := OB.out.pass hb
        have IK := Lib.hid (fun w' (hb : Below wr.heap.size wr w') => pisn_any A n c xs k w' ((IX.out.pass HB.out).pass hb) ((LX.out.pass HB.out).pass hb) (by omega))
        have NK := Lib.hid (fun N : Later wr => pnext_any A n c xs k N.1 ((IX.out.pass HB.out).pass N.2) ((LX.out.pass HB.out).pass N.2) (by omega))
        have PK := Lib.hid (fun N : Later wr => pprev_any A n c xs k N.1 ((IX.out.pass HB.out).pass N.2) ((LX.out.pass HB.out).pass N.2) (by omega))
        rw [KE.out] at IK NK PK
        cases hi : isN l k
        · have E1 := Lib.hid (bndN_no hi)
          rw [hi] at IK
          by_cases ha : (bndN l k).length < m
          · have hne := cov_no (by rw [KN.out]; exact hlt) hi (by rw [HM.out]; exact ha)
            obtain ⟨gb, rfl, _⟩ := OwnV.form ob (by omega)
            have c0 := own_cellG ob (j := (bndN l k).length) ha
            rw [nth_map (by rw [HM.out]; exact ha)] at c0
            generalize atN (bndA l) (bndN l k).length = v at *
            obtain ⟨a, hae⟩ : ∃ a, (bndN l k).length = a := ⟨_, rfl⟩
            have AE := Lib.hid hae
            rw [hae] at c0 ha ⊢
            have nv : ((v : Int) == (k : Int)) = false := by simp; omega
            have l2 : (a : Int) < (m : Int) := by omega
            have p0 : (0 : Int) ≤ (a : Int) := by omega
            clear hi ob hb hne hae NK PK
            go_wp2_with fail
            refine (IK.out _ (Below.refl _ _)).mono ?_
            rintro e w3 ⟨rfl, h3⟩
            have H3 := Lib.hid (HB.out.trans (h3.mono HB.out.size))
            clear h3
            go_wp2_with fail
            go_roundw
            case rel => exact ⟨k + 1, by omega, by go_num, by rw [E1.out, AE.out], H3.out⟩
            case measure => simp [intOf] <;> omega
          · obtain ⟨a, hae⟩ : ∃ a, (bndN l k).length = a := ⟨_, rfl⟩
            have AE := Lib.hid hae
            rw [hae] at ha ⊢
            have l2 : ¬ (a : Int) < (m : Int) := by omega
            clear hi ob hb hae NK PK
            go_wp2_with fail
            refine (IK.out _ (Below.refl _ _)).mono ?_
            rintro e w3 ⟨rfl, h3⟩
            have H3 := Lib.hid (HB.out.trans (h3.mono HB.out.size))
            clear h3
            go_wp2_with fail
            go_roundw
            case rel => exact ⟨k + 1, by omega, by go_num, by rw [E1.out, AE.out], H3.out⟩
            case measure => simp [intOf] <;> omega
        · obtain ⟨q1, q2, q3, q4, q5⟩ := cov_yes (by rw [KN.out]; exact hlt) hi
          rw [HM.out] at q1 q4
          rw [KN.out] at q4
          rw [hi] at IK
          have Q3 := Lib.hid q3
          obtain ⟨gb, rfl, _⟩ := OwnV.form ob (by omega)
          have c0 := own_cellG ob (j := (bndN l k).length) q1
          rw [nth_map (by rw [HM.out]; exact q1), q2] at c0
          have OBW := Lib.hid ob
          have Q4 := Lib.hid q4
          have Q5 := Lib.hid q5
          obtain ⟨a, hae⟩ : ∃ a, (bndN l k).length = a := ⟨_, rfl⟩
          rw [hae] at c0 q1 Q3 Q4 Q5 ⊢
          obtain ⟨a1, ha1⟩ : ∃ a1, a + 1 = a1 := ⟨_, rfl⟩
          have A1 : (a : Int) + 1 = (a1 : Int) := by omega
          rw [ha1] at Q3 Q4
          have l2 : (a : Int) < (m : Int) := by omega
          have p0 : (0 : Int) ≤ (a : Int) := by omega
          obtain ⟨m1, hm1⟩ : ∃ m1 : Nat, (m : Int) - 1 = m1 := ⟨m - 1, by omega⟩
          have KS := Lib.hid (fun N : Later wr => IK.out N.1 N.2)
          clear q2 q3 q4 q5 hi ob hb hae
          have A2 := Lib.hid ha1
          by_cases hkn : k < n
          · obtain ⟨r1, r2⟩ := Q4.out hkn
            rw [r2] at NK
            have c1 := own_cellG OBW.out (j := a1) r1
            rw [nth_map (by rw [HM.out]; exact r1)] at c1
            generalize atN (bndA l) a1 = v1 at *
            have l3 : (k : Int) < (n : Int) := by omega
            have l4 : ¬ (m1 : Int) < (a1 : Int) := by omega
            have l5 : (0 : Int) ≤ (a1 : Int) := by omega
            have l6 : (a1 : Int) < (m : Int) := by omega
            by_cases ha0 : 0 < a
            · have r3 := Q5.out ha0
              rw [r3] at PK
              obtain ⟨p, hp⟩ : ∃ p : Nat, (a1 : Int) - 2 = p := ⟨a - 1, by omega⟩
              have hpa : a - 1 = p := by omega
              rw [hpa] at PK
              have hpm : p < m := by omega
              have c2 := own_cellG OBW.out (j := p) hpm
              rw [nth_map (by rw [HM.out]; exact hpm)] at c2
              generalize atN (bndA l) p = v2 at *
              have l7 : (1 : Int) < (a1 : Int) := by omega
              have l8 : (0 : Int) ≤ (p : Int) := by omega
              have l9 : (p : Int) < (m : Int) := by omega
              have k1 := later_cell c1
              have k2 := later_cell c2
              clear r2 r3 hpa c1 c2
              have wk1 : IntKind.i64.wrap (m1 : Int) = (m1 : Int) := IntWalk.i64_in _ (by omega)
              have wk2 : IntKind.i64.wrap (p : Int) = (p : Int) := IntWalk.i64_in _ (by omega)
              go_wp2_with fail
              refine wp_region_later (by kernel_rfl) (by kernel_rfl) ?_
              repeat (go_big_quiet_step ((first | (go_at_call 23; with_reducible exact quiet_later (KS.out _)) | (go_at_call 29; with_reducible exact quiet_later (NK.out _)) | (go_at_call 31; with_reducible exact quiet_later (PK.out _)))))
              refine wpQuiet_nil ?_
              intro _ hw'
              obtain ⟨nq, hw''⟩ := hw'
              subst hw''
              have H3 := Lib.hid (HB.out.trans (nq.2.mono HB.out.size))
              go_wp2_with fail
              go_roundw
              case rel => exact ⟨k + 1, by omega, by go_num, by rw [Q3.out]; try rfl, H3.out⟩
              case measure => simp [intOf] <;> omega
            · obtain rfl : a = 0 := by omega
              obtain rfl : a1 = 1 := by omega
              have l4b : ¬ (m1 : Int) < 1 := by omega
              have l6b : (1 : Int) < (m : Int) := by omega
              have k1 := later_cell c1
              clear r2 c1 A1 l4 l5 l6 ha1
              have wk1 : IntKind.i64.wrap (m1 : Int) = (m1 : Int) := IntWalk.i64_in _ (by omega)
              go_wp2_with fail
              refine wp_region_later (by kernel_rfl) (by kernel_rfl) ?_
              repeat (go_big_quiet_step ((first | (go_at_call 23; with_reducible exact quiet_later (KS.out _)) | (go_at_call 29; with_reducible exact quiet_later (NK.out _)) | (go_at_call 31; with_reducible exact quiet_later (PK.out _)))))
              refine wpQuiet_nil ?_
              intro _ hw'
              obtain ⟨nq, hw''⟩ := hw'
              subst hw''
              have H3 := Lib.hid (HB.out.trans (nq.2.mono HB.out.size))
              go_wp2_with fail
              go_roundw
              case rel => exact ⟨k + 1, by omega, by go_num, by rw [Q3.out]; try rfl, H3.out⟩
              case measure => simp [intOf] <;> omega
          · have l3 : ¬ (k : Int) < (n : Int) := by omega
            by_cases ha0 : 0 < a
            · have r3 := Q5.out ha0
              rw [r3] at PK
              obtain ⟨p, hp⟩ : ∃ p : Nat, (a1 : Int) - 2 = p := ⟨a - 1, by omega⟩
              have hpa : a - 1 = p := by omega
              rw [hpa] at PK
              have hpm : p < m := by omega
              have c2 := own_cellG OBW.out (j := p) hpm
              rw [nth_map (by rw [HM.out]; exact hpm)] at c2
              generalize atN (bndA l) p = v2 at *
              have l7 : (1 : Int) < (a1 : Int) := by omega
              have l8 : (0 : Int) ≤ (p : Int) := by omega
              have l9 : (p : Int) < (m : Int) := by omega
              have k2 := later_cell c2
              clear r3 hpa c2
              have wk2 : IntKind.i64.wrap (p : Int) = (p : Int) := IntWalk.i64_in _ (by omega)
              go_wp2_with fail
              refine wp_region_later (by kernel_rfl) (by kernel_rfl) ?_
              repeat (go_big_quiet_step ((first | (go_at_call 23; with_reducible exact quiet_later (KS.out _)) | (go_at_call 29; with_reducible exact quiet_later (NK.out _)) | (go_at_call 31; with_reducible exact quiet_later (PK.out _)))))
              refine wpQuiet_nil ?_
              intro _ hw'
              obtain ⟨nq, hw''⟩ := hw'
              subst hw''
              have H3 := Lib.hid (HB.out.trans (nq.2.mono HB.out.size))
              go_wp2_with fail
              go_roundw
              case rel => exact ⟨k + 1, by omega, by go_num, by rw [Q3.out]; try rfl, H3.out⟩
              case measure => simp [intOf] <;> omega
            · obtain rfl : a = 0 := by omega
              obtain rfl : a1 = 1 := by omega
              clear A1 ha1
              go_wp2_with fail
              refine wp_region_later (by kernel_rfl) (by kernel_rfl) ?_
              repeat (go_big_quiet_step ((first | (go_at_call 23; with_reducible exact quiet_later (KS.out _)) | (go_at_call 29; with_reducible exact quiet_later (NK.out _)) | (go_at_call 31; with_reducible exact quiet_later (PK.out _)))))
              refine wpQuiet_nil ?_
              intro _ hw'
              obtain ⟨nq, hw''⟩ := hw'
              subst hw''
              have H3 := Lib.hid (HB.out.trans (nq.2.mono HB.out.size))
              go_wp2_with fail
              go_roundw
              case rel => exact ⟨k + 1, by omega, by go_num, by rw [Q3.out]; try rfl, H3.out⟩
              case measure => simp [intOf] <;> omega
      · obtain rfl : k = n + 1 := by omega
        have X2 := Lib.hid (X1.out.trans (hb.mono X1.out.size))
        have e1 : (bndN l (n + 1)).length = m := by rw [← HM.out]; unfold bndA; rw [KN.out]
        rw [e1]
        have en : ((n + 1 : Nat) : Int) = (n : Int) + 1 := by omega
        have PC := Lib.hid (pcuts_any A n c xs wr (IX.out.pass hb) (LX.out.pass hb) (by omega))
        rw [KE.out] at PC
        have ecl : (cutsL l).length = m - 1 := by unfold cutsL; rw [prs_len, HM.out]
        unfold NewCutsG at PC
        rw [ecl] at PC
        clear e1 ecl hb
        go_wp2_with fail
        refine PC.out.mono ?_
        rintro e w3 ⟨Ac, cc, rfl, oc, x3⟩
        have OC := Lib.hid oc
        have X3 := Lib.hid (X2.out.trans (x3.mono X2.out.size))
        clear oc x3
        obtain ⟨mm, hmm⟩ : ∃ mm, m - 1 = mm := ⟨_, rfl⟩
        rw [hmm] at OC ⊢
        have hz : 0 < mm → 0 < n := by
          intro h
          rcases Nat.eq_zero_or_pos n with h1 | h1
          · have := bndA_nil (ks := l) (by rw [KN.out]; exact h1)
            rw [this] at HM
            have := HM.out
            simp at this
            omega
          · exact h1
        go_wp2_with fail
        go_loopw [6, 80] (fun u i wq => ∃ j : Nat, j ≤ mm ∧ i = .int .i64 j ∧ u = .int .i64 ((atN (bndA l) j : Nat) : Int) ∧ Below w3.heap.size w3 wq) (fun _ i _ => mm - (intOf i).toNat)
        case atStart =>
          have e0 : atN (bndA l) 0 = 0 := by
            rcases Nat.eq_zero_or_pos n with h1 | h1
            · rw [bndA_nil (ks := l) (by rw [KN.out]; exact h1)]; rfl
            · exact (bndA_first (ks := l) (by rw [KN.out]; exact h1)).1
          exact ⟨0, Nat.zero_le _, rfl, by rw [e0]; rfl, Below.refl _ _⟩
        case round =>
          obtain ⟨j, hj, rfl, rfl, hbq⟩ := hrel
          have HQ := Lib.hid hbq
          by_cases hjm : j < mm
          · have oc := OC.out.pass hbq
            obtain ⟨gc, rfl, _⟩ := OwnV.form oc (by omega)
            have hcl : j < (cutsL l).length := by unfold cutsL; rw [prs_len, HM.out]; omega
            obtain ⟨v1, v2⟩ := cutsV_at (cutsL l) j hcl
            have er : rng (cutsL l) j = (atN (bndA l) j, atN (bndA l) (j + 1)) := by unfold cutsL; rw [rng_prs (by rw [HM.out]; omega)]
            rw [er] at v1 v2
            have ca := (OwnV.cellAt oc (j * 2) (by omega)).trans v1
            have ca2 := (OwnV.cellAt oc (j * 2 + 1) (by omega)).trans v2
            have hrise := bndA_rise (ks := l) (i := j) (by rw [HM.out]; omega)
            have HE := Lib.hid (rfl : atN (bndA l) (j + 1) = atN (bndA l) (j + 1))
            obtain ⟨f, hf⟩ : ∃ f, atN (bndA l) j = f := ⟨_, rfl⟩
            obtain ⟨t, ht⟩ : ∃ t, atN (bndA l) (j + 1) = t := ⟨_, rfl⟩
            have HT := Lib.hid ht
            rw [hf, ht] at hrise
            rw [hf] at ca ⊢
            rw [ht] at ca2
            have l4 : ¬ (t : Int) ≤ (f : Int) := by omega
            clear v1 v2 er hf ht oc hbq hcl
            go_wp2_with fail
            go_roundw
            case rel => exact ⟨j + 1, by omega, by go_num, by rw [HT.out], by first | exact HQ.out.alloc (by have := HQ.out.size; omega) _ | exact (HQ.out.alloc (by have := HQ.out.size; omega) _).setCell (by simp; exact HQ.out.size) _⟩
            case measure => simp [intOf] <;> omega
          · obtain rfl : mm = j := by omega
            have elast : atN (bndA l) mm = n := by
              rcases Nat.eq_zero_or_pos n with h1 | h1
              · rw [bndA_nil (ks := l) (by rw [KN.out]; exact h1), h1]; rfl
              · have := (bndA_last (ks := l) (by rw [KN.out]; exact h1)).2
                rw [HM.out, hmm, KN.out] at this
                exact this
            rw [elast]
            have X4 := Lib.hid (X3.out.trans (HQ.out.mono X3.out.size))
            clear elast
            go_wp2_with fail
            refine (alive07_any _ (HL.out.pass X4.out)).mono ?_
            rintro e w6 ⟨rfl, h6⟩
            have x6 := X4.out.trans (h6.mono X4.out.size)
            go_wp2_with fail
            go_ret
            exact ⟨rfl, x6⟩
end Go.Proofs.YtcldegpfkpmciaaDoor
