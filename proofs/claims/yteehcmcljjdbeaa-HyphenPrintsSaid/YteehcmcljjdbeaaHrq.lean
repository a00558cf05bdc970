/- Chapter 20: the reference's Print. -/
import Derived.Test.YteehcmcljjdbeaaHrn
import Derived.Test.YteehcmcljjdbeaaHrp
import Derived.Test.YteehcmcljjdbeaaHpb
import Derived.Laws.BytesArg
namespace Go.Proofs.Yteehcmcljjdbeaa
open Go.ChangeShapes Go.WideShapes Go.ChangeAt Go.RowKit
set_option maxRecDepth 100000
set_option linter.unusedSimpArgs false

theorem mem_out : ∀ (ls ds : List Int), ls.length ≤ ds.length → ∀ l ∈ ls, l ∈ outR ls ds
  | [], _, _, l, hl => by cases hl
  | a :: ls, [], h, l, hl => by simp at h
  | a :: ls, d :: ds, h, l, hl => by
    have ih := mem_out ls ds (by simpa using h) l
    unfold outR
    rcases List.mem_cons.1 hl with rfl | hl
    · simp
    · simp [ih hl]
theorem okP_end {ls ds : List Int} (h1 : ds.length = ls.length + 1) (h2 : mayB ls = true) (h3 : ∀ d ∈ ds, 0 ≤ d ∧ d ≤ 9) (h4 : ∀ l ∈ ls, dig l = false) : okP ls ds = (anyB ds && rightT (outR ls ds)) := by
  unfold okP
  rw [someB_anyB h3, show (ds.length == ls.length + 1) = true by simpa using h1, Bool.true_and]
  cases hr : rightT (outR ls ds) with
  | true =>
    have hs : ∀ l ∈ ls, dig l = false ∧ scalar l = true := fun l hl => ⟨h4 l hl, by
      unfold rightT at hr
      rw [List.all_eq_true] at hr
      exact hr l (mem_out ls ds (by omega) l hl)⟩
    rw [rightB_mayB hs, h2]
    simp
  | false =>
    cases hb : rightB ls with
    | false => simp
    | true =>
      cases ha : anyB ds with
      | false => rfl
      | true =>
        exfalso
        have hok : okP ls ds = true := by
          unfold okP
          rw [someB_anyB h3, hb, ha]
          simpa using h1
        obtain ⟨_, g2, g3, _, _⟩ := okP_facts hok
        have : rightT (outR ls ds) = true := by
          unfold rightT
          rw [List.all_eq_true]
          exact out_scalar ls ds (fun r hr => (g2 r hr).2) g3
        rw [this] at hr
        cases hr
theorem okP_len {ls ds : List Int} (h : ¬ ds.length = ls.length + 1) : okP ls ds = false := by
  cases ho : okP ls ds with
  | false => rfl
  | true => exact absurd (okP_facts ho).1 h
theorem okP_may {ls ds : List Int} (h : mayB ls = false) : okP ls ds = false := by
  cases ho : okP ls ds with
  | false => rfl
  | true => have := (okP_facts ho).2.2.2.2; rw [h] at this; cases this
theorem okP_ds {ls ds : List Int} {i : Nat} (hi : i < ds.length) (h : nth ds i < 0 ∨ 9 < nth ds i) : okP ls ds = false := by
  cases ho : okP ls ds with
  | false => rfl
  | true =>
    have := (okP_facts ho).2.2.1 _ (List.getElem_mem hi)
    rw [nth_eq hi] at h
    omega
theorem okP_ls {ls ds : List Int} {i : Nat} (hi : i < ls.length) (h : dig (nth ls i) = true) : okP ls ds = false := by
  cases ho : okP ls ds with
  | false => rfl
  | true =>
    have := ((okP_facts ho).2.1 _ (List.getElem_mem hi)).1
    rw [← nth_eq hi, h] at this
    cases this
/-- the signs of the digit in front of a letter -/
theorem outK_len (ls ds : List Int) (k : Nat) : (outK ls ds k).length ≤ k + k := by
  have h2 : ∀ (a b : List Int), (outR a b).length ≤ a.length + b.length := by
    intro a b
    induction b generalizing a with
    | nil => rw [outR_nil]; simp
    | cons d b ih =>
      cases a with
      | nil =>
        have := ih []
        unfold outR dg
        split
        · simp at this ⊢; omega
        · simp at this ⊢; omega
      | cons x a =>
        have := ih a
        unfold outR dg
        split
        · simp; omega
        · simp; omega
  have h3 := h2 (ls.take k) (ds.take k)
  have h4 : (ls.take k).length ≤ k := List.length_take_le _ _
  have h5 : (ds.take k).length ≤ k := List.length_take_le _ _
  unfold outK
  omega

set_option maxHeartbeats 4000000 in
theorem rprint_any (A : Option Addr) (n c : Nat) (ls : List Int) (A2 : Option Addr) (m c2 : Nat) (ds : List Int) (w : World) (hx : SliceIn .i32 w A n c ls) (hy : SliceIn .i64 w A2 m c2 ds) (hn : n ≤ 1000) (hm : m ≤ 1001) :
    Calls Try.prog 13 #[.slice A n c, .slice A2 m c2] w fun e w' => e = .returned (.string (printed ls ds)) ∧ Below w.heap.size w w' := by
  have HX : Shut _ := ⟨hx⟩
  have HY : Shut _ := ⟨hy⟩
  have LX : Shut (ls.length = n) := ⟨hx.at_.len⟩
  have LY : Shut (ds.length = m) := ⟨hy.at_.len⟩
  have CM : Shut _ := ⟨may_any A n c ls w hx.at_ (by omega)⟩
  have PV : Shut (printed ls ds = if okP ls ds = true then txt (encZ (outR ls ds)) else ⟨#[]⟩) := ⟨rfl⟩
  have PN : Shut (okP ls ds = false → printed ls ds = ⟨#[]⟩) := ⟨fun h => by rw [PV.out, h]; rfl⟩
  generalize printed ls ds = V at *
  clear hx hy
  go_enter Try.func13, Try.ntmps13
  go_upto_region 1 with fail
  go_cut [20] (fun v wx => v = .bool (!(m == n + 1 && mayB ls)) ∧ wx = w)
  case first =>
    generalize mayB ls = b1 at *
    by_cases hmn : m = n + 1
    · have h1 : ((m : Int) != (n : Int) + 1) = false := by simp; omega
      have h2 : Shut ((m == n + 1) = true) := ⟨by simpa using hmn⟩
      clear hmn
      go_wp2_with fail
      refine CM.out.mono ?_
      rintro e w1 ⟨rfl, rfl⟩
      go_wp2_with fail
      go_meet
      exact ⟨by rw [h2.out]; rfl, rfl⟩
    · have h1 : ((m : Int) != (n : Int) + 1) = true := by simp; omega
      have h2 : Shut ((m == n + 1) = false) := ⟨by simpa using hmn⟩
      clear hmn
      go_wp2_with fail
      go_meet
      exact ⟨by rw [h2.out]; rfl, rfl⟩
  case rest =>
    obtain ⟨rfl, rfl⟩ := hcut
    obtain ⟨w, rfl⟩ : ∃ w : World, w = wc := ⟨_, rfl⟩
    cases hok : (m == n + 1 && mayB ls) with
    | false =>
      have hno : okP ls ds = false := by
        rw [Bool.and_eq_false_iff] at hok
        rcases hok with h | h
        · exact okP_len (by rw [LX.out, LY.out]; simpa using h)
        · exact okP_may h
      have NV : Shut _ := ⟨PN.out hno⟩
      clear hok hno
      go_wp2_with fail
      go_ret
      exact ⟨by rw [NV.out]; rfl, Below.refl _ _⟩
    | true =>
      rw [Bool.and_eq_true] at hok
      have hmn : m = n + 1 := by simpa using hok.1
      have MAY : Shut _ := ⟨hok.2⟩
      subst hmn
      clear hok CM
      go_wp2_with fail
      go_loopg [5, 6, 7] (n + 2) (fun g v5 v6 v7 wr => ∃ (k : Nat) (A1 : Option Addr) (c1 : Nat), n + 1 - k < g ∧ k ≤ n + 1 ∧ v7 = .int .i64 (k : Int) ∧ v6 = .bool (anyB (ds.take k)) ∧ v5 = .slice A1 (outK ls ds k).length c1 ∧
        Shut (∀ j, j < k → 0 ≤ nth ds j ∧ nth ds j ≤ 9) ∧ Shut (∀ j, j < k → j < n → dig (nth ls j) = false) ∧ Shut (Own wr w.heap.size 21 .i32 A1 (outK ls ds k).length c1 (outK ls ds k)) ∧ Shut (Below w.heap.size w wr))
      case atStart => exact ⟨0, none, 0, by omega, by omega, rfl, rfl, by rw [outK_zero]; rfl, ⟨fun j h => by omega⟩, ⟨fun j h => by omega⟩, ⟨by rw [outK_zero]; exact Own.nil _ _ _ _⟩, ⟨Below.refl _ _⟩⟩
      case round =>
        obtain ⟨k, A1, c1, hg, hk, rfl, rfl, rfl, AD, AL, OO, BE⟩ := hrel
        have hwz : w.heap.size ≤ wr.heap.size := BE.out.size
        have hol := outK_len ls ds k
        by_cases hlt : k < n + 1
        · obtain ⟨ad, hA2, hab, hcx⟩ := (HY.out.passP BE.out).at_.2 (by omega)
          subst hA2
          have hc := hcx k hlt
          have hkd : k < ds.length := by rw [LY.out]; exact hlt
          have KA : Shut _ := ⟨anyB_take (ds := ds) (i := k) hkd⟩
          have KN : Shut (nth ds k < 0 ∨ 9 < nth ds k → V = ⟨#[]⟩) := ⟨fun h => PN.out (okP_ds hkd h)⟩
          have KL : Shut (k < n → outK ls ds (k + 1) = outK ls ds k ++ (dg (nth ds k) ++ [nth ls k])) := ⟨fun h => outK_letter hkd (by rw [LX.out]; exact h)⟩
          have KE : Shut (k = n → outK ls ds (k + 1) = outK ls ds k ++ dg (nth ds k)) := ⟨fun h => outK_last hkd (by rw [LX.out]; exact h.symm)⟩
          obtain ⟨d, hd⟩ : ∃ d, nth ds k = d := ⟨_, rfl⟩
          rw [hd] at hc KA KN KL KE
          have HD : Shut _ := ⟨hd⟩
          have i1 : (k : Int) < (n : Int) + 1 := by omega
          obtain ⟨O, hO⟩ : ∃ O, outK ls ds k = O := ⟨_, rfl⟩
          rw [hO] at OO KL KE hol ⊢
          generalize anyB (ds.take k) = any0 at *
          clear hcx hd hO hkd
          by_cases hbad : d < 0 ∨ 9 < d
          · have NV : Shut _ := ⟨KN.out hbad⟩
            rcases hbad with h | h
            · go_wp2_with fail
              go_ret
              exact ⟨by rw [NV.out]; rfl, BE.out⟩
            · have h0 : ¬ d < 0 := by omega
              go_wp2_with fail
              go_ret
              exact ⟨by rw [NV.out]; rfl, BE.out⟩
          · have d0 : 0 ≤ d := by omega
            have d9 : d ≤ 9 := by omega
            have AD2 : Shut (∀ j, j < k + 1 → 0 ≤ nth ds j ∧ nth ds j ≤ 9) := ⟨fun j hj => by
              rcases Nat.lt_or_ge j k with h1 | h1
              · exact AD.out j h1
              · obtain rfl : j = k := by omega
                rw [HD.out]
                exact ⟨d0, d9⟩⟩
            clear hbad
            go_upto_if 43 with fail
            go_cut [5, 6] (fun v5 v6 wx => ∃ (A3 : Option Addr) (c3 : Nat), v6 = .bool (anyB (ds.take (k + 1))) ∧ v5 = .slice A3 (O ++ dg d).length c3 ∧ Shut (Own wx w.heap.size 21 .i32 A3 (O ++ dg d).length c3 (O ++ dg d)) ∧ Shut (Below w.heap.size w wx))
            case first =>
              by_cases hp : 0 < d
              · have EV : Shut (dg d = [48 + d]) := ⟨by unfold dg; rw [if_pos hp]⟩
                have EA : Shut (anyB (ds.take (k + 1)) = true) := ⟨by rw [KA.out]; simp [hp]⟩
                go_wp2_with (at_builtin; refine wpList_push TI32r rfl (.tmp 44) (.tmp 51) rfl rfl (Own.alloc OO.out _) rfl (cell_new _ _ _) (by omega) (by simp; omega) ?_; intro A4 c4 w4 o4 b4; have O4 : Shut _ := ⟨o4⟩; have B4 : Shut _ := ⟨b4⟩; clear o4 b4)
                go_meet
                have e1 : (O ++ [48 + d]).length = O.length + 1 := by simp
                exact ⟨A4, c4, by rw [EA.out], by rw [EV.out, e1], ⟨by rw [EV.out, e1]; exact O4.out⟩, ⟨(BE.out.alloc hwz _).trans B4.out⟩⟩
              · have EV : Shut (dg d = []) := ⟨by unfold dg; rw [if_neg hp]⟩
                have EA : Shut (anyB (ds.take (k + 1)) = any0) := ⟨by rw [KA.out]; simp [hp]⟩
                have hp2 : ¬ (0 < d) := hp
                clear hp
                go_wp2_with fail
                go_meet
                exact ⟨A1, c1, by rw [EA.out], by rw [EV.out, List.append_nil], ⟨by rw [EV.out, List.append_nil]; exact OO.out⟩, BE⟩
            case rest =>
              obtain ⟨A3, c3, rfl, rfl, O3, B3⟩ := hcut
              have hwz3 : w.heap.size ≤ wc.heap.size := B3.out.size
              have hdl : (O ++ dg d).length ≤ O.length + 1 := by
                rw [List.length_append]
                unfold dg
                split <;> simp
              by_cases hkn : k < n
              · obtain ⟨ad3, hA3, hab3, hcx3⟩ := (HX.out.passP B3.out).at_.2 (by omega)
                subst hA3
                have hc3 := hcx3 k hkn
                have CG : Shut (∀ W, Calls Try.prog 37 #[.int .i32 (nth ls k)] W fun e w' => e = .returned (.bool (dig (nth ls k))) ∧ W = w') := ⟨fun W => digit_any (nth ls k) W⟩
                have KL2 : Shut _ := ⟨KL.out hkn⟩
                have i2 : (k : Int) < (n : Int) := by omega
                cases hdg : dig (nth ls k) with
                | true =>
                  have NV : Shut _ := ⟨PN.out (okP_ls (by rw [LX.out]; exact hkn) hdg)⟩
                  rw [hdg] at CG
                  generalize nth ls k = r at *
                  clear hcx3 KL KE hdl hdg
                  go_wp2_with fail
                  refine (CG.out _).mono ?_
                  rintro e w4 ⟨rfl, rfl⟩
                  go_wp2_with fail
                  go_ret
                  exact ⟨by rw [NV.out]; rfl, B3.out⟩
                | false =>
                  have AL2 : Shut (∀ j, j < k + 1 → j < n → dig (nth ls j) = false) := ⟨fun j hj hjn => by
                    rcases Nat.lt_or_ge j k with h1 | h1
                    · exact AL.out j h1 hjn
                    · obtain rfl : j = k := by omega
                      exact hdg⟩
                  rw [hdg] at CG
                  generalize nth ls k = r at hc3 CG KL2
                  rw [← List.append_assoc] at KL2
                  obtain ⟨L, hL⟩ : ∃ L, O ++ dg d = L := ⟨_, rfl⟩
                  rw [hL] at O3 KL2 hdl ⊢
                  clear hcx3 KL KE hdg hL
                  go_wp2_with fail
                  refine (CG.out _).mono ?_
                  rintro e w4 ⟨rfl, rfl⟩
                  go_wp2_with (at_builtin; refine wpList_push TI32r rfl (.tmp 62) (.tmp 67) rfl rfl (Own.alloc O3.out _) rfl (cell_new _ _ _) (by omega) (by simp; omega) ?_; intro A4 c4 w4 o4 b4; have O4 : Shut _ := ⟨o4⟩; have B4 : Shut _ := ⟨b4⟩; clear o4 b4)
                  go_roundg (n + 1 - k)
                  case measure => omega
                  case rel =>
                    have e1 : (L ++ [r]).length = L.length + 1 := by simp
                    exact ⟨k + 1, A4, c4, by omega, by omega, by go_num, rfl, by rw [KL2.out, e1], AD2, AL2, ⟨by rw [KL2.out, e1]; exact O4.out⟩, ⟨(B3.out.alloc hwz3 _).trans B4.out⟩⟩
              · have hkn2 : k = n := by omega
                have KE2 : Shut _ := ⟨KE.out hkn2⟩
                have AL2 : Shut (∀ j, j < k + 1 → j < n → dig (nth ls j) = false) := ⟨fun j hj hjn => AL.out j (by omega) hjn⟩
                have i2 : decide (k < n) = false := by simp; omega
                clear hdl KL KE hkn2
                go_wp2_with fail
                go_roundg (n + 1 - k)
                case measure => omega
                case rel => exact ⟨k + 1, A3, c3, by omega, by omega, by go_num, rfl, by rw [KE2.out], AD2, AL2, ⟨by rw [KE2.out]; exact O3.out⟩, B3⟩
        · have hkn : k = n + 1 := by omega
          subst hkn
          have hfin : outK ls ds (n + 1) = outR ls ds := by
            have := outK_full (ls := ls) (ds := ds) (by rw [LX.out, LY.out]; omega)
            rw [LY.out] at this
            exact this
          have hany : ds.take (n + 1) = ds := List.take_of_length_le (by rw [LY.out]; exact Nat.le_refl _)
          rw [hfin] at OO hol ⊢
          rw [hany]
          have OKE : Shut (okP ls ds = (anyB ds && rightT (outR ls ds))) := ⟨okP_end (by rw [LX.out, LY.out]) MAY.out
            (fun d hd => by
              obtain ⟨i, hi, rfl⟩ := List.getElem_of_mem hd
              have := AD.out i (by rw [LY.out] at hi; exact hi)
              rw [nth_eq hi] at this
              exact this)
            (fun l hl => by
              obtain ⟨i, hi, rfl⟩ := List.getElem_of_mem hl
              have := AL.out i (by rw [LX.out] at hi; omega) (by rw [LX.out] at hi; exact hi)
              rw [nth_eq hi] at this
              exact this)⟩
          have CE : Shut _ := ⟨encode_any A1 (outR ls ds).length c1 (outR ls ds) wr OO.out.ints (by omega)⟩
          have NE : Shut (okP ls ds = true → encZ (outR ls ds) ≠ []) := ⟨fun h => print_nonempty h⟩
          have hel := encZ_len (outR ls ds)
          generalize outR ls ds = T at *
          generalize okP ls ds = ok at *
          clear hfin hany
          go_wp2_with fail
          refine CE.out.mono ?_
          intro e w3 hep
          unfold EncPost at hep
          generalize anyB ds = any at *
          cases hr : rightT T with
          | false =>
            rw [hr] at hep OKE
            rw [if_neg (by simp)] at hep
            obtain ⟨rfl, b3⟩ := hep
            have B3 : Shut _ := ⟨BE.out.trans (b3.mono hwz)⟩
            have NV : Shut _ := ⟨PN.out (by rw [OKE.out]; simp)⟩
            clear b3 hr
            cases any
            all_goals
              go_wp2_with fail
              go_ret
              exact ⟨by rw [NV.out]; rfl, B3.out⟩
          | true =>
            rw [hr] at hep OKE
            rw [if_pos rfl] at hep
            obtain ⟨Ab, cb, rfl, ob, b3⟩ := hep
            have B3 : Shut _ := ⟨BE.out.trans (b3.mono hwz)⟩
            cases any with
            | false =>
              have NV : Shut _ := ⟨PN.out (by rw [OKE.out]; rfl)⟩
              clear b3 hr ob
              go_wp2_with fail
              go_ret
              exact ⟨by rw [NV.out]; rfl, B3.out⟩
            | true =>
              have hok : ok = true := by rw [OKE.out]; rfl
              have PV2 : Shut (V = txt (encZ T)) := ⟨by rw [PV.out, if_pos hok]⟩
              have hne := NE.out hok
              have hpos : 0 < (encZ T).length := List.length_pos_iff.2 hne
              obtain ⟨g, rfl, _, _⟩ := OwnV.form ob hpos
              have hcv := run_convert_bytes_arg (P := Try.prog) w3 62 5 Try.underlying62 Try.underlying5 g 0 (encZ T).length cb (encZ T) rfl
                (fun i hi => by rw [Nat.zero_add, own_cellR ob hi]; rfl) 9 Try.underlying9
              generalize encZ T = Z at *
              clear b3 hr ob hok hne hpos
              go_wp2_with fail
              go_ret
              exact ⟨by rw [PV2.out]; rfl, B3.out⟩
end Go.Proofs.Yteehcmcljjdbeaa
