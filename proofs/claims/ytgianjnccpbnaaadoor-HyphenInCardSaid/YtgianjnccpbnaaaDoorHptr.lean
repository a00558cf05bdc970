/- Chapter 20: the reference's Points. -/
import Derived.Test.YtgianjnccpbnaaaDoorHnr
import Derived.StillTailTactics
import Derived.IntWalk
namespace Go.Proofs.YtgianjnccpbnaaaDoor
open Go.ChangeShapes Go.WideShapes Go.ChangeAt Go.RowKit
set_option maxRecDepth 100000
set_option linter.unusedSimpArgs false

theorem prV_get {rs : List (Value × Value)} {j : Nat} {r : Value × Value} (h : rs[j]? = some r) : (prV rs)[j * 2]? = some r.1 ∧ (prV rs)[j * 2 + 1]? = some r.2 := by
  obtain ⟨hj, rfl⟩ := List.getElem?_eq_some_iff.1 h
  exact prV_at rs j hj
theorem WRel.drew {w0 wr : World} {At : Option Addr} {n ct : Nat} {t : List Int} {gm nm cm : Nat} {ms : List Int} {R : Nat → Int → Prop} (h : WRel w0 wr At n ct t gm nm cm ms R) : WRel w0 wr.drew At n ct t gm nm cm ms R :=
  ⟨h.ot, h.om, h.best, ⟨h.be.os, h.be.tape, h.be.output, h.be.size, h.be.block⟩⟩
theorem rsmall20_any (r : Int) (h1 : -2147483648 ≤ r) (h2 : r ≤ 2147483647) (w : World) : Calls Tryd.prog 36 #[.int .i32 r] w fun e w' => e = .returned (.int .i32 (small20 r)) ∧ w = w' := by
  unfold small20
  by_cases h65 : 65 ≤ r
  · by_cases h90 : r ≤ 90
    · rw [if_pos ⟨h65, h90⟩]
      go_enter Tryd.func36, Tryd.ntmps36
      go_wp2
      go_ret
      exact ⟨reti (by omega), rfl⟩
    · rw [if_neg (fun h => h90 h.2)]
      go_enter Tryd.func36, Tryd.ntmps36
      go_wp2
      go_ret
      exact ⟨rfl, rfl⟩
  · rw [if_neg (fun h => h65 h.1)]
    go_enter Tryd.func36, Tryd.ntmps36
    go_wp2
    go_ret
    exact ⟨rfl, rfl⟩
theorem nth_seg {t : List Int} {a m j : Nat} (hj : j < m) : nth ((t.drop a).take m) j = nth t (a + j) := by
  simp [nth, List.getD_eq_getElem?_getD, List.getElem?_take, List.getElem?_drop, hj]
theorem standsB_true {l t : List Int} {a : Nat} (h : a + l.length ≤ t.length) (e : ∀ j, j < l.length → nth t (a + j) = nth l j) : standsB l t a = true := by
  rw [standsB_iff]
  refine ⟨h, List.ext_getElem (by simp; omega) fun j h1 h2 => ?_⟩
  have := e j h2
  rw [← nth_seg h2] at this
  rw [nth_eq h1, nth_eq h2] at this
  exact this
theorem standsB_ne {l t : List Int} {a j : Nat} (hj : j < l.length) (e : nth t (a + j) ≠ nth l j) : standsB l t a = false := by
  rw [Bool.eq_false_iff]
  intro h
  rw [standsB_iff] at h
  apply e
  rw [← nth_seg hj, h.2]
theorem standsB_long {l t : List Int} {a : Nat} (h : t.length < a + l.length) : standsB l t a = false := by
  rw [Bool.eq_false_iff]
  intro h2
  rw [standsB_iff] at h2
  omega
set_option maxHeartbeats 2000000 in
theorem stands20_any (Al At : Option Addr) (nl nt cl ct : Nat) (l t : List Int) (a : Nat) (w : World) (hl : IntsAt w w.heap.size .i32 Al nl l) (ht : IntsAt w w.heap.size .i32 At nt t) (hnl : nl ≤ 1000000) (hnt : nt ≤ 1000000) (ha : a ≤ 1000000) :
    Calls Tryd.prog 37 #[.slice Al nl cl, .slice At nt ct, .int .i64 (a : Int)] w fun e w' => e = .returned (.bool (standsB l t a)) ∧ Below w.heap.size w w' := by
  have HL : Shut _ := ⟨hl⟩
  have HT : Shut _ := ⟨ht⟩
  have LL : Shut _ := ⟨hl.len⟩
  have LT : Shut _ := ⟨ht.len⟩
  clear hl ht
  by_cases hlong : nt < a + nl
  · rw [standsB_long (by rw [LL.out, LT.out]; exact hlong)]
    have h2 : (nt : Int) < (a : Int) + (nl : Int) := by omega
    go_enter Tryd.func37, Tryd.ntmps37
    go_wp2_with fail
    go_ret
    exact ⟨rfl, Below.refl _ _⟩
  · have h2 : ¬ (nt : Int) < (a : Int) + (nl : Int) := by omega
    go_enter Tryd.func37, Tryd.ntmps37
    go_wp2_with fail
    go_loopg [7] (nl + 1) (fun gg v wr => ∃ i : Nat, nl - i < gg ∧ i ≤ nl ∧ v = .int .i64 (i : Int) ∧ Shut (∀ j, j < i → nth t (a + j) = nth l j) ∧ Shut (Below w.heap.size w wr))
    case atStart => exact ⟨0, by omega, by omega, rfl, ⟨fun j h => by omega⟩, ⟨Below.refl _ _⟩⟩
    case round =>
      obtain ⟨i, hg, hi, rfl, ALL, BE⟩ := hrel
      by_cases hlt : i < nl
      · obtain ⟨a1, rfl, _, hc1⟩ := (HL.out.later BE.out).2 (by omega)
        obtain ⟨a2, rfl, _, hc2⟩ := (HT.out.later BE.out).2 (by omega)
        obtain ⟨q, hq⟩ : ∃ q, a + i = q := ⟨_, rfl⟩
        have hqn : q < nt := by omega
        have e1 := later_cell (hc1 i hlt)
        have e2 := later_cell (hc2 q hqn)
        have es : (a : Int) + (i : Int) = (q : Int) := by omega
        have NX : Shut (nth t q = nth l i → ∀ j, j < i + 1 → nth t (a + j) = nth l j) := ⟨fun h j hj => by
          rcases Nat.lt_or_ge j i with h3 | h3
          · exact ALL.out j h3
          · obtain rfl : j = i := by omega
            rw [hq]; exact h⟩
        have NN : Shut (nth t q ≠ nth l i → standsB l t a = false) := ⟨fun h => standsB_ne (j := i) (by rw [LL.out]; exact hlt) (by rw [hq]; exact h)⟩
        generalize nth t q = x at *
        generalize nth l i = y at *
        clear hc1 hc2 hq
        have hq0 : (0 : Int) ≤ (q : Int) := by omega
        have hq1 : (q : Int) < (nt : Int) := by omega
        cases hb : (x != y) with
        | true =>
          have E : Shut _ := ⟨NN.out (by simpa using hb)⟩
          go_wp2_with fail
          refine wp_region_later (by kernel_rfl) (by kernel_rfl) ?_
          repeat (go_big_quiet_step (fail))
          refine wpQuiet_nil ?_
          intro _ hw'
          obtain ⟨nqq, hw''⟩ := hw'
          subst hw''
          go_wp2_with fail
          go_ret
          exact ⟨retb E.out.symm, BE.out.trans (nqq.2.mono BE.out.size)⟩
        | false =>
          have E : Shut _ := ⟨NX.out (by simpa using hb)⟩
          go_wp2_with fail
          refine wp_region_later (by kernel_rfl) (by kernel_rfl) ?_
          repeat (go_big_quiet_step (fail))
          refine wpQuiet_nil ?_
          intro _ hw'
          obtain ⟨nqq, hw''⟩ := hw'
          subst hw''
          go_wp2_with fail
          go_roundg (nl - i)
          case measure => omega
          case rel => exact ⟨i + 1, by omega, by omega, by go_num, E, ⟨BE.out.trans (nqq.2.mono BE.out.size)⟩⟩
      · obtain rfl : i = nl := by omega
        have E : Shut (standsB l t a = true) := ⟨standsB_true (by rw [LL.out, LT.out]; omega) (fun j hj => ALL.out j (by rw [← LL.out]; exact hj))⟩
        go_wp2_with fail
        go_ret
        exact ⟨retb E.out.symm, BE.out⟩

set_option maxHeartbeats 4000000 in
theorem rpoints20_any (w : World) (B : Nat) (Ap : Option Addr) (cp : Nat) (L : List Pat) (rs : List (Value × Value)) (hL : PatsOk L) (hP : PatsAt w B Ap cp L rs) (hLl : L.length ≤ 1000) (hLs : ∀ p ∈ L, p.1.length ≤ 1000)
    (A : Option Addr) (n c : Nat) (xs : List Int) (hx : SliceIn .i32 w A n c xs) (hn : n ≤ 1000) :
    Calls Tryd.prog 20 #[.slice Ap L.length cp, .slice A n c] w (PtsPost w L xs) := by
  have HX : Shut _ := ⟨hx⟩
  have HP : Shut _ := ⟨hP⟩
  have HL : Shut _ := ⟨hL⟩
  have HLS : Shut _ := ⟨hLs⟩
  have HLEN : Shut _ := ⟨hx.at_.len⟩
  clear hx hP hL hLs
  by_cases h64 : 64 < n
  · have h64i : (64 : Int) < (n : Int) := by omega
    go_enter Tryd.func20, Tryd.ntmps20
    go_wp2_with fail
    go_ret
    exact ⟨[], by unfold Points; rw [if_pos (by rw [HLEN.out]; exact h64)], by simp, none, 0, rfl, Own.nil _ _ _ _, Below.refl _ _⟩
  · have h64i : ¬ (64 : Int) < (n : Int) := by omega
    have O0 : Shut (Own (w.alloc (.cells #[.int .i32 46] 21)) w.heap.size 21 .i32 (some ⟨w.heap.size, 0, none⟩) 1 1 (46 :: (xs.take 0).map small20)) := ⟨own_one w _ _ _ (Nat.le_refl _) 46⟩
    go_enter Tryd.func20, Tryd.ntmps20
    go_wp2_with fail
    go_loopg [6, 7] (n + 1) (fun gg v5 v22 wr => ∃ (k : Nat) (A1 : Option Addr) (c1 : Nat), n - k < gg ∧ k ≤ n ∧ v5 = .slice A1 (k + 1) c1 ∧ v22 = .int .i64 (k : Int) ∧ Shut (Own wr w.heap.size 21 .i32 A1 (k + 1) c1 (46 :: (xs.take k).map small20)) ∧ Shut (Below w.heap.size w wr))
    case atStart => exact ⟨0, _, 1, by omega, by omega, rfl, rfl, O0, ⟨below_alloc w _⟩⟩
    case round =>
      obtain ⟨k, A1, c1, hg, hk, rfl, rfl, O1, B1⟩ := hrel
      by_cases hlt : k < n
      · obtain ⟨ad, rfl, hab, hcx⟩ := (HX.out.passT B1.out).at_.2 (by omega)
        have hc := hcx k hlt
        obtain ⟨r1, r2⟩ := bounds_i32 (HX.out.nth_wf hlt)
        have SM : Shut (∀ W, _) := ⟨fun W => rsmall20_any (nth xs k) r1 r2 W⟩
        have DS : Shut _ := ⟨dot_succ (xs := xs) (k := k) (by rw [HLEN.out]; exact hlt)⟩
        have hz := B1.out.size
        generalize nth xs k = r at *
        clear hcx r1 r2 hab
        go_wp2_with fail
        refine (SM.out _).mono ?_
        rintro e w2 ⟨rfl, rfl⟩
        go_wp2_with (at_builtin; refine wpList_push TI32h rfl (.tmp 24) (.tmp 30) rfl rfl (Own.alloc O1.out _) rfl (cell_new _ _ _) (by omega) (by simp; omega) ?_; intro A2 c2 w3 o3 b3)
        rw [← DS.out] at o3
        have O3 : Shut _ := ⟨o3⟩
        have B3 : Shut (Below w.heap.size w w3) := ⟨(B1.out.alloc hz _).trans b3⟩
        clear o3 b3
        go_roundg (n - k)
        case measure => omega
        case rel => exact ⟨k + 1, A2, c2, by omega, by omega, rfl, by go_num, O3, B3⟩
      · obtain rfl : k = n := by omega
        have hz := B1.out.size
        have hO := O1.out
        rw [List.take_of_length_le (by rw [HLEN.out]; exact Nat.le_refl _)] at hO
        have O2 : Shut _ := ⟨hO⟩
        clear hO hlt
        go_wp2_with (first
          | (at_builtin; refine wpList_push TI32h rfl (.tmp 32) (.tmp 33) rfl rfl (Own.alloc O2.out _) rfl (cell_new _ _ _) (by omega) (by simp; omega) ?_; intro A2 c2 w3 o3 b3; have z3 : w.heap.size ≤ w3.heap.size := (by have := b3.size; simp at this; omega))
          | (at_make; refine wpList_makeInts TI64h zeroT rfl _ _ rfl (k + 3) rfl rfl (by omega) (by omega) (by omega) w3.heap.size (Nat.le_refl _) ?_; intro gm w4 o4 b4))
        have hdt : (46 :: xs.map small20) ++ [46] = dotted xs := rfl
        rw [hdt] at o3
        have hdl : (dotted xs).length = k + 2 := by rw [dotted_len, HLEN.out]
        have M0 : Shut (WRel w w4 A2 (k + 2) c2 (dotted xs) gm (k + 3) (k + 3) (List.replicate (k + 3) 0) (LaysP L (dotted xs) 0)) :=
          ⟨⟨Own.pass o3 b4, OwnV.lowT o4 z3, (IsBest.zero _).iff fun j v => laysP_zero.symm, ((O2.out |> fun _ => (B1.out.alloc hz _).trans b3)).trans (b4.mono z3)⟩⟩
        have HDL : Shut _ := ⟨hdl⟩
        clear o3 o4 b3 b4 hdt O2 O1 B1 hz hdl z3
        obtain ⟨t, ht⟩ : ∃ t, dotted xs = t := ⟨_, rfl⟩
        rw [ht] at M0 HDL
        have HDT : Shut (dotted xs = t) := ⟨ht⟩
        clear ht
        go_wp2_with fail
        go_loopg [9, 10, 11] (L.length + 1) (fun gg v9 v10 v11 wr => ∃ (q : Nat) (ms : List Int), L.length - q < gg ∧ q ≤ L.length ∧ v9 = .int .i64 (q : Int) ∧ Shut (WRel w wr A2 (k + 2) c2 t gm (k + 3) (k + 3) ms (LaysP L t q)))
        case atStart => exact ⟨0, _, by omega, by omega, rfl, M0⟩
        case round =>
          obtain ⟨q, ms, hg2, hq, rfl, W⟩ := hrel
          obtain ⟨wo, rfl⟩ : ∃ wo : World, wo = wr := ⟨_, rfl⟩
          by_cases hlt : q < L.length
          · have HG2 : Shut (L.length - q < gk) := ⟨hg2⟩
            have hqr : q < rs.length := by rw [HP.out.len]; exact hlt
            obtain ⟨p, hp⟩ : ∃ p, L.getD q ([], []) = p := ⟨_, rfl⟩
            have hLq : L[q] = p := by rw [← hp, List.getD_eq_getElem?_getD, List.getElem?_eq_getElem hlt]; rfl
            have hll : p.1.length ≤ 1000 := by rw [← hLq]; exact HLS.out _ (List.getElem_mem ..)
            have hok : p.2.length = p.1.length + 1 := by rw [← hLq]; exact (HL.out.ok _ (List.getElem_mem ..)).2.1
            have PE : Shut (∀ W, Below w.heap.size w W → PatV W B rs[q] p) := ⟨fun W hW => by have := (HP.out.pass hW).each q hqr hlt; rw [hLq] at this; exact this⟩
            have SU : Shut (∀ j v, LaysP L t (q + 1) j v ↔ LaysP L t q j v ∨ LaysQ p t t.length j v) := ⟨fun j v => by rw [laysP_succ hlt, hp]⟩
            have W1 : Shut (WRel w wo A2 (k + 2) c2 t gm (k + 3) (k + 3) ms (fun j v => LaysP L t q j v ∨ LaysQ p t 0 j v)) := ⟨W.out.iff fun j v => ⟨.inl, fun h => h.elim id fun h => (laysQ_zero.1 h).elim⟩⟩
            obtain ⟨r1, hr1⟩ : ∃ r1, rs[q] = r1 := ⟨_, rfl⟩
            have HR1 : Shut (rs[q]? = some r1) := ⟨by rw [List.getElem?_eq_getElem hqr, hr1]⟩
            rw [hr1] at PE
            clear hg2 hp hLq hqr hr1
            go_wp2_with fail
            go_loopg [10, 11] (k + 3) (fun gg v10 v11 wr => ∃ (m : Nat) (ms : List Int), k + 2 - m < gg ∧ m ≤ k + 2 ∧ v10 = .int .i64 (m : Int) ∧ Shut (WRel w wr A2 (k + 2) c2 t gm (k + 3) (k + 3) ms (fun j v => LaysP L t q j v ∨ LaysQ p t m j v)))
            case atStart => exact ⟨0, ms, by omega, by omega, rfl, W1⟩
            case round =>
              obtain ⟨m, ms, hg3, hm, rfl, V⟩ := hrel
              obtain ⟨wp, rfl⟩ : ∃ wp : World, wp = wr := ⟨_, rfl⟩
              by_cases hmk : m < k + 2
              · have PA := HP.out.pass V.out.be
                obtain ⟨v1, v2⟩ := prV_get HR1.out
                obtain ⟨ga, rfl, _⟩ := OwnV.form PA.own (by omega)
                obtain ⟨Al, Ad, cl, cd, er, ol, od⟩ := PE.out _ V.out.be
                rw [er] at v1 v2
                have d1 := (OwnV.cellAt PA.own (q * 2) (by omega)).trans v1
                have d2 := (OwnV.cellAt PA.own (q * 2 + 1) (by omega)).trans v2
                have D2 : Shut ((prV rs)[q * 2 + 1]? = some (.slice Ad p.2.length cd)) := ⟨v2⟩
                have ST : Shut _ := ⟨stands20_any Al A2 p.1.length (k + 2) cl c2 p.1 t m wp ol.ints V.out.ot.ints (by omega) (by omega) (by omega)⟩
                have ER : Shut _ := ⟨er⟩
                have hmi : (m : Int) < (k : Int) + 2 := by omega
                have HG3 : Shut (k + 2 - m < gk) := ⟨hg3⟩
                clear v1 v2 er ol od hg3
                cases hs : standsB p.1 t m with
                | false =>
                  rw [hs] at ST
                  have V2 : Shut _ := ⟨V.out.iff (fun j v => or_congr Iff.rfl (laysQ_no (p := p) (t := t) (m := m) hs).symm)⟩
                  clear hs
                  go_wp2_with fail
                  refine ST.out.mono ?_
                  rintro e w5 ⟨rfl, b5⟩
                  have V5 : Shut _ := ⟨V2.out.pass b5⟩
                  clear b5
                  go_wp2_with fail
                  go_roundg (k + 2 - m)
                  case measure => exact HG3.out
                  case rel => exact ⟨m + 1, ms, by omega, by omega, by go_num, V5⟩
                | true =>
                  rw [hs] at ST
                  have hsl := ((standsB_iff _ _ _).1 hs).1
                  have hml : m + p.1.length ≤ k + 2 := by rw [HDL.out] at hsl; exact hsl
                  have V2 : Shut (∀ j v, (LaysP L t q j v ∨ LaysQ p t (m + 1) j v) ↔ ((LaysP L t q j v ∨ LaysQ p t m j v) ∨ ∃ i, i < p.2.length ∧ j = m + i ∧ v = nth p.2 i)) := ⟨fun j v => by rw [laysQ_yes hs, or_assoc]⟩
                  clear hs hsl
                  go_wp2_with fail
                  refine ST.out.mono ?_
                  rintro e w5 ⟨rfl, b5⟩
                  have V5 : Shut (WRel w w5 A2 (k + 2) c2 t gm (k + 3) (k + 3) ms (fun j v => (LaysP L t q j v ∨ LaysQ p t m j v) ∨ ∃ i, i < 0 ∧ j = m + i ∧ v = nth p.2 i)) := ⟨(V.out.pass b5).iff fun j v => ⟨.inl, fun h => h.elim id fun ⟨i, h, _⟩ => by omega⟩⟩
                  clear b5 d1 d2
                  go_wp2_with fail
                  go_loopg [11] (p.2.length + 1) (fun gg v11 wr => ∃ (i : Nat) (ms : List Int), p.2.length - i < gg ∧ i ≤ p.2.length ∧ v11 = .int .i64 (i : Int) ∧ Shut (WRel w wr A2 (k + 2) c2 t gm (k + 3) (k + 3) ms (fun j v => (LaysP L t q j v ∨ LaysQ p t m j v) ∨ ∃ i', i' < i ∧ j = m + i' ∧ v = nth p.2 i')))
                  case atStart => exact ⟨0, ms, by omega, by omega, rfl, V5⟩
                  case round =>
                    obtain ⟨i, ms, hg4, hi, rfl, U⟩ := hrel
                    have PB := HP.out.pass U.out.be
                    have d2 := (OwnV.cellAt PB.own (q * 2 + 1) (by omega)).trans D2.out
                    by_cases hip : i < p.2.length
                    · obtain ⟨Al2, Ad2, cl2, cd2, er2, ol2, od2⟩ := PE.out _ U.out.be
                      have er3 := ER.out.symm.trans er2
                      injection er3 with er4 er5
                      injection er5 with er6 _ er7
                      subst er6; subst er7
                      obtain ⟨gd, rfl, _⟩ := OwnV.form od2 (by omega)
                      have e1 := own_cellH od2 hip
                      obtain ⟨q2, hq2⟩ : ∃ q2, m + i = q2 := ⟨_, rfl⟩
                      have hq2n : q2 < k + 3 := by omega
                      have e2 := own_cellH U.out.om hq2n
                      have f2 := OwnV.frozenAt U.out.om q2
                      have es : (m : Int) + (i : Int) = (q2 : Int) := by omega
                      have UN : Shut (WRel w (wr.setCell ⟨gm, q2, none⟩ (.int .i64 (max (nth ms q2) (nth p.2 i)))).drew A2 (k + 2) c2 t gm (k + 3) (k + 3) (ms.set q2 (max (nth ms q2) (nth p.2 i))) (fun j v => (LaysP L t q j v ∨ LaysQ p t m j v) ∨ ∃ i', i' < i + 1 ∧ j = m + i' ∧ v = nth p.2 i')) :=
                        ⟨((U.out.lay hq2n (nth p.2 i)).iff fun x v => by rw [laysI_succ, hq2]; exact or_assoc).drew⟩
                      have hwr : IntKind.i64.wrap (q2 : Int) = (q2 : Int) := by rw [IntWalk.i64_in _ (by omega)]
                      have hq0 : (0 : Int) ≤ (q2 : Int) := by omega
                      have hq1 : (q2 : Int) < (k : Int) + 3 := by omega
                      generalize nth ms q2 = mx at e2 UN
                      generalize nth p.2 i = dx at e1 UN
                      have hgl := (OwnV.ltH U.out.om).2
                      clear od2 ol2 er4 er2 hq2
                      by_cases hm2 : mx < dx
                      · rw [show max mx dx = dx by omega] at UN
                        go_wp2_with fail
                        go_still_tail 20, (by kernel_rfl)
                        change wpList _ _ _ _ _ wr.drew
                        go_wp2_with fail
                        go_roundg (p.2.length - i)
                        case measure => omega
                        case rel => exact ⟨i + 1, _, by omega, by omega, by go_num, UN⟩
                      · rw [show max mx dx = mx by omega] at UN
                        go_wp2_with fail
                        go_still_tail 20, (by kernel_rfl)
                        change wpList _ _ _ _ _ wr.drew
                        go_wp2_with fail
                        go_roundg (p.2.length - i)
                        case measure => omega
                        case rel => exact ⟨i + 1, _, by omega, by omega, by go_num, UN⟩
                    · obtain rfl : i = p.2.length := by omega
                      have UE : Shut (WRel w wr A2 (k + 2) c2 t gm (k + 3) (k + 3) ms (fun j v => LaysP L t q j v ∨ LaysQ p t (m + 1) j v)) := ⟨U.out.iff fun j v => (V2.out j v).symm⟩
                      clear hip
                      go_wp2_with fail
                      go_roundg (k + 2 - m)
                      case measure => exact HG3.out
                      case rel => exact ⟨m + 1, ms, by omega, by omega, by go_num, UE⟩
              · obtain rfl : m = k + 2 := by omega
                have UE : Shut (WRel w wp A2 (k + 2) c2 t gm (k + 3) (k + 3) ms (LaysP L t (q + 1))) := ⟨V.out.iff fun j v => by rw [SU.out j v, HDL.out]⟩
                clear hmk hg3
                go_wp2_with fail
                go_roundg (L.length - q)
                case measure => exact HG2.out
                case rel => exact ⟨q + 1, ms, by omega, by omega, by go_num, UE⟩
          · obtain rfl : q = L.length := by omega
            have WB : Shut (WRel w wo A2 (k + 2) c2 t gm (k + 3) (k + 3) ms (Lays L t)) := ⟨W.out.iff fun j v => laysP_all⟩
            have hml : ms.length = k + 3 := W.out.om.len
            have M9 : Shut (∀ j, j < k + 3 → 0 ≤ nth ms j ∧ nth ms j ≤ 9) := ⟨fun j hj => ⟨WB.out.best.pos j (by omega), WB.out.best.most (by omega) (fun j v h => lays_most HL.out h) (by omega)⟩⟩
            have HML : Shut _ := ⟨hml⟩
            clear hlt W hg2 hq hml
            go_wp2_with fail
            have hwz := WB.out.be.size
            go_loopg [12, 13] (k + 1) (fun gg v10 v11 wr' => ∃ (i : Nat) (out : List Int) (A3 : Option Addr) (c3 : Nat), k - i < gg ∧ 2 ≤ i ∧ (i ≤ 2 ∨ i + 2 ≤ k) ∧ v10 = .slice A3 out.length c3 ∧ v11 = .int .i64 (i : Int) ∧ Shut (out = ptsN ms i) ∧ out.length ≤ i ∧ Shut (Own wr' wo.heap.size 3 .i64 A3 out.length c3 out) ∧ Shut (Below wo.heap.size wo wr'))
            case atStart => exact ⟨2, [], none, 0, by omega, by omega, by omega, rfl, rfl, ⟨(ptsN_low ms (Nat.le_refl _)).symm⟩, by simp, ⟨Own.nil _ _ _ _⟩, ⟨Below.refl _ _⟩⟩
            case round =>
              obtain ⟨i, out, A3, c3, hg3, hi2, hik, rfl, rfl, HO, hol, O3, B3⟩ := hrel
              by_cases hlt : (i : Int) ≤ (k : Int) - 3
              · have hi3 : i + 1 < k + 3 := by omega
                obtain ⟨x0, x9⟩ := M9.out (i + 1) hi3
                have e1 := own_cellH (Own.pass WB.out.om B3.out) hi3
                have PY : Shut (_ → _) := ⟨fun h => ptsN_yes (ms := ms) (m := i) hi2 h⟩
                have PN : Shut (_ → _) := ⟨fun h => ptsN_no (ms := ms) (m := i) h⟩
                generalize nth ms (i + 1) = x at *
                have ei : (i : Int) + 1 < (k : Int) + 3 := by omega
                have hz3 := B3.out.size
                have hkik : i < k := by omega
                clear hik
                cases hb : (x % 2 == 1) with
                | true =>
                  have HO2 : Shut (out ++ [(i : Int)] = ptsN ms (i + 1)) := ⟨by rw [PY.out (by simpa using hb), HO.out]⟩
                  go_wp2_with (at_builtin; refine wpList_push TI64h rfl (.tmp 102) (.tmp 104) rfl rfl (Own.alloc O3.out _) rfl (cell_new _ _ _) (by omega) (by simp; omega) ?_; intro A4 c4 w6 o6 b6)
                  have O6 : Shut (Own w6 wo.heap.size 3 .i64 A4 (out ++ [(i : Int)]).length c4 (out ++ [(i : Int)])) := ⟨by rw [show (out ++ [(i : Int)]).length = out.length + 1 by simp]; exact o6⟩
                  have B6 : Shut (Below wo.heap.size wo w6) := ⟨(B3.out.alloc hz3 _).trans b6⟩
                  clear o6 b6 hb
                  go_roundg (k - i)
                  case measure => omega
                  case rel => exact ⟨i + 1, out ++ [(i : Int)], A4, c4, by omega, by omega, by omega, by rw [List.length_append]; rfl, by go_num, HO2, by rw [List.length_append]; simp; omega, O6, B6⟩
                | false =>
                  have HO2 : Shut (out = ptsN ms (i + 1)) := ⟨by rw [PN.out (by simpa using hb), HO.out]⟩
                  go_wp2_with fail
                  clear hb
                  go_roundg (k - i)
                  case measure => omega
                  case rel => exact ⟨i + 1, out, A3, c3, by omega, by omega, by omega, rfl, by go_num, HO2, by omega, O3, B3⟩
              · have hl2 : decide ((i : Int) ≤ (k : Int) - 3) = false := by simpa using hlt
                have HE : Shut (ptsN ms i = ptsN ms (xs.length - 2)) := ⟨by
                  rw [HLEN.out]
                  rcases Nat.lt_or_ge k 4 with h4 | h4
                  · rw [ptsN_low ms (show i ≤ 2 by omega), ptsN_low ms (show k - 2 ≤ 2 by omega)]
                  · rw [show i = k - 2 by omega]⟩
                have HN64 : Shut (¬ 64 < xs.length) := ⟨by rw [HLEN.out]; exact h64⟩
                clear hik
                go_wp2_with fail
                go_ret
                refine ⟨out, ?_, ?_, A3, c3, rfl, OwnV.lowT O3.out hwz, WB.out.be.trans (B3.out.mono hwz)⟩
                · unfold Points
                  rw [if_neg HN64.out]
                  exact ⟨ms, by rw [show dotted xs = t from HDT.out]; exact WB.out.best, by rw [HML.out, HLEN.out], HO.out.trans HE.out⟩
                · rw [HO.out, HE.out]
                  have := ptsN_len ms (xs.length - 2)
                  omega
end Go.Proofs.YtgianjnccpbnaaaDoor
