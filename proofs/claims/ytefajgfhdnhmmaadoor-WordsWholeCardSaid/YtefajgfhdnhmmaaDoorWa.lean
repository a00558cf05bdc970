/- Chapter 8: the word around a place; both ways. -/
import Derived.Test.YtefajgfhdnhmmaaDoorWi
namespace Go.Proofs.YtefajgfhdnhmmaaDoor
open Go.ChangeShapes Go.WideShapes Go.ChangeAt Go.RowKit
set_option maxRecDepth 100000
set_option linter.unusedSimpArgs false

/-- what is known of the words' boundaries of a text of n code points -/
structure WbF (l : List Nat) (n : Nat) : Prop where
  rise : Rise l
  len : l.length ≤ n + 1
  nil : n = 0 → l = []
  two : 0 < n → 2 ≤ l.length
  first : 0 < n → atN l 0 = 0
  last : 0 < n → atN l (l.length - 1) = n
theorem wbF {xs : List Int} {n : Nat} (h : xs.length = n) : WbF (wbL xs) n := by
  have hk : (ks xs).length = n := by rw [ks_len]; exact h
  refine ⟨wbL_rise xs, wbL_len h, fun h0 => ?_, fun h0 => ?_, fun h0 => ?_, fun h0 => ?_⟩
  · unfold wbL; rw [bndA_nil (by omega)]; rfl
  · exact (wbA_facts (bndA_two (by omega))).1
  · exact ((wbA_facts (ws := wds xs) (bndA_two (ks := ks xs) (by omega))).2.1).trans (bndA_first (by omega)).1
  · exact ((wbA_facts (ws := wds xs) (bndA_two (ks := ks xs) (by omega))).2.2).trans ((bndA_last (by omega)).2.trans hk)
theorem WbF.at_le {l : List Nat} {n j : Nat} (h : WbF l n) (h0 : 0 < n) (hj : j < l.length) : atN l j ≤ n := by
  rcases Nat.lt_or_ge j (l.length - 1) with h1 | h1
  · have := h.rise.lt' h1 (by omega)
    rw [h.last h0] at this
    omega
  · obtain rfl : j = l.length - 1 := by omega
    rw [h.last h0]; exact Nat.le_refl _
/-- the word that has a place -/
theorem WbF.find {l : List Nat} {n i : Nat} (h : WbF l n) (h0 : 0 < n) : wdNo l n i + 1 < l.length ∧ atN l (wdNo l n i) ≤ min i (n - 1) ∧ min i (n - 1) < atN l (wdNo l n i + 1) := by
  obtain ⟨k, h1, h2, h3⟩ := find_at (h.two h0) (j := min i (n - 1)) (by rw [h.first h0]; omega) (by rw [h.last h0]; omega)
  rw [wdNo_at h.rise h1 h2 h3]
  exact ⟨h1, h2, h3⟩
def arF (l : List Nat) (n : Nat) (i : Int) : Int := if i < 0 ∨ (n : Int) < i ∨ n = 0 then 0 else (atN l (wdNo l n i.toNat) : Int)
def arT (l : List Nat) (n : Nat) (i : Int) : Int := if i < 0 ∨ (n : Int) < i ∨ n = 0 then 0 else (atN l (wdNo l n i.toNat + 1) : Int)
theorem ar_out {l : List Nat} {n : Nat} {i : Int} (h : i < 0 ∨ (n : Int) < i ∨ n = 0) : arF l n i = 0 ∧ arT l n i = 0 := by unfold arF arT; rw [if_pos h, if_pos h]; exact ⟨rfl, rfl⟩
theorem ar_in {l : List Nat} {n i : Nat} (h : i ≤ n) (h0 : 0 < n) : arF l n (i : Int) = (atN l (wdNo l n i) : Int) ∧ arT l n (i : Int) = (atN l (wdNo l n i + 1) : Int) := by
  unfold arF arT
  rw [if_neg (by omega), if_neg (by omega), Int.toNat_natCast]
  exact ⟨rfl, rfl⟩

set_option maxHeartbeats 4000000 in
theorem parnd_any (A : Option Addr) (n c : Nat) (xs : List Int) (i : Int) (w : World) (hx : SliceIn .i32 w A n c xs) (hl : Laid w) (hn : (n + 1) * 16 ≤ 140737488355328) :
    Calls Tryd.prog 26 #[.slice A n c, .int .i64 i] w fun e w' => e = .returned (.agg #[.int .i64 (arF (wbL xs) n i), .int .i64 (arT (wbL xs) n i)]) ∧ Below w.heap.size w w' := by
  have PB := Lib.hid (fun W (hb : Below w.heap.size w W) => pwb_any A n c xs W (hx.pass hb) (hl.pass hb) hn)
  have WF := Lib.hid (wbF hx.at_.len)
  have EW := Lib.hid (show wbI xs = (wbL xs).map Int.ofNat from rfl)
  clear hx hl
  generalize wbL xs = l at *
  generalize wbI xs = wi at *
  have TR := Lib.hid (Two.new w 24 (.int .i64 0) (.int .i64 0))
  by_cases hout : i < 0 ∨ (n : Int) < i ∨ n = 0
  · obtain ⟨e1, e2⟩ := ar_out (l := l) hout
    rw [e1, e2]
    clear e1 e2
    have go : Calls Tryd.prog 26 #[.slice A n c, .int .i64 i] w fun e w' => e = .returned (.agg #[.int .i64 0, .int .i64 0]) ∧ Below w.heap.size w w' := by
      rcases hout with h | h | h
      · go_enter Tryd.func26, Tryd.ntmps26
        go_wp2_with fail
        exact bodyPost_ret (v := .agg #[.int .i64 0, .int .i64 0]) (by simp [results, Tryd.results26, go_sem]) rfl ⟨rfl, below_alloc w _⟩
      · have h2 : ¬ i < 0 := by omega
        go_enter Tryd.func26, Tryd.ntmps26
        go_wp2_with fail
        exact bodyPost_ret (v := .agg #[.int .i64 0, .int .i64 0]) (by simp [results, Tryd.results26, go_sem]) rfl ⟨rfl, below_alloc w _⟩
      · subst h
        go_enter Tryd.func26, Tryd.ntmps26
        go_wp2_with fail
        all_goals exact bodyPost_ret (v := .agg #[.int .i64 0, .int .i64 0]) (by simp [results, Tryd.results26, go_sem]) rfl ⟨rfl, below_alloc w _⟩
    exact go
  · obtain ⟨q, rfl⟩ : ∃ q : Nat, i = q := ⟨i.toNat, by omega⟩
    have hq : q ≤ n := by omega
    have h0 : 0 < n := by omega
    obtain ⟨e1, e2⟩ := ar_in (l := l) hq h0
    rw [e1, e2]
    have nz : ((n : Int) == 0) = false := by simp; omega
    have l1 : ¬ (n : Int) < (q : Int) := by omega
    obtain ⟨j, hj⟩ : ∃ j, min q (n - 1) = j := ⟨_, rfl⟩
    have hmin : min (q : Int) ((n : Int) - 1) = (j : Int) := by omega
    obtain ⟨f1, f2, f3⟩ := WF.out.find (i := q) h0
    rw [hj] at f2 f3
    have HJ := Lib.hid hj
    have F1 := Lib.hid f1
    have F2 := Lib.hid f2
    have F3 := Lib.hid f3
    have HLE := Lib.hid WF.out.len
    have UQ := Lib.hid (fun (k : Nat) (h1 : k + 1 < l.length) (h2 : atN l k ≤ j) (h3 : j < atN l (k + 1)) => wdNo_at WF.out.rise (n := n) (i := q) h1 (by rw [HJ.out]; exact h2) (by rw [HJ.out]; exact h3))
    obtain ⟨L, hL⟩ : ∃ L, l.length = L := ⟨_, rfl⟩
    have HL := Lib.hid hL
    rw [hL] at PB UQ
    obtain ⟨kk, hkk⟩ : ∃ kk, wdNo l n q = kk := ⟨_, rfl⟩
    rw [hkk] at UQ ⊢
    have hjn : j ≤ n - 1 := by omega
    have hll : L ≤ n + 1 := by have := HLE.out; omega
    have hcase : (j = q ∧ (q : Int) ≤ (n : Int) - 1) ∨ (n = q ∧ (n : Int) - 1 = (j : Int) ∧ ¬ (n : Int) ≤ (j : Int)) := by omega
    have d0 : decide ((q : Int) < 0) = false := by simp
    clear e1 e2 hout hj f1 f2 f3 hL hmin hkk F1 F2 F3 HJ
    go_enter Tryd.func26, Tryd.ntmps26
    go_wp2_with fail
    refine (PB.out _ (below_alloc w _)).mono ?_
    rintro e w1 ⟨Ab, cb, rfl, ob, b1⟩
    have PS := Lib.hid (pbs_any Ab L cb l WF.out.rise (j : Int) w1 (by have := ob.ints; rw [EW.out] at this; exact this) (by omega))
    have OI := Lib.hid (show IntsAt w1 w1.heap.size .i64 Ab L (l.map Int.ofNat) by have := ob.ints; rw [EW.out] at this; exact this)
    have X1 := Lib.hid ((below_alloc w _).trans (b1.mono (Nat.le_of_lt (by simp))))
    have tr := TR.out.pass b1 (by simp)
    have r0 := tr.c0
    have r1 := tr.c1
    have r2 := tr.f 0
    have r3 := tr.f 1
    clear ob b1
    rcases hcase with ⟨rfl, l2⟩ | ⟨rfl, l2, l3⟩
    all_goals
      go_wp2_with fail
      refine PS.out.mono ?_
      rintro e w2 ⟨p, f, rfl, q1, q2, q3, q4, rfl⟩
      obtain ⟨hk1, hk3⟩ : kk + 1 < L ∧ (f = true ∧ p = kk ∨ f = false ∧ p = kk + 1) := by
        have hL := HL.out
        have HR := WF.out.rise
        have hfirst := WF.out.first h0
        have hlast := WF.out.last h0
        rw [hL] at q1 q3 q4 hlast
        have hL2 := WF.out.two h0
        have hpl : p < L := by
          rcases Nat.lt_or_ge p L with h | h
          · exact h
          · have := q2 (L - 1) (by omega)
            rw [hlast] at this
            omega
        cases f with
        | true =>
          have h5 := (q4.1 rfl).2
          have h6 : p + 1 < L := by
            rcases Nat.lt_or_ge (p + 1) L with h | h
            · exact h
            · obtain rfl : p = L - 1 := by omega
              rw [hlast] at h5
              omega
          have h7 := HR p (by omega)
          have h8 := UQ.out p h6 (by omega) (by omega)
          exact ⟨by omega, .inl ⟨rfl, h8.symm⟩⟩
        | false =>
          have h5 : ¬ (atN l p : Int) = _ := fun h => by have := q4.2 ⟨hpl, h⟩; cases this
          have h6 := q3 p (Nat.le_refl _) hpl
          have h7 : 0 < p := by
            rcases Nat.eq_zero_or_pos p with h | h
            · subst h; rw [hfirst] at h6 h5; omega
            · exact h
          obtain ⟨k, rfl⟩ : ∃ k, p = k + 1 := ⟨p - 1, by omega⟩
          have h8 := q2 k (by omega)
          have h9 := UQ.out k hpl (by omega) (by omega)
          exact ⟨by omega, .inr ⟨rfl, by omega⟩⟩
      obtain ⟨ad, rfl, hab, hcx⟩ := OI.out.2 (by omega)
      have c0 := hcx kk (by omega)
      have c1 := hcx (kk + 1) hk1
      rw [nth_map (by rw [HL.out]; omega)] at c0 c1
      rw [add_succ] at c1
      obtain ⟨a, ha⟩ : ∃ a, atN l kk = a := ⟨_, rfl⟩
      obtain ⟨b, hb⟩ : ∃ b, atN l (kk + 1) = b := ⟨_, rfl⟩
      have HA := Lib.hid ha
      have HB := Lib.hid hb
      rw [ha] at c0
      rw [hb] at c1
      clear ha hb
      have U0 := Lib.hid (tr.set0 (.int .i64 (a : Int))).c0
      have U1 := Lib.hid ((tr.set0 (.int .i64 (a : Int))).set1 (.int .i64 (b : Int))).c1
      clear q1 q2 q3 q4 hcx tr
      have p0 : (0 : Int) ≤ (kk : Int) := by omega
      have p1 : (kk : Int) < (L : Int) := by omega
      have p2 : (0 : Int) ≤ (kk : Int) + 1 := by omega
      have p3 : (kk : Int) + 1 < (L : Int) := by omega
      have wk1 : IntKind.i64.wrap (kk : Int) = (kk : Int) := IntWalk.i64_in _ (by omega)
      have wk2 : IntKind.i64.wrap ((kk : Int) + 1) = (kk : Int) + 1 := IntWalk.i64_in _ (by omega)
      have tn : ((kk : Int) + 1).toNat = kk + 1 := by omega
      rcases hk3 with ⟨rfl, rfl⟩ | ⟨rfl, rfl⟩
      all_goals go_wp2_with fail
      all_goals go_region
      all_goals go_wp2_with fail
      all_goals exact bodyPost_ret (v := .agg #[.int .i64 (a : Int), .int .i64 (b : Int)]) (by simp [results, Tryd.results26, go_sem, U0.out, U1.out]) rfl ⟨by rw [HA.out, HB.out], ((X1.out.setCell (Nat.le_refl _) _).setCell (Nat.le_refl _) _).drew⟩

set_option maxHeartbeats 8000000 in
theorem rarnd_any (A : Option Addr) (n c : Nat) (xs : List Int) (i : Int) (w : World) (hx : SliceIn .i32 w A n c xs) (hn : (n + 1) * 16 ≤ 140737488355328) :
    Calls Tryd.prog 27 #[.slice A n c, .int .i64 i] w fun e w' => e = .returned (.agg #[.int .i64 (arF (wbL xs) n i), .int .i64 (arT (wbL xs) n i)]) ∧ Below w.heap.size w w' := by
  have PB := Lib.hid (fun W (hb : Below w.heap.size w W) => rwords_any A n c xs W (hx.pass hb) hn)
  have WF := Lib.hid (wbF hx.at_.len)
  clear hx
  generalize wbL xs = l at *
  have TR := Lib.hid (Two.new w 24 (.int .i64 0) (.int .i64 0))
  obtain ⟨M, hM⟩ : ∃ M, l.length - 1 = M := ⟨_, rfl⟩
  have HM := Lib.hid hM
  have hMn : M ≤ n := by have := WF.out.len; omega
  unfold NewCutsG at PB
  rw [prs_len, hM] at PB
  clear hM
  -- what a round finds
  have FA := Lib.hid (fun (k : Nat) (hk : k < M) => (show rng (prs l M) k = (atN l k, atN l (k + 1)) by unfold rng prs; simp [hk]))
  by_cases hout : i < 0 ∨ (n : Int) < i ∨ n = 0
  · obtain ⟨e1, e2⟩ := ar_out (l := l) hout
    rw [e1, e2]
    have NO := Lib.hid (fun (k : Nat) (hk : k < M) => (show ¬ ((atN l k : Int) ≤ i ∧ i < (atN l (k + 1) : Int)) ∧ (i == (atN l (k + 1) : Int)) = false by
      have hH := HM.out
      have h0 : 0 < n := by omega
      have h1 := WF.out.at_le h0 (j := k + 1) (by omega)
      refine ⟨by omega, by simp; omega⟩))
    clear e1 e2 hout
    go_enter Tryd.func27, Tryd.ntmps27
    go_wp2_with fail
    refine (PB.out _ (below_alloc w _)).mono ?_
    rintro e w1 ⟨Ac, cc, rfl, oc, b1⟩
    have OC := Lib.hid oc
    have X1 := Lib.hid ((below_alloc w _).trans (b1.mono (Nat.le_of_lt (by simp))))
    have tr := TR.out.pass b1 (by simp)
    have r0 := tr.c0
    have r1 := tr.c1
    have r2 := tr.f 0
    have r3 := tr.f 1
    have U0 := Lib.hid (tr.set0 (.int .i64 0)).c0
    have U1 := Lib.hid ((tr.set0 (.int .i64 0)).set1 (.int .i64 0)).c1
    clear oc b1 tr
    go_wp2_with fail
    go_loop [6] (fun v => ∃ k : Nat, k ≤ M ∧ v = .int .i64 k) (fun v => M - (intOf v).toNat)
    case atStart => exact ⟨0, Nat.zero_le _, rfl⟩
    case round =>
      obtain ⟨k, hk, rfl⟩ := hrel
      by_cases hlt : k < M
      · obtain ⟨gc, rfl, _⟩ := OwnV.form OC.out (by omega)
        obtain ⟨v1, v2⟩ := cutsV_at (prs l M) k (by rw [prs_len]; exact hlt)
        rw [FA.out k hlt] at v1 v2
        have c0 := (OwnV.cellAt OC.out (k * 2) (by omega)).trans v1
        have c1 := (OwnV.cellAt OC.out (k * 2 + 1) (by omega)).trans v2
        obtain ⟨n1, n2⟩ := NO.out k hlt
        generalize atN l k = a at *
        generalize atN l (k + 1) = b at *
        clear v1 v2
        by_cases ha : (a : Int) ≤ i
        · have hb : ¬ i < (b : Int) := fun h => n1 ⟨ha, h⟩
          clear n1
          cases hkb : ((k : Int) == (M : Int) - 1)
          all_goals
            go_wp2_with fail
            go_round
            case rel => exact ⟨k + 1, by omega, by go_num⟩
            case measure => simp [intOf] <;> omega
        · clear n1
          cases hkb : ((k : Int) == (M : Int) - 1)
          all_goals
            go_wp2_with fail
            go_round
            case rel => exact ⟨k + 1, by omega, by go_num⟩
            case measure => simp [intOf] <;> omega
      · go_wp2_with fail
        exact bodyPost_ret (v := .agg #[.int .i64 0, .int .i64 0]) (by simp [results, Tryd.results27, go_sem, U0.out, U1.out]) rfl ⟨rfl, (X1.out.setCell (Nat.le_refl _) _).setCell (Nat.le_refl _) _⟩
  · obtain ⟨q, rfl⟩ : ∃ q : Nat, i = q := ⟨i.toNat, by omega⟩
    have hq : q ≤ n := by omega
    have h0 : 0 < n := by omega
    obtain ⟨e1, e2⟩ := ar_in (l := l) hq h0
    rw [e1, e2]
    obtain ⟨f1, f2, f3⟩ := WF.out.find (i := q) h0
    obtain ⟨kk, hkk⟩ : ∃ kk, wdNo l n q = kk := ⟨_, rfl⟩
    rw [hkk] at f1 f2 f3 ⊢
    have hkM : kk < M := by have := HM.out; omega
    have BEF := Lib.hid (fun (k : Nat) (hk : k < kk) => (show (atN l k : Int) ≤ (q : Int) ∧ ¬ (q : Int) < (atN l (k + 1) : Int) ∧ ((k : Int) == (M : Int) - 1) = false by
      have h1 := WF.out.rise.lt' (i := k) (j := kk) hk (by omega)
      have h2 : atN l (k + 1) ≤ atN l kk := by
        rcases Nat.eq_or_lt_of_le (show k + 1 ≤ kk by omega) with h | h
        · rw [h]; exact Nat.le_refl _
        · exact Nat.le_of_lt (WF.out.rise.lt' h (by omega))
      refine ⟨by omega, by omega, by simp; omega⟩))
    have ATK := Lib.hid (show (atN l kk : Int) ≤ (q : Int) ∧ ((q : Int) < (atN l (kk + 1) : Int) ∨ (¬ (q : Int) < (atN l (kk + 1) : Int) ∧ ((kk : Int) == (M : Int) - 1) = true ∧ ((q : Int) == (atN l (kk + 1) : Int)) = true)) by
      have hH := HM.out
      have h1 := WF.out.at_le h0 (j := kk + 1) f1
      refine ⟨by omega, ?_⟩
      by_cases h : q < atN l (kk + 1)
      · exact .inl (by omega)
      · have h3 : kk + 1 = l.length - 1 := by
          rcases Nat.lt_or_ge (kk + 1) (l.length - 1) with h4 | h4
          · have := WF.out.rise.lt' h4 (by omega)
            rw [WF.out.last h0] at this
            omega
          · omega
        exact .inr ⟨by omega, by simp; omega, by simp; omega⟩)
    clear e1 e2 hout hkk f1 f2 f3
    go_enter Tryd.func27, Tryd.ntmps27
    go_wp2_with fail
    refine (PB.out _ (below_alloc w _)).mono ?_
    rintro e w1 ⟨Ac, cc, rfl, oc, b1⟩
    have OC := Lib.hid oc
    have X1 := Lib.hid ((below_alloc w _).trans (b1.mono (Nat.le_of_lt (by simp))))
    have TRW := Lib.hid (TR.out.pass b1 (by simp))
    clear oc b1
    go_wp2_with fail
    go_loop [6] (fun v => ∃ k : Nat, k ≤ kk ∧ v = .int .i64 k) (fun v => M - (intOf v).toNat)
    case atStart => exact ⟨0, Nat.zero_le _, rfl⟩
    case round =>
      obtain ⟨k, hk, rfl⟩ := hrel
      have hkm : k < M := by omega
      obtain ⟨gc, rfl, _⟩ := OwnV.form OC.out (by omega)
      obtain ⟨v1, v2⟩ := cutsV_at (prs l M) k (by rw [prs_len]; exact hkm)
      rw [FA.out k hkm] at v1 v2
      have c0 := (OwnV.cellAt OC.out (k * 2) (by omega)).trans v1
      have c1 := (OwnV.cellAt OC.out (k * 2 + 1) (by omega)).trans v2
      clear v1 v2
      by_cases hlt : k < kk
      · obtain ⟨n1, n2, n3⟩ := BEF.out k hlt
        generalize atN l k = a at *
        generalize atN l (k + 1) = b at *
        go_wp2_with fail
        go_round
        case rel => exact ⟨k + 1, by omega, by go_num⟩
        case measure => simp [intOf] <;> omega
      · obtain rfl : k = kk := by omega
        obtain ⟨n1, n2⟩ := ATK.out
        obtain ⟨a, ha⟩ : ∃ a, atN l k = a := ⟨_, rfl⟩
        obtain ⟨b, hb⟩ : ∃ b, atN l (k + 1) = b := ⟨_, rfl⟩
        have HA := Lib.hid ha
        have HB := Lib.hid hb
        rw [ha] at c0 n1
        rw [hb] at c1 n2
        have r0 := TRW.out.c0
        have r1 := TRW.out.c1
        have r2 := TRW.out.f 0
        have r3 := TRW.out.f 1
        have U0 := Lib.hid (TRW.out.set0 (.int .i64 (a : Int))).c0
        have U1 := Lib.hid ((TRW.out.set0 (.int .i64 (a : Int))).set1 (.int .i64 (b : Int))).c1
        clear ha hb
        rcases n2 with n2 | ⟨n2, n3, n4⟩
        all_goals go_wp2_with fail
        all_goals exact bodyPost_ret (v := .agg #[.int .i64 (a : Int), .int .i64 (b : Int)]) (by simp [results, Tryd.results27, go_sem, U0.out, U1.out]) rfl ⟨by rw [HA.out, HB.out], (X1.out.setCell (Nat.le_refl _) _).setCell (Nat.le_refl _) _⟩
end Go.Proofs.YtefajgfhdnhmmaaDoor
