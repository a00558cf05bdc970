/- Chapter 52: the window of places, the reference's way. -/
import Derived.Test.YtmbgeeiidpllcaaDoorDcp
import Derived.Test.YtmbgeeiidpllcaaDoorDrs
import Derived.Test.YtmbgeeiidpllcaaDoorKam
import Derived.Test.YtmbgeeiidpllcaaDoorDfr
import Derived.Deep.RegionHeld3
import Derived.Deep.DrawnRows
import Derived.Test.YtmbgeeiidpllcaaDoorDfit
import Derived.BigQuiet
import Derived.Test.YtmbgeeiidpllcaaDoorCards
import Derived.Test.YtmbgeeiidpllcaaDoorTie
import Derived.Deep.DeepHandedRow
import Derived.Lib.LaidTab
import Derived.Test.YtmbgeeiidpllcaaDoorLib
import Derived.ShutString
import Derived.ChangeOld
import Derived.Below
import Derived.Lib.SmallJoins
namespace Go.Proofs.YtmbgeeiidpllcaaDoor
open Go.ChangeShapes Go.WideShapes Go.ChangeAt Go.RowKit
set_option maxRecDepth 100000
set_option linter.unusedSimpArgs false

theorem cut_doneR {a b x y : Value} {w w1 : World} {tmps : Array Value} (ht : tmps.getD 8 undef = .pointer (some ⟨w.heap.size + 1, 0, none⟩)) (R : Two w1 (w.heap.size + 1) 27 x y) (hb : Below w.heap.size w w1) :
    bodyPost Tryd.prog Tryd.f19 (fun e w' => e = .returned (.agg #[a, b]) ∧ Below w.heap.size w w') .ret ⟨tmps, []⟩ (w1.setRow (w.heap.size + 1) #[a, b]) := by
  refine bodyPost_ret (v := .agg #[a, b]) (results_cell_row Tryd.results19 _ _ (w.heap.size + 1) 27 _ (0, 0) _ ht (setRow_heap _ _ _ _ _ _ R) Tryd.underlying27 rfl cutSize52) rfl ⟨rfl, ?_⟩
  exact below_setRow hb (by omega) _

theorem cut_doneE {a b a' b' : Int} {x y : Value} {w w1 : World} {tmps : Array Value} (ht : tmps.getD 8 undef = .pointer (some ⟨w.heap.size + 1, 0, none⟩)) (R : Two w1 (w.heap.size + 1) 27 x y) (hb : Below w.heap.size w w1) (ea : a = a') (eb : b = b') :
    bodyPost Tryd.prog Tryd.f19 (fun e w' => e = .returned (.agg #[.int .i64 a', .int .i64 b']) ∧ Below w.heap.size w w') .ret ⟨tmps, []⟩ (w1.setRow (w.heap.size + 1) #[.int .i64 a, .int .i64 b]) := by
  subst ea eb
  exact cut_doneR ht R hb

set_option maxHeartbeats 4000000 in
theorem rplaces_any (X : Option Addr) (n N cx : Nat) (fx : List Int) (Y : Option Addr) (nb cy : Nat) (fy : List Int) (p g : Nat) (hpg : p + g ≤ n) (D : Option Addr) (m d : Nat) (st : Int) (hN : N = n + 1) (hnb : nb = n - g + m + 1) (w : World) (hn : n ≤ 1000) (hm : m ≤ 1000)
    (hx : IntsAt w w.heap.size .i64 X N fx) (hy : IntsAt w w.heap.size .i64 Y nb fy) :
    Calls Tryd.prog 19 #[.slice X N cx, .slice Y nb cy, .int .i64 (n : Int), .agg #[.int .i64 (p : Int), .int .i64 (g : Int), .slice D m d, .int .i64 st]] w fun e w' => e = .returned (plcV (sameL fx fy) n p g m) ∧ Below w.heap.size w w' := by
  have HX : Shut _ := ⟨hx⟩
  have HY : Shut _ := ⟨hy⟩
  have SM : Shut (∀ i k, sameL fx fy i k = (nth fx i == nth fy k)) := ⟨fun _ _ => rfl⟩
  generalize sameL fx fy = same at *
  obtain ⟨F, hF⟩ : ∃ F, plF same p = F := ⟨_, rfl⟩
  obtain ⟨T, hT⟩ : ∃ T, plT same n p g m = T := ⟨_, rfl⟩
  have hFp := plF_le same p
  have hTp := plT_le same n p g m
  rw [hF] at hFp
  rw [hT] at hTp
  obtain ⟨F0, hF0⟩ : ∃ F0, F - 1 = F0 := ⟨_, rfl⟩
  obtain ⟨T0, hT0⟩ : ∃ T0, min n (n + 1 - T) = T0 := ⟨_, rfl⟩
  unfold plcV
  rw [hF, hT, hF0, hT0]
  have HF0 : Shut (F - 1 = F0) := ⟨hF0⟩
  have HT0 : Shut (min n (n + 1 - T) = T0) := ⟨hT0⟩
  have SF : Shut (stopAt (fun j => same j j) (p + 1) 0 = F) := ⟨hF⟩
  have STT : Shut (stopAt (plB same n g m) (n + 1 - (p + g)) 0 = T) := ⟨hT⟩
  have hnb2 : nb ≤ 2001 := by omega
  have HNB : Shut (nb = n - g + m + 1) := ⟨hnb⟩
  clear hx hy hF hT hnb hF0 hT0
  go_enter Tryd.func19, Tryd.ntmps19
  go_upto_block 0 with fail
  have S0 : Shut (RSel w ((w.alloc (.cells #[.int .i64 (p : Int), .int .i64 (g : Int), .slice D m d, .int .i64 st] 24)).alloc (.cells #[.int .i64 0, .int .i64 0] 27)) p g D m d st) :=
    ⟨⟨(Four.new w _ _ _ _ _ _ rfl).alloc _, Two.newN _ _ _ _ _ (by simp), (below_alloc w _).alloc (by simp) _⟩⟩
  go_cut [10] (fun v wx => v = .int .i64 (F : Int) ∧ Shut (RSel w wx p g D m d st))
  case first =>
    go_wp2_with fail
    go_loopg [10] (p + 1 + 1) (fun gg v wr => ∃ i : Nat, p + 1 - i < gg ∧ i ≤ p + 1 ∧ v = .int .i64 (i : Int) ∧ Shut (stopAt (fun j => same j j) (p + 1) i = F) ∧ Shut (RSel w wr p g D m d st))
    case atStart => exact ⟨0, by omega, by omega, rfl, SF, S0⟩
    case round =>
      obtain ⟨i, hg, hip, rfl, SI, R⟩ := hrel
      have cp := R.out.four.c0
      by_cases hlt : i < p + 1
      · have hnbi : i < nb := by have := HNB.out; omega
        obtain ⟨ax, rfl, _, hcx⟩ := (HX.out.later R.out.be).2 (by omega)
        obtain ⟨ay, rfl, _, hcy⟩ := (HY.out.later R.out.be).2 (by omega)
        have c1 := hcx i (by omega)
        have c2 := hcy i hnbi
        have SMi : Shut _ := ⟨SM.out i i⟩
        generalize nth fx i = u at *
        generalize nth fy i = v at *
        have i1 : (i : Int) ≤ (p : Int) := by omega
        have d1 : decide ((i : Int) ≤ (p : Int)) = true := by simpa using i1
        have i2 : (i : Int) < (N : Int) := by omega
        have i3 : (i : Int) < (nb : Int) := by omega
        have i4 : (0 : Int) ≤ (i : Int) := by omega
        clear hcx hcy
        cases hs : same i i with
        | true =>
          have SI2 : Shut _ := ⟨(stopAt_step (p := fun j => same j j) hlt hs).symm.trans SI.out⟩
          have hb : ((u : Int) == v) = true := by rw [← SMi.out]; exact hs
          clear hs
          go_wp2_with fail
          go_quiet (fail)
          have R2 : Shut (RSel w (wr.drewN nq) p g D m d st) := ⟨R.out.pass (below_drewN (Below.refl _ _) _)⟩
          go_wp2_with fail
          go_roundg (p + 1 - i)
          case measure => omega
          case rel => exact ⟨i + 1, by omega, by omega, by go_num, SI2, R2⟩
        | false =>
          have SI2 : Shut (i = F) := ⟨(stopAt_stop (p := fun j => same j j) (fun _ => hs)).symm.trans SI.out⟩
          have hb : ((u : Int) == v) = false := by rw [← SMi.out]; exact hs
          clear hs
          go_wp2_with fail
          go_quiet (fail)
          have R2 : Shut (RSel w (wr.drewN nq) p g D m d st) := ⟨R.out.pass (below_drewN (Below.refl _ _) _)⟩
          go_wp2_with fail
          go_meet
          exact ⟨by rw [SI2.out], R2⟩
      · have SI2 : Shut (i = F) := ⟨(stopAt_stop (p := fun j => same j j) (fun h => absurd h hlt)).symm.trans SI.out⟩
        have i1 : decide ((i : Int) ≤ (p : Int)) = false := by simp; omega
        have i2 : decide (i ≤ p) = false := by simp; omega
        clear hlt
        go_wp2_with fail
        go_quiet (fail)
        have R2 : Shut (RSel w (wr.drewN nq) p g D m d st) := ⟨R.out.pass (below_drewN (Below.refl _ _) _)⟩
        go_wp2_with fail
        go_meet
        exact ⟨by rw [SI2.out], R2⟩
  case rest =>
    obtain ⟨rfl, R0⟩ := hcut
    clear S0
    go_wp2_with fail
    go_loopg [11] (n + 1 + 1) (fun gg v wr => ∃ (j q : Nat) (x : Int), q < gg ∧ q + j = n + 1 ∧ j ≤ n + 1 - (p + g) ∧ v = .int .i64 x ∧ x + 1 = (q : Int) ∧ Shut (stopAt (plB same n g m) (n + 1 - (p + g)) j = T) ∧ Shut (RSel w wr p g D m d st))
    case atStart => exact ⟨0, n + 1, n, by omega, by omega, by omega, rfl, by omega, STT, R0⟩
    case round =>
      obtain ⟨j, q, x, hg, hq, hj, rfl, hx, SI, R⟩ := hrel
      have cp := R.out.four.c0
      have cg := R.out.four.c1
      by_cases hlt : j < n + 1 - (p + g)
      · obtain ⟨i, rfl⟩ : ∃ i, q = i + 1 := ⟨q - 1, by omega⟩
        obtain rfl : x = (i : Int) := by omega
        obtain ⟨k, hk⟩ : ∃ k, i + m - g = k := ⟨_, rfl⟩
        have hnbk : k < nb := by have := HNB.out; omega
        obtain ⟨ax, rfl, _, hcx⟩ := (HX.out.later R.out.be).2 (by omega)
        obtain ⟨ay, rfl, _, hcy⟩ := (HY.out.later R.out.be).2 (by omega)
        have c1 := hcx i (by omega)
        have c2 := hcy k hnbk
        have SB : Shut (plB same n g m j = same i k) := ⟨by unfold plB; rw [show n - j = i by omega, hk]⟩
        have SMi : Shut _ := ⟨SM.out i k⟩
        generalize nth fx i = u at *
        generalize nth fy k = v at *
        have e2 : (i : Int) + ((m : Int) - (g : Int)) = (k : Int) := by omega
        have i1 : (p : Int) + (g : Int) ≤ (i : Int) := by omega
        have d1 : decide ((p : Int) + (g : Int) ≤ (i : Int)) = true := by simpa using i1
        have i0 : (0 : Int) ≤ (i : Int) := by omega
        have i5 : (0 : Int) ≤ (k : Int) := by omega
        have hi : i ≤ 1000 := by omega
        have hkk : k ≤ 2000 := by omega
        have i2 : (i : Int) < (N : Int) := by omega
        have i3 : (k : Int) < (nb : Int) := by omega
        have hqa : i + j = n := by omega
        clear hcx hcy hk hx
        cases hs : same i k with
        | true =>
          have SI2 : Shut _ := ⟨(stopAt_step (p := plB same n g m) hlt (SB.out.trans hs)).symm.trans SI.out⟩
          have hb : ((u : Int) == v) = true := by rw [← SMi.out]; exact hs
          clear hs
          go_wp2_with fail
          go_quiet (fail)
          have R2 : Shut (RSel w (wr.drewN nq) p g D m d st) := ⟨R.out.pass (below_drewN (Below.refl _ _) _)⟩
          clear e2
          go_wp2_with fail
          go_roundg (i + 1)
          case measure => omega
          case rel => exact ⟨j + 1, i, (i : Int) - 1, by omega, by omega, by omega, by go_num, by omega, SI2, R2⟩
        | false =>
          have SI2 : Shut (j = T) := ⟨(stopAt_stop (p := plB same n g m) (fun _ => SB.out.trans hs)).symm.trans SI.out⟩
          have hb : ((u : Int) == v) = false := by rw [← SMi.out]; exact hs
          clear hs
          go_wp2_with fail
          go_quiet (fail)
          have R2 : Shut (RSel w (wr.drewN nq) p g D m d st) := ⟨R.out.pass (below_drewN (Below.refl _ _) _)⟩
          have RES := R2.out.res
          have WE : Shut (Below w.heap.size w (wr.drewN nq)) := ⟨R2.out.be⟩
          clear e2
          go_wp2_with (refine wpList_store_row rfl 27 (.tmp 8) (.tmp 65) rfl (w.heap.size + 1) _ rfl rfl 27 _ RES cutSize52 (by rfl) (two_all52 _ _) ?_)
          all_goals rw [← HF0.out, ← HT0.out, ← SI2.out]
          all_goals exact cut_doneE (by rfl) RES WE.out (by omega) (by omega)
      · have hjt : j = n + 1 - (p + g) := by omega
        have SI2 : Shut (j = T) := ⟨(stopAt_stop (p := plB same n g m) (fun h => absurd h hlt)).symm.trans SI.out⟩
        have hqp : q = p + g := by omega
        have i1 : ¬ (p : Int) + (g : Int) ≤ x := by omega
        have i2 : decide ((p : Int) + (g : Int) ≤ x) = false := by simp; omega
        have hq1 : x ≤ 1000 := by omega
        have hq2 : -1 ≤ x := by omega
        have XJ : Shut (x + (j : Int) = (n : Int)) := ⟨by omega⟩
        clear hjt hqp hq hx i1 hlt
        go_wp2_with fail
        go_quiet (fail)
        have R2 : Shut (RSel w (wr.drewN nq) p g D m d st) := ⟨R.out.pass (below_drewN (Below.refl _ _) _)⟩
        have RES := R2.out.res
        have WE : Shut (Below w.heap.size w (wr.drewN nq)) := ⟨R2.out.be⟩
        go_wp2_with (refine wpList_store_row rfl 27 (.tmp 8) (.tmp 65) rfl (w.heap.size + 1) _ rfl rfl 27 _ RES cutSize52 (by rfl) (two_all52 _ _) ?_)
        all_goals rw [← HF0.out, ← HT0.out, ← SI2.out]
        all_goals exact cut_doneE (by rfl) RES WE.out (by omega) (by have := XJ.out; omega)
end Go.Proofs.YtmbgeeiidpllcaaDoor
/- Chapter 52: the window of places to break, the reference's way. -/
namespace Go.Proofs.YtmbgeeiidpllcaaDoor
open Go.ChangeShapes Go.WideShapes Go.ChangeAt Go.RowKit
set_option maxRecDepth 100000
set_option linter.unusedSimpArgs false
attribute [local go_sem ↓] Go.wp_at_zero Go.wp_at_succ

theorem rkindsB_any (A : Option Addr) (n c : Nat) (xs : List Int) (w : World) (hx : SliceIn .i32 w A n c xs) (hn : n ≤ 2000) :
    Calls Tryd.prog 20 #[.slice A n c] w fun e w' => ∃ (A2 : Option Addr) (c2 : Nat), e = .returned (.slice A2 (n + 1) c2) ∧ Own w' w.heap.size 3 .i64 A2 (n + 1) c2 (kdL xs) ∧ Below w.heap.size w w' := rkinds_any A n c xs w hx (by omega)

set_option maxHeartbeats 4000000 in
theorem rbreaksNo_any (A : Option Addr) (n c : Nat) (p g : Int) (D : Option Addr) (m d : Nat) (st : Int) (w : World) (hn : n ≤ 1000) (hm : m ≤ 1000) (hf : fitsB n m p g = false) :
    Calls Tryd.prog 7 #[.slice A n c, .agg #[.int .i64 p, .int .i64 g, .slice D m d, .int .i64 st]] w fun e w' => e = .returned (.agg #[.int .i64 0, .int .i64 0]) ∧ Below w.heap.size w w' := by
  have F : Shut (∀ W, _) := ⟨fun W => rfits_any A n c (by omega) p g D m d st (by omega) W⟩
  rw [hf] at F
  clear hf
  go_enter Tryd.func7, Tryd.ntmps7
  go_wp2_with fail
  refine (F.out _).mono ?_
  rintro e w1 ⟨rfl, b1⟩
  have R1 : Two w1 (w.heap.size + 1) 27 (.int .i64 0) (.int .i64 0) := (Two.newN _ _ _ _ _ (by simp)).pass b1 (by simp)
  have B1 : Shut (Below w.heap.size w w1) := ⟨((below_alloc w _).alloc (by simp) _).trans (b1.mono (by simp; omega))⟩
  clear b1
  go_wp2_with (refine wpList_store_row rfl 27 (.tmp 4) (.tmp 9) rfl (w.heap.size + 1) _ rfl rfl 27 _ R1 cutSize52 (by rfl) (two_all52 _ _) ?_)
  exact cut_done3 Tryd.results7 (by rfl) R1 B1.out

set_option maxHeartbeats 8000000 in
theorem rbreaks_any (A : Option Addr) (n c : Nat) (xs : List Int) (p g : Nat) (D : Option Addr) (m d : Nat) (st : Int) (ys : List Int) (w : World) (hx : SliceIn .i32 w A n c xs) (hy : SliceIn .i32 w D m d ys) (hn : n ≤ 1000) (hm : m ≤ 1000) (hf : fitsB n m p g = true) :
    Calls Tryd.prog 7 #[.slice A n c, .agg #[.int .i64 (p : Int), .int .i64 (g : Int), .slice D m d, .int .i64 st]] w fun e w' => e = .returned (breaksV xs ys p g) ∧ Below w.heap.size w w' := by
  have hpg : p + g ≤ n := by unfold fitsB at hf; simp at hf; omega
  have F : Shut (∀ W, _) := ⟨fun W => rfits_any A n c (by omega) (p : Int) (g : Int) D m d st (by omega) W⟩
  rw [hf] at F
  have C1 : Shut (∀ W, Below w.heap.size w W → _) := ⟨fun W hW => rkindsB_any A n c xs W (hx.pass hW) (by omega)⟩
  have C2 : Shut (∀ W, Below w.heap.size w W → _) := ⟨fun W hW => rbehind_any A n c xs p g hpg D m d st ys W (hx.pass hW) (hy.pass hW) (by omega)⟩
  obtain ⟨nb, hnb⟩ : ∃ nb, n - g + m = nb := ⟨_, rfl⟩
  rw [hnb] at C2
  have C3 : Shut (∀ (W : World) (A2 : Option Addr) (c2 : Nat), SliceIn .i32 W A2 nb c2 (behind xs ys p g) → _) := ⟨fun W A2 c2 hW => rkindsB_any A2 nb c2 (behind xs ys p g) W hW (by omega)⟩
  have FV : Shut (breaksV xs ys p g = plcV (sameL (kdL xs) (kdL (behind xs ys p g))) n p g m) := ⟨by unfold breaksV; rw [hx.at_.len, hy.at_.len]⟩
  generalize behind xs ys p g = bs at *
  generalize kdL xs = fx at *
  generalize kdL bs = fy at *
  have C4 : Shut (∀ (W : World) (X : Option Addr) (cx : Nat) (Y : Option Addr) (cy : Nat), IntsAt W W.heap.size .i64 X (n + 1) fx → IntsAt W W.heap.size .i64 Y (nb + 1) fy → _) := ⟨fun W X cx Y cy h1 h2 => rplaces_any X n (n + 1) cx fx Y (nb + 1) cy fy p g hpg D m d st rfl (by omega) W hn hm h1 h2⟩
  generalize breaksV xs ys p g = V at *
  obtain ⟨v1, v2, hv1⟩ : ∃ v1 v2 : Int, plcV (sameL fx fy) n p g m = .agg #[.int .i64 v1, .int .i64 v2] := ⟨_, _, rfl⟩
  rw [hv1] at FV C4
  clear hx hy hf hnb hv1
  go_enter Tryd.func7, Tryd.ntmps7
  go_wp2_with fail
  refine (F.out _).mono ?_
  rintro e w1 ⟨rfl, b1⟩
  have R1 : Shut (Two w1 (w.heap.size + 1) 27 (.int .i64 0) (.int .i64 0)) := ⟨(Two.newN _ _ _ _ _ (by simp)).pass b1 (by simp)⟩
  have Q1 : Shut (Four w1 w.heap.size 24 (.int .i64 (p : Int)) (.int .i64 (g : Int)) (.slice D m d) (.int .i64 st)) := ⟨((Four.new w _ _ _ _ _ _ rfl).alloc _).pass b1 (by simp; omega)⟩
  have B1 : Shut (Below w.heap.size w w1) := ⟨((below_alloc w _).alloc (by simp) _).trans (b1.mono (by simp; omega))⟩
  clear b1 F
  go_wp2_with fail
  go_region_held3 (fun w' => w'.cell? ⟨w.heap.size, 0, none⟩ = some (.int .i64 (p : Int)) ∧ w'.cell? ⟨w.heap.size, 1, none⟩ = some (.int .i64 (g : Int)) ∧ w'.cell? ⟨w.heap.size, 2, none⟩ = some (.slice D m d) ∧ w'.cell? ⟨w.heap.size, 3, none⟩ = some (.int .i64 st))
    (first | exact ⟨Q6.out.c0, Q6.out.c1, Q6.out.c2, Q6.out.c3⟩ | exact ⟨Q5.out.c0, Q5.out.c1, Q5.out.c2, Q5.out.c3⟩ | exact ⟨Q1.out.c0, Q1.out.c1, Q1.out.c2, Q1.out.c3⟩ | exact ⟨Q2.out.c0, Q2.out.c1, Q2.out.c2, Q2.out.c3⟩ | exact ⟨Q3.out.c0, Q3.out.c1, Q3.out.c2, Q3.out.c3⟩ | exact ⟨Q4.out.c0, Q4.out.c1, Q4.out.c2, Q4.out.c3⟩)
    (first
      | (go_at_call 19; refine (C4.out _ X2 e2 X4 e4 P4.out.ints O4.out.ints).mono ?_; rintro e w5 ⟨rfl, b5⟩; have B5 : Shut (Below w.heap.size w w5) := ⟨B4.out.trans (b5.mono B4.out.size)⟩; have R5 : Shut _ := ⟨R4.out.pass b5 R4.out.lt⟩; have Q5 : Shut _ := ⟨Q4.out.pass b5 Q4.out.lt⟩; have k0 := R5.out.c0; have k1 := R5.out.c1; have f0 := R5.out.f 0; have f1 := R5.out.f 1; have hz5 := R5.out.lt; have Q6 : Shut _ := ⟨(Q5.out.far (a := ⟨w.heap.size + 1, 0, none⟩) (by simp) (.int .i64 v1)).far (a := ⟨w.heap.size + 1, 1, none⟩) (by simp) (.int .i64 v2)⟩; have R6 : Shut _ := ⟨(R5.out.set0 (.int .i64 v1)).set1 (.int .i64 v2)⟩; have B6 : Shut _ := ⟨Below.setCell (Below.setCell B5.out (p := ⟨w.heap.size + 1, 0, none⟩) (by simp) (.int .i64 v1)) (p := ⟨w.heap.size + 1, 1, none⟩) (by simp) (.int .i64 v2)⟩; clear b5)
      | (go_at_call 20; refine (C3.out _ A3 c3 O3.out).mono ?_; rintro e w4 ⟨X4, e4, rfl, o4, b4⟩; have O4 : Shut _ := ⟨o4⟩; have B4 : Shut (Below w.heap.size w w4) := ⟨B3.out.trans (b4.mono B3.out.size)⟩; have R4 : Shut _ := ⟨R3.out.pass b4 R3.out.lt⟩; have Q4 : Shut _ := ⟨Q3.out.pass b4 Q3.out.lt⟩; have P4 : Shut _ := ⟨Own.pass P3.out b4⟩; clear o4 b4)
      | (go_at_call 12; refine (C2.out _ B2.out).mono ?_; rintro e w3 ⟨A3, c3, rfl, o3, b3⟩; have O3 : Shut _ := ⟨o3⟩; have B3 : Shut (Below w.heap.size w w3) := ⟨B2.out.trans (b3.mono B2.out.size)⟩; have R3 : Shut _ := ⟨R2.out.pass b3 R2.out.lt⟩; have Q3 : Shut _ := ⟨Q2.out.pass b3 Q2.out.lt⟩; have P3 : Shut _ := ⟨Own.pass O2.out b3⟩; clear o3 b3)
      | (go_at_call 20; refine (C1.out _ (below_drewX B1.out)).mono ?_; rintro e w2 ⟨X2, e2, rfl, o2, b2⟩; have O2 : Shut _ := ⟨o2⟩; have B2 : Shut (Below w.heap.size w w2) := ⟨(below_drewX B1.out).trans (b2.mono B1.out.size)⟩; have R2 : Shut _ := ⟨Two.pass (w := w1.drew) R1.out b2 R1.out.lt⟩; have Q2 : Shut _ := ⟨Four.pass (w := w1.drew) Q1.out b2 Q1.out.lt⟩; clear o2 b2))
  go_wp2_with fail
  refine bodyPost_ret (v := .agg #[.int .i64 v1, .int .i64 v2]) (results_cell_row Tryd.results7 _ _ (w.heap.size + 1) 27 _ (0, 0) _ (by rfl) R6.out Tryd.underlying27 rfl cutSize52) rfl ⟨by rw [FV.out], B6.out⟩
end Go.Proofs.YtmbgeeiidpllcaaDoor
/- Chapter 52: the law DirtyBreaks: the two windows of places to break agree. -/
namespace Go.Proofs.YtmbgeeiidpllcaaDoor
open Go.ChangeShapes Go.WideShapes Go.ChangeAt Go.RowKit
set_option maxRecDepth 100000
set_option linter.unusedSimpArgs false

set_option maxHeartbeats 8000000 in
theorem DirtyBreaks_walk (A : Option Addr) (n c : Nat) (xs : List Int) (p : Int) (_ : (Lit.int .i64 p).wf = true) (g : Int) (_ : (Lit.int .i64 g).wf = true) (D : Option Addr) (m d : Nat) (ys : List Int) (st : Int) (_ : (Lit.int .i64 st).wf = true) (w : World)
    (hx : SliceIn .i32 w A n c xs) (hy : SliceIn .i32 w D m d ys) (hl : Laid w) :
    Calls Tryd.prog 3 #[.slice A n c, .agg #[.int .i64 p, .int .i64 g, .slice D m d, .int .i64 st]] w fun e w' => e = .returned (.bool true) ∧ Below w.heap.size w w' := by
  have LG : Shut (∀ W, _) := ⟨fun W => long52_any A n c p g D m d st W⟩
  cases hlong : (decide (40 < n) || decide (20 < m)) with
  | true =>
    rw [hlong] at LG
    clear hlong hx hy hl
    go_enter Tryd.func3, Tryd.ntmps3
    go_wp2_with fail
    refine (LG.out _).mono ?_
    rintro e w1 ⟨rfl, b1⟩
    go_wp2_with fail
    go_ret
    exact ⟨rfl, (below_alloc w _).trans (b1.mono (by simp))⟩
  | false =>
    rw [hlong] at LG
    simp only [Bool.or_eq_false_iff, decide_eq_false_iff_not] at hlong
    have hn : n ≤ 1000 := by omega
    have hm : m ≤ 1000 := by omega
    obtain ⟨v1, v2, P, R⟩ : ∃ (v1 v2 : Int), Shut (∀ W, Below w.heap.size w W → Calls Tryd.prog 6 #[.slice A n c, .agg #[.int .i64 p, .int .i64 g, .slice D m d, .int .i64 st]] W fun e w' => e = .returned (.agg #[.int .i64 v1, .int .i64 v2]) ∧ Below W.heap.size W w') ∧
        Shut (∀ W, Below w.heap.size w W → Calls Tryd.prog 7 #[.slice A n c, .agg #[.int .i64 p, .int .i64 g, .slice D m d, .int .i64 st]] W fun e w' => e = .returned (.agg #[.int .i64 v1, .int .i64 v2]) ∧ Below W.heap.size W w') := by
      cases hf : fitsB n m p g with
      | false => exact ⟨0, 0, ⟨fun W _ => pbreaksNo_any A n c p g D m d st W hn hm hf⟩, ⟨fun W _ => rbreaksNo_any A n c p g D m d st W hn hm hf⟩⟩
      | true =>
        have h0 : 0 ≤ p ∧ 0 ≤ g := by unfold fitsB at hf; simp at hf; omega
        obtain ⟨p, rfl⟩ := Int.eq_ofNat_of_zero_le h0.1
        obtain ⟨g, rfl⟩ := Int.eq_ofNat_of_zero_le h0.2
        obtain ⟨v1, v2, hv⟩ : ∃ v1 v2 : Int, breaksV xs ys p g = .agg #[.int .i64 v1, .int .i64 v2] := ⟨_, _, rfl⟩
        exact ⟨v1, v2, ⟨fun W hW => by rw [← hv]; exact pbreaks_any A n c xs p g D m d st ys W (hx.pass hW) (hy.pass hW) (hl.pass hW) hn hm hf⟩, ⟨fun W hW => by rw [← hv]; exact rbreaks_any A n c xs p g D m d st ys W (hx.pass hW) (hy.pass hW) hn hm hf⟩⟩
    clear hlong hx hy hl hn hm
    go_enter Tryd.func3, Tryd.ntmps3
    go_wp2_with fail
    refine (LG.out _).mono ?_
    rintro e w1 ⟨rfl, b1⟩
    have Q1 := (Four.new w 24 (.int .i64 p) (.int .i64 g) (.slice D m d) (.int .i64 st) _ rfl).pass b1 (by simp)
    have B1 : Shut (Below w.heap.size w w1) := ⟨(below_alloc w _).trans (b1.mono (by simp))⟩
    have d0 := later_cell Q1.c0
    have d1 := later_cell Q1.c1
    have d2 := later_cell Q1.c2
    have d3 := later_cell Q1.c3
    have P1 := Lib.hid (fun N : Later w1 => P.out N.1 (B1.out.trans (N.2.mono B1.out.size)))
    have P2 := Lib.hid (fun N : Later w1 => R.out N.1 (B1.out.trans (N.2.mono B1.out.size)))
    clear b1 Q1 P R LG
    go_wp2_with fail
    refine wp_region_later (by kernel_rfl) (by kernel_rfl) ?_
    repeat (go_big_quiet_step ((first | (go_at_call 6; with_reducible exact quiet_later (P1.out _)) | (go_at_call 7; with_reducible exact quiet_later (P2.out _)))))
    refine wpQuiet_nil ?_
    intro _ hw'
    obtain ⟨nq, hw''⟩ := hw'
    subst hw''
    go_wp2_with fail
    go_ret
    exact ⟨retb (by simp), B1.out.trans (nq.2.mono B1.out.size)⟩
end Go.Proofs.YtmbgeeiidpllcaaDoor
/- The frame of the proof of DirtyBreaks: from the walk to the given statement and its tied card. -/
namespace Go.Proofs.YtmbgeeiidpllcaaDoor.dirtyBreaksDone
open Go.ChangeShapes Go.WideShapes Go.ChangeAt Go.RowKit
open Go.ChangeMaps (open_string shut_string)
set_option linter.unusedVariables false
set_option maxRecDepth 100000
theorem own : ownKnob Tryd.prog.godebug = none := by kernel_rfl
theorem laidOut : laidOutB Tryd.prog = true := by kernel_rfl
theorem gTab : Tryd.prog.globalNamed "typecase/props.lasts" = some 0 := by kernel_rfl
theorem gTabType : (Tryd.prog.globals[0]?).map (·.type) = some 70 := by kernel_rfl
theorem cellsT : Tryd.prog.cellsOf 70 = 13 := by kernel_rfl
theorem cellsE : Tryd.prog.cellsOf 21 = 1 := by kernel_rfl
/-- what the row's list gives -/
theorem table {W : World} (h : laidMetH Tryd.prog Rows.dirtyBreaksRow.laid W) : Laid W := by
  have ht : Lib.TabIs Tryd.prog W "typecase/props.lasts" .i32 lastsL := Lib.tabIs_of_head (rest := []) gTab gTabType Tryd.underlying70 Tryd.underlying21 cellsE cellsT h
  have hc : ∀ i, i < 13 → W.cell? ⟨0, i, none⟩ = some (.int .i32 (lastN i)) := fun i hi => ht.cell gTab i hi
  exact ⟨block_lt_of_cell (hc 0 (by omega)), hc⟩

theorem contract (H : Type) (enc : TypeId × Value → H) (W : World) (base : Nat) (args : Array Value) (ds gs : List (DataW H)) (before : List MemPlace)
    (hval : ∀ (j : Nat) t v, Tryd.f3.params[j]? = some t → args[j]? = some v → Value.okWide Tryd.prog W .any base t v)
    (hW : DataW.Whole enc Tryd.prog Tryd.f3.params.toList Rows.dirtyBreaksSpec.vars false W args.toList ds gs before) (hL : laidMetH Tryd.prog Rows.dirtyBreaksRow.laid W) :
    Calls Tryd.prog 3 args W fun e W' => ∃ v, e = .returned v ∧ Rows.dirtyBreaksSpec.post enc Tryd.prog Tryd.f3 false true false false W args v W' := by
  have hW' := hW
  obtain ⟨p, q, hA0, hV, rfl, hfz, hnd⟩ := hW
  have hA : DataW.TrodAll enc Tryd.prog W 0 (fun _ => true) true Tryd.f3.params.toList args.toList ds p := hA0
  rw [Tryd.params3] at hA hval
  obtain ⟨v0, vs0, d0, ds0, p0, q0, hargs, rfl, rfl, h0, r0⟩ := trodAll_cons hA
  obtain ⟨v1, vs1, d1, ds1, p1, q1, rfl, rfl, rfl, h1, r1⟩ := trodAll_cons r0
  obtain ⟨rfl, rfl, rfl⟩ := trodAll_nil r1
  obtain rfl : args = #[v0, v1] := Array.ext' hargs
  obtain ⟨rfl, rfl⟩ := trodVars_none hV
  obtain ⟨A0, n0, c0, rfl⟩ := okWide_slice Tryd.underlying22 (hval 0 22 v0 (by rfl) (by rfl))
  have k0 := h0
  have lt0 : ∀ x ∈ p0, x.block < W.heap.size := by obtain ⟨m, hm⟩ := k0; exact DataW.trod_lt m _ _ _ hm
  obtain ⟨x0, w0⟩ : ∃ xs, SliceIn .i32 W A0 n0 c0 xs := by
    obtain ⟨fuel, hf⟩ := h0
    rcases open_ints Tryd.underlying22 Tryd.underlying21 (by kernel_rfl) hf with ⟨hcs, _⟩ | ⟨x, l, c, zs, hcs, _, hl, hm, hz, hxx, hcell, hwz⟩
    · simp [Value.cells] at hcs
      obtain ⟨rfl, rfl, rfl⟩ := hcs
      exact ⟨[], sliceIn_of_nil _ _⟩
    · simp [Value.cells] at hcs
      obtain ⟨rfl, rfl, rfl⟩ := hcs
      exact ⟨_, sliceIn_of_row hl hm (by simpa using hz) hcell hwz⟩
  have k1 := h1
  have lt1 : ∀ x ∈ p1, x.block < W.heap.size := by obtain ⟨m, hm⟩ := k1; exact DataW.trod_lt m _ _ _ hm
  obtain ⟨ea1, eb1, ec1, es1, ya1, yb1, yc1, ys1, ne1, rfl, _, _, ta1, tb1, tc1, ts1⟩ := Joins.open_agg4 Tryd.underlying24 (by kernel_rfl) (by kernel_rfl) (hval 1 24 v1 (by rfl) (by rfl)) h1
  obtain ⟨a1, hza1, _, wa1⟩ := DataW.trod_int Tryd.underlying3 ta1
  obtain rfl : ea1 = .int .i64 a1 := by simpa using hza1
  obtain ⟨b1, hzb1, _, wb1⟩ := DataW.trod_int Tryd.underlying3 tb1
  obtain rfl : eb1 = .int .i64 b1 := by simpa using hzb1
  obtain ⟨s1, hzs1, _, ws1⟩ := DataW.trod_int Tryd.underlying3 ts1
  obtain rfl : es1 = .int .i64 s1 := by simpa using hzs1
  obtain ⟨A1, n1, c1, x1, hzc1, w1⟩ : ∃ A n c xs, ec1 = .slice A n c ∧ SliceIn .i32 W A n c xs := by
    rcases open_ints Tryd.underlying22 Tryd.underlying21 (by kernel_rfl) tc1 with ⟨hcs, _⟩ | ⟨x, l, c, zs, hcs, _, hl, hm, hz, _, hcell, hwz⟩
    · exact ⟨none, 0, 0, [], by simpa using hcs, sliceIn_of_nil _ _⟩
    · exact ⟨some x, l, c, _, by simpa using hcs, sliceIn_of_row hl hm (by simpa using hz) hcell hwz⟩
  subst hzc1
  refine (DirtyBreaks_walk A0 n0 c0 x0 a1 wa1 b1 wb1 A1 n1 c1 x1 s1 ws1 W w0 w1 (table hL)).mono fun e W' ⟨he, bel⟩ => ?_
  subst he
  exact ⟨_, rfl, _, _, _, [], _, [], hW', trodAll_mk1 (shut_bool Tryd.underlying4 _), (trodAll_cons_mk (Below.trod laidOut (by kernel_rfl) (of_decide_eq_true (by kernel_rfl)) k0 bel lt0) (trodAll_cons_mk (Below.trod laidOut (by kernel_rfl) (of_decide_eq_true (by kernel_rfl)) k1 bel lt1) trodAll_mk0)), rfl, bel.frame _, fun h => by cases h⟩

noncomputable def laidWorld (os : Os) : World :=
  { World.holding Tryd.prog os ⟨#[], #[], []⟩ with heap := (World.holding Tryd.prog os ⟨#[], #[], []⟩).heap.modify 0 fun
      | .cells _ t frozen => .cells (lastsL.map (Value.int .i32)).toArray t frozen
      | o => o }
theorem laid_met (os : Os) : laidMet Tryd.prog Rows.dirtyBreaksRow.laid ((laidWorld os).forCall (fun _ _ => 0) ⟨#[], #[.slice none 0 0, .agg #[.int .i64 0, .int .i64 0, .slice none 0 0, .int .i64 0]], []⟩).memory :=
  laidMet_of_run' 8 (by kernel_rfl) (by kernel_rfl)
theorem reads (os : Os) {H : Type} (enc : TypeId × Value → H) : ∃ places, DataW.whole enc Tryd.prog ((laidWorld os).forCall (fun _ _ => 0) ⟨#[], #[.slice none 0 0, .agg #[.int .i64 0, .int .i64 0, .slice none 0 0, .int .i64 0]], []⟩).memory Tryd.f3.params.toList Rows.dirtyBreaksSpec.vars false #[.slice none 0 0, .agg #[.int .i64 0, .int .i64 0, .slice none 0 0, .int .i64 0]].toList 8 = some ([.nil, .agg [.lit (.int .i64 0), .lit (.int .i64 0), .nil, .lit (.int .i64 0)]], [], places) :=
  ⟨[], by kernel_rfl⟩
set_option maxRecDepth 100000 in
theorem lifted (os : Os) (started : os.Started) (H : Type) (enc : TypeId × Value → H) (F : Stop.Interp) :
    ReturnsInHanded {} Tryd.checked os 3 .any ((OpenSpec.ofChange Rows.dirtyBreaksSpec).preRow enc Tryd.prog Tryd.f3 Rows.dirtyBreaksRow.domain false Rows.dirtyBreaksRow.laid) (((OpenSpec.ofChange Rows.dirtyBreaksSpec).at F).post enc Tryd.prog Tryd.f3 false true false false) := by
  obtain ⟨places, hx⟩ := reads os enc
  refine returnsInHanded_of_row (C := Tryd.checked) (s := OpenSpec.ofChange Rows.dirtyBreaksSpec) own started (by kernel_rfl) Tryd.func3
    (witness_row_at (enc := enc) (C := Tryd.checked) false (laidWorld os) #[.slice none 0 0, .agg #[.int .i64 0, .int .i64 0, .slice none 0 0, .int .i64 0]] rfl (by kernel_rfl) (by kernel_rfl) (by kernel_rfl)
      (OpenSpec.preRow_of_cond 8 hx (by kernel_rfl) (fun k hk => by cases hk) (by kernel_rfl) (laid_met os))) ?_
  intro W base args ds gs before hval hW _ _ _ hL _ _
  exact contract H enc W base args ds gs before hval hW hL
theorem said : Rows.DirtyBreaksSaid :=
  OpenClaim.holds_of_cond 3 Tryd.f3 rfl rfl rfl rfl rfl rfl rfl ⟨rfl, rfl, rfl, rfl, rfl⟩ rfl rfl rfl rfl rfl (by kernel_rfl) Tryd.func3 (by kernel_rfl)
    (of_decide_eq_true (by kernel_rfl)) (by unfold Func.isWrapper; first | (rw [if_pos (by decide +kernel)]; kernel_rfl) | (rw [if_neg (by decide +kernel)]; exact ⟨rfl, rfl⟩))
    (fun os started H enc _ F => by rw [OpenClaim.pre_eq_preRow]; exact lifted os started H enc F)
theorem plain (f : FuncId) (fn : Func) (hf : Tryd.pinned.checked.prog.funcNamed "typecase/typecaselaw52.DirtyBreaks" = some f) (hfn : Tryd.pinned.checked.prog.funcs[f]? = some fn) :
    false = Tryd.pinned.checked.prog.looks [] ∧ ∀ (j : Nat) t, fn.params[j]? = some t → Tryd.pinned.checked.prog.wantsStandIn t = false := by
  obtain rfl : f = 3 := Option.some.inj ((show Tryd.prog.funcNamed "typecase/typecaselaw52.DirtyBreaks" = some 3 by kernel_rfl).symm.trans hf) |>.symm
  obtain rfl : fn = Tryd.f3 := (Option.some.inj (Tryd.func3.symm.trans hfn)).symm
  refine ⟨by kernel_rfl, fun j t ht => ?_⟩
  rw [Tryd.params3] at ht
  have ht := Array.mem_of_getElem? ht
  simp only [List.mem_toArray, List.mem_cons, List.not_mem_nil, or_false] at ht
  rcases ht with rfl | rfl
  · exact (show Tryd.prog.wantsStandIn 22 = false by kernel_rfl)
  · exact (show Tryd.prog.wantsStandIn 24 = false by kernel_rfl)
theorem card : Rows.DirtyBreaksCardSaid :=
  Claim7.holds_tied_plain_at .later [] _ _ _ _ said (fun _ h => by cases h) (by kernel_rfl) (fun _ h => by cases h) dirtyBreaks_row_tie rfl ⟨rfl, rfl⟩ (by kernel_rfl) rfl plain (by kernel_rfl)
#print axioms card
end Go.Proofs.YtmbgeeiidpllcaaDoor.dirtyBreaksDone
