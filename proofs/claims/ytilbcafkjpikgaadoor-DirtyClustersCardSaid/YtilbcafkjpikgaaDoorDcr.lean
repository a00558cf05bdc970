/- Chapter 52: the window of places, the reference's way. -/
import Derived.Test.YtilbcafkjpikgaaDoorDcp
import Derived.Test.YtilbcafkjpikgaaDoorDrs
namespace Go.Proofs.YtilbcafkjpikgaaDoor
open Go.ChangeShapes Go.WideShapes Go.ChangeAt Go.RowKit
set_option maxRecDepth 100000
set_option linter.unusedSimpArgs false

theorem cut_doneR {a b x y : Value} {w w1 : World} {tmps : Array Value} (ht : tmps.getD 8 undef = .pointer (some ⟨w.heap.size + 1, 0, none⟩)) (R : Two w1 (w.heap.size + 1) 35 x y) (hb : Below w.heap.size w w1) :
    bodyPost Tryd.prog Tryd.f30 (fun e w' => e = .returned (.agg #[a, b]) ∧ Below w.heap.size w w') .ret ⟨tmps, []⟩ (w1.setRow (w.heap.size + 1) #[a, b]) := by
  refine bodyPost_ret (v := .agg #[a, b]) (results_cell_row Tryd.results30 _ _ (w.heap.size + 1) 35 _ (0, 0) _ ht (setRow_heap _ _ _ _ _ _ R) Tryd.underlying35 rfl cutSize52) rfl ⟨rfl, ?_⟩
  exact below_setRow hb (by omega) _

theorem cut_doneE {a b a' b' : Int} {x y : Value} {w w1 : World} {tmps : Array Value} (ht : tmps.getD 8 undef = .pointer (some ⟨w.heap.size + 1, 0, none⟩)) (R : Two w1 (w.heap.size + 1) 35 x y) (hb : Below w.heap.size w w1) (ea : a = a') (eb : b = b') :
    bodyPost Tryd.prog Tryd.f30 (fun e w' => e = .returned (.agg #[.int .i64 a', .int .i64 b']) ∧ Below w.heap.size w w') .ret ⟨tmps, []⟩ (w1.setRow (w.heap.size + 1) #[.int .i64 a, .int .i64 b]) := by
  subst ea eb
  exact cut_doneR ht R hb

set_option maxHeartbeats 4000000 in
theorem rplaces_any (X : Option Addr) (n N cx : Nat) (fx : List Int) (Y : Option Addr) (nb cy : Nat) (fy : List Int) (p g : Nat) (hpg : p + g ≤ n) (D : Option Addr) (m d : Nat) (st : Int) (hN : N = n + 1) (hnb : nb = n - g + m + 1) (w : World) (hn : n ≤ 1000) (hm : m ≤ 1000)
    (hx : IntsAt w w.heap.size .i64 X N fx) (hy : IntsAt w w.heap.size .i64 Y nb fy) :
    Calls Tryd.prog 30 #[.slice X N cx, .slice Y nb cy, .int .i64 (n : Int), .agg #[.int .i64 (p : Int), .int .i64 (g : Int), .slice D m d, .int .i64 st]] w fun e w' => e = .returned (plcV (sameL fx fy) n p g m) ∧ Below w.heap.size w w' := by
  have HX : Shut _ := ⟨hx⟩
  have HY : Shut _ := ⟨hy⟩
  have SM : Shut (∀ i k, sameL fx fy i k = (nth fx i == nth fy k)) := ⟨fun _ _ => rfl⟩
  generalize sameL fx fy = same at *
  obtain ⟨F, hF⟩ : ∃ F, plF same p = F := ⟨_, rfl⟩
  obtain ⟨T, hT⟩ : ∃ T, plT same n p g m = T := ⟨_, rfl⟩
  have hFp := plF_le same p
  have hTp := plT_le same n p g m
  rw [hF] at hFp
  rw [hT] at hTp
  obtain ⟨F0, hF0⟩ : ∃ F0, F - 1 = F0 := ⟨_, rfl⟩
  obtain ⟨T0, hT0⟩ : ∃ T0, min n (n + 1 - T) = T0 := ⟨_, rfl⟩
  unfold plcV
  rw [hF, hT, hF0, hT0]
  have HF0 : Shut (F - 1 = F0) := ⟨hF0⟩
  have HT0 : Shut (min n (n + 1 - T) = T0) := ⟨hT0⟩
  have SF : Shut (stopAt (fun j => same j j) (p + 1) 0 = F) := ⟨hF⟩
  have STT : Shut (stopAt (plB same n g m) (n + 1 - (p + g)) 0 = T) := ⟨hT⟩
  have hnb2 : nb ≤ 2001 := by omega
  have HNB : Shut (nb = n - g + m + 1) := ⟨hnb⟩
  clear hx hy hF hT hnb hF0 hT0
  go_enter Tryd.func30, Tryd.ntmps30
  go_upto_block 0 with fail
  have S0 : Shut (RSel w ((w.alloc (.cells #[.int .i64 (p : Int), .int .i64 (g : Int), .slice D m d, .int .i64 st] 24)).alloc (.cells #[.int .i64 0, .int .i64 0] 35)) p g D m d st) :=
    ⟨⟨(Four.new w _ _ _ _ _ _ rfl).alloc _, Two.newN _ _ _ _ _ (by simp), (below_alloc w _).alloc (by simp) _⟩⟩
  go_cut [10] (fun v wx => v = .int .i64 (F : Int) ∧ Shut (RSel w wx p g D m d st))
  case first =>
    go_wp2_with fail
    go_loopg [10] (p + 1 + 1) (fun gg v wr => ∃ i : Nat, p + 1 - i < gg ∧ i ≤ p + 1 ∧ v = .int .i64 (i : Int) ∧ Shut (stopAt (fun j => same j j) (p + 1) i = F) ∧ Shut (RSel w wr p g D m d st))
    case atStart => exact ⟨0, by omega, by omega, rfl, SF, S0⟩
    case round =>
      obtain ⟨i, hg, hip, rfl, SI, R⟩ := hrel
      have cp := R.out.four.c0
      by_cases hlt : i < p + 1
      · have hnbi : i < nb := by have := HNB.out; omega
        obtain ⟨ax, rfl, _, hcx⟩ := (HX.out.later R.out.be).2 (by omega)
        obtain ⟨ay, rfl, _, hcy⟩ := (HY.out.later R.out.be).2 (by omega)
        have c1 := hcx i (by omega)
        have c2 := hcy i hnbi
        have SMi : Shut _ := ⟨SM.out i i⟩
        generalize nth fx i = u at *
        generalize nth fy i = v at *
        have i1 : (i : Int) ≤ (p : Int) := by omega
        have d1 : decide ((i : Int) ≤ (p : Int)) = true := by simpa using i1
        have i2 : (i : Int) < (N : Int) := by omega
        have i3 : (i : Int) < (nb : Int) := by omega
        have i4 : (0 : Int) ≤ (i : Int) := by omega
        clear hcx hcy
        cases hs : same i i with
        | true =>
          have SI2 : Shut _ := ⟨(stopAt_step (p := fun j => same j j) hlt hs).symm.trans SI.out⟩
          have hb : ((u : Int) == v) = true := by rw [← SMi.out]; exact hs
          clear hs
          go_wp2_with fail
          go_quiet (fail)
          have R2 : Shut (RSel w (wr.drewN nq) p g D m d st) := ⟨R.out.pass (below_drewN (Below.refl _ _) _)⟩
          go_wp2_with fail
          go_roundg (p + 1 - i)
          case measure => omega
          case rel => exact ⟨i + 1, by omega, by omega, by go_num, SI2, R2⟩
        | false =>
          have SI2 : Shut (i = F) := ⟨(stopAt_stop (p := fun j => same j j) (fun _ => hs)).symm.trans SI.out⟩
          have hb : ((u : Int) == v) = false := by rw [← SMi.out]; exact hs
          clear hs
          go_wp2_with fail
          go_quiet (fail)
          have R2 : Shut (RSel w (wr.drewN nq) p g D m d st) := ⟨R.out.pass (below_drewN (Below.refl _ _) _)⟩
          go_wp2_with fail
          go_meet
          exact ⟨by rw [SI2.out], R2⟩
      · have SI2 : Shut (i = F) := ⟨(stopAt_stop (p := fun j => same j j) (fun h => absurd h hlt)).symm.trans SI.out⟩
        have i1 : decide ((i : Int) ≤ (p : Int)) = false := by simp; omega
        have i2 : decide (i ≤ p) = false := by simp; omega
        clear hlt
        go_wp2_with fail
        go_quiet (fail)
        have R2 : Shut (RSel w (wr.drewN nq) p g D m d st) := ⟨R.out.pass (below_drewN (Below.refl _ _) _)⟩
        go_wp2_with fail
        go_meet
        exact ⟨by rw [SI2.out], R2⟩
  case rest =>
    obtain ⟨rfl, R0⟩ := hcut
    clear S0
    go_wp2_with fail
    go_loopg [11] (n + 1 + 1) (fun gg v wr => ∃ (j q : Nat) (x : Int), q < gg ∧ q + j = n + 1 ∧ j ≤ n + 1 - (p + g) ∧ v = .int .i64 x ∧ x + 1 = (q : Int) ∧ Shut (stopAt (plB same n g m) (n + 1 - (p + g)) j = T) ∧ Shut (RSel w wr p g D m d st))
    case atStart => exact ⟨0, n + 1, n, by omega, by omega, by omega, rfl, by omega, STT, R0⟩
    case round =>
      obtain ⟨j, q, x, hg, hq, hj, rfl, hx, SI, R⟩ := hrel
      have cp := R.out.four.c0
      have cg := R.out.four.c1
      by_cases hlt : j < n + 1 - (p + g)
      · obtain ⟨i, rfl⟩ : ∃ i, q = i + 1 := ⟨q - 1, by omega⟩
        obtain rfl : x = (i : Int) := by omega
        obtain ⟨k, hk⟩ : ∃ k, i + m - g = k := ⟨_, rfl⟩
        have hnbk : k < nb := by have := HNB.out; omega
        obtain ⟨ax, rfl, _, hcx⟩ := (HX.out.later R.out.be).2 (by omega)
        obtain ⟨ay, rfl, _, hcy⟩ := (HY.out.later R.out.be).2 (by omega)
        have c1 := hcx i (by omega)
        have c2 := hcy k hnbk
        have SB : Shut (plB same n g m j = same i k) := ⟨by unfold plB; rw [show n - j = i by omega, hk]⟩
        have SMi : Shut _ := ⟨SM.out i k⟩
        generalize nth fx i = u at *
        generalize nth fy k = v at *
        have e2 : (i : Int) + ((m : Int) - (g : Int)) = (k : Int) := by omega
        have i1 : (p : Int) + (g : Int) ≤ (i : Int) := by omega
        have d1 : decide ((p : Int) + (g : Int) ≤ (i : Int)) = true := by simpa using i1
        have i0 : (0 : Int) ≤ (i : Int) := by omega
        have i5 : (0 : Int) ≤ (k : Int) := by omega
        have hi : i ≤ 1000 := by omega
        have hkk : k ≤ 2000 := by omega
        have i2 : (i : Int) < (N : Int) := by omega
        have i3 : (k : Int) < (nb : Int) := by omega
        have hqa : i + j = n := by omega
        clear hcx hcy hk hx
        cases hs : same i k with
        | true =>
          have SI2 : Shut _ := ⟨(stopAt_step (p := plB same n g m) hlt (SB.out.trans hs)).symm.trans SI.out⟩
          have hb : ((u : Int) == v) = true := by rw [← SMi.out]; exact hs
          clear hs
          go_wp2_with fail
          go_quiet (fail)
          have R2 : Shut (RSel w (wr.drewN nq) p g D m d st) := ⟨R.out.pass (below_drewN (Below.refl _ _) _)⟩
          clear e2
          go_wp2_with fail
          go_roundg (i + 1)
          case measure => omega
          case rel => exact ⟨j + 1, i, (i : Int) - 1, by omega, by omega, by omega, by go_num, by omega, SI2, R2⟩
        | false =>
          have SI2 : Shut (j = T) := ⟨(stopAt_stop (p := plB same n g m) (fun _ => SB.out.trans hs)).symm.trans SI.out⟩
          have hb : ((u : Int) == v) = false := by rw [← SMi.out]; exact hs
          clear hs
          go_wp2_with fail
          go_quiet (fail)
          have R2 : Shut (RSel w (wr.drewN nq) p g D m d st) := ⟨R.out.pass (below_drewN (Below.refl _ _) _)⟩
          have RES := R2.out.res
          have WE : Shut (Below w.heap.size w (wr.drewN nq)) := ⟨R2.out.be⟩
          clear e2
          go_wp2_with (refine wpList_store_row rfl 35 (.tmp 8) (.tmp 65) rfl (w.heap.size + 1) _ rfl rfl 35 _ RES cutSize52 (by rfl) (two_all52 _ _) ?_)
          all_goals rw [← HF0.out, ← HT0.out, ← SI2.out]
          all_goals exact cut_doneE (by rfl) RES WE.out (by omega) (by omega)
      · have hjt : j = n + 1 - (p + g) := by omega
        have SI2 : Shut (j = T) := ⟨(stopAt_stop (p := plB same n g m) (fun h => absurd h hlt)).symm.trans SI.out⟩
        have hqp : q = p + g := by omega
        have i1 : ¬ (p : Int) + (g : Int) ≤ x := by omega
        have i2 : decide ((p : Int) + (g : Int) ≤ x) = false := by simp; omega
        have hq1 : x ≤ 1000 := by omega
        have hq2 : -1 ≤ x := by omega
        have XJ : Shut (x + (j : Int) = (n : Int)) := ⟨by omega⟩
        clear hjt hqp hq hx i1 hlt
        go_wp2_with fail
        go_quiet (fail)
        have R2 : Shut (RSel w (wr.drewN nq) p g D m d st) := ⟨R.out.pass (below_drewN (Below.refl _ _) _)⟩
        have RES := R2.out.res
        have WE : Shut (Below w.heap.size w (wr.drewN nq)) := ⟨R2.out.be⟩
        go_wp2_with (refine wpList_store_row rfl 35 (.tmp 8) (.tmp 65) rfl (w.heap.size + 1) _ rfl rfl 35 _ RES cutSize52 (by rfl) (two_all52 _ _) ?_)
        all_goals rw [← HF0.out, ← HT0.out, ← SI2.out]
        all_goals exact cut_doneE (by rfl) RES WE.out (by omega) (by have := XJ.out; omega)
end Go.Proofs.YtilbcafkjpikgaaDoor
