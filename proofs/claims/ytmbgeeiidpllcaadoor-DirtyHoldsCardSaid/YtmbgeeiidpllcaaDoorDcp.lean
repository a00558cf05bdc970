/- Chapter 52: the window of places, the program's way. -/
import Derived.Test.YtmbgeeiidpllcaaDoorDcm
import Derived.Test.YtmbgeeiidpllcaaDoorDwin
namespace Go.Proofs.YtmbgeeiidpllcaaDoor
open Go.ChangeShapes Go.WideShapes Go.ChangeAt Go.RowKit
set_option maxRecDepth 100000
set_option linter.unusedSimpArgs false

/-- the window of places -/
def plcV (same : Nat → Nat → Bool) (n p g m : Nat) : Value := .agg #[.int .i64 ((plF same p - 1 : Nat) : Int), .int .i64 ((min n (n + 1 - plT same n p g m) : Nat) : Int)]
theorem cut_doneP {a b x y : Value} {w w1 : World} {tmps : Array Value} (ht : tmps.getD 6 undef = .pointer (some ⟨w.heap.size + 1, 0, none⟩)) (R : Two w1 (w.heap.size + 1) 27 x y) (hb : Below w.heap.size w w1) :
    bodyPost Tryd.prog Tryd.f17 (fun e w' => e = .returned (.agg #[a, b]) ∧ Below w.heap.size w w') .ret ⟨tmps, []⟩ (w1.setRow (w.heap.size + 1) #[a, b]) := by
  refine bodyPost_ret (v := .agg #[a, b]) (results_cell_row Tryd.results17 _ _ (w.heap.size + 1) 27 _ (0, 0) _ ht (setRow_heap _ _ _ _ _ _ R) Tryd.underlying27 rfl cutSize52) rfl ⟨rfl, ?_⟩
  exact below_setRow hb (by omega) _

set_option maxHeartbeats 4000000 in
theorem pplaces_any (gf : Nat) (bx bY : Addr) (same : Nat → Nat → Bool) (n p g : Nat) (hpg : p + g ≤ n) (D : Option Addr) (m d : Nat) (st : Int) (w : World) (hn : n ≤ 1000) (hm : m ≤ 1000)
    (eg : ∀ args w, (callFunc gf args).run Tryd.prog w = .ok (.enter gf args) w) (ht : ∀ W, Below w.heap.size w W → Tells2 Tryd.prog gf #[.pointer (some bx), .pointer (some bY)] same (n + 1) (n - g + m + 1) W) :
    Calls Tryd.prog 17 #[.int .i64 (n : Int), .agg #[.int .i64 (p : Int), .int .i64 (g : Int), .slice D m d, .int .i64 st], .func (.func gf) #[] #[.pointer (some bx), .pointer (some bY)]] w fun e w' => e = .returned (plcV same n p g m) ∧ Below w.heap.size w w' := by
  have HT : Shut _ := ⟨ht⟩
  obtain ⟨F, hF⟩ : ∃ F, plF same p = F := ⟨_, rfl⟩
  obtain ⟨T, hT⟩ : ∃ T, plT same n p g m = T := ⟨_, rfl⟩
  have hFp := plF_le same p
  have hTp := plT_le same n p g m
  rw [hF] at hFp
  rw [hT] at hTp
  obtain ⟨F0, hF0⟩ : ∃ F0, F - 1 = F0 := ⟨_, rfl⟩
  obtain ⟨T0, hT0⟩ : ∃ T0, min n (n + 1 - T) = T0 := ⟨_, rfl⟩
  unfold plcV
  rw [hF, hT, hF0, hT0]
  have SF : Shut (stopAt (fun j => same j j) (p + 1) 0 = F) := ⟨hF⟩
  have STT : Shut (stopAt (plB same n g m) (n + 1 - (p + g)) 0 = T) := ⟨hT⟩
  have HF0 : Shut (F - 1 = F0) := ⟨hF0⟩
  have HT0 : Shut (min n (n + 1 - T) = T0) := ⟨hT0⟩
  clear ht hF hT hF0 hT0
  go_enter Tryd.func17, Tryd.ntmps17
  go_upto_block 0 with fail
  have S0 : Shut (SRel w (((w.alloc (.cells #[.int .i64 (p : Int), .int .i64 (g : Int), .slice D m d, .int .i64 st] 24)).alloc (.cells #[.int .i64 0, .int .i64 0] 27)).alloc (.cells #[.int .i64 0, .int .i64 (n : Int)] 27)) p g D m d st 0 n) :=
    ⟨⟨((Four.new w _ _ _ _ _ _ rfl).alloc _).alloc _, (Two.newN _ _ _ _ _ (by simp)).alloc _, Two.newN _ _ _ _ _ (by simp), ((below_alloc w _).alloc (by simp) _).alloc (by simp; omega) _⟩⟩
  go_cut [9] (fun v wx => Shut (SRel w wx p g D m d st F0 n))
  case first =>
    go_wp2_with fail
    go_loopg [9] (p + 1 + 1) (fun gg v wr => ∃ i t : Nat, p + 1 - i < gg ∧ i ≤ p + 1 ∧ v = .int .i64 (i : Int) ∧ Shut (i - 1 = t) ∧ Shut (stopAt (fun j => same j j) (p + 1) i = F) ∧ Shut (SRel w wr p g D m d st (t : Int) n))
    case atStart => exact ⟨0, 0, by omega, by omega, rfl, ⟨rfl⟩, SF, S0⟩
    case round =>
      obtain ⟨i, t, hg, hip, rfl, HT1, SI, R⟩ := hrel
      have hz := R.out.sz
      have c0 := R.out.win.c0
      have cp := R.out.four.c0
      by_cases hlt : i < p + 1
      · have CT : Shut _ := ⟨HT.out wr R.out.be i i (by omega) (by omega)⟩
        have i1 : (i : Int) ≤ (p : Int) := by omega
        have f0 := R.out.win.f 0
        cases hs : same i i with
        | true =>
          have SI2 : Shut _ := ⟨(stopAt_step (p := fun j => same j j) hlt hs).symm.trans SI.out⟩
          rw [hs] at CT
          clear hs f0
          go_wp2_with fail
          refine CT.out.mono ?_
          rintro e w2 ⟨rfl, b2⟩
          have R2 : Shut _ := ⟨R.out.pass b2⟩
          have c2 := R2.out.win.c0
          have f2 := R2.out.win.f 0
          have hz2 := R2.out.sz
          have R3 : Shut _ := ⟨R2.out.set0 (i : Int)⟩
          clear b2 c0 cp
          go_wp2_with fail
          go_roundg (p + 1 - i)
          case measure => omega
          case rel => exact ⟨i + 1, i, by omega, by omega, by go_num, ⟨rfl⟩, SI2, by simpa using R3⟩
        | false =>
          have SI2 : Shut (i = F) := ⟨(stopAt_stop (p := fun j => same j j) (fun _ => hs)).symm.trans SI.out⟩
          have TT : Shut (t = F0) := ⟨by rw [← HT1.out, SI2.out]; exact HF0.out⟩
          rw [hs] at CT
          clear hs f0
          go_wp2_with fail
          refine CT.out.mono ?_
          rintro e w2 ⟨rfl, b2⟩
          have R2 : Shut _ := ⟨R.out.pass b2⟩
          clear b2 c0 cp
          go_wp2_with fail
          go_meet
          rw [← TT.out]
          exact R2
      · have SI2 : Shut (i = F) := ⟨(stopAt_stop (p := fun j => same j j) (fun h => absurd h hlt)).symm.trans SI.out⟩
        have TT : Shut (t = F0) := ⟨by rw [← HT1.out, SI2.out]; exact HF0.out⟩
        have i1 : decide ((i : Int) ≤ (p : Int)) = false := by simp; omega
        have i2 : decide (i ≤ p) = false := by simp; omega
        go_wp2_with fail
        go_meet
        rw [← TT.out]
        exact R
  case rest =>
    have R0 := hcut
    clear hcut S0
    go_wp2_with fail
    go_loopg [10] (n + 1 + 1) (fun gg v wr => ∃ (j q t : Nat) (x : Int), q < gg ∧ q + j = n + 1 ∧ j ≤ n + 1 - (p + g) ∧ v = .int .i64 x ∧ x + 1 = (q : Int) ∧ Shut (min n q = t) ∧ Shut (stopAt (plB same n g m) (n + 1 - (p + g)) j = T) ∧ Shut (SRel w wr p g D m d st F0 (t : Int)))
    case atStart => exact ⟨0, n + 1, n, n, by omega, by omega, by omega, rfl, by omega, ⟨by omega⟩, STT, R0⟩
    case round =>
      obtain ⟨j, q, t, x, hg, hq, hj, rfl, hx, HM, SI, R⟩ := hrel
      have hz := R.out.sz
      have cp := R.out.four.c0
      have cg := R.out.four.c1
      by_cases hlt : j < n + 1 - (p + g)
      · obtain ⟨i, rfl⟩ : ∃ i, q = i + 1 := ⟨q - 1, by omega⟩
        obtain rfl : x = (i : Int) := by omega
        obtain ⟨k, hk⟩ : ∃ k, i + m - g = k := ⟨_, rfl⟩
        have c1 := R.out.win.c1
        have CT : Shut _ := ⟨HT.out wr R.out.be i k (by omega) (by omega)⟩
        have SB : Shut (plB same n g m j = same i k) := ⟨by unfold plB; rw [show n - j = i by omega, hk]⟩
        have e2 : (i : Int) + ((m : Int) - (g : Int)) = (k : Int) := by omega
        have i1 : (p : Int) + (g : Int) ≤ (i : Int) := by omega
        have i0 : (0 : Int) ≤ (i : Int) := by omega
        have hi : i ≤ 1000 := by omega
        have hkk : k ≤ 2000 := by omega
        have hmi : Shut (min n i = i) := ⟨by omega⟩
        cases hs : same i k with
        | true =>
          have SI2 : Shut _ := ⟨(stopAt_step (p := plB same n g m) hlt (SB.out.trans hs)).symm.trans SI.out⟩
          rw [hs] at CT
          clear hs hk hx
          go_wp2_with fail
          refine CT.out.mono ?_
          rintro e w2 ⟨rfl, b2⟩
          have R2 : Shut _ := ⟨R.out.pass b2⟩
          have c2 := R2.out.win.c1
          have f2 := R2.out.win.f 1
          have hz2 := R2.out.sz
          have R3 : Shut _ := ⟨R2.out.set1 (i : Int)⟩
          clear b2 c1 cp cg e2
          go_wp2_with fail
          go_roundg (i + 1)
          case measure => omega
          case rel => exact ⟨j + 1, i, i, (i : Int) - 1, by omega, by omega, by omega, by go_num, by omega, hmi, SI2, by simpa using R3⟩
        | false =>
          have SI2 : Shut (j = T) := ⟨(stopAt_stop (p := plB same n g m) (fun _ => SB.out.trans hs)).symm.trans SI.out⟩
          have QT : Shut (T0 = t) := ⟨by rw [← HT0.out, ← SI2.out, ← HM.out, show n + 1 - j = i + 1 by omega]⟩
          rw [hs] at CT
          clear hs hk hq hx
          go_wp2_with fail
          refine CT.out.mono ?_
          rintro e w2 ⟨rfl, b2⟩
          have R2 : Shut _ := ⟨R.out.pass b2⟩
          have cA := R2.out.win.c0
          have cB := R2.out.win.c1
          have RES := R2.out.res
          have hz2 := R2.out.sz
          clear b2 c1 cp cg e2
          have WE : Shut (Below w.heap.size w w2) := ⟨R2.out.be⟩
          go_wp2_with (refine wpList_store_row rfl 27 (.tmp 6) (.tmp 53) rfl (w.heap.size + 1) _ rfl rfl 27 _ RES cutSize52 (by rfl) (two_all52 _ _) ?_)
          rw [QT.out]
          exact cut_doneP (by rfl) RES WE.out
      · have hjt : j = n + 1 - (p + g) := by omega
        have SI2 : Shut (j = T) := ⟨(stopAt_stop (p := plB same n g m) (fun h => absurd h hlt)).symm.trans SI.out⟩
        have QT : Shut (T0 = t) := ⟨by rw [← HT0.out, ← SI2.out, ← HM.out, show n + 1 - j = q by omega]⟩
        have hqp : q = p + g := by omega
        have i1 : ¬ (p : Int) + (g : Int) ≤ x := by omega
        have i2 : decide ((p : Int) + (g : Int) ≤ x) = false := by simp; omega
        have cA := R.out.win.c0
        have cB := R.out.win.c1
        have RES := R.out.res
        have WE : Shut (Below w.heap.size w wr) := ⟨R.out.be⟩
        clear hjt hqp hq hx
        go_wp2_with (refine wpList_store_row rfl 27 (.tmp 6) (.tmp 53) rfl (w.heap.size + 1) _ rfl rfl 27 _ RES cutSize52 (by rfl) (two_all52 _ _) ?_)
        rw [QT.out]
        exact cut_doneP (by rfl) RES WE.out
end Go.Proofs.YtmbgeeiidpllcaaDoor
