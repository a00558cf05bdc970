/- Chapter 52: the window of signs, the reference's way; the comparing function value. -/
import Derived.Test.YtilbcafkjpikgaaDoorDs
namespace Go.Proofs.YtilbcafkjpikgaaDoor
open Go.ChangeShapes Go.WideShapes Go.ChangeAt Go.RowKit
set_option maxRecDepth 100000
set_option linter.unusedSimpArgs false

def sameL (fx fy : List Int) (i k : Nat) : Bool := nth fx i == nth fy k
set_option maxHeartbeats 1000000 in
theorem formsClo_any (i k : Nat) (bx bY : Nat) (X : Option Addr) (nx cx : Nat) (fx : List Int) (Y : Option Addr) (ny cy : Nat) (fy : List Int) (w : World)
    (h1 : w.cell? ⟨bx, 0, none⟩ = some (.slice X nx cx)) (h2 : w.cell? ⟨bY, 0, none⟩ = some (.slice Y ny cy)) (hx : IntsAt w w.heap.size .i64 X nx fx) (hy : IntsAt w w.heap.size .i64 Y ny fy) (hi : i < nx) (hk : k < ny) :
    Calls Tryd.prog 24 #[.int .i64 (i : Int), .int .i64 (k : Int), .pointer (some ⟨bx, 0, none⟩), .pointer (some ⟨bY, 0, none⟩)] w fun e w' => e = .returned (.bool (sameL fx fy i k)) ∧ Below w.heap.size w w' := by
  obtain ⟨ax, rfl, _, hcx⟩ := hx.2 (by omega)
  obtain ⟨ay, rfl, _, hcy⟩ := hy.2 (by omega)
  have c1 := hcx i hi
  have c2 := hcy k hk
  unfold sameL
  generalize nth fx i = u at *
  generalize nth fy k = v at *
  have i1 : (i : Int) < (nx : Int) := by omega
  have i2 : (k : Int) < (ny : Int) := by omega
  have i3 : (0 : Int) ≤ (i : Int) := by omega
  have i4 : (0 : Int) ≤ (k : Int) := by omega
  clear hcx hcy hx hy hi hk
  go_enter Tryd.func24, Tryd.ntmps24
  go_wp2_with fail
  go_quiet (fail)
  go_wp2
  go_ret
  exact ⟨rfl, below_drewN (Below.refl _ _) _⟩
theorem formsTells (bx bY : Nat) (X : Option Addr) (nx cx : Nat) (fx : List Int) (Y : Option Addr) (ny cy : Nat) (fy : List Int) (w : World)
    (h1 : w.cell? ⟨bx, 0, none⟩ = some (.slice X nx cx)) (h2 : w.cell? ⟨bY, 0, none⟩ = some (.slice Y ny cy)) (hx : IntsAt w w.heap.size .i64 X nx fx) (hy : IntsAt w w.heap.size .i64 Y ny fy) :
    Tells2 Tryd.prog 24 #[.pointer (some ⟨bx, 0, none⟩), .pointer (some ⟨bY, 0, none⟩)] (sameL fx fy) nx ny w :=
  fun i k hi hk => formsClo_any i k bx bY X nx cx fx Y ny cy fy w h1 h2 hx hy hi hk

/-- what lies in memory while the reference seeks -/
structure RSel (w wr : World) (p g : Nat) (D : Option Addr) (m d : Nat) (st : Int) : Prop where
  four : Four wr w.heap.size 24 (.int .i64 (p : Int)) (.int .i64 (g : Int)) (.slice D m d) (.int .i64 st)
  res : Two wr (w.heap.size + 1) 35 (.int .i64 0) (.int .i64 0)
  be : Below w.heap.size w wr
theorem RSel.pass {w wr w' : World} {p g : Nat} {D : Option Addr} {m d : Nat} {st : Int} (h : RSel w wr p g D m d st) (hb : Below wr.heap.size wr w') : RSel w w' p g D m d st :=
  ⟨h.four.pass hb h.four.lt, h.res.pass hb h.res.lt, h.be.trans (hb.mono h.be.size)⟩
theorem cut_done2 {a b x y : Value} {w w1 : World} {tmps : Array Value} (ht : tmps.getD 6 undef = .pointer (some ⟨w.heap.size + 1, 0, none⟩)) (R : Two w1 (w.heap.size + 1) 35 x y) (hb : Below w.heap.size w w1) :
    bodyPost Tryd.prog Tryd.f25 (fun e w' => e = .returned (.agg #[a, b]) ∧ Below w.heap.size w w') .ret ⟨tmps, []⟩ (w1.setRow (w.heap.size + 1) #[a, b]) := by
  refine bodyPost_ret (v := .agg #[a, b]) (results_cell_row Tryd.results25 _ _ (w.heap.size + 1) 35 _ (0, 0) _ ht (setRow_heap _ _ _ _ _ _ R) Tryd.underlying35 rfl cutSize52) rfl ⟨rfl, ?_⟩
  exact below_setRow hb (by omega) _

set_option maxHeartbeats 4000000 in
theorem rsigns_any (X : Option Addr) (n cx : Nat) (fx : List Int) (Y : Option Addr) (nb cy : Nat) (fy : List Int) (p g : Nat) (hpg : p + g ≤ n) (D : Option Addr) (m d : Nat) (st : Int) (hnb : nb = n - g + m) (w : World) (hn : n ≤ 1000) (hm : m ≤ 1000)
    (hx : IntsAt w w.heap.size .i64 X n fx) (hy : IntsAt w w.heap.size .i64 Y nb fy) :
    Calls Tryd.prog 25 #[.slice X n cx, .slice Y nb cy, .agg #[.int .i64 (p : Int), .int .i64 (g : Int), .slice D m d, .int .i64 st]] w fun e w' => e = .returned (.agg #[.int .i64 (sgF (sameL fx fy) p : Nat), .int .i64 ((n - sgT (sameL fx fy) n p g m : Nat) : Int)]) ∧ Below w.heap.size w w' := by
  have HX : Shut _ := ⟨hx⟩
  have HY : Shut _ := ⟨hy⟩
  have SM : Shut (∀ i k, sameL fx fy i k = (nth fx i == nth fy k)) := ⟨fun _ _ => rfl⟩
  generalize sameL fx fy = same at *
  obtain ⟨F, hF⟩ : ∃ F, sgF same p = F := ⟨_, rfl⟩
  obtain ⟨T, hT⟩ : ∃ T, sgT same n p g m = T := ⟨_, rfl⟩
  have hFp := sgF_le same p
  have hTp := sgT_le same n p g m
  rw [hF] at hFp
  rw [hT] at hTp
  rw [hF, hT]
  have SF : Shut (stopAt (fun j => same j j) p 0 = F) := ⟨hF⟩
  have STT : Shut (stopAt (sgB same n g m) (n - (p + g)) 0 = T) := ⟨hT⟩
  have hnb2 : nb ≤ 2000 := by omega
  have HNB : Shut (nb = n - g + m) := ⟨hnb⟩
  clear hx hy hF hT hnb
  go_enter Tryd.func25, Tryd.ntmps25
  go_upto_block 0 with fail
  have S0 : Shut (RSel w ((w.alloc (.cells #[.int .i64 (p : Int), .int .i64 (g : Int), .slice D m d, .int .i64 st] 24)).alloc (.cells #[.int .i64 0, .int .i64 0] 35)) p g D m d st) :=
    ⟨⟨(Four.new w _ _ _ _ _ _ rfl).alloc _, Two.newN _ _ _ _ _ (by simp), (below_alloc w _).alloc (by simp) _⟩⟩
  go_cut [8] (fun v wx => v = .int .i64 (F : Int) ∧ Shut (RSel w wx p g D m d st))
  case first =>
    go_wp2_with fail
    go_loopg [8] (p + 1) (fun gg v wr => ∃ i : Nat, p - i < gg ∧ i ≤ p ∧ v = .int .i64 (i : Int) ∧ Shut (stopAt (fun j => same j j) p i = F) ∧ Shut (RSel w wr p g D m d st))
    case atStart => exact ⟨0, by omega, by omega, rfl, SF, S0⟩
    case round =>
      obtain ⟨i, hg, hip, rfl, SI, R⟩ := hrel
      have cp := R.out.four.c0
      by_cases hlt : i < p
      · have hnbi : i < nb := by have := HNB.out; omega
        obtain ⟨ax, rfl, _, hcx⟩ := (HX.out.later R.out.be).2 (by omega)
        obtain ⟨ay, rfl, _, hcy⟩ := (HY.out.later R.out.be).2 (by omega)
        have c1 := hcx i (by omega)
        have c2 := hcy i hnbi
        have SMi : Shut _ := ⟨SM.out i i⟩
        generalize nth fx i = u at *
        generalize nth fy i = v at *
        have i1 : (i : Int) < (p : Int) := by omega
        have d1 : decide ((i : Int) < (p : Int)) = true := by simpa using i1
        have i2 : (i : Int) < (n : Int) := by omega
        have i3 : (i : Int) < (nb : Int) := by omega
        have i4 : (0 : Int) ≤ (i : Int) := by omega
        clear hcx hcy
        cases hs : same i i with
        | true =>
          have SI2 : Shut _ := ⟨(stopAt_step (p := fun j => same j j) hlt hs).symm.trans SI.out⟩
          have hb : ((u : Int) == v) = true := by rw [← SMi.out]; exact hs
          clear hs
          go_wp2_with fail
          go_quiet (fail)
          have R2 : Shut (RSel w (wr.drewN nq) p g D m d st) := ⟨R.out.pass (below_drewN (Below.refl _ _) _)⟩
          go_wp2_with fail
          go_roundg (p - i)
          case measure => omega
          case rel => exact ⟨i + 1, by omega, by omega, by go_num, SI2, R2⟩
        | false =>
          have SI2 : Shut (i = F) := ⟨(stopAt_stop (p := fun j => same j j) (fun _ => hs)).symm.trans SI.out⟩
          have hb : ((u : Int) == v) = false := by rw [← SMi.out]; exact hs
          clear hs
          go_wp2_with fail
          go_quiet (fail)
          have R2 : Shut (RSel w (wr.drewN nq) p g D m d st) := ⟨R.out.pass (below_drewN (Below.refl _ _) _)⟩
          go_wp2_with fail
          go_meet
          exact ⟨by rw [SI2.out], R2⟩
      · have SI2 : Shut (i = F) := ⟨(stopAt_stop (p := fun j => same j j) (fun h => absurd h hlt)).symm.trans SI.out⟩
        have i1 : decide ((i : Int) < (p : Int)) = false := by simp; omega
        have i2 : decide (i < p) = false := by simp; omega
        clear hlt
        go_wp2_with fail
        go_quiet (fail)
        have R2 : Shut (RSel w (wr.drewN nq) p g D m d st) := ⟨R.out.pass (below_drewN (Below.refl _ _) _)⟩
        go_wp2_with fail
        go_meet
        exact ⟨by rw [SI2.out], R2⟩
  case rest =>
    obtain ⟨rfl, R0⟩ := hcut
    clear S0
    go_wp2_with fail
    go_loopg [9] (n + 1) (fun gg v wr => ∃ j q : Nat, q < gg ∧ j ≤ n - (p + g) ∧ n - j = q ∧ v = .int .i64 (q : Int) ∧ Shut (stopAt (sgB same n g m) (n - (p + g)) j = T) ∧ Shut (RSel w wr p g D m d st))
    case atStart => exact ⟨0, n, by omega, by omega, by omega, rfl, STT, R0⟩
    case round =>
      obtain ⟨j, q, hg, hj, hq, rfl, SI, R⟩ := hrel
      have cp := R.out.four.c0
      have cg := R.out.four.c1
      by_cases hlt : j < n - (p + g)
      · obtain ⟨i, rfl⟩ : ∃ i, q = i + 1 := ⟨q - 1, by omega⟩
        obtain ⟨k, hk⟩ : ∃ k, i + m - g = k := ⟨_, rfl⟩
        have hnbk : k < nb := by have := HNB.out; omega
        obtain ⟨ax, rfl, _, hcx⟩ := (HX.out.later R.out.be).2 (by omega)
        obtain ⟨ay, rfl, _, hcy⟩ := (HY.out.later R.out.be).2 (by omega)
        have c1 := hcx i (by omega)
        have c2 := hcy k hnbk
        have SB : Shut (sgB same n g m j = same i k) := ⟨by unfold sgB; rw [show n - 1 - j = i by omega, hk]⟩
        have SMi : Shut _ := ⟨SM.out i k⟩
        generalize nth fx i = u at *
        generalize nth fy k = v at *
        have e2 : (i : Int) + ((m : Int) - (g : Int)) = (k : Int) := by omega
        have i1 : (p : Int) + (g : Int) < (i : Int) + 1 := by omega
        have d1 : decide ((p : Int) + (g : Int) < (i : Int) + 1) = true := by simpa using i1
        have i0 : (0 : Int) ≤ (i : Int) := by omega
        have i5 : (0 : Int) ≤ (k : Int) := by omega
        have hi : i ≤ 1000 := by omega
        have hkk : k ≤ 2000 := by omega
        have i2 : (i : Int) < (n : Int) := by omega
        have i3 : (k : Int) < (nb : Int) := by omega
        have hqa : n ≤ i + 1 + j := by omega
        have hqb : i + 1 + j ≤ n := by omega
        have QN : Shut (n - j = i + 1) := ⟨hq⟩
        clear hcx hcy hk hq
        cases hs : same i k with
        | true =>
          have SI2 : Shut _ := ⟨(stopAt_step (p := sgB same n g m) hlt (SB.out.trans hs)).symm.trans SI.out⟩
          have hb : ((u : Int) == v) = true := by rw [← SMi.out]; exact hs
          clear hs
          go_wp2_with fail
          go_quiet (fail)
          have R2 : Shut (RSel w (wr.drewN nq) p g D m d st) := ⟨R.out.pass (below_drewN (Below.refl _ _) _)⟩
          clear e2
          go_wp2_with fail
          go_roundg (i + 1)
          case measure => omega
          case rel => exact ⟨j + 1, i, by omega, by omega, by omega, by go_num, SI2, R2⟩
        | false =>
          have SI2 : Shut (j = T) := ⟨(stopAt_stop (p := sgB same n g m) (fun _ => SB.out.trans hs)).symm.trans SI.out⟩
          have QT : Shut (n - T = i + 1) := ⟨by rw [← SI2.out]; exact QN.out⟩
          have hb : ((u : Int) == v) = false := by rw [← SMi.out]; exact hs
          clear hs
          go_wp2_with fail
          go_quiet (fail)
          have R2 : Shut (RSel w (wr.drewN nq) p g D m d st) := ⟨R.out.pass (below_drewN (Below.refl _ _) _)⟩
          have RES := R2.out.res
          have WE : Shut (Below w.heap.size w (wr.drewN nq)) := ⟨R2.out.be⟩
          clear e2
          go_wp2_with (refine wpList_store_row rfl 35 (.tmp 6) (.tmp 61) rfl (w.heap.size + 1) _ rfl rfl 35 _ RES cutSize52 (by rfl) (two_all52 _ _) ?_)
          rw [QT.out]
          exact cut_done2 (by rfl) RES WE.out
      · have hjt : j = n - (p + g) := by omega
        have SI2 : Shut (j = T) := ⟨(stopAt_stop (p := sgB same n g m) (fun h => absurd h hlt)).symm.trans SI.out⟩
        have QT : Shut (n - T = q) := ⟨by rw [← SI2.out]; exact hq⟩
        have hqp : q = p + g := by omega
        have i1 : ¬ (p : Int) + (g : Int) < (q : Int) := by omega
        have i2 : decide ((p : Int) + (g : Int) < (q : Int)) = false := by simp; omega
        have i3 : decide (p + g < q) = false := by simp; omega
        have hq1 : q ≤ 1000 := by omega
        clear hjt hqp hq i1 hlt
        go_wp2_with fail
        go_quiet (fail)
        have R2 : Shut (RSel w (wr.drewN nq) p g D m d st) := ⟨R.out.pass (below_drewN (Below.refl _ _) _)⟩
        have RES := R2.out.res
        have WE : Shut (Below w.heap.size w (wr.drewN nq)) := ⟨R2.out.be⟩
        go_wp2_with (refine wpList_store_row rfl 35 (.tmp 6) (.tmp 61) rfl (w.heap.size + 1) _ rfl rfl 35 _ RES cutSize52 (by rfl) (two_all52 _ _) ?_)
        rw [QT.out]
        exact cut_done2 (by rfl) RES WE.out
end Go.Proofs.YtilbcafkjpikgaaDoor
