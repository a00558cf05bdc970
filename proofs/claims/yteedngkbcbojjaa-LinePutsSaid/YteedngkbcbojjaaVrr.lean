/- Chapter 17: the reference's rounds. -/
import Derived.Test.YteedngkbcbojjaaVcr
namespace Go.Proofs.Yteedngkbcbojjaa
open Go.ChangeShapes Go.WideShapes Go.ChangeAt Go.RowKit
set_option maxRecDepth 100000
set_option linter.unusedSimpArgs false

set_option maxHeartbeats 8000000 in
theorem rrounds_any (A : Option Addr) (n c : Nat) (lv : List Int) (w : World) (hx : IntsAt w w.heap.size .i64 A n lv) (hn : n ≤ 4000) :
    Calls Try.prog 25 #[.slice A n c] w fun e w' => ∃ (A2 : Option Addr) (c2 : Nat) (m : Int), e = .returned (.tuple #[.slice A2 n c2, .int .i64 m]) ∧ Own w' w.heap.size 3 .i64 A2 n c2 (visual lv) ∧ Below w.heap.size w w' := by
  have CO : Shut _ := ⟨counts_any A n c lv w hx hn⟩
  have LN : Shut (lv.length = n) := ⟨hx.len⟩
  have FI : Shut (rnd lv n (leastN lv n) (mostN lv n) (idL n) = visual lv) := ⟨by unfold visual; rw [hx.len]⟩
  generalize visual lv = FIN at *
  clear hx
  go_enter Try.func25, Try.ntmps25
  go_wp2_with fail
  refine CO.out.mono ?_
  rintro e w1 ⟨C, cc, rfl, oC, b1⟩
  have HC : Shut (IntsAt w1 w1.heap.size .i64 C n (cntL lv)) := ⟨oC.ints⟩
  have B1 : Shut (Below w.heap.size w w1) := ⟨b1⟩
  clear oC b1 CO
  have BD : Shut _ := ⟨bounds_any C n cc lv w1 LN.out HC.out hn⟩
  go_wp2_with fail
  refine BD.out.mono ?_
  rintro e w2 ⟨rfl, b2⟩
  have HC2 : Shut (IntsAt w2 w2.heap.size .i64 C n (cntL lv)) := ⟨HC.out.later (b2.mono (Nat.le_refl _))⟩
  have B2 : Shut (Below w.heap.size w w2) := ⟨B1.out.trans (b2.mono B1.out.size)⟩
  have CA : Shut (∀ i, i < n → nth (cntL lv) i = (heldN (nth lv i) : Nat)) := ⟨fun i hi => cntL_at (by have := LN.out; omega)⟩
  have LB : Shut (1 ≤ leastN lv n ∧ leastN lv n ≤ 127) := ⟨leastN_le lv n⟩
  have MB : Shut (mostN lv n ≤ 126) := ⟨mostN_le lv n⟩
  generalize leastN lv n = L at *
  generalize mostN lv n = M at *
  have hL := LB.out.1
  have hL2 := LB.out.2
  have hM := MB.out
  clear b2 BD HC B1
  have hs2 := B2.out.size
  go_wp2_with fail
  go_loopg [7, 8] (n + 1) (fun gg v7 v8 wr => ∃ (k : Nat) (A' : Option Addr) (c' : Nat), n - k < gg ∧ k ≤ n ∧ v7 = .slice A' k c' ∧ v8 = .int .i64 (k : Int) ∧ Shut (Own wr w2.heap.size 3 .i64 A' k c' (idL k)) ∧ Shut (Below w2.heap.size w2 wr))
  case atStart => exact ⟨0, none, 0, by omega, by omega, rfl, rfl, ⟨Own.nil _ _ _ _⟩, ⟨Below.refl _ _⟩⟩
  case round =>
    obtain ⟨k, A', c', hg, hk, rfl, rfl, RO, BE⟩ := hrel
    by_cases hlt : k < n
    · have i1 : (k : Int) < (n : Int) := by omega
      have hs := BE.out.size
      have ER : Shut (idL (k + 1) = idL k ++ [(k : Int)]) := ⟨idL_succ k⟩
      go_wp2_with (at_builtin; refine wpList_push TIv rfl (.tmp 29) (.tmp 31) rfl rfl (RO.out.alloc _) rfl (y := (k : Int)) (cell_newN _ _ _ _ (by simp)) (by omega) (by simp; omega) ?_; intro A4 c4 w4 o4 b4; have O4 : Shut _ := ⟨o4⟩; have X4 : Shut (Below w2.heap.size w2 w4) := ⟨(BE.out.alloc (by omega) _).trans b4⟩; clear o4 b4)
      go_roundg (n - k)
      case measure => omega
      case rel => exact ⟨k + 1, A4, c4, by omega, by omega, rfl, by go_num, ⟨by rw [ER.out]; exact O4.out⟩, X4⟩
    · obtain rfl : k = n := by omega
      have PM : Shut ((idL k).Perm (idL k)) := ⟨List.Perm.refl _⟩
      obtain ⟨wa, rfl⟩ : ∃ wa : World, wa = wr := ⟨_, rfl⟩
      clear hlt hg hk
      go_wp2_with fail
      go_loopg [9, 10, 11, 12, 13, 14, 15] (M + 1) (fun gg v9 v10 _ _ _ _ _ wr => ∃ (q : Nat) (m : Int) (o : List Int), q < gg ∧ q ≤ 126 ∧ v9 = .int .i64 m ∧ v10 = .int .i64 (q : Int) ∧ Shut (o.Perm (idL k)) ∧ Shut (rnd lv k L q o = FIN) ∧ Shut (Own wr w2.heap.size 3 .i64 A' k c' o) ∧ Shut (Below w2.heap.size w2 wr))
      case atStart => exact ⟨M, 0, idL k, by omega, by omega, rfl, rfl, PM, FI, RO, BE⟩
      case round =>
        obtain ⟨q, m, o, hg, hq, rfl, rfl, PO, RF, OO, BO⟩ := hrel
        obtain ⟨wo, rfl⟩ : ∃ wo : World, wo = wr := ⟨_, rfl⟩
        clear FI PM RO BE
        by_cases hlk : L ≤ q
        · obtain ⟨q, rfl⟩ : ∃ q', q = q' + 1 := ⟨q - 1, by omega⟩
          have RF2 : Shut (rnd lv k L q (pass lv (q + 1) k o 0) = FIN) := ⟨by rw [← rnd_step hlk]; exact RF.out⟩
          have HG : Shut (q + 1 < gk) := ⟨hg⟩
          obtain ⟨PF, hPF⟩ : ∃ PF, pass lv (q + 1) k o 0 = PF := ⟨_, rfl⟩
          rw [hPF] at RF2
          have PP : Shut (pass lv (q + 1) k o 0 = PF) := ⟨hPF⟩
          clear hPF
          have k1 : (L : Int) ≤ (q : Int) + 1 := by omega
          rw [show ((q + 1 : Nat) : Int) = (q : Int) + 1 from rfl]
          clear hg RF hlk
          go_wp2_with fail
          go_loopg [9, 11, 12, 13, 14, 15] (k + 2) (fun gg v9 v11 _ _ _ _ wr => ∃ (a : Nat) (m : Int) (o2 : List Int), k + 1 - a < gg ∧ a ≤ k + 1 ∧ v9 = .int .i64 m ∧ v11 = .int .i64 (a : Int) ∧ Shut (o2.Perm (idL k)) ∧ Shut (pass lv (q + 1) k o2 a = PF) ∧ Shut (Own wr w2.heap.size 3 .i64 A' k c' o2) ∧ Shut (Below w2.heap.size w2 wr))
          case atStart => exact ⟨0, m, o, by omega, by omega, rfl, rfl, PO, PP, OO, BO⟩
          case round =>
            obtain ⟨a, m, o2, hg, ha, rfl, rfl, P2, PS, O2, BW⟩ := hrel
            obtain ⟨wp, rfl⟩ : ∃ wp : World, wp = wr := ⟨_, rfl⟩
            clear PO PP OO BO
            by_cases haN : a < k
            · have HG2 : Shut (k + 1 - a < gk) := ⟨hg⟩
              obtain ⟨T, hT⟩ : ∃ T, runE lv o2 (q + 1) k a = T := ⟨_, rfl⟩
              have TB := runE_le lv o2 (q + 1) (Nat.le_of_lt haN)
              rw [hT] at TB
              have hT1 := TB.1
              have hT2 := TB.2
              have ST : Shut (stopAt (geK lv o2 (q + 1)) k a = T) := ⟨hT⟩
              have PT : Shut (pass lv (q + 1) k (cutRev o2 a T) (T + 1) = PF) := ⟨by rw [← hT, ← pass_step haN]; exact PS.out⟩
              have OR : Shut (IsOrd o2 k) := ⟨isOrd_of_perm P2.out⟩
              have a1 : (a : Int) < (k : Int) := by omega
              obtain ⟨g, rfl, _, _⟩ := OwnV.form O2.out (by omega)
              clear hT TB hg PS
              go_upto_block 6 with fail
              go_cut [12] (fun v wx => v = .int .i64 (T : Int) ∧ wx = wp)
              case first =>
                go_wp2_with fail
                go_loopg [12] (k - a + 1) (fun gg v wr => ∃ j : Nat, k - j < gg ∧ a ≤ j ∧ j ≤ k ∧ v = .int .i64 (j : Int) ∧ Shut (stopAt (geK lv o2 (q + 1)) k j = T) ∧ wr = wp)
                case atStart => exact ⟨a, by omega, by omega, by omega, rfl, ST, rfl⟩
                case round =>
                  obtain ⟨j, hg3, haj, hji, rfl, SJ, rfl⟩ := hrel
                  by_cases hj : j < k
                  · obtain ⟨y, hy⟩ : ∃ y : Nat, nth o2 j = (y : Int) := ⟨(nth o2 j).toNat, by have := OR.out.ge j hj; omega⟩
                    have hyi : y < k := by have := OR.out.lt j hj; omega
                    have c1 := own_cellH O2.out hj
                    rw [hy] at c1
                    obtain ⟨ad, rfl, _, hc⟩ := (HC2.out.later BW.out).2 (by omega)
                    have c2 := hc y hyi
                    rw [CA.out y hyi] at c2
                    have GE : Shut (geK lv o2 (q + 1) j = decide (q + 1 ≤ heldN (nth lv y))) := ⟨by unfold geK; rw [hy]; rfl⟩
                    generalize heldN (nth lv y) = H at *
                    have j1 : (j : Int) < (k : Int) := by omega
                    have y0 : (0 : Int) ≤ (y : Int) := by omega
                    have y1 : (y : Int) < (k : Int) := by omega
                    clear hy hc
                    by_cases hk2 : q + 1 ≤ H
                    · have SJ2 : Shut (stopAt (geK lv o2 (q + 1)) k (j + 1) = T) := ⟨by rw [← stopAt_step hj (by rw [GE.out]; simpa using hk2)]; exact SJ.out⟩
                      have k2 : (q : Int) + 1 ≤ (H : Int) := by omega
                      clear SJ GE
                      go_wp2_with fail
                      go_roundg (k - j)
                      case measure => omega
                      case rel => exact ⟨j + 1, by omega, by omega, by omega, by go_num, SJ2, rfl⟩
                    · have SJ2 : Shut (j = T) := ⟨by have := SJ.out; rwa [stopAt_stop (fun _ => by rw [GE.out]; simpa using hk2)] at this⟩
                      have k2 : decide ((q : Int) + 1 ≤ (H : Int)) = false := by simp; omega
                      have k3 : decide (q + 1 ≤ H) = false := by simp; omega
                      clear SJ GE
                      go_wp2_with fail
                      go_meet
                      exact ⟨by rw [SJ2.out], rfl⟩
                  · obtain rfl : j = k := by omega
                    have SJ2 : Shut (j = T) := ⟨by have := SJ.out; rwa [stopAt_end (Nat.le_refl _)] at this⟩
                    have j1 : decide ((j : Int) < (j : Int)) = false := by simp
                    clear hj
                    go_wp2_with fail
                    go_meet
                    exact ⟨by rw [SJ2.out], rfl⟩
              case rest =>
                obtain ⟨rfl, rfl⟩ := hcut
                have SW : Shut (swF a T o2 = cutRev o2 a T) := ⟨swF_rev hT1 (by rw [O2.out.len]; exact hT2)⟩
                have PN : Shut ((cutRev o2 a T).Perm (idL k)) := ⟨(cutRev_perm hT1).trans P2.out⟩
                generalize cutRev o2 a T = o3 at *
                have t0 : (a : Int) < (T : Int) ∨ (T : Int) ≤ (a : Int) := by omega
                rcases t0 with t1 | t1
                · go_wp2_with fail
                  go_loopg [13, 14, 15] (T + 1) (fun gg v13 v14 _ wr => ∃ (u z : Nat) (ys : List Int), z - u < gg ∧ a ≤ u ∧ u ≤ z ∧ z ≤ T ∧ v13 = .int .i64 (u : Int) ∧ v14 = .int .i64 ((z : Int) - 1) ∧ Shut (swF u z ys = o3) ∧ Shut (Own wr w2.heap.size 3 .i64 (some ⟨g, 0, none⟩) k c' ys) ∧ Shut (Below w2.heap.size w2 wr))
                  case atStart => exact ⟨a, T, o2, by omega, by omega, by omega, by omega, rfl, by go_num, SW, O2, BW⟩
                  case round =>
                    obtain ⟨u, z, ys, hg4, hau, huz, hzT, rfl, rfl, SI, OM, BM⟩ := hrel
                    by_cases hlt : u + 1 < z
                    · obtain ⟨r, rfl⟩ : ∃ r, z = r + 1 := ⟨z - 1, by omega⟩
                      rw [show ((r + 1 : Nat) : Int) - 1 = (r : Int) from by omega]
                      have c1 := own_cellH OM.out (j := u) (by omega)
                      have c2 := own_cellH OM.out (j := r) (by omega)
                      have f1 := OwnV.frozenAt OM.out u
                      have f2 := OwnV.frozenAt OM.out r
                      have SI2 : Shut (swF (u + 1) r (swp ys u r) = o3) := ⟨by
                        have := SI.out
                        rwa [swF_step (by omega), show r + 1 - 1 = r by omega] at this⟩
                      have SO : Shut (Own ((wr.setCell ⟨g, u, none⟩ (.int .i64 (nth ys r))).setCell ⟨g, r, none⟩ (.int .i64 (nth ys u))) w2.heap.size 3 .i64 (some ⟨g, 0, none⟩) k c' (swp ys u r)) := ⟨Own.set_ (Own.set_ OM.out u _) r _⟩
                      have SB : Shut (Below w2.heap.size w2 ((wr.setCell ⟨g, u, none⟩ (.int .i64 (nth ys r))).setCell ⟨g, r, none⟩ (.int .i64 (nth ys u)))) := ⟨Below.setCell (Below.setCell BM.out (p := ⟨g, u, none⟩) (OwnV.ltH OM.out).1 _) (p := ⟨g, r, none⟩) (OwnV.ltH OM.out).1 _⟩
                      have hne : u ≠ r := by omega
                      have i1 : (u : Int) < (r : Int) := by omega
                      have i2 : (u : Int) < (k : Int) := by omega
                      have i3 : (r : Int) < (k : Int) := by omega
                      clear SI
                      go_wp2_with fail
                      go_roundg (r - u)
                      case measure => omega
                      case rel => exact ⟨u + 1, r, swp ys u r, by omega, by omega, by omega, by omega, by go_num, rfl, SI2, SO, SB⟩
                    · have E : Shut (ys = o3) := ⟨by have := SI.out; rwa [swF_end (by omega)] at this⟩
                      have OE : Shut (Own wr w2.heap.size 3 .i64 (some ⟨g, 0, none⟩) k c' o3) := ⟨by rw [← E.out]; exact OM.out⟩
                      have i1 : decide ((u : Int) < (z : Int) - 1) = false := by simp; omega
                      clear SI E
                      go_wp2_with fail
                      go_roundg (k + 1 - a)
                      case measure => exact HG2.out
                      case rel => exact ⟨T + 1, _, o3, by omega, by omega, rfl, by go_num, PN, PT, OE, BM⟩
                · go_wp2_with fail
                  go_loopg [13, 14, 15] (T + 1) (fun gg v13 v14 _ wr => ∃ (u z : Nat) (ys : List Int), z - u < gg ∧ a ≤ u ∧ u ≤ z ∧ z ≤ T ∧ v13 = .int .i64 (u : Int) ∧ v14 = .int .i64 ((z : Int) - 1) ∧ Shut (swF u z ys = o3) ∧ Shut (Own wr w2.heap.size 3 .i64 (some ⟨g, 0, none⟩) k c' ys) ∧ Shut (Below w2.heap.size w2 wr))
                  case atStart => exact ⟨a, T, o2, by omega, by omega, by omega, by omega, rfl, by go_num, SW, O2, BW⟩
                  case round =>
                    obtain ⟨u, z, ys, hg4, hau, huz, hzT, rfl, rfl, SI, OM, BM⟩ := hrel
                    by_cases hlt : u + 1 < z
                    · exfalso
                      omega
                    · have E : Shut (ys = o3) := ⟨by have := SI.out; rwa [swF_end (by omega)] at this⟩
                      have OE : Shut (Own wr w2.heap.size 3 .i64 (some ⟨g, 0, none⟩) k c' o3) := ⟨by rw [← E.out]; exact OM.out⟩
                      have i1 : decide ((u : Int) < (z : Int) - 1) = false := by simp; omega
                      clear SI E
                      go_wp2_with fail
                      go_roundg (k + 1 - a)
                      case measure => exact HG2.out
                      case rel => exact ⟨T + 1, _, o3, by omega, by omega, rfl, by go_num, PN, PT, OE, BM⟩
            · have E : Shut (rnd lv k L q o2 = FIN) := ⟨by have := RF2.out; rwa [← PS.out, pass_end (by omega)] at this⟩
              have a1 : decide ((a : Int) < (k : Int)) = false := by simp; omega
              have a2 : decide (a < k) = false := by simp; omega
              clear haN RF2 PS hg
              go_wp2_with fail
              go_roundg (q + 1)
              case measure => exact HG.out
              case rel => exact ⟨q, _, o2, by omega, by omega, rfl, by go_num, P2, E, O2, BW⟩
        · have E : Shut (o = FIN) := ⟨by have := RF.out; rwa [rnd_end hlk hL] at this⟩
          have k1 : decide ((L : Int) ≤ (q : Int)) = false := by simp; omega
          have k2 : decide (L ≤ q) = false := by simp; omega
          go_wp2_with fail
          go_ret2
          exact ⟨_, _, _, rfl, by rw [← E.out]; exact Own.weakB OO.out hs2, B2.out.trans (BO.out.mono B2.out.size)⟩
end Go.Proofs.Yteedngkbcbojjaa
