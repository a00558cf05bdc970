/- Chapter 17: the program's rounds: the visual order. -/
import Derived.Test.YteedngkbcbojjaaVrev
namespace Go.Proofs.Yteedngkbcbojjaa
open Go.ChangeShapes Go.WideShapes Go.ChangeAt Go.RowKit
set_option maxRecDepth 100000
set_option linter.unusedSimpArgs false

/-- the order while it is laid -/
def idP (n i : Nat) : List Int := idL i ++ List.replicate (n - i) 0
theorem idP_zero (n : Nat) : idP n 0 = List.replicate n 0 := by simp [idP, idL]
theorem idP_full (n : Nat) : idP n n = idL n := by simp [idP]
theorem idP_set {n i : Nat} (h : i < n) : (idP n i).set i (i : Int) = idP n (i + 1) := by
  obtain ⟨d, hd⟩ : ∃ d, n - i = d + 1 := ⟨n - i - 1, by omega⟩
  unfold idP
  rw [hd, show n - (i + 1) = d by omega, idL_succ, List.set_append_right _ _ (by rw [idL_len]; exact Nat.le_refl _), idL_len, Nat.sub_self]
  simp [List.replicate_succ]
theorem rnd_step {lv : List Int} {N least k : Nat} {o : List Int} (h : least ≤ k + 1) : rnd lv N least (k + 1) o = rnd lv N least k (pass lv (k + 1) N o 0) := by simp [rnd, h]
theorem rnd_end {lv : List Int} {N least k : Nat} {o : List Int} (h : ¬ least ≤ k) (h0 : 1 ≤ least) : rnd lv N least k o = o := by
  have _ := h0
  cases k with
  | zero => rfl
  | succ k => simp [rnd, h]
theorem iv {a b : Int} (h : a = b) : Value.int .i64 a = Value.int .i64 b := by rw [h]
theorem turned_any (v : Value) (w : World) : Calls Try.prog 24 #[v] w fun e w' => e = .returned (.tuple #[]) ∧ w' = w := by
  go_enter Try.func24, Try.ntmps24
  go_wp2_with fail
  go_end0
  exact ⟨rfl, rfl⟩

theorem cut_own {P : Program} {t e : TypeId} {bytes : Nat} (T : SliceOf P t e 1 bytes) (g n c a b : Nat) (hab : a < b) (hb : b ≤ n) (hc : n ≤ c) (w : World) :
    (Instr.slice t (.slice (some ⟨g, 0, none⟩) n c) (some (.int .i64 (a : Int))) (some (.int .i64 (b : Int))) none).run P w = .ok (.slice (some ⟨g, a, none⟩) (b - a) (c - a)) w := by
  rw [run_slice_lh w t _ n c (under_elem T) .i64 .i64 a b (by omega) (by omega) (by omega), sizeOf_run T]
  have h1 : ¬ c = a := by omega
  simp [Result.andThen, sliced, h1]
  unfold Addr.add
  split
  · rename_i h; subst h; rfl
  · simp

set_option maxHeartbeats 8000000 in
theorem rounds_any (A : Option Addr) (n c : Nat) (lv : List Int) (w : World) (hx : IntsAt w w.heap.size .i64 A n lv) (hn : n ≤ 4000) :
    Calls Try.prog 23 #[.slice A n c, .func (.func 24) #[] #[]] w (NewInts w 3 .i64 n (visual lv)) := by
  have HX : Shut _ := ⟨hx⟩
  have FI : Shut (rnd lv n (leastN lv n) (mostN lv n) (idL n) = visual lv) := ⟨by unfold visual; rw [hx.len]⟩
  generalize visual lv = FIN at *
  clear hx
  go_enter Try.func23, Try.ntmps23
  go_wp2_with (refine wpList_makeInts TIv zeroInt rfl (.tmp 14) (.tmp 14) rfl n rfl rfl rfl rfl (by omega) w.heap.size (Nat.le_refl _) ?_; intro g w1 o1 b1; have O1 : Shut _ := ⟨o1⟩; have B1 : Shut _ := ⟨b1⟩; clear o1 b1)
  go_loopg [6, 7, 8, 9, 18] (n + 1) (fun gg v6 v7 _ _ v18 wr => ∃ i : Nat, n - i < gg ∧ i ≤ n ∧ v6 = .int .i64 (mostN lv i : Nat) ∧ v7 = .int .i64 (leastN lv i : Nat) ∧ v18 = .int .i64 (i : Int) ∧ Shut (Own wr w.heap.size 3 .i64 (some ⟨g, 0, none⟩) n n (idP n i)) ∧ Shut (Below w.heap.size w wr))
  case atStart => exact ⟨0, by omega, by omega, rfl, rfl, rfl, ⟨by rw [idP_zero]; exact O1.out⟩, B1⟩
  case round =>
    obtain ⟨i, hg, hi, rfl, rfl, rfl, OM, BE⟩ := hrel
    clear O1 B1
    by_cases hlt : i < n
    · obtain ⟨ad, rfl, _, hc⟩ := (HX.out.later BE.out).2 (by omega)
      have c1 := hc i hlt
      obtain ⟨u, hu⟩ : ∃ u, wr.cell? ⟨g, i, none⟩ = some u := ⟨_, own_cellH OM.out hlt⟩
      have f1 := OwnV.frozenAt OM.out i
      have SO : Shut (Own (wr.setCell ⟨g, i, none⟩ (.int .i64 (i : Int))) w.heap.size 3 .i64 (some ⟨g, 0, none⟩) n n (idP n (i + 1))) := ⟨by rw [← idP_set hlt]; exact Own.set_ OM.out i _⟩
      have SE : Shut (Below w.heap.size w (wr.setCell ⟨g, i, none⟩ (.int .i64 (i : Int)))) := ⟨Below.setCell BE.out (p := ⟨g, i, none⟩) (OwnV.ltH OM.out).1 _⟩
      have i1 : (i : Int) < (n : Int) := by omega
      have hH := heldN_le (nth lv i)
      have EM : Shut (mostN lv (i + 1) = max (mostN lv i) (heldN (nth lv i))) := ⟨rfl⟩
      have EL : Shut (leastN lv (i + 1) = if heldN (nth lv i) % 2 = 1 then min (leastN lv i) (heldN (nth lv i)) else leastN lv i) := ⟨rfl⟩
      have HE : Shut (∀ W, _) := ⟨fun W => held_any (nth lv i) W⟩
      generalize mostN lv i = M at *
      generalize leastN lv i = L at *
      generalize heldN (nth lv i) = H at *
      generalize nth lv i = x at *
      clear hc
      have m0 : (M : Int) < (H : Int) ∨ (H : Int) ≤ (M : Int) := by omega
      have l0 : (H : Int) < (L : Int) ∨ (L : Int) ≤ (H : Int) := by omega
      rcases m0 with m1 | m1
      all_goals
        cases p1 : ((H : Int) % 2 == 1) with
        | false =>
          have hp : ¬ H % 2 = 1 := by
            intro h
            have h2 : ((H : Int) % 2 == 1) = true := by simp; omega
            rw [h2] at p1
            cases p1
          clear l0
          go_wp2_with (go_at_call 26; refine (HE.out _).mono ?_; rintro e w' ⟨rfl, rfl⟩)
          go_roundg (n - i)
          case measure => omega
          case rel => exact ⟨i + 1, by omega, by omega, iv (by have := EM.out; omega), iv (by have := EL.out; split at this <;> omega), by go_num, SO, SE⟩
        | true =>
          have hp : H % 2 = 1 := by have := beq_iff_eq.1 p1; omega
          rcases l0 with l1 | l1
          all_goals
            go_wp2_with (go_at_call 26; refine (HE.out _).mono ?_; rintro e w' ⟨rfl, rfl⟩)
            go_roundg (n - i)
            case measure => omega
            case rel => exact ⟨i + 1, by omega, by omega, iv (by have := EM.out; omega), iv (by have := EL.out; split at this <;> omega), by go_num, SO, SE⟩
    · obtain rfl : i = n := by omega
      have LB : Shut (1 ≤ leastN lv i ∧ leastN lv i ≤ 127) := ⟨leastN_le lv i⟩
      have MB : Shut (mostN lv i ≤ 126) := ⟨mostN_le lv i⟩
      rw [idP_full] at OM
      have PM : Shut ((idL i).Perm (idL i)) := ⟨List.Perm.refl _⟩
      generalize leastN lv i = L at *
      generalize mostN lv i = M at *
      have hL := LB.out.1
      have hL2 := LB.out.2
      have hM := MB.out
      obtain ⟨wa, rfl⟩ : ∃ wa : World, wa = wr := ⟨_, rfl⟩
      clear hlt hg hi
      go_wp2_with fail
      go_loopg [10, 11, 12] (M + 1) (fun gg v10 _ _ wr => ∃ (k : Nat) (o : List Int), k < gg ∧ k ≤ 126 ∧ v10 = .int .i64 (k : Int) ∧ Shut (o.Perm (idL i)) ∧ Shut (rnd lv i L k o = FIN) ∧ Shut (Own wr w.heap.size 3 .i64 (some ⟨g, 0, none⟩) i i o) ∧ Shut (Below w.heap.size w wr))
      case atStart => exact ⟨M, idL i, by omega, by omega, rfl, PM, FI, OM, BE⟩
      case round =>
        obtain ⟨k, o, hg, hk, rfl, PO, RF, OO, BO⟩ := hrel
        obtain ⟨wo, rfl⟩ : ∃ wo : World, wo = wr := ⟨_, rfl⟩
        clear FI PM OM BE
        by_cases hlk : L ≤ k
        · obtain ⟨q, rfl⟩ : ∃ q, k = q + 1 := ⟨k - 1, by omega⟩
          have RF2 : Shut (rnd lv i L q (pass lv (q + 1) i o 0) = FIN) := ⟨by rw [← rnd_step hlk]; exact RF.out⟩
          have HG : Shut (q + 1 < gk) := ⟨hg⟩
          obtain ⟨PF, hPF⟩ : ∃ PF, pass lv (q + 1) i o 0 = PF := ⟨_, rfl⟩
          rw [hPF] at RF2
          have PP : Shut (pass lv (q + 1) i o 0 = PF) := ⟨hPF⟩
          clear hPF
          have k1 : (L : Int) ≤ (q : Int) + 1 := by omega
          rw [show ((q + 1 : Nat) : Int) = (q : Int) + 1 from rfl]
          clear hg RF hlk
          go_wp2_with fail
          go_loopg [11, 12] (i + 1) (fun gg v11 _ wr => ∃ (a : Nat) (o2 : List Int), i - a < gg ∧ a ≤ i ∧ v11 = .int .i64 (a : Int) ∧ Shut (o2.Perm (idL i)) ∧ Shut (pass lv (q + 1) i o2 a = PF) ∧ Shut (Own wr w.heap.size 3 .i64 (some ⟨g, 0, none⟩) i i o2) ∧ Shut (Below w.heap.size w wr))
          case atStart => exact ⟨0, o, by omega, by omega, rfl, PO, PP, OO, BO⟩
          case round =>
            obtain ⟨a, o2, hg, ha, rfl, P2, PS, O2, B2⟩ := hrel
            obtain ⟨wp, rfl⟩ : ∃ wp : World, wp = wr := ⟨_, rfl⟩
            clear PO PP OO BO
            by_cases haN : a < i
            · have HG2 : Shut (i - a < gk) := ⟨hg⟩
              obtain ⟨T, hT⟩ : ∃ T, runE lv o2 (q + 1) i a = T := ⟨_, rfl⟩
              have TB := runE_le lv o2 (q + 1) ha
              rw [hT] at TB
              have hT1 := TB.1
              have hT2 := TB.2
              have ST : Shut (stopAt (geK lv o2 (q + 1)) i a = T) := ⟨hT⟩
              have PT : Shut (pass lv (q + 1) i (cutRev o2 a T) (T + 1) = PF) := ⟨by rw [← hT, ← pass_step haN]; exact PS.out⟩
              have GB : Shut (T < i → geK lv (cutRev o2 a T) (q + 1) T = false) := ⟨fun h => by have := geK_behind (lv := lv) (k := q + 1) O2.out.len ha (by rw [hT]; exact h); rwa [hT] at this⟩
              have OR : Shut (IsOrd o2 i) := ⟨isOrd_of_perm P2.out⟩
              have a1 : (a : Int) < (i : Int) := by omega
              clear hT TB hg PS
              go_upto_block 6 with fail
              go_cut [11] (fun v wx => v = .int .i64 (T : Int) ∧ wx = wp)
              case first =>
                go_wp2_with fail
                go_loopg [11] (i - a + 1) (fun gg v wr => ∃ j : Nat, i - j < gg ∧ a ≤ j ∧ j ≤ i ∧ v = .int .i64 (j : Int) ∧ Shut (stopAt (geK lv o2 (q + 1)) i j = T) ∧ wr = wp)
                case atStart => exact ⟨a, by omega, by omega, by omega, rfl, ST, rfl⟩
                case round =>
                  obtain ⟨j, hg3, haj, hji, rfl, SJ, rfl⟩ := hrel
                  by_cases hj : j < i
                  · obtain ⟨y, hy⟩ : ∃ y : Nat, nth o2 j = (y : Int) := ⟨(nth o2 j).toNat, by have := OR.out.ge j hj; omega⟩
                    have hyi : y < i := by have := OR.out.lt j hj; omega
                    have c1 := own_cellH O2.out hj
                    rw [hy] at c1
                    obtain ⟨ad, rfl, _, hc⟩ := (HX.out.later B2.out).2 (by omega)
                    have c2 := hc y hyi
                    have GE : Shut (geK lv o2 (q + 1) j = decide (q + 1 ≤ heldN (nth lv y))) := ⟨by unfold geK; rw [hy]; rfl⟩
                    have HE : Shut (∀ W, _) := ⟨fun W => held_any (nth lv y) W⟩
                    generalize heldN (nth lv y) = H at *
                    generalize nth lv y = x at *
                    have j1 : (j : Int) < (i : Int) := by omega
                    have y0 : (0 : Int) ≤ (y : Int) := by omega
                    have y1 : (y : Int) < (i : Int) := by omega
                    clear hy hc
                    by_cases hk2 : q + 1 ≤ H
                    · have SJ2 : Shut (stopAt (geK lv o2 (q + 1)) i (j + 1) = T) := ⟨by rw [← stopAt_step hj (by rw [GE.out]; simpa using hk2)]; exact SJ.out⟩
                      have k2 : (q : Int) + 1 ≤ (H : Int) := by omega
                      clear SJ GE
                      go_wp2_with (go_at_call 26; refine (HE.out _).mono ?_; rintro e w' ⟨rfl, rfl⟩)
                      go_roundg (i - j)
                      case measure => omega
                      case rel => exact ⟨j + 1, by omega, by omega, by omega, by go_num, SJ2, rfl⟩
                    · have SJ2 : Shut (j = T) := ⟨by have := SJ.out; rwa [stopAt_stop (fun _ => by rw [GE.out]; simpa using hk2)] at this⟩
                      have k2 : decide ((q : Int) + 1 ≤ (H : Int)) = false := by simp; omega
                      have k3 : decide (q + 1 ≤ H) = false := by simp; omega
                      clear SJ GE
                      go_wp2_with (go_at_call 26; refine (HE.out _).mono ?_; rintro e w' ⟨rfl, rfl⟩)
                      go_meet
                      exact ⟨by rw [SJ2.out], rfl⟩
                  · obtain rfl : j = i := by omega
                    have SJ2 : Shut (j = T) := ⟨by have := SJ.out; rwa [stopAt_end (Nat.le_refl _)] at this⟩
                    have j1 : decide ((j : Int) < (j : Int)) = false := by simp
                    clear hj
                    go_wp2_with fail
                    go_meet
                    exact ⟨by rw [SJ2.out], rfl⟩
              case rest =>
                obtain ⟨rfl, rfl⟩ := hcut
                by_cases hTa : a < T
                · have t1 : (a : Int) < (T : Int) := by omega
                  have CU := cut_own TIv g i i a T hTa hT2 (Nat.le_refl _)
                  have RV : Shut (∀ W, Own W w.heap.size 3 .i64 (some ⟨g, 0, none⟩) i i o2 → _) := ⟨fun W h => reverse_any w.heap.size g a (T - a) i i (i - a) o2 W h (by omega) hn⟩
                  rw [show a + (T - a) = T by omega] at RV
                  have PN : Shut ((cutRev o2 a T).Perm (idL i)) := ⟨(cutRev_perm hT1).trans P2.out⟩
                  have PT2 : Shut (pass lv (q + 1) i (cutRev o2 a T) T = PF) := ⟨by rw [pass_skip (by rw [cutRev_len hT1]; exact O2.out.len) GB.out]; exact PT.out⟩
                  generalize cutRev o2 a T = o3 at *
                  go_wp2_with (first
                    | (go_at_call 27; refine (RV.out _ O2.out).mono ?_; rintro e w5 ⟨rfl, o5, b5⟩; have O5 : Shut _ := ⟨o5⟩; have B5 : Shut (Below w.heap.size w w5) := ⟨B2.out.trans b5⟩; clear o5 b5 RV)
                    | (go_at_call 24; refine (turned_any _ _).mono ?_; rintro e w6 ⟨rfl, rfl⟩))
                  go_roundg (i - a)
                  case measure => exact HG2.out
                  case rel => exact ⟨T, o3, by omega, by omega, rfl, PN, PT2, O5, B5⟩
                · obtain rfl : T = a := by omega
                  have PT2 : Shut (pass lv (q + 1) i o2 (T + 1) = PF) := ⟨by have := PT.out; rwa [cutRev_none (by omega) (Nat.le_refl _) (by rw [O2.out.len]; omega)] at this⟩
                  clear hTa
                  go_wp2_with fail
                  go_roundg (i - T)
                  case measure => exact HG2.out
                  case rel => exact ⟨T + 1, o2, by omega, by omega, by go_num, P2, PT2, O2, B2⟩
            · have E : Shut (rnd lv i L q o2 = FIN) := ⟨by have := RF2.out; rwa [← PS.out, pass_end (by omega)] at this⟩
              obtain rfl : a = i := by omega
              have a1 : decide ((a : Int) < (a : Int)) = false := by simp
              clear haN RF2 PS hg
              go_wp2_with fail
              go_roundg (q + 1)
              case measure => exact HG.out
              case rel => exact ⟨q, o2, by omega, by omega, by go_num, P2, E, O2, B2⟩
        · have E : Shut (o = FIN) := ⟨by have := RF.out; rwa [rnd_end hlk hL] at this⟩
          have k1 : decide ((L : Int) ≤ (k : Int)) = false := by simp; omega
          have k2 : decide (L ≤ k) = false := by simp; omega
          go_wp2_with fail
          go_ret
          exact ⟨_, _, rfl, by rw [← E.out]; exact OO.out, BO.out⟩
end Go.Proofs.Yteedngkbcbojjaa
