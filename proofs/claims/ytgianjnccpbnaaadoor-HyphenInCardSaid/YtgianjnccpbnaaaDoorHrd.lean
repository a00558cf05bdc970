/- Chapter 20: the reference's Decode. -/
import Derived.Test.YtgianjnccpbnaaaDoorHrw
namespace Go.Proofs.YtgianjnccpbnaaaDoor
open Go.ChangeShapes Go.WideShapes Go.ChangeAt Go.RowKit
set_option maxRecDepth 100000
set_option linter.unusedSimpArgs false

set_option maxHeartbeats 2000000 in
theorem decode_any (A : Option Addr) (c : Nat) (s : ByteArray) (hs : s.size ≤ 1000000) (hc : s.size ≤ c) (w : World) (hx : IntsAt w w.heap.size .u8 A s.size (nums s)) :
    Calls Tryd.prog 42 #[.slice A s.size c] w (DecPost w s.size (decF s s.size 0)) := by
  have HX := Lib.hid hx
  obtain ⟨R, hR⟩ : ∃ R, decF s s.size 0 = R := ⟨_, rfl⟩
  have HR : Shut ((decF s s.size 0).map ([] ++ ·) = R) := ⟨by rw [← hR]; cases decF s s.size 0 <;> rfl⟩
  rw [hR]
  clear hx hR
  go_enter Tryd.func42, Tryd.ntmps42
  go_wp2_with fail
  go_loopg [5, 6] (s.size + 1) (fun g u v wr => ∃ (pos f : Nat) (l : List Int) (A1 : Option Addr) (c1 : Nat), s.size - pos < g ∧ pos ≤ s.size ∧ s.size ≤ pos + f ∧ u = .slice A1 l.length c1 ∧ v = .int .i64 (pos : Int) ∧ l.length ≤ pos ∧ Shut ((decF s f pos).map (l ++ ·) = R) ∧ Shut (Own wr w.heap.size 21 .i32 A1 l.length c1 l) ∧ Shut (Below w.heap.size w wr))
  case atStart => exact ⟨0, s.size, [], none, 0, by omega, by omega, by omega, rfl, rfl, by simp, HR, ⟨Own.nil _ _ _ _⟩, ⟨Below.refl _ _⟩⟩
  case round =>
    obtain ⟨pos, f, l, A1, c1, hg, hpos, hfu, rfl, rfl, hll, RES, OA, BE⟩ := hrel
    have hwz : w.heap.size ≤ wr.heap.size := BE.out.size
    by_cases hp : pos < s.size
    · have CS : Shut (∀ W, Below w.heap.size w W → Calls Tryd.prog 67 #[.slice A s.size c, .int .i64 (pos : Int)] W (StandsPost W (st s pos))) := ⟨fun W hW => stands_any A c s pos hp hs W (HX.out.later hW)⟩
      obtain ⟨f, rfl⟩ : ∃ f', f = f' + 1 := ⟨f - 1, by omega⟩
      have hstd := st_dec s pos hp
      have hn4 := st_le4 s pos
      obtain ⟨n, ok, hst⟩ : ∃ n ok, st s pos = (n, ok) := ⟨_, _, rfl⟩
      have hok : okU s pos = ok := by unfold okU; rw [hst]
      rw [hst] at CS hstd hn4
      replace hn4 : n ≤ 4 := hn4
      unfold StandsPost at CS
      cases ok with
      | false =>
        have hR : R = none := by rw [← RES.out, dec_bad hp hok]; rfl
        subst hR
        obtain ⟨ad, rfl, hab, hcx⟩ := (HX.out.later BE.out).2 (by omega)
        have hc0 := hcx pos hp
        rw [nums_at hp] at hc0
        have hb := bt_lt s pos
        have CL : Shut (∀ W, Calls Tryd.prog 68 #[.int .i64 (bt s pos : Int)] W fun e w' => e = .returned (.int .i64 (longN (bt s pos) : Nat)) ∧ W = w') := ⟨fun W => long_any _ hb W⟩
        generalize bt s pos = b0 at *
        generalize longN b0 = L at *
        clear hstd hst hok hcx RES HR
        by_cases he : pos + n = s.size
        · have h1 : ((pos : Int) + (n : Int) == (s.size : Int)) = true := by simp; omega
          by_cases hl : n < L
          · clear he
            go_wp2_with fail
            refine (CS.out _ BE.out).mono ?_
            rintro e w2 ⟨rfl, rfl⟩
            go_wp2_with fail
            refine (CL.out _).mono ?_
            rintro e w2 ⟨rfl, rfl⟩
            go_wp2_with fail
            go_ret3
            exact ⟨pos, 4, by omega, rfl, BE.out⟩
          · clear he
            go_wp2_with fail
            refine (CS.out _ BE.out).mono ?_
            rintro e w2 ⟨rfl, rfl⟩
            go_wp2_with fail
            refine (CL.out _).mono ?_
            rintro e w2 ⟨rfl, rfl⟩
            go_wp2_with fail
            go_ret3
            exact ⟨pos, 3, by omega, rfl, BE.out⟩
        · have h1 : ((pos : Int) + (n : Int) == (s.size : Int)) = false := by simp; omega
          clear he
          go_wp2_with fail
          refine (CS.out _ BE.out).mono ?_
          rintro e w2 ⟨rfl, rfl⟩
          go_wp2_with fail
          go_ret3
          exact ⟨pos, 3, by omega, rfl, BE.out⟩
      | true =>
        obtain ⟨_, hd2⟩ := hstd
        obtain ⟨h3, _, h4, _, h5⟩ := hd2 rfl
        have hw : wd s pos = n := h3
        obtain ⟨hn1, hn2, _⟩ := ok_width hp hok
        rw [hw] at hn1 hn2
        have hrv := rv_st s pos hp (by rw [hst])
        rw [hst] at hrv
        have hru : rvx (((nums s).take (pos + n)).drop pos) n (n - 1) = ru s pos := by
          rw [rvx_rv s pos n hn2 (n - 1) (by omega)]
          exact hrv.symm
        have hdg := dec_go (f := f) hp hok
        rw [hw] at hdg
        have RES : Shut ((decF s f (pos + n)).map (fun t => (l ++ [ru s pos]) ++ t) = R) := ⟨by
          rw [← RES.out, hdg]
          cases decF s f (pos + n) with
          | none => rfl
          | some t => simp⟩
        obtain ⟨A2, c2, CR⟩ := cut_lh TU8h A s.size c pos (pos + n) (by omega) hn2 hc (pos : Int) ((pos : Int) + (n : Int)) rfl (by omega)
        have hrun := CR.run
        rw [show pos + n - pos = n by omega] at CR hrun
        have C1 : Shut (∀ W, Below w.heap.size w W → Calls Tryd.prog 69 #[.slice A2 n c2] W fun e w' => e = .returned (.int .i32 (ru s pos)) ∧ W = w') := ⟨fun W hW => by
          have := rune1_any A2 n c2 (((nums s).take (pos + n)).drop pos) hn1 hn4 W (CR.at_ (HX.out.later hW)) (fun j => by
            rcases Nat.lt_or_ge j n with hj | hj
            · rw [cut_nth hj, nums_at (by omega)]
              have := bt_lt s (pos + j)
              omega
            · rw [cut_out hj]; omega)
          rw [hru] at this
          exact this⟩
        obtain ⟨r, hr⟩ : ∃ r, ru s pos = r := ⟨_, rfl⟩
        rw [hr] at C1 RES
        obtain ⟨m, hm⟩ : ∃ m, l.length = m := ⟨_, rfl⟩
        rw [hm] at OA hll ⊢
        have HM : Shut (l.length = m) := ⟨hm⟩
        clear hd2 h3 h4 h5 hw hrv hru hdg hr hst hok CR hm
        go_wp2_with fail
        refine (CS.out _ BE.out).mono ?_
        rintro e w2 ⟨rfl, rfl⟩
        go_wp2_with fail
        refine (C1.out _ BE.out).mono ?_
        rintro e w2 ⟨rfl, rfl⟩
        go_wp2_with (at_builtin; refine wpList_push TI32r rfl (.tmp 39) (.tmp 47) rfl rfl (Own.alloc OA.out _) rfl (cell_new _ _ _) (by omega) (by simp; omega) ?_; intro A4 c4 w4 o4 b4; have OA4 : Shut _ := ⟨o4⟩; have B4 : Shut _ := ⟨b4⟩; clear o4 b4)
        go_roundg (s.size - pos)
        case measure => omega
        case rel =>
          have e1 : (l ++ [r]).length = m + 1 := by simp [HM.out]
          exact ⟨pos + n, f, l ++ [r], A4, c4, by omega, by omega, by omega, by rw [e1], by go_num, by rw [e1]; omega, RES, ⟨by rw [e1]; exact OA4.out⟩, ⟨(BE.out.alloc hwz _).trans B4.out⟩⟩
    · have hR : R = some l := by rw [← RES.out, dec_end hp]; simp
      subst hR
      go_wp2_with fail
      go_ret3
      exact ⟨A1, c1, rfl, OA.out, BE.out⟩
end Go.Proofs.YtgianjnccpbnaaaDoor
