/- Chapter 8: the kind of a cluster, a kind by its number, what bridges, what hangs together: the program's way. -/
import Derived.Test.YtefajgfhdnhmmaaDoorWlaw2
import Derived.Test.YtefajgfhdnhmmaaDoorOfs
import Derived.Test.YtefajgfhdnhmmaaDoorCut
import Derived.IntWalk
namespace Go.Proofs.YtefajgfhdnhmmaaDoor
open Go.ChangeShapes Go.WideShapes Go.ChangeAt Go.RowKit
set_option maxRecDepth 100000
set_option linter.unusedSimpArgs false

theorem TI32w : SliceOf Tryd.prog 22 21 1 4 := sliceOf_mk Tryd.underlying22 (z := .int .i32 0) (by kernel_rfl) rfl (by omega) (by omega)
theorem nth_cut {xs : List Int} {f t k : Nat} (h : f + k < t) : nth ((xs.take t).drop f) k = nth xs (f + k) := by
  unfold nth
  simp only [List.getD_eq_getElem?_getD, List.getElem?_drop, List.getElem?_take]
  rw [if_pos h]
theorem kind_step {ws : List Int} {f k d m q : Nat} {v : Int} (hd : m - k = d + 1) (hq : nth ws (f + k) = v) (h6 : v = 6) (h : kindF ws f m = kindF ws (f + k) (m - k)) (_hq : q = k + 1) : kindF ws f m = kindF ws (f + (k + 1)) (m - (k + 1)) := by
  rw [h, hd, kindF_yes (hq.trans h6), show m - (k + 1) = d by omega]
  rfl

set_option maxHeartbeats 2000000 in
theorem pkind_any (A : Option Addr) (n c : Nat) (xs : List Int) (f t : Nat) (hft : f ≤ t) (htn : t ≤ n) (w : World) (hx : SliceIn .i32 w A n c xs) (hl : Laid w) (hn : n ≤ 140737488355328) :
    Calls Tryd.prog 84 #[.slice A n c, .agg #[.int .i64 (f : Int), .int .i64 (t : Int)]] w fun e w' => e = .returned (.int .i64 (kindF (wds xs) f (t - f))) ∧ Below w.heap.size w w' := by
  have HL := Lib.hid hl
  have HLEN := Lib.hid hx.at_.len
  have hle := hx.le
  obtain ⟨A2, c2, CH⟩ := cut_lh TI32w A n c f t hft htn hle f t rfl rfl
  have rh := CH.run
  have SH := Lib.hid (CH.sliceIn hx)
  obtain ⟨m, hm⟩ : ∃ m, t - f = m := ⟨_, rfl⟩
  rw [hm] at rh SH ⊢
  have HMM := Lib.hid hm
  have hmn : m ≤ 140737488355328 := by omega
  clear hx hl CH hm
  go_enter Tryd.func84, Tryd.ntmps84
  go_wp2_with fail
  go_loopw [15] (fun v wr => ∃ k : Nat, k ≤ m ∧ v = .int .i64 k ∧ kindF (wds xs) f m = kindF (wds xs) (f + k) (m - k) ∧ Below w.heap.size w wr) (fun v _ => m - (intOf v).toNat)
  case atStart => exact ⟨0, Nat.zero_le _, rfl, rfl, below_alloc w _⟩
  case round =>
    obtain ⟨k, hk, rfl, hkf, hb⟩ := hrel
    have HB := Lib.hid hb
    by_cases hlt : k < m
    · obtain ⟨d, hd⟩ : ∃ d, m - k = d + 1 := ⟨m - k - 1, by omega⟩
      have HD := Lib.hid hd
      obtain ⟨ad, rfl, hab, hcx⟩ := (SH.out.at_.below hb).2 (by omega)
      have hc := hcx k hlt
      obtain ⟨h1, h2⟩ := bounds_i32 (SH.out.nth_wf hlt)
      have er : nth ((xs.take t).drop f) k = nth xs (f + k) := nth_cut (by have := HMM.out; omega)
      rw [er] at hc h1 h2
      have ew := wds_at (xs := xs) (i := f + k) (by rw [HLEN.out]; have := HMM.out; omega)
      have O := Lib.hid (pOf_lit (nth xs (f + k)) h1 h2 wr (HL.out.pass hb))
      have eb : (propOf (nth xs (f + k))).word = wdOf (nth xs (f + k)) := rfl
      rw [eb] at O
      generalize nth xs (f + k) = r at *
      generalize wdOf r = q at *
      have KF := Lib.hid hkf
      have EW := Lib.hid ew
      clear hcx h1 h2 er eb hd hb hkf ew
      by_cases h6 : q = 6
      · subst h6
        go_wp2_with fail
        refine O.out.mono ?_
        rintro e w1 ⟨rfl, hb1⟩
        have HB2 := Lib.hid (HB.out.trans (hb1.mono HB.out.size))
        clear hb1
        go_wp2_with fail
        go_roundw
        case rel => exact ⟨k + 1, by omega, by go_num, kind_step HD.out EW.out rfl KF.out rfl, HB2.out⟩
        case measure => simp [intOf] <;> omega
      · have n6 : ((q : Int) != 6) = true := by simpa using h6
        have H6 := Lib.hid h6
        clear h6
        go_wp2_with fail
        refine O.out.mono ?_
        rintro e w1 ⟨rfl, hb1⟩
        have HB2 := Lib.hid (HB.out.trans (hb1.mono HB.out.size))
        clear hb1
        go_wp2_with fail
        go_ret
        exact ⟨reti (by rw [KF.out, HD.out, kindF_no (by rw [EW.out]; exact H6.out), EW.out]), HB2.out⟩
    · obtain rfl : k = m := by omega
      rw [Nat.sub_self] at hkf
      have KF := Lib.hid hkf
      clear hkf
      go_wp2_with fail
      go_ret
      exact ⟨reti (by rw [KF.out]; rfl), HB.out⟩

theorem letters_any (k : Int) (w : World) : Calls Tryd.prog 50 #[.int .i64 k] w fun e w' => e = .returned (.bool (solB k)) ∧ w = w' := by
  go_enter Tryd.func50, Tryd.ntmps50
  go_wp2
  all_goals go_ret
  all_goals refine ⟨retb ?_, rfl⟩
  all_goals try simp only [beq_iff_eq, beq_eq_false_iff_ne] at *
  all_goals simp_all [solB]
theorem solid_any (k : Int) (w : World) : Calls Tryd.prog 52 #[.int .i64 k] w fun e w' => e = .returned (.bool (solB k)) ∧ w = w' := by
  go_enter Tryd.func52, Tryd.ntmps52
  go_wp2
  all_goals go_ret
  all_goals refine ⟨retb ?_, rfl⟩
  all_goals try simp only [beq_iff_eq, beq_eq_false_iff_ne] at *
  all_goals simp_all [solB]

theorem pat_any (Ac : Option Addr) (nc cc : Nat) (Ak : Option Addr) (nk ck : Nat) (K : List Int) (i : Int) (w : World) (hk : IntsAt w w.heap.size .i64 Ak nk K) (hn : nk ≤ 140737488355328) :
    Calls Tryd.prog 85 #[.agg #[.slice Ac nc cc, .slice Ak nk ck], .int .i64 i] w fun e w' => e = .returned (.int .i64 (kat K i)) ∧ Below w.heap.size w w' := by
  have HK := Lib.hid hk
  clear hk
  by_cases h0 : i < 0
  · rw [kat_neg h0]
    go_enter Tryd.func85, Tryd.ntmps85
    go_wp2_with fail
    go_ret
    exact ⟨rfl, below_alloc w _⟩
  · obtain ⟨k, rfl⟩ : ∃ k : Nat, i = k := ⟨i.toNat, by omega⟩
    by_cases hlt : k < nk
    · obtain ⟨ad, rfl, hab, hcx⟩ := HK.out.2 (by omega)
      have hc := cell_alloc (hcx k hlt) (.cells #[.slice Ac nc cc, .slice (some ad) nk ck] 75)
      rw [kat_in (by rw [HK.out.1]; exact hlt)]
      have l1 : ¬ ((nk : Int) ≤ (k : Int)) := by omega
      generalize nth K k = v at *
      clear hcx h0
      go_enter Tryd.func85, Tryd.ntmps85
      go_wp2_with fail
      go_ret
      exact ⟨rfl, below_alloc w _⟩
    · rw [kat_out (by rw [HK.out.1]; omega)]
      have l1 : ((nk : Int) ≤ (k : Int)) := by omega
      clear h0
      go_enter Tryd.func85, Tryd.ntmps85
      go_wp2_with fail
      go_ret
      exact ⟨rfl, below_alloc w _⟩
end Go.Proofs.YtefajgfhdnhmmaaDoor
