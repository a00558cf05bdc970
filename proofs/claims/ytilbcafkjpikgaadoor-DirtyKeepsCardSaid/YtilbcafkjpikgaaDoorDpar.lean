/- Chapter 52: the paragraphs of a document, both ways; the reference's answer on paragraphs. -/
import Derived.Test.YtilbcafkjpikgaaDoorDfit
namespace Go.Proofs.YtilbcafkjpikgaaDoor
open Go.ChangeShapes Go.WideShapes Go.ChangeAt Go.RowKit
set_option maxRecDepth 100000
set_option linter.unusedSimpArgs false

set_option maxHeartbeats 2000000 in
theorem pall_any (A : Option Addr) (n c : Nat) (xs : List Int) (w : World) (hx : SliceIn .i32 w A n c xs) (hl : Laid w) (hn : (n + 1) * 16 ≤ 140737488355328) :
    Calls Tryd.prog 18 #[.slice A n c] w (NewCuts w (allP xs)) := by
  have PP := Lib.hid (pParas_any A n c xs w hl hx (by omega))
  have HX := Lib.hid hx
  have HL := Lib.hid hl
  have HLEN := Lib.hid hx.at_.len
  have hpl := paras_len xs
  rw [hx.at_.len] at hpl
  clear hx hl 
  obtain ⟨m, hm⟩ : ∃ m, (paras xs).length = m := ⟨_, rfl⟩
  have HM := Lib.hid hm
  unfold NewCuts at PP
  rw [hm] at PP hpl
  clear hm
  go_enter Tryd.func18, Tryd.ntmps18
  go_wp2_with fail
  refine PP.out.mono ?_
  rintro e w1 ⟨Ab, cb, rfl, hob, hb1⟩
  have HO := Lib.hid hob
  have HB := Lib.hid hb1
  clear hob hb1 PP
  rcases Nat.eq_zero_or_pos n with h0 | h0
  · subst h0
    have E := Lib.hid (allP_yes (xs := xs) (by unfold tailE; rw [HLEN.out]; rfl))
    rw [HLEN.out] at E
    go_wp2_with (at_builtin; refine wpList_pushV TC rfl (.tmp 21) (.tmp 25) rfl rfl (HO.out.alloc _) rfl (news := [.int .i64 0, .int .i64 0]) rfl (cells_new2 _ _ _ _) (two_one _ _) (by omega) (by have := HB.out.size; simp; omega) ?_; intro A2 d2 w9 o9 b9; have hbA := HB.out.alloc (by have := HB.out.size; omega) (.cells #[.int .i64 0, .int .i64 0] 35))
    go_ret
    exact ⟨A2, d2, by rw [E.out]; simp [HM.out], by rw [E.out, cutsV_app, cutsV_one]; exact ownV_congr o9 rfl (by simp [HM.out]), hbA.trans b9⟩
  · obtain ⟨k, rfl⟩ : ∃ k, n = k + 1 := ⟨n - 1, by omega⟩
    have nz : (((k + 1 : Nat) : Int) == 0) = false := by simp; omega
    have nz2 : (((k : Int) + 1) == 0) = false := by simp; omega
    have hk : k < k + 1 := by omega
    obtain ⟨h1, h2⟩ := bounds_i32 (HX.out.nth_wf hk)
    obtain ⟨ad, rfl, hab, hcx⟩ := (HX.out.at_.later HB.out).2 (by omega)
    have hc := hcx k hk
    have O := Lib.hid (pOf_lit (nth xs k) h1 h2 w1 (HL.out.pass HB.out))
    have eb : (propOf (nth xs k)).bidi = bidiAt xs k := rfl
    rw [eb] at O
    have ts : tailE xs = (bidiAt xs k == 11) := by unfold tailE; rw [HLEN.out]; simp
    have ei : ((k + 1 : Nat) : Int) = (k : Int) + 1 := by omega
    by_cases h11 : bidiAt xs k = 11
    · have E := Lib.hid (allP_yes (xs := xs) (by rw [ts, h11]; rfl))
      rw [HLEN.out] at E
      rw [h11] at O
      clear ts h11 eb hcx h1 h2
      clear ei
      go_wp2_with fail
      refine O.out.mono ?_
      rintro e w2 ⟨rfl, hv⟩
      have HB2 := Lib.hid (HB.out.trans (hv.mono HB.out.size))
      have HO2 := Lib.hid (HO.out.pass hv)
      clear hv
      go_wp2_with (at_builtin; refine wpList_pushV TC rfl (.tmp 21) (.tmp 25) rfl rfl (HO2.out.alloc _) rfl (news := [.int .i64 ((k : Int) + 1), .int .i64 ((k : Int) + 1)]) rfl (cells_new2 _ _ _ _) (two_one _ _) (by omega) (by have := HB2.out.size; simp; omega) ?_; intro A2 d2 w9 o9 b9; have hbA := HB2.out.alloc (by have := HB2.out.size; omega) (.cells #[.int .i64 ((k : Int) + 1), .int .i64 ((k : Int) + 1)] 35))
      go_ret
      exact ⟨A2, d2, by rw [E.out]; simp [HM.out], by rw [E.out, cutsV_app, cutsV_one]; exact ownV_congr o9 (by simp) (by simp [HM.out]), hbA.trans b9⟩
    · have E := Lib.hid (allP_no (xs := xs) (by rw [ts]; simpa using h11))
      have n11 : ((bidiAt xs k : Int) == 11) = false := by simpa using h11
      clear ts h11 eb hcx h1 h2
      generalize bidiAt xs k = bq at *
      clear ei
      go_wp2_with fail
      refine O.out.mono ?_
      rintro e w2 ⟨rfl, hv⟩
      have HB2 := Lib.hid (HB.out.trans (hv.mono HB.out.size))
      have HO2 := Lib.hid (HO.out.pass hv)
      clear hv
      go_wp2_with fail
      go_ret
      exact ⟨Ab, cb, by rw [E.out, HM.out]; rfl, by rw [E.out]; exact ownV_congr HO2.out rfl HM.out.symm, HB2.out⟩

set_option maxHeartbeats 2000000 in
theorem rall_any (A : Option Addr) (n c : Nat) (xs : List Int) (w : World) (hx : SliceIn .i32 w A n c xs) (hn : (n + 1) * 16 ≤ 140737488355328) :
    Calls Tryd.prog 12 #[.slice A n c] w (NewCuts w (allP xs)) := by
  have PP := Lib.hid (rParas_any A n c xs w hx (by omega))
  have HX := Lib.hid hx
  have HLEN := Lib.hid hx.at_.len
  have hpl := paras_len xs
  rw [hx.at_.len] at hpl
  clear hx 
  obtain ⟨m, hm⟩ : ∃ m, (paras xs).length = m := ⟨_, rfl⟩
  have HM := Lib.hid hm
  unfold NewCuts at PP
  rw [hm] at PP hpl
  clear hm
  go_enter Tryd.func12, Tryd.ntmps12
  go_wp2_with fail
  refine PP.out.mono ?_
  rintro e w1 ⟨Ab, cb, rfl, hob, hb1⟩
  have HO := Lib.hid hob
  have HB := Lib.hid hb1
  clear hob hb1 PP
  rcases Nat.eq_zero_or_pos n with h0 | h0
  · subst h0
    have E := Lib.hid (allP_yes (xs := xs) (by unfold tailE; rw [HLEN.out]; rfl))
    rw [HLEN.out] at E
    go_wp2_with (at_builtin; refine wpList_pushV TC rfl (.tmp 21) (.tmp 25) rfl rfl (HO.out.alloc _) rfl (news := [.int .i64 0, .int .i64 0]) rfl (cells_new2 _ _ _ _) (two_one _ _) (by omega) (by have := HB.out.size; simp; omega) ?_; intro A2 d2 w9 o9 b9; have hbA := HB.out.alloc (by have := HB.out.size; omega) (.cells #[.int .i64 0, .int .i64 0] 35))
    go_ret
    exact ⟨A2, d2, by rw [E.out]; simp [HM.out], by rw [E.out, cutsV_app, cutsV_one]; exact ownV_congr o9 rfl (by simp [HM.out]), hbA.trans b9⟩
  · obtain ⟨k, rfl⟩ : ∃ k, n = k + 1 := ⟨n - 1, by omega⟩
    have nz : (((k + 1 : Nat) : Int) == 0) = false := by simp; omega
    have nz2 : (((k : Int) + 1) == 0) = false := by simp; omega
    have hk : k < k + 1 := by omega
    obtain ⟨h1, h2⟩ := bounds_i32 (HX.out.nth_wf hk)
    obtain ⟨ad, rfl, hab, hcx⟩ := (HX.out.at_.later HB.out).2 (by omega)
    have hc := hcx k hk
    have O := Lib.hid (rOf_lit (nth xs k) h1 h2 w1)
    have eb : (propOf (nth xs k)).bidi = bidiAt xs k := rfl
    rw [eb] at O
    have ts : tailE xs = (bidiAt xs k == 11) := by unfold tailE; rw [HLEN.out]; simp
    have ei : ((k + 1 : Nat) : Int) = (k : Int) + 1 := by omega
    by_cases h11 : bidiAt xs k = 11
    · have E := Lib.hid (allP_yes (xs := xs) (by rw [ts, h11]; rfl))
      rw [HLEN.out] at E
      rw [h11] at O
      clear ts h11 eb hcx h1 h2
      clear ei
      go_wp2_with fail
      refine O.out.mono ?_
      rintro e w2 ⟨rfl, hv⟩
      have HB2 := Lib.hid (HB.out.trans (hv.mono HB.out.size))
      have HO2 := Lib.hid (HO.out.pass hv)
      clear hv
      go_wp2_with (at_builtin; refine wpList_pushV TC rfl (.tmp 21) (.tmp 25) rfl rfl (HO2.out.alloc _) rfl (news := [.int .i64 ((k : Int) + 1), .int .i64 ((k : Int) + 1)]) rfl (cells_new2 _ _ _ _) (two_one _ _) (by omega) (by have := HB2.out.size; simp; omega) ?_; intro A2 d2 w9 o9 b9; have hbA := HB2.out.alloc (by have := HB2.out.size; omega) (.cells #[.int .i64 ((k : Int) + 1), .int .i64 ((k : Int) + 1)] 35))
      go_ret
      exact ⟨A2, d2, by rw [E.out]; simp [HM.out], by rw [E.out, cutsV_app, cutsV_one]; exact ownV_congr o9 (by simp) (by simp [HM.out]), hbA.trans b9⟩
    · have E := Lib.hid (allP_no (xs := xs) (by rw [ts]; simpa using h11))
      have n11 : ((bidiAt xs k : Int) == 11) = false := by simpa using h11
      clear ts h11 eb hcx h1 h2
      generalize bidiAt xs k = bq at *
      clear ei
      go_wp2_with fail
      refine O.out.mono ?_
      rintro e w2 ⟨rfl, hv⟩
      have HB2 := Lib.hid (HB.out.trans (hv.mono HB.out.size))
      have HO2 := Lib.hid (HO.out.pass hv)
      clear hv
      go_wp2_with fail
      go_ret
      exact ⟨Ab, cb, by rw [E.out, HM.out]; rfl, by rw [E.out]; exact ownV_congr HO2.out rfl HM.out.symm, HB2.out⟩
end Go.Proofs.YtilbcafkjpikgaaDoor
