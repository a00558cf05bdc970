/- Chapter 36: the reference's Joins. -/
import Derived.Test.YtilbcafkjpikgaaDoorJref
namespace Go.Proofs.YtilbcafkjpikgaaDoor
open Go.ChangeShapes Go.WideShapes Go.ChangeAt Go.RowKit
set_option maxRecDepth 100000

set_option maxHeartbeats 2000000 in
theorem rJoins_any (A : Option Addr) (n c : Nat) (xs : List Int) (i : Int) (w : World) (hx : SliceIn .i32 w A n c xs) (hn : n ≤ 140737488355328) :
    Calls Tryd.prog 40 #[.slice A n c, .int .i64 i] w fun e w' => e = .returned (.tuple #[.bool (JA xs i), .bool (JB xs i)]) ∧ Below w.heap.size w w' := by
  have HLEN := Lib.hid hx.at_.len
  by_cases hi : 0 ≤ i ∧ i < n
  · obtain ⟨k, rfl⟩ : ∃ k : Nat, i = k := ⟨i.toNat, by omega⟩
    have hk : k < n := by omega
    have ea : JA xs k = jnA xs k := by unfold JA; rw [HLEN.out, if_pos hi]; rfl
    have eb : JB xs k = jnB xs k := by unfold JB; rw [HLEN.out, if_pos hi]; rfl
    rw [ea, eb]
    have HX := Lib.hid hx
    obtain ⟨h1, h2⟩ := bounds_i32 (hx.nth_wf hk)
    have O := Lib.hid (class36_any (nth xs k) h1 h2 w)
    obtain ⟨ad, rfl, hab, hcx⟩ := hx.at_.2 (by omega)
    have hc := hcx k hk
    have HCX := Lib.hid hcx
    cases ht : tr (nth xs k)
    · have hbt : ((joinOf (nth xs k) : Int) == 5) = false := by simpa [joinOf] using tr_false ht
      have BB := Lib.hid (fun w' (hb : Below w.heap.size w w') => besideB_any (some ad) n c xs k (by omega) w' (hx.pass hb) hn)
      have BF := Lib.hid (fun w' (hb : Below w.heap.size w w') => besideF_any (some ad) n c xs k (k + 1) (by omega) (by omega) w' (hx.pass hb) hn)
      have hp := prv_spec (xs := xs) k
      have hq := nxt_spec (xs := xs) (k := k + 1)
      clear ht hx ea eb hi hcx
      rcases hp with ⟨j, hp1, hp2, _, _⟩ | ⟨hp1, _⟩
      · rcases hq with ⟨m, hq1, hq2, hq3, _, _⟩ | ⟨hq1, _⟩
        · rw [jnA_some hp1, jnB_some hq1]
          rw [hp1] at BB
          rw [hq1] at BF
          have cj := HCX.out j (by omega)
          obtain ⟨j1, j2⟩ := bounds_i32 (HX.out.nth_wf (i := j) (by omega))
          have J1 := Lib.hid (join36_any (nth xs j) (nth xs k) j1 j2 h1 h2)
          have pj : (0 : Int) ≤ (j : Int) := by omega
          rw [HLEN.out] at hq3
          have cm := HCX.out m hq3
          obtain ⟨m1, m2⟩ := bounds_i32 (HX.out.nth_wf (i := m) hq3)
          have J2 := Lib.hid (join36_any (nth xs k) (nth xs m) h1 h2 m1 m2)
          have pm : (0 : Int) ≤ (m : Int) := by omega
          simp only [oI] at BB BF
          clear hp1 hq1 HX HCX HLEN
          generalize joinB (joinOf (nth xs j)) (joinOf (nth xs k)) = v1 at *
          generalize joinB (joinOf (nth xs k)) (joinOf (nth xs m)) = v2 at *
          generalize joinOf (nth xs k) = ck at *
          generalize nth xs k = rk at *
          generalize nth xs j = rj at *
          generalize nth xs m = rm at *
          go_enter Tryd.func40, Tryd.ntmps40
          go_wp2_with fail
          refine O.out.mono ?_
          rintro e w1 ⟨rfl, x1⟩
          go_wp2_with fail
          refine (BB.out _ x1).mono ?_
          rintro e w2 ⟨rfl, hb2⟩
          have x2 := x1.trans (hb2.mono x1.size)
          go_wp2_with fail
          refine (BF.out _ x2).mono ?_
          rintro e w3 ⟨rfl, hb3⟩
          have x3 := x2.trans (hb3.mono x2.size)
          go_wp2_with fail
          have ck := later_cell (cell_pass hc x3)
          replace cj := later_cell (cell_pass cj x3)
          replace cm := later_cell (cell_pass cm x3)
          have X3 := Lib.hid x3
          clear x1 x2 x3 hb2 hb3 hc BB BF O h1 h2 j1 j2 m1 m2
          refine wp_region_later (by kernel_rfl) (by kernel_rfl) ?_
          repeat (go_big_quiet_step ((first | (go_at_call 65; with_reducible exact quiet_later (J1.out _)) | (go_at_call 65; with_reducible exact quiet_later (J2.out _)))))
          refine wpQuiet_nil ?_
          intro _ hw'
          obtain ⟨nq, hw''⟩ := hw'
          subst hw''
          go_wp2_with fail
          go_ret2
          exact ⟨by simp, X3.out.trans (nq.2.mono X3.out.size)⟩
        · rw [jnA_some hp1, jnB_none hq1]
          rw [hp1] at BB
          rw [hq1] at BF
          have cj := HCX.out j (by omega)
          obtain ⟨j1, j2⟩ := bounds_i32 (HX.out.nth_wf (i := j) (by omega))
          have J1 := Lib.hid (join36_any (nth xs j) (nth xs k) j1 j2 h1 h2)
          have pj : (0 : Int) ≤ (j : Int) := by omega
          simp only [oI] at BB BF
          clear hp1 hq1 HX HCX HLEN
          generalize joinB (joinOf (nth xs j)) (joinOf (nth xs k)) = v1 at *
          generalize joinOf (nth xs k) = ck at *
          generalize nth xs k = rk at *
          generalize nth xs j = rj at *
          go_enter Tryd.func40, Tryd.ntmps40
          go_wp2_with fail
          refine O.out.mono ?_
          rintro e w1 ⟨rfl, x1⟩
          go_wp2_with fail
          refine (BB.out _ x1).mono ?_
          rintro e w2 ⟨rfl, hb2⟩
          have x2 := x1.trans (hb2.mono x1.size)
          go_wp2_with fail
          refine (BF.out _ x2).mono ?_
          rintro e w3 ⟨rfl, hb3⟩
          have x3 := x2.trans (hb3.mono x2.size)
          go_wp2_with fail
          have ck := later_cell (cell_pass hc x3)
          replace cj := later_cell (cell_pass cj x3)
          have X3 := Lib.hid x3
          clear x1 x2 x3 hb2 hb3 hc BB BF O h1 h2 j1 j2
          refine wp_region_later (by kernel_rfl) (by kernel_rfl) ?_
          repeat (go_big_quiet_step ((first | (go_at_call 65; with_reducible exact quiet_later (J1.out _)))))
          refine wpQuiet_nil ?_
          intro _ hw'
          obtain ⟨nq, hw''⟩ := hw'
          subst hw''
          go_wp2_with fail
          go_ret2
          exact ⟨by simp, X3.out.trans (nq.2.mono X3.out.size)⟩
      · rcases hq with ⟨m, hq1, hq2, hq3, _, _⟩ | ⟨hq1, _⟩
        · rw [jnA_none hp1, jnB_some hq1]
          rw [hp1] at BB
          rw [hq1] at BF
          rw [HLEN.out] at hq3
          have cm := HCX.out m hq3
          obtain ⟨m1, m2⟩ := bounds_i32 (HX.out.nth_wf (i := m) hq3)
          have J2 := Lib.hid (join36_any (nth xs k) (nth xs m) h1 h2 m1 m2)
          have pm : (0 : Int) ≤ (m : Int) := by omega
          simp only [oI] at BB BF
          clear hp1 hq1 HX HCX HLEN
          generalize joinB (joinOf (nth xs k)) (joinOf (nth xs m)) = v2 at *
          generalize joinOf (nth xs k) = ck at *
          generalize nth xs k = rk at *
          generalize nth xs m = rm at *
          go_enter Tryd.func40, Tryd.ntmps40
          go_wp2_with fail
          refine O.out.mono ?_
          rintro e w1 ⟨rfl, x1⟩
          go_wp2_with fail
          refine (BB.out _ x1).mono ?_
          rintro e w2 ⟨rfl, hb2⟩
          have x2 := x1.trans (hb2.mono x1.size)
          go_wp2_with fail
          refine (BF.out _ x2).mono ?_
          rintro e w3 ⟨rfl, hb3⟩
          have x3 := x2.trans (hb3.mono x2.size)
          go_wp2_with fail
          have ck := later_cell (cell_pass hc x3)
          replace cm := later_cell (cell_pass cm x3)
          have X3 := Lib.hid x3
          clear x1 x2 x3 hb2 hb3 hc BB BF O h1 h2 m1 m2
          refine wp_region_later (by kernel_rfl) (by kernel_rfl) ?_
          repeat (go_big_quiet_step ((first | (go_at_call 65; with_reducible exact quiet_later (J2.out _)))))
          refine wpQuiet_nil ?_
          intro _ hw'
          obtain ⟨nq, hw''⟩ := hw'
          subst hw''
          go_wp2_with fail
          go_ret2
          exact ⟨by simp, X3.out.trans (nq.2.mono X3.out.size)⟩
        · rw [jnA_none hp1, jnB_none hq1]
          rw [hp1] at BB
          rw [hq1] at BF
          simp only [oI] at BB BF
          go_enter Tryd.func40, Tryd.ntmps40
          go_wp2_with fail
          refine O.out.mono ?_
          rintro e w1 ⟨rfl, x1⟩
          go_wp2_with fail
          refine (BB.out _ x1).mono ?_
          rintro e w2 ⟨rfl, hb2⟩
          have x2 := x1.trans (hb2.mono x1.size)
          go_wp2_with fail
          refine (BF.out _ x2).mono ?_
          rintro e w3 ⟨rfl, hb3⟩
          have x3 := x2.trans (hb3.mono x2.size)
          go_wp2_with fail
          have ck := later_cell (cell_pass hc x3)
          have X3 := Lib.hid x3
          clear x1 x2 x3 hb2 hb3 hc BB BF O h1 h2
          refine wp_region_later (by kernel_rfl) (by kernel_rfl) ?_
          repeat (go_big_quiet_step ((fail)))
          refine wpQuiet_nil ?_
          intro _ hw'
          obtain ⟨nq, hw''⟩ := hw'
          subst hw''
          go_wp2_with fail
          go_ret2
          exact ⟨by simp, X3.out.trans (nq.2.mono X3.out.size)⟩
    · have hbt : ((joinOf (nth xs k) : Int) == 5) = true := by simpa [joinOf] using tr_true ht
      rw [(jn_tr ht).1, (jn_tr ht).2]
      clear ht hx ea eb hi hcx
      go_enter Tryd.func40, Tryd.ntmps40
      go_wp2_with fail
      refine O.out.mono ?_
      rintro e w1 ⟨rfl, x1⟩
      go_wp2_with fail
      go_ret2
      exact ⟨rfl, x1⟩
  · have ea : JA xs i = false := by unfold JA; rw [HLEN.out, if_neg hi]
    have eb : JB xs i = false := by unfold JB; rw [HLEN.out, if_neg hi]
    rw [ea, eb]
    have hi' : i < 0 ∨ (n : Int) ≤ i := by omega
    clear hi ea eb hx
    rcases hi' with h | h
    all_goals
      go_enter Tryd.func40, Tryd.ntmps40
      go_wp2
      go_ret2
      exact ⟨rfl, Below.refl _ _⟩
end Go.Proofs.YtilbcafkjpikgaaDoor
