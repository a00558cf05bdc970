/- Chapter 52: the law DirtyClusters: the two windows of clusters agree. -/
import Derived.Test.YtilbcafkjpikgaaDoorDcq
import Derived.Test.YtilbcafkjpikgaaDoorDcs
import Derived.Test.YtilbcafkjpikgaaDoorDfit
import Derived.BigQuiet
namespace Go.Proofs.YtilbcafkjpikgaaDoor
open Go.ChangeShapes Go.WideShapes Go.ChangeAt Go.RowKit
set_option maxRecDepth 100000
set_option linter.unusedSimpArgs false

set_option maxHeartbeats 8000000 in
theorem DirtyClusters_walk (A : Option Addr) (n c : Nat) (xs : List Int) (p : Int) (_ : (Lit.int .i64 p).wf = true) (g : Int) (_ : (Lit.int .i64 g).wf = true) (D : Option Addr) (m d : Nat) (ys : List Int) (st : Int) (_ : (Lit.int .i64 st).wf = true) (w : World)
    (hx : SliceIn .i32 w A n c xs) (hy : SliceIn .i32 w D m d ys) (hl : Laid w) :
    Calls Tryd.prog 6 #[.slice A n c, .agg #[.int .i64 p, .int .i64 g, .slice D m d, .int .i64 st]] w fun e w' => e = .returned (.bool true) ∧ Below w.heap.size w w' := by
  have LG : Shut (∀ W, _) := ⟨fun W => long52_any A n c p g D m d st W⟩
  cases hlong : (decide (40 < n) || decide (20 < m)) with
  | true =>
    rw [hlong] at LG
    clear hlong hx hy hl
    go_enter Tryd.func6, Tryd.ntmps6
    go_wp2_with fail
    refine (LG.out _).mono ?_
    rintro e w1 ⟨rfl, b1⟩
    go_wp2_with fail
    go_ret
    exact ⟨rfl, (below_alloc w _).trans (b1.mono (by simp))⟩
  | false =>
    rw [hlong] at LG
    simp only [Bool.or_eq_false_iff, decide_eq_false_iff_not] at hlong
    have hn : n ≤ 1000 := by omega
    have hm : m ≤ 1000 := by omega
    obtain ⟨v1, v2, P, R⟩ : ∃ (v1 v2 : Int), Shut (∀ W, Below w.heap.size w W → Calls Tryd.prog 15 #[.slice A n c, .agg #[.int .i64 p, .int .i64 g, .slice D m d, .int .i64 st]] W fun e w' => e = .returned (.agg #[.int .i64 v1, .int .i64 v2]) ∧ Below W.heap.size W w') ∧
        Shut (∀ W, Below w.heap.size w W → Calls Tryd.prog 16 #[.slice A n c, .agg #[.int .i64 p, .int .i64 g, .slice D m d, .int .i64 st]] W fun e w' => e = .returned (.agg #[.int .i64 v1, .int .i64 v2]) ∧ Below W.heap.size W w') := by
      cases hf : fitsB n m p g with
      | false => exact ⟨0, 0, ⟨fun W _ => pclustersNo_any A n c p g D m d st W hn hm hf⟩, ⟨fun W _ => rclustersNo_any A n c p g D m d st W hn hm hf⟩⟩
      | true =>
        have h0 : 0 ≤ p ∧ 0 ≤ g := by unfold fitsB at hf; simp at hf; omega
        obtain ⟨p, rfl⟩ := Int.eq_ofNat_of_zero_le h0.1
        obtain ⟨g, rfl⟩ := Int.eq_ofNat_of_zero_le h0.2
        obtain ⟨v1, v2, hv⟩ : ∃ v1 v2 : Int, clustersV xs ys p g = .agg #[.int .i64 v1, .int .i64 v2] := ⟨_, _, rfl⟩
        exact ⟨v1, v2, ⟨fun W hW => by rw [← hv]; exact pclusters_any A n c xs p g D m d st ys W (hx.pass hW) (hy.pass hW) (hl.pass hW) hn hm hf⟩, ⟨fun W hW => by rw [← hv]; exact rclusters_any A n c xs p g D m d st ys W (hx.pass hW) (hy.pass hW) hn hm hf⟩⟩
    clear hlong hx hy hl hn hm
    go_enter Tryd.func6, Tryd.ntmps6
    go_wp2_with fail
    refine (LG.out _).mono ?_
    rintro e w1 ⟨rfl, b1⟩
    have Q1 := (Four.new w 24 (.int .i64 p) (.int .i64 g) (.slice D m d) (.int .i64 st) _ rfl).pass b1 (by simp)
    have B1 : Shut (Below w.heap.size w w1) := ⟨(below_alloc w _).trans (b1.mono (by simp))⟩
    have d0 := later_cell Q1.c0
    have d1 := later_cell Q1.c1
    have d2 := later_cell Q1.c2
    have d3 := later_cell Q1.c3
    have P1 := Lib.hid (fun N : Later w1 => P.out N.1 (B1.out.trans (N.2.mono B1.out.size)))
    have P2 := Lib.hid (fun N : Later w1 => R.out N.1 (B1.out.trans (N.2.mono B1.out.size)))
    clear b1 Q1 P R LG
    go_wp2_with fail
    refine wp_region_later (by kernel_rfl) (by kernel_rfl) ?_
    repeat (go_big_quiet_step ((first | (go_at_call 15; with_reducible exact quiet_later (P1.out _)) | (go_at_call 16; with_reducible exact quiet_later (P2.out _)))))
    refine wpQuiet_nil ?_
    intro _ hw'
    obtain ⟨nq, hw''⟩ := hw'
    subst hw''
    go_wp2_with fail
    go_ret
    exact ⟨retb (by simp), B1.out.trans (nq.2.mono B1.out.size)⟩
end Go.Proofs.YtilbcafkjpikgaaDoor
