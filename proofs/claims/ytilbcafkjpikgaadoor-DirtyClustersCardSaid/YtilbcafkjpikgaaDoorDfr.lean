/- Chapter 52: the window of forms, the reference's way. -/
import Derived.Test.YtilbcafkjpikgaaDoorDrs
import Derived.Test.YtilbcafkjpikgaaDoorFormsr
import Derived.Deep.RegionHeld3
import Derived.Deep.DrawnRows
namespace Go.Proofs.YtilbcafkjpikgaaDoor
open Go.ChangeShapes Go.WideShapes Go.ChangeAt Go.RowKit
set_option maxRecDepth 100000
set_option linter.unusedSimpArgs false
attribute [local go_sem ↓] Go.wp_at_zero Go.wp_at_succ

/-- the window of forms of a text under an edit that fits -/
def formsV (xs ys : List Int) (p g : Nat) : Value :=
  .agg #[.int .i64 (sgF (sameL (forms xs) (forms (behind xs ys p g))) p : Nat), .int .i64 ((xs.length - sgT (sameL (forms xs) (forms (behind xs ys p g))) xs.length p g ys.length : Nat) : Int)]
theorem below_drewX {B : Nat} {a w : World} (h : Below B a w) : Below B a w.drew := ⟨h.os, h.tape, h.output, h.size, h.block⟩
theorem store_cut {w : World} {g : Nat} {x y : Value} (a b : Int) (h : Two w g 35 x y) : (Instr.storeAt 35 (.pointer (some ⟨g, 0, none⟩)) (.agg #[.int .i64 a, .int .i64 b])).run Tryd.prog w = .ok () (w.setRow g #[.int .i64 a, .int .i64 b]) := by
  simp only [Instr.storeAt, Instr.sureAddr, Sem.run_bind, Sem.run_pure, Result.andThen_ok, run_storeVar_row w g 35 35 _ #[.int .i64 a, .int .i64 b] h cutSize52 (by rfl) (two_all52 a b)]
theorem cut_done3 {f : Func} (hr : f.results = #[.cell 4 35]) {a b x y : Value} {w w1 : World} {tmps : Array Value} (ht : tmps.getD 4 undef = .pointer (some ⟨w.heap.size + 1, 0, none⟩)) (R : Two w1 (w.heap.size + 1) 35 x y) (hb : Below w.heap.size w w1) :
    bodyPost Tryd.prog f (fun e w' => e = .returned (.agg #[a, b]) ∧ Below w.heap.size w w') .ret ⟨tmps, []⟩ (w1.setRow (w.heap.size + 1) #[a, b]) := by
  refine bodyPost_ret (v := .agg #[a, b]) (results_cell_row hr _ _ (w.heap.size + 1) 35 _ (0, 0) _ ht (setRow_heap _ _ _ _ _ _ R) Tryd.underlying35 rfl cutSize52) rfl ⟨rfl, ?_⟩
  exact below_setRow hb (by omega) _

set_option maxHeartbeats 4000000 in
theorem rformsNo_any (A : Option Addr) (n c : Nat) (p g : Int) (D : Option Addr) (m d : Nat) (st : Int) (w : World) (hn : n ≤ 1000) (hm : m ≤ 1000) (hf : fitsB n m p g = false) :
    Calls Tryd.prog 14 #[.slice A n c, .agg #[.int .i64 p, .int .i64 g, .slice D m d, .int .i64 st]] w fun e w' => e = .returned (.agg #[.int .i64 0, .int .i64 0]) ∧ Below w.heap.size w w' := by
  have F : Shut (∀ W, _) := ⟨fun W => rfits_any A n c (by omega) p g D m d st (by omega) W⟩
  rw [hf] at F
  clear hf
  go_enter Tryd.func14, Tryd.ntmps14
  go_wp2_with fail
  refine (F.out _).mono ?_
  rintro e w1 ⟨rfl, b1⟩
  have R1 : Two w1 (w.heap.size + 1) 35 (.int .i64 0) (.int .i64 0) := (Two.newN _ _ _ _ _ (by simp)).pass b1 (by simp)
  have B1 : Shut (Below w.heap.size w w1) := ⟨((below_alloc w _).alloc (by simp) _).trans (b1.mono (by simp; omega))⟩
  clear b1
  go_wp2_with (refine wpList_store_row rfl 35 (.tmp 4) (.tmp 9) rfl (w.heap.size + 1) _ rfl rfl 35 _ R1 cutSize52 (by rfl) (two_all52 _ _) ?_)
  exact cut_done3 Tryd.results14 (by rfl) R1 B1.out

set_option maxHeartbeats 8000000 in
theorem rforms_any (A : Option Addr) (n c : Nat) (xs : List Int) (p g : Nat) (D : Option Addr) (m d : Nat) (st : Int) (ys : List Int) (w : World) (hx : SliceIn .i32 w A n c xs) (hy : SliceIn .i32 w D m d ys) (hn : n ≤ 1000) (hm : m ≤ 1000) (hf : fitsB n m p g = true) :
    Calls Tryd.prog 14 #[.slice A n c, .agg #[.int .i64 (p : Int), .int .i64 (g : Int), .slice D m d, .int .i64 st]] w fun e w' => e = .returned (formsV xs ys p g) ∧ Below w.heap.size w w' := by
  have hpg : p + g ≤ n := by unfold fitsB at hf; simp at hf; omega
  have F : Shut (∀ W, _) := ⟨fun W => rfits_any A n c (by omega) (p : Int) (g : Int) D m d st (by omega) W⟩
  rw [hf] at F
  have C1 : Shut (∀ W, Below w.heap.size w W → _) := ⟨fun W hW => rForms_any A n c xs W (hx.pass hW) (by omega)⟩
  have C2 : Shut (∀ W, Below w.heap.size w W → _) := ⟨fun W hW => rbehind_any A n c xs p g hpg D m d st ys W (hx.pass hW) (hy.pass hW) (by omega)⟩
  obtain ⟨nb, hnb⟩ : ∃ nb, n - g + m = nb := ⟨_, rfl⟩
  rw [hnb] at C2
  have C3 : Shut (∀ (W : World) (A2 : Option Addr) (c2 : Nat), SliceIn .i32 W A2 nb c2 (behind xs ys p g) → _) := ⟨fun W A2 c2 hW => rForms_any A2 nb c2 (behind xs ys p g) W hW (by omega)⟩
  have FV : Shut (formsV xs ys p g = .agg #[.int .i64 (sgF (sameL (forms xs) (forms (behind xs ys p g))) p : Nat), .int .i64 ((n - sgT (sameL (forms xs) (forms (behind xs ys p g))) n p g m : Nat) : Int)]) := ⟨by unfold formsV; rw [hx.at_.len, hy.at_.len]⟩
  generalize behind xs ys p g = bs at *
  generalize forms xs = fx at *
  generalize forms bs = fy at *
  have C4 : Shut (∀ (W : World) (X : Option Addr) (cx : Nat) (Y : Option Addr) (cy : Nat), IntsAt W W.heap.size .i64 X n fx → IntsAt W W.heap.size .i64 Y nb fy → _) := ⟨fun W X cx Y cy h1 h2 => rsigns_any X n cx fx Y nb cy fy p g hpg D m d st hnb.symm W hn hm h1 h2⟩
  generalize formsV xs ys p g = V at *
  obtain ⟨v1, hv1⟩ : ∃ v1, sgF (sameL fx fy) p = v1 := ⟨_, rfl⟩
  obtain ⟨v2, hv2⟩ : ∃ v2, n - sgT (sameL fx fy) n p g m = v2 := ⟨_, rfl⟩
  rw [hv1, hv2] at FV C4
  clear hx hy hf hnb hv1 hv2
  go_enter Tryd.func14, Tryd.ntmps14
  go_wp2_with fail
  refine (F.out _).mono ?_
  rintro e w1 ⟨rfl, b1⟩
  have R1 : Shut (Two w1 (w.heap.size + 1) 35 (.int .i64 0) (.int .i64 0)) := ⟨(Two.newN _ _ _ _ _ (by simp)).pass b1 (by simp)⟩
  have Q1 : Shut (Four w1 w.heap.size 24 (.int .i64 (p : Int)) (.int .i64 (g : Int)) (.slice D m d) (.int .i64 st)) := ⟨((Four.new w _ _ _ _ _ _ rfl).alloc _).pass b1 (by simp; omega)⟩
  have B1 : Shut (Below w.heap.size w w1) := ⟨((below_alloc w _).alloc (by simp) _).trans (b1.mono (by simp; omega))⟩
  clear b1 F
  go_wp2_with fail
  go_region_held3 (fun w' => w'.cell? ⟨w.heap.size, 0, none⟩ = some (.int .i64 (p : Int)) ∧ w'.cell? ⟨w.heap.size, 1, none⟩ = some (.int .i64 (g : Int)) ∧ w'.cell? ⟨w.heap.size, 2, none⟩ = some (.slice D m d) ∧ w'.cell? ⟨w.heap.size, 3, none⟩ = some (.int .i64 st))
    (first | exact ⟨Q6.out.c0, Q6.out.c1, Q6.out.c2, Q6.out.c3⟩ | exact ⟨Q5.out.c0, Q5.out.c1, Q5.out.c2, Q5.out.c3⟩ | exact ⟨Q1.out.c0, Q1.out.c1, Q1.out.c2, Q1.out.c3⟩ | exact ⟨Q2.out.c0, Q2.out.c1, Q2.out.c2, Q2.out.c3⟩ | exact ⟨Q3.out.c0, Q3.out.c1, Q3.out.c2, Q3.out.c3⟩ | exact ⟨Q4.out.c0, Q4.out.c1, Q4.out.c2, Q4.out.c3⟩)
    (first
      | (go_at_call 25; refine (C4.out _ X2 e2 X4 e4 P4.out.ints O4.out.ints).mono ?_; rintro e w5 ⟨rfl, b5⟩; have B5 : Shut (Below w.heap.size w w5) := ⟨B4.out.trans (b5.mono B4.out.size)⟩; have R5 : Shut _ := ⟨R4.out.pass b5 R4.out.lt⟩; have Q5 : Shut _ := ⟨Q4.out.pass b5 Q4.out.lt⟩; have k0 := R5.out.c0; have k1 := R5.out.c1; have f0 := R5.out.f 0; have f1 := R5.out.f 1; have hz5 := R5.out.lt; have Q6 : Shut _ := ⟨(Q5.out.far (a := ⟨w.heap.size + 1, 0, none⟩) (by simp) (.int .i64 (v1 : Int))).far (a := ⟨w.heap.size + 1, 1, none⟩) (by simp) (.int .i64 (v2 : Int))⟩; have R6 : Shut _ := ⟨(R5.out.set0 (.int .i64 (v1 : Int))).set1 (.int .i64 (v2 : Int))⟩; have B6 : Shut _ := ⟨Below.setCell (Below.setCell B5.out (p := ⟨w.heap.size + 1, 0, none⟩) (by simp) (.int .i64 (v1 : Int))) (p := ⟨w.heap.size + 1, 1, none⟩) (by simp) (.int .i64 (v2 : Int))⟩; clear b5)
      | (go_at_call 26; refine (C3.out _ A3 c3 O3.out).mono ?_; rintro e w4 ⟨X4, e4, rfl, o4, b4⟩; have O4 : Shut _ := ⟨o4⟩; have B4 : Shut (Below w.heap.size w w4) := ⟨B3.out.trans (b4.mono B3.out.size)⟩; have R4 : Shut _ := ⟨R3.out.pass b4 R3.out.lt⟩; have Q4 : Shut _ := ⟨Q3.out.pass b4 Q3.out.lt⟩; have P4 : Shut _ := ⟨Own.pass P3.out b4⟩; clear o4 b4)
      | (go_at_call 9; refine (C2.out _ B2.out).mono ?_; rintro e w3 ⟨A3, c3, rfl, o3, b3⟩; have O3 : Shut _ := ⟨o3⟩; have B3 : Shut (Below w.heap.size w w3) := ⟨B2.out.trans (b3.mono B2.out.size)⟩; have R3 : Shut _ := ⟨R2.out.pass b3 R2.out.lt⟩; have Q3 : Shut _ := ⟨Q2.out.pass b3 Q2.out.lt⟩; have P3 : Shut _ := ⟨Own.pass O2.out b3⟩; clear o3 b3)
      | (go_at_call 26; refine (C1.out _ (below_drewX B1.out)).mono ?_; rintro e w2 ⟨X2, e2, rfl, o2, b2⟩; have O2 : Shut _ := ⟨o2⟩; have B2 : Shut (Below w.heap.size w w2) := ⟨(below_drewX B1.out).trans (b2.mono B1.out.size)⟩; have R2 : Shut _ := ⟨Two.pass (w := w1.drew) R1.out b2 R1.out.lt⟩; have Q2 : Shut _ := ⟨Four.pass (w := w1.drew) Q1.out b2 Q1.out.lt⟩; clear o2 b2))
  go_wp2_with fail
  refine bodyPost_ret (v := .agg #[.int .i64 (v1 : Int), .int .i64 (v2 : Int)]) (results_cell_row Tryd.results14 _ _ (w.heap.size + 1) 35 _ (0, 0) _ (by rfl) R6.out Tryd.underlying35 rfl cutSize52) rfl ⟨by rw [FV.out], B6.out⟩
end Go.Proofs.YtilbcafkjpikgaaDoor
