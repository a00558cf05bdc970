/- The reference's Of: what a code point is. -/
import Derived.Test.YtmbgeeiidpllcaaDoorRefp
import Derived.Deep.QuietTactic
import Derived.BigQuiet
namespace Go.Proofs.YtmbgeeiidpllcaaDoor
set_option linter.unusedSimpArgs false
open Go.ChangeShapes Go.WideShapes Go.ChangeAt Go.RowKit
set_option maxRecDepth 100000

def L0 : List (Int × Int × Pr) := fs0.flatMap tabAt
def L1 : List (Int × Int × Pr) := fs1.flatMap tabAt
theorem tab_parts : tab = L0 ++ L1 := by kernel_rfl
theorem look_le {M : Int} : ∀ (l : List (Int × Int × Pr)) (r : Int) (p : Pr), l.all (fun x => decide (x.2.1 ≤ M)) = true → look l r = some p → r ≤ M
  | [], r, p, _, h => by simp [look] at h
  | (lo, hi, q) :: l, r, p, ha, h => by
    simp only [List.all_cons, Bool.and_eq_true, decide_eq_true_eq] at ha
    simp only [look] at h
    split at h
    · omega
    · exact look_le l r p ha.2 h
theorem L0_le (r : Int) (p : Pr) (h : look L0 r = some p) : r < 44032 := by
  have := look_le (M := 44031) L0 r p (by kernel_rfl) h
  omega

/-- the struct's cells written out -/
theorem agg_cells (p : Pr) : Value.agg p.cells = .agg #[.int .i64 p.bidi, .int .i64 p.cluster, .int .i64 p.brk, .int .i64 p.script, .int .i64 p.join, .int .i64 p.word, .int .i32 p.mirror, .int .i32 p.pair, .bool p.opens] := rfl

theorem propOf0 {r : Int} {p : Pr} (h : look L0 r = some p) : propOf r = p := by
  have := L0_le r p h
  unfold propOf
  rw [tab_parts, look_append, h]
  simp only [Option.some_or]
  rw [if_neg (by omega)]
theorem propOf1 {r : Int} {p : Pr} (h0 : look L0 r = none) (h : look L1 r = some p) : propOf r = if 44032 ≤ r ∧ r ≤ 55203 ∧ (r - 44032) % 28 = 0 then { p with cluster := 12, brk := 33 } else p := by
  unfold propOf
  rw [tab_parts, look_append, h0, h]
  rfl
theorem propOf2 {r : Int} (h0 : look L0 r = none) (h : look L1 r = none) : propOf r = Pr.rest := by
  unfold propOf
  rw [tab_parts, look_append, h0, h]
  rfl

theorem part0_some (r : Int) (p : Pr) (h : look L0 r = some p) (w : World) :
    Calls Tryd.prog 84 #[.int .i32 r] w fun e w' => e = .returned (.tuple #[.agg #[.int .i64 p.bidi, .int .i64 p.cluster, .int .i64 p.brk, .int .i64 p.script, .int .i64 p.join, .int .i64 p.word, .int .i32 p.mirror, .int .i32 p.pair, .bool p.opens], .bool true]) ∧ Below w.heap.size w w' := by
  have := part0_any r w
  rw [show fs0.flatMap tabAt = L0 from rfl, h] at this
  exact this
theorem part0_none (r : Int) (h : look L0 r = none) (w : World) :
    Calls Tryd.prog 84 #[.int .i32 r] w fun e w' => e = .returned (.tuple #[.agg #[.int .i64 1, .int .i64 0, .int .i64 0, .int .i64 0, .int .i64 0, .int .i64 0, .int .i32 0, .int .i32 0, .bool false], .bool false]) ∧ Below w.heap.size w w' := by
  have := part0_any r w
  rw [show fs0.flatMap tabAt = L0 from rfl, h] at this
  exact this
theorem part1_some (r : Int) (p : Pr) (h : look L1 r = some p) (w : World) :
    Calls Tryd.prog 85 #[.int .i32 r] w fun e w' => e = .returned (.tuple #[.agg #[.int .i64 p.bidi, .int .i64 p.cluster, .int .i64 p.brk, .int .i64 p.script, .int .i64 p.join, .int .i64 p.word, .int .i32 p.mirror, .int .i32 p.pair, .bool p.opens], .bool true]) ∧ Below w.heap.size w w' := by
  have := part1_any r w
  rw [show fs1.flatMap tabAt = L1 from rfl, h] at this
  exact this
theorem part1_none (r : Int) (h : look L1 r = none) (w : World) :
    Calls Tryd.prog 85 #[.int .i32 r] w fun e w' => e = .returned (.tuple #[.agg #[.int .i64 1, .int .i64 0, .int .i64 0, .int .i64 0, .int .i64 0, .int .i64 0, .int .i32 0, .int .i32 0, .bool false], .bool false]) ∧ Below w.heap.size w w' := by
  have := part1_any r w
  rw [show fs1.flatMap tabAt = L1 from rfl, h] at this
  exact this


theorem rrest_lit (w : World) : Calls Tryd.prog 86 #[] w fun e' w' => e' = .returned (.agg #[.int .i64 1, .int .i64 0, .int .i64 0, .int .i64 0, .int .i64 0, .int .i64 0, .int .i32 0, .int .i32 0, .bool false]) ∧ Below w.heap.size w w' := rrest_any w

set_option maxHeartbeats 400000 in
theorem rOf_0 (r : Int) (p : Pr) (h : look L0 r = some p) (w : World) :
    Calls Tryd.prog 66 #[.int .i32 r] w fun e w' => e = .returned (.agg p.cells) ∧ Below w.heap.size w w' := by
  have hr := L0_le r p h
  have h1 : ¬ (44032 ≤ r) := by omega
  have P0 := Lib.hid (part0_some r p h)
  clear h
  go_enter Tryd.func66, Tryd.ntmps66
  go_wp2_with (go_at_call 84; refine (P0.out _).mono ?_; rintro e w1 ⟨rfl, hbw1⟩; obtain ⟨hcw1, hfw1⟩ := bcell hbw1; have hzw1 : w.heap.size < w1.heap.size := by { have := hbw1.size; simp only [World.size_alloc] at this; omega }; simp only [World.size_alloc] at hcw1 hfw1)
  refine bodyPost_ret (v := .agg p.cells) (by simp [results, Tryd.results66, Pr.cells, go_sem, hcw1, hzw1]) rfl ⟨rfl, ?_⟩
  (repeat (first | (with_reducible refine Below.setCell ?_ ?_ _) | (with_reducible refine Below.alloc ?_ ?_ _) | (with_reducible exact Below.refl _ _) | (with_reducible refine Below.trans ?_ (Below.mono hbw1 ?_)) | (with_reducible exact Nat.le_refl _) | omega | (simp; omega) | simp))

set_option maxHeartbeats 1000000 in
theorem rOf_1 (r : Int) (p : Pr) (h0 : look L0 r = none) (h : look L1 r = some p) (hlo : -2147483648 ≤ r) (hhi : r ≤ 2147483647) (w : World) :
    Calls Tryd.prog 66 #[.int .i32 r] w fun e w' => e = .returned (.agg (propOf r).cells) ∧ Below w.heap.size w w' := by
  have PR := Lib.hid (propOf1 h0 h)
  have P0 := Lib.hid (part0_none r h0)
  have P1 := Lib.hid (part1_some r p h)
  clear h h0
  by_cases ha : 44032 ≤ r ∧ r ≤ 55203
  · obtain ⟨ha1, ha2⟩ := ha
    by_cases hm : (r - 44032) % 28 = 0
    · have HP := Lib.hid (PR.out.trans (if_pos ⟨ha1, ha2, hm⟩))
      have hb : (((r - 44032) % 28 : Int) == 0) = true := by simp [hm]
      have HM := Lib.hid hm
      clear hm PR
      go_enter Tryd.func66, Tryd.ntmps66
      go_wp2_with (first | (go_at_call 84; refine (P0.out _).mono ?_; rintro e w1 ⟨rfl, hbw1⟩; obtain ⟨hcw1, hfw1⟩ := bcell hbw1; have hzw1 : w.heap.size < w1.heap.size := by { have := hbw1.size; simp only [World.size_alloc] at this; omega }; simp only [World.size_alloc] at hcw1 hfw1) | (go_at_call 85; refine (P1.out _).mono ?_; rintro e w2 ⟨rfl, hbw2⟩; obtain ⟨hcw2, hfw2⟩ := bcell hbw2; have hzw2 : w1.heap.size < w2.heap.size := by { have := hbw2.size; simp only [World.size_alloc] at this; omega }; have hyw2 : w.heap.size < w2.heap.size := (by omega); have hxw2 : w.heap.size < w1.heap.size + 1 := (by omega); simp only [World.size_alloc] at hcw2 hfw2))
      rw [HP.out]
      refine bodyPost_ret (v := .agg (Pr.cells { p with cluster := 12, brk := 33 })) (by simp [results, Tryd.results66, Pr.cells, go_sem, hcw1, hzw1, hcw2, hzw2, hyw2, hxw2]) rfl ⟨rfl, ?_⟩
      (repeat (first | (with_reducible refine Below.setCell ?_ ?_ _) | (with_reducible refine Below.alloc ?_ ?_ _) | (with_reducible exact Below.refl _ _) | (with_reducible refine Below.trans ?_ (Below.mono hbw2 ?_)) | (with_reducible refine Below.trans ?_ (Below.mono hbw1 ?_)) | (with_reducible exact Nat.le_refl _) | omega | (simp; omega) | simp))
    · have HP := Lib.hid (PR.out.trans (if_neg (fun hh => hm hh.2.2)))
      have hb : (((r - 44032) % 28 : Int) == 0) = false := by simp [hm]
      have HM := Lib.hid hm
      clear hm PR
      go_enter Tryd.func66, Tryd.ntmps66
      go_wp2_with (first | (go_at_call 84; refine (P0.out _).mono ?_; rintro e w1 ⟨rfl, hbw1⟩; obtain ⟨hcw1, hfw1⟩ := bcell hbw1; have hzw1 : w.heap.size < w1.heap.size := by { have := hbw1.size; simp only [World.size_alloc] at this; omega }; simp only [World.size_alloc] at hcw1 hfw1) | (go_at_call 85; refine (P1.out _).mono ?_; rintro e w2 ⟨rfl, hbw2⟩; obtain ⟨hcw2, hfw2⟩ := bcell hbw2; have hzw2 : w1.heap.size < w2.heap.size := by { have := hbw2.size; simp only [World.size_alloc] at this; omega }; have hyw2 : w.heap.size < w2.heap.size := (by omega); have hxw2 : w.heap.size < w1.heap.size + 1 := (by omega); simp only [World.size_alloc] at hcw2 hfw2))
      rw [HP.out]
      refine bodyPost_ret (v := .agg p.cells) (by simp [results, Tryd.results66, Pr.cells, go_sem, hcw1, hzw1, hcw2, hzw2, hyw2, hxw2]) rfl ⟨rfl, ?_⟩
      (repeat (first | (with_reducible refine Below.setCell ?_ ?_ _) | (with_reducible refine Below.alloc ?_ ?_ _) | (with_reducible exact Below.refl _ _) | (with_reducible refine Below.trans ?_ (Below.mono hbw2 ?_)) | (with_reducible refine Below.trans ?_ (Below.mono hbw1 ?_)) | (with_reducible exact Nat.le_refl _) | omega | (simp; omega) | simp))
  · have HP := Lib.hid (PR.out.trans (if_neg (fun hh => ha ⟨hh.1, hh.2.1⟩)))
    clear PR
    by_cases ha1 : 44032 ≤ r
    all_goals
      have ha2 : r < 44032 ∨ 55203 < r := by omega
      clear ha
      rcases ha2 with ha2 | ha2
      all_goals first
        | (exfalso; omega)
        | (go_enter Tryd.func66, Tryd.ntmps66
           go_wp2_with (first | (go_at_call 84; refine (P0.out _).mono ?_; rintro e w1 ⟨rfl, hbw1⟩; obtain ⟨hcw1, hfw1⟩ := bcell hbw1; have hzw1 : w.heap.size < w1.heap.size := by { have := hbw1.size; simp only [World.size_alloc] at this; omega }; simp only [World.size_alloc] at hcw1 hfw1) | (go_at_call 85; refine (P1.out _).mono ?_; rintro e w2 ⟨rfl, hbw2⟩; obtain ⟨hcw2, hfw2⟩ := bcell hbw2; have hzw2 : w1.heap.size < w2.heap.size := by { have := hbw2.size; simp only [World.size_alloc] at this; omega }; have hyw2 : w.heap.size < w2.heap.size := (by omega); have hxw2 : w.heap.size < w1.heap.size + 1 := (by omega); simp only [World.size_alloc] at hcw2 hfw2))
           rw [HP.out]
           refine bodyPost_ret (v := .agg p.cells) (by simp [results, Tryd.results66, Pr.cells, go_sem, hcw1, hzw1, hcw2, hzw2, hyw2, hxw2]) rfl ⟨rfl, ?_⟩
           (repeat (first | (with_reducible refine Below.setCell ?_ ?_ _) | (with_reducible refine Below.alloc ?_ ?_ _) | (with_reducible exact Below.refl _ _) | (with_reducible refine Below.trans ?_ (Below.mono hbw2 ?_)) | (with_reducible refine Below.trans ?_ (Below.mono hbw1 ?_)) | (with_reducible exact Nat.le_refl _) | omega | (simp; omega) | simp)))

set_option maxHeartbeats 1000000 in
theorem rOf_2 (r : Int) (h0 : look L0 r = none) (h : look L1 r = none) (w : World) :
    Calls Tryd.prog 66 #[.int .i32 r] w fun e w' => e = .returned (.agg (propOf r).cells) ∧ Below w.heap.size w w' := by
  rw [propOf2 h0 h]
  have P0 := Lib.hid (part0_none r h0)
  have P1 := Lib.hid (part1_none r h)
  clear h h0
  go_enter Tryd.func66, Tryd.ntmps66
  go_wp2_with (first | (go_at_call 84; refine (P0.out _).mono ?_; rintro e w1 ⟨rfl, hbw1⟩; obtain ⟨hcw1, hfw1⟩ := bcell hbw1; have hzw1 : w.heap.size < w1.heap.size := by { have := hbw1.size; simp only [World.size_alloc] at this; omega }; simp only [World.size_alloc] at hcw1 hfw1) | (go_at_call 85; refine (P1.out _).mono ?_; rintro e w2 ⟨rfl, hbw2⟩; obtain ⟨hcw2, hfw2⟩ := bcell hbw2; have hzw2 : w1.heap.size < w2.heap.size := by { have := hbw2.size; simp only [World.size_alloc] at this; omega }; have hyw2 : w.heap.size < w2.heap.size := (by omega); have hxw2 : w.heap.size < w1.heap.size + 1 := (by omega); simp only [World.size_alloc] at hcw2 hfw2) | (go_at_call 86; refine (rrest_lit _).mono ?_; rintro e w3 ⟨rfl, hbw3⟩; obtain ⟨hcw3, hfw3⟩ := bcell hbw3; have hzw3 : w2.heap.size < w3.heap.size := by { have := hbw3.size; simp only [World.size_alloc] at this; omega }; have hyw3 : w.heap.size < w3.heap.size := (by omega); have hxw3 : w.heap.size < w2.heap.size + 1 := (by omega); simp only [World.size_alloc] at hcw3 hfw3))
  refine bodyPost_ret (v := .agg (Pr.cells Pr.rest)) (by simp [results, Tryd.results66, Pr.cells, Pr.rest, go_sem, hcw1, hzw1, hcw2, hzw2, hyw2, hxw2, hcw3, hzw3, hyw3, hxw3]) rfl ⟨rfl, ?_⟩
  (repeat (first | (with_reducible refine Below.setCell ?_ ?_ _) | (with_reducible refine Below.alloc ?_ ?_ _) | (with_reducible exact Below.refl _ _) | (with_reducible refine Below.trans ?_ (Below.mono hbw3 ?_)) | (with_reducible refine Below.trans ?_ (Below.mono hbw2 ?_)) | (with_reducible refine Below.trans ?_ (Below.mono hbw1 ?_)) | (with_reducible exact Nat.le_refl _) | omega | (simp; omega) | simp))

theorem rOf_any (r : Int) (hlo : -2147483648 ≤ r) (hhi : r ≤ 2147483647) (w : World) :
    Calls Tryd.prog 66 #[.int .i32 r] w fun e w' => e = .returned (.agg (propOf r).cells) ∧ Below w.heap.size w w' := by
  cases h0 : look L0 r with
  | some p => rw [propOf0 h0]; exact rOf_0 r p h0 w
  | none =>
    cases h1 : look L1 r with
    | some p => exact rOf_1 r p h0 h1 hlo hhi w
    | none => exact rOf_2 r h0 h1 w
end Go.Proofs.YtmbgeeiidpllcaaDoor
