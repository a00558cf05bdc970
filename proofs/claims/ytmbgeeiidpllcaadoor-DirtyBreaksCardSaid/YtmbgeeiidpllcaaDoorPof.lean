/- The program's Of: what a code point is. -/
import Derived.Test.YtmbgeeiidpllcaaDoorPfind
import Derived.Test.YtmbgeeiidpllcaaDoorRofa
import Derived.Deep.QuietTactic
import Derived.BigQuiet
namespace Go.Proofs.YtmbgeeiidpllcaaDoor
set_option linter.unusedSimpArgs false
open Go.ChangeShapes Go.WideShapes Go.ChangeAt Go.RowKit
set_option maxRecDepth 100000

theorem look_mem : ∀ (l : List (Int × Int × Pr)) (r : Int) (p : Pr), look l r = some p → ∃ lo hi, (lo, hi, p) ∈ l ∧ lo ≤ r ∧ r ≤ hi
  | [], _, _, h => by simp [look] at h
  | (a, b, q) :: l, r, p, h => by
    simp only [look] at h
    split at h
    · injection h with h
      subst h
      exact ⟨a, b, List.mem_cons_self .., by omega, by omega⟩
    · obtain ⟨lo, hi, h1, h2, h3⟩ := look_mem l r p h
      exact ⟨lo, hi, List.mem_cons_of_mem _ h1, h2, h3⟩
theorem lvt_iff {r : Int} {p : Pr} (h : look tab r = some p) : p.cluster = 13 ↔ 44032 ≤ r ∧ r ≤ 55203 := by
  obtain ⟨lo, hi, h1, h2, h3⟩ := look_mem _ _ _ h
  have hall : tab.all (fun x => decide ((x.2.2.cluster = 13 → x.1 = 44032 ∧ x.2.1 = 55203) ∧ (x.2.2.cluster ≠ 13 → x.2.1 < 44032 ∨ 55203 < x.1))) = true := by decide +kernel
  have := of_decide_eq_true (List.all_eq_true.1 hall _ h1)
  simp only at this
  by_cases hc : p.cluster = 13
  · have := this.1 hc; simp only [hc, true_iff]; omega
  · have := this.2 hc; simp only [hc, false_iff]; omega
theorem propOf_some {r : Int} {p : Pr} (h : look tab r = some p) : propOf r = if p.cluster = 13 ∧ (r - 44032) % 28 = 0 then { p with cluster := 12, brk := 33 } else p := by
  have hi := lvt_iff h
  unfold propOf
  rw [h]
  simp only
  by_cases hc : p.cluster = 13
  · have := hi.1 hc
    by_cases hm : (r - 44032) % 28 = 0
    · rw [if_pos ⟨this.1, this.2, hm⟩, if_pos ⟨hc, hm⟩]
    · rw [if_neg (fun h => hm h.2.2), if_neg (fun h => hm h.2)]
  · rw [if_neg (fun h => hc (hi.2 ⟨h.1, h.2.1⟩)), if_neg (fun h => hc h.1)]
theorem propOf_none {r : Int} (h : look tab r = none) : propOf r = Pr.rest := by unfold propOf; rw [h]

theorem prest_any (w : World) : Calls Tryd.prog 42 #[] w fun e' w' => e' = .returned (.agg #[.int .i64 1, .int .i64 0, .int .i64 0, .int .i64 0, .int .i64 0, .int .i64 0, .int .i32 0, .int .i32 0, .bool false]) ∧ Below w.heap.size w w' := by
  go_enter Tryd.func42, Tryd.ntmps42
  go_wp2
  refine bodyPost_ret (v := .agg #[.int .i64 1, .int .i64 0, .int .i64 0, .int .i64 0, .int .i64 0, .int .i64 0, .int .i32 0, .int .i32 0, .bool false]) (by simp [results, Tryd.results42, go_sem]) rfl ⟨rfl, (Below.refl _ _).alloc (Nat.le_refl _) _⟩

theorem find_some {r : Int} {p : Pr} (h : look tab r = some p) (w : World) (hl : Laid w) :
    Calls Tryd.prog 41 #[.int .i32 r] w fun e w' => ∃ f t : Int, e = .returned (.tuple #[.agg #[.int .i32 f, .int .i32 t, .int .i64 p.bidi, .int .i64 p.cluster, .int .i64 p.brk, .int .i64 p.script, .int .i64 p.join, .int .i64 p.word, .int .i32 p.mirror, .int .i32 p.pair, .bool p.opens], .bool true]) ∧ (p.cluster = 13 → f = 44032) ∧ Below w.heap.size w w' := by
  refine (find_any r w hl).mono ?_
  rintro e w' ⟨⟨f, t, q⟩, b, rfl, hi, hb⟩
  unfold FindIs at hi
  rw [h] at hi
  obtain ⟨rfl, hq, hf⟩ := hi
  simp only at hq hf
  subst hq
  exact ⟨f, t, rfl, hf, hb⟩
theorem find_none {r : Int} (h : look tab r = none) (w : World) (hl : Laid w) :
    Calls Tryd.prog 41 #[.int .i32 r] w fun e w' => ∃ (f t : Int) (p : Pr), e = .returned (.tuple #[.agg #[.int .i32 f, .int .i32 t, .int .i64 p.bidi, .int .i64 p.cluster, .int .i64 p.brk, .int .i64 p.script, .int .i64 p.join, .int .i64 p.word, .int .i32 p.mirror, .int .i32 p.pair, .bool p.opens], .bool false]) ∧ Below w.heap.size w w' := by
  refine (find_any r w hl).mono ?_
  rintro e w' ⟨⟨f, t, q⟩, b, rfl, hi, hb⟩
  unfold FindIs at hi
  rw [h] at hi
  obtain rfl := hi
  exact ⟨f, t, q, rfl, hb⟩
theorem Laid.alloc {w : World} (h : Laid w) (o : Obj) : Laid (w.alloc o) := h.below ((Below.refl w.heap.size w).alloc (Nat.le_refl _) o) h.1

set_option maxHeartbeats 1000000 in
theorem pOf_none (r : Int) (h : look tab r = none) (w : World) (hl : Laid w) :
    Calls Tryd.prog 30 #[.int .i32 r] w fun e w' => e = .returned (.agg (propOf r).cells) ∧ Below w.heap.size w w' := by
  rw [propOf_none h]
  have F := Lib.hid (find_none h)
  have HL := Lib.hid hl
  clear h hl
  go_enter Tryd.func30, Tryd.ntmps30
  go_wp2_with (first
    | (go_at_call 41; refine (F.out _ (HL.out.alloc _)).mono ?_; rintro e w1 ⟨f, t, p, rfl, hbw1⟩; obtain ⟨hcw1, hfw1⟩ := bcell hbw1; have hzw1 : w.heap.size < w1.heap.size := (by have := hbw1.size; simp only [World.size_alloc] at this; omega); simp only [World.size_alloc] at hcw1 hfw1)
    | (go_at_call 42; refine (prest_any _).mono ?_; rintro e w2 ⟨rfl, hbw2⟩; obtain ⟨hcw2, hfw2⟩ := bcell hbw2; have hzw2 : w1.heap.size < w2.heap.size := (by have := hbw2.size; simp only [World.size_alloc] at this; omega); have hyw2 : w.heap.size < w2.heap.size := (by omega); have hxw2 : w.heap.size < w1.heap.size + 1 := (by omega); simp only [World.size_alloc] at hcw2 hfw2))
  refine bodyPost_ret (v := .agg (Pr.cells Pr.rest)) (by simp [results, Tryd.results30, Pr.cells, Pr.rest, go_sem, hcw1, hzw1, hcw2, hzw2, hyw2, hxw2]) rfl ⟨rfl, ?_⟩
  (repeat (first | (with_reducible refine Below.setCell ?_ ?_ _) | (with_reducible refine Below.alloc ?_ ?_ _) | (with_reducible refine Below.drew ?_) | (with_reducible exact Below.refl _ _) | (with_reducible refine Below.trans ?_ (Below.mono hbw2 ?_)) | (with_reducible refine Below.trans ?_ (Below.mono hbw1 ?_)) | (with_reducible exact Nat.le_refl _) | omega | (simp; omega) | simp))

set_option maxHeartbeats 1000000 in
theorem pOf_some (r : Int) (p : Pr) (h : look tab r = some p) (hlo : -2147483648 ≤ r) (hhi : r ≤ 2147483647) (w : World) (hl : Laid w) :
    Calls Tryd.prog 30 #[.int .i32 r] w fun e w' => e = .returned (.agg (propOf r).cells) ∧ Below w.heap.size w w' := by
  have PR := Lib.hid (propOf_some h)
  have LV := Lib.hid (lvt_iff h)
  have F := Lib.hid (find_some h)
  have HL := Lib.hid hl
  clear h hl
  by_cases hc : p.cluster = 13
  · have hr := LV.out.1 hc
    obtain ⟨hr1, hr2⟩ := hr
    have hcb : ((p.cluster : Int) == 13) = true := by simp [hc]
    by_cases hm : (r - 44032) % 28 = 0
    · have HP := Lib.hid (PR.out.trans (if_pos ⟨hc, hm⟩))
      have hb : (((r - 44032) % 28 : Int) == 0) = true := by simp [hm]
      have HM := Lib.hid hm
      have HC := Lib.hid hc
      clear hm PR hc
      go_enter Tryd.func30, Tryd.ntmps30
      go_wp2_with (go_at_call 41; refine (F.out _ (HL.out.alloc _)).mono ?_; rintro e w1 ⟨f, t, rfl, hf13, hbw1⟩; obtain rfl := hf13 HC.out; clear hf13; obtain ⟨hcw1, hfw1⟩ := bcell hbw1; have hzw1 : w.heap.size < w1.heap.size := (by have := hbw1.size; simp only [World.size_alloc] at this; omega); simp only [World.size_alloc] at hcw1 hfw1)
      rw [HP.out]
      refine bodyPost_ret (v := .agg (Pr.cells { p with cluster := 12, brk := 33 })) (by simp [results, Tryd.results30, Pr.cells, go_sem, hcw1, hzw1]) rfl ⟨rfl, ?_⟩
      (repeat (first | (with_reducible refine Below.setCell ?_ ?_ _) | (with_reducible refine Below.alloc ?_ ?_ _) | (with_reducible refine Below.drew ?_) | (with_reducible exact Below.refl _ _) | (with_reducible refine Below.trans ?_ (Below.mono hbw1 ?_)) | (with_reducible exact Nat.le_refl _) | omega | (simp; omega) | simp))
    · have HP := Lib.hid (PR.out.trans (if_neg (fun hh => hm hh.2)))
      have hb : (((r - 44032) % 28 : Int) == 0) = false := by simp [hm]
      have HM := Lib.hid hm
      have HC := Lib.hid hc
      clear hm PR hc
      go_enter Tryd.func30, Tryd.ntmps30
      go_wp2_with (go_at_call 41; refine (F.out _ (HL.out.alloc _)).mono ?_; rintro e w1 ⟨f, t, rfl, hf13, hbw1⟩; obtain rfl := hf13 HC.out; clear hf13; obtain ⟨hcw1, hfw1⟩ := bcell hbw1; have hzw1 : w.heap.size < w1.heap.size := (by have := hbw1.size; simp only [World.size_alloc] at this; omega); simp only [World.size_alloc] at hcw1 hfw1)
      rw [HP.out]
      refine bodyPost_ret (v := .agg p.cells) (by simp [results, Tryd.results30, Pr.cells, go_sem, hcw1, hzw1]) rfl ⟨rfl, ?_⟩
      (repeat (first | (with_reducible refine Below.setCell ?_ ?_ _) | (with_reducible refine Below.alloc ?_ ?_ _) | (with_reducible refine Below.drew ?_) | (with_reducible exact Below.refl _ _) | (with_reducible refine Below.trans ?_ (Below.mono hbw1 ?_)) | (with_reducible exact Nat.le_refl _) | omega | (simp; omega) | simp))
  · have HP := Lib.hid (PR.out.trans (if_neg (fun hh => hc hh.1)))
    have hcb : ((p.cluster : Int) == 13) = false := by simp [hc]
    have HC := Lib.hid hc
    clear PR hc
    go_enter Tryd.func30, Tryd.ntmps30
    go_wp2_with (go_at_call 41; refine (F.out _ (HL.out.alloc _)).mono ?_; rintro e w1 ⟨f, t, rfl, hf13, hbw1⟩; clear hf13; obtain ⟨hcw1, hfw1⟩ := bcell hbw1; have hzw1 : w.heap.size < w1.heap.size := (by have := hbw1.size; simp only [World.size_alloc] at this; omega); simp only [World.size_alloc] at hcw1 hfw1)
    rw [HP.out]
    refine bodyPost_ret (v := .agg p.cells) (by simp [results, Tryd.results30, Pr.cells, go_sem, hcw1, hzw1]) rfl ⟨rfl, ?_⟩
    (repeat (first | (with_reducible refine Below.setCell ?_ ?_ _) | (with_reducible refine Below.alloc ?_ ?_ _) | (with_reducible refine Below.drew ?_) | (with_reducible exact Below.refl _ _) | (with_reducible refine Below.trans ?_ (Below.mono hbw1 ?_)) | (with_reducible exact Nat.le_refl _) | omega | (simp; omega) | simp))

theorem pOf_any (r : Int) (hlo : -2147483648 ≤ r) (hhi : r ≤ 2147483647) (w : World) (hl : Laid w) :
    Calls Tryd.prog 30 #[.int .i32 r] w fun e w' => e = .returned (.agg (propOf r).cells) ∧ Below w.heap.size w w' := by
  cases h : look tab r with
  | some p => exact pOf_some r p h hlo hhi w hl
  | none => exact pOf_none r h w hl
end Go.Proofs.YtmbgeeiidpllcaaDoor
