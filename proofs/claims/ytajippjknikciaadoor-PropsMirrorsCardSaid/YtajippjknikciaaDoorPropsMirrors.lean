/- The walk of PropsMirrors. -/
import Derived.Test.YtajippjknikciaaDoorProps4
namespace Go.Proofs.YtajippjknikciaaDoor
open Go.ChangeShapes Go.WideShapes Go.ChangeAt Go.RowKit
set_option maxRecDepth 100000

/-- behind the first test -/
theorem two_bools {a b : Bool} (h : a ≠ b) : (a = true ∧ b = false) ∨ (a = false ∧ b = true) := by
  cases a <;> cases b <;> simp_all
theorem bel2 {w w1 w2 : World} (h1 : Below w.heap.size w w1) (h2 : Below w1.heap.size w1 w2) : Below w.heap.size w w2 := h1.trans (h2.mono h1.size)
theorem bela {w w1 : World} (h1 : Below w.heap.size w w1) (o : Obj) : Below w.heap.size w (w1.alloc o) := h1.alloc h1.size o

set_option maxHeartbeats 1000000 in
theorem PropsMirrors_walk (r : Int) (hr : (Lit.int .i32 r).wf = true) (w : World) (hl : Laid w) :
    Calls Tryd.prog 3 #[.int .i32 r] w fun e w' => e = .returned (.bool true) ∧ Below w.heap.size w w' := by
  obtain ⟨h1, h2⟩ := bounds_i32 hr
  have L0 := Lib.hid hl
  have O := Lib.hid (pOf_lit r h1 h2)
  obtain ⟨m1, m2, m3⟩ := mirror_laws r
  have HM := Lib.hid m1
  have HP0 := Lib.hid m2
  have HP := Lib.hid m3
  clear hl h1 h2 hr m1 m2 m3
  generalize propOf r = p at *
  by_cases hm : p.mirror = 0
  · have bm : ((p.mirror : Int) != 0) = false := by simp [hm]
    have Hm := Lib.hid hm
    clear hm
    by_cases hp : p.pair = 0
    · have bp : ((p.pair : Int) == 0) = true := by simp [hp]
      have bo : p.opens = false := HP0.out hp
      clear hp
      go_enter Tryd.func3, Tryd.ntmps3
      go_wp2_with fail
      refine (O.out _ L0.out).mono ?_
      rintro e w1 ⟨rfl, hb1⟩
      have L1 := Lib.hid (L0.out.pass hb1)
      go_wp2_with fail
      refine (alive4_any _ (L1.out.alloc _)).mono ?_
      rintro e w2 ⟨rfl, hb2⟩
      go_wp2_with fail
      go_ret
      exact ⟨rfl, bel2 (bela hb1 _) hb2⟩
    · have bp : ((p.pair : Int) == 0) = false := by simp [hp]
      obtain ⟨e1, e2, e3, e4⟩ := HP.out hp
      have O2 := Lib.hid (pOf_lit p.pair (by omega) (by omega))
      have b1 : (((propOf p.pair).pair : Int) == r) = true := by simp [e1]
      have b2 := two_bools e2
      clear hp e1 e2 e3 e4 HP HM HP0
      generalize propOf p.pair = q at *
      rcases b2 with ⟨o1, o2⟩ | ⟨o1, o2⟩
      all_goals
        go_enter Tryd.func3, Tryd.ntmps3
        go_wp2_with fail
        refine (O.out _ L0.out).mono ?_
        rintro e w1 ⟨rfl, hb1⟩
        have L1 := Lib.hid (L0.out.pass hb1)
        go_wp2_with fail
        refine (O2.out _ (L1.out.alloc _)).mono ?_
        rintro e w2 ⟨rfl, hb2⟩
        have L2 := Lib.hid ((L1.out.alloc _).pass hb2)
        obtain ⟨hcw2, hfw2⟩ := bcell hb2
        have hz2 : w1.heap.size < w2.heap.size := by have := hb2.size; simp only [World.size_alloc] at this; omega
        simp only [World.size_alloc] at hcw2 hfw2
        go_wp2_with fail
        refine (alive4_any _ (L2.out.alloc _)).mono ?_
        rintro e w3 ⟨rfl, hb3⟩
        go_wp2_with fail
        go_ret
        exact ⟨rfl, bel2 (bela (bel2 (bela hb1 _) hb2) _) hb3⟩
  · have bm : ((p.mirror : Int) != 0) = true := by simp [hm]
    obtain ⟨f1, f2, f3⟩ := HM.out hm
    have O3 := Lib.hid (pOf_lit p.mirror (by omega) (by omega))
    have b3 : (((propOf p.mirror).mirror : Int) != r) = false := by simp [f1]
    clear hm f1 f2 f3 HM
    generalize propOf p.mirror = m at *
    by_cases hp : p.pair = 0
    · have bp : ((p.pair : Int) == 0) = true := by simp [hp]
      have bo : p.opens = false := HP0.out hp
      clear hp HP HP0
      go_enter Tryd.func3, Tryd.ntmps3
      go_wp2_with fail
      refine (O.out _ L0.out).mono ?_
      rintro e w1 ⟨rfl, hb1⟩
      have L1 := Lib.hid (L0.out.pass hb1)
      go_wp2_with fail
      refine (O3.out _ (L1.out.alloc _)).mono ?_
      rintro e w2 ⟨rfl, hb2⟩
      have L2 := Lib.hid ((L1.out.alloc _).pass hb2)
      obtain ⟨hcw2, hfw2⟩ := bcell hb2
      have hz2 : w1.heap.size < w2.heap.size := by have := hb2.size; simp only [World.size_alloc] at this; omega
      simp only [World.size_alloc] at hcw2 hfw2
      go_wp2_with fail
      refine (alive4_any _ L2.out).mono ?_
      rintro e w3 ⟨rfl, hb3⟩
      go_wp2_with fail
      go_ret
      exact ⟨rfl, bel2 (bel2 (bela hb1 _) hb2) hb3⟩
    · have bp : ((p.pair : Int) == 0) = false := by simp [hp]
      obtain ⟨e1, e2, e3, e4⟩ := HP.out hp
      have O2 := Lib.hid (pOf_lit p.pair (by omega) (by omega))
      have b1 : (((propOf p.pair).pair : Int) == r) = true := by simp [e1]
      have b2 := two_bools e2
      clear hp e1 e2 e3 e4 HP HP0
      generalize propOf p.pair = q at *
      rcases b2 with ⟨o1, o2⟩ | ⟨o1, o2⟩
      all_goals
        go_enter Tryd.func3, Tryd.ntmps3
        go_wp2_with fail
        refine (O.out _ L0.out).mono ?_
        rintro e w1 ⟨rfl, hb1⟩
        have L1 := Lib.hid (L0.out.pass hb1)
        go_wp2_with fail
        refine (O3.out _ (L1.out.alloc _)).mono ?_
        rintro e w2 ⟨rfl, hb2⟩
        have L2 := Lib.hid ((L1.out.alloc _).pass hb2)
        obtain ⟨hcw2, hfw2⟩ := bcell hb2
        have hz2 : w1.heap.size < w2.heap.size := by have := hb2.size; simp only [World.size_alloc] at this; omega
        simp only [World.size_alloc] at hcw2 hfw2
        go_wp2_with fail
        refine (O2.out _ L2.out).mono ?_
        rintro e w3 ⟨rfl, hb3⟩
        have L3 := Lib.hid (L2.out.pass hb3)
        obtain ⟨hcw3, hfw3⟩ := bcell hb3
        have hz3 : w1.heap.size < w3.heap.size := by have := hb3.size; omega
        go_wp2_with fail
        refine (alive4_any _ (L3.out.alloc _)).mono ?_
        rintro e w4 ⟨rfl, hb4⟩
        go_wp2_with fail
        go_ret
        exact ⟨rfl, bel2 (bela (bel2 (bel2 (bela hb1 _) hb2) hb3) _) hb4⟩
end Go.Proofs.YtajippjknikciaaDoor
