/- Chapter 45: the walk of the law LinePuts: both ways put boxes alike, order them alike, and tell alike how far they reach. -/
import Derived.Test.YteedngkbcbojjaaBq
import Derived.Test.YteedngkbcbojjaaBi
import Derived.Test.YteedngkbcbojjaaBa
namespace Go.Proofs.Yteedngkbcbojjaa
open Go.ChangeShapes Go.WideShapes Go.ChangeAt Go.RowKit
set_option maxRecDepth 100000
set_option linter.unusedSimpArgs false
set_option linter.unusedVariables false

theorem ok_all {bs : List BoxD} {n : Nat} (hn : bs.length = n) (h : ∀ j, j < n → OkB (bnth bs j)) : WdIn bs ∧ (∀ j, GxIn (bnth bs j).gs) ∧ ∀ j, (bnth bs j).gs.length ≤ 1000 := by
  have d : ∀ j, ¬ j < n → bnth bs j = default := by
    intro j hj
    unfold bnth
    rw [List.getD_eq_getElem?_getD, List.getElem?_eq_none (by omega)]
    rfl
  have p : ∀ (gs : List PutD) k, ¬ k < gs.length → pnth gs k = default := by
    intro gs k hk
    unfold pnth
    rw [List.getD_eq_getElem?_getD, List.getElem?_eq_none (by omega)]
    rfl
  refine ⟨fun j => ?_, fun j => ?_, fun j => ?_⟩
  · by_cases hj : j < n
    · exact (h j hj).2.1
    · rw [d j hj]; exact ⟨by decide, by decide⟩
  · by_cases hj : j < n
    · refine ⟨(h j hj).2.2.1, fun k => ?_⟩
      by_cases hk : k < (bnth bs j).gs.length
      · exact (h j hj).2.2.2 k hk
      · rw [p _ k hk]; exact ⟨by decide, by decide⟩
    · rw [d j hj]
      exact ⟨by decide, fun k => ⟨by show (-1073741824 : Int) ≤ (pnth [] k).x; rw [p _ k (by simp)]; decide, by show (pnth [] k).x ≤ (1073741824 : Int); rw [p _ k (by simp)]; decide⟩⟩
  · by_cases hj : j < n
    · have := (h j hj).2.2.1
      omega
    · rw [d j hj]; decide
set_option maxHeartbeats 4000000 in
theorem LinePuts_walk (A : Option Addr) (n c : Nat) (bs : List BoxD) (tail : Int) (_ : (Lit.int .i64 tail).wf = true) (base : Int) (_ : (Lit.int .i64 base).wf = true) (x : Int) (_ : (Lit.int .i64 x).wf = true) (w : World) (hx : BoxesAt w w.heap.size A n bs) (hc : n ≤ c) :
    Calls Try.prog 3 #[.slice A n c, .int .i64 tail, .int .i64 base, .int .i64 x] w fun e w' => e = .returned (.bool true) ∧ Below w.heap.size w w' := by
  by_cases hn40 : 40 < n
  · have h1 : (40 : Int) < (n : Int) := by omega
    clear hx hc
    go_enter Try.func3, Try.ntmps3
    go_wp2_with fail
    refine (alive_any _).mono ?_
    rintro e wA ⟨rfl, bA⟩
    go_wp2_with fail
    go_ret
    exact ⟨rfl, bA⟩
  have hn : n ≤ 40 := by omega
  have MD : Shut _ := ⟨modest_any A n c bs w hx hn⟩
  have HX : Shut _ := ⟨hx⟩
  have i1 : decide ((40 : Int) < (n : Int)) = false := by simp; omega
  have i1b : decide (40 < n) = false := by simp; omega
  clear hx hn40
  go_enter Try.func3, Try.ntmps3
  go_wp2_with fail
  refine MD.out.mono ?_
  rintro e w1 ⟨r, rfl, hr, b1⟩
  have HR : Shut _ := ⟨hr⟩
  have B1 : Shut (Below w.heap.size w w1) := ⟨b1⟩
  clear MD hr b1
  cases r with
  | false =>
    clear HR
    go_wp2_with fail
    refine (alive_any _).mono ?_
    rintro e wA ⟨rfl, bA⟩
    go_wp2_with fail
    go_ret
    exact ⟨rfl, B1.out.trans (bA.mono B1.out.size)⟩
  | true =>
    have hok := HR.out rfl
    clear HR
    by_cases t1 : tail < 0
    · clear hok
      go_wp2_with fail
      refine (alive_any _).mono ?_
      rintro e wA ⟨rfl, bA⟩
      go_wp2_with fail
      go_ret
      exact ⟨rfl, B1.out.trans (bA.mono B1.out.size)⟩
    obtain ⟨tail, rfl⟩ := Int.eq_ofNat_of_zero_le (show 0 ≤ tail by omega)
    have i2 : decide ((tail : Int) < 0) = false := by rw [decide_eq_false_iff_not]; omega
    by_cases t2 : (n : Int) < (tail : Int)
    · clear hok t1
      go_wp2_with fail
      refine (alive_any _).mono ?_
      rintro e wA ⟨rfl, bA⟩
      go_wp2_with fail
      go_ret
      exact ⟨rfl, B1.out.trans (bA.mono B1.out.size)⟩
    have ht : tail ≤ n := by omega
    have i3 : decide ((n : Int) < (tail : Int)) = false := by rw [decide_eq_false_iff_not]; omega
    have i3b : decide (n < tail) = false := by rw [decide_eq_false_iff_not]; omega
    by_cases t3 : 1073741824 < x
    · clear hok t1 t2
      go_wp2_with fail
      refine (alive_any _).mono ?_
      rintro e wA ⟨rfl, bA⟩
      go_wp2_with fail
      go_ret
      exact ⟨rfl, B1.out.trans (bA.mono B1.out.size)⟩
    have hx2 : x ≤ 1073741824 := by omega
    have i4 : decide (1073741824 < x) = false := by rw [decide_eq_false_iff_not]; omega
    by_cases t4 : x < -1073741824
    · clear hok t1 t2 t3
      go_wp2_with fail
      refine (alive_any _).mono ?_
      rintro e wA ⟨rfl, bA⟩
      go_wp2_with fail
      go_ret
      exact ⟨rfl, B1.out.trans (bA.mono B1.out.size)⟩
    have hx1 : -1073741824 ≤ x := by omega
    have i5 : decide (x < -1073741824) = false := by rw [decide_eq_false_iff_not]; omega
    clear t1 t2 t3 t4
    obtain ⟨hw, hg, hg2⟩ := ok_all HX.out.1 hok
    have P1 : Shut _ := ⟨put_any A n c bs tail base x w1 (HX.out.later B1.out) hn ht hc hw hg hx1 hx2⟩
    have P2 : Shut (∀ W, Below w.heap.size w W → _) := ⟨fun W hW => rput_any A n c bs tail base x W (HX.out.later hW) hn ht hc hw hg hx1 hx2⟩
    have O1 : Shut (∀ W, Below w.heap.size w W → _) := ⟨fun W hW => order_any A n c bs W (HX.out.later hW) (by omega)⟩
    have O2 : Shut (∀ W, Below w.heap.size w W → _) := ⟨fun W hW => rorder_any A n c bs W (HX.out.later hW) (by omega)⟩
    have I1 : Shut (∀ W, Below w.heap.size w W → _) := ⟨fun W hW => ink_any A n c bs W (HX.out.later hW) hn hok⟩
    have I2 : Shut (∀ W, Below w.heap.size w W → _) := ⟨fun W hW => rink_any A n c bs W (HX.out.later hW) hn hok⟩
    have GS : Shut (∀ j, (bnth (putL bs (ordB bs) (shiftP bs (ordB bs) tail (oddB base) x) n) j).gs.length ≤ 1000) := ⟨fun j => by
      by_cases hj : j < n
      · have : bnth (putL bs (ordB bs) (shiftP bs (ordB bs) tail (oddB base) x) n) j = putB (bnth bs (ordN (ordB bs) j)) (shiftP bs (ordB bs) tail (oddB base) x + preS bs (ordB bs) j) := by
          rw [bnth_eq (by rw [putL_len]; exact hj)]
          simp [putL]
        rw [this]
        simpa [putB] using hg2 (ordN (ordB bs) j)
      · have : bnth (putL bs (ordB bs) (shiftP bs (ordB bs) tail (oddB base) x) n) j = default := by
          unfold bnth
          rw [List.getD_eq_getElem?_getD, List.getElem?_eq_none (by rw [putL_len]; omega)]
          rfl
        rw [this]
        decide⟩
    have PL : Shut ((putL bs (ordB bs) (shiftP bs (ordB bs) tail (oddB base) x) n).length = n) := ⟨putL_len _ _ _ _⟩
    generalize putL bs (ordB bs) (shiftP bs (ordB bs) tail (oddB base) x) n = L at *
    generalize ordB bs = o at *
    generalize inkL bs n = kl at *
    generalize inkH bs n = kh at *
    clear hok hw hg hg2 HX
    go_wp2_with fail
    refine P1.out.mono ?_
    rintro e w2 ⟨A2, c2, ps, rfl, ob, pe, b2⟩
    have hl : ps.length = n := by have := congrArg List.length pe; rw [List.length_map, PL.out] at this; exact this
    have X1 := ob.boxes
    rw [pe, hl] at X1
    have X1 : Shut (BoxesAt w2 w2.heap.size A2 n L) := ⟨X1⟩
    have B2 : Shut (Below w.heap.size w w2) := ⟨B1.out.trans (b2.mono B1.out.size)⟩
    clear ob pe b2 hl P1
    go_wp2_with fail
    refine (P2.out _ B2.out).mono ?_
    rintro e w3 ⟨A3, c3, ps, rfl, ob, pe, b3⟩
    have hl : ps.length = n := by have := congrArg List.length pe; rw [List.length_map, PL.out] at this; exact this
    have X2 := ob.boxes
    rw [pe, hl] at X2
    have AL : Shut _ := ⟨all_any A2 n c2 L (by omega) GS.out A3 c3 w3 (X1.out.later b3) X2⟩
    have B3 : Shut (Below w.heap.size w w3) := ⟨B2.out.trans (b3.mono B2.out.size)⟩
    clear ob pe b3 hl P2 X1 X2
    go_wp2_with fail
    refine AL.out.mono ?_
    rintro e w4 ⟨rfl, b4⟩
    have B4 : Shut (Below w.heap.size w w4) := ⟨B3.out.trans (b4.mono B3.out.size)⟩
    clear b4 AL
    go_wp2_with fail
    refine (O1.out _ B4.out).mono ?_
    rintro e w5 ⟨A5, c5, rfl, o5, b5⟩
    have B5 : Shut (Below w.heap.size w w5) := ⟨B4.out.trans (b5.mono B4.out.size)⟩
    have J5 : Shut (IntsAt w5 w5.heap.size .i64 A5 n o) := ⟨o5.ints⟩
    clear o5 b5 O1
    go_wp2_with fail
    refine (O2.out _ B5.out).mono ?_
    rintro e w6 ⟨A6, c6, rfl, o6, b6⟩
    have B6 : Shut (Below w.heap.size w w6) := ⟨B5.out.trans (b6.mono B5.out.size)⟩
    have IN : Shut _ := ⟨ints_any A5 n c5 o (by omega) A6 c6 w6 (J5.out.later b6) o6.ints⟩
    clear o6 b6 O2 J5
    go_wp2_with fail
    refine IN.out.mono ?_
    rintro e w7 ⟨rfl, b7⟩
    have B7 : Shut (Below w.heap.size w w7) := ⟨B6.out.trans (b7.mono B6.out.size)⟩
    clear b7 IN
    go_wp2_with fail
    refine (I1.out _ B7.out).mono ?_
    rintro e w8 ⟨rfl, b8⟩
    have B8 : Shut (Below w.heap.size w w8) := ⟨B7.out.trans (b8.mono B7.out.size)⟩
    clear b8 I1
    go_wp2_with fail
    refine (I2.out _ B8.out).mono ?_
    rintro e w9 ⟨rfl, b9⟩
    have B9 : Shut (Below w.heap.size w w9) := ⟨B8.out.trans (b9.mono B8.out.size)⟩
    clear b9 I2
    go_wp2_with fail
    refine (alive_any _).mono ?_
    rintro e wA ⟨rfl, bA⟩
    have BA : Shut (Below w.heap.size w wA) := ⟨B9.out.trans (bA.mono B9.out.size)⟩
    clear bA
    go_wp2_with fail
    go_ret
    exact ⟨rfl, BA.out⟩
end Go.Proofs.Yteedngkbcbojjaa
