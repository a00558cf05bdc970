/- Chapter 45: by how much boxes are moved, the program's way. -/
import Derived.Test.YteedngkbcbojjaaBo
namespace Go.Proofs.Yteedngkbcbojjaa
open Go.ChangeShapes Go.WideShapes Go.ChangeAt Go.RowKit
set_option maxRecDepth 100000
set_option linter.unusedSimpArgs false

theorem bnth_take {bs : List BoxD} {m j : Nat} (h : j < m) : bnth (bs.take m) j = bnth bs j := by
  unfold bnth
  rw [List.getD_eq_getElem?_getD, List.getD_eq_getElem?_getD, List.getElem?_take, if_pos h]
theorem BoxesAt.take {w : World} {B n m : Nat} {A : Option Addr} {bs : List BoxD} (h : BoxesAt w B A n bs) (hm : m ≤ n) : BoxesAt w B A m (bs.take m) := by
  refine ⟨by rw [List.length_take, h.1]; omega, fun h0 => ?_⟩
  obtain ⟨ad, e, hB, hc⟩ := h.2 (by omega)
  exact ⟨ad, e, hB, fun j hj => by rw [bnth_take hj]; exact hc j (by omega)⟩
theorem wideN_take (bs : List BoxD) (m : Nat) : ∀ k, k ≤ m → wideN (bs.take m) k = wideN bs k
  | 0, _ => rfl
  | k + 1, h => by
    simp only [wideN]
    rw [wideN_take bs m k (by omega), bnth_take (by omega)]
theorem WdIn.take {bs : List BoxD} (h : WdIn bs) (m : Nat) : WdIn (bs.take m) := by
  intro j
  by_cases hj : j < m
  · rw [bnth_take hj]; exact h j
  · have : bnth (bs.take m) j = default := by
      unfold bnth
      rw [List.getD_eq_getElem?_getD, List.getElem?_take, if_neg hj]
      rfl
    rw [this]
    exact ⟨by decide, by decide⟩
theorem cut_boxes {P : Program} {t e : TypeId} {size bytes : Nat} (T : SliceOf P t e size bytes) (A : Option Addr) (n c j : Nat) (hj : j ≤ n) (hc : n ≤ c) (w : World) :
    (Instr.slice t (.slice A n c) none (some (.int .i64 (j : Int))) none).run P w = .ok (.slice A j c) w := by
  rw [run_slice_h w t A n c (under_elem T) .i64 j (by omega) (by omega), sizeOf_run T]
  simp [Result.andThen, sliced]
  intro _
  cases A <;> simp [Addr.add]

theorem bv {a b : Bool} (h : a = b) : Value.bool a = Value.bool b := by rw [h]
set_option maxHeartbeats 8000000 in
theorem shift_any (A : Option Addr) (n c : Nat) (bs : List BoxD) (O : Option Addr) (oc : Nat) (o : List Int) (tail : Nat) (base x : Int) (w : World) (hx : BoxesAt w w.heap.size A n bs) (ho : IntsAt w w.heap.size .i64 O n o) (hO : IsOrd o n)
    (hn : n ≤ 40) (ht : tail ≤ n) (hc : n ≤ c) (hw : WdIn bs) (hx1 : -1073741824 ≤ x) (hx2 : x ≤ 1073741824) :
    Calls Try.prog 14 #[.slice A n c, .slice O n oc, .int .i64 (tail : Int), .int .i64 base, .int .i64 x] w fun e w' => e = .returned (.int .i64 (shiftP bs o tail (oddB base) x)) ∧ Below w.heap.size w w' := by
  have HX : Shut _ := ⟨hx⟩
  have HO : Shut _ := ⟨ho⟩
  have OR : Shut _ := ⟨hO⟩
  have HW : Shut _ := ⟨hw⟩
  have CU := cut_boxes TBox A n c tail ht hc
  have OD : Shut (∀ W, _) := ⟨fun W => odd_any base W⟩
  have SP : Shut (shiftP bs o tail (oddB base) x = if oddB base = true then x + wideN bs tail - rightF bs o tail n else x - leftF bs o tail n) := ⟨by unfold shiftP; rw [hx.1]⟩
  have WI : Shut _ := ⟨wideN_in hw tail⟩
  generalize shiftP bs o tail (oddB base) x = R at *
  generalize oddB base = od at *
  clear hx ho hO hw
  go_enter Try.func14, Try.ntmps14
  go_wp2_with fail
  go_loopg [11, 12, 13, 14, 15, 17, 20] (n + 1) (fun gg v11 _ v13 v14 v15 _ v20 wr => ∃ j : Nat, n - j < gg ∧ j ≤ n ∧ v11 = .bool (ownF o tail j) ∧ v13 = .int .i64 (preS bs o j) ∧ v14 = .int .i64 (leftF bs o tail j) ∧ v15 = .int .i64 (rightF bs o tail j) ∧ v20 = .int .i64 (j : Int) ∧ Shut (Below w.heap.size w wr))
  case atStart => exact ⟨0, by omega, by omega, rfl, rfl, rfl, rfl, rfl, ⟨Below.refl _ _⟩⟩
  case round =>
    obtain ⟨j, hg, hj, rfl, rfl, rfl, rfl, rfl, BE⟩ := hrel
    have h1 := preS_in (o := o) HW.out j
    have h2 := sides_in (o := o) (tail := tail) HW.out j
    by_cases hlt : j < n
    · obtain ⟨ao, rfl, _, hco⟩ := (HO.out.later BE.out).2 (by omega)
      obtain ⟨y, hy⟩ : ∃ y : Nat, nth o j = (y : Int) := ⟨(nth o j).toNat, by have := OR.out.ge j hlt; omega⟩
      have hyn : y < n := by have := OR.out.lt j hlt; omega
      have eo : Shut (ordN o j = y) := ⟨by unfold ordN; omega⟩
      have k1 := hco j hlt
      rw [hy] at k1
      obtain ⟨ad, rfl, _, hcb⟩ := (HX.out.later BE.out).2 (by omega)
      obtain ⟨G, gc, ⟨_, _, _, _, c4, _⟩, _⟩ := bdx (hcb y hyn)
      have EP : Shut (preS bs o (j + 1) = preS bs o j + (bnth bs y).wd) := ⟨by show _ + _ = _; rw [eo.out]⟩
      have EL : Shut (leftF bs o tail (j + 1) = if (inO o tail j && !ownF o tail j) = true then preS bs o j else leftF bs o tail j) := ⟨rfl⟩
      have ER : Shut (rightF bs o tail (j + 1) = if inO o tail j = true then preS bs o (j + 1) else rightF bs o tail j) := ⟨rfl⟩
      have EO : Shut (ownF o tail (j + 1) = (ownF o tail j || inO o tail j)) := ⟨rfl⟩
      have EI : Shut (inO o tail j = (decide (tail = 0) || decide (y < tail))) := ⟨by unfold inO; rw [eo.out]⟩
      have h3 := HW.out y
      have j1 : (j : Int) < (n : Int) := by omega
      have y0 : (0 : Int) ≤ (y : Int) := by omega
      have y1 : (y : Int) < (n : Int) := by omega
      have BD : ∀ q, Below w.heap.size w (wr.drewN q) := fun q => below_drewN BE.out q
      generalize (bnth bs y).wd = wd at *
      generalize preS bs o j = S at *
      generalize leftF bs o tail j = L at *
      generalize rightF bs o tail j = Q at *
      generalize inO o tail j = io at *
      clear hco hcb hy eo hlt
      rcases Nat.eq_zero_or_pos tail with t0 | t0
      · have hio : io = true := by rw [EI.out]; simp [t0]
        have t1 : decide ((0 : Int) < (tail : Int)) = false := by simp; omega
        have t2 : decide (0 < tail) = false := by simp; omega
        subst hio
        clear EI t0
        cases how : ownF o tail j with
        | true =>
          rw [how] at EL EO
          go_wp2_with fail
          go_quiet (fail)
          go_wp2_with fail
          go_roundg (n - j)
          case measure => omega
          case rel => exact ⟨j + 1, by omega, by omega, bv (by rw [EO.out]; simp), iv EP.out.symm, iv (by rw [EL.out]; simp), iv (by rw [ER.out]; simp [EP.out]), by go_num, ⟨BD _⟩⟩
        | false =>
          rw [how] at EL EO
          go_wp2_with fail
          go_quiet (fail)
          go_wp2_with fail
          go_roundg (n - j)
          case measure => omega
          case rel => exact ⟨j + 1, by omega, by omega, bv (by rw [EO.out]; simp), iv EP.out.symm, iv (by rw [EL.out]; simp), iv (by rw [ER.out]; simp [EP.out]), by go_num, ⟨BD _⟩⟩
      · have t1 : (0 : Int) < (tail : Int) := by omega
        rcases Nat.lt_or_ge y tail with t3 | t3
        · have hio : io = true := by rw [EI.out]; simp [t3]
          have t4 : decide ((tail : Int) ≤ (y : Int)) = false := by simp; omega
          have t5 : decide (tail ≤ y) = false := by simp; omega
          subst hio
          clear EI
          cases how : ownF o tail j with
          | true =>
            rw [how] at EL EO
            go_wp2_with fail
            go_quiet (fail)
            go_wp2_with fail
            go_roundg (n - j)
            case measure => omega
            case rel => exact ⟨j + 1, by omega, by omega, bv (by rw [EO.out]; simp), iv EP.out.symm, iv (by rw [EL.out]; simp), iv (by rw [ER.out]; simp [EP.out]), by go_num, ⟨BD _⟩⟩
          | false =>
            rw [how] at EL EO
            go_wp2_with fail
            go_quiet (fail)
            go_wp2_with fail
            go_roundg (n - j)
            case measure => omega
            case rel => exact ⟨j + 1, by omega, by omega, bv (by rw [EO.out]; simp), iv EP.out.symm, iv (by rw [EL.out]; simp), iv (by rw [ER.out]; simp [EP.out]), by go_num, ⟨BD _⟩⟩
        · have hio : io = false := by rw [EI.out]; simp; omega
          have t4 : (tail : Int) ≤ (y : Int) := by omega
          subst hio
          clear EI
          go_wp2_with fail
          go_quiet (fail)
          go_wp2_with fail
          go_roundg (n - j)
          case measure => omega
          case rel => exact ⟨j + 1, by omega, by omega, bv (by rw [EO.out]; simp), iv EP.out.symm, iv (by rw [EL.out]; simp), iv (by rw [ER.out]; simp), by go_num, ⟨BD _⟩⟩
    · obtain rfl : j = n := by omega
      have SU : Shut _ := ⟨sum_any A tail c (bs.take tail) wr ((HX.out.later BE.out).take ht) (by omega) (HW.out.take tail)⟩
      rw [wideN_take bs tail tail (Nat.le_refl _)] at SU
      have h5 := WI.out
      generalize wideN bs tail = W at *
      generalize leftF bs o tail j = L at *
      generalize rightF bs o tail j = Q at *
      generalize preS bs o j = S at *
      have WL : Shut _ := ⟨h5⟩
      clear hlt hg
      cases od with
      | true =>
        have E : Shut (R = x + W - Q) := ⟨by rw [SP.out]; rfl⟩
        clear SP
        go_wp2_with fail
        refine (OD.out _).mono ?_
        rintro e w2 ⟨rfl, rfl⟩
        go_wp2_with fail
        refine SU.out.mono ?_
        rintro e w3 ⟨rfl, b3⟩
        have B3 : Shut (Below w.heap.size w w3) := ⟨BE.out.trans (b3.mono BE.out.size)⟩
        clear b3
        go_wp2_with fail
        go_ret
        exact ⟨intv E.out.symm, B3.out⟩
      | false =>
        have E : Shut (R = x - L) := ⟨by rw [SP.out]; rfl⟩
        clear SP
        go_wp2_with fail
        refine (OD.out _).mono ?_
        rintro e w2 ⟨rfl, rfl⟩
        go_wp2_with fail
        go_ret
        exact ⟨intv E.out.symm, BE.out⟩
end Go.Proofs.Yteedngkbcbojjaa
