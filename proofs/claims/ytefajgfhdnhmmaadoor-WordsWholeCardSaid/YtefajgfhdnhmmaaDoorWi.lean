/- Chapter 8: which places are boundaries of words; the words; both ways. -/
import Derived.Test.YtefajgfhdnhmmaaDoorWe
import Derived.Test.YtefajgfhdnhmmaaDoorBs
namespace Go.Proofs.YtefajgfhdnhmmaaDoor
open Go.ChangeShapes Go.WideShapes Go.ChangeAt Go.RowKit
set_option maxRecDepth 100000
set_option linter.unusedSimpArgs false

def wIsB (l : List Nat) (i : Int) : Bool := l.any fun x => decide ((x : Int) = i)
theorem wIsB_iff (l : List Nat) (i : Int) : wIsB l i = true ↔ ∃ j, j < l.length ∧ (atN l j : Int) = i := by
  unfold wIsB
  rw [List.any_eq_true]
  constructor
  · rintro ⟨x, hx, h⟩
    obtain ⟨j, hj, rfl⟩ := List.getElem_of_mem hx
    refine ⟨j, hj, ?_⟩
    have : atN l j = l[j] := by simp [atN, hj]
    rw [this]
    simpa using h
  · rintro ⟨j, hj, h⟩
    exact ⟨atN l j, atN_mem hj, by simpa using h⟩
theorem bs_is {l : List Nat} (hr : Rise l) {i : Int} {p : Nat} {f : Bool} (h1 : ∀ j, j < p → (atN l j : Int) < i) (h2 : ∀ j, p ≤ j → j < l.length → i ≤ (atN l j : Int)) (h3 : f = true ↔ p < l.length ∧ (atN l p : Int) = i) : f = wIsB l i := by
  rw [Bool.eq_iff_iff, h3, wIsB_iff]
  constructor
  · rintro ⟨h4, h5⟩; exact ⟨p, h4, h5⟩
  · rintro ⟨j, h4, h5⟩
    rcases Nat.lt_trichotomy j p with h6 | h6 | h6
    · have := h1 j h6; omega
    · subst h6; exact ⟨h4, h5⟩
    · have := h2 p (Nat.le_refl _) (by omega)
      have := hr.lt' h6 h4
      omega
theorem wbL_rise (xs : List Int) : Rise (wbL xs) := wbA_rise
theorem wbL_len {xs : List Int} {n : Nat} (h : xs.length = n) : (wbL xs).length ≤ n + 1 := by
  have h1 : (wbL xs).length ≤ _ := wbA_len (wds xs) (bndA (ks xs))
  have h2 := bndN_len (ks xs) ((ks xs).length + 1)
  have e0 : bndN (ks xs) ((ks xs).length + 1) = bndA (ks xs) := rfl
  rw [e0, ks_len, h] at h2
  omega

theorem pwis_any (A : Option Addr) (n c : Nat) (xs : List Int) (i : Int) (w : World) (hx : SliceIn .i32 w A n c xs) (hl : Laid w) (hn : (n + 1) * 16 ≤ 140737488355328) :
    Calls Tryd.prog 24 #[.slice A n c, .int .i64 i] w fun e w' => e = .returned (.bool (wIsB (wbL xs) i)) ∧ Below w.heap.size w w' := by
  have PB := Lib.hid (pwb_any A n c xs w hx hl hn)
  have hll := wbL_len hx.at_.len
  have RI := Lib.hid (wbL_rise xs)
  have EW := Lib.hid (show wbI xs = (wbL xs).map Int.ofNat from rfl)
  clear hx hl
  generalize wbL xs = l at *
  generalize wbI xs = wi at *
  obtain ⟨L, hL⟩ : ∃ L, l.length = L := ⟨_, rfl⟩
  have HL := Lib.hid hL
  rw [hL] at PB hll
  clear hL
  go_enter Tryd.func24, Tryd.ntmps24
  go_wp2_with fail
  refine PB.out.mono ?_
  rintro e w1 ⟨Ab, cb, rfl, ob, b1⟩
  have PS := Lib.hid (pbs_any Ab L cb l RI.out i w1 (by have := ob.ints; rw [EW.out] at this; exact this) (by omega))
  clear ob
  have X1 := Lib.hid b1
  clear b1
  go_wp2_with fail
  refine PS.out.mono ?_
  rintro e w2 ⟨p, f, rfl, q1, q2, q3, q4, rfl⟩
  have EF := Lib.hid (bs_is RI.out q2 q3 q4)
  clear q1 q2 q3 q4
  go_wp2_with fail
  go_ret
  exact ⟨retb EF.out, X1.out⟩

theorem rwis_any (A : Option Addr) (n c : Nat) (xs : List Int) (i : Int) (w : World) (hx : SliceIn .i32 w A n c xs) (hn : (n + 1) * 16 ≤ 140737488355328) :
    Calls Tryd.prog 25 #[.slice A n c, .int .i64 i] w fun e w' => e = .returned (.bool (wIsB (wbL xs) i)) ∧ Below w.heap.size w w' := by
  have PB := Lib.hid (rwb_any A n c xs w hx hn)
  have hll := wbL_len hx.at_.len
  have EW := Lib.hid (show wbI xs = (wbL xs).map Int.ofNat from rfl)
  clear hx
  generalize wbL xs = l at *
  generalize wbI xs = wi at *
  obtain ⟨L, hL⟩ : ∃ L, l.length = L := ⟨_, rfl⟩
  have HL := Lib.hid hL
  rw [hL] at PB hll
  clear hL
  go_enter Tryd.func25, Tryd.ntmps25
  go_wp2_with fail
  refine PB.out.mono ?_
  rintro e w1 ⟨Ab, cb, rfl, ob, b1⟩
  have X1 := Lib.hid b1
  have OI := Lib.hid (show IntsAt w1 w1.heap.size .i64 Ab L (l.map Int.ofNat) by have := ob.ints; rw [EW.out] at this; exact this)
  clear ob b1
  go_wp2_with fail
  go_loop [6] (fun v => ∃ k : Nat, k ≤ L ∧ v = .int .i64 k ∧ ∀ j, j < k → (atN l j : Int) ≠ i) (fun v => L - (intOf v).toNat)
  case atStart => exact ⟨0, Nat.zero_le _, rfl, fun j h => by omega⟩
  case round =>
    obtain ⟨k, hk, rfl, hno⟩ := hrel
    have NO := Lib.hid hno
    clear hno
    by_cases hlt : k < L
    · obtain ⟨ad, rfl, hab, hcx⟩ := OI.out.2 (by omega)
      have hc := hcx k hlt
      rw [nth_map (by rw [HL.out]; exact hlt)] at hc
      obtain ⟨v, hv⟩ : ∃ v, atN l k = v := ⟨_, rfl⟩
      rw [hv] at hc
      have HV := Lib.hid hv
      clear hcx hv
      by_cases hvi : (v : Int) = i
      · have d1 : ((v : Int) == i) = true := by simpa using hvi
        have D1 := Lib.hid hvi
        clear hvi
        go_wp2_with fail
        go_ret
        exact ⟨retb ((wIsB_iff l i).2 ⟨k, by rw [HL.out]; exact hlt, by rw [HV.out]; exact D1.out⟩).symm, X1.out⟩
      · have d1 : ((v : Int) == i) = false := by simpa using hvi
        have D1 := Lib.hid hvi
        clear hvi
        go_wp2_with fail
        go_round
        case rel => exact ⟨k + 1, by omega, by go_num, fun j hj => (Nat.lt_or_ge j k).elim (NO.out j) (fun h => by rw [show j = k by omega, HV.out]; exact D1.out)⟩
        case measure => simp [intOf] <;> omega
    · go_wp2_with fail
      go_ret
      refine ⟨retb ?_, X1.out⟩
      cases hb : wIsB l i with
      | false => rfl
      | true =>
        obtain ⟨j, h1, h2⟩ := (wIsB_iff l i).1 hb
        exact absurd h2 (NO.out j (by rw [HL.out] at h1; omega))

set_option maxHeartbeats 4000000 in
theorem rwords_any (A : Option Addr) (n c : Nat) (xs : List Int) (w : World) (hx : SliceIn .i32 w A n c xs) (hn : (n + 1) * 16 ≤ 140737488355328) :
    Calls Tryd.prog 51 #[.slice A n c] w (NewCutsG w (prs (wbL xs) ((wbL xs).length - 1))) := by
  have PB := Lib.hid (rwb_any A n c xs w hx hn)
  have hll := wbL_len hx.at_.len
  have EW := Lib.hid (show wbI xs = (wbL xs).map Int.ofNat from rfl)
  clear hx
  generalize wbL xs = bs at *
  generalize wbI xs = wi at *
  obtain ⟨m, hm⟩ : ∃ m, bs.length = m := ⟨_, rfl⟩
  have HM := Lib.hid hm
  rw [hm] at PB hll ⊢
  clear hm
  go_enter Tryd.func51, Tryd.ntmps51
  go_wp2_with fail
  refine PB.out.mono ?_
  rintro e w1 ⟨Ab, cb, rfl, hob, hb1⟩
  rw [EW.out] at hob
  have OB := Lib.hid hob
  have HB1 := Lib.hid hb1
  have hsz1 := hb1.size
  clear hob hb1 PB
  go_wp2_with fail
  go_loopw [4, 5] (fun u v wr => ∃ (k : Nat) (A' : Option Addr) (c' : Nat), (k + 1 ≤ m ∨ k = 0) ∧ v = .int .i64 k ∧ u = .slice A' k c' ∧ OwnV wr w1.heap.size 24 2 A' k c' (cutsV (prs bs k)) ∧ Below w1.heap.size w1 wr) (fun _ v _ => m + 1 - (intOf v).toNat)
  case atStart => exact ⟨0, none, 0, .inr rfl, rfl, rfl, OwnV.nil _ _ _ _, Below.refl _ _⟩
  case round =>
    obtain ⟨k, A', c', hk, rfl, rfl, ho, hb⟩ := hrel
    have HO := Lib.hid ho
    have HB := Lib.hid hb
    by_cases hlt : k + 1 < m
    · have ob := OB.out.pass hb
      obtain ⟨gb, rfl, _⟩ := OwnV.form ob (by omega)
      have c0 := own_cellG ob (j := k) (by omega)
      have c1 := own_cellG ob (j := k + 1) hlt
      rw [nth_map (by rw [HM.out]; omega)] at c0 c1
      have l1 : (k : Int) + 1 < (m : Int) := by omega
      have EP := Lib.hid (prs_succ bs k)
      generalize atN bs k = p at *
      generalize atN bs (k + 1) = q at *
      clear ob ho hb hk
      go_wp2_with fail
      have wk : IntKind.i64.wrap (k : Int) = (k : Int) := IntWalk.i64_in _ (by omega)
      have wk2 : IntKind.i64.wrap ((k : Int) + 1) = (k : Int) + 1 := IntWalk.i64_in _ (by omega)
      have tn : ((k : Int) + 1).toNat = k + 1 := by omega
      have p0 : (0 : Int) ≤ (k : Int) := by omega
      have p1 : (k : Int) < (m : Int) := by omega
      have p2 : (0 : Int) ≤ (k : Int) + 1 := by omega
      go_region_law ((refine step_pushV TCg (by rfl) (.tmp 15) (.tmp 26) (by rfl) (by rfl) ((by first | exact HO.out.alloc _ | exact OwnV.drew (HO.out.alloc _) | exact OwnV.alloc (OwnV.drew HO.out) _)) (by rfl) (news := [.int .i64 (p : Int), .int .i64 (q : Int)]) rfl (by first | exact cells_newG _ _ _ _ | exact cells_newG wr _ _ _) (two_oneG _ _) (by omega) (by have := HB.out.size; simp; omega) ?_; intro A4 c4 w4 o4 b4; have hbw : Below w1.heap.size w1 w4 := Below.trans (by first | exact (HB.out.drew).alloc (by have := HB.out.size; simp; omega) _ | exact (HB.out.alloc (by have := HB.out.size; omega) _).drew) b4))
      all_goals
        clear wk wk2 tn
        go_wp2_with fail
        go_roundw
        case rel =>
          refine ⟨k + 1, A4, c4, .inl (by omega), by go_num, rfl, ?_, hbw⟩
          rw [EP.out, cutsV_app, cutsV_one]
          exact o4
        case measure => simp [intOf] <;> omega
    · have l1 : ¬ ((k : Int) + 1 < (m : Int)) := by omega
      go_wp2_with fail
      go_ret
      have ek : k = m - 1 := by omega
      subst ek
      exact ⟨A', c', by rw [prs_len]; rfl, by rw [prs_len]; exact Own.moreG HO.out hsz1, HB1.out.trans (HB.out.mono hsz1)⟩
end Go.Proofs.YtefajgfhdnhmmaaDoor
