/- Chapter 36: the walk of JoiningBoth. -/
import Derived.Test.YtajippjknikciaaDoorJal
import Derived.Test.YtajippjknikciaaDoorJlaw2
namespace Go.Proofs.YtajippjknikciaaDoor
open Go.ChangeShapes Go.WideShapes Go.ChangeAt Go.RowKit
set_option maxRecDepth 100000

theorem lawPassed_any (A : Option Addr) (n c : Nat) (xs : List Int) (k : Nat) (hk : k < n) (w : World) (hx : SliceIn .i32 w A n c xs) (hn : n ≤ 140737488355328) :
    Calls Tryd.prog 33 #[.slice A n c, .int .i64 k] w fun e w' => e = .returned (.bool (tr (nth xs k))) ∧ Below w.heap.size w w' := by
  obtain ⟨h1, h2⟩ := bounds_i32 (hx.nth_wf hk)
  obtain ⟨ad, rfl, hab, hc⟩ := hx.at_.2 (by omega)
  have hc := hc k hk
  have O := Lib.hid (passed36_any (nth xs k) h1 h2 w)
  clear hx h1 h2
  go_enter Tryd.func33, Tryd.ntmps33
  go_wp2_with fail
  refine O.out.mono ?_
  rintro e w1 ⟨rfl, hb1⟩
  go_wp2_with fail
  go_ret
  exact ⟨rfl, hb1⟩

theorem own_cell {w : World} {B n c : Nat} {e : TypeId} {g : Nat} {xs : List Int} (h : Own w B e .i64 (some ⟨g, 0, none⟩) n c xs) {k : Nat} (hk : k < n) : w.cell? ⟨g, k, none⟩ = some (.int .i64 (nth xs k)) := by
  rw [OwnV.cellAt h k (by omega)]
  have : k < xs.length := by rw [h.len]; exact hk
  rw [List.getElem?_map, List.getElem?_eq_getElem this, nth_eq this]
  rfl
theorem nth_forms {xs : List Int} {k : Nat} (h : k < xs.length) : nth (forms xs) k = formAt xs k := by
  unfold nth forms
  simp [h]

set_option linter.unusedSimpArgs false in
set_option maxHeartbeats 8000000 in
theorem JoiningBoth_walk (A : Option Addr) (n c : Nat) (xs : List Int) (w : World) (hx : SliceIn .i32 w A n c xs) (hl : Laid w) :
    Calls Tryd.prog 10 #[.slice A n c] w fun e w' => e = .returned (.bool true) ∧ Below w.heap.size w w' := by
  have HX := Lib.hid hx
  have HL := Lib.hid hl
  have HLEN := Lib.hid hx.at_.len
  clear hx hl
  by_cases hlen : 200 < n
  · go_enter Tryd.func10, Tryd.ntmps10
    go_wp2_with fail
    refine (alive36_any _ HL.out).mono ?_
    rintro e w1 ⟨rfl, hb1⟩
    go_wp2_with fail
    go_ret
    exact ⟨rfl, hb1⟩
  · have hn : n ≤ 200 := by omega
    go_enter Tryd.func10, Tryd.ntmps10
    go_wp2_with fail
    refine (pForms_any A n c xs _ HX.out HL.out (by omega)).mono ?_
    rintro e w0 ⟨A0, c0, rfl, ho0, hb0⟩
    have HO := Lib.hid ho0
    have HB0 := Lib.hid hb0
    clear ho0 hb0
    go_wp2_with fail
    go_loopw [4, 5] (fun o v wr => ∃ k : Nat, k ≤ n ∧ o = .bool (opn xs k) ∧ v = .int .i64 k ∧ Below w0.heap.size w0 wr) (fun _ v _ => n - (intOf v).toNat)
    case atStart => exact ⟨0, Nat.zero_le _, rfl, rfl, Below.refl _ _⟩
    case round =>
      obtain ⟨k, hk, rfl, rfl, hb⟩ := hrel
      have X := Lib.hid (HB0.out.trans (hb.mono HB0.out.size))
      have HB := Lib.hid hb
      clear hb
      by_cases hlt : k < n
      · have JJ := Lib.hid (fun w' (hb : Below w.heap.size w w') => pJoins_any A n c xs k w' (HX.out.pass hb) (HL.out.pass hb) (by omega))
        have PP := Lib.hid (fun w' (hb : Below w.heap.size w w') => lawPassed_any A n c xs k hlt w' (HX.out.pass hb) (by omega))
        have ea : JA xs k = jnA xs k := by unfold JA; rw [HLEN.out, if_pos (by omega)]; rfl
        have eb : JB xs k = jnB xs k := by unfold JB; rw [HLEN.out, if_pos (by omega)]; rfl
        rw [ea, eb] at JJ
        clear ea eb
        obtain ⟨g0, rfl, hg1, hg2⟩ := OwnV.form HO.out (by omega)
        have hc0 := own_cell HO.out hlt
        rw [nth_forms (by rw [HLEN.out]; exact hlt)] at hc0
        cases ht : tr (nth xs k)
        · have e1 := opn_is (by rw [HLEN.out]; exact hlt) ht
          have e2 := Lib.hid (opn_sign ht)
          have e3 := form_or xs k
          rw [e1] at JJ e3
          rw [ht] at PP
          clear ht e1
          generalize opn xs k = o at *
          generalize jnB xs k = b at *
          generalize formAt xs k = f at *
          have HC := Lib.hid hc0
          clear hc0
          go_wp2_with fail
          refine (JJ.out _ X.out).mono ?_
          rintro e w1 ⟨rfl, hb1⟩
          have X1 := Lib.hid (X.out.trans (hb1.mono X.out.size))
          have B1 := Lib.hid (HB.out.trans (hb1.mono HB.out.size))
          clear hb1
          go_wp2_with fail
          refine (PP.out _ X1.out).mono ?_
          rintro e w2 ⟨rfl, hb2⟩
          have B2 := Lib.hid (B1.out.trans (hb2.mono B1.out.size))
          have hc := cell_pass HC.out B2.out
          clear hb2
          rcases e3 with rfl | rfl
          all_goals
            cases o
            all_goals
              cases b
              all_goals
                try simp only [wantF, Bool.and_true, Bool.and_false, Bool.and_self, Bool.false_and, Bool.true_and, Bool.false_eq_true, reduceIte] at hc
                go_wp2_with fail
                go_roundw
                case rel => exact ⟨k + 1, by omega, by rw [e2.out], by go_num, B2.out⟩
                case measure => simp [intOf] <;> omega
        · have e1 := opn_tr ht
          have e2 := jn_tr2 ht
          rw [e2.1, e2.2] at JJ
          rw [form_tr ht] at hc0
          rw [ht] at PP
          clear ht e2
          have E1 := Lib.hid e1
          have HC := Lib.hid hc0
          clear hc0 e1
          go_wp2_with fail
          refine (JJ.out _ X.out).mono ?_
          rintro e w1 ⟨rfl, hb1⟩
          have X1 := Lib.hid (X.out.trans (hb1.mono X.out.size))
          have B1 := Lib.hid (HB.out.trans (hb1.mono HB.out.size))
          clear hb1
          go_wp2_with fail
          refine (PP.out _ X1.out).mono ?_
          rintro e w2 ⟨rfl, hb2⟩
          have B2 := Lib.hid (B1.out.trans (hb2.mono B1.out.size))
          have hc := cell_pass HC.out B2.out
          clear hb2
          go_wp2_with fail
          go_roundw
          case rel => exact ⟨k + 1, by omega, by rw [E1.out], by go_num, B2.out⟩
          case measure => simp [intOf] <;> omega
      · obtain rfl : k = n := by omega
        have e1 := opn_end xs
        rw [HLEN.out] at e1
        rw [e1]
        clear e1
        have L := Lib.hid (HL.out.pass X.out)
        go_wp2_with fail
        refine (alive36_any _ L.out).mono ?_
        rintro e w6 ⟨rfl, hb6⟩
        have X6 := Lib.hid (X.out.trans (hb6.mono X.out.size))
        clear hb6
        go_wp2_with fail
        go_ret
        exact ⟨rfl, X6.out⟩
end Go.Proofs.YtajippjknikciaaDoor
