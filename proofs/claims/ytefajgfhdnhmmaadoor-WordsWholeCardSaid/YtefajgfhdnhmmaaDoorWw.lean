/- Chapter 8: the walk of WordsWhole. -/
import Derived.Test.YtefajgfhdnhmmaaDoorWn
import Derived.Test.YtefajgfhdnhmmaaDoorWlaw3
namespace Go.Proofs.YtefajgfhdnhmmaaDoor
open Go.ChangeShapes Go.WideShapes Go.ChangeAt Go.RowKit
set_option maxRecDepth 100000
set_option linter.unusedSimpArgs false

theorem ltr_any (r : Int) (_h1 : -2147483648 ≤ r) (_h2 : r ≤ 2147483647) (w : World) : Calls Tryd.prog 20 #[.int .i32 r] w fun e w' => e = .returned (.int .i32 (ltrV r)) ∧ w = w' := by
  have hN := ltrN_le r
  have hd : ltrN r = if r.tmod 36 < 0 then -(r.tmod 36) else r.tmod 36 := rfl
  have hv : ltrV r = if ltrN r < 10 then 48 + ltrN r else 97 + ltrN r - 10 := rfl
  have HV := Lib.hid hv
  have HD := Lib.hid hd
  generalize hr : r.tmod 36 = m at *
  have hm : -35 ≤ m ∧ m ≤ 35 := by
    rw [hd] at hN
    split at hN <;> omega
  clear hd hv hN
  go_enter Tryd.func20, Tryd.ntmps20
  go_wp2
  all_goals go_ret
  all_goals exact ⟨reti (by rw [HV.out, HD.out]; (repeat' split) <;> omega), rfl⟩

theorem wf64 (x : Int) (h : 0 ≤ x ∧ x ≤ 1000) : (Lit.int .i64 x).wf = true := by
  have h8 : IntKind.i64.min ≤ x ∧ x ≤ IntKind.i64.max := by
    show (-9223372036854775808 : Int) ≤ _ ∧ _ ≤ (9223372036854775807 : Int)
    omega
  simpa [Lit.wf] using h8
theorem wf32 (x : Int) (h : 0 ≤ x ∧ x ≤ 1000) : (Lit.int .i32 x).wf = true := by
  have h8 : IntKind.i32.min ≤ x ∧ x ≤ IntKind.i32.max := by
    show (-2147483648 : Int) ≤ _ ∧ _ ≤ (2147483647 : Int)
    omega
  simpa [Lit.wf] using h8
/-- a new list held against a literal that is the same -/
theorem same_lit (B : Nat) (e : TypeId) (A1 : Option Addr) (c1 : Nat) (l : List Int) (L : Nat) (hL : l.length = L) (hs : L ≤ 1000) (w1 : World) (o1 : Own w1 B e .i64 A1 L c1 l) (hw : ∀ x ∈ l, (Lit.int .i64 x).wf = true) (t : TypeId) (vs : Array Value) (hv : vs = (l.map (Value.int .i64)).toArray) :
    Calls Tryd.prog 21 #[.slice A1 L c1, .slice (some ⟨w1.heap.size, 0, none⟩) L L] (w1.alloc (.cells vs t)) fun e w' => e = .returned (.bool true) ∧ Below w1.heap.size w1 w' := by
  have h2 := (lit_in (w := w1) (t := t) l L hL (by omega) hw vs hv).at_
  refine (same01_any A1 _ L L c1 L l l _ (o1.ints.later (below_alloc w1 _)) h2 (by omega) (by omega)).mono ?_
  rintro e w' ⟨rfl, hb⟩
  exact ⟨retb (by simp), (below_alloc w1 _).trans (hb.mono (below_alloc w1 _).size)⟩
theorem apart3 {ys : List Int} {k j : Nat} (hl : ys.length = k) (h0 : 0 < k) (hj : 0 < j) (hy : ∀ i, i < k → isL (nth ys i) = true) : Apart3 (ys ++ List.replicate j 32 ++ ys) k j := by
  have h1 : ∀ i, i < k → nth (ys ++ List.replicate j 32 ++ ys) i = nth ys i := fun i hi => by
    unfold nth
    rw [List.append_assoc, List.getD_eq_getElem?_getD, List.getElem?_append_left (by omega), ← List.getD_eq_getElem?_getD]
  refine ⟨by simp; omega, h0, hj, fun i hi => by rw [h1 i hi]; exact hy i hi, fun i h2 h3 => ?_, fun i h2 h3 => ?_⟩
  · unfold nth
    rw [List.append_assoc, List.getD_eq_getElem?_getD, List.getElem?_append_right (by omega), List.getElem?_append_left (by simp; omega), List.getElem?_replicate, if_pos (by omega)]
    rfl
  · have e : nth (ys ++ List.replicate j 32 ++ ys) i = nth ys (i - (k + j)) := by
      unfold nth
      rw [List.getD_eq_getElem?_getD, List.getElem?_append_right (by simp; omega), ← List.getD_eq_getElem?_getD]
      simp [hl]
    rw [e]
    exact hy _ (by omega)
theorem nth_repl32 {j i : Nat} (h : i < j) : nth (List.replicate j (32 : Int)) i = 32 := by
  unfold nth; simp [h]
set_option maxHeartbeats 8000000 in
theorem WordsWhole_walk (A : Option Addr) (n c : Nat) (xs : List Int) (gap : Int) (hgap : (Lit.int .u8 gap).wf = true) (w : World) (hx : SliceIn .i32 w A n c xs) (hl : Laid w) :
    Calls Tryd.prog 4 #[.slice A n c, .int .u8 gap] w fun e w' => e = .returned (.bool true) ∧ Below w.heap.size w w' := by
  have hg0 : 0 ≤ gap ∧ gap ≤ 255 := by
    have h9 : IntKind.u8.min ≤ gap ∧ gap ≤ IntKind.u8.max := by simpa [Lit.wf] using hgap
    exact h9
  by_cases hlen : 40 < n
  · go_enter Tryd.func4, Tryd.ntmps4
    have ln : decide (40 < n) = true := by simpa using hlen
    go_wp2_with (go_at_call 15; refine (long08_any _ _ _ _).mono ?_; rintro e w' ⟨rfl, rfl⟩)
    go_ret
    exact ⟨rfl, Below.refl _ _⟩
  · have ln : decide (40 < n) = false := by simpa using hlen
    by_cases hz : n = 0
    · subst hz
      go_enter Tryd.func4, Tryd.ntmps4
      go_wp2_with (go_at_call 15; refine (long08_any _ _ _ _).mono ?_; rintro e w' ⟨rfl, rfl⟩)
      go_ret
      exact ⟨rfl, Below.refl _ _⟩
    · have hn0 : 0 < n := by omega
      have nz : ((n : Int) == 0) = false := by simp; omega
      obtain ⟨m, hm⟩ : ∃ m : Nat, 1 + gap % 4 = (m : Int) := ⟨(1 + gap % 4).toNat, by omega⟩
      have hm0 : 0 < m ∧ m ≤ 4 := by omega
      have HX := Lib.hid hx
      have HL := Lib.hid hl
      have HLEN := Lib.hid hx.at_.len
      clear hx hl hz hgap
      go_enter Tryd.func4, Tryd.ntmps4
      go_wp2_with (go_at_call 15; refine (long08_any _ _ _ _).mono ?_; rintro e w' ⟨rfl, rfl⟩)
      go_loopw [7, 10] (fun u v wr => ∃ (k : Nat) (A' : Option Addr) (c' : Nat), k ≤ n ∧ v = .int .i64 k ∧ u = .slice A' k c' ∧ Own wr w.heap.size 21 .i32 A' k c' ((xs.take k).map ltrV) ∧ Below w.heap.size w wr) (fun _ v _ => n - (intOf v).toNat)
      case atStart => exact ⟨0, none, 0, Nat.zero_le _, rfl, rfl, Own.nil _ _ _ _, Below.refl _ _⟩
      case round =>
        obtain ⟨k, A', c', hk, rfl, rfl, ho, hb⟩ := hrel
        have HO := Lib.hid ho
        have HB := Lib.hid hb
        by_cases hlt : k < n
        · obtain ⟨ad, rfl, hab, hcx⟩ := (HX.out.at_.below hb).2 (by omega)
          have hc := hcx k hlt
          obtain ⟨h1, h2⟩ := bounds_i32 (HX.out.nth_wf hlt)
          have EK := Lib.hid (take_succ_map ltrV (xs := xs) (k := k) (by rw [HLEN.out]; exact hlt))
          generalize nth xs k = r at *
          clear hcx ho hb
          go_wp2_with (first
            | (go_at_call 20; refine (ltr_any _ (by assumption) (by assumption) _).mono ?_; rintro e w' ⟨rfl, rfl⟩)
            | (at_builtin; refine wpList_push TI32w rfl (.tmp 30) (.tmp 36) rfl rfl (HO.out.alloc _) rfl (y := ltrV r) (cell_new _ _ _) (by omega) (by have := HB.out.size; simp; omega) ?_; intro A4 c4 w4 o4 b4))
          have hbw : Below w.heap.size w w4 := (HB.out.alloc (by have := HB.out.size; omega) _).trans b4
          go_roundw
          case rel => exact ⟨k + 1, A4, c4, by omega, by go_num, rfl, by rw [EK.out]; exact o4, hbw⟩
          case measure => simp [intOf] <;> omega
        · obtain rfl : k = n := by omega
          clear ho hb
          go_wp2_with fail
          have z1 := HB.out.size
          go_loopw [9, 11] (fun u v w2 => ∃ (j : Nat) (A2 : Option Addr) (c2 : Nat), j ≤ m ∧ v = .int .i64 j ∧ u = .slice A2 j c2 ∧ Own w2 wr.heap.size 21 .i32 A2 j c2 (List.replicate j 32) ∧ Below wr.heap.size wr w2) (fun _ v _ => m - (intOf v).toNat)
          case atStart => exact ⟨0, none, 0, Nat.zero_le _, rfl, rfl, Own.nil _ _ _ _, Below.refl _ _⟩
          case round =>
            obtain ⟨j, A2, c2, hj, rfl, rfl, ho2, hb2⟩ := hrel
            have HO2 := Lib.hid ho2
            have HB2 := Lib.hid hb2
            clear ho2 hb2
            by_cases hlt2 : j < m
            · go_wp2_with (at_builtin; refine wpList_push TI32w rfl (.tmp 43) (.tmp 44) rfl rfl (HO2.out.alloc _) rfl (y := 32) (cell_new _ _ _) (by omega) (by have := HB2.out.size; simp; omega) ?_; intro A4 c4 w4 o4 b4)
              have hbw := (HB2.out.alloc (by have := HB2.out.size; omega) _).trans b4
              go_roundw
              case rel => exact ⟨j + 1, A4, c4, by omega, by go_num, rfl, by rw [List.replicate_succ']; exact o4, hbw⟩
              case measure => simp [intOf] <;> omega
            · obtain rfl : j = m := by omega
              have z2 := HB2.out.size
              have BW := Lib.hid (HB.out.trans (HB2.out.mono z1))
              have O1 := Lib.hid (HO.out.pass HB2.out)
              have et : xs.take k = xs := List.take_of_length_le (by rw [HLEN.out]; exact Nat.le_refl _)
              rw [et] at O1
              obtain ⟨ys, hys⟩ : ∃ ys, xs.map ltrV = ys := ⟨_, rfl⟩
              rw [hys] at O1
              have hyl : ys.length = k := by rw [← hys]; simp [HLEN.out]
              have hyL : ∀ i, i < k → isL (nth ys i) = true := fun i hi => by
                rw [← hys]
                have : nth (xs.map ltrV) i = ltrV (nth xs i) := by unfold nth; simp [show i < xs.length by rw [HLEN.out]; exact hi]
                rw [this]; exact ltrV_ok _
              have hyW : ∀ y ∈ ys, (Lit.int .i32 y).wf = true := fun y hy => by
                rw [← hys] at hy
                obtain ⟨x, _, rfl⟩ := List.mem_map.1 hy
                have h9 := ltrV_wf x
                have h8 : IntKind.i32.min ≤ ltrV x ∧ ltrV x ≤ IntKind.i32.max := by
                  show (-2147483648 : Int) ≤ _ ∧ _ ≤ (2147483647 : Int)
                  omega
                simpa [Lit.wf] using h8
              have HY1 := Lib.hid hyl
              have HYL := Lib.hid hyL
              have HYW := Lib.hid hyW
              clear hys hyl hyL hyW et
              go_wp2_with (first
                | (at_builtin; refine wpList_appendN TI32w rfl (.tmp 46) (.tmp 47) rfl rfl (Own.nil _ _ _ .i32) rfl O1.out.ints k (by omega) (by omega) (Nat.le_refl _) ?_; intro A5 c5 w5 o5 b5; rw [List.nil_append] at o5; have O5 := Lib.hid o5; have B5 := Lib.hid b5; clear o5 b5)
                | (at_builtin; refine wpList_appendN TI32w rfl (.tmp 49) (.tmp 50) rfl rfl O5.out rfl (HO2.out.pass B5.out).ints (k + j) rfl (by omega) B5.out.size ?_; intro A6 c6 w6 o6 b6; have O6 := Lib.hid o6; have B6 := Lib.hid (B5.out.trans b6); clear o6 b6)
                | (at_builtin; refine wpList_appendN TI32w rfl (.tmp 52) (.tmp 53) rfl rfl O6.out rfl (O1.out.pass B6.out).ints (2 * k + j) (by omega) (by omega) B6.out.size ?_; intro A7 c7 w7 o7 b7; have O7 := Lib.hid o7; have B7 := Lib.hid (B6.out.trans b7); clear o7 b7))
              have X7 := Lib.hid (BW.out.trans (B7.out.mono BW.out.size))
              have AP := Lib.hid (apart3 HY1.out hn0 hm0.1 HYL.out)
              have SY := Lib.hid ((O1.out.pass B7.out).sliceIn HYW.out)
              have SS := Lib.hid ((HO2.out.pass B7.out).sliceIn (fun x hx => by rw [List.eq_of_mem_replicate hx]; exact wf32 32 (by omega)))
              have SA := Lib.hid (O7.out.sliceIn (fun x hx => by
                rcases List.mem_append.1 hx with h | h
                · rcases List.mem_append.1 h with h | h
                  · exact HYW.out x h
                  · rw [List.eq_of_mem_replicate h]; exact wf32 32 (by omega)
                · exact HYW.out x h))
              have L7 := Lib.hid (HL.out.pass X7.out)
              have E1 := whole_own HY1.out hn0 HYL.out
              have E2 := whole_sp (ys := List.replicate j 32) (n := j) (by simp) hm0.1 (fun i hi => nth_repl32 hi)
              have E3 := AP.out.wb
              have F1 := count_own HY1.out hn0 HYL.out
              have F2 := count_sp (ys := List.replicate j 32) (n := j) (by simp) hm0.1 (fun i hi => nth_repl32 hi)
              have F3 := AP.out.count
              have F4 := AP.out.kind
              have PBo := Lib.hid (fun W (hb : Below w7.heap.size w7 W) => (show Calls Tryd.prog 22 #[.slice A' k c'] W (NewInts W 3 .i64 2 [0, (k : Int)]) by
                have := pwb_any A' k c' ys W (SY.out.pass hb) (L7.out.pass hb) (by omega)
                unfold wbI at this
                rw [show wbA (wds ys) (bndA (ks ys)) = wbL ys from rfl, E1] at this
                exact this))
              have PBs := Lib.hid (fun W (hb : Below w7.heap.size w7 W) => (show Calls Tryd.prog 22 #[.slice A2 j c2] W (NewInts W 3 .i64 2 [0, (j : Int)]) by
                have := pwb_any A2 j c2 (List.replicate j 32) W (SS.out.pass hb) (L7.out.pass hb) (by omega)
                unfold wbI at this
                rw [show wbA (wds (List.replicate j 32)) (bndA (ks (List.replicate j 32))) = wbL (List.replicate j 32) from rfl, E2] at this
                exact this))
              have PBa := Lib.hid (fun W (hb : Below w7.heap.size w7 W) => (show Calls Tryd.prog 22 #[.slice A7 (2 * k + j) c7] W (NewInts W 3 .i64 4 [0, (k : Int), (k : Int) + (j : Int), 2 * (k : Int) + (j : Int)]) by
                have := pwb_any A7 (2 * k + j) c7 _ W (SA.out.pass hb) (L7.out.pass hb) (by omega)
                unfold wbI at this
                rw [show wbA (wds (ys ++ List.replicate j 32 ++ ys)) (bndA (ks (ys ++ List.replicate j 32 ++ ys))) = wbL (ys ++ List.replicate j 32 ++ ys) from rfl, E3] at this
                have e4 : [0, k, k + j, 2 * k + j].map Int.ofNat = [0, (k : Int), (k : Int) + (j : Int), 2 * (k : Int) + (j : Int)] := by simp
                rw [e4] at this
                exact this))
              have PCo := Lib.hid (fun W (hb : Below w7.heap.size w7 W) => pcountW_any A' k c' ys W (SY.out.pass hb) (L7.out.pass hb) (by omega))
              have PCs := Lib.hid (fun W (hb : Below w7.heap.size w7 W) => pcountW_any A2 j c2 (List.replicate j 32) W (SS.out.pass hb) (L7.out.pass hb) (by omega))
              have PCa := Lib.hid (fun W (hb : Below w7.heap.size w7 W) => pcountW_any A7 (2 * k + j) c7 _ W (SA.out.pass hb) (L7.out.pass hb) (by omega))
              have PKa := Lib.hid (fun W (hb : Below w7.heap.size w7 W) => pkindS_any A7 (2 * k + j) c7 _ (k : Int) ((k + j : Nat) : Int) W (SA.out.pass hb) (L7.out.pass hb) (by omega))
              rw [E1, F1] at PCo
              rw [E2, F2] at PCs
              rw [E3, F3] at PCa
              rw [F4, show ((k + j : Nat) : Int) = (k : Int) + (j : Int) by omega] at PKa
              clear E1 E2 E3 F1 F2 F3 F4
              refine (PBo.out _ (Below.refl _ _)).mono ?_
              rintro e w8 ⟨A8, c8, rfl, o8, y⟩
              have S := Lib.hid (same_lit _ _ A8 c8 [0, (k : Int)] 2 rfl (by omega) w8 o8 (fun x hx => wf64 x (by simp at hx; omega)) 3 _ rfl)
              clear o8
              go_wp2_with fail
              refine S.out.mono ?_
              rintro e w9 ⟨rfl, h9⟩
              replace y := y.trans (h9.mono y.size)
              clear h9 S
              go_wp2_with fail
              refine (PBs.out _ y).mono ?_
              rintro e w8 ⟨A8, c8, rfl, o8, h8⟩
              replace y := y.trans (h8.mono y.size)
              have S := Lib.hid (same_lit _ _ A8 c8 [0, (j : Int)] 2 rfl (by omega) w8 o8 (fun x hx => wf64 x (by simp at hx; omega)) 3 _ rfl)
              clear o8 h8
              go_wp2_with fail
              refine S.out.mono ?_
              rintro e w9 ⟨rfl, h9⟩
              replace y := y.trans (h9.mono y.size)
              clear h9 S
              go_wp2_with fail
              refine (PCo.out _ y).mono ?_
              rintro e w8 ⟨rfl, h8⟩
              replace y := y.trans (h8.mono y.size)
              clear h8
              go_wp2_with fail
              refine (PCs.out _ y).mono ?_
              rintro e w8 ⟨rfl, h8⟩
              replace y := y.trans (h8.mono y.size)
              clear h8
              go_wp2_with fail
              refine (PBa.out _ y).mono ?_
              rintro e w8 ⟨A8, c8, rfl, o8, h8⟩
              replace y := y.trans (h8.mono y.size)
              have S := Lib.hid (same_lit _ _ A8 c8 [0, (k : Int), (k : Int) + (j : Int), 2 * (k : Int) + (j : Int)] 4 rfl (by omega) w8 o8 (fun x hx => wf64 x (by simp at hx; omega)) 3 _ rfl)
              clear o8 h8
              go_wp2_with fail
              refine S.out.mono ?_
              rintro e w9 ⟨rfl, h9⟩
              replace y := y.trans (h9.mono y.size)
              clear h9 S
              go_wp2_with fail
              refine (PCa.out _ y).mono ?_
              rintro e w8 ⟨rfl, h8⟩
              replace y := y.trans (h8.mono y.size)
              clear h8
              go_wp2_with fail
              refine (PKa.out _ y).mono ?_
              rintro e w8 ⟨rfl, h8⟩
              replace y := y.trans (h8.mono y.size)
              clear h8
              go_wp2_with fail
              go_ret
              exact ⟨retb (by simp), X7.out.trans (y.mono X7.out.size)⟩
end Go.Proofs.YtefajgfhdnhmmaaDoor
