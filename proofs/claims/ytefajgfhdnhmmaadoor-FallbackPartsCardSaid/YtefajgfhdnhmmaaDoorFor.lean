/- Chapter 23: the fonts of a text, as spans; the reference's way. -/
import Derived.Test.YtefajgfhdnhmmaaDoorFof
import Derived.Test.YtefajgfhdnhmmaaDoorFpickr
import Derived.Test.YtefajgfhdnhmmaaDoorSt
namespace Go.Proofs.YtefajgfhdnhmmaaDoor
open Go.ChangeShapes Go.WideShapes Go.ChangeAt Go.RowKit
set_option maxRecDepth 100000
set_option linter.unusedSimpArgs false

set_option maxHeartbeats 8000000 in
theorem rfOf_any (A : Option Addr) (n c : Nat) (fs : List Fd) (A2 : Option Addr) (n2 c2 : Nat) (xs : List Int) (A3 : Option Addr) (n3 c3 : Nat) (sp : List Sp) (w : World) (hF : FontsAt w w.heap.size A n fs) (hx : SliceIn .i32 w A2 n2 c2 xs) (hS : SpansAt w w.heap.size A3 n3 sp)
    (hm : ∀ j, j < n → (fnth fs j).mn ≤ 140737488355328) (hn2 : (n2 + 1) * 24 ≤ 140737488355328) (hn : n ≤ 140737488355328) (hn3 : n3 ≤ 140737488355328) :
    Calls Tryd.prog 35 #[.slice A n c, .slice A2 n2 c2, .slice A3 n3 c3] w (NewSpans w (fontS fs sp xs)) := by
  have PC := Lib.hid (rbounds_any A2 n2 c2 xs w hx (by omega))
  obtain ⟨hri, hb0, hbl, htop, _, _⟩ := bnd_facts hx.at_.len
  have PK := Lib.hid (fun (f t k : Nat) (h1 : f ≤ t) (h2 : t ≤ n2) (A4 : Option Addr) (c4 : Nat) (CH : CutRun Tryd.prog 22 A2 n2 c2 (some (.int .i64 (f : Int))) (some (.int .i64 (t : Int))) f t (t - f) A4 c4) (ahead : Int) (W : World) (hb : Below w.heap.size w W) =>
    rpick_any A n c fs (spAt sp f) A4 (t - f) c4 ((xs.take t).drop f) ahead W (hF.later hb) ((CH.sliceIn hx).pass hb) hm (by omega) hn)
  have PA := Lib.hid (fun (i : Int) (W : World) (hb : Below w.heap.size w W) => rspAt_any A3 n3 c3 sp i W (hS.later hb) hn3)
  have hle2 := hx.le
  have HN24 := Lib.hid hn2
  have hn2' : n2 ≤ 5864062014805 := by clear PC PK PA htop hri hb0 hbl; omega
  unfold fontS
  rw [bounds_map] at PC
  obtain ⟨bs, hbs⟩ : ∃ bs, bndA (ks xs) = bs := ⟨_, rfl⟩
  rw [hbs] at PC hri hb0 hbl htop ⊢
  obtain ⟨m, hmm⟩ : ∃ m, bs.length - 1 = m := ⟨_, rfl⟩
  obtain ⟨L, hL⟩ : ∃ L, bs.length = L := ⟨_, rfl⟩
  have HL := Lib.hid hL
  rw [hL] at PC hbl htop hmm
  rw [show bs.length - 1 = m by rw [hL]; exact hmm]
  have hmn : m ≤ n2 := by omega
  have FX := Lib.hid (fun k => (show fontA fs sp xs bs (k + 1) = pickV fs (spAt sp (atN bs k)) ((xs.take (atN bs (k + 1))).drop (atN bs k)) (fontA fs sp xs bs k) from rfl))
  have RI := Lib.hid hri
  have TOP := Lib.hid htop
  have A0 := Lib.hid (show fontA fs sp xs bs 0 = -1 from rfl)
  have VL := Lib.hid (fun k (hk : k < bs.length ∨ k = 0) => clV_len (a := fontA fs sp xs bs) hri hb0 k hk)
  have VS := Lib.hid (fun k (hk : k < bs.length ∨ k = 0) => clS_val (a := fontA fs sp xs bs) hri hb0 k hk)
  have CS := Lib.hid (fun k => (show clV bs (fontA fs sp xs bs) (k + 1) = clV bs (fontA fs sp xs bs) k ++ List.replicate (atN bs (k + 1) - atN bs k) (fontA fs sp xs bs (k + 1)) from rfl))
  generalize fontA fs sp xs bs = a at *
  have hmL : m < L ∨ m = 0 := by omega
  clear hF hx hS hm hbs hri hb0 htop hn2 hL
  go_enter Tryd.func35, Tryd.ntmps35
  go_wp2_with fail
  refine PC.out.mono ?_
  rintro e w1 ⟨Ab, cb, rfl, ob, b1⟩
  have X1 := Lib.hid b1
  have OB := Lib.hid ob
  have z1 := b1.size
  clear ob b1
  go_wp2_with fail
  go_loopw [8, 9, 10] (fun u x v wr => ∃ (k : Nat) (A' : Option Addr) (c' : Nat), k ≤ m ∧ v = .int .i64 k ∧ x = .int .i64 (a k) ∧ u = .slice A' (clV bs a k).length c' ∧ Own wr w1.heap.size 3 .i64 A' (clV bs a k).length c' (clV bs a k) ∧ Below w1.heap.size w1 wr) (fun _ _ v _ => m - (intOf v).toNat)
  case atStart => exact ⟨0, none, 0, Nat.zero_le _, rfl, by rw [A0.out], rfl, Own.nil _ _ _ _, Below.refl _ _⟩
  case round =>
    obtain ⟨k, A', c', hk, rfl, rfl, rfl, ho, hb⟩ := hrel
    have HO := Lib.hid ho
    have HB := Lib.hid hb
    by_cases hlt : k < m
    · have ob := OB.out.pass hb
      obtain ⟨gb, rfl, _⟩ := OwnV.form ob (by omega)
      have c0 := own_cellG ob (j := k) (by omega)
      have c1 := own_cellG ob (j := k + 1) (by omega)
      rw [nth_map (by rw [HL.out]; omega)] at c0 c1
      have hft := RI.out k (by rw [HL.out]; omega)
      have htn := TOP.out (k + 1) (by omega)
      have EVL := VL.out k (by rw [HL.out]; omega)
      have ECS := Lib.hid (CS.out k)
      have EV1 := Lib.hid (VL.out (k + 1) (by rw [HL.out]; omega))
      have EF := FX.out k
      obtain ⟨A4, c4, CH⟩ := cut_lh TI32w A2 n2 c2 (atN bs k) (atN bs (k + 1)) (Nat.le_of_lt hft) htn hle2 (atN bs k) (atN bs (k + 1)) rfl rfl
      have rh := CH.run
      have QK := Lib.hid (PK.out (atN bs k) (atN bs (k + 1)) k (Nat.le_of_lt hft) htn A4 c4 CH (a k))
      rw [← EF] at QK
      have QA := Lib.hid (PA.out (atN bs k : Int))
      obtain ⟨b, hba⟩ : ∃ b, a (k + 1) = b := ⟨_, rfl⟩
      rw [hba] at QK ECS
      have HBA := Lib.hid hba
      have l1 : (k : Int) + 1 < (L : Int) := by omega
      generalize spAt sp (atN bs k : Int) = pre at *
      rw [EVL] at HO ⊢
      generalize atN bs k = f at *
      generalize atN bs (k + 1) = t at *
      have k0 := later_cell c0
      have k1 := later_cell c1
      have BW := Lib.hid (X1.out.trans (hb.mono z1))
      have RK := Lib.hid (fun N : Later wr => QK.out N.1 (BW.out.trans (N.2.mono BW.out.size)))
      have RA := Lib.hid (fun N : Later wr => QA.out N.1 (BW.out.trans (N.2.mono BW.out.size)))
      have hkL : k + 1 < L := by omega
      clear ob ho hb EF CH QK QA hba c0 c1 EVL
      go_wp2_with fail
      have p0 : (0 : Int) ≤ (k : Int) := by omega
      have p1 : (k : Int) < (L : Int) := by omega
      have p2 : (0 : Int) ≤ (k : Int) + 1 := by omega
      have wk1 : IntKind.i64.wrap (k : Int) = (k : Int) := IntWalk.i64_in _ (by omega)
      have wk2 : IntKind.i64.wrap ((k : Int) + 1) = (k : Int) + 1 := IntWalk.i64_in _ (by omega)
      have tn : ((k : Int) + 1).toNat = k + 1 := by omega
      refine wp_region_later (by kernel_rfl) (by kernel_rfl) ?_
      repeat (go_big_quiet_step ((first | (go_at_call 69; with_reducible exact quiet_later (RA.out _)) | (go_at_call 68; with_reducible exact quiet_later (RK.out _)))))
      refine wpQuiet_nil ?_
      intro _ hw'
      obtain ⟨nq, hw''⟩ := hw'
      subst hw''
      have BN := Lib.hid (HB.out.trans (nq.2.mono HB.out.size))
      have ON := Lib.hid (HO.out.pass nq.2)
      have e0 := k0 nq
      have e1 := k1 nq
      have e1k := Lib.hid e1
      generalize nq.1 = W at *
      clear k0 k1 RK RA nq rh wk1 wk2 tn
      have hWz := BN.out.size
      go_wp2_with fail
      have hft2 : f ≤ t := Nat.le_of_lt hft
      go_loopw [8, 11] (fun u v w2 => ∃ (j : Nat) (A5 : Option Addr) (c5 : Nat), f ≤ j ∧ j ≤ t ∧ v = .int .i64 j ∧ u = .slice A5 j c5 ∧ Own w2 w1.heap.size 3 .i64 A5 j c5 (clV bs a k ++ List.replicate (j - f) b) ∧ w2.cell? ⟨gb, k + 1, none⟩ = some (.int .i64 (t : Int)) ∧ Below w1.heap.size w1 w2) (fun _ v _ => t - (intOf v).toNat)
      case atStart => exact ⟨f, A', c', Nat.le_refl _, hft2, rfl, rfl, by rw [Nat.sub_self]; simpa using ON.out, e1k.out, BN.out⟩
      case round =>
        obtain ⟨j, A5, c5, hj1, hj2, rfl, rfl, ho5, hc5, hb5⟩ := hrel
        have HO5 := Lib.hid ho5
        have HB5 := Lib.hid hb5
        have HC5 := Lib.hid hc5
        by_cases hjt : j < t
        · have er : List.replicate (j + 1 - f) b = List.replicate (j - f) b ++ [b] := by rw [show j + 1 - f = (j - f) + 1 by omega, List.replicate_succ']
          have ER := Lib.hid er
          have l3 : (j : Int) < (t : Int) := by omega
          have hgb : gb < w1.heap.size := by have := OB.out.ltH; omega
          clear ho5 hb5 er e0 e1
          go_wp2_with (at_builtin; refine wpList_push TIg rfl (.tmp 54) (.tmp 56) rfl rfl (OwnV.alloc HO5.out _) rfl (y := b) (cell_newN _ _ _ _ (by simp)) (by omega) (by have := HB5.out.size; simp; omega) ?_; intro A6 c6 w6 o6 b6)
          have hbw := (HB5.out.alloc (by have := HB5.out.size; omega) (.cells #[.int .i64 b] 3)).trans b6
          have hc6 : w6.cell? ⟨gb, k + 1, none⟩ = some (.int .i64 (t : Int)) := (b6.cell (p := ⟨gb, k + 1, none⟩) hgb).trans (cell_alloc HC5.out _)
          go_roundw
          case rel => exact ⟨j + 1, A6, c6, by omega, by omega, by go_num, rfl, by rw [ER.out, ← List.append_assoc]; exact o6, hc6, hbw⟩
          case measure => simp [intOf] <;> omega
        · obtain rfl : j = t := by omega
          clear ho5 hb5 e0 e1
          have l3 : ¬ (j : Int) < (j : Int) := by omega
          go_wp2_with fail
          go_roundw
          case rel => exact ⟨k + 1, A5, c5, by omega, by go_num, by rw [HBA.out], by rw [EV1.out], by rw [EV1.out, ECS.out]; exact HO5.out, HB5.out⟩
          case measure => simp [intOf] <;> omega
    · obtain rfl : k = m := by omega
      have l1 : ¬ (k : Int) + 1 < (L : Int) := by omega
      have EVL := VL.out k (by rw [HL.out]; exact hmL)
      have EVS := Lib.hid (VS.out k (by rw [HL.out]; exact hmL))
      have htk : atN bs k ≤ n2 := by
        rcases hmL with h | h
        · exact TOP.out k h
        · subst h
          rcases Nat.eq_zero_or_pos L with h2 | h2
          · have : bs = [] := List.eq_nil_of_length_eq_zero (by rw [HL.out]; exact h2)
            rw [this]; exact Nat.zero_le _
          · exact TOP.out 0 h2
      rw [EVL] at HO ⊢
      have R5 := Lib.hid (r05Of_any A' (atN bs k) c' (clV bs a k) wr HO.out.ints (Nat.le_trans (Nat.mul_le_mul_right 24 (by omega)) HN24.out))
      rw [EVS.out] at R5
      clear ho hb EVL
      go_wp2_with fail
      refine R5.out.mono ?_
      rintro e w9 ⟨A9, c9, rfl, o9, b9⟩
      have hbw := X1.out.trans ((HB.out.trans (b9.mono HB.out.size)).mono z1)
      have hzz := HB.out.size
      go_wp2_with fail
      go_ret
      exact ⟨A9, c9, rfl, Own.moreG o9 (by omega), hbw⟩
end Go.Proofs.YtefajgfhdnhmmaaDoor
