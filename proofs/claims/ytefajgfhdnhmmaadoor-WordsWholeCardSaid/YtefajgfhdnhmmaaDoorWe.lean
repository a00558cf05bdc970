/- Chapter 8: where words part: the reference's way. -/
import Derived.Test.YtefajgfhdnhmmaaDoorWg
namespace Go.Proofs.YtefajgfhdnhmmaaDoor
open Go.ChangeShapes Go.WideShapes Go.ChangeAt Go.RowKit
set_option maxRecDepth 100000
set_option linter.unusedSimpArgs false

set_option maxHeartbeats 8000000 in
theorem rwb_any (A : Option Addr) (n c : Nat) (xs : List Int) (w : World) (hx : SliceIn .i32 w A n c xs) (hn : (n + 1) * 16 ≤ 140737488355328) :
    Calls Tryd.prog 23 #[.slice A n c] w (NewInts w 3 .i64 (wbL xs).length (wbI xs)) := by
  have PB := Lib.hid (rbounds_any A n c xs w hx (by omega))
  have PK := Lib.hid (fun (f t : Nat) (h1 : f ≤ t) (h2 : t ≤ n) W (hb : Below w.heap.size w W) => rkind_any A n c xs f t h1 h2 W (hx.pass hb) (by omega))
  have hkn : (ks xs).length = n := by rw [ks_len]; exact hx.at_.len
  have hbl := bndN_len (ks xs) ((ks xs).length + 1)
  have e0 : bndN (ks xs) ((ks xs).length + 1) = bndA (ks xs) := rfl
  rw [e0, hkn] at hbl
  have RISE := Lib.hid (bndA_Rise (ks xs))
  have TOP := Lib.hid (fun i (hi : i < (bndA (ks xs)).length) => (show atN (bndA (ks xs)) i ≤ n by
    have := (bndN_mem (ks := ks xs) (m := (ks xs).length + 1) (x := atN (bndA (ks xs)) i) (atN_mem hi)).1
    omega))
  rw [bounds_map] at PB
  unfold wbI wbL
  obtain ⟨bs, hbs⟩ : ∃ bs, bndA (ks xs) = bs := ⟨_, rfl⟩
  obtain ⟨ws, hws⟩ : ∃ ws, wds xs = ws := ⟨_, rfl⟩
  rw [hbs] at PB RISE TOP hbl
  rw [hws] at PK
  rw [hbs, hws]
  obtain ⟨L, hL⟩ : ∃ L, bs.length = L := ⟨_, rfl⟩
  obtain ⟨m, hm⟩ : ∃ m, L - 1 = m := ⟨_, rfl⟩
  have HL := Lib.hid hL
  have EA := Lib.hid (show wbA ws bs = wbs bs (kinds ws bs m) L by unfold wbA wkinds; rw [hL, hm])
  rw [EA.out]
  rw [hL] at PB TOP hbl
  have KL := Lib.hid (kinds_len ws bs m)
  have LEN := Lib.hid (wbs_len bs (kinds ws bs m))
  clear hx hkn e0 hbs hws hL
  go_enter Tryd.func23, Tryd.ntmps23
  go_wp2_with fail
  refine PB.out.mono ?_
  rintro e w1 ⟨Ab, cb, rfl, ob, b1⟩
  have X1 := Lib.hid b1
  have OB := Lib.hid ob
  have z1 := b1.size
  clear ob b1
  go_wp2_with fail
  go_loopw [4, 5] (fun u v wr => ∃ (k : Nat) (Ak : Option Addr) (ck : Nat), k ≤ m ∧ v = .int .i64 k ∧ u = .slice Ak k ck ∧ Own wr w1.heap.size 3 .i64 Ak k ck (kinds ws bs k) ∧ Below w1.heap.size w1 wr) (fun _ v _ => m - (intOf v).toNat)
  case atStart => exact ⟨0, none, 0, Nat.zero_le _, rfl, rfl, Own.nil _ _ _ _, Below.refl _ _⟩
  case round =>
    obtain ⟨k, Ak, ck, hk, rfl, rfl, ho, hb⟩ := hrel
    have HO := Lib.hid ho
    have HB := Lib.hid hb
    by_cases hlt : k < m
    · have ob := OB.out.pass hb
      obtain ⟨gb, rfl, _⟩ := OwnV.form ob (by omega)
      have c0 := own_cellG ob (j := k) (by omega)
      have c1 := own_cellG ob (j := k + 1) (by omega)
      rw [nth_map (by rw [HL.out]; omega)] at c0 c1
      have hft := RISE.out k (by rw [HL.out]; omega)
      have htn := TOP.out (k + 1) (by omega)
      have KK := Lib.hid (PK.out (atN bs k) (atN bs (k + 1)) (Nat.le_of_lt hft) htn)
      have ek : kindF ws (atN bs k) (atN bs (k + 1) - atN bs k) = kindN ws bs k := rfl
      rw [ek] at KK
      have EK := Lib.hid (kinds_succ ws bs k)
      have BW := Lib.hid (X1.out.trans (hb.mono z1))
      have l1 : (k : Int) + 1 < (L : Int) := by omega
      generalize kindN ws bs k = q at *
      generalize atN bs k = f at *
      generalize atN bs (k + 1) = t at *
      clear ob ho hb hft htn ek
      go_wp2_with fail
      have wk : IntKind.i64.wrap (k : Int) = (k : Int) := IntWalk.i64_in _ (by omega)
      have wk2 : IntKind.i64.wrap ((k : Int) + 1) = (k : Int) + 1 := IntWalk.i64_in _ (by omega)
      have tn : ((k : Int) + 1).toNat = k + 1 := by omega
      have p0 : (0 : Int) ≤ (k : Int) := by omega
      have p1 : (k : Int) < (L : Int) := by omega
      have p2 : (0 : Int) ≤ (k : Int) + 1 := by omega
      go_region_law ((first
        | (refine step_call 56 [.tmp 18, .tmp 22, .tmp 27] #[22, 3, 3] (by rfl) (by rfl) enters_rkind (by rfl) (KK.out _ BW.out.drew) ?_
           intro w4 h4
           have o4 := OwnV.pass (OwnV.drew HO.out) h4
           have b4 : Below w1.heap.size w1 w4 := HB.out.drew.trans (h4.mono (by have := HB.out.size; simpa using this)))
        | (refine step_push TIg (by rfl) (.tmp 17) (.tmp 29) (by rfl) (by rfl) (OwnV.alloc o4 _) (by rfl) (y := q) (cell_new _ _ _) (by omega) (by have := b4.size; simp; omega) ?_
           intro A5 c5 w5 o5 b5
           have b6 : Below w1.heap.size w1 w5 := (b4.alloc (by have := b4.size; omega) _).trans b5)))
      all_goals
        clear wk wk2 tn
        go_wp2_with fail
        go_roundw
        case rel => exact ⟨k + 1, A5, c5, by omega, by go_num, rfl, by rw [EK.out]; exact o5, b6⟩
        case measure => simp [intOf] <;> omega
    · obtain rfl : k = m := by omega
      have l1 : ¬ ((k : Int) + 1 < (L : Int)) := by omega
      have OB2 := Lib.hid (OB.out.pass hb)
      have LK := Lib.hid (fun (Ak : Option Addr) (ck j : Nat) (hj : j + 1 < k) (W : World) (h : IntsAt W W.heap.size .i64 Ak k (kinds ws bs k)) => rwhang_any Ak k ck (kinds ws bs k) j hj W h (by omega))
      obtain ⟨K, hK⟩ : ∃ K, kinds ws bs k = K := ⟨_, rfl⟩
      have KE := Lib.hid hK
      rw [hK] at LK HO KL LEN
      have OKI := Lib.hid HO.out
      clear ho hb hK
      go_wp2_with fail
      go_loopw [6, 7] (fun u v w3 => ∃ (j : Nat) (A' : Option Addr) (c' : Nat), j ≤ L ∧ v = .int .i64 j ∧ u = .slice A' (wbs bs K j).length c' ∧ Own w3 wr.heap.size 3 .i64 A' (wbs bs K j).length c' ((wbs bs K j).map Int.ofNat) ∧ Below wr.heap.size wr w3) (fun _ v _ => L - (intOf v).toNat)
      case atStart => exact ⟨0, none, 0, Nat.zero_le _, rfl, rfl, Own.nil _ _ _ _, Below.refl _ _⟩
      case round =>
        obtain ⟨j, A', c', hj, rfl, rfl, ho3, hb3⟩ := hrel
        have HO3 := Lib.hid ho3
        have HB3 := Lib.hid hb3
        have hll := LEN.out j
        by_cases hlt3 : j < L
        · have ok := OKI.out.pass hb3
          have ob := OB2.out.pass hb3
          obtain ⟨gb, rfl, _⟩ := OwnV.form ob (by omega)
          have c0 := own_cellG ob (j := j) hlt3
          rw [nth_map (by rw [HL.out]; exact hlt3)] at c0
          have EY := Lib.hid (fun h => wbs_yes (bs := bs) (K := K) (j := j) h)
          have EN := Lib.hid (fun h => wbs_no (bs := bs) (K := K) (j := j) h)
          have l2 : (j : Int) < (L : Int) := by omega
          generalize atN bs j = f at *
          rcases Nat.eq_zero_or_pos j with hj0 | hj0
          · subst hj0
            have E1 := Lib.hid (EY.out rfl)
            clear ok ob ho3 hb3
            go_wp2_with (at_builtin; refine wpList_push TIg rfl (.tmp 51) (.tmp 56) rfl rfl (OwnV.alloc HO3.out _) rfl (y := (f : Int)) (cell_newN _ _ _ _ (by simp)) (by omega) (by have := HB3.out.size; simp; omega) ?_; intro A4 c4 w4 o4 b4)
            have b5 := (HB3.out.alloc (by have := HB3.out.size; omega) (.cells #[.int .i64 (f : Int)] 3)).trans b4
            go_roundw
            case rel => exact ⟨0 + 1, A4, c4, by omega, by go_num, by rw [E1.out]; simp, by rw [E1.out]; exact own_congrG o4 (by simp) (by simp), b5⟩
            case measure => simp [intOf] <;> omega
          · have nz : ((j : Int) == 0) = false := by simp; omega
            by_cases hjk : j = k
            · have jk : ((j : Int) == (k : Int)) = true := by simp; omega
              have E1 := Lib.hid (EY.out (by rw [hjk]; unfold wisB; rw [KL.out]; simp))
              clear ok ob ho3 hb3 hjk
              go_wp2_with (at_builtin; refine wpList_push TIg rfl (.tmp 51) (.tmp 56) rfl rfl (OwnV.alloc HO3.out _) rfl (y := (f : Int)) (cell_newN _ _ _ _ (by simp)) (by omega) (by have := HB3.out.size; simp; omega) ?_; intro A4 c4 w4 o4 b4)
              have b5 := (HB3.out.alloc (by have := HB3.out.size; omega) (.cells #[.int .i64 (f : Int)] 3)).trans b4
              go_roundw
              case rel => exact ⟨j + 1, A4, c4, by omega, by go_num, by rw [E1.out]; simp, by rw [E1.out]; exact own_congrG o4 (by simp) (by simp), b5⟩
              case measure => simp [intOf] <;> omega
            · have jk : ((j : Int) == (k : Int)) = false := by simp; omega
              obtain ⟨i, rfl⟩ : ∃ i, j = i + 1 := ⟨j - 1, by omega⟩
              have ew : wisB K (i + 1) = !whang K (i + 1) := wisB_mid (by omega) (by rw [KL.out]; omega)
              have HG := Lib.hid (LK.out Ak ck i (by omega) wr ok.ints)
              obtain ⟨b, hbw⟩ : ∃ b, whang K (i + 1) = b := ⟨_, rfl⟩
              rw [hbw] at HG ew
              have ei : ((i + 1 : Nat) : Int) = (i : Int) + 1 := by omega
              rw [ei] at nz jk l2 ⊢
              cases b
              · have E1 := Lib.hid (EY.out ew)
                clear ok ob ho3 hb3 hjk ew hbw ei
                go_wp2_with fail
                refine HG.out.mono ?_
                rintro e w4 ⟨rfl, b3⟩
                have O3 := Lib.hid (OwnV.pass HO3.out b3)
                have B3 := Lib.hid (HB3.out.trans (b3.mono HB3.out.size))
                have c1 := cell_pass c0 b3
                clear b3
                go_wp2_with (at_builtin; refine wpList_push TIg rfl (.tmp 51) (.tmp 56) rfl rfl (OwnV.alloc O3.out _) rfl (y := (f : Int)) (cell_newN _ _ _ _ (by simp)) (by omega) (by have := B3.out.size; simp; omega) ?_; intro A5 c5 w5 o5 b5)
                have b6 := (B3.out.alloc (by have := B3.out.size; omega) (.cells #[.int .i64 (f : Int)] 3)).trans b5
                go_roundw
                case rel => exact ⟨i + 1 + 1, A5, c5, by omega, by go_num, by rw [E1.out]; simp, by rw [E1.out]; exact own_congrG o5 (by simp) (by simp), b6⟩
                case measure => simp [intOf] <;> omega
              · have E1 := Lib.hid (EN.out ew)
                clear ok ob ho3 hb3 hjk ew hbw ei
                go_wp2_with fail
                refine HG.out.mono ?_
                rintro e w4 ⟨rfl, b3⟩
                have O3 := Lib.hid (OwnV.pass HO3.out b3)
                have B3 := Lib.hid (HB3.out.trans (b3.mono HB3.out.size))
                clear b3
                go_wp2_with fail
                go_roundw
                case rel => exact ⟨i + 1 + 1, A', c', by omega, by go_num, by rw [E1.out], by rw [E1.out]; exact O3.out, B3.out⟩
                case measure => simp [intOf] <;> omega
        · obtain rfl : j = L := by omega
          clear ho3 hb3
          go_wp2_with fail
          go_ret
          have zz := HB.out.size
          exact ⟨A', c', by rw [KE.out]; rfl, by rw [KE.out]; exact Own.moreG HO3.out (by omega), X1.out.trans ((HB.out.mono z1).trans (HB3.out.mono (by omega)))⟩
end Go.Proofs.YtefajgfhdnhmmaaDoor
