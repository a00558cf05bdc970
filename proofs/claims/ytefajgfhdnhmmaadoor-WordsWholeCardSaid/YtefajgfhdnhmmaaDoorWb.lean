/- Chapter 8: where words part: the program's way. -/
import Derived.Test.YtefajgfhdnhmmaaDoorWr
namespace Go.Proofs.YtefajgfhdnhmmaaDoor
open Go.ChangeShapes Go.WideShapes Go.ChangeAt Go.RowKit
set_option maxRecDepth 100000
set_option linter.unusedSimpArgs false

theorem own_lit1 (w : World) (e : TypeId) (k : IntKind) (y : Int) (B : Nat) (hB : B ≤ w.heap.size) : Own (w.alloc (.cells #[.int k y] e)) B e k (some ⟨w.heap.size, 0, none⟩) 1 1 [y] := by
  refine ⟨rfl, .inr ⟨w.heap.size, 1, #[.int k y], rfl, hB, heap_alloc_new w _, ?_⟩⟩
  simp [maxLen]
/-- the words' boundaries, as integers -/
def wbI (xs : List Int) : List Int := (wbA (wds xs) (bndA (ks xs))).map Int.ofNat
def wbL (xs : List Int) : List Nat := wbA (wds xs) (bndA (ks xs))
theorem wbI_len (xs : List Int) : (wbI xs).length = (wbL xs).length := by simp [wbI, wbL]

set_option maxHeartbeats 4000000 in
theorem pwb_any (A : Option Addr) (n c : Nat) (xs : List Int) (w : World) (hx : SliceIn .i32 w A n c xs) (hl : Laid w) (hn : (n + 1) * 16 ≤ 140737488355328) :
    Calls Tryd.prog 22 #[.slice A n c] w (NewInts w 3 .i64 (wbL xs).length (wbI xs)) := by
  have PR := Lib.hid (prow_any A n c xs w hx hl hn)
  have hkn : (ks xs).length = n := by rw [ks_len]; exact hx.at_.len
  have hbl := bndN_len (ks xs) ((ks xs).length + 1)
  have e0 : bndN (ks xs) ((ks xs).length + 1) = bndA (ks xs) := rfl
  rw [e0, hkn] at hbl
  have hbz : n = 0 → bndA (ks xs) = [] := fun h => bndA_nil (by omega)
  have hbp : 0 < n → 2 ≤ (bndA (ks xs)).length ∧ atN (bndA (ks xs)) 0 = 0 := fun h => ⟨bndA_two (by omega), (bndA_first (by omega)).1⟩
  unfold wbI wbL
  obtain ⟨bs, hbs⟩ : ∃ bs, bndA (ks xs) = bs := ⟨_, rfl⟩
  obtain ⟨ws, hws⟩ : ∃ ws, wds xs = ws := ⟨_, rfl⟩
  rw [hbs, hws] at PR
  rw [hbs] at hbl hbz hbp
  rw [hbs, hws]
  clear hx hl hkn e0 hbs hws
  rcases Nat.eq_zero_or_pos n with h0 | h0
  · obtain rfl := hbz h0
    subst h0
    clear hbz hbp hbl
    unfold NewRow at PR
    have eL : (wbA ws []).length = 0 := rfl
    have eM : (wbA ws []).map Int.ofNat = [] := rfl
    rw [eL, eM]
    simp only [List.length_nil, Nat.zero_sub] at PR
    clear eL eM
    go_enter Tryd.func22, Tryd.ntmps22
    go_wp2_with fail
    refine PR.out.mono ?_
    rintro e w1 ⟨Ac, cc, Ak, ck, rfl, oc, ok, b1⟩
    have X1 := Lib.hid b1
    clear oc ok b1
    go_wp2_with fail
    go_ret
    exact ⟨none, 0, rfl, Own.nil _ _ _ _, X1.out.alloc (by have := X1.out.size; omega) _⟩
  · obtain ⟨hb2, hb0⟩ := hbp h0
    obtain ⟨m, hm⟩ : ∃ m, bs.length - 1 = m := ⟨_, rfl⟩
    have HM := Lib.hid hm
    have hm1 : 1 ≤ m := by omega
    have hmn : m ≤ n := by omega
    have KL := Lib.hid (kinds_len ws bs m)
    have EA := Lib.hid (show wbA ws bs = wbs bs (kinds ws bs m) (m + 1) by unfold wbA wkinds; rw [hm, show bs.length = m + 1 by omega])
    rw [EA.out]
    unfold NewRow at PR
    rw [hm] at PR
    have ONE := Lib.hid (wbs_one bs (kinds ws bs m))
    rw [hb0] at ONE
    have LEN := Lib.hid (wbs_len bs (kinds ws bs m))
    have LK := Lib.hid (fun (Ac : Option Addr) (cc : Nat) (Ak : Option Addr) (ck k : Nat) (hk : k ≤ m) (W : World) (h : IntsAt W W.heap.size .i64 Ak m (kinds ws bs m)) => phangsW_any Ac m cc Ak m ck (kinds ws bs m) k W h (by omega) (by omega))
    obtain ⟨K, hK⟩ : ∃ K, kinds ws bs m = K := ⟨_, rfl⟩
    rw [hK] at PR KL ONE LEN LK ⊢
    have nz : ((m : Int) == 0) = false := by simp; omega
    clear hbz hbp hb2 hb0 hm hK hbl
    go_enter Tryd.func22, Tryd.ntmps22
    go_wp2_with fail
    refine PR.out.mono ?_
    rintro e w1 ⟨Ac, cc, Ak, ck, rfl, oc, ok, b1⟩
    have X1 := Lib.hid b1
    have OC := Lib.hid oc
    have OK := Lib.hid ok
    have TX := Lib.hid (Two.new w1 75 (.slice Ac m cc) (.slice Ak m ck))
    have z1 := b1.size
    clear oc ok b1
    go_wp2_with fail
    go_loopw [4, 17] (fun u v wr => ∃ (k : Nat) (A' : Option Addr) (c' : Nat), k ≤ m ∧ v = .int .i64 k ∧ u = .slice A' (wbs bs K (k + 1)).length c' ∧ Own wr (w1.heap.size + 1) 3 .i64 A' (wbs bs K (k + 1)).length c' ((wbs bs K (k + 1)).map Int.ofNat) ∧
        Below (w1.heap.size + 1) (w1.alloc (.cells #[.slice Ac m cc, .slice Ak m ck] 75)) wr) (fun _ v _ => m - (intOf v).toNat)
    case atStart =>
      refine ⟨0, _, 1, Nat.zero_le _, rfl, by rw [ONE.out]; rfl, ?_, ?_⟩
      · rw [ONE.out]
        have := own_lit1 (w1.alloc (.cells #[.slice Ac m cc, .slice Ak m ck] 75)) 3 .i64 0 (w1.heap.size + 1) (by simp)
        rw [show (w1.alloc (.cells #[.slice Ac m cc, .slice Ak m ck] 75)).heap.size = w1.heap.size + 1 by simp] at this
        exact this
      · exact (Below.refl _ _).alloc (by simp) _
    case round =>
      obtain ⟨k, A', c', hk, rfl, rfl, ho, hb⟩ := hrel
      have HO := Lib.hid ho
      have HB := Lib.hid hb
      have BX := Lib.hid ((below_alloc w1 (.cells #[.slice Ac m cc, .slice Ak m ck] 75)).trans (hb.mono (Nat.le_succ _)))
      have tr := TX.out.pass hb (by omega)
      have r0 := tr.c0
      have r1 := tr.c1
      have zr := tr.lt
      by_cases hlt : k < m
      · have oc := OC.out.pass BX.out
        have ok := OK.out.pass BX.out
        have OKI := Lib.hid ok.ints
        obtain ⟨gc, rfl, _⟩ := OwnV.form oc (by omega)
        obtain ⟨v1, v2⟩ := cutsV_at (prs bs m) k (by rw [prs_len]; exact hlt)
        have er : rng (prs bs m) k = (atN bs k, atN bs (k + 1)) := by unfold rng prs; simp [hlt]
        rw [er] at v1 v2
        have c0 := (OwnV.cellAt oc (k * 2) (by omega)).trans v1
        have c1 := (OwnV.cellAt oc (k * 2 + 1) (by omega)).trans v2
        have hll := LEN.out (k + 1)
        have HG := Lib.hid (fun W (hW : Below wr.heap.size wr W) => LK.out (some ⟨gc, 0, none⟩) cc Ak ck k hk W (OKI.out.later hW))
        have tA := tr.alloc (.cells #[.int .i64 (atN bs k : Int), .int .i64 (atN bs (k + 1) : Int)] 24)
        have a0 := tA.c0
        have a1 := tA.c1
        have EY := Lib.hid (fun h => wbs_yes (bs := bs) (K := K) (j := k + 1) h)
        have EN := Lib.hid (fun h => wbs_no (bs := bs) (K := K) (j := k + 1) h)
        have el : ((k : Int) + 1 == (m : Int)) = decide (k + 1 = m) := by rw [Bool.eq_iff_iff]; simp; omega
        generalize atN bs k = f at *
        generalize atN bs (k + 1) = t at *
        have BA := Lib.hid (below_alloc wr (.cells #[.int .i64 (f : Int), .int .i64 (t : Int)] 24))
        clear oc ok v1 v2 er ho hb tr tA
        by_cases hlast : k + 1 = m
        · have l1 : ((k : Int) + 1 == (m : Int)) = true := by rw [el]; simpa using hlast
          have E1 := Lib.hid (EY.out (by rw [hlast]; unfold wisB; rw [KL.out]; simp))
          have OA := Lib.hid (OwnV.alloc HO.out (.cells #[.int .i64 (f : Int), .int .i64 (t : Int)] 24))
          have BB := Lib.hid (HB.out.alloc (by have := HB.out.size; omega) (.cells #[.int .i64 (f : Int), .int .i64 (t : Int)] 24))
          clear el hlast
          go_wp2_with (at_builtin; refine wpList_push TIg rfl (.tmp 34) (.tmp 37) rfl rfl (OwnV.alloc OA.out _) rfl (y := (t : Int)) (cell_newN _ _ _ _ (by simp)) (by omega) (by simp; omega) ?_; intro A4 c4 w4 o4 b4)
          have b5 := (BB.out.alloc (by have := BB.out.size; simp at this ⊢; omega) (.cells #[.int .i64 (t : Int)] 3)).trans b4
          go_roundw
          case rel => exact ⟨k + 1, A4, c4, by omega, by go_num, by rw [E1.out]; simp, by rw [E1.out]; exact own_congrG o4 (by simp) (by simp), b5⟩
          case measure => simp [intOf] <;> omega
        · have l1 : ((k : Int) + 1 == (m : Int)) = false := by rw [el]; simpa using hlast
          have ew : wisB K (k + 1) = !whang K (k + 1) := wisB_mid (by omega) (by rw [KL.out]; omega)
          obtain ⟨b, hbw⟩ : ∃ b, whang K (k + 1) = b := ⟨_, rfl⟩
          rw [hbw] at HG ew
          have OA := Lib.hid (OwnV.alloc HO.out (.cells #[.int .i64 (f : Int), .int .i64 (t : Int)] 24))
          have BB := Lib.hid (HB.out.alloc (by have := HB.out.size; omega) (.cells #[.int .i64 (f : Int), .int .i64 (t : Int)] 24))
          cases b
          · have E1 := Lib.hid (EY.out ew)
            clear el hlast ew hbw
            go_wp2_with fail
            refine (HG.out _ BA.out).mono ?_
            rintro e w3 ⟨rfl, b3⟩
            have O3 := Lib.hid (OwnV.pass OA.out b3)
            have B3 := Lib.hid (BB.out.trans (b3.mono (by have := BB.out.size; simpa using this)))
            have hf : ∀ o, w3.cell? ⟨wr.heap.size, o, none⟩ = #[Value.int .i64 (f : Int), .int .i64 (t : Int)][o]? := fun o => (b3.cell (p := ⟨wr.heap.size, o, none⟩) (by simp)).trans (by rw [cell_of_row _ _ _ _ _ _ (heap_alloc_new wr _)])
            have g1 := hf 1
            have z3 := b3.size
            clear hf b3
            go_wp2_with (at_builtin; refine wpList_push TIg rfl (.tmp 34) (.tmp 37) rfl rfl (OwnV.alloc O3.out _) rfl (y := (t : Int)) (cell_new _ _ _) (by omega) (by simp at z3 ⊢; omega) ?_; intro A4 c4 w4 o4 b4)
            have b5 := (B3.out.alloc (by have := B3.out.size; simp at this ⊢; omega) (.cells #[.int .i64 (t : Int)] 3)).trans b4
            go_roundw
            case rel => exact ⟨k + 1, A4, c4, by omega, by go_num, by rw [E1.out]; simp, by rw [E1.out]; exact own_congrG o4 (by simp) (by simp), b5⟩
            case measure => simp [intOf] <;> omega
          · have E1 := Lib.hid (EN.out ew)
            clear el hlast ew hbw
            go_wp2_with fail
            refine (HG.out _ BA.out).mono ?_
            rintro e w3 ⟨rfl, b3⟩
            have O3 := Lib.hid (OwnV.pass OA.out b3)
            have B3 := Lib.hid (BB.out.trans (b3.mono (by have := BB.out.size; simpa using this)))
            clear b3
            go_wp2_with fail
            go_roundw
            case rel => exact ⟨k + 1, A', c', by omega, by go_num, by rw [E1.out], by rw [E1.out]; exact O3.out, B3.out⟩
            case measure => simp [intOf] <;> omega
      · obtain rfl : k = m := by omega
        clear ho hb tr
        go_wp2_with fail
        go_ret
        have x9 := X1.out.trans (BX.out.mono z1)
        exact ⟨A', c', rfl, Own.moreG HO.out (by omega), x9⟩
end Go.Proofs.YtefajgfhdnhmmaaDoor
