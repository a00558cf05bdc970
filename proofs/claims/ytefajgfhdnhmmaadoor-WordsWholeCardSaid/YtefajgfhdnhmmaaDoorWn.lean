/- Chapter 8: how many words there are, both ways; the walk of WordsKinds. -/
import Derived.Test.YtefajgfhdnhmmaaDoorWd
import Derived.Test.YtefajgfhdnhmmaaDoorWl
namespace Go.Proofs.YtefajgfhdnhmmaaDoor
open Go.ChangeShapes Go.WideShapes Go.ChangeAt Go.RowKit
set_option maxRecDepth 100000
set_option linter.unusedSimpArgs false

theorem letters_b (k : Int) (b : Bool) (h : solB k = b) (w : World) : Calls Tryd.prog 50 #[.int .i64 k] w fun e w' => e = .returned (.bool b) ∧ Below w.heap.size w w' := by
  subst h
  exact (letters_any k w).mono fun e w' h => ⟨h.1, by rw [← h.2]; exact Below.refl _ _⟩

set_option maxHeartbeats 4000000 in
theorem pcountW_any (A : Option Addr) (n c : Nat) (xs : List Int) (w : World) (hx : SliceIn .i32 w A n c xs) (hl : Laid w) (hn : (n + 1) * 16 ≤ 140737488355328) :
    Calls Tryd.prog 18 #[.slice A n c] w fun e w' => e = .returned (.int .i64 ((countW (wds xs) (wbL xs) : Nat) : Int)) ∧ Below w.heap.size w w' := by
  have PB := Lib.hid (pwb_any A n c xs w hx hl hn)
  have PK := Lib.hid (fun (f t : Int) (W : World) (hb : Below w.heap.size w W) => pkindS_any A n c xs f t W (hx.pass hb) (hl.pass hb) (by omega))
  have hll := wbL_len hx.at_.len
  have EW := Lib.hid (show wbI xs = (wbL xs).map Int.ofNat from rfl)
  clear hx hl
  unfold countW
  generalize wbL xs = l at *
  generalize wbI xs = wi at *
  generalize wds xs = ws at *
  obtain ⟨L, hL⟩ : ∃ L, l.length = L := ⟨_, rfl⟩
  have HL := Lib.hid hL
  rw [hL] at PB hll ⊢
  clear hL
  go_enter Tryd.func18, Tryd.ntmps18
  go_wp2_with fail
  refine PB.out.mono ?_
  rintro e w1 ⟨Ab, cb, rfl, ob, b1⟩
  rw [EW.out] at ob
  have X1 := Lib.hid b1
  have OB := Lib.hid ob
  have z1 := b1.size
  clear ob b1
  go_wp2_with fail
  go_loopw [3, 5] (fun u v wr => ∃ k : Nat, (k + 1 ≤ L ∨ k = 0) ∧ v = .int .i64 ((k : Int) + 1) ∧ u = .int .i64 ((cntW ws l k : Nat) : Int) ∧ Below w1.heap.size w1 wr) (fun _ v _ => L + 1 - (intOf v).toNat)
  case atStart => exact ⟨0, .inr rfl, rfl, rfl, Below.refl _ _⟩
  case round =>
    obtain ⟨k, hk, rfl, rfl, hb⟩ := hrel
    have HB := Lib.hid hb
    have hcl := cntW_le ws l k
    by_cases hlt : k + 1 < L
    · have ob := OB.out.pass hb
      obtain ⟨gb, rfl, _⟩ := OwnV.form ob (by omega)
      have c0 := own_cellG ob (j := k) (by omega)
      have c1 := own_cellG ob (j := k + 1) hlt
      rw [nth_map (by rw [HL.out]; omega)] at c0 c1
      have k0 := later_cell c0
      have k1 := later_cell c1
      have BW := Lib.hid (X1.out.trans (hb.mono z1))
      have KQ := Lib.hid (fun N : Later wr => PK.out (atN l k) (atN l (k + 1)) N.1 (BW.out.trans (N.2.mono BW.out.size)))
      have EY := Lib.hid (fun h => cntW_yes (ws := ws) (B := l) (k := k) h)
      have EN := Lib.hid (fun h => cntW_no (ws := ws) (B := l) (k := k) h)
      generalize kindC ws (atN l k) (atN l (k + 1)) = q at *
      generalize atN l k = f at *
      generalize atN l (k + 1) = t at *
      generalize cntW ws l k = cw at *
      have l1 : (k : Int) + 1 < (L : Int) := by omega
      have p0 : (0 : Int) ≤ (k : Int) := by omega
      have p1 : (k : Int) < (L : Int) := by omega
      have p2 : (0 : Int) ≤ (k : Int) + 1 := by omega
      have wk1 : IntKind.i64.wrap (k : Int) = (k : Int) := IntWalk.i64_in _ (by omega)
      have wk2 : IntKind.i64.wrap ((k : Int) + 1) = (k : Int) + 1 := IntWalk.i64_in _ (by omega)
      have tn : ((k : Int) + 1).toNat = k + 1 := by omega
      clear c0 c1 ob hb hk
      cases hs : solB q
      · have E1 := Lib.hid (EN.out hs)
        have LQ := Lib.hid (fun N : Later wr => letters_b q false hs N.1)
        clear hs
        go_wp2_with fail
        refine wp_region_later (by kernel_rfl) (by kernel_rfl) ?_
        repeat (go_big_quiet_step ((first | (go_at_call 16; with_reducible exact quiet_later (KQ.out _)) | (go_at_call 50; with_reducible exact quiet_later (LQ.out _)))))
        refine wpQuiet_nil ?_
        intro _ hw'
        obtain ⟨nq, hw''⟩ := hw'
        subst hw''
        have H3 := Lib.hid (HB.out.trans (nq.2.mono HB.out.size))
        clear wk1 wk2 tn
        go_wp2_with fail
        go_roundw
        case rel => exact ⟨k + 1, by omega, by go_num, by rw [E1.out], H3.out⟩
        case measure => simp [intOf] <;> omega
      · have E1 := Lib.hid (EY.out hs)
        have LQ := Lib.hid (fun N : Later wr => letters_b q true hs N.1)
        clear hs
        go_wp2_with fail
        refine wp_region_later (by kernel_rfl) (by kernel_rfl) ?_
        repeat (go_big_quiet_step ((first | (go_at_call 16; with_reducible exact quiet_later (KQ.out _)) | (go_at_call 50; with_reducible exact quiet_later (LQ.out _)))))
        refine wpQuiet_nil ?_
        intro _ hw'
        obtain ⟨nq, hw''⟩ := hw'
        subst hw''
        have H3 := Lib.hid (HB.out.trans (nq.2.mono HB.out.size))
        clear wk1 wk2 tn
        go_wp2_with fail
        go_roundw
        case rel => exact ⟨k + 1, by omega, by go_num, by rw [E1.out]; go_num, H3.out⟩
        case measure => simp [intOf] <;> omega
    · have l1 : ¬ ((k : Int) + 1 < (L : Int)) := by omega
      have ek : k = L - 1 := by omega
      subst ek
      go_wp2_with fail
      go_ret
      exact ⟨rfl, X1.out.trans (HB.out.mono z1)⟩

set_option maxHeartbeats 4000000 in
theorem rcountW_any (A : Option Addr) (n c : Nat) (xs : List Int) (w : World) (hx : SliceIn .i32 w A n c xs) (hn : (n + 1) * 16 ≤ 140737488355328) :
    Calls Tryd.prog 19 #[.slice A n c] w fun e w' => e = .returned (.int .i64 ((countW (wds xs) (wbL xs) : Nat) : Int)) ∧ Below w.heap.size w w' := by
  have PB := Lib.hid (rwords_any A n c xs w hx hn)
  have PK := Lib.hid (fun (f t : Int) (W : World) (hb : Below w.heap.size w W) => rkindS_any A n c xs f t W (hx.pass hb) (by omega))
  have hll := wbL_len hx.at_.len
  clear hx
  unfold countW
  generalize wbL xs = l at *
  generalize wds xs = ws at *
  obtain ⟨M, hM⟩ : ∃ M, l.length - 1 = M := ⟨_, rfl⟩
  unfold NewCutsG at PB
  rw [prs_len, hM] at PB
  rw [hM]
  have hMn : M ≤ n := by omega
  have FA := Lib.hid (fun (k : Nat) (hk : k < M) => (show rng (prs l M) k = (atN l k, atN l (k + 1)) by unfold rng prs; simp [hk]))
  clear hM
  go_enter Tryd.func19, Tryd.ntmps19
  go_wp2_with fail
  refine PB.out.mono ?_
  rintro e w1 ⟨Ac, cc, rfl, oc, b1⟩
  have X1 := Lib.hid b1
  have OC := Lib.hid oc
  have z1 := b1.size
  clear oc b1
  go_wp2_with fail
  go_loopw [4, 5] (fun u v wr => ∃ k : Nat, k ≤ M ∧ v = .int .i64 (k : Int) ∧ u = .int .i64 ((cntW ws l k : Nat) : Int) ∧ Below w1.heap.size w1 wr) (fun _ v _ => M - (intOf v).toNat)
  case atStart => exact ⟨0, Nat.zero_le _, rfl, rfl, Below.refl _ _⟩
  case round =>
    obtain ⟨k, hk, rfl, rfl, hb⟩ := hrel
    have HB := Lib.hid hb
    have hcl := cntW_le ws l k
    by_cases hlt : k < M
    · have oc := OC.out.pass hb
      obtain ⟨gc, rfl, _⟩ := OwnV.form oc (by omega)
      obtain ⟨v1, v2⟩ := cutsV_at (prs l M) k (by rw [prs_len]; exact hlt)
      rw [FA.out k hlt] at v1 v2
      have c0 := (OwnV.cellAt oc (k * 2) (by omega)).trans v1
      have c1 := (OwnV.cellAt oc (k * 2 + 1) (by omega)).trans v2
      have BW := Lib.hid (X1.out.trans (hb.mono z1))
      have KQ := Lib.hid (PK.out (atN l k) (atN l (k + 1)) wr BW.out)
      have EY := Lib.hid (fun h => cntW_yes (ws := ws) (B := l) (k := k) h)
      have EN := Lib.hid (fun h => cntW_no (ws := ws) (B := l) (k := k) h)
      generalize kindC ws (atN l k) (atN l (k + 1)) = q at *
      generalize atN l k = f at *
      generalize atN l (k + 1) = t at *
      generalize cntW ws l k = cw at *
      clear oc hb v1 v2
      cases hs : solB q
      · have E1 := Lib.hid (EN.out hs)
        go_wp2_with (first
          | (go_at_call 17; refine KQ.out.mono ?_; rintro e w3 ⟨rfl, h3⟩)
          | (go_at_call 52; refine (solid_any _ _).mono ?_; rintro e w' ⟨rfl, rfl⟩))
        have H3 := Lib.hid (HB.out.trans (h3.mono HB.out.size))
        go_roundw
        case rel => exact ⟨k + 1, by omega, by go_num, by rw [E1.out], H3.out⟩
        case measure => simp [intOf] <;> omega
      · have E1 := Lib.hid (EY.out hs)
        go_wp2_with (first
          | (go_at_call 17; refine KQ.out.mono ?_; rintro e w3 ⟨rfl, h3⟩)
          | (go_at_call 52; refine (solid_any _ _).mono ?_; rintro e w' ⟨rfl, rfl⟩))
        have H3 := Lib.hid (HB.out.trans (h3.mono HB.out.size))
        go_roundw
        case rel => exact ⟨k + 1, by omega, by go_num, by rw [E1.out]; go_num, H3.out⟩
        case measure => simp [intOf] <;> omega
    · obtain rfl : k = M := by omega
      go_wp2_with fail
      go_ret
      exact ⟨rfl, X1.out.trans (HB.out.mono z1)⟩

set_option maxHeartbeats 4000000 in
theorem WordsKinds_walk (A : Option Addr) (n c : Nat) (xs : List Int) (f : Int) (_hf : (Lit.int .i64 f).wf = true) (t : Int) (_ht : (Lit.int .i64 t).wf = true) (w : World) (hx : SliceIn .i32 w A n c xs) (hl : Laid w) :
    Calls Tryd.prog 3 #[.slice A n c, .agg #[.int .i64 f, .int .i64 t]] w fun e w' => e = .returned (.bool true) ∧ Below w.heap.size w w' := by
  by_cases hlen : 40 < n
  · go_enter Tryd.func3, Tryd.ntmps3
    have ln : decide (40 < n) = true := by simpa using hlen
    go_wp2_with (go_at_call 15; refine (long08_any _ _ _ _).mono ?_; rintro e w' ⟨rfl, rfl⟩)
    go_ret
    exact ⟨rfl, below_alloc w _⟩
  · have ln : decide (40 < n) = false := by simpa using hlen
    obtain ⟨W0, hW0⟩ : ∃ W0, w.alloc (.cells #[.int .i64 f, .int .i64 t] 24) = W0 := ⟨_, rfl⟩
    have bx : Below w.heap.size w W0 := by rw [← hW0]; exact below_alloc w _
    have BX := Lib.hid bx
    have z0 : w.heap.size < W0.heap.size := by rw [← hW0]; simp
    have c0 : W0.cell? ⟨w.heap.size, 0, none⟩ = some (.int .i64 f) := by rw [← hW0, cell_of_row _ _ _ _ _ _ (heap_alloc_new w _)]; rfl
    have c1 : W0.cell? ⟨w.heap.size, 1, none⟩ = some (.int .i64 t) := by rw [← hW0, cell_of_row _ _ _ _ _ _ (heap_alloc_new w _)]; rfl
    have k0 := later_cell c0
    have k1 := later_cell c1
    have P1 := Lib.hid (fun N : Later W0 => pkindS_any A n c xs f t N.1 (hx.pass (BX.out.trans (N.2.mono BX.out.size))) (hl.pass (BX.out.trans (N.2.mono BX.out.size))) (by omega))
    have P2 := Lib.hid (fun N : Later W0 => rkindS_any A n c xs f t N.1 (hx.pass (BX.out.trans (N.2.mono BX.out.size))) (by omega))
    have P3 := Lib.hid (fun N : Later W0 => pcountW_any A n c xs N.1 (hx.pass (BX.out.trans (N.2.mono BX.out.size))) (hl.pass (BX.out.trans (N.2.mono BX.out.size))) (by omega))
    have P4 := Lib.hid (fun N : Later W0 => rcountW_any A n c xs N.1 (hx.pass (BX.out.trans (N.2.mono BX.out.size))) (by omega))
    generalize kindC (wds xs) f t = a at *
    generalize ((countW (wds xs) (wbL xs) : Nat) : Int) = b at *
    have HW0 := Lib.hid hW0
    clear hx hl hW0 bx c0 c1
    go_enter Tryd.func3, Tryd.ntmps3
    go_wp2_with (go_at_call 15; refine (long08_any _ _ _ _).mono ?_; rintro e w' ⟨rfl, rfl⟩)
    rw [HW0.out]
    refine wp_region_later (by kernel_rfl) (by kernel_rfl) ?_
    repeat (go_big_quiet_step ((first | (go_at_call 16; with_reducible exact quiet_later (P1.out _)) | (go_at_call 17; with_reducible exact quiet_later (P2.out _)) | (go_at_call 18; with_reducible exact quiet_later (P3.out _)) | (go_at_call 19; with_reducible exact quiet_later (P4.out _)))))
    refine wpQuiet_nil ?_
    intro _ hw'
    obtain ⟨nq, hw''⟩ := hw'
    subst hw''
    have H3 := Lib.hid (BX.out.trans (nq.2.mono BX.out.size))
    go_wp2_with fail
    go_ret
    exact ⟨retb (by simp), H3.out⟩
end Go.Proofs.YtefajgfhdnhmmaaDoor
