/- Chapter 23: the fonts of a text, as spans; the program's way. -/
import Derived.Test.YtefajgfhdnhmmaaDoorFlaw
import Derived.Test.YtefajgfhdnhmmaaDoorFsp
import Derived.Test.YtefajgfhdnhmmaaDoorFpick
import Derived.Test.YtefajgfhdnhmmaaDoorGi
import Derived.Test.YtefajgfhdnhmmaaDoorWk
namespace Go.Proofs.YtefajgfhdnhmmaaDoor
open Go.ChangeShapes Go.WideShapes Go.ChangeAt Go.RowKit
set_option maxRecDepth 100000
set_option linter.unusedSimpArgs false

/-- the boundaries of a text's clusters: they rise from 0, and lie within it -/
theorem bnd_facts {xs : List Int} {n : Nat} (h : xs.length = n) : Rise (bndA (ks xs)) ∧ atN (bndA (ks xs)) 0 = 0 ∧ (bndA (ks xs)).length ≤ n + 1 ∧ (∀ i, i < (bndA (ks xs)).length → atN (bndA (ks xs)) i ≤ n) ∧ (n = 0 → bndA (ks xs) = []) ∧ (0 < n → 2 ≤ (bndA (ks xs)).length ∧ atN (bndA (ks xs)) ((bndA (ks xs)).length - 1) = n) := by
  have hk : (ks xs).length = n := by rw [ks_len]; exact h
  have h1 := bndN_len (ks xs) ((ks xs).length + 1)
  have e0 : bndN (ks xs) ((ks xs).length + 1) = bndA (ks xs) := rfl
  rw [e0, hk] at h1
  refine ⟨bndA_Rise _, ?_, h1, fun i hi => ?_, fun h0 => bndA_nil (by omega), fun h0 => ⟨bndA_two (by omega), (bndA_last (by omega)).2.trans hk⟩⟩
  · rcases Nat.eq_zero_or_pos n with h0 | h0
    · rw [bndA_nil (by omega)]; rfl
    · exact (bndA_first (by omega)).1
  · have := (bndN_mem (ks := ks xs) (m := (ks xs).length + 1) (x := atN (bndA (ks xs)) i) (atN_mem hi)).1
    omega
/-- the fonts of a text, as spans -/
def fontS (fs : List Fd) (sp : List Sp) (xs : List Int) : List Sp := clS (bndA (ks xs)) (fontA fs sp xs (bndA (ks xs))) ((bndA (ks xs)).length - 1)

set_option maxHeartbeats 8000000 in
theorem pfOf_any (A : Option Addr) (n c : Nat) (fs : List Fd) (A2 : Option Addr) (n2 c2 : Nat) (xs : List Int) (A3 : Option Addr) (n3 c3 : Nat) (sp : List Sp) (w : World) (hF : FontsAt w w.heap.size A n fs) (hx : SliceIn .i32 w A2 n2 c2 xs) (hS : SpansAt w w.heap.size A3 n3 sp) (hl : Laid w)
    (hm : ∀ j, j < n → (fnth fs j).mn ≤ 140737488355328) (hn2 : (n2 + 1) * 24 ≤ 140737488355328) (hn : n ≤ 140737488355328) (hn3 : n3 ≤ 140737488355328) :
    Calls Tryd.prog 34 #[.slice A n c, .slice A2 n2 c2, .slice A3 n3 c3] w (NewSpans w (fontS fs sp xs)) := by
  have PC := Lib.hid (pcuts_any A2 n2 c2 xs w hx hl (by omega))
  obtain ⟨hri, hb0, hbl, htop, _, _⟩ := bnd_facts hx.at_.len
  have PK := Lib.hid (fun (f t k : Nat) (h1 : f ≤ t) (h2 : t ≤ n2) (A4 : Option Addr) (c4 : Nat) (CH : CutRun Tryd.prog 22 A2 n2 c2 (some (.int .i64 (f : Int))) (some (.int .i64 (t : Int))) f t (t - f) A4 c4) (ahead : Int) (W : World) (hb : Below w.heap.size w W) =>
    ppick_any A n c fs (spAt sp f) A4 (t - f) c4 ((xs.take t).drop f) ahead W (hF.later hb) ((CH.sliceIn hx).pass hb) (hl.pass hb) hm (by omega) hn)
  have PA := Lib.hid (fun (i : Int) (W : World) (hb : Below w.heap.size w W) => pspAt_any A3 n3 c3 sp i W (hS.later hb) hn3)
  have hle2 := hx.le
  have HN24 := Lib.hid hn2
  have hn2' : n2 ≤ 140737488355328 := by clear PC PK PA htop hri hb0 hbl; omega
  unfold fontS
  unfold cutsL at PC
  obtain ⟨bs, hbs⟩ : ∃ bs, bndA (ks xs) = bs := ⟨_, rfl⟩
  rw [hbs] at PC hri hb0 hbl htop ⊢
  obtain ⟨m, hmm⟩ : ∃ m, bs.length - 1 = m := ⟨_, rfl⟩
  have HMM := Lib.hid hmm
  unfold NewCutsG at PC
  rw [prs_len, hmm] at PC
  rw [hmm]
  have hmn : m ≤ n2 := by omega
  have FX := Lib.hid (fun k => (show fontA fs sp xs bs (k + 1) = pickV fs (spAt sp (atN bs k)) ((xs.take (atN bs (k + 1))).drop (atN bs k)) (fontA fs sp xs bs k) from rfl))
  have RI := Lib.hid hri
  have TOP := Lib.hid htop
  have FA := Lib.hid (fun (k : Nat) (hk : k < m) => (show rng (prs bs m) k = (atN bs k, atN bs (k + 1)) by unfold rng prs; simp [hk]))
  have A0 := Lib.hid (show fontA fs sp xs bs 0 = -1 from rfl)
  have CL := Lib.hid (fun k => clS_len bs (fontA fs sp xs bs) k)
  have CS := Lib.hid (fun k => (show clS bs (fontA fs sp xs bs) (k + 1) = addSp (clS bs (fontA fs sp xs bs) k) (atN bs k) (atN bs (k + 1)) (fontA fs sp xs bs (k + 1)) from rfl))
  generalize fontA fs sp xs bs = a at *
  clear hF hx hS hl hm hbs hri hb0 hbl htop hmm hn2
  go_enter Tryd.func34, Tryd.ntmps34
  go_wp2_with fail
  refine PC.out.mono ?_
  rintro e w1 ⟨Ac, cc, rfl, oc, b1⟩
  have X1 := Lib.hid b1
  have OC := Lib.hid oc
  have z1 := b1.size
  clear oc b1
  go_wp2_with fail
  go_loopw [7, 8, 15] (fun x u v wr => ∃ (k : Nat) (A' : Option Addr) (c' : Nat), k ≤ m ∧ v = .int .i64 k ∧ x = .int .i64 (a k) ∧ u = .slice A' (clS bs a k).length c' ∧ OwnV wr w1.heap.size 54 3 A' (clS bs a k).length c' (spsV (clS bs a k)) ∧ Below w1.heap.size w1 wr) (fun _ _ v _ => m - (intOf v).toNat)
  case atStart => exact ⟨0, none, 0, Nat.zero_le _, rfl, by rw [A0.out], rfl, OwnV.nil _ _ _ _, Below.refl _ _⟩
  case round =>
    obtain ⟨k, A', c', hk, rfl, rfl, rfl, ho, hb⟩ := hrel
    have HO := Lib.hid ho
    have HB := Lib.hid hb
    by_cases hlt : k < m
    · have oc := OC.out.pass hb
      obtain ⟨gc, rfl, _⟩ := OwnV.form oc (by omega)
      obtain ⟨v1, v2⟩ := cutsV_at (prs bs m) k (by rw [prs_len]; exact hlt)
      rw [FA.out k hlt] at v1 v2
      have c0 := (OwnV.cellAt oc (k * 2) (by omega)).trans v1
      have c1 := (OwnV.cellAt oc (k * 2 + 1) (by omega)).trans v2
      have hft := RI.out k (by have := HMM.out; omega)
      have htn := TOP.out (k + 1) (by have := HMM.out; omega)
      have ECS := CS.out k
      have EF := FX.out k
      have hcl := CL.out k
      obtain ⟨A4, c4, CH⟩ := cut_lh TI32w A2 n2 c2 (atN bs k) (atN bs (k + 1)) (Nat.le_of_lt hft) htn hle2 (atN bs k) (atN bs (k + 1)) rfl rfl
      have rh := CH.run
      have QK := Lib.hid (PK.out (atN bs k) (atN bs (k + 1)) k (Nat.le_of_lt hft) htn A4 c4 CH (a k))
      rw [← EF] at QK
      have QA := Lib.hid (PA.out (atN bs k : Int))
      obtain ⟨b, hba⟩ : ∃ b, a (k + 1) = b := ⟨_, rfl⟩
      rw [hba] at QK ECS
      have HBA := Lib.hid hba
      generalize spAt sp (atN bs k : Int) = pre at *
      generalize atN bs k = f at *
      generalize atN bs (k + 1) = t at *
      obtain ⟨W0, hW0⟩ : ∃ W0, wr.alloc (.cells #[.int .i64 (f : Int), .int .i64 (t : Int)] 24) = W0 := ⟨_, rfl⟩
      have bx : Below wr.heap.size wr W0 := by rw [← hW0]; exact below_alloc wr _
      have d0 : W0.cell? ⟨wr.heap.size, 0, none⟩ = some (.int .i64 (f : Int)) := by rw [← hW0, cell_of_row _ _ _ _ _ _ (heap_alloc_new wr _)]; rfl
      have d1 : W0.cell? ⟨wr.heap.size, 1, none⟩ = some (.int .i64 (t : Int)) := by rw [← hW0, cell_of_row _ _ _ _ _ _ (heap_alloc_new wr _)]; rfl
      have k0 := later_cell d0
      have k1 := later_cell d1
      have HW0 := Lib.hid hW0
      have BX := Lib.hid bx
      have BW := Lib.hid ((X1.out.trans (hb.mono z1)).trans (bx.mono (by have := (X1.out.trans (hb.mono z1)).size; exact this)))
      have RK := Lib.hid (fun N : Later W0 => QK.out N.1 (BW.out.trans (N.2.mono BW.out.size)))
      have RA := Lib.hid (fun N : Later W0 => QA.out N.1 (BW.out.trans (N.2.mono BW.out.size)))
      clear oc v1 v2 ho hb EF CH QK QA hba d0 d1 hW0 bx
      go_wp2_with fail
      rw [HW0.out]
      refine wp_region_later (by kernel_rfl) (by kernel_rfl) ?_
      repeat (go_big_quiet_step ((first | (go_at_call 39; with_reducible exact quiet_later (RA.out _)) | (go_at_call 36; with_reducible exact quiet_later (RK.out _)))))
      refine wpQuiet_nil ?_
      intro _ hw'
      obtain ⟨nq, hw''⟩ := hw'
      subst hw''
      have e0 := k0 nq
      have e1 := k1 nq
      have BN := Lib.hid (HB.out.trans ((BX.out.trans (nq.2.mono BX.out.size)).mono HB.out.size))
      have ON := Lib.hid (OwnV.pass HO.out (BX.out.trans (nq.2.mono BX.out.size)))
      generalize nq.1 = W at *
      clear k0 k1 RK RA nq rh
      rcases Nat.eq_zero_or_pos k with hk0 | hk0
      · subst hk0
        have ES := Lib.hid (show clS bs a (0 + 1) = [⟨(f : Int), (t : Int), b⟩] from ECS)
        have e9 : (clS bs a 0).length = 0 := rfl
        rw [e9] at ON ⊢
        clear ECS e9
        go_wp2_with (at_builtin; refine wpList_pushV TSp rfl (.tmp 53) (.tmp 60) rfl rfl (OwnV.alloc ON.out _) rfl (news := [.int .i64 (f : Int), .int .i64 (t : Int), .int .i64 b]) rfl (cells_new3 _ _ _ _ _) (three_one _ _ _) (by decide) (by have := BN.out.size; simp; omega) ?_; intro A5 c5 w5 o5 b5)
        have hbw := (BN.out.alloc (by have := BN.out.size; omega) _).trans b5
        go_roundw
        case rel => exact ⟨0 + 1, A5, c5, by omega, by go_num, by rw [HBA.out], by rw [ES.out]; rfl, by rw [ES.out]; exact o5, hbw⟩
        case measure => simp [intOf] <;> omega
      · obtain ⟨q, rfl⟩ : ∃ q, k = q + 1 := ⟨k - 1, by omega⟩
        have ES0 := CS.out q
        obtain ⟨S0, s, hS, hsv, _⟩ := addSp_last (clS bs a q) (atN bs q) (atN bs (q + 1)) (a (q + 1))
        rw [hS] at ES0
        have ei : ((q + 1 : Nat) : Int) = (q : Int) + 1 := by omega
        rw [ES0] at ECS ON hcl ⊢
        have hsl : (S0 ++ [s]).length = S0.length + 1 := by simp
        rw [hsl] at ON hcl ⊢
        obtain ⟨z, hz⟩ : ∃ z, S0.length = z := ⟨_, rfl⟩
        have HZ := Lib.hid hz
        rw [hz] at ON hcl ⊢
        have b1 : ((z + 1 : Nat) : Int) - 1 = (z : Int) := by omega
        have hb24 : (z + 1 + 1) * 24 ≤ 140737488355328 := b24 hcl (Nat.lt_of_lt_of_le hlt hmn) HN24.out
        have on1 := ON.out
        obtain ⟨g, hgA, _⟩ := OwnV.form on1 (by omega)
        subst hgA
        have v3 : (spsV (S0 ++ [s]))[z * 3 + 2]? = some (.int .i64 s.v) := by
          have h := (spsV_at (S0 ++ [s]) S0.length (by simp)).2.2
          rw [snth_at, hz] at h
          exact h
        have v4 : (spsV (S0 ++ [s]))[z * 3 + 1]? = some (.int .i64 s.t) := by
          have h := (spsV_at (S0 ++ [s]) S0.length (by simp)).2.1
          rw [snth_at, hz] at h
          exact h
        have u0 := (OwnV.cellAt on1 (z * 3 + 2) (by omega)).trans v3
        have u1 := (OwnV.cellAt on1 (z * 3 + 1) (by omega)).trans v4
        have u2 := OwnV.frozenAt on1 (z * 3 + 1)
        clear v3 v4
        have HG := Lib.hid (OwnV.ltH on1).1
        obtain ⟨sf, st, sv⟩ := s
        simp only at u0 u1 hsv
        have l1 : (0 : Int) < ((z + 1 : Nat) : Int) := by omega
        by_cases he : sv = b
        · have be : ((sv : Int) == b) = true := by simpa using he
          have EV2 := Lib.hid (show clS bs a (q + 1 + 1) = S0 ++ [⟨sf, (t : Int), sv⟩] from ECS.trans (by rw [← he]; exact addSp_eq S0 ⟨sf, st, sv⟩ _ _))
          clear ECS ES0 hS hsv he on1 hsl hz ei
          go_wp2_with fail
          go_roundw
          case rel =>
            refine ⟨q + 1 + 1, some ⟨g, 0, none⟩, c', by omega, by go_num, by rw [HBA.out], by rw [EV2.out]; simp [HZ.out], ?_, BN.out.setCell HG.out _⟩
            rw [EV2.out]
            have h9 := (World.ownsRow.stored ON.out (z * 3 + 1) (.int .i64 (t : Int))).1
            rw [← HZ.out, spsV_set] at h9
            rw [← HZ.out]
            exact ownV_congr3 h9 rfl (by simp)
          case measure => simp [intOf] <;> omega
        · have be : ((sv : Int) == b) = false := by simpa using he
          have EV2 := Lib.hid (show clS bs a (q + 1 + 1) = S0 ++ [⟨sf, st, sv⟩] ++ [⟨(f : Int), (t : Int), b⟩] from ECS.trans (addSp_ne S0 ⟨sf, st, sv⟩ _ _ _ he))
          clear ECS ES0 hS hsv he on1 hsl hz ei
          go_wp2_with (at_builtin; refine wpList_pushV TSp rfl (.tmp 53) (.tmp 60) rfl rfl (OwnV.alloc ON.out _) rfl (news := [.int .i64 (f : Int), .int .i64 (t : Int), .int .i64 b]) rfl (cells_new3 _ _ _ _ _) (three_one _ _ _) hb24 (by have := BN.out.size; simp; omega) ?_; intro A5 c5 w5 o5 b5)
          have hbw := (BN.out.alloc (by have := BN.out.size; omega) _).trans b5
          go_roundw
          case rel => exact ⟨q + 1 + 1, A5, c5, by omega, by go_num, by rw [HBA.out], by rw [EV2.out]; simp [HZ.out], by rw [EV2.out, spsV_app _ [_], spsV_one]; exact ownV_congr3 o5 rfl (by simp [HZ.out]), hbw⟩
          case measure => simp [intOf] <;> omega
    · obtain rfl : k = m := by omega
      go_wp2_with fail
      go_ret
      exact ⟨A', c', rfl, Own.moreG HO.out z1, X1.out.trans (HB.out.mono z1)⟩
end Go.Proofs.YtefajgfhdnhmmaaDoor
