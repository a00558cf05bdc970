/- Chapter 8: a text's clusters and their kinds: the program's way. -/
import Derived.Test.YtefajgfhdnhmmaaDoorWh
import Derived.Test.YtefajgfhdnhmmaaDoorGi
import Derived.Test.YtefajgfhdnhmmaaDoorSt
namespace Go.Proofs.YtefajgfhdnhmmaaDoor
open Go.ChangeShapes Go.WideShapes Go.ChangeAt Go.RowKit
set_option maxRecDepth 100000
set_option linter.unusedSimpArgs false

theorem enters_kind : EntersIt Tryd.prog 84 := fun _ _ => by kernel_rfl
/-- what a text's row is: its clusters and their kinds -/
def NewRow (w : World) (ws : List Int) (bs : List Nat) (m : Nat) (r : Ending) (w' : World) : Prop :=
  ∃ (Ac : Option Addr) (cc : Nat) (Ak : Option Addr) (ck : Nat), r = .returned (.agg #[.slice Ac m cc, .slice Ak m ck]) ∧ OwnV w' w.heap.size 24 2 Ac m cc (cutsV (prs bs m)) ∧ Own w' w.heap.size 3 .i64 Ak m ck (kinds ws bs m) ∧ Below w.heap.size w w'

set_option maxHeartbeats 4000000 in
theorem prow_any (A : Option Addr) (n c : Nat) (xs : List Int) (w : World) (hx : SliceIn .i32 w A n c xs) (hl : Laid w) (hn : (n + 1) * 16 ≤ 140737488355328) :
    Calls Tryd.prog 53 #[.slice A n c] w (NewRow w (wds xs) (bndA (ks xs)) ((bndA (ks xs)).length - 1)) := by
  have PC := Lib.hid (fun W (hb : Below w.heap.size w W) => pcuts_any A n c xs W (hx.pass hb) (hl.pass hb) hn)
  have PK := Lib.hid (fun (f t : Nat) (h1 : f ≤ t) (h2 : t ≤ n) W (hb : Below w.heap.size w W) => pkind_any A n c xs f t h1 h2 W (hx.pass hb) (hl.pass hb) (by omega))
  have hkn : (ks xs).length = n := by rw [ks_len]; exact hx.at_.len
  have hbl := bndN_len (ks xs) ((ks xs).length + 1)
  have e0 : bndN (ks xs) ((ks xs).length + 1) = bndA (ks xs) := rfl
  have RISE := Lib.hid (bndA_Rise (ks xs))
  have TOP := Lib.hid (fun i (hi : i < (bndA (ks xs)).length) => (show atN (bndA (ks xs)) i ≤ n by
    have := (bndN_mem (ks := ks xs) (m := (ks xs).length + 1) (x := atN (bndA (ks xs)) i) (atN_mem hi)).1
    omega))
  rw [e0] at hbl
  unfold cutsL at PC
  obtain ⟨bs, hbs⟩ : ∃ bs, bndA (ks xs) = bs := ⟨_, rfl⟩
  rw [hbs] at PC RISE TOP hbl ⊢
  obtain ⟨m, hm⟩ : ∃ m, bs.length - 1 = m := ⟨_, rfl⟩
  have HM := Lib.hid hm
  unfold NewCutsG at PC
  rw [prs_len, hm] at PC
  rw [hm]
  have hmn : m ≤ n := by omega
  obtain ⟨ws, hws⟩ : ∃ ws, wds xs = ws := ⟨_, rfl⟩
  rw [hws] at PK ⊢
  clear hx hl hkn hbl e0 hbs hm hws
  go_enter Tryd.func53, Tryd.ntmps53
  go_wp2_with fail
  refine (PC.out _ (below_alloc w _)).mono ?_
  rintro e w1 ⟨Ac, cc, rfl, oc, b1⟩
  have X1 := Lib.hid ((below_alloc w _).trans (b1.mono (Nat.le_of_lt (by simp))))
  have z1 : w.heap.size + 1 ≤ w1.heap.size := by have := b1.size; simpa using this
  have OC := Lib.hid oc
  have TR := Lib.hid ((Two.new w 75 (.slice none 0 0) (.slice none 0 0)).pass b1 (by simp))
  clear oc b1
  go_wp2_with fail
  go_loopw [12] (fun v wr => ∃ (k : Nat) (Ak : Option Addr) (ck : Nat), k ≤ m ∧ v = .int .i64 k ∧ Two wr w1.heap.size 75 (.slice Ac m cc) (.slice Ak k ck) ∧ Own wr (w1.heap.size + 1) 3 .i64 Ak k ck (kinds ws bs k) ∧ Below w1.heap.size w1 wr) (fun v _ => m - (intOf v).toNat)
  case atStart => exact ⟨0, none, 0, Nat.zero_le _, rfl, Two.new _ _ _ _, Own.nil _ _ _ _, below_alloc w1 _⟩
  case round =>
    obtain ⟨k, Ak, ck, hk, rfl, ht, ho, hb⟩ := hrel
    have HT := Lib.hid ht
    have HO := Lib.hid ho
    have HB := Lib.hid hb
    have zr := ht.lt
    by_cases hlt : k < m
    · have oc := OC.out.pass hb
      obtain ⟨gc, rfl, _⟩ := OwnV.form oc (by omega)
      obtain ⟨v1, v2⟩ := cutsV_at (prs bs m) k (by rw [prs_len]; exact hlt)
      have er : rng (prs bs m) k = (atN bs k, atN bs (k + 1)) := by unfold rng prs; simp [hlt]
      rw [er] at v1 v2
      have c0 := (OwnV.cellAt oc (k * 2) (by omega)).trans v1
      have c1 := (OwnV.cellAt oc (k * 2 + 1) (by omega)).trans v2
      have hft := RISE.out k (by have := HM.out; omega)
      have htn := TOP.out (k + 1) (by have := HM.out; omega)
      have KK := Lib.hid (PK.out (atN bs k) (atN bs (k + 1)) (Nat.le_of_lt hft) htn)
      have ek : kindF ws (atN bs k) (atN bs (k + 1) - atN bs k) = kindN ws bs k := rfl
      rw [ek] at KK
      have EK := Lib.hid (kinds_succ ws bs k)
      have BW := Lib.hid (X1.out.trans (hb.mono (by omega)))
      have tA := (ht.alloc (.cells #[.int .i64 (atN bs k : Int), .int .i64 (atN bs (k + 1) : Int)] 24))
      have TA := Lib.hid tA
      have cA := tA.c1
      generalize kindN ws bs k = q at *
      generalize atN bs k = f at *
      generalize atN bs (k + 1) = t at *
      clear oc v1 v2 er ek ht ho hb hft htn tA
      go_wp2_with fail
      have BA := Lib.hid (BW.out.alloc (by have := BW.out.size; omega) (.cells #[.int .i64 (f : Int), .int .i64 (t : Int)] 24))
      have OA := Lib.hid (OwnV.alloc HO.out (.cells #[.int .i64 (f : Int), .int .i64 (t : Int)] 24))
      have BB := Lib.hid (HB.out.alloc (by have := HB.out.size; omega) (.cells #[.int .i64 (f : Int), .int .i64 (t : Int)] 24))
      go_region_law ((first
        | (refine step_call 84 [.tmp 18, .tmp 19] #[22, 24] (by rfl) (by rfl) enters_kind (by rfl) (KK.out _ BA.out.drew) ?_
           intro w4 h4
           have t4 := TA.out.drew.pass h4 (by simp; omega)
           have q4 := t4.c1
           have q4b := (t4.alloc (.cells #[.int .i64 q] 3)).c1
           have o4 := OwnV.pass (OwnV.drew OA.out) h4
           have b4 : Below w1.heap.size w1 w4 := BB.out.drew.trans (h4.mono (by have := BB.out.size; simp at this ⊢; omega)))
        | (refine step_push TIg (by rfl) (.tmp 17) (.tmp 21) (by rfl) (by rfl) (OwnV.alloc o4 _) (by rfl) (y := q) (cell_new _ _ _) (by omega) (by have := t4.lt; simp; omega) ?_
           intro A5 c5 w5 o5 b5
           have t5 := (t4.alloc (.cells #[.int .i64 q] 3)).pass b5 (by omega)
           have q5 := t5.c1
           have f5 := t5.f 1
           have b6 : Below w1.heap.size w1 w5 := (b4.alloc (by have := b4.size; omega) _).trans (b5.mono (by omega)))))
      all_goals
        go_wp2_with fail
        go_roundw
        case rel => exact ⟨k + 1, A5, c5, by omega, by go_num, t5.set1 _, by rw [EK.out]; exact OwnV.under o5 (by simp) _, b6.setCell (Nat.le_refl _) _⟩
        case measure => simp [intOf] <;> omega
    · obtain rfl : k = m := by omega
      have q0 := ht.c0
      have q1 := ht.c1
      have tr := TR.out.pass hb (by omega)
      have r0 := tr.c0
      have r1 := tr.c1
      have r2 := tr.f 0
      have r3 := tr.f 1
      have OCR := Lib.hid (OC.out.pass hb)
      have BR := Lib.hid (X1.out.trans (hb.mono (by omega)))
      have U0 := Lib.hid (tr.set0 (.slice Ac k cc)).c0
      have U1 := Lib.hid ((tr.set0 (.slice Ac k cc)).set1 (.slice Ak k ck)).c1
      clear ht ho hb tr
      go_wp2_with fail
      refine bodyPost_ret (v := .agg #[.slice Ac k cc, .slice Ak k ck]) ?_ rfl ⟨Ac, cc, Ak, ck, rfl, ?_, ?_, ?_⟩
      · simp [results, Tryd.results53, go_sem, U0.out, U1.out]
      · exact Own.moreG (OwnV.under (OwnV.under OCR.out (by simp) _) (by simp) _) (by simp)
      · exact Own.moreG (OwnV.under (OwnV.under HO.out (by simp; omega) _) (by simp; omega) _) (by omega)
      · exact (BR.out.setCell (Nat.le_refl _) _).setCell (Nat.le_refl _) _
end Go.Proofs.YtefajgfhdnhmmaaDoor
