/- Chapter 7: the walk of GraphemeWindow. -/
import Derived.Test.YtcldegpfkpmciaaDoorGal
namespace Go.Proofs.YtcldegpfkpmciaaDoor
open Go.ChangeShapes Go.WideShapes Go.ChangeAt Go.RowKit
set_option maxRecDepth 100000
set_option linter.unusedSimpArgs false

theorem TI32g : SliceOf Tryd.prog 22 21 1 4 := sliceOf_mk Tryd.underlying22 (z := .int .i32 0) (by kernel_rfl) rfl (by omega) (by omega)
set_option maxHeartbeats 1000000 in
theorem together_any (A : Option Addr) (n c : Nat) (xs : List Int) (B : Option Addr) (m d : Nat) (ys : List Int) (C : Option Addr) (l f : Nat) (zs : List Int) (w : World) (hx : SliceIn .i32 w A n c xs) (hy : SliceIn .i32 w B m d ys) (hz : SliceIn .i32 w C l f zs) (hn : (n + m + l) * 4 ≤ 140737488355328) :
    Calls Tryd.prog 22 #[.slice A n c, .slice B m d, .slice C l f] w fun e w' => ∃ (A2 : Option Addr) (c2 : Nat), e = .returned (.slice A2 (n + m + l) c2) ∧ SliceIn .i32 w' A2 (n + m + l) c2 (xs ++ ys ++ zs) ∧ Below w.heap.size w w' := by
  have HX := Lib.hid hx
  have HY := Lib.hid hy
  have HZ := Lib.hid hz
  clear hx hy hz
  go_enter Tryd.func22, Tryd.ntmps22
  go_wp2_with (first
    | (at_builtin; refine wpList_appendN TI32g rfl (.tmp 7) (.tmp 8) rfl rfl (own_empty _ _ .i32 w.heap.size (Nat.le_refl _)) rfl (HX.out.at_.later (below_alloc w _)) n (by omega) (by omega) (by simp) ?_; intro A1 c1 w1 o1 b1; have x1 := (below_alloc w _).trans b1; have O1 := Lib.hid o1; have X1 := Lib.hid x1; clear o1 b1 x1)
    | (at_builtin; refine wpList_appendN TI32g rfl (.tmp 9) (.tmp 10) rfl rfl O1.out rfl (HY.out.pass X1.out).at_ (n + m) rfl (by omega) X1.out.size ?_; intro A2 c2 w2 o2 b2; have x2 := X1.out.trans b2; have O2 := Lib.hid o2; have X2 := Lib.hid x2; clear o2 b2 x2)
    | (at_builtin; refine wpList_appendN TI32g rfl (.tmp 11) (.tmp 12) rfl rfl O2.out rfl (HZ.out.pass X2.out).at_ (n + m + l) rfl (by omega) X2.out.size ?_; intro A3 c3 w3 o3 b3; have x3 := X2.out.trans b3; have O3 := Lib.hid o3; have X3 := Lib.hid x3; clear o3 b3 x3))
  go_ret
  have ho := O3.out
  rw [List.nil_append] at ho
  refine ⟨A3, c3, rfl, ho.sliceIn ?_, X3.out⟩
  intro x hx
  rcases List.mem_append.1 hx with h | h
  · rcases List.mem_append.1 h with h | h
    · exact HX.out.wf x h
    · exact HY.out.wf x h
  · exact HZ.out.wf x h
theorem ks_app (a b c : List Int) : ks (a ++ b ++ c) = ks a ++ ks b ++ ks c := by unfold ks; simp
theorem winEnd_le {l : List Int} : winEnd l 0 ≤ l.length := by
  have h1 := (runTo_spec isReg l _ 0 rfl (Nat.zero_le _)).2.1
  have h2 := (runTo_spec isExt l _ 0 rfl (Nat.zero_le _)).2.1
  unfold winEnd
  omega

set_option maxHeartbeats 4000000 in
theorem GraphemeWindow_walk (A : Option Addr) (n c : Nat) (xs : List Int) (B : Option Addr) (m d : Nat) (us : List Int) (C : Option Addr) (p f : Nat) (vs : List Int) (D : Option Addr) (q g : Nat) (ys : List Int) (w : World)
    (hx : SliceIn .i32 w A n c xs) (hu : SliceIn .i32 w B m d us) (hv : SliceIn .i32 w C p f vs) (hy : SliceIn .i32 w D q g ys) (hl : Laid w) :
    Calls Tryd.prog 4 #[.slice A n c, .slice B m d, .slice C p f, .slice D q g] w fun e w' => e = .returned (.bool true) ∧ Below w.heap.size w w' := by
  have HX := Lib.hid hx
  have HU := Lib.hid hu
  have HV := Lib.hid hv
  have HY := Lib.hid hy
  have HL := Lib.hid hl
  have lx : (ks xs).length = n := by rw [ks_len]; exact hx.at_.len
  have lu : (ks us).length = m := by rw [ks_len]; exact hu.at_.len
  have lv : (ks vs).length = p := by rw [ks_len]; exact hv.at_.len
  have ly : (ks ys).length = q := by rw [ks_len]; exact hy.at_.len
  clear hx hu hv hy hl
  by_cases hlong : 100 < n ∨ 100 < m ∨ 100 < p ∨ 100 < q
  · have hcase : 100 < n ∨ (¬ 100 < n ∧ 100 < m) ∨ (¬ 100 < n ∧ ¬ 100 < m ∧ 100 < p) ∨ (¬ 100 < n ∧ ¬ 100 < m ∧ ¬ 100 < p ∧ 100 < q) := by omega
    clear hlong lx lu lv ly
    rcases hcase with h | ⟨h, h2⟩ | ⟨h, h2, h3⟩ | ⟨h, h2, h3, h4⟩
    all_goals
      go_enter Tryd.func4, Tryd.ntmps4
      go_wp2_with fail
      refine (alive07_any _ HL.out).mono ?_
      rintro e w1 ⟨rfl, hb1⟩
      go_wp2_with fail
      go_ret
      exact ⟨rfl, hb1⟩
  · have hn : n ≤ 100 := by omega
    have hm : m ≤ 100 := by omega
    have hp : p ≤ 100 := by omega
    have hq : q ≤ 100 := by omega
    have IN := Lib.hid (fun k (h : k < n) => (is_within (x := ks xs) (u := ks us) (v := ks vs) (y := ks ys) (i := k) (by rw [lx]; exact h)))
    have BY := Lib.hid (fun k (h0 : winEnd (ks ys) 0 < k) (h : k ≤ q) => (is_beyond (x := ks xs) (u := ks us) (v := ks vs) (y := ks ys) (i := k) h0 (by rw [ly]; exact h)))
    rw [lx, lu, lv] at BY
    have hT := winEnd_le (l := ks ys)
    rw [ly] at hT
    rw [← ks_app, ← ks_app] at IN BY
    have P1 := Lib.hid (together_any A n c xs B m d us D q g ys w HX.out HU.out HY.out (by omega))
    have P2 := Lib.hid (fun w' (hb : Below w.heap.size w w') => together_any A n c xs C p f vs D q g ys w' (HX.out.pass hb) (HV.out.pass hb) (HY.out.pass hb) (by omega))
    have P3 := Lib.hid (fun w' (hb : Below w.heap.size w w') => pwin_any D q g ys 0 (Nat.zero_le _) w' (HY.out.pass hb) (HL.out.pass hb) (by omega))
    obtain ⟨T, hTe⟩ : ∃ T, winEnd (ks ys) 0 = T := ⟨_, rfl⟩
    rw [hTe] at BY hT P3
    have e0 : ((0 : Nat) : Int) = 0 := rfl
    rw [e0] at P3
    clear hlong lx lu lv ly hTe e0
    go_enter Tryd.func4, Tryd.ntmps4
    go_wp2_with fail
    refine P1.out.mono ?_
    rintro e w1 ⟨Aa, ca, rfl, ia, x1⟩
    go_wp2_with fail
    refine (P2.out _ x1).mono ?_
    rintro e w2 ⟨Ab, cb, rfl, ib, hb2⟩
    have X2 := Lib.hid (x1.trans (hb2.mono x1.size))
    have IA := Lib.hid (ia.pass hb2)
    have IB := Lib.hid ib
    have L2 := Lib.hid (HL.out.pass X2.out)
    clear ia ib hb2 x1 P1 P2
    have QA := Lib.hid (fun k w' (hb : Below w2.heap.size w2 w') => pisn_any Aa (n + m + q) ca (xs ++ us ++ ys) k w' (IA.out.pass hb) (L2.out.pass hb) (by omega))
    have QB := Lib.hid (fun k w' (hb : Below w2.heap.size w2 w') => pisn_any Ab (n + p + q) cb (xs ++ vs ++ ys) k w' (IB.out.pass hb) (L2.out.pass hb) (by omega))
    go_wp2_with fail
    go_loopw [44] (fun i wr => ∃ k : Nat, k ≤ n ∧ i = .int .i64 k ∧ Below w2.heap.size w2 wr) (fun i _ => n - (intOf i).toNat)
    case atStart => exact ⟨0, Nat.zero_le _, rfl, Below.refl _ _⟩
    case round =>
      obtain ⟨k, hk, rfl, hb⟩ := hrel
      have HB := Lib.hid hb
      clear hb
      by_cases hlt : k < n
      · have RA := Lib.hid (QA.out k)
        have RB := Lib.hid (QB.out k)
        rw [IN.out k hlt] at RA
        generalize isN (ks (xs ++ vs ++ ys)) k = r at *
        go_wp2_with fail
        refine (RA.out _ HB.out).mono ?_
        rintro e w3 ⟨rfl, h3⟩
        have H3 := Lib.hid (HB.out.trans (h3.mono HB.out.size))
        clear h3
        go_wp2_with fail
        refine (RB.out _ H3.out).mono ?_
        rintro e w4 ⟨rfl, h4⟩
        have H4 := Lib.hid (H3.out.trans (h4.mono H3.out.size))
        clear h4
        go_wp2_with fail
        go_roundw
        case rel => exact ⟨k + 1, by omega, by go_num, H4.out⟩
        case measure => simp [intOf] <;> omega
      · have dk : decide (k < n) = false := by simp; omega
        have X3 := Lib.hid (X2.out.trans (HB.out.mono X2.out.size))
        go_wp2_with fail
        refine (P3.out _ X3.out).mono ?_
        rintro e w3 ⟨rfl, h3⟩
        have H3 := Lib.hid (HB.out.trans (h3.mono HB.out.size))
        clear h3
        go_wp2_with fail
        go_loopw [14] (fun i wr => ∃ j : Nat, T < j ∧ j ≤ q + 1 ∧ i = .int .i64 j ∧ Below w2.heap.size w2 wr) (fun i _ => q + 1 - (intOf i).toNat)
        case atStart => exact ⟨T + 1, by omega, by omega, by go_num, H3.out⟩
        case round =>
          obtain ⟨j, hj1, hj2, rfl, hbj⟩ := hrel
          have HJ := Lib.hid hbj
          clear hbj
          by_cases hjq : j ≤ q
          · have RA := QA.out (n + m + j)
            have RB := QB.out (n + p + j)
            rw [BY.out j hj1 hjq] at RA
            have e1 : ((n + m + j : Nat) : Int) = (n : Int) + (m : Int) + (j : Int) := by omega
            have e2 : ((n + p + j : Nat) : Int) = (n : Int) + (p : Int) + (j : Int) := by omega
            rw [e1] at RA
            rw [e2] at RB
            have RA' := Lib.hid RA
            have RB' := Lib.hid RB
            clear RA RB e1 e2
            generalize isN (ks (xs ++ vs ++ ys)) (n + p + j) = r at *
            have l1 : (j : Int) ≤ (q : Int) := by omega
            go_wp2_with fail
            refine (RA'.out _ HJ.out).mono ?_
            rintro e w4 ⟨rfl, h4⟩
            have H4 := Lib.hid (HJ.out.trans (h4.mono HJ.out.size))
            clear h4
            go_wp2_with fail
            refine (RB'.out _ H4.out).mono ?_
            rintro e w5 ⟨rfl, h5⟩
            have H5 := Lib.hid (H4.out.trans (h5.mono H4.out.size))
            clear h5
            go_wp2_with fail
            go_roundw
            case rel => exact ⟨j + 1, by omega, by omega, by go_num, H5.out⟩
            case measure => simp [intOf] <;> omega
          · have l1 : ¬ (j : Int) ≤ (q : Int) := by omega
            have X5 := Lib.hid (X2.out.trans (HJ.out.mono X2.out.size))
            have pT : (0 : Int) ≤ (T : Int) := by omega
            go_wp2_with fail
            refine (alive07_any _ (HL.out.pass X5.out)).mono ?_
            rintro e w6 ⟨rfl, h6⟩
            have x6 := X5.out.trans (h6.mono X5.out.size)
            go_wp2_with fail
            go_ret
            exact ⟨rfl, x6⟩
end Go.Proofs.YtcldegpfkpmciaaDoor
