/- Chapter 52: the law DirtyParas. -/
import Derived.Test.YtilbcafkjpikgaaDoorDpn
import Derived.Test.YtilbcafkjpikgaaDoorReg
import Derived.Test.YtilbcafkjpikgaaDoorDfit
namespace Go.Proofs.YtilbcafkjpikgaaDoor
open Go.ChangeShapes Go.WideShapes Go.ChangeAt Go.RowKit
set_option maxRecDepth 100000
set_option linter.unusedSimpArgs false

def v4 (a b c d : Int) : Value := .agg #[.int .i64 a, .int .i64 b, .int .i64 c, .int .i64 d]
/-- what is known in the midst of the law's region -/
structure PI (Bz : Nat) (w : World) (A : Option Addr) (n c : Nat) (bv : Value) (p g : Int) (D : Option Addr) (m d : Nat) (st : Int) (k1 k2 k3 k4 : Int) (L : Nat → Bool) (v6 v7 v17 v18 v19 v20 v21 v22 v23 v24 : Value) (W : World) : Prop where
  be : Below w.heap.size w W
  four : Four W w.heap.size 24 (.int .i64 p) (.int .i64 g) (.slice D m d) (.int .i64 st)
  m17 : L 0 = true → v17 = .slice A n c
  m18 : L 1 = true → v18 = bv
  l19 : L 2 = true → v19 = .agg #[.int .i64 p, .int .i64 g, .slice D m d, .int .i64 st]
  c20 : L 3 = true → v20 = v4 k1 k2 k3 k4
  m21 : L 4 = true → v21 = .slice A n c
  m22 : L 5 = true → v22 = bv
  l23 : L 6 = true → v23 = .agg #[.int .i64 p, .int .i64 g, .slice D m d, .int .i64 st]
  c24 : L 7 = true → v24 = v4 k1 k2 k3 k4
  a6 : L 8 = true → ∃ g6 : Nat, v6 = .pointer (some ⟨g6, 0, none⟩) ∧ Bz ≤ g6 ∧ (L 10 = false → Four W g6 28 (.int .i64 0) (.int .i64 0) (.int .i64 0) (.int .i64 0)) ∧ (L 10 = true → Four W g6 28 (.int .i64 k1) (.int .i64 k2) (.int .i64 k3) (.int .i64 k4))
  a7 : L 9 = true → ∃ g7 : Nat, v7 = .pointer (some ⟨g7, 0, none⟩) ∧ Bz ≤ g7 ∧ (L 11 = false → Four W g7 30 (.int .i64 0) (.int .i64 0) (.int .i64 0) (.int .i64 0)) ∧ (L 11 = true → Four W g7 30 (.int .i64 k1) (.int .i64 k2) (.int .i64 k3) (.int .i64 k4))
  ne : L 8 = true → L 9 = true → v6 ≠ v7
  o10 : L 10 = true → L 8 = true
  o11 : L 11 = true → L 9 = true
section
variable {Bz : Nat} {w : World} {A : Option Addr} {n c : Nat} {bv : Value} {p g : Int} {D : Option Addr} {m d : Nat} {st k1 k2 k3 k4 : Int} {L : Nat → Bool} {v6 v7 v17 v18 v19 v20 v21 v22 v23 v24 : Value} {W W' : World}
theorem PI.pass (h : PI Bz w A n c bv p g D m d st k1 k2 k3 k4 L v6 v7 v17 v18 v19 v20 v21 v22 v23 v24 W) (hb : Below W.heap.size W W') : PI Bz w A n c bv p g D m d st k1 k2 k3 k4 L v6 v7 v17 v18 v19 v20 v21 v22 v23 v24 W' :=
  { be := h.be.trans (hb.mono h.be.size)
    four := h.four.pass hb h.four.lt
    m17 := h.m17
    m18 := h.m18
    l19 := h.l19
    c20 := h.c20
    m21 := h.m21
    m22 := h.m22
    l23 := h.l23
    c24 := h.c24
    a6 := fun k => by obtain ⟨g6, e, h1, o, o2⟩ := h.a6 k; exact ⟨g6, e, h1, fun z => (o z).pass hb (o z).lt, fun z => (o2 z).pass hb (o2 z).lt⟩
    a7 := fun k => by obtain ⟨g6, e, h1, o, o2⟩ := h.a7 k; exact ⟨g6, e, h1, fun z => (o z).pass hb (o z).lt, fun z => (o2 z).pass hb (o2 z).lt⟩
    ne := h.ne
    o10 := h.o10
    o11 := h.o11 }
end
theorem below_four {B g : Nat} {a w : World} (h : Below B a w) (hg : B ≤ g) (x y z u : Value) : Below B a ((((w.setCell ⟨g, 0, none⟩ x).setCell ⟨g, 1, none⟩ y).setCell ⟨g, 2, none⟩ z).setCell ⟨g, 3, none⟩ u) :=
  Below.setCell (Below.setCell (Below.setCell (Below.setCell h (p := ⟨g, 0, none⟩) hg x) (p := ⟨g, 1, none⟩) hg y) (p := ⟨g, 2, none⟩) hg z) (p := ⟨g, 3, none⟩) hg u
theorem Four.far4 {w : World} {b g : Nat} {t : TypeId} {x y z u : Value} (h : Four w b t x y z u) (hne : b ≠ g) (x' y' z' u' : Value) : Four ((((w.setCell ⟨g, 0, none⟩ x').setCell ⟨g, 1, none⟩ y').setCell ⟨g, 2, none⟩ z').setCell ⟨g, 3, none⟩ u') b t x y z u :=
  (((h.far (a := ⟨g, 0, none⟩) hne x').far (a := ⟨g, 1, none⟩) hne y').far (a := ⟨g, 2, none⟩) hne z').far (a := ⟨g, 3, none⟩) hne u'
set_option maxHeartbeats 8000000 in
theorem DirtyParas_walk (A : Option Addr) (n c : Nat) (xs : List Int) (p : Int) (_ : (Lit.int .i64 p).wf = true) (g : Int) (_ : (Lit.int .i64 g).wf = true) (D : Option Addr) (m d : Nat) (ys : List Int) (st : Int) (_ : (Lit.int .i64 st).wf = true) (w : World)
    (hx : SliceIn .i32 w A n c xs) (hy : SliceIn .i32 w D m d ys) (hl : Laid w) :
    Calls Tryd.prog 3 #[.slice A n c, .agg #[.int .i64 p, .int .i64 g, .slice D m d, .int .i64 st]] w fun e w' => e = .returned (.bool true) ∧ Below w.heap.size w w' := by
  have LG : Shut (∀ W, _) := ⟨fun W => long52_any A n c p g D m d st W⟩
  cases hlong : (decide (40 < n) || decide (20 < m)) with
  | true =>
    rw [hlong] at LG
    clear hlong hx hy hl
    go_enter Tryd.func3, Tryd.ntmps3
    go_wp2_with fail
    refine (LG.out _).mono ?_
    rintro e w1 ⟨rfl, b1⟩
    go_wp2_with fail
    go_ret
    exact ⟨rfl, (below_alloc w _).trans (b1.mono (by simp))⟩
  | false =>
    rw [hlong] at LG
    simp only [Bool.or_eq_false_iff, decide_eq_false_iff_not] at hlong
    have hn : n ≤ 100 := by omega
    have hm : m ≤ 100 := by omega
    have FT : Shut (∀ W, _) := ⟨fun W => rfits_any A n c (by omega) p g D m d st (by omega) W⟩
    have HX : Shut _ := ⟨hx⟩
    have HY : Shut _ := ⟨hy⟩
    have HL : Shut _ := ⟨hl⟩
    clear hlong hx hy hl
    go_enter Tryd.func3, Tryd.ntmps3
    go_wp2_with fail
    refine (LG.out _).mono ?_
    rintro e w1 ⟨rfl, b1⟩
    have Q1 : Shut (Four w1 w.heap.size 24 (.int .i64 p) (.int .i64 g) (.slice D m d) (.int .i64 st)) := ⟨(Four.new w _ _ _ _ _ _ rfl).pass b1 (by simp)⟩
    have B1 : Shut (Below w.heap.size w w1) := ⟨(below_alloc w _).trans (b1.mono (by simp))⟩
    have c0 := Q1.out.c0
    have c1 := Q1.out.c1
    have c2 := Q1.out.c2
    have c3 := Q1.out.c3
    clear b1 LG
    go_wp2_with fail
    refine (FT.out _).mono ?_
    rintro e w2 ⟨rfl, b2⟩
    have Q2 : Shut _ := ⟨Q1.out.pass b2 Q1.out.lt⟩
    have B2 : Shut (Below w.heap.size w w2) := ⟨B1.out.trans (b2.mono B1.out.size)⟩
    clear b2 c0 c1 c2 c3 Q1 B1 FT
    go_upto_if 13 with fail
    go_cut [5] (fun v5 wx => ∃ k1 k2 k3 k4 : Int, Shut (∀ W, Below wx.heap.size wx W → Calls Tryd.prog 10 #[.slice A n c, v5, .agg #[.int .i64 p, .int .i64 g, .slice D m d, .int .i64 st]] W fun e w' => e = .returned (v4 k1 k2 k3 k4) ∧ Below W.heap.size W w') ∧
      Shut (∀ W, Below wx.heap.size wx W → Calls Tryd.prog 11 #[.slice A n c, v5, .agg #[.int .i64 p, .int .i64 g, .slice D m d, .int .i64 st]] W fun e w' => e = .returned (v4 k1 k2 k3 k4) ∧ Below W.heap.size W w') ∧
      Shut (Four wx w.heap.size 24 (.int .i64 p) (.int .i64 g) (.slice D m d) (.int .i64 st)) ∧ Shut (Below w.heap.size w wx))
    case first =>
      cases hf : fitsB n m p g with
      | false =>
        have PN : Shut (∀ W, _) := ⟨fun W => pdpNo_any A n c none 0 0 p g D m d st W (by omega) (by omega) hf⟩
        have RN : Shut (∀ W, _) := ⟨fun W => rdpNo_any A n c none 0 0 p g D m d st W (by omega) (by omega) hf⟩
        clear hf
        go_wp2_with fail
        go_meet
        exact ⟨0, 0, 0, 0, ⟨fun W _ => PN.out W⟩, ⟨fun W _ => RN.out W⟩, Q2, B2⟩
      | true =>
        have h0 : 0 ≤ p ∧ 0 ≤ g := by unfold fitsB at hf; simp at hf; omega
        obtain ⟨p, rfl⟩ := Int.eq_ofNat_of_zero_le h0.1
        obtain ⟨g, rfl⟩ := Int.eq_ofNat_of_zero_le h0.2
        have hpg : p + g ≤ n := by unfold fitsB at hf; simp at hf; omega
        obtain ⟨nb, hnb⟩ : ∃ nb, n - g + m = nb := ⟨_, rfl⟩
        have BH := rbehind_any A n c xs p g hpg D m d st ys w2 (HX.out.pass B2.out) (HY.out.pass B2.out) (by omega)
        rw [hnb] at BH
        have BH : Shut _ := ⟨BH⟩
        have HF : Shut _ := ⟨hf⟩
        have HNB : Shut (nb ≤ 1000) := ⟨by omega⟩
        have c0 := Q2.out.c0
        have c1 := Q2.out.c1
        have c2 := Q2.out.c2
        have c3 := Q2.out.c3
        clear hf h0 hnb
        go_wp2_with fail
        refine BH.out.mono ?_
        rintro e w3 ⟨A3, c4, rfl, o3, b3⟩
        have Q3 : Shut _ := ⟨Q2.out.pass b3 Q2.out.lt⟩
        have B3 : Shut (Below w.heap.size w w3) := ⟨B2.out.trans (b3.mono B2.out.size)⟩
        have O3 : Shut _ := ⟨o3⟩
        clear b3 o3 c0 c1 c2 c3
        go_wp2_with fail
        go_meet
        obtain ⟨k1, k2, k3, k4, hv⟩ : ∃ k1 k2 k3 k4 : Int, paraV (allP xs) (allP (behind xs ys p g)) p g m = v4 k1 k2 k3 k4 := ⟨_, _, _, _, rfl⟩
        exact ⟨k1, k2, k3, k4, ⟨fun W hW => by rw [← hv]; exact pdp_any A n c xs A3 nb c4 (behind xs ys p g) p g D m d st W (HX.out.pass (B3.out.trans (hW.mono B3.out.size))) (O3.out.pass hW) (HL.out.pass (B3.out.trans (hW.mono B3.out.size))) (by omega) HNB.out (by omega) HF.out⟩,
          ⟨fun W hW => by rw [← hv]; exact rdp_any A n c xs A3 nb c4 (behind xs ys p g) p g D m d st W (HX.out.pass (B3.out.trans (hW.mono B3.out.size))) (O3.out.pass hW) (by omega) HNB.out (by omega) HF.out⟩, Q3, B3⟩
    case rest =>
      obtain ⟨k1, k2, k3, k4, CP, CR, Q5, B5⟩ := hcut
      clear Q2 B2 HX HY HL
      have hq5 := Q5.out.lt
      go_upto_region 6 with fail
      go_cut [6, 7] (fun va vb wx => ∃ g6 g7 : Nat, va = .pointer (some ⟨g6, 0, none⟩) ∧ vb = .pointer (some ⟨g7, 0, none⟩) ∧ Shut (Four wx g6 28 (.int .i64 k1) (.int .i64 k2) (.int .i64 k3) (.int .i64 k4)) ∧ Shut (Four wx g7 30 (.int .i64 k1) (.int .i64 k2) (.int .i64 k3) (.int .i64 k4)) ∧ Shut (Below w.heap.size w wx))
      case first =>
        skip
        refine wp_region_inv (by kernel_rfl) (by kernel_rfl) (fun L a' W => Below wc.heap.size wc W ∧ ∃ v6 v7 v17 v18 v19 v20 v21 v22 v23 v24 : Value, PI wc.heap.size w A n c u5 p g D m d st k1 k2 k3 k4 L v6 v7 v17 v18 v19 v20 v21 v22 v23 v24 W ∧ a' = ⟨#[.slice A n c, .agg #[.int .i64 p, .int .i64 g, .slice D m d, .int .i64 st], undef, .pointer (some ⟨w.heap.size, 0, none⟩), .bool false, u5, v6, v7, u8, u9, u10, u11, u12, u13, u14, u15, u16, v17, v18, v19, v20, v21, v22, v23, v24, u25, u26, u27, u28, u29, u30, u31, u32, u33, u34, u35, u36, u37, u38, u39, u40, u41, u42, u43, u44, u45, u46, u47, u48, u49, u50], []⟩) ?_ ?_ ?_
        · exact ⟨below_drewP (Below.refl _ _), undef, undef, u17, u18, u19, u20, u21, u22, u23, u24, ⟨below_drewP B5.out, Q5.out, fun h => (by cases h), fun h => (by cases h), fun h => (by cases h), fun h => (by cases h), fun h => (by cases h), fun h => (by cases h), fun h => (by cases h), fun h => (by cases h), fun h => (by cases h), fun h => (by cases h), fun h => (by cases h), fun h => (by cases h), fun h => (by cases h)⟩, rfl⟩
        · rintro i o L a' W ho hLi hpre ⟨bW, v6, v7, v17, v18, v19, v20, v21, v22, v23, v24, hI, rfl⟩
          have hi : i < 12 := by
            have := (Array.getElem?_eq_some_iff.1 ho).1
            simpa using this
          have hcs : i = 0 ∨ i = 1 ∨ i = 2 ∨ i = 3 ∨ i = 4 ∨ i = 5 ∨ i = 6 ∨ i = 7 ∨ i = 8 ∨ i = 9 ∨ i = 10 ∨ i = 11 := by omega
          rcases hcs with rfl | rfl | rfl | rfl | rfl | rfl | rfl | rfl | rfl | rfl | rfl | rfl
          all_goals (injection ho with ho; subst ho)
          all_goals (simp [Region.binds] at hpre)
          · refine wpOp_step rfl (fun K hK => ?_)
            go_simp
            exact hK _ _ ⟨bW, v6, v7, .slice A n c, v18, v19, v20, v21, v22, v23, v24, { hI with m17 := fun _ => rfl }, rfl⟩
          · refine wpOp_step rfl (fun K hK => ?_)
            go_simp
            exact hK _ _ ⟨bW, v6, v7, v17, u5, v19, v20, v21, v22, v23, v24, { hI with m18 := fun _ => rfl }, rfl⟩
          · have q0 := hI.four.c0
            have q1 := hI.four.c1
            have q2 := hI.four.c2
            have q3 := hI.four.c3
            refine wpOp_step rfl (fun K hK => ?_)
            go_simp
            exact hK _ _ ⟨bW, v6, v7, v17, v18, .agg #[.int .i64 p, .int .i64 g, .slice D m d, .int .i64 st], v20, v21, v22, v23, v24, { hI with l19 := fun _ => rfl }, rfl⟩
          · have l0 : L 0 = true := by simp_all
            have l1 : L 1 = true := by simp_all
            have l2 : L 2 = true := by simp_all
            obtain rfl := hI.m17 l0
            obtain rfl := (hI.m18 l1).symm
            obtain rfl := hI.l19 l2
            refine wpOp_step rfl (fun K hK => ?_)
            go_simp
            refine (CP.out W bW).mono ?_
            rintro e w2 ⟨rfl, b2⟩
            exact hK _ _ ⟨bW.trans (b2.mono bW.size), v6, v7, .slice A n c, u5, .agg #[.int .i64 p, .int .i64 g, .slice D m d, .int .i64 st], v4 k1 k2 k3 k4, v21, v22, v23, v24, { hI.pass b2 with c20 := fun _ => rfl }, rfl⟩
          · refine wpOp_step rfl (fun K hK => ?_)
            go_simp
            exact hK _ _ ⟨bW, v6, v7, v17, v18, v19, v20, .slice A n c, v22, v23, v24, { hI with m21 := fun _ => rfl }, rfl⟩
          · refine wpOp_step rfl (fun K hK => ?_)
            go_simp
            exact hK _ _ ⟨bW, v6, v7, v17, v18, v19, v20, v21, u5, v23, v24, { hI with m22 := fun _ => rfl }, rfl⟩
          · have q0 := hI.four.c0
            have q1 := hI.four.c1
            have q2 := hI.four.c2
            have q3 := hI.four.c3
            refine wpOp_step rfl (fun K hK => ?_)
            go_simp
            exact hK _ _ ⟨bW, v6, v7, v17, v18, v19, v20, v21, v22, .agg #[.int .i64 p, .int .i64 g, .slice D m d, .int .i64 st], v24, { hI with l23 := fun _ => rfl }, rfl⟩
          · have l4 : L 4 = true := by simp_all
            have l5 : L 5 = true := by simp_all
            have l6 : L 6 = true := by simp_all
            obtain rfl := hI.m21 l4
            obtain rfl := (hI.m22 l5).symm
            obtain rfl := hI.l23 l6
            refine wpOp_step rfl (fun K hK => ?_)
            go_simp
            refine (CR.out W bW).mono ?_
            rintro e w2 ⟨rfl, b2⟩
            exact hK _ _ ⟨bW.trans (b2.mono bW.size), v6, v7, v17, v18, v19, v20, .slice A n c, u5, .agg #[.int .i64 p, .int .i64 g, .slice D m d, .int .i64 st], v4 k1 k2 k3 k4, { hI.pass b2 with c24 := fun _ => rfl }, rfl⟩
          · have h9 : ¬ L 10 = true := fun h => by have := hI.o10 h; rw [hLi] at this; cases this
            have hz := bW.size
            refine wpOp_step rfl (fun K hK => ?_)
            go_simp
            exact hK _ _ ⟨bW.trans ((below_alloc W _).mono bW.size), .pointer (some ⟨W.heap.size, 0, none⟩), v7, v17, v18, v19, v20, v21, v22, v23, v24, { hI.pass (below_alloc W _) with
              a6 := fun _ => ⟨W.heap.size, rfl, by omega, fun _ => Four.new _ _ _ _ _ _ _ rfl, fun h => absurd h h9⟩
              ne := fun _ k => by
                obtain ⟨g6, rfl, h6, o6, o7⟩ := hI.a7 k
                have : g6 < W.heap.size := by
                  cases hq : L 11 with
                  | true => exact (o7 hq).lt
                  | false => exact (o6 hq).lt
                intro h
                injection h with h
                injection h with h
                injection h with h
                omega
              o10 := fun h => absurd h h9 }, rfl⟩
          · have h9 : ¬ L 11 = true := fun h => by have := hI.o11 h; rw [hLi] at this; cases this
            have hz := bW.size
            refine wpOp_step rfl (fun K hK => ?_)
            go_simp
            exact hK _ _ ⟨bW.trans ((below_alloc W _).mono bW.size), v6, .pointer (some ⟨W.heap.size, 0, none⟩), v17, v18, v19, v20, v21, v22, v23, v24, { hI.pass (below_alloc W _) with
              a7 := fun _ => ⟨W.heap.size, rfl, by omega, fun _ => Four.new _ _ _ _ _ _ _ rfl, fun h => absurd h h9⟩
              ne := fun k _ => by
                obtain ⟨g6, rfl, h6, o6, o7⟩ := hI.a6 k
                have : g6 < W.heap.size := by
                  cases hq : L 10 with
                  | true => exact (o7 hq).lt
                  | false => exact (o6 hq).lt
                intro h
                injection h with h
                injection h with h
                injection h with h
                omega
              o11 := fun h => absurd h h9 }, rfl⟩
          · have l8 : L 8 = true := by simp_all
            have l9 : L 9 = true := by simp_all
            have lc : L 3 = true := by simp_all
            have hLi2 := hLi
            obtain rfl := hI.c20 lc
            obtain ⟨g6, rfl, h6, o6, p6⟩ := hI.a6 l8
            obtain ⟨g7, rfl, h7, o7, p7⟩ := hI.a7 l9
            have hne : g6 ≠ g7 := fun h => hI.ne l8 l9 (by rw [h])
            have X := o6 hLi
            have e0 := X.c0
            have f0 := X.f 0
            have e1 := X.c1
            have f1 := X.f 1
            have e2 := X.c2
            have f2 := X.f 2
            have e3 := X.c3
            have f3 := X.f 3
            have hg := X.lt
            clear hpre hLi
            refine wpOp_step rfl (fun K hK => ?_)
            unfold v4 at hK ⊢
            go_simp
            exact hK _ _ ⟨below_four bW h6 _ _ _ _, .pointer (some ⟨g6, 0, none⟩), .pointer (some ⟨g7, 0, none⟩), v17, v18, v19, v4 k1 k2 k3 k4, v21, v22, v23, v24, { hI with
              be := below_four hI.be (by omega) _ _ _ _
              four := hI.four.far4 (by omega) _ _ _ _
              a6 := fun _ => ⟨g6, rfl, h6, (fun h => by cases h), fun _ => (((X.set0 _).set1 _).set2 _).set3 _⟩
              a7 := fun _ => ⟨g7, rfl, h7, fun h => (o7 h).far4 (Ne.symm hne) _ _ _ _, fun h => (p7 h).far4 (Ne.symm hne) _ _ _ _⟩
              o10 := fun _ => l8 }, rfl⟩
          · have l8 : L 8 = true := by simp_all
            have l9 : L 9 = true := by simp_all
            have lc : L 7 = true := by simp_all
            have hLi2 := hLi
            obtain rfl := hI.c24 lc
            obtain ⟨g6, rfl, h6, o6, p6⟩ := hI.a6 l8
            obtain ⟨g7, rfl, h7, o7, p7⟩ := hI.a7 l9
            have hne : g6 ≠ g7 := fun h => hI.ne l8 l9 (by rw [h])
            have X := o7 hLi
            have e0 := X.c0
            have f0 := X.f 0
            have e1 := X.c1
            have f1 := X.f 1
            have e2 := X.c2
            have f2 := X.f 2
            have e3 := X.c3
            have f3 := X.f 3
            have hg := X.lt
            clear hpre hLi
            refine wpOp_step rfl (fun K hK => ?_)
            unfold v4 at hK ⊢
            go_simp
            exact hK _ _ ⟨below_four bW h7 _ _ _ _, .pointer (some ⟨g6, 0, none⟩), .pointer (some ⟨g7, 0, none⟩), v17, v18, v19, v20, v21, v22, v23, v4 k1 k2 k3 k4, { hI with
              be := below_four hI.be (by omega) _ _ _ _
              four := hI.four.far4 (by omega) _ _ _ _
              a6 := fun _ => ⟨g6, rfl, h6, fun h => (o6 h).far4 hne _ _ _ _, fun h => (p6 h).far4 hne _ _ _ _⟩
              a7 := fun _ => ⟨g7, rfl, h7, (fun h => by cases h), fun _ => (((X.set0 _).set1 _).set2 _).set3 _⟩
              o11 := fun _ => l9 }, rfl⟩
        · rintro L a' W hall ⟨bW, v6, v7, v17, v18, v19, v20, v21, v22, v23, v24, hI, rfl⟩
          obtain ⟨g6, rfl, _, _, p6⟩ := hI.a6 (hall 8 (by decide))
          obtain ⟨g7, rfl, _, _, p7⟩ := hI.a7 (hall 9 (by decide))
          have P6 : Shut _ := ⟨p6 (hall 10 (by decide))⟩
          have P7 : Shut _ := ⟨p7 (hall 11 (by decide))⟩
          have BE : Shut _ := ⟨hI.be⟩
          clear hI hall p6 p7 bW
          go_step
          go_step
          go_meet
          exact ⟨g6, g7, rfl, rfl, P6, P7, BE⟩
      case rest =>
        obtain ⟨g6, g7, rfl, rfl, P6, P7, BE⟩ := hcut
        have a0 := P6.out.c0
        have a1 := P6.out.c1
        have a2 := P6.out.c2
        have a3 := P6.out.c3
        have d0 := P7.out.c0
        have d1 := P7.out.c1
        have d2 := P7.out.c2
        have d3 := P7.out.c3
        clear CP CR Q5 B5 P6 P7
        go_wp2_with fail
        go_ret
        exact ⟨retb (by simp), BE.out⟩
end Go.Proofs.YtilbcafkjpikgaaDoor
