/- Chapter 52: the window of clusters, the program's way. -/
import Derived.Test.YtmbgeeiidpllcaaDoorDcp
import Derived.Test.YtmbgeeiidpllcaaDoorDfp
namespace Go.Proofs.YtmbgeeiidpllcaaDoor
open Go.ChangeShapes Go.WideShapes Go.ChangeAt Go.RowKit
set_option maxRecDepth 100000
set_option linter.unusedSimpArgs false

def sameM (K1 K2 : List Int) (i k : Nat) : Bool := isN K1 i == isN K2 k
/-- the window of clusters of a text under an edit that fits -/
def clustersV (xs ys : List Int) (p g : Nat) : Value := plcV (sameM (ks xs) (ks (behind xs ys p g))) xs.length p g ys.length
theorem pmarksA_any (A : Option Addr) (n c : Nat) (xs : List Int) (w : World) (hx : SliceIn .i32 w A n c xs) (hl : Laid w) (hn : n ≤ 2000) :
    Calls Tryd.prog 21 #[.slice A n c] w fun e w' => ∃ (A2 : Option Addr) (c2 : Nat), e = .returned (.slice A2 (n + 1) c2) ∧ OwnV w' w.heap.size 4 1 A2 (n + 1) c2 (mkV .bool (ks xs)) ∧ Below w.heap.size w w' :=
  (pmarks_any A n c xs w hx hl hn).mono fun _ _ ⟨_, c, h⟩ => ⟨_, c, h⟩
theorem OwnV.weak {w : World} {B B' : Nat} {e : TypeId} {size : Nat} {A : Option Addr} {n c : Nat} {xs : List Value} (h : OwnV w B e size A n c xs) (hb : B' ≤ B) : OwnV w B' e size A n c xs := by
  refine ⟨h.1, ?_⟩
  rcases h.2 with h2 | ⟨g, cap, cur, hv, hg, r⟩
  · exact .inl h2
  · exact .inr ⟨g, cap, cur, hv, by omega, r⟩
set_option maxHeartbeats 1000000 in
theorem clustersClo_any (i k : Nat) (bx bY : Nat) (X : Option Addr) (nx cx : Nat) (K1 : List Int) (Y : Option Addr) (ny cy : Nat) (K2 : List Int) (B : Nat) (w : World) (hk1 : nx = K1.length + 1) (hk2 : ny = K2.length + 1)
    (h1 : w.cell? ⟨bx, 0, none⟩ = some (.slice X nx cx)) (h2 : w.cell? ⟨bY, 0, none⟩ = some (.slice Y ny cy)) (hx : OwnV w B 4 1 X nx cx (mkV .bool K1)) (hy : OwnV w B 4 1 Y ny cy (mkV .bool K2)) (hi : i < nx) (hk : k < ny) :
    Calls Tryd.prog 22 #[.int .i64 (i : Int), .int .i64 (k : Int), .pointer (some ⟨bx, 0, none⟩), .pointer (some ⟨bY, 0, none⟩)] w fun e w' => e = .returned (.bool (sameM K1 K2 i k)) ∧ Below w.heap.size w w' := by
  obtain ⟨gx, rfl, _, _⟩ := OwnV.form hx (by omega)
  obtain ⟨gy, rfl, _, _⟩ := OwnV.form hy (by omega)
  have c1 := (OwnV.cellAt hx i (by omega)).trans (mkV_at .bool (by omega))
  have c2 := (OwnV.cellAt hy k (by omega)).trans (mkV_at .bool (by omega))
  unfold sameM
  generalize isN K1 i = u at *
  generalize isN K2 k = v at *
  have i1 : (i : Int) < (nx : Int) := by omega
  have i2 : (k : Int) < (ny : Int) := by omega
  have i3 : (0 : Int) ≤ (i : Int) := by omega
  have i4 : (0 : Int) ≤ (k : Int) := by omega
  clear hx hy hi hk hk1 hk2
  go_enter Tryd.func22, Tryd.ntmps22
  go_wp2_with fail
  go_quiet (fail)
  go_wp2
  go_ret
  exact ⟨rfl, below_drewN (Below.refl _ _) _⟩
theorem clustersTells (bx bY : Nat) (X : Option Addr) (nx cx : Nat) (K1 : List Int) (Y : Option Addr) (ny cy : Nat) (K2 : List Int) (B : Nat) (w : World) (hk1 : nx = K1.length + 1) (hk2 : ny = K2.length + 1)
    (h1 : w.cell? ⟨bx, 0, none⟩ = some (.slice X nx cx)) (h2 : w.cell? ⟨bY, 0, none⟩ = some (.slice Y ny cy)) (hx : OwnV w B 4 1 X nx cx (mkV .bool K1)) (hy : OwnV w B 4 1 Y ny cy (mkV .bool K2)) :
    Tells2 Tryd.prog 22 #[.pointer (some ⟨bx, 0, none⟩), .pointer (some ⟨bY, 0, none⟩)] (sameM K1 K2) nx ny w :=
  fun i k hi hk => clustersClo_any i k bx bY X nx cx K1 Y ny cy K2 B w hk1 hk2 h1 h2 hx hy hi hk

set_option maxHeartbeats 4000000 in
theorem pclustersNo_any (A : Option Addr) (n c : Nat) (p g : Int) (D : Option Addr) (m d : Nat) (st : Int) (w : World) (hn : n ≤ 1000) (hm : m ≤ 1000) (hf : fitsB n m p g = false) :
    Calls Tryd.prog 9 #[.slice A n c, .agg #[.int .i64 p, .int .i64 g, .slice D m d, .int .i64 st]] w fun e w' => e = .returned (.agg #[.int .i64 0, .int .i64 0]) ∧ Below w.heap.size w w' := by
  have F : Shut (∀ W, _) := ⟨fun W => pfits_any n (by omega) p g D m d st (by omega) W⟩
  rw [hf] at F
  clear hf
  go_enter Tryd.func9, Tryd.ntmps9
  go_wp2_with fail
  refine (F.out _).mono ?_
  rintro e w1 ⟨rfl, b1⟩
  have R1 : Two w1 (w.heap.size + 1) 27 (.int .i64 0) (.int .i64 0) := (Two.newN _ _ _ _ _ (by simp)).pass b1 (by simp)
  have B1 : Shut (Below w.heap.size w w1) := ⟨((below_alloc w _).alloc (by simp) _).trans (b1.mono (by simp; omega))⟩
  clear b1
  go_wp2_with (refine wpList_store_row rfl 27 (.tmp 4) (.tmp 12) rfl (w.heap.size + 1) _ rfl rfl 27 _ R1 cutSize52 (by rfl) (two_all52 _ _) ?_)
  exact cut_done3 Tryd.results9 (by rfl) R1 B1.out

/-- what is known in the midst of the region: L tells which operations have been done -/
structure CI (w : World) (A : Option Addr) (n c p g : Nat) (D : Option Addr) (m d : Nat) (st : Int) (fx : List Value) (bs : List Int) (fy : List Value) (nb : Nat) (L : Nat → Bool) (v5 v6 v13 v14 v15 v16 v17 v18 : Value) (W : World) : Prop where
  be : Below w.heap.size w W
  four : Four W w.heap.size 24 (.int .i64 (p : Int)) (.int .i64 (g : Int)) (.slice D m d) (.int .i64 st)
  res : Two W (w.heap.size + 1) 27 (.int .i64 0) (.int .i64 0)
  m13 : L 0 = true → v13 = .slice A n c
  f14 : L 1 = true → ∃ (X : Option Addr) (cx : Nat), v14 = .slice X (n + 1) cx ∧ OwnV W w.heap.size 4 1 X (n + 1) cx fx
  m15 : L 2 = true → v15 = .slice A n c
  l16 : L 3 = true → v16 = editV p g D m d st
  d17 : L 4 = true → L 8 = false → L 9 = false → ∃ (A3 : Option Addr) (c3 : Nat), v17 = .slice A3 nb c3 ∧ SliceIn .i32 W A3 nb c3 bs
  f18 : L 5 = true → ∃ (Y : Option Addr) (cy : Nat), v18 = .slice Y (nb + 1) cy ∧ OwnV W w.heap.size 4 1 Y (nb + 1) cy fy
  a5 : L 6 = true → ∃ g5 : Nat, v5 = .pointer (some ⟨g5, 0, none⟩) ∧ w.heap.size + 2 ≤ g5 ∧ One W g5 38 (if L 8 = true then v14 else .slice none 0 0)
  a6 : L 7 = true → ∃ g6 : Nat, v6 = .pointer (some ⟨g6, 0, none⟩) ∧ w.heap.size + 2 ≤ g6 ∧ One W g6 38 (if L 9 = true then v18 else .slice none 0 0)
  ne : L 6 = true → L 7 = true → v5 ≠ v6
  o8 : L 8 = true → L 6 = true ∧ L 1 = true ∧ L 5 = true
  o9 : L 9 = true → L 7 = true ∧ L 5 = true ∧ L 1 = true
theorem CI.pass {w : World} {A : Option Addr} {n c p g : Nat} {D : Option Addr} {m d : Nat} {st : Int} {fx : List Value} {bs : List Int} {fy : List Value} {nb : Nat} {L : Nat → Bool} {v5 v6 v13 v14 v15 v16 v17 v18 : Value} {W W' : World}
    (h : CI w A n c p g D m d st fx bs fy nb L v5 v6 v13 v14 v15 v16 v17 v18 W) (hb : Below W.heap.size W W') : CI w A n c p g D m d st fx bs fy nb L v5 v6 v13 v14 v15 v16 v17 v18 W' :=
  { be := h.be.trans (hb.mono h.be.size)
    four := h.four.pass hb h.four.lt
    res := h.res.pass hb h.res.lt
    m13 := h.m13
    f14 := fun k => by obtain ⟨X, cx, e, o⟩ := h.f14 k; exact ⟨X, cx, e, OwnV.pass o hb⟩
    m15 := h.m15
    l16 := h.l16
    d17 := fun k k8 k9 => by obtain ⟨X, cx, e, o⟩ := h.d17 k k8 k9; exact ⟨X, cx, e, o.pass hb⟩
    f18 := fun k => by obtain ⟨X, cx, e, o⟩ := h.f18 k; exact ⟨X, cx, e, OwnV.pass o hb⟩
    a5 := fun k => by obtain ⟨g5, e, h1, o⟩ := h.a5 k; exact ⟨g5, e, h1, o.pass hb o.lt⟩
    a6 := fun k => by obtain ⟨g5, e, h1, o⟩ := h.a6 k; exact ⟨g5, e, h1, o.pass hb o.lt⟩
    ne := h.ne
    o8 := h.o8
    o9 := h.o9 }
set_option maxHeartbeats 8000000 in
theorem pclusters_any (A : Option Addr) (n c : Nat) (xs : List Int) (p g : Nat) (D : Option Addr) (m d : Nat) (st : Int) (ys : List Int) (w : World) (hx : SliceIn .i32 w A n c xs) (hy : SliceIn .i32 w D m d ys) (hl : Laid w) (hn : n ≤ 1000) (hm : m ≤ 1000) (hf : fitsB n m p g = true) :
    Calls Tryd.prog 9 #[.slice A n c, .agg #[.int .i64 (p : Int), .int .i64 (g : Int), .slice D m d, .int .i64 st]] w fun e w' => e = .returned (clustersV xs ys p g) ∧ Below w.heap.size w w' := by
  have hpg : p + g ≤ n := by unfold fitsB at hf; simp at hf; omega
  have F : Shut (∀ W, _) := ⟨fun W => pfits_any n (by omega) (p : Int) (g : Int) D m d st (by omega) W⟩
  rw [hf] at F
  have C1 : Shut (∀ W, Below w.heap.size w W → _) := ⟨fun W hW => pmarksA_any A n c xs W (hx.pass hW) (hl.pass hW) (by omega)⟩
  have C2 : Shut (∀ W, Below w.heap.size w W → _) := ⟨fun W hW => pdone_any A n c xs p g hpg D m d st ys W (hx.pass hW) (hy.pass hW) (by omega)⟩
  obtain ⟨nb, hnb⟩ : ∃ nb, n - g + m = nb := ⟨_, rfl⟩
  rw [hnb] at C2
  have C3 : Shut (∀ (W : World) (A2 : Option Addr) (c2 : Nat), Below w.heap.size w W → SliceIn .i32 W A2 nb c2 (behind xs ys p g) → _) := ⟨fun W A2 c2 hb hW => pmarksA_any A2 nb c2 (behind xs ys p g) W hW (hl.pass hb) (by omega)⟩
  have FV : Shut (clustersV xs ys p g = plcV (sameM (ks xs) (ks (behind xs ys p g))) n p g m) := ⟨by unfold clustersV; rw [hx.at_.len, hy.at_.len]⟩
  have HK1 : Shut ((ks xs).length = n) := ⟨(ks_len xs).trans hx.at_.len⟩
  have HK2 : Shut ((ks (behind xs ys p g)).length = nb) := ⟨by rw [ks_len, behind_len (by rw [hx.at_.len]; exact hpg), hx.at_.len, hy.at_.len]; omega⟩
  generalize behind xs ys p g = bs at *
  generalize ks xs = K1 at *
  generalize ks bs = K2 at *
  generalize clustersV xs ys p g = V at *
  clear hx hy hf hl
  go_enter Tryd.func9, Tryd.ntmps9
  go_wp2_with fail
  refine (F.out _).mono ?_
  rintro e w1 ⟨rfl, b1⟩
  have R1 : Shut (Two w1 (w.heap.size + 1) 27 (.int .i64 0) (.int .i64 0)) := ⟨(Two.newN _ _ _ _ _ (by simp)).pass b1 (by simp)⟩
  have Q1 : Shut (Four w1 w.heap.size 24 (.int .i64 (p : Int)) (.int .i64 (g : Int)) (.slice D m d) (.int .i64 st)) := ⟨((Four.new w _ _ _ _ _ _ rfl).alloc _).pass b1 (by simp; omega)⟩
  have B1 : Shut (Below w.heap.size w w1) := ⟨((below_alloc w _).alloc (by simp) _).trans (b1.mono (by simp; omega))⟩
  clear b1 F
  go_upto_region 3 with fail
  go_cut [5, 6] (fun v5 v6 W => ∃ (g5 g6 : Nat) (X : Option Addr) (cx : Nat) (Y : Option Addr) (cy : Nat), v5 = .pointer (some ⟨g5, 0, none⟩) ∧ v6 = .pointer (some ⟨g6, 0, none⟩) ∧ Shut (One W g5 38 (.slice X (n + 1) cx)) ∧ Shut (One W g6 38 (.slice Y (nb + 1) cy)) ∧
    Shut (OwnV W w.heap.size 4 1 X (n + 1) cx (mkV .bool K1)) ∧ Shut (OwnV W w.heap.size 4 1 Y (nb + 1) cy (mkV .bool K2)) ∧ Shut (Four W w.heap.size 24 (.int .i64 (p : Int)) (.int .i64 (g : Int)) (.slice D m d) (.int .i64 st)) ∧ Shut (Two W (w.heap.size + 1) 27 (.int .i64 0) (.int .i64 0)) ∧ Shut (Below w.heap.size w W))
  case first =>
    refine wp_region_inv (by kernel_rfl) (by kernel_rfl) (fun L a' W => ∃ v5 v6 v13 v14 v15 v16 v17 v18 : Value, CI w A n c p g D m d st (mkV .bool K1) bs (mkV .bool K2) nb L v5 v6 v13 v14 v15 v16 v17 v18 W ∧
      a' = ⟨#[.slice A n c, .agg #[.int .i64 (p : Int), .int .i64 (g : Int), .slice D m d, .int .i64 st], undef, .pointer (some ⟨w.heap.size, 0, none⟩), .pointer (some ⟨w.heap.size + 1, 0, none⟩), v5, v6, .slice A n c, .int .i64 (n : Int), .agg #[.int .i64 (p : Int), .int .i64 (g : Int), .slice D m d, .int .i64 st], .bool true, .bool false, undef, v13, v14, v15, v16, v17, v18, undef, undef, undef, undef, undef], []⟩) ?_ ?_ ?_
    · exact ⟨undef, undef, undef, undef, undef, undef, undef, undef, ⟨below_drewX B1.out, Q1.out, R1.out, fun h => (by cases h), fun h => (by cases h), fun h => (by cases h), fun h => (by cases h), fun h => (by cases h), fun h => (by cases h), fun h => (by cases h), fun h => (by cases h), fun h => (by cases h), fun h => (by cases h), fun h => (by cases h)⟩, rfl⟩
    · rintro i o L a' W ho hLi hpre ⟨v5, v6, v13, v14, v15, v16, v17, v18, hI, rfl⟩
      have hi : i < 10 := by
        have := (Array.getElem?_eq_some_iff.1 ho).1
        simpa using this
      have hcs : i = 0 ∨ i = 1 ∨ i = 2 ∨ i = 3 ∨ i = 4 ∨ i = 5 ∨ i = 6 ∨ i = 7 ∨ i = 8 ∨ i = 9 := by omega
      rcases hcs with rfl | rfl | rfl | rfl | rfl | rfl | rfl | rfl | rfl | rfl
      all_goals (injection ho with ho; subst ho)
      all_goals (simp [Region.binds] at hpre)
      · refine wpOp_step rfl (fun K hK => ?_)
        go_simp
        exact hK _ _ ⟨v5, v6, .slice A n c, v14, v15, v16, v17, v18, { hI with m13 := fun _ => rfl }, rfl⟩
      · obtain rfl := hI.m13 hpre
        have h8 : ¬ L 8 = true := fun h => by have := (hI.o8 h).2.1; rw [hLi] at this; cases this
        refine wpOp_step rfl (fun K hK => ?_)
        go_simp
        refine (C1.out W hI.be).mono ?_
        rintro e w2 ⟨X, cx, rfl, o2, b2⟩
        exact hK _ _ ⟨v5, v6, .slice A n c, .slice X (n + 1) cx, v15, v16, v17, v18, { hI.pass b2 with
          f14 := fun _ => ⟨X, cx, rfl, o2.weak hI.be.size⟩
          a5 := fun k => by
            obtain ⟨g5, e, h1, o⟩ := (hI.pass b2).a5 k
            rw [if_neg h8] at o
            refine ⟨g5, e, h1, ?_⟩
            show One _ _ _ (if L 8 = true then _ else _)
            rw [if_neg h8]
            exact o
          o8 := fun h => absurd h h8
          o9 := fun h => by have := (hI.o9 h).2.2; rw [hLi] at this; cases this }, rfl⟩
      · refine wpOp_step rfl (fun K hK => ?_)
        go_simp
        exact hK _ _ ⟨v5, v6, v13, v14, .slice A n c, v16, v17, v18, { hI with m15 := fun _ => rfl }, rfl⟩
      · have q0 := hI.four.c0
        have q1 := hI.four.c1
        have q2 := hI.four.c2
        have q3 := hI.four.c3
        refine wpOp_step rfl (fun K hK => ?_)
        go_simp
        exact hK _ _ ⟨v5, v6, v13, v14, v15, editV p g D m d st, v17, v18, { hI with l16 := fun _ => rfl }, rfl⟩
      · obtain rfl := hI.m15 hpre.1
        obtain rfl := hI.l16 hpre.2.1
        refine wpOp_step rfl (fun K hK => ?_)
        go_simp
        refine (C2.out W hI.be).mono ?_
        rintro e w2 ⟨A3, c3, rfl, o3, b2⟩
        exact hK _ _ ⟨v5, v6, v13, v14, .slice A n c, editV p g D m d st, .slice A3 nb c3, v18, { hI.pass b2 with d17 := fun _ _ _ => ⟨A3, c3, rfl, o3⟩ }, rfl⟩
      · have h8 : ¬ L 8 = true := fun h => by have := (hI.o8 h).2.2; rw [hLi] at this; cases this
        have h9 : ¬ L 9 = true := fun h => by have := (hI.o9 h).2.1; rw [hLi] at this; cases this
        obtain ⟨A3, c3, rfl, o3⟩ := hI.d17 hpre (by simpa using h8) (by simpa using h9)
        refine wpOp_step rfl (fun K hK => ?_)
        go_simp
        refine (C3.out W A3 c3 hI.be o3).mono ?_
        rintro e w2 ⟨Y, cy, rfl, o2, b2⟩
        exact hK _ _ ⟨v5, v6, v13, v14, v15, v16, .slice A3 nb c3, .slice Y (nb + 1) cy, { hI.pass b2 with
          f18 := fun _ => ⟨Y, cy, rfl, o2.weak hI.be.size⟩
          a6 := fun k => by
            obtain ⟨g5, e, h1, o⟩ := (hI.pass b2).a6 k
            rw [if_neg h9] at o
            refine ⟨g5, e, h1, ?_⟩
            show One _ _ _ (if L 9 = true then _ else _)
            rw [if_neg h9]
            exact o
          o8 := fun h => absurd h h8
          o9 := fun h => absurd h h9 }, rfl⟩
      · have h8 : ¬ L 8 = true := fun h => by have := (hI.o8 h).1; rw [hLi] at this; cases this
        have hz := hI.res.lt
        refine wpOp_step rfl (fun K hK => ?_)
        go_simp
        exact hK _ _ ⟨.pointer (some ⟨W.heap.size, 0, none⟩), v6, v13, v14, v15, v16, v17, v18, { hI.pass (below_alloc W _) with
          a5 := fun _ => by
            refine ⟨W.heap.size, rfl, by omega, ?_⟩
            show One _ _ _ (if L 8 = true then _ else _)
            rw [if_neg h8]
            exact One.new _ _ _
          ne := fun _ k => by
            obtain ⟨g6, rfl, h6, o6⟩ := hI.a6 k
            have := o6.lt
            intro h
            injection h with h
            injection h with h
            injection h with h
            omega
          o8 := fun h => absurd h h8
          o9 := hI.o9 }, rfl⟩
      · have h9 : ¬ L 9 = true := fun h => by have := (hI.o9 h).1; rw [hLi] at this; cases this
        have hz := hI.res.lt
        refine wpOp_step rfl (fun K hK => ?_)
        go_simp
        exact hK _ _ ⟨v5, .pointer (some ⟨W.heap.size, 0, none⟩), v13, v14, v15, v16, v17, v18, { hI.pass (below_alloc W _) with
          a6 := fun _ => by
            refine ⟨W.heap.size, rfl, by omega, ?_⟩
            show One _ _ _ (if L 9 = true then _ else _)
            rw [if_neg h9]
            exact One.new _ _ _
          ne := fun k _ => by
            obtain ⟨g6, rfl, h6, o6⟩ := hI.a5 k
            have := o6.lt
            intro h
            injection h with h
            injection h with h
            injection h with h
            omega
          o8 := hI.o8
          o9 := fun h => absurd h h9 }, rfl⟩
      · have l1 : L 1 = true := by simp_all
        have l5 : L 5 = true := by simp_all
        have l6 : L 6 = true := by simp_all
        have l7 : L 7 = true := by simp_all
        have h8 : ¬ L 8 = true := by simp_all
        clear hpre hLi
        obtain ⟨X, cx, rfl, oX⟩ := hI.f14 l1
        obtain ⟨Y, cy, rfl, oY⟩ := hI.f18 l5
        obtain ⟨g5, rfl, b5, o5⟩ := hI.a5 l6
        obtain ⟨g6, rfl, b6, o6⟩ := hI.a6 l7
        rw [if_neg h8] at o5
        have hne : g6 ≠ g5 := fun h => hI.ne l6 l7 (by rw [h])
        have k0 := o5.cell
        have f0 := o5.f
        refine wpOp_step rfl (fun K hK => ?_)
        go_simp
        exact hK _ _ ⟨.pointer (some ⟨g5, 0, none⟩), .pointer (some ⟨g6, 0, none⟩), v13, .slice X (n + 1) cx, v15, v16, v17, .slice Y (nb + 1) cy, { hI with
          be := Below.setCell hI.be (p := ⟨g5, 0, none⟩) (by simp; omega) _
          four := hI.four.far (a := ⟨g5, 0, none⟩) (by simp; omega) _
          res := hI.res.far (a := ⟨g5, 0, none⟩) (by simp; omega) _
          f14 := fun _ => ⟨X, cx, rfl, oX.far (own_apart_type oX o5 (by decide)) _⟩
          f18 := fun _ => ⟨Y, cy, rfl, oY.far (own_apart_type oY o5 (by decide)) _⟩
          d17 := fun _ h => by cases h
          a5 := fun _ => ⟨g5, rfl, b5, o5.set_ _⟩
          a6 := fun _ => ⟨g6, rfl, b6, o6.far (a := ⟨g5, 0, none⟩) hne _⟩
          o8 := fun _ => ⟨l6, l1, l5⟩
          o9 := fun _ => ⟨l7, l5, l1⟩ }, rfl⟩
      · have l1 : L 1 = true := by simp_all
        have l5 : L 5 = true := by simp_all
        have l6 : L 6 = true := by simp_all
        have l7 : L 7 = true := by simp_all
        have l8 : L 8 = true := by simp_all
        have h9 : ¬ L 9 = true := by simp_all
        clear hpre hLi
        obtain ⟨X, cx, rfl, oX⟩ := hI.f14 l1
        obtain ⟨Y, cy, rfl, oY⟩ := hI.f18 l5
        obtain ⟨g5, rfl, b5, o5⟩ := hI.a5 l6
        obtain ⟨g6, rfl, b6, o6⟩ := hI.a6 l7
        rw [if_neg h9] at o6
        have hne : g5 ≠ g6 := fun h => hI.ne l6 l7 (by rw [h])
        have k0 := o6.cell
        have f0 := o6.f
        refine wpOp_step rfl (fun K hK => ?_)
        go_simp
        exact hK _ _ ⟨.pointer (some ⟨g5, 0, none⟩), .pointer (some ⟨g6, 0, none⟩), v13, .slice X (n + 1) cx, v15, v16, v17, .slice Y (nb + 1) cy, { hI with
          be := Below.setCell hI.be (p := ⟨g6, 0, none⟩) (by simp; omega) _
          four := hI.four.far (a := ⟨g6, 0, none⟩) (by simp; omega) _
          res := hI.res.far (a := ⟨g6, 0, none⟩) (by simp; omega) _
          f14 := fun _ => ⟨X, cx, rfl, oX.far (own_apart_type oX o6 (by decide)) _⟩
          f18 := fun _ => ⟨Y, cy, rfl, oY.far (own_apart_type oY o6 (by decide)) _⟩
          d17 := fun _ _ h => by cases h
          a5 := fun _ => ⟨g5, rfl, b5, o5.far (a := ⟨g6, 0, none⟩) hne _⟩
          a6 := fun _ => ⟨g6, rfl, b6, o6.set_ _⟩
          o8 := fun _ => ⟨l6, l1, l5⟩
          o9 := fun _ => ⟨l7, l5, l1⟩ }, rfl⟩
    · rintro L a' W hall ⟨v5, v6, v13, v14, v15, v16, v17, v18, hI, rfl⟩
      have l1 := hall 1 (by decide)
      have l5 := hall 5 (by decide)
      have l6 := hall 6 (by decide)
      have l7 := hall 7 (by decide)
      have l8 := hall 8 (by decide)
      have l9 := hall 9 (by decide)
      clear hall
      obtain ⟨X, cx, rfl, oX⟩ := hI.f14 l1
      obtain ⟨Y, cy, rfl, oY⟩ := hI.f18 l5
      obtain ⟨g5, rfl, b5, o5⟩ := hI.a5 l6
      obtain ⟨g6, rfl, b6, o6⟩ := hI.a6 l7
      rw [if_pos l8] at o5
      rw [if_pos l9] at o6
      have H : Shut _ := ⟨hI⟩
      have oX : Shut _ := ⟨oX⟩
      have oY : Shut _ := ⟨oY⟩
      have o5 : Shut _ := ⟨o5⟩
      have o6 : Shut _ := ⟨o6⟩
      clear hI C1 C2 C3 FV R1 Q1 B1
      go_step
      go_step
      go_meet
      exact ⟨g5, g6, X, cx, Y, cy, rfl, rfl, o5, o6, oX, oY, ⟨H.out.four⟩, ⟨H.out.res⟩, ⟨H.out.be⟩⟩
  case rest =>
    obtain ⟨g5, g6, X, cx, Y, cy, rfl, rfl, o5, o6, oX, oY, hfour, hres, hbe⟩ := hcut
    clear C1 C2 C3 R1 Q1 B1
    have SG := pplaces_any 22 ⟨g5, 0, none⟩ ⟨g6, 0, none⟩ (sameM K1 K2) n p g hpg D m d st wc hn hm (enters_of Tryd.func22 (by kernel_rfl) rfl)
      (fun W hW => by rw [hnb]; exact clustersTells g5 g6 X (n + 1) cx K1 Y (nb + 1) cy K2 _ W (by rw [HK1.out]) (by rw [HK2.out]) ((o5.out.pass hW o5.out.lt).cell) ((o6.out.pass hW o6.out.lt).cell) (OwnV.pass oX.out hW) (OwnV.pass oY.out hW))
    obtain ⟨v1, v2, hv1⟩ : ∃ v1 v2 : Int, plcV (sameM K1 K2) n p g m = .agg #[.int .i64 v1, .int .i64 v2] := ⟨_, _, rfl⟩
    rw [hv1] at FV SG
    have SG : Shut _ := ⟨SG⟩
    have q0 := hfour.out.c0
    have q1 := hfour.out.c1
    have q2 := hfour.out.c2
    have q3 := hfour.out.c3
    clear o5 o6 oX oY hfour hv1 hnb
    go_wp2_with fail
    refine SG.out.mono ?_
    rintro e w2 ⟨rfl, b2⟩
    have B2 : Shut (Below w.heap.size w w2) := ⟨hbe.out.trans (b2.mono hbe.out.size)⟩
    have R2 := hres.out.pass b2 hres.out.lt
    clear b2 SG q0 q1 q2 q3
    go_wp2_with (refine wpList_store_row rfl 27 (.tmp 4) (.tmp 23) rfl (w.heap.size + 1) _ rfl rfl 27 _ R2 cutSize52 (by rfl) (two_all52 _ _) ?_)
    rw [FV.out]
    exact cut_done3 Tryd.results9 (by rfl) R2 B2.out
end Go.Proofs.YtmbgeeiidpllcaaDoor
