/- Chapter 7: which places are boundaries; all of them; the clusters; how many; both ways. -/
import Derived.Test.YtmbgeeiidpllcaaDoorGs
import Derived.Test.YtmbgeeiidpllcaaDoorOwn2
import Derived.Test.YtmbgeeiidpllcaaDoorParl
import Derived.Deep.RegionLaw
import Derived.IntWalk
namespace Go.Proofs.YtmbgeeiidpllcaaDoor
open Go.ChangeShapes Go.WideShapes Go.ChangeAt Go.RowKit
set_option maxRecDepth 100000
set_option linter.unusedSimpArgs false

theorem TIg : SliceOf Tryd.prog 33 3 1 8 := sliceOf_mk Tryd.underlying33 (z := .int .i64 0) (by kernel_rfl) rfl (by omega) (by omega)
theorem isI_nat (l : List Int) (k : Nat) : isI l (k : Int) = isN l k := by simp [isI]
theorem isI_neg {l : List Int} {i : Int} (h : i < 0) : isI l i = false := by simp [isI]; omega
theorem isI_big {l : List Int} {i : Int} (h : (l.length : Int) < i) : isI l i = false := by
  obtain ⟨k, rfl⟩ : ∃ k : Nat, i = k := ⟨i.toNat, by omega⟩
  rw [isI_nat, isN_out (by omega)]
theorem isI_nil {l : List Int} (h : l.length = 0) (i : Int) : isI l i = false := by
  have := List.eq_nil_of_length_eq_zero h
  subst this
  unfold isI; rw [isN_nil]; simp
/-- a call that hands back new ranges -/
def NewCutsG (w : World) (ps : List (Nat × Nat)) (r : Ending) (w' : World) : Prop :=
  ∃ (A : Option Addr) (c : Nat), r = .returned (.slice A ps.length c) ∧ OwnV w' w.heap.size 27 2 A ps.length c (cutsV ps) ∧ Below w.heap.size w w'
theorem cells_newG (w : World) (a b : Value) (t : TypeId) : ∀ j u, [a, b][j]? = some u → (w.alloc (.cells #[a, b] t)).cell? ⟨w.heap.size, j, none⟩ = some u := by
  intro j u h
  rw [cell_of_row _ _ _ _ _ _ (heap_alloc_new w _)]
  simpa using h
theorem two_oneG (a b : Int) : ∀ u ∈ [Value.int .i64 a, Value.int .i64 b], u.oneCell' = true := by
  intro u hu
  simp at hu
  rcases hu with rfl | rfl <;> rfl
theorem own_cellG {w : World} {B n c : Nat} {e : TypeId} {g : Nat} {k : IntKind} {xs : List Int} (h : Own w B e k (some ⟨g, 0, none⟩) n c xs) {j : Nat} (hj : j < n) : w.cell? ⟨g, j, none⟩ = some (.int k (nth xs j)) := by
  rw [OwnV.cellAt h j (by omega)]
  have : j < xs.length := by rw [h.len]; exact hj
  rw [List.getElem?_map, List.getElem?_eq_getElem this, nth_eq this]
  rfl
theorem own_congrG {w : World} {B n n' c : Nat} {e : TypeId} {k : IntKind} {A : Option Addr} {xs ys : List Int} (h : Own w B e k A n c xs) (hx : xs = ys) (hn : n = n') : Own w B e k A n' c ys := by subst hx; subst hn; exact h
theorem ownV_congrG {w : World} {B n n' c size : Nat} {e : TypeId} {A : Option Addr} {xs ys : List Value} (h : OwnV w B e size A n c xs) (hx : xs = ys) (hn : n = n') : OwnV w B e size A n' c ys := by subst hx; subst hn; exact h
theorem Own.moreG {w : World} {B B' n c size : Nat} {e : TypeId} {A : Option Addr} {vs : List Value} (h : OwnV w B e size A n c vs) (hb : B' ≤ B) : OwnV w B' e size A n c vs := by
  refine ⟨h.1, ?_⟩
  rcases h.2 with h2 | ⟨g, cap, cur, hv, hg, r⟩
  · exact .inl h2
  · exact .inr ⟨g, cap, cur, hv, by omega, r⟩

set_option maxHeartbeats 1000000 in
theorem pis_any (A : Option Addr) (n c : Nat) (xs : List Int) (i : Int) (w : World) (hx : SliceIn .i32 w A n c xs) (hl : Laid w) (hn : n ≤ 140737488355328) :
    Calls Tryd.prog 13 #[.slice A n c, .int .i64 i] w fun e w' => e = .returned (.bool (isI (ks xs) i)) ∧ Below w.heap.size w w' := by
  have HX := Lib.hid hx
  have HL := Lib.hid hl
  have HLEN := Lib.hid hx.at_.len
  have KL := Lib.hid (ks_len xs)
  clear hx hl 
  by_cases h0 : n = 0
  · subst h0
    rw [isI_nil (by rw [KL.out, HLEN.out])]
    skip
    go_enter Tryd.func13, Tryd.ntmps13
    go_wp2_with fail
    go_ret
    exact ⟨rfl, Below.refl _ _⟩
  · have nz : ((n : Int) == 0) = false := by simp; omega
    by_cases hneg : i < 0
    · rw [isI_neg hneg]
      clear h0
      go_enter Tryd.func13, Tryd.ntmps13
      go_wp2_with fail
      go_ret
      exact ⟨rfl, Below.refl _ _⟩
    · by_cases hbig : (n : Int) < i
      · rw [isI_big (by rw [KL.out, HLEN.out]; exact hbig)]
        clear h0
        go_enter Tryd.func13, Tryd.ntmps13
        go_wp2_with fail
        go_ret
        exact ⟨rfl, Below.refl _ _⟩
      · obtain ⟨k, rfl⟩ : ∃ k : Nat, i = k := ⟨i.toNat, by omega⟩
        rw [isI_nat]
        by_cases hk0 : k = 0
        · subst hk0
          rw [isN_zero (by rw [KL.out, HLEN.out]; omega)]
          have z1 : ¬ (n : Int) < 0 := by omega
          clear h0 hneg hbig
          go_enter Tryd.func13, Tryd.ntmps13
          go_wp2_with fail
          go_ret
          exact ⟨rfl, Below.refl _ _⟩
        · by_cases hkn : k = n
          · subst hkn
            have e1 := isN_end (ks := ks xs) (by rw [KL.out, HLEN.out]; omega)
            rw [KL.out, HLEN.out] at e1
            rw [e1]
            clear h0 e1 hk0
            go_enter Tryd.func13, Tryd.ntmps13
            go_wp2_with fail
            go_ret
            exact ⟨rfl, Below.refl _ _⟩
          · obtain ⟨m, rfl⟩ : ∃ m, k = m + 1 := ⟨k - 1, by omega⟩
            have hm : m + 1 < n := by omega
            rw [isN_mid (by omega) (by rw [KL.out, HLEN.out]; exact hm)]
            have e1 : ((m + 1 : Nat) : Int) = (m : Int) + 1 := by omega
            rw [e1] at hneg hbig ⊢
            have n1 : (((m : Int) + 1) == 0) = false := by simp <;> omega
            have n2 : (((m : Int) + 1) == (n : Int)) = false := by simp <;> omega
            have HG := Lib.hid (phangs_any A n c xs m hm w HX.out HL.out hn)
            generalize hangAt (ks xs) (m + 1) = b at *
            clear h0 hk0 hkn e1
            go_enter Tryd.func13, Tryd.ntmps13
            go_wp2_with fail
            refine HG.out.mono ?_
            rintro e w1 ⟨rfl, x1⟩
            go_wp2_with fail
            go_ret
            exact ⟨retb (by simp), x1⟩
theorem pisn_any (A : Option Addr) (n c : Nat) (xs : List Int) (k : Nat) (w : World) (hx : SliceIn .i32 w A n c xs) (hl : Laid w) (hn : n ≤ 140737488355328) :
    Calls Tryd.prog 13 #[.slice A n c, .int .i64 (k : Int)] w fun e w' => e = .returned (.bool (isN (ks xs) k)) ∧ Below w.heap.size w w' := by
  have h := pis_any A n c xs k w hx hl hn
  rw [isI_nat] at h
  exact h

set_option maxHeartbeats 1000000 in
theorem pbounds_any (A : Option Addr) (n c : Nat) (xs : List Int) (w : World) (hx : SliceIn .i32 w A n c xs) (hl : Laid w) (hn : (n + 1) * 8 ≤ 140737488355328) :
    Calls Tryd.prog 29 #[.slice A n c] w (NewInts w 3 .i64 (bndA (ks xs)).length (bounds (ks xs))) := by
  have HX := Lib.hid hx
  have HL := Lib.hid hl
  have HLEN := Lib.hid hx.at_.len
  have KL := Lib.hid (ks_len xs)
  have IS := Lib.hid (fun k w' (hb : Below w.heap.size w w') => pisn_any A n c xs k w' (HX.out.pass hb) (HL.out.pass hb) (by omega))
  clear hx hl 
  go_enter Tryd.func29, Tryd.ntmps29
  go_wp2_with fail
  go_loopw [2, 7] (fun u v wr => ∃ (k : Nat) (A' : Option Addr) (c' : Nat), k ≤ n + 1 ∧ v = .int .i64 k ∧ u = .slice A' (bndN (ks xs) k).length c' ∧ Own wr w.heap.size 3 .i64 A' (bndN (ks xs) k).length c' (bnds (ks xs) k) ∧ Below w.heap.size w wr) (fun _ v _ => n + 1 - (intOf v).toNat)
  case atStart => exact ⟨0, none, 0, Nat.zero_le _, rfl, rfl, Own.nil _ _ _ _, Below.refl _ _⟩
  case round =>
    obtain ⟨k, A', c', hk, rfl, rfl, ho, hb⟩ := hrel
    have HO := Lib.hid ho
    have HB := Lib.hid hb
    have hbl := bndN_len (ks xs) k
    clear ho hb
    by_cases hlt : k < n + 1
    · have l1 : (k : Int) < (n : Int) + 1 := by omega
      have l2 : (k : Int) ≤ (n : Int) := by omega
      have l3 : k ≤ n := by omega
      have IK := Lib.hid (IS.out k)
      cases hi : isN (ks xs) k
      · rw [hi] at IK
        have E1 := Lib.hid (bndN_no hi)
        have E2 := bnds_succ (ks xs) k
        rw [hi] at E2
        simp only [Bool.false_eq_true, if_false] at E2
        have E2' := Lib.hid E2
        clear hi E2
        go_wp2_with fail
        refine (IK.out _ HB.out).mono ?_
        rintro e w1 ⟨rfl, hv⟩
        have HB2 := Lib.hid (HB.out.trans (hv.mono HB.out.size))
        have HO2 := Lib.hid (HO.out.pass hv)
        clear hv
        go_wp2_with fail
        go_roundw
        case rel => exact ⟨k + 1, A', c', by omega, by go_num, by rw [E1.out], by rw [E1.out, E2'.out]; exact HO2.out, HB2.out⟩
        case measure => simp [intOf] <;> omega
      · rw [hi] at IK
        have E1 := Lib.hid (bndN_yes hi)
        have E2 := bnds_succ (ks xs) k
        rw [hi] at E2
        simp only [if_true] at E2
        have E2' := Lib.hid E2
        clear hi E2
        go_wp2_with fail
        refine (IK.out _ HB.out).mono ?_
        rintro e w1 ⟨rfl, hv⟩
        have HB2 := Lib.hid (HB.out.trans (hv.mono HB.out.size))
        have HO2 := Lib.hid (HO.out.pass hv)
        clear hv
        go_wp2_with (at_builtin; refine wpList_push TIg rfl (.tmp 13) (.tmp 15) rfl rfl (HO2.out.alloc _) rfl (y := (k : Int)) (cell_new _ _ _) (by omega) (by have := HB2.out.size; simp; omega) ?_; intro A4 c4 w4 o4 b4)
        have hbw : Below w.heap.size w w4 := (HB2.out.alloc (by have := HB2.out.size; omega) _).trans b4
        go_roundw
        case rel => exact ⟨k + 1, A4, c4, by omega, by go_num, by rw [E1.out]; simp, by rw [E1.out, E2'.out]; exact own_congrG o4 rfl (by simp), hbw⟩
        case measure => simp [intOf] <;> omega
    · obtain rfl : k = n + 1 := by omega
      have l1 : ¬ ((n : Int) + 1 ≤ (n : Int)) := by omega
      have e1 : bndA (ks xs) = bndN (ks xs) (n + 1) := by unfold bndA; rw [KL.out, HLEN.out]
      have e2 : bounds (ks xs) = bnds (ks xs) (n + 1) := by unfold bounds; rw [KL.out, HLEN.out]
      have E1 := Lib.hid e1
      have E2 := Lib.hid e2
      have e3 : ((n + 1 : Nat) : Int) = (n : Int) + 1 := by omega
      rw [e3]
      clear e1 e2 e3
      go_wp2_with fail
      go_ret
      exact ⟨A', c', by rw [E1.out]; rfl, by rw [E1.out, E2.out]; exact HO.out, HB.out⟩

set_option maxHeartbeats 1000000 in
theorem ris_any (A : Option Addr) (n c : Nat) (xs : List Int) (i : Int) (w : World) (hx : SliceIn .i32 w A n c xs) (hn : n ≤ 140737488355328) :
    Calls Tryd.prog 54 #[.slice A n c, .int .i64 i] w fun e w' => e = .returned (.bool (isI (ks xs) i)) ∧ Below w.heap.size w w' := by
  have HX := Lib.hid hx
  have HLEN := Lib.hid hx.at_.len
  have KL := Lib.hid (ks_len xs)
  clear hx 
  by_cases h0 : n = 0
  · subst h0
    rw [isI_nil (by rw [KL.out, HLEN.out])]
    skip
    go_enter Tryd.func54, Tryd.ntmps54
    go_wp2_with fail
    go_ret
    exact ⟨rfl, Below.refl _ _⟩
  · have nz : ((n : Int) == 0) = false := by simp; omega
    by_cases hneg : i < 0
    · rw [isI_neg hneg]
      clear h0
      go_enter Tryd.func54, Tryd.ntmps54
      go_wp2_with fail
      go_ret
      exact ⟨rfl, Below.refl _ _⟩
    · by_cases hbig : (n : Int) < i
      · rw [isI_big (by rw [KL.out, HLEN.out]; exact hbig)]
        clear h0
        go_enter Tryd.func54, Tryd.ntmps54
        go_wp2_with fail
        go_ret
        exact ⟨rfl, Below.refl _ _⟩
      · obtain ⟨k, rfl⟩ : ∃ k : Nat, i = k := ⟨i.toNat, by omega⟩
        rw [isI_nat]
        by_cases hk0 : k = 0
        · subst hk0
          rw [isN_zero (by rw [KL.out, HLEN.out]; omega)]
          have z1 : ¬ (n : Int) < 0 := by omega
          clear h0 hneg hbig
          go_enter Tryd.func54, Tryd.ntmps54
          go_wp2_with fail
          go_ret
          exact ⟨rfl, Below.refl _ _⟩
        · by_cases hkn : k = n
          · subst hkn
            have e1 := isN_end (ks := ks xs) (by rw [KL.out, HLEN.out]; omega)
            rw [KL.out, HLEN.out] at e1
            rw [e1]
            clear h0 e1 hk0
            go_enter Tryd.func54, Tryd.ntmps54
            go_wp2_with fail
            go_ret
            exact ⟨rfl, Below.refl _ _⟩
          · obtain ⟨m, rfl⟩ : ∃ m, k = m + 1 := ⟨k - 1, by omega⟩
            have hm : m + 1 < n := by omega
            rw [isN_mid (by omega) (by rw [KL.out, HLEN.out]; exact hm)]
            have e1 : ((m + 1 : Nat) : Int) = (m : Int) + 1 := by omega
            rw [e1] at hneg hbig ⊢
            have n1 : (((m : Int) + 1) == 0) = false := by simp <;> omega
            have n2 : (((m : Int) + 1) == (n : Int)) = false := by simp <;> omega
            have HG := Lib.hid (rhangs_any A n c xs m hm w HX.out hn)
            generalize hangAt (ks xs) (m + 1) = b at *
            clear h0 hk0 hkn e1
            go_enter Tryd.func54, Tryd.ntmps54
            go_wp2_with fail
            refine HG.out.mono ?_
            rintro e w1 ⟨rfl, x1⟩
            go_wp2_with fail
            go_ret
            exact ⟨retb (by simp), x1⟩
theorem risn_any (A : Option Addr) (n c : Nat) (xs : List Int) (k : Nat) (w : World) (hx : SliceIn .i32 w A n c xs) (hn : n ≤ 140737488355328) :
    Calls Tryd.prog 54 #[.slice A n c, .int .i64 (k : Int)] w fun e w' => e = .returned (.bool (isN (ks xs) k)) ∧ Below w.heap.size w w' := by
  have h := ris_any A n c xs k w hx hn
  rw [isI_nat] at h
  exact h

end Go.Proofs.YtmbgeeiidpllcaaDoor
