/- Chapter 19: the reference's classes and kinds of a text. -/
import Derived.Test.YtmbgeeiidpllcaaDoorKrk
namespace Go.Proofs.YtmbgeeiidpllcaaDoor
open Go.ChangeShapes Go.WideShapes Go.ChangeAt Go.RowKit
set_option maxRecDepth 100000
set_option linter.unusedSimpArgs false

theorem clsL_succ (f : Nat → Int) (k : Nat) : (List.range (k + 1)).map f = (List.range k).map f ++ [f k] := by rw [List.range_succ, List.map_append]; rfl
theorem clsL_at {f : Nat → Int} {n i : Nat} (h : i < n) : nth ((List.range n).map f) i = f i := by
  unfold nth
  simp [h]
theorem clsAt_own {w : World} {B : Nat} {e : TypeId} {A : Option Addr} {n c : Nat} {xs : List Int} (h : Own w B e .i64 A n c ((List.range n).map (cls xs))) : ClsAt w A n xs :=
  ⟨_, h.ints, fun _ hi => clsL_at hi⟩
def kindsE (xs : List Int) : List Int := if xs.length = 0 then [] else kindsL xs
set_option maxHeartbeats 4000000 in
theorem classes19_any (A : Option Addr) (n c : Nat) (xs : List Int) (w : World) (hx : SliceIn .i32 w A n c xs) (hn : n ≤ 4000) :
    Calls Tryd.prog 39 #[.slice A n c] w (NewInts w 3 .i64 n ((List.range n).map (cls xs))) := by
  have HX : Shut _ := ⟨hx⟩
  clear hx
  go_enter Tryd.func39, Tryd.ntmps39
  go_wp2_with fail
  go_loopg [4, 5, 3] (n + 1) (fun gg v4 _ v3 wr => ∃ (k : Nat) (A' : Option Addr) (c' : Nat), n - k < gg ∧ k ≤ n ∧ v4 = .int .i64 (k : Int) ∧ v3 = .slice A' k c' ∧ Shut (Own wr w.heap.size 3 .i64 A' k c' ((List.range k).map (cls xs))) ∧ Shut (Below w.heap.size w wr))
  case atStart => exact ⟨0, none, 0, by omega, by omega, rfl, rfl, ⟨Own.nil _ _ _ _⟩, ⟨Below.refl _ _⟩⟩
  case round =>
    obtain ⟨k, A', c', hg, hk, rfl, rfl, RO, RB⟩ := hrel
    by_cases hlt : k < n
    · obtain ⟨ad, rfl, hab, hcx⟩ := (HX.out.pass RB.out).at_.2 (by omega)
      have c1 := hcx k hlt
      have O1 := own19_at HX.out hlt
      cases hm : mkB (bk xs k) with
      | false =>
        have E : Shut (cls xs k = bk xs k) := ⟨cls_own hm⟩
        clear hcx
        generalize nth xs k = u at *
        generalize bk xs k = cu at *
        go_wp2_with (first
          | (go_at_call 51; with_reducible refine (O1.out _).mono ?_; rintro e w1 ⟨rfl, b1⟩; have X1 : Shut (Below w.heap.size w w1) := ⟨RB.out.trans (b1.mono RB.out.size)⟩; have P1 : Shut _ := ⟨RO.out.pass b1⟩; clear b1 c1 O1)
          | (go_at_call 52; with_reducible refine (marks19_any _ _).mono ?_; rw [hm]; rintro e w9 ⟨rfl, rfl⟩)
          | (at_builtin; refine wpList_push TIg rfl (.tmp 37) (.tmp 39) rfl rfl (P1.out.alloc _) rfl (y := cu) (cell_newN _ _ _ _ (by simp)) (by omega) (by have := X1.out.size; simp; omega) ?_; intro A4 c4 w4 o4 b4))
        have hbw : Shut (Below w.heap.size w w4) := ⟨(X1.out.alloc (by have := X1.out.size; omega) _).trans b4⟩
        have O4 : Shut _ := ⟨o4⟩
        clear o4 b4
        go_roundg (n - (k))
        case measure => omega
        case rel => exact ⟨k + 1, A4, c4, by omega, by omega, by go_num, rfl, ⟨by rw [clsL_succ]; rw [E.out]; exact O4.out⟩, hbw⟩
      | true =>
        obtain rfl | ⟨j, rfl⟩ : k = 0 ∨ ∃ j, k = j + 1 := by cases k with | zero => exact .inl rfl | succ j => exact .inr ⟨j, rfl⟩
        · have E : Shut (cls xs 0 = 0) := ⟨by simp only [cls]; rw [if_pos hm]⟩
          clear hcx
          rw [show ((0 : Nat) : Int) = 0 from rfl]
          have c1z : wr.cell? ad = some (.int .i32 (nth xs 0)) := by simpa [Addr.add] using c1
          generalize nth xs 0 = u at *
          generalize bk xs 0 = cu at *
          go_wp2_with (first
            | (go_at_call 51; with_reducible refine (O1.out _).mono ?_; rintro e w1 ⟨rfl, b1⟩; have X1 : Shut (Below w.heap.size w w1) := ⟨RB.out.trans (b1.mono RB.out.size)⟩; have P1 : Shut _ := ⟨RO.out.pass b1⟩; clear b1 c1 O1)
            | (go_at_call 52; with_reducible refine (marks19_any _ _).mono ?_; rw [hm]; rintro e w9 ⟨rfl, rfl⟩)
            | (at_builtin; refine wpList_push TIg rfl (.tmp 37) (.tmp 39) rfl rfl (P1.out.alloc _) rfl (y := 0) (cell_newN _ _ _ _ (by simp)) (by omega) (by have := X1.out.size; simp; omega) ?_; intro A4 c4 w4 o4 b4))
          have hbw : Shut (Below w.heap.size w w4) := ⟨(X1.out.alloc (by have := X1.out.size; omega) _).trans b4⟩
          have O4 : Shut _ := ⟨o4⟩
          clear o4 b4
          go_roundg (n - (0))
          case measure => omega
          case rel => exact ⟨0 + 1, A4, c4, by omega, by omega, by go_num, rfl, ⟨by rw [clsL_succ]; rw [E.out]; exact O4.out⟩, hbw⟩
        · have c1' : wr.cell? ⟨ad.block, ad.off + (j + 1), none⟩ = some (.int .i32 (nth xs (j + 1))) := by rw [← add_succ]; exact c1
          have c2 := hcx j (by omega)
          have habj : (ad.add j).block < wr.heap.size := by rw [block_of_add]; exact hab
          have O2 := own19_at HX.out (i := j) (by omega)
          have hc1 : cls xs (j + 1) = if stopB (bk xs j) = true then 0 else cls xs j := by simp only [cls]; rw [if_pos hm]
          have CL : Shut (∀ w', Own w' w.heap.size 3 .i64 A' (j + 1) c' ((List.range (j + 1)).map (cls xs)) → ∃ g, A' = some ⟨g, 0, none⟩ ∧ w'.cell? ⟨g, j, none⟩ = some (.int .i64 (cls xs j))) := ⟨fun w' h => by
            obtain ⟨g, rfl, h1, h2⟩ := OwnV.form h (by omega)
            obtain ⟨a2, e2, _, h3⟩ := h.ints.2 (by omega)
            obtain rfl := Option.some.inj e2
            refine ⟨g, rfl, ?_⟩
            have := h3 j (by omega)
            rw [add_zero_at, clsL_at (by omega)] at this
            exact this⟩
          clear hcx c1
          rw [show ((j + 1 : Nat) : Int) = (j : Int) + 1 from rfl]
          cases hs : inL [1, 2, 3, 4, 5] (bk xs j) with
          | true =>
            have E : Shut (cls xs (j + 1) = 0) := ⟨by rw [hc1, if_pos (by unfold stopB; exact hs)]⟩
            clear hc1 CL
            generalize nth xs (j + 1) = u at *
            generalize nth xs j = v at *
            generalize bk xs (j + 1) = cu at *
            generalize bk xs j = cv at *
            go_wp2_with (first
              | (go_at_call 51; with_reducible refine (O1.out _).mono ?_; rintro e w1 ⟨rfl, b1⟩; have c2' := (b1.cell (p := ad.add j) habj).trans c2; have X1 : Shut (Below w.heap.size w w1) := ⟨RB.out.trans (b1.mono RB.out.size)⟩; have P1 : Shut _ := ⟨RO.out.pass b1⟩; clear b1 c1' c2 O1)
              | (go_at_call 51; with_reducible refine (O2.out _).mono ?_; rintro e w2 ⟨rfl, b2⟩; have X2 : Shut (Below w.heap.size w w2) := ⟨X1.out.trans (b2.mono X1.out.size)⟩; have P2 : Shut _ := ⟨P1.out.pass b2⟩; clear b2 c2' O2)
              | (go_at_call 52; with_reducible refine (marks19_any _ _).mono ?_; rw [hm]; rintro e w9 ⟨rfl, rfl⟩)
              | (go_at_call 53; (with_reducible refine (in_lit5 _ _ _ _ _ (by omega) (by omega) (by omega) (by omega) (by omega) _ _ _ _ (by simp)).mono ?_); rw [hs]; rintro e w9 ⟨rfl, rfl⟩)
              | (at_builtin; refine wpList_push TIg rfl (.tmp 37) (.tmp 39) rfl rfl ((P2.out.alloc _).alloc _) rfl (y := 0) (cell_newN _ _ _ _ (by simp)) (by omega) (by have := X2.out.size; simp; omega) ?_; intro A4 c4 w4 o4 b4))
            have hbw : Shut (Below w.heap.size w w4) := ⟨((X2.out.alloc (by have := X2.out.size; omega) _).alloc (by have := X2.out.size; simp; omega) _).trans b4⟩
            have O4 : Shut _ := ⟨o4⟩
            clear o4 b4
            go_roundg (n - (j + 1))
            case measure => omega
            case rel => exact ⟨j + 1 + 1, A4, c4, by omega, by omega, by go_num, rfl, ⟨by rw [clsL_succ]; rw [E.out]; exact O4.out⟩, hbw⟩
          | false =>
            have E : Shut (cls xs (j + 1) = cls xs j) := ⟨by rw [hc1, if_neg (by unfold stopB; rw [hs]; simp)]⟩
            clear hc1
            obtain ⟨g, rfl, _⟩ := CL.out _ RO.out
            generalize nth xs (j + 1) = u at *
            generalize nth xs j = v at *
            generalize bk xs (j + 1) = cu at *
            generalize bk xs j = cv at *
            go_wp2_with (first
              | (go_at_call 51; with_reducible refine (O1.out _).mono ?_; rintro e w1 ⟨rfl, b1⟩; have c2' := (b1.cell (p := ad.add j) habj).trans c2; have X1 : Shut (Below w.heap.size w w1) := ⟨RB.out.trans (b1.mono RB.out.size)⟩; have P1 : Shut _ := ⟨RO.out.pass b1⟩; clear b1 c1' c2 O1)
              | (go_at_call 51; with_reducible refine (O2.out _).mono ?_; rintro e w2 ⟨rfl, b2⟩; have X2 : Shut (Below w.heap.size w w2) := ⟨X1.out.trans (b2.mono X1.out.size)⟩; have P2 : Shut _ := ⟨P1.out.pass b2⟩; clear b2 c2' O2)
              | (go_at_call 52; with_reducible refine (marks19_any _ _).mono ?_; rw [hm]; rintro e w9 ⟨rfl, rfl⟩)
              | (go_at_call 53; (with_reducible refine (in_lit5 _ _ _ _ _ (by omega) (by omega) (by omega) (by omega) (by omega) _ _ _ _ (by simp)).mono ?_); rw [hs]; rintro e w9 ⟨rfl, rfl⟩; obtain ⟨g2, eg, cg⟩ := CL.out _ (P2.out.alloc (.cells #[.int .i64 1, .int .i64 2, .int .i64 3, .int .i64 4, .int .i64 5] 3)); obtain rfl := congrArg Addr.block (Option.some.inj eg))
              | (at_builtin; refine wpList_push TIg rfl (.tmp 37) (.tmp 39) rfl rfl ((P2.out.alloc _).alloc _) rfl (y := cls xs j) (cell_newN _ _ _ _ (by simp)) (by omega) (by have := X2.out.size; simp; omega) ?_; intro A4 c4 w4 o4 b4))
            have hbw : Shut (Below w.heap.size w w4) := ⟨((X2.out.alloc (by have := X2.out.size; omega) _).alloc (by have := X2.out.size; simp; omega) _).trans b4⟩
            have O4 : Shut _ := ⟨o4⟩
            clear o4 b4
            go_roundg (n - (j + 1))
            case measure => omega
            case rel => exact ⟨j + 1 + 1, A4, c4, by omega, by omega, by go_num, rfl, ⟨by rw [clsL_succ]; rw [E.out]; exact O4.out⟩, hbw⟩
    · obtain rfl : k = n := by omega
      go_wp2_with fail
      go_ret
      exact ⟨A', c', rfl, RO.out, RB.out⟩
end Go.Proofs.YtmbgeeiidpllcaaDoor
