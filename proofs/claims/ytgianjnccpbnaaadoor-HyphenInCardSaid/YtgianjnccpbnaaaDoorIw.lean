/- Chapter 20: the walk of HyphenIn: In agrees with the reference. -/
import Derived.Test.YtgianjnccpbnaaaDoorIri
import Derived.Test.YtgianjnccpbnaaaDoorHplw
namespace Go.Proofs.YtgianjnccpbnaaaDoor
open Go.ChangeShapes Go.WideShapes Go.ChangeAt Go.RowKit
set_option maxRecDepth 100000
set_option linter.unusedSimpArgs false

set_option maxHeartbeats 4000000 in
theorem HyphenIn_walk (A : Option Addr) (n c : Nat) (ss : List ByteArray) (C : Option Addr) (m d : Nat) (xs : List Int) (w : World) (hx : StrsIn w A n c ss) (hs : ∀ s ∈ ss, s.size ≤ maxLen) (hn : n ≤ 9223372036854775807) (hy : SliceIn .i32 w C m d xs) (hl : Laid w) :
    Calls Tryd.prog 4 #[.slice A n c, .slice C m d] w fun e w' => e = .returned (.bool true) ∧ Below w.heap.size w w' := by
  have HLD : Shut _ := ⟨hl⟩
  clear hl
  have MN : Shut (∀ W, _) := ⟨fun (W : {W : World // Below w.heap.size w W}) => many20_any A n c ss W.1 (hx.pass W.2) hn hs⟩
  have MN0 : Shut _ := ⟨MN.out ⟨w, Below.refl _ _⟩⟩
  cases hm : manyB ss with
  | true =>
    rw [hm] at MN0
    clear hm hx hs hy MN
    go_enter Tryd.func4, Tryd.ntmps4
    go_wp2_with fail
    refine MN0.out.mono ?_
    rintro e w1 ⟨rfl, rfl⟩
    go_wp2_with fail
    go_ret
    exact ⟨rfl, Below.refl _ _⟩
  | false =>
    rw [hm] at MN0
    obtain ⟨hl20, hs40⟩ := manyB_false hm
    rw [hx.len] at hl20
    by_cases h60 : 60 < m
    · have h8 : (60 : Int) < (m : Int) := by omega
      clear hm hx hs hy MN hs40
      go_enter Tryd.func4, Tryd.ntmps4
      go_wp2_with fail
      refine MN0.out.mono ?_
      rintro e w1 ⟨rfl, rfl⟩
      go_wp2_with fail
      go_ret
      exact ⟨rfl, Below.refl _ _⟩
    · have h8 : ¬ (60 : Int) < (m : Int) := by omega
      have PN : Shut (∀ W, Below w.heap.size w W → _) := ⟨fun W hW => pnew_any A n c ss W (hx.pass hW) (by omega) (fun s h => by have := hs40 s h; omega)⟩
      have RN : Shut (∀ W, Below w.heap.size w W → _) := ⟨fun W hW => rnew_any A n c ss W (hx.pass hW) (by omega) (fun s h => by have := hs40 s h; omega)⟩
      have HY : Shut _ := ⟨hy⟩
      have NM : Shut (∀ e W, _) := ⟨fun e W => num20_any e W⟩
      have hxl := hx.len
      cases hR : newF ss 0 [] with
      | inr q =>
        have hq := newF_err _ _ _ _ hR
        rw [hR] at PN RN
        obtain ⟨qi, qe⟩ := q
        simp only at hq
        have hq0 : ((qe : Int) != 0) = true := by rcases hq with rfl | rfl <;> rfl
        have hq1 : ((qe : Int) == 0) = false := by rcases hq with rfl | rfl <;> rfl
        unfold NewPost at PN
        unfold NewRPost at RN
        clear hm hx hs hy MN hs40 hR hq hxl
        go_enter Tryd.func4, Tryd.ntmps4
        go_wp2_with fail
        refine MN0.out.mono ?_
        rintro e w1 ⟨rfl, rfl⟩
        go_wp2_with fail
        refine (PN.out _ (Below.refl _ _)).mono ?_
        rintro e w1 ⟨rfl, b1⟩
        have B1 : Shut _ := ⟨b1⟩
        clear b1
        go_wp2_with fail
        refine (RN.out _ B1.out).mono ?_
        rintro e w2 ⟨rfl, b2⟩
        have B2 : Shut _ := ⟨B1.out.trans (b2.mono B1.out.size)⟩
        clear b2
        go_wp2_with fail
        refine (NM.out _ _).mono ?_
        rintro e w3 ⟨rfl, b3⟩
        have B3 : Shut _ := ⟨B2.out.trans (b3.mono B2.out.size)⟩
        clear b3
        go_wp2_with fail
        refine (NM.out _ _).mono ?_
        rintro e w4 ⟨rfl, b4⟩
        have B4 : Shut _ := ⟨B3.out.trans (b4.mono B3.out.size)⟩
        clear b4
        go_wp2_with fail
        go_ret
        exact ⟨retb (by simp), B4.out⟩
      | inl L =>
        obtain ⟨hLok, hLl, hLm⟩ := newF_ok _ _ _ _ hR PatsOk.nil
        have hLlen : L.length ≤ 20 := by simp at hLl; omega
        have hLs : ∀ p ∈ L, p.1.length ≤ 1000 := fun p hp => by
          rcases hLm p hp with h | ⟨s, h1, h2⟩
          · cases h
          · have := hs40 s h1; omega
        rw [hR] at PN RN
        unfold NewPost at PN
        unfold NewRPost at RN
        have OK : Shut _ := ⟨hLok⟩
        have LS : Shut _ := ⟨hLs⟩
        have XL : Shut _ := ⟨hy.at_.len⟩
        clear hm hx hs hy MN hs40 hR hxl hLok hLl hLm hLs
        go_enter Tryd.func4, Tryd.ntmps4
        go_wp2_with fail
        refine MN0.out.mono ?_
        rintro e w1 ⟨rfl, rfl⟩
        go_wp2_with fail
        refine (PN.out _ (Below.refl _ _)).mono ?_
        rintro e w1 ⟨b0, N, node, kids, rfl, t1, b1⟩
        have B1 : Shut _ := ⟨b1⟩
        have T1 : Shut _ := ⟨t1⟩
        clear b1 t1
        go_wp2_with fail
        refine (RN.out _ B1.out).mono ?_
        rintro e w2 ⟨A2, c2, rs, rfl, p2, b2⟩
        have B2 : Shut _ := ⟨B1.out.trans (b2.mono B1.out.size)⟩
        have T2 : Shut _ := ⟨T1.out.pass b2⟩
        have P2 : Shut _ := ⟨p2⟩
        clear b2 p2 T1
        go_wp2_with fail
        refine (NM.out _ _).mono ?_
        rintro e w3 ⟨rfl, b3⟩
        have B3 : Shut _ := ⟨B2.out.trans (b3.mono B2.out.size)⟩
        have T3 : Shut _ := ⟨T2.out.pass b3⟩
        have P3 : Shut _ := ⟨P2.out.pass b3⟩
        clear b3 T2 P2
        go_wp2_with fail
        refine (pin_any _ _ b0 N L OK.out node kids T3.out C m d xs (HY.out.passT B3.out) (HLD.out.pass B3.out) (by omega)).mono ?_
        rintro e w4 ⟨A4, c4, rfl, own4, b4⟩
        have B4 : Shut _ := ⟨B3.out.trans (b4.mono B3.out.size)⟩
        have P4 : Shut _ := ⟨P3.out.pass b4⟩
        have O4 : Shut _ := ⟨own4⟩
        clear b4 P3 own4
        go_wp2_with fail
        refine (rin_any _ _ A2 c2 L rs OK.out P4.out (by omega) LS.out C m d xs (HY.out.passT B4.out) (by omega)).mono ?_
        rintro e w5 ⟨A5, c5, rfl, own5, b5⟩
        have B5 : Shut _ := ⟨B4.out.trans (b5.mono B4.out.size)⟩
        have O5 : Shut _ := ⟨own5⟩
        have O6 : Shut _ := ⟨Own.pass O4.out b5⟩
        have hal := allIn_len L xs (ks xs)
        rw [XL.out] at hal
        clear b5 own5 O4
        generalize allIn L xs (ks xs) = o1 at *
        have SM : Shut _ := ⟨same01_any A4 A5 o1.length o1.length c4 c5 o1 o1 w5 O6.out.ints O5.out.ints (by omega) (by omega)⟩
        rw [show (o1 == o1) = true by simp] at SM
        go_wp2_with fail
        refine SM.out.mono ?_
        rintro e w6 ⟨rfl, b6⟩
        have B6 : Shut _ := ⟨B5.out.trans (b6.mono B5.out.size)⟩
        clear b6
        go_wp2_with fail
        go_ret
        exact ⟨rfl, B6.out⟩
end Go.Proofs.YtgianjnccpbnaaaDoor
