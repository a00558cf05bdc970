/- Chapter 20: the reference's Encode, walked. -/
import Derived.Test.YteehcmcljjdbeaaHre
namespace Go.Proofs.Yteehcmcljjdbeaa
open Go.ChangeShapes Go.WideShapes Go.ChangeAt Go.RowKit
set_option maxRecDepth 100000
set_option linter.unusedSimpArgs false

theorem own_cellR {w : World} {B n c : Nat} {e : TypeId} {g : Nat} {k : IntKind} {xs : List Int} (h : Own w B e k (some ⟨g, 0, none⟩) n c xs) {j : Nat} (hj : j < n) : w.cell? ⟨g, j, none⟩ = some (.int k (nth xs j)) := by
  rw [OwnV.cellAt h j (by omega)]
  have hl : j < xs.length := by rw [h.len]; exact hj
  rw [List.getElem?_map, List.getElem?_eq_getElem hl, nth_eq hl]
  rfl
def EncPost (w : World) (t : List Int) (e : Ending) (w' : World) : Prop :=
  if rightT t = true then ∃ (A : Option Addr) (c : Nat), e = .returned (.tuple #[.slice A (encZ t).length c, .int .i64 0]) ∧ Own w' w.heap.size 5 .u8 A (encZ t).length c (encZ t) ∧ Below w.heap.size w w'
  else e = .returned (.tuple #[.slice none 0 0, .int .i64 13]) ∧ Below w.heap.size w w'
theorem encZ_take {t : List Int} {k : Nat} (h : k < t.length) : encZ (t.take (k + 1)) = encZ (t.take k) ++ Lib.encodeRuneZ (nth t k) := by
  rw [List.take_succ_eq_append_getElem h, encZ_app, encZ_one, nth_eq h]
set_option maxHeartbeats 4000000 in
theorem encode_any (A : Option Addr) (n c : Nat) (t : List Int) (w : World) (hx : IntsAt w w.heap.size .i32 A n t) (hn : n ≤ 100000) :
    Calls Try.prog 42 #[.slice A n c] w (EncPost w t) := by
  have HX : Shut _ := ⟨hx⟩
  have HLEN : Shut (t.length = n) := ⟨hx.len⟩
  have CR : Shut _ := ⟨rightT_any A n c t w hx (by omega)⟩
  clear hx
  cases hr : rightT t with
  | false =>
    have EP : Shut (∀ e w', EncPost w t e w' = (e = .returned (.tuple #[.slice none 0 0, .int .i64 13]) ∧ Below w.heap.size w w')) := ⟨fun e w' => by unfold EncPost; rw [hr]; simp⟩
    rw [hr] at CR
    clear hr
    go_enter Try.func42, Try.ntmps42
    go_wp2_with fail
    refine CR.out.mono ?_
    rintro e w1 ⟨rfl, rfl⟩
    go_wp2_with fail
    go_ret2
    rw [EP.out]
    exact ⟨rfl, Below.refl _ _⟩
  | true =>
    have EP : Shut (∀ e w', EncPost w t e w' = ∃ (A : Option Addr) (c : Nat), e = .returned (.tuple #[.slice A (encZ t).length c, .int .i64 0]) ∧ Own w' w.heap.size 5 .u8 A (encZ t).length c (encZ t) ∧ Below w.heap.size w w') := ⟨fun e w' => by unfold EncPost; rw [hr]; simp⟩
    have HS : Shut (∀ j, j < n → scalar (nth t j) = true) := ⟨fun j hj => by
      cases hs : scalar (nth t j) with
      | true => rfl
      | false => rw [rightT_false (by rw [HLEN.out]; exact hj) hs] at hr; cases hr⟩
    rw [hr] at CR
    clear hr
    go_enter Try.func42, Try.ntmps42
    go_wp2_with fail
    refine CR.out.mono ?_
    rintro e w1 ⟨rfl, rfl⟩
    go_wp2_with fail
    go_loopg [4, 5] (n + 1) (fun g v4 v5 wr => ∃ (k : Nat) (A1 : Option Addr) (c1 : Nat), n - k < g ∧ k ≤ n ∧ v5 = .int .i64 (k : Int) ∧ v4 = .slice A1 (encZ (t.take k)).length c1 ∧ Shut (Own wr w.heap.size 5 .u8 A1 (encZ (t.take k)).length c1 (encZ (t.take k))) ∧ Shut (Below w.heap.size w wr))
    case atStart => exact ⟨0, none, 0, by omega, by omega, rfl, rfl, ⟨Own.nil _ _ _ _⟩, ⟨Below.refl _ _⟩⟩
    case round =>
      obtain ⟨k, A1, c1, hg, hk, rfl, rfl, OE, BE⟩ := hrel
      have hwz : w.heap.size ≤ wr.heap.size := BE.out.size
      have hel := encZ_len (t.take k)
      have htl : (t.take k).length ≤ k := List.length_take_le _ _
      by_cases hlt : k < n
      · obtain ⟨ad, rfl, hab, hcx⟩ := (HX.out.later BE.out).2 (by omega)
        have hc := hcx k hlt
        have CF : Shut (∀ W, _) := ⟨fun W => form_any (nth t k) (HS.out k hlt) W⟩
        have KT : Shut _ := ⟨encZ_take (t := t) (k := k) (by rw [HLEN.out]; exact hlt)⟩
        have hf4 := (Lib.encodeRuneZ_length (nth t k)).2
        generalize nth t k = r at *
        obtain ⟨F, hF⟩ : ∃ F, Lib.encodeRuneZ r = F := ⟨_, rfl⟩
        rw [hF] at CF KT hf4
        obtain ⟨E0, hE⟩ : ∃ E0, encZ (t.take k) = E0 := ⟨_, rfl⟩
        rw [hE] at KT OE hel ⊢
        obtain ⟨f, hfl⟩ : ∃ f, F.length = f := ⟨_, rfl⟩
        have CF2 : Shut (∀ W, Calls Try.prog 62 #[.int .i32 r] W fun e w' => ∃ (A : Option Addr) (c : Nat), e = .returned (.slice A f c) ∧ Own w' W.heap.size 5 .u8 A f c F ∧ Below W.heap.size W w') := ⟨fun W => by have := CF.out W; unfold FormPost at this; rw [hfl] at this; exact this⟩
        have HFL : Shut _ := ⟨hfl⟩
        rw [hfl] at hf4
        clear hcx hF hE hfl CF
        go_wp2_with fail
        refine (CF2.out _).mono ?_
        rintro e w2 ⟨A2, c2, rfl, o2, b2⟩
        have O2 : Shut _ := ⟨o2⟩
        have B2 : Shut _ := ⟨BE.out.trans (b2.mono hwz)⟩
        have O3 : Shut _ := ⟨Own.pass OE.out b2⟩
        have Z2 : Shut (wr.heap.size ≤ w2.heap.size) := ⟨b2.size⟩
        have hlt2 : ∀ g, A1 = some ⟨g, 0, none⟩ → g < wr.heap.size := fun g hg => by subst hg; exact (OwnV.ltH OE.out).2
        have HL2 : Shut _ := ⟨hlt2⟩
        clear o2 b2 CF2 hlt2
        go_wp2_with fail
        obtain ⟨wo, rfl⟩ : ∃ wo : World, wo = wr := ⟨_, rfl⟩
        go_loopg [4, 7] (f + 1) (fun g v4 v7 wr => ∃ (j : Nat) (A3 : Option Addr) (c3 : Nat), f - j < g ∧ j ≤ f ∧ v7 = .int .i64 (j : Int) ∧ v4 = .slice A3 (E0 ++ F.take j).length c3 ∧ Shut (Own wr w.heap.size 5 .u8 A3 (E0 ++ F.take j).length c3 (E0 ++ F.take j)) ∧ Shut (Own wr wo.heap.size 5 .u8 A2 f c2 F) ∧ Shut (Apart A3 A2) ∧ Shut (Below w.heap.size w wr))
        case atStart =>
          refine ⟨0, A1, c1, by omega, by omega, rfl, by simp, ⟨by simpa using O3.out⟩, O2, ⟨?_⟩, B2⟩
          intro g h1 h2
          have h3 := HL2.out g h1
          subst h2
          have := (OwnV.ltH O2.out).1
          omega
        case round =>
          obtain ⟨j, A3, c3, hg3, hj, rfl, rfl, OO, OF, AP, BB⟩ := hrel
          by_cases hjf : j < f
          · obtain ⟨gf, rfl, hgf1, hgf2⟩ := OwnV.form OF.out (by omega)
            have hcj := own_cellR OF.out hjf
            have hjl : j < F.length := by rw [HFL.out]; exact hjf
            have KJ : Shut (E0 ++ F.take (j + 1) = (E0 ++ F.take j) ++ [nth F j]) := ⟨by rw [List.take_succ_eq_append_getElem hjl, nth_eq hjl, List.append_assoc]⟩
            have htj : (F.take j).length ≤ j := List.length_take_le _ _
            have hll : (E0 ++ F.take j).length ≤ 4 * k + 4 := by rw [List.length_append]; omega
            generalize nth F j = x at *
            obtain ⟨L, hL⟩ : ∃ L, (E0 ++ F.take j) = L := ⟨_, rfl⟩
            rw [hL] at OO KJ hll ⊢
            have hwz3 : w.heap.size ≤ wr.heap.size := BB.out.size
            clear hL htj hjl
            go_wp2_with (at_builtin; refine wpList_pushAt TU8h rfl (.tmp 28) (.tmp 33) rfl rfl (Own.alloc OO.out _) rfl (cell_new _ _ _) (by omega) (by simp; omega) ?_; intro A4 c4 w4 o4 b4 g4 a4; have O4 : Shut _ := ⟨o4⟩; have G4 : Shut _ := ⟨g4⟩; have B4 : Shut _ := ⟨b4⟩; have A4' : Shut _ := ⟨a4⟩; clear o4 b4 g4 a4)
            go_roundg (f - j)
            case measure => omega
            case rel =>
              have e1 : (L ++ [x]).length = L.length + 1 := by simp
              have hOF := Own.kept (Own.alloc OF.out _) G4.out AP.out.symm (OwnV.headC OO.out)
              refine ⟨j + 1, A4, c4, by omega, by omega, by go_num, by rw [KJ.out, e1], ⟨by rw [KJ.out, e1]; exact O4.out⟩, ⟨hOF⟩, ⟨Apart.grow (w := wr.alloc (.cells #[.int .u8 x] 5)) AP.out (fun g hg => by injection hg with hg; injection hg with hg; subst hg; simp; omega) A4'.out⟩, ⟨(BB.out.alloc hwz3 _).trans B4.out⟩⟩
          · have hjf2 : j = f := by omega
            have E1 : Shut (E0 ++ F.take j = encZ (t.take (k + 1))) := ⟨by rw [KT.out, List.take_of_length_le (by rw [HFL.out]; omega)]⟩
            rw [E1.out] at OO ⊢
            have i1 : decide ((j : Int) < (f : Int)) = false := by simp; omega
            have i2 : decide (j < f) = false := by simp; omega
            clear hjf2
            go_wp2_with fail
            go_roundg (n - k)
            case measure => omega
            case rel => exact ⟨k + 1, A3, c3, by omega, by omega, by go_num, rfl, OO, BB⟩
      · obtain rfl : k = n := by omega
        have et : t.take k = t := List.take_of_length_le (by rw [HLEN.out]; exact Nat.le_refl _)
        rw [et] at OE ⊢
        clear et
        go_wp2_with fail
        go_ret2
        rw [EP.out]
        exact ⟨A1, c1, rfl, OE.out, BE.out⟩
end Go.Proofs.Yteehcmcljjdbeaa
