/- Chapter 20: the walk of HyphenPoints: Points agrees with the reference. -/
import Derived.Test.YteehcmcljjdbeaaHptr
import Derived.Test.YteehcmcljjdbeaaHmany
namespace Go.Proofs.Yteehcmcljjdbeaa
open Go.ChangeShapes Go.WideShapes Go.ChangeAt Go.RowKit
set_option maxRecDepth 100000
set_option linter.unusedSimpArgs false

/-- are texts too many, or too long? -/
def manyB (ss : List ByteArray) : Bool := decide (20 < ss.length) || ss.any fun s => decide (40 < s.size)
theorem manyB_false {ss : List ByteArray} (h : manyB ss = false) : ss.length ≤ 20 ∧ ∀ s ∈ ss, s.size ≤ 40 := by
  unfold manyB at h
  simp at h
  exact h
theorem newF_err : ∀ (ss : List ByteArray) (i : Nat) (L : List Pat) (q : Nat × Int), newF ss i L = .inr q → q.2 = 3 ∨ q.2 = 15
  | [], i, L, q, h => by cases h
  | s :: t, i, L, q, h => by
    cases hp : parsed s with
    | none => rw [newF_none hp] at h; injection h with h; subst h; exact .inl rfl
    | some p =>
      cases hl : look L p.1 with
      | some d => rw [newF_twice hp (by rw [hl]; rfl)] at h; injection h with h; subst h; exact .inr rfl
      | none => rw [newF_next hp hl] at h; exact newF_err t _ _ q h
set_option maxHeartbeats 1000000 in
theorem many20_any (A : Option Addr) (n c : Nat) (ss : List ByteArray) (w : World) (hx : StrsIn w A n c ss) (hn : n ≤ 9223372036854775807) (hs : ∀ s ∈ ss, s.size ≤ maxLen) :
    Calls Try.prog 14 #[.slice A n c] w fun e w' => e = .returned (.bool (manyB ss)) ∧ w = w' := by
  have HX : Shut _ := ⟨hx⟩
  have HLEN : Shut _ := ⟨hx.len⟩
  have HS : Shut _ := ⟨hs⟩
  clear hx hs
  by_cases h20 : 20 < n
  · have E : Shut (manyB ss = true) := ⟨by unfold manyB; rw [HLEN.out]; simp [h20]⟩
    have h2 : (20 : Int) < (n : Int) := by omega
    go_enter Try.func14, Try.ntmps14
    go_wp2_with fail
    go_ret
    exact ⟨retb E.out.symm, rfl⟩
  · have h2 : ¬ (20 : Int) < (n : Int) := by omega
    go_enter Try.func14, Try.ntmps14
    go_wp2_with fail
    go_loopg [3] (n + 1) (fun gg v wr => ∃ i : Nat, n - i < gg ∧ i ≤ n ∧ v = .int .i64 (i : Int) ∧ Shut (∀ j, j < i → (ss.getD j ⟨#[]⟩).size ≤ 40) ∧ wr = w)
    case atStart => exact ⟨0, by omega, by omega, rfl, ⟨fun j h => by omega⟩, rfl⟩
    case round =>
      obtain ⟨i, hg, hi, rfl, ALL, rfl⟩ := hrel
      by_cases hlt : i < n
      · obtain ⟨ad, rfl, hab, hcx⟩ := HX.out.at_ (by omega)
        have hc := hcx i hlt
        have hil : i < ss.length := by rw [HLEN.out]; exact hlt
        have hsz : (ss.getD i ⟨#[]⟩).size ≤ maxLen := HS.out _ (by rw [List.getD_eq_getElem?_getD, List.getElem?_eq_getElem hil]; exact List.getElem_mem ..)
        unfold maxLen at hsz
        have NX : Shut ((ss.getD i ⟨#[]⟩).size ≤ 40 → ∀ j, j < i + 1 → (ss.getD j ⟨#[]⟩).size ≤ 40) := ⟨fun h j hj => by
          rcases Nat.lt_or_ge j i with h3 | h3
          · exact ALL.out j h3
          · obtain rfl : j = i := by omega
            exact h⟩
        have YES : Shut (40 < (ss.getD i ⟨#[]⟩).size → manyB ss = true) := ⟨fun h => by
          unfold manyB
          rw [Bool.or_eq_true]
          right
          rw [List.any_eq_true]
          exact ⟨ss.getD i ⟨#[]⟩, by rw [List.getD_eq_getElem?_getD, List.getElem?_eq_getElem hil]; exact List.getElem_mem .., by simpa using h⟩⟩
        generalize ss.getD i ⟨#[]⟩ = s at *
        clear hcx hab hil
        by_cases h40 : 40 < s.size
        · have E : Shut _ := ⟨YES.out h40⟩
          have h4 : (40 : Int) < (s.size : Int) := by omega
          go_wp2_with fail
          go_ret
          exact ⟨retb E.out.symm, rfl⟩
        · have E : Shut _ := ⟨NX.out (by omega)⟩
          have h4 : ¬ (40 : Int) < (s.size : Int) := by omega
          go_wp2_with fail
          go_roundg (n - i)
          case measure => omega
          case rel => exact ⟨i + 1, by omega, by omega, by go_num, E, rfl⟩
      · obtain rfl : i = n := by omega
        have E : Shut (manyB ss = false) := ⟨by
          unfold manyB
          rw [HLEN.out]
          simp
          refine ⟨by omega, fun s hs => ?_⟩
          obtain ⟨j, hj, rfl⟩ := List.getElem_of_mem hs
          have := ALL.out j (by rw [← HLEN.out]; exact hj)
          rw [List.getD_eq_getElem?_getD, List.getElem?_eq_getElem hj] at this
          exact this⟩
        go_wp2_with fail
        go_ret
        exact ⟨retb E.out.symm, rfl⟩

set_option maxHeartbeats 4000000 in
theorem HyphenPoints_walk (A : Option Addr) (n c : Nat) (ss : List ByteArray) (C : Option Addr) (m d : Nat) (xs : List Int) (w : World) (hx : StrsIn w A n c ss) (hs : ∀ s ∈ ss, s.size ≤ maxLen) (hn : n ≤ 9223372036854775807) (hy : SliceIn .i32 w C m d xs) :
    Calls Try.prog 5 #[.slice A n c, .slice C m d] w fun e w' => e = .returned (.bool true) ∧ Below w.heap.size w w' := by
  have MN : Shut (∀ W, _) := ⟨fun (W : {W : World // Below w.heap.size w W}) => many20_any A n c ss W.1 (hx.pass W.2) hn hs⟩
  have MN0 : Shut _ := ⟨MN.out ⟨w, Below.refl _ _⟩⟩
  cases hm : manyB ss with
  | true =>
    rw [hm] at MN0
    clear hm hx hs hy MN
    go_enter Try.func5, Try.ntmps5
    go_wp2_with fail
    refine MN0.out.mono ?_
    rintro e w1 ⟨rfl, rfl⟩
    go_wp2_with fail
    go_ret
    exact ⟨rfl, Below.refl _ _⟩
  | false =>
    rw [hm] at MN0
    obtain ⟨hl20, hs40⟩ := manyB_false hm
    rw [hx.len] at hl20
    by_cases h80 : 80 < m
    · have h8 : (80 : Int) < (m : Int) := by omega
      clear hm hx hs hy MN hs40
      go_enter Try.func5, Try.ntmps5
      go_wp2_with fail
      refine MN0.out.mono ?_
      rintro e w1 ⟨rfl, rfl⟩
      go_wp2_with fail
      go_ret
      exact ⟨rfl, Below.refl _ _⟩
    · have h8 : ¬ (80 : Int) < (m : Int) := by omega
      have PN : Shut (∀ W, Below w.heap.size w W → _) := ⟨fun W hW => pnew_any A n c ss W (hx.pass hW) (by omega) (fun s h => by have := hs40 s h; omega)⟩
      have RN : Shut (∀ W, Below w.heap.size w W → _) := ⟨fun W hW => rnew_any A n c ss W (hx.pass hW) (by omega) (fun s h => by have := hs40 s h; omega)⟩
      have HY : Shut _ := ⟨hy⟩
      have NM : Shut (∀ e W, _) := ⟨fun e W => num20_any e W⟩
      have hxl := hx.len
      cases hR : newF ss 0 [] with
      | inr q =>
        have hq := newF_err _ _ _ _ hR
        rw [hR] at PN RN
        obtain ⟨qi, qe⟩ := q
        simp only at hq
        have hq0 : ((qe : Int) != 0) = true := by rcases hq with rfl | rfl <;> rfl
        have hq1 : ((qe : Int) == 0) = false := by rcases hq with rfl | rfl <;> rfl
        unfold NewPost at PN
        unfold NewRPost at RN
        clear hm hx hs hy MN hs40 hR hq hxl
        go_enter Try.func5, Try.ntmps5
        go_wp2_with fail
        refine MN0.out.mono ?_
        rintro e w1 ⟨rfl, rfl⟩
        go_wp2_with fail
        refine (PN.out _ (Below.refl _ _)).mono ?_
        rintro e w1 ⟨rfl, b1⟩
        have B1 : Shut _ := ⟨b1⟩
        clear b1
        go_wp2_with fail
        refine (RN.out _ B1.out).mono ?_
        rintro e w2 ⟨rfl, b2⟩
        have B2 : Shut _ := ⟨B1.out.trans (b2.mono B1.out.size)⟩
        clear b2
        go_wp2_with fail
        refine (NM.out _ _).mono ?_
        rintro e w3 ⟨rfl, b3⟩
        have B3 : Shut _ := ⟨B2.out.trans (b3.mono B2.out.size)⟩
        clear b3
        go_wp2_with fail
        refine (NM.out _ _).mono ?_
        rintro e w4 ⟨rfl, b4⟩
        have B4 : Shut _ := ⟨B3.out.trans (b4.mono B3.out.size)⟩
        clear b4
        go_wp2_with fail
        go_ret
        exact ⟨retb (by simp), B4.out⟩
      | inl L =>
        obtain ⟨hLok, hLl, hLm⟩ := newF_ok _ _ _ _ hR PatsOk.nil
        have hLlen : L.length ≤ 20 := by simp at hLl; omega
        have hLs : ∀ p ∈ L, p.1.length ≤ 1000 := fun p hp => by
          rcases hLm p hp with h | ⟨s, h1, h2⟩
          · cases h
          · have := hs40 s h1; omega
        rw [hR] at PN RN
        unfold NewPost at PN
        unfold NewRPost at RN
        have OK : Shut _ := ⟨hLok⟩
        have LS : Shut _ := ⟨hLs⟩
        have XL : Shut _ := ⟨hy.at_.len⟩
        clear hm hx hs hy MN hs40 hR hxl hLok hLl hLm hLs
        go_enter Try.func5, Try.ntmps5
        go_wp2_with fail
        refine MN0.out.mono ?_
        rintro e w1 ⟨rfl, rfl⟩
        go_wp2_with fail
        refine (PN.out _ (Below.refl _ _)).mono ?_
        rintro e w1 ⟨b0, N, node, kids, rfl, t1, b1⟩
        have B1 : Shut _ := ⟨b1⟩
        have T1 : Shut _ := ⟨t1⟩
        clear b1 t1
        go_wp2_with fail
        refine (RN.out _ B1.out).mono ?_
        rintro e w2 ⟨A2, c2, rs, rfl, p2, b2⟩
        have B2 : Shut _ := ⟨B1.out.trans (b2.mono B1.out.size)⟩
        have T2 : Shut _ := ⟨T1.out.pass b2⟩
        have P2 : Shut _ := ⟨p2⟩
        clear b2 p2 T1
        go_wp2_with fail
        refine (NM.out _ _).mono ?_
        rintro e w3 ⟨rfl, b3⟩
        have B3 : Shut _ := ⟨B2.out.trans (b3.mono B2.out.size)⟩
        have T3 : Shut _ := ⟨T2.out.pass b3⟩
        have P3 : Shut _ := ⟨P2.out.pass b3⟩
        clear b3 T2 P2
        go_wp2_with fail
        refine (ppoints_any _ _ b0 N L OK.out node kids T3.out C m d xs (HY.out.passT B3.out) (by omega)).mono ?_
        rintro e w4 ⟨o1, hp1, ho1, A4, c4, rfl, own4, b4⟩
        have B4 : Shut _ := ⟨B3.out.trans (b4.mono B3.out.size)⟩
        have P4 : Shut _ := ⟨P3.out.pass b4⟩
        have O4 : Shut _ := ⟨own4⟩
        have HP1 : Shut _ := ⟨hp1⟩
        clear b4 P3 own4 hp1
        go_wp2_with fail
        refine (rpoints20_any _ _ A2 c2 L rs OK.out P4.out (by omega) LS.out C m d xs (HY.out.passT B4.out) (by omega)).mono ?_
        rintro e w5 ⟨o2, hp2, ho2, A5, c5, rfl, own5, b5⟩
        have B5 : Shut _ := ⟨B4.out.trans (b5.mono B4.out.size)⟩
        have O5 : Shut _ := ⟨own5⟩
        have O6 : Shut _ := ⟨Own.pass O4.out b5⟩
        have EQ : Shut ((o1 == o2) = true) := ⟨by rw [Points.unique HP1.out hp2]; simp⟩
        rw [XL.out] at ho1 ho2
        clear b5 own5 hp2
        have SM : Shut _ := ⟨same01_any A4 A5 o1.length o2.length c4 c5 o1 o2 w5 O6.out.ints O5.out.ints (by omega) (by omega)⟩
        rw [EQ.out] at SM
        go_wp2_with fail
        refine SM.out.mono ?_
        rintro e w6 ⟨rfl, b6⟩
        have B6 : Shut _ := ⟨B5.out.trans (b6.mono B5.out.size)⟩
        clear b6
        go_wp2_with fail
        go_ret
        exact ⟨rfl, B6.out⟩
end Go.Proofs.Yteehcmcljjdbeaa
