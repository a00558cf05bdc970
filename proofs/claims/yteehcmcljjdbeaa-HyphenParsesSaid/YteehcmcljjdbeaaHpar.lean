/- Chapter 20: the walk of HyphenParses: Parse agrees with the reference for any text. -/
import Derived.Test.YteehcmcljjdbeaaHrp
import Derived.Test.YteehcmcljjdbeaaHsame
namespace Go.Proofs.Yteehcmcljjdbeaa
open Go.ChangeShapes Go.WideShapes Go.ChangeAt Go.RowKit
set_option maxRecDepth 100000
set_option linter.unusedSimpArgs false

theorem parsed_len {s : ByteArray} {p : List Int × List Int} (h : parsed s = some p) : p.1.length ≤ s.size ∧ p.2.length ≤ s.size + 1 := by
  have key : ∀ (f pos : Nat) (ls ds : List Int) (now : Int) (told : Bool) (q : List Int × List Int), parseF s f pos ls ds now told = some q → q.1.length ≤ ls.length + f ∧ q.2.length ≤ ds.length + f + 1 := by
    intro f
    induction f with
    | zero =>
      intro pos ls ds now told q h
      injection h with h
      subst h
      simp
    | succ f ih =>
      intro pos ls ds now told q h
      unfold parseF at h
      split at h
      · split at h
        · split at h
          · split at h
            · cases h
            · have := ih _ _ _ _ _ _ h
              omega
          · have := ih _ _ _ _ _ _ h
            simp at this
            omega
        · cases h
      · injection h with h
        subst h
        simp
  unfold parsed at h
  cases hp : parseF s s.size 0 [] [] 0 false with
  | none => rw [hp] at h; cases h
  | some q =>
    rw [hp] at h
    have := key _ _ _ _ _ _ _ hp
    simp only [Option.bind_some] at h
    split at h
    · injection h with h
      subst h
      simpa using this
    · cases h

set_option maxHeartbeats 1000000 in
theorem HyphenParses_walk (s : ByteArray) (hs : s.size ≤ maxLen) (w : World) :
    Calls Try.prog 3 #[.string s] w fun e w' => e = .returned (.bool true) ∧ Below w.heap.size w w' := by
  unfold maxLen at hs
  by_cases hlen : 60 < s.size
  · go_enter Try.func3, Try.ntmps3
    go_wp2_with fail
    go_ret
    exact ⟨rfl, Below.refl _ _⟩
  · have hl2 : ¬ (60 : Int) < (s.size : Int) := by omega
    have C1 : Shut (∀ W, Calls Try.prog 8 #[.string s] W (ParsePost W (parsed s))) := ⟨fun W => pparse_any s (by omega) W⟩
    have C2 : Shut (∀ W, Calls Try.prog 9 #[.string s] W (ParsePost W (parsed s))) := ⟨fun W => rparse_any s (by omega) W⟩
    have PL : Shut (∀ p, parsed s = some p → p.1.length ≤ s.size ∧ p.2.length ≤ s.size + 1) := ⟨fun p h => parsed_len h⟩
    generalize parsed s = R at *
    cases R with
    | none =>
      go_enter Try.func3, Try.ntmps3
      go_wp2_with fail
      refine (C1.out _).mono ?_
      rintro e w1 ⟨rfl, b1⟩
      have B1 : Shut _ := ⟨b1⟩
      clear b1
      go_wp2_with fail
      refine (C2.out _).mono ?_
      rintro e w2 ⟨rfl, b2⟩
      have B2 : Shut _ := ⟨B1.out.trans (b2.mono B1.out.size)⟩
      clear b2
      go_wp2_with fail
      refine (same02_any none none 0 0 0 0 [] [] _ IntsAt.nil IntsAt.nil (by omega) (by omega)).mono ?_
      rintro e w3 ⟨rfl, b3⟩
      have B3 : Shut _ := ⟨B2.out.trans (b3.mono B2.out.size)⟩
      clear b3
      go_wp2_with fail
      refine (same01_any none none 0 0 0 0 [] [] _ IntsAt.nil IntsAt.nil (by omega) (by omega)).mono ?_
      rintro e w4 ⟨rfl, b4⟩
      have B4 : Shut _ := ⟨B3.out.trans (b4.mono B3.out.size)⟩
      clear b4
      go_wp2_with fail
      go_ret
      exact ⟨rfl, B4.out⟩
    | some p =>
      obtain ⟨ls, ds⟩ := p
      have q1 : ls.length ≤ s.size := (PL.out _ rfl).1
      have q2 : ds.length ≤ s.size + 1 := (PL.out _ rfl).2
      go_enter Try.func3, Try.ntmps3
      go_wp2_with fail
      refine (C1.out _).mono ?_
      rintro e w1 ⟨A1, A2, c1, c2, rfl, o1, o2, b1⟩
      have B1 : Shut _ := ⟨b1⟩
      have O1 : Shut _ := ⟨o1⟩
      have O2 : Shut _ := ⟨o2⟩
      clear b1 o1 o2
      go_wp2_with fail
      refine (C2.out _).mono ?_
      rintro e w2 ⟨A3, A4, c3, c4, rfl, o3, o4, b2⟩
      have B2 : Shut _ := ⟨B1.out.trans (b2.mono B1.out.size)⟩
      have O3 : Shut _ := ⟨o3⟩
      have O4 : Shut _ := ⟨o4⟩
      have O5 : Shut _ := ⟨Own.pass O1.out b2⟩
      have O6 : Shut _ := ⟨Own.pass O2.out b2⟩
      clear b2 o3 o4 O1 O2
      go_wp2_with fail
      refine (same02_any A1 A3 ls.length ls.length c1 c3 ls ls _ O5.out.ints O3.out.ints (by omega) (by omega)).mono ?_
      rintro e w3 ⟨rfl, b3⟩
      have B3 : Shut _ := ⟨B2.out.trans (b3.mono B2.out.size)⟩
      have O7 : Shut _ := ⟨Own.pass O6.out b3⟩
      have O8 : Shut _ := ⟨Own.pass O4.out b3⟩
      have e1 : (ls == ls) = true := by simp
      rw [e1]
      clear b3 e1
      go_wp2_with fail
      refine (same01_any A2 A4 ds.length ds.length c2 c4 ds ds _ O7.out.ints O8.out.ints (by omega) (by omega)).mono ?_
      rintro e w4 ⟨rfl, b4⟩
      have B4 : Shut _ := ⟨B3.out.trans (b4.mono B3.out.size)⟩
      have e1 : (ds == ds) = true := by simp
      rw [e1]
      clear b4 e1
      go_wp2_with fail
      go_ret
      exact ⟨rfl, B4.out⟩
end Go.Proofs.Yteehcmcljjdbeaa
