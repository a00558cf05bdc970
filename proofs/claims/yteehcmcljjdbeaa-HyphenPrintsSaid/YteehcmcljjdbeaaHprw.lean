/- Chapter 20: the walk of HyphenPrints: Print agrees with the reference, and Parse inverts it. -/
import Derived.Test.YteehcmcljjdbeaaHrq
import Derived.Test.YteehcmcljjdbeaaHsame
namespace Go.Proofs.Yteehcmcljjdbeaa
open Go.ChangeShapes Go.WideShapes Go.ChangeAt Go.RowKit
set_option maxRecDepth 100000
set_option linter.unusedSimpArgs false

theorem printed_size {ls ds : List Int} (h1 : ls.length ≤ 30) (h2 : ds.length ≤ 40) : (printed ls ds).size ≤ 1000 := by
  unfold printed
  split
  · rw [txt_size]
    have h3 := encZ_len (outR ls ds)
    have h4 : (outR ls ds).length ≤ ls.length + ds.length := by
      have h2 : ∀ (a b : List Int), (outR a b).length ≤ a.length + b.length := by
        intro a b
        induction b generalizing a with
        | nil => rw [outR_nil]; simp
        | cons d b ih =>
          cases a with
          | nil =>
            have := ih []
            unfold outR dg
            split
            · simp at this ⊢; omega
            · simp at this ⊢; omega
          | cons x a =>
            have := ih a
            unfold outR dg
            split
            · simp; omega
            · simp; omega
      exact h2 ls ds
    omega
  · decide
theorem txt_list (l : List Int) : (txt l).toList = l.map fun x => x.toNat.toUInt8 := ByteArray.toList_mk _

set_option maxHeartbeats 2000000 in
theorem HyphenPrints_walk (A : Option Addr) (n c : Nat) (ls : List Int) (A2 : Option Addr) (m c2 : Nat) (ds : List Int) (w : World) (hx : SliceIn .i32 w A n c ls) (hy : SliceIn .i64 w A2 m c2 ds) :
    Calls Try.prog 4 #[.slice A n c, .slice A2 m c2] w fun e w' => e = .returned (.bool true) ∧ Below w.heap.size w w' := by
  by_cases hn : 30 < n
  · have h1 : (30 : Int) < (n : Int) := by omega
    go_enter Try.func4, Try.ntmps4
    go_wp2_with fail
    go_ret
    exact ⟨rfl, Below.refl _ _⟩
  · by_cases hm : 40 < m
    · have h1 : ¬ (30 : Int) < (n : Int) := by omega
      have h2 : (40 : Int) < (m : Int) := by omega
      go_enter Try.func4, Try.ntmps4
      go_wp2_with fail
      go_ret
      exact ⟨rfl, Below.refl _ _⟩
    · have h1 : ¬ (30 : Int) < (n : Int) := by omega
      have h2 : ¬ (40 : Int) < (m : Int) := by omega
      have HX : Shut _ := ⟨hx⟩
      have HY : Shut _ := ⟨hy⟩
      have C1 : Shut _ := ⟨pprint_any A n c ls A2 m c2 ds w hx hy (by omega) (by omega)⟩
      have C2 : Shut (∀ W, Below w.heap.size w W → _) := ⟨fun W hW => rprint_any A n c ls A2 m c2 ds W (hx.passP hW) (hy.passP hW) (by omega) (by omega)⟩
      have hsz := printed_size (ls := ls) (ds := ds) (by rw [hx.at_.len]; omega) (by rw [hy.at_.len]; omega)
      have C3 : Shut (∀ W, Calls Try.prog 8 #[.string (printed ls ds)] W (ParsePost W (parsed (printed ls ds)))) := ⟨fun W => pparse_any (printed ls ds) (by omega) W⟩
      have LX : Shut (ls.length = n) := ⟨hx.at_.len⟩
      have LY : Shut (ds.length = m) := ⟨hy.at_.len⟩
      clear hx hy hn hm
      cases hok : okP ls ds with
      | false =>
        have hv : printed ls ds = ⟨#[]⟩ := by unfold printed; rw [hok]; rfl
        rw [hv] at C1 C2 C3 hsz
        rw [parsed_empty] at C3
        clear hok hv
        go_enter Try.func4, Try.ntmps4
        go_wp2_with fail
        refine C1.out.mono ?_
        rintro e w1 ⟨rfl, b1⟩
        have B1 : Shut _ := ⟨b1⟩
        clear b1
        go_wp2_with fail
        refine (C2.out _ B1.out).mono ?_
        rintro e w2 ⟨rfl, b2⟩
        have B2 : Shut _ := ⟨B1.out.trans (b2.mono B1.out.size)⟩
        clear b2
        go_wp2_with fail
        refine (C3.out _).mono ?_
        rintro e w3 ⟨rfl, b3⟩
        have B3 : Shut _ := ⟨B2.out.trans (b3.mono B2.out.size)⟩
        clear b3
        go_wp2_with fail
        go_ret
        exact ⟨rfl, B3.out⟩
      | true =>
        have hv : printed ls ds = txt (encZ (outR ls ds)) := by unfold printed; rw [hok]; rfl
        have hp := parsed_print hok
        have hne := print_nonempty hok
        rw [hv] at C1 C2 C3 hsz
        rw [hp] at C3
        have hl0 : ¬ (txt (encZ (outR ls ds))).toList = [] := by
          rw [txt_list]
          simpa using hne
        have hl1 : (txt (encZ (outR ls ds))).toList.isEmpty = false := by
          rw [txt_list]
          simpa using hne
        generalize txt (encZ (outR ls ds)) = V at *
        clear hok hv hp hne
        go_enter Try.func4, Try.ntmps4
        go_wp2_with fail
        refine C1.out.mono ?_
        rintro e w1 ⟨rfl, b1⟩
        have B1 : Shut _ := ⟨b1⟩
        clear b1
        go_wp2_with fail
        refine (C2.out _ B1.out).mono ?_
        rintro e w2 ⟨rfl, b2⟩
        have B2 : Shut _ := ⟨B1.out.trans (b2.mono B1.out.size)⟩
        clear b2
        go_wp2_with fail
        refine (C3.out _).mono ?_
        rintro e w3 ⟨A3, A4, c3, c4, rfl, o3, o4, b3⟩
        have O3 : Shut _ := ⟨o3⟩
        have O4 : Shut _ := ⟨o4⟩
        have B3 : Shut _ := ⟨B2.out.trans (b3.mono B2.out.size)⟩
        clear b3 o3 o4
        go_wp2_with fail
        refine (same02_any A3 A ls.length n c3 c ls ls _ O3.out.ints (HX.out.passP B3.out).at_ (by rw [LX.out]; omega) (by omega)).mono ?_
        rintro e w4 ⟨rfl, b4⟩
        have B4 : Shut _ := ⟨B3.out.trans (b4.mono B3.out.size)⟩
        have O5 : Shut _ := ⟨Own.pass O4.out b4⟩
        have e1 : (ls == ls) = true := by simp
        rw [e1]
        clear b4 e1
        go_wp2_with fail
        refine (same01_any A4 A2 ds.length m c4 c2 ds ds _ O5.out.ints (HY.out.passP B4.out).at_ (by rw [LY.out]; omega) (by omega)).mono ?_
        rintro e w5 ⟨rfl, b5⟩
        have B5 : Shut _ := ⟨B4.out.trans (b5.mono B4.out.size)⟩
        have e1 : (ds == ds) = true := by simp
        rw [e1]
        clear b5 e1
        go_wp2_with fail
        go_ret
        exact ⟨rfl, B5.out⟩
end Go.Proofs.Yteehcmcljjdbeaa
