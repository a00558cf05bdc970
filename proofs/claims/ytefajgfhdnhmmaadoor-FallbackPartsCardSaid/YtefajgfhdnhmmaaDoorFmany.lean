/- Chapter 23: the law's guard, and whether a number is a font's (both ways); the font that is picked, plain. -/
import Derived.Test.YtefajgfhdnhmmaaDoorFonts
import Derived.Test.YtefajgfhdnhmmaaDoorFontw
namespace Go.Proofs.YtefajgfhdnhmmaaDoor
open Go.ChangeShapes Go.WideShapes Go.ChangeAt Go.RowKit
set_option maxRecDepth 100000
set_option linter.unusedSimpArgs false

def manyB (fs : List Fd) : Bool := decide (4 < fs.length) || fs.any fun f => decide (100 < f.mn)
theorem manyB_long {fs : List Fd} (h : 4 < fs.length) : manyB fs = true := by unfold manyB; simp [h]
theorem fnth_eq {fs : List Fd} {j : Nat} (h : j < fs.length) : fnth fs j = fs[j] := by unfold fnth; simp [h]
theorem manyB_yes {fs : List Fd} {j : Nat} (hj : j < fs.length) (h : 100 < (fnth fs j).mn) : manyB fs = true := by
  unfold manyB
  rw [Bool.or_eq_true, List.any_eq_true]
  exact .inr ⟨fs[j], List.getElem_mem hj, by rw [← fnth_eq hj]; simpa using h⟩
theorem manyB_no {fs : List Fd} (h4 : ¬ 4 < fs.length) (h : ∀ j, j < fs.length → ¬ 100 < (fnth fs j).mn) : manyB fs = false := by
  unfold manyB
  rw [Bool.or_eq_false_iff, List.any_eq_false]
  refine ⟨by simpa using h4, fun f hf => ?_⟩
  obtain ⟨j, hj, rfl⟩ := List.getElem_of_mem hf
  have := h j hj
  rw [fnth_eq hj] at this
  simpa using this
theorem manyB_mn {fs : List Fd} (h : manyB fs = false) : fs.length ≤ 4 ∧ ∀ j, j < fs.length → (fnth fs j).mn ≤ 100 := by
  unfold manyB at h
  rw [Bool.or_eq_false_iff, List.any_eq_false] at h
  refine ⟨by simpa using h.1, fun j hj => ?_⟩
  have := h.2 fs[j] (List.getElem_mem hj)
  rw [fnth_eq hj]
  simpa using this

set_option maxHeartbeats 2000000 in
theorem many_any (A : Option Addr) (n c : Nat) (fs : List Fd) (w : World) (hF : FontsAt w w.heap.size A n fs) :
    Calls Tryd.prog 32 #[.slice A n c] w fun e w' => e = .returned (.bool (manyB fs)) ∧ Below w.heap.size w w' := by
  have HF := Lib.hid hF
  have HN := Lib.hid hF.1
  clear hF
  by_cases h4 : 4 < n
  · have E := Lib.hid (manyB_long (fs := fs) (by rw [HN.out]; exact h4))
    go_enter Tryd.func32, Tryd.ntmps32
    go_wp2_with fail
    go_ret
    exact ⟨retb E.out.symm, Below.refl _ _⟩
  · go_enter Tryd.func32, Tryd.ntmps32
    go_wp2_with fail
    go_loop [3] (fun v => ∃ j : Nat, j ≤ n ∧ v = .int .i64 j ∧ ∀ i, i < j → ¬ 100 < (fnth fs i).mn) (fun v => n - (intOf v).toNat)
    case atStart => exact ⟨0, Nat.zero_le _, rfl, fun i h => by omega⟩
    case round =>
      obtain ⟨j, hj, rfl, hall⟩ := hrel
      have ALL := Lib.hid hall
      clear hall
      by_cases hlt : j < n
      · obtain ⟨ad, rfl, hab, hcx⟩ := HF.out.2 (by omega)
        obtain ⟨c0, c1, c2, c3, c4, c5, cm⟩ := hcx j hlt
        obtain ⟨f, hf⟩ : ∃ f, fnth fs j = f := ⟨_, rfl⟩
        have FE := Lib.hid hf
        rw [hf] at c2
        clear c0 c1 c3 c4 c5 cm hcx hf
        have c2x : w.cell? { block := (ad.add (j * 6)).block, off := (ad.add (j * 6)).off + 2 } = some (.slice f.M f.mn f.mc) := c2
        by_cases hm : 100 < f.mn
        · have E := Lib.hid (manyB_yes (fs := fs) (j := j) (by rw [HN.out]; exact hlt) (by rw [FE.out]; exact hm))
          go_wp2_with fail
          go_ret
          exact ⟨retb E.out.symm, Below.refl _ _⟩
        · go_wp2_with fail
          go_round
          case rel => exact ⟨j + 1, by omega, by go_num, fun i hi => (Nat.lt_or_ge i j).elim (fun h => ALL.out i h) (fun h => by rw [show i = j by omega, FE.out]; exact hm)⟩
          case measure => simp [intOf] <;> omega
      · have E := Lib.hid (manyB_no (fs := fs) (by rw [HN.out]; exact h4) (fun i hi => ALL.out i (by rw [HN.out] at hi; omega)))
        go_wp2_with fail
        go_ret
        exact ⟨retb E.out.symm, Below.refl _ _⟩

def isB (n : Nat) (i : Int) : Bool := decide (0 ≤ i) && decide (i < n)
theorem is_any (A : Option Addr) (n c : Nat) (i : Int) (w : World) :
    Calls Tryd.prog 96 #[.slice A n c, .int .i64 i] w fun e w' => e = .returned (.bool (isB n i)) ∧ Below w.heap.size w w' := by
  go_enter Tryd.func96, Tryd.ntmps96
  by_cases h0 : 0 ≤ i
  all_goals by_cases h1 : i < n
  all_goals go_wp2_with fail
  all_goals go_ret
  all_goals exact ⟨retb (by simp [isB]; try omega), Below.refl _ _⟩
theorem ok_any (A : Option Addr) (n c b : Nat) (i : Int) (w : World) (hc : w.cell? ⟨b, 0, none⟩ = some (.slice A n c)) :
    Calls Tryd.prog 71 #[.int .i64 i, .pointer (some ⟨b, 0, none⟩)] w fun e w' => e = .returned (.bool (isB n i)) ∧ Below w.heap.size w w' := by
  go_enter Tryd.func71, Tryd.ntmps71
  by_cases h0 : 0 ≤ i
  all_goals by_cases h1 : i < n
  all_goals go_wp2_with fail
  all_goals go_ret
  all_goals exact ⟨retb (by simp [isB]; try omega), Below.refl _ _⟩

def fHas (fs : List Fd) (cl : List Int) (j : Nat) : Bool := hasB (fnth fs j).ms cl
def firstF (fs : List Fd) (cl : List Int) : Nat → Nat → Option Nat
  | 0, _ => none
  | d + 1, j => if fHas fs cl j then some j else firstF fs cl d (j + 1)
def tailV (fs : List Fd) (pre : Int) (cl : List Int) (ahead : Int) : Int :=
  if (isB fs.length ahead && decide (0 < cl.length) && glyphOf (fnth fs ahead.toNat).ms (nth cl 0) 0 != 0) = true then ahead else if isB fs.length pre = true then pre else 0
def pickV (fs : List Fd) (pre : Int) (cl : List Int) (ahead : Int) : Int :=
  if (isB fs.length pre && fHas fs cl pre.toNat) = true then pre else match firstF fs cl fs.length 0 with
    | some j => (j : Int)
    | none => tailV fs pre cl ahead
theorem firstF_at {fs : List Fd} {cl : List Int} : ∀ {d k j : Nat}, k ≤ j → j < k + d → (∀ i, k ≤ i → i < j → fHas fs cl i = false) → fHas fs cl j = true → firstF fs cl d k = some j
  | 0, _, _, h1, h2, _, _ => by omega
  | d + 1, k, j, h1, h2, h3, h4 => by
    unfold firstF
    rcases Nat.eq_or_lt_of_le h1 with h | h
    · subst h; simp [h4]
    · rw [h3 k (Nat.le_refl _) h]
      simp only [Bool.false_eq_true, if_false]
      exact firstF_at (by omega) (by omega) (fun i hi hi2 => h3 i (by omega) hi2) h4
theorem firstF_none {fs : List Fd} {cl : List Int} : ∀ {d k : Nat}, (∀ i, k ≤ i → i < k + d → fHas fs cl i = false) → firstF fs cl d k = none
  | 0, _, _ => rfl
  | d + 1, k, h => by
    unfold firstF
    rw [h k (Nat.le_refl _) (by omega)]
    simp only [Bool.false_eq_true, if_false]
    exact firstF_none fun i hi hi2 => h i (by omega) (by omega)
theorem pickV_pre {fs : List Fd} {cl : List Int} {pre ahead : Int} (h : (isB fs.length pre && fHas fs cl pre.toNat) = true) : pickV fs pre cl ahead = pre := by
  unfold pickV; rw [if_pos h]
theorem pickV_at {fs : List Fd} {cl : List Int} {pre ahead : Int} {j : Nat} (h : (isB fs.length pre && fHas fs cl pre.toNat) = false) (hj : j < fs.length) (hno : ∀ i, i < j → fHas fs cl i = false) (hy : fHas fs cl j = true) : pickV fs pre cl ahead = j := by
  unfold pickV
  rw [h, firstF_at (Nat.zero_le _) (by omega) (fun i _ hi => hno i hi) hy]
  rfl
theorem pickV_tail {fs : List Fd} {cl : List Int} {pre ahead : Int} (h : (isB fs.length pre && fHas fs cl pre.toNat) = false) (hno : ∀ i, i < fs.length → fHas fs cl i = false) : pickV fs pre cl ahead = tailV fs pre cl ahead := by
  unfold pickV
  rw [h, firstF_none fun i _ hi => hno i (by omega)]
  rfl
end Go.Proofs.YtefajgfhdnhmmaaDoor
