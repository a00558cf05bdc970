/- Chapter 36: the forms of a text, both ways. -/
import Derived.Test.YtmbgeeiidpllcaaDoorJrefb
namespace Go.Proofs.YtmbgeeiidpllcaaDoor
open Go.ChangeShapes Go.WideShapes Go.ChangeAt Go.RowKit
set_option maxRecDepth 100000

theorem TI36 : SliceOf Tryd.prog 33 3 1 8 := sliceOf_mk Tryd.underlying33 (z := .int .i64 0) (by kernel_rfl) rfl (by omega) (by omega)
theorem zeroI : (Tryd.prog.info? 3).map (·.zero) = some (some (.int .i64 0)) := by kernel_rfl
def fl (xs : List Int) (n k : Nat) : List Int := (List.range k).map (formAt xs) ++ List.replicate (n - k) 0
theorem fl_cell {w : World} {B g n k : Nat} {xs : List Int} (h : Own w B 3 .i64 (some ⟨g, 0, none⟩) n n (fl xs n k)) (hk : k < n) : w.cell? ⟨g, k, none⟩ = some (.int .i64 0) := by
  rw [OwnV.cellAt h k (by omega), List.getElem?_map]
  unfold fl
  rw [nth_repl (by simp) hk]
  rfl
theorem fl_full {xs : List Int} {n : Nat} (h : xs.length = n) : fl xs n n = forms xs := by
  unfold fl forms; rw [Nat.sub_self, h]; simp
theorem form_val {xs : List Int} {k : Nat} {c : Int} {a b : Bool} (hc : joinOf (nth xs k) = c) (ha : jnA xs k = a) (hb : jnB xs k = b) :
    formAt xs k = if (c == 1 || c == 2 || c == 3) = true then (if (a && b) = true then 3 else if b = true then 2 else if a = true then 4 else 1) else 0 := by
  unfold formAt; rw [hc, ha, hb]

set_option maxHeartbeats 4000000 in
theorem pForms_any (A : Option Addr) (n c : Nat) (xs : List Int) (w : World) (hx : SliceIn .i32 w A n c xs) (hl : Laid w) (hn : n * 8 ≤ 140737488355328) :
    Calls Tryd.prog 23 #[.slice A n c] w (NewInts w 3 .i64 n (forms xs)) := by
  have HX := Lib.hid hx
  have HL := Lib.hid hl
  have HLEN := Lib.hid hx.at_.len
  clear hx hl
  go_enter Tryd.func23, Tryd.ntmps23
  go_wp2_with (at_make; refine wpList_makeInts TI36 zeroI rfl _ _ rfl n rfl rfl rfl rfl hn w.heap.size (Nat.le_refl _) ?_; intro g0 w0 hown0 hb0)
  go_loopw [14] (fun i wr => ∃ k : Nat, k ≤ n ∧ i = .int .i64 k ∧ Own wr w.heap.size 3 .i64 (some ⟨g0, 0, none⟩) n n (fl xs n k) ∧ Below w.heap.size w wr) (fun i _ => n - (intOf i).toNat)
  case atStart => exact ⟨0, Nat.zero_le _, rfl, hown0, hb0⟩
  case round =>
    obtain ⟨k, hk, rfl, hown, hb⟩ := hrel
    have HB := Lib.hid hb
    have HO := Lib.hid hown
    clear hb hown
    by_cases hlt : k < n
    · obtain ⟨h1, h2⟩ := bounds_i32 (HX.out.nth_wf hlt)
      obtain ⟨ad, rfl, hab, hc⟩ := (HX.out.at_.below HB.out).2 (by omega)
      have hc := hc k hlt
      have O := Lib.hid (pOf_lit (nth xs k) h1 h2 wr (HL.out.pass HB.out))
      have JJ := Lib.hid (fun w' (hb : Below w.heap.size w w') => pJoins_any (some ad) n c xs k w' (HX.out.pass hb) (HL.out.pass hb) (by omega))
      have ea : JA xs k = jnA xs k := by unfold JA; rw [HLEN.out, if_pos (by omega)]; rfl
      have eb : JB xs k = jnB xs k := by unfold JB; rw [HLEN.out, if_pos (by omega)]; rfl
      rw [ea, eb] at JJ
      have ej : (propOf (nth xs k)).join = joinOf (nth xs k) := rfl
      rw [ej] at O
      obtain ⟨jc, hjc⟩ : ∃ jc, joinOf (nth xs k) = jc := ⟨_, rfl⟩
      obtain ⟨ja, hja⟩ : ∃ ja, jnA xs k = ja := ⟨_, rfl⟩
      obtain ⟨jb, hjb⟩ : ∃ jb, jnB xs k = jb := ⟨_, rfl⟩
      have hform := form_val hjc hja hjb
      rw [hjc] at O
      rw [hja, hjb] at JJ
      clear ea eb ej hjc hja hjb h1 h2
      by_cases hcc : jc = 1 ∨ jc = 2 ∨ jc = 3
      · rcases hcc with rfl | rfl | rfl
        all_goals
          cases ja
          all_goals
            cases jb
            all_goals
              simp at hform
              have HF := Lib.hid hform
              clear hform
              go_wp2_with (first
                | (go_at_call 30; refine O.out.mono ?_; rintro e w1 ⟨rfl, hb1⟩; have x1 := HB.out.trans (hb1.mono HB.out.size); have o1 := HO.out.pass hb1)
                | (go_at_call 31; refine (JJ.out _ x1).mono ?_; rintro e w2 ⟨rfl, hb2⟩; have X2 := Lib.hid (x1.trans (hb2.mono x1.size)); have O2 := Lib.hid (o1.pass hb2); have cc := fl_cell O2.out hlt; have cf := OwnV.frozenAt O2.out k))
              go_roundw
              case rel =>
                refine ⟨k + 1, by omega, by go_num, ?_, ?_⟩
                · unfold fl; rw [← forms_take hlt, HF.out]; exact Own.set_ O2.out k _
                · obtain ⟨_, _, hgb, _⟩ := OwnV.form O2.out (by omega); exact X2.out.setCell (by simp_all) _
              case measure => simp [intOf]; omega
      · have b1 : ((jc : Int) != 1) = true := by simp; omega
        have b2 : ((jc : Int) != 2) = true := by simp; omega
        have b3 : ((jc : Int) != 3) = true := by simp; omega
        have hf0 : formAt xs k = 0 := by
          have e0 : (jc == 1 || jc == 2 || jc == 3) = false := by simp; omega
          rw [hform, e0]
          rfl
        have HF := Lib.hid hf0
        clear hf0
        clear hform hcc
        go_wp2_with (go_at_call 30; refine O.out.mono ?_; rintro e w1 ⟨rfl, hb1⟩; have X1 := Lib.hid (HB.out.trans (hb1.mono HB.out.size)); have O1 := Lib.hid (HO.out.pass hb1))
        go_roundw
        case rel => exact ⟨k + 1, by omega, by go_num, by unfold fl; rw [← forms_same hlt HF.out]; exact O1.out, X1.out⟩
        case measure => simp [intOf]; omega
    · obtain rfl : k = n := by omega
      go_wp2
      go_ret
      have ho := HO.out
      rw [fl_full HLEN.out] at ho
      exact ⟨_, _, rfl, ho, HB.out⟩
end Go.Proofs.YtmbgeeiidpllcaaDoor
