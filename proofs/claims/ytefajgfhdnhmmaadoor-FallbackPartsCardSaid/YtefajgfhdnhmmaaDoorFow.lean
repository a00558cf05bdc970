/- Chapter 23: the walk of FallbackOf. -/
import Derived.Test.YtefajgfhdnhmmaaDoorFor
namespace Go.Proofs.YtefajgfhdnhmmaaDoor
open Go.ChangeShapes Go.WideShapes Go.ChangeAt Go.RowKit
set_option maxRecDepth 100000
set_option linter.unusedSimpArgs false

theorem fontS_len {fs : List Fd} {sp : List Sp} {xs : List Int} {n : Nat} (h : xs.length = n) : (fontS fs sp xs).length ≤ n := by
  have h1 := clS_len (bndA (ks xs)) (fontA fs sp xs (bndA (ks xs))) ((bndA (ks xs)).length - 1)
  have h2 := (bnd_facts h).2.2.1
  unfold fontS
  omega

set_option maxHeartbeats 4000000 in
theorem FallbackOf_walk (A : Option Addr) (n c : Nat) (fs : List Fd) (A2 : Option Addr) (n2 c2 : Nat) (xs : List Int) (A3 : Option Addr) (n3 c3 : Nat) (sp : List Sp) (w : World) (hF : FontsAt w w.heap.size A n fs) (hx : SliceIn .i32 w A2 n2 c2 xs) (hS : SpansAt w w.heap.size A3 n3 sp) (hl : Laid w) :
    Calls Tryd.prog 9 #[.slice A n c, .slice A2 n2 c2, .slice A3 n3 c3] w fun e w' => e = .returned (.bool true) ∧ Below w.heap.size w w' := by
  have MA := Lib.hid (many_any A n c fs w hF)
  cases hM : manyB fs with
  | true =>
    rw [hM] at MA
    clear hF hx hS hl hM
    go_enter Tryd.func9, Tryd.ntmps9
    go_wp2_with fail
    refine MA.out.mono ?_
    rintro e w1 ⟨rfl, hb1⟩
    go_wp2_with fail
    go_ret
    exact ⟨rfl, hb1⟩
  | false =>
    rw [hM] at MA
    obtain ⟨h4, hmn⟩ := manyB_mn hM
    rw [hF.1] at h4 hmn
    by_cases h30 : 30 < n2
    · clear hF hx hS hl hM
      go_enter Tryd.func9, Tryd.ntmps9
      go_wp2_with fail
      refine MA.out.mono ?_
      rintro e w1 ⟨rfl, hb1⟩
      go_wp2_with fail
      go_ret
      exact ⟨rfl, hb1⟩
    · by_cases h20 : 20 < n3
      · clear hF hx hS hl hM
        go_enter Tryd.func9, Tryd.ntmps9
        go_wp2_with fail
        refine MA.out.mono ?_
        rintro e w1 ⟨rfl, hb1⟩
        go_wp2_with fail
        go_ret
        exact ⟨rfl, hb1⟩
      · have hm : ∀ j, j < n → (fnth fs j).mn ≤ 140737488355328 := fun j hj => Nat.le_trans (hmn j hj) (by omega)
        have P1 := Lib.hid (fun W (hb : Below w.heap.size w W) => pfOf_any A n c fs A2 n2 c2 xs A3 n3 c3 sp W (hF.later hb) (hx.pass hb) (hS.later hb) (hl.pass hb) hm (by omega) (by omega) (by omega))
        have P2 := Lib.hid (fun W (hb : Below w.heap.size w W) => rfOf_any A n c fs A2 n2 c2 xs A3 n3 c3 sp W (hF.later hb) (hx.pass hb) (hS.later hb) hm (by omega) (by omega) (by omega))
        have hfl := fontS_len (fs := fs) (sp := sp) hx.at_.len
        generalize fontS fs sp xs = S at *
        obtain ⟨L, hL⟩ : ∃ L, S.length = L := ⟨_, rfl⟩
        unfold NewSpans at P1 P2
        rw [hL] at P1 P2 hfl
        clear hF hx hS hl hM hm hmn hL
        go_enter Tryd.func9, Tryd.ntmps9
        go_wp2_with fail
        refine MA.out.mono ?_
        rintro e w1 ⟨rfl, x1⟩
        go_wp2_with fail
        refine (P1.out _ x1).mono ?_
        rintro e w2 ⟨A5, c5, rfl, o5, x2⟩
        have y2 := x1.trans (x2.mono x1.size)
        have O5 := Lib.hid o5
        clear o5 x2
        go_wp2_with fail
        refine (P2.out _ y2).mono ?_
        rintro e w3 ⟨A6, c6, rfl, o6, x3⟩
        have y3 := y2.trans (x3.mono y2.size)
        have SM := Lib.hid (sameSp_any A5 A6 L c5 c6 S w3 (OwnV.spans (OwnV.pass O5.out x3)) (OwnV.spans o6) (by omega))
        clear o6 x3
        go_wp2_with fail
        refine SM.out.mono ?_
        rintro e w4 ⟨rfl, x4⟩
        have y4 := y3.trans (x4.mono y3.size)
        go_wp2_with fail
        go_ret
        exact ⟨rfl, y4⟩
end Go.Proofs.YtefajgfhdnhmmaaDoor
