/- Chapter 36: the walk of JoiningLocal. -/
import Derived.Test.YtajippjknikciaaDoorJal
import Derived.Test.YtajippjknikciaaDoorJlaw2
import Derived.Test.YtajippjknikciaaDoorCut
import Derived.Deep.RegionLaw
namespace Go.Proofs.YtajippjknikciaaDoor
open Go.ChangeShapes Go.WideShapes Go.ChangeAt Go.RowKit
set_option maxRecDepth 100000

theorem TI32 : SliceOf Tryd.prog 29 21 1 4 := sliceOf_mk Tryd.underlying29 (z := .int .i32 0) (by kernel_rfl) rfl (by omega) (by omega)

theorem putIn_wf {xs ys : List Int} {i : Nat} {k : IntKind} (hx : ∀ x ∈ xs, (Lit.int k x).wf = true) (hy : ∀ x ∈ ys, (Lit.int k x).wf = true) : ∀ x ∈ putIn xs ys i, (Lit.int k x).wf = true := by
  intro x h
  unfold putIn at h
  rcases List.mem_append.1 h with h | h
  · rcases List.mem_append.1 h with h | h
    · exact hx x (List.mem_of_mem_take h)
    · exact hy x h
  · exact hx x (List.mem_of_mem_drop h)
theorem below2 (w : World) (o : Obj) : Below w.heap.size w (w.drew.alloc o) := ((Below.refl w.heap.size w).drew).alloc (Nat.le_refl _) _
theorem below3 (w : World) (o : Obj) : Below w.heap.size w (w.alloc o).drew := ((Below.refl w.heap.size w).alloc (Nat.le_refl _) _).drew

set_option linter.unusedSimpArgs false in
set_option maxHeartbeats 8000000 in
theorem JoiningLocal_walk (A : Option Addr) (n c : Nat) (xs : List Int) (B : Option Addr) (m d : Nat) (ys : List Int) (q : Int) (hq : (Lit.int .u16 q).wf = true) (w : World) (hx : SliceIn .i32 w A n c xs) (hy : SliceIn .i32 w B m d ys) (hl : Laid w) :
    Calls Tryd.prog 9 #[.slice A n c, .slice B m d, .int .u16 q] w fun e w' => e = .returned (.bool true) ∧ Below w.heap.size w w' := by
  obtain ⟨q1, q2⟩ := bounds_u16 hq
  have HX := Lib.hid hx
  have HY := Lib.hid hy
  have HL := Lib.hid hl
  have HLEN := Lib.hid hx.at_.len
  have HLENY := Lib.hid hy.at_.len
  clear hx hy hl hq
  by_cases hlen : 100 < n ∨ 40 < m
  · by_cases h : 100 < n
    all_goals
      try (have h2 : 40 < m := by omega)
      try clear hlen
      all_goals
        go_enter Tryd.func9, Tryd.ntmps9
        go_wp2_with fail
        refine (alive36_any _ HL.out).mono ?_
        rintro e w1 ⟨rfl, hb1⟩
        go_wp2_with fail
        go_ret
        exact ⟨rfl, hb1⟩
  · have hn : n ≤ 100 := by omega
    have hm : m ≤ 40 := by omega
    clear hlen
    have hp : (0 : Int) < (n : Int) + 1 := by omega
    have hem := Int.emod_nonneg q (b := (n : Int) + 1) (by omega)
    have hem2 := Int.emod_lt_of_pos q hp
    obtain ⟨i, hi⟩ : ∃ i : Nat, q % ((n : Int) + 1) = i := ⟨(q % ((n : Int) + 1)).toNat, by omega⟩
    have hin : i ≤ n := by omega
    clear hem hem2
    obtain ⟨wf1, wf2, wf3⟩ := win_in xs i (by rw [HLEN.out]; exact hin)
    rw [HLEN.out] at wf3
    have hcl : clampN i n = i := by unfold clampN; omega
    have WIN := Lib.hid (pWindow_any A n c xs i w HX.out HL.out (by omega))
    rw [hcl] at WIN
    clear hcl
    have PT := Lib.hid (put_take (t := xs) (put := ys) (i := i) (by rw [HLEN.out]; exact hin))
    have PD := Lib.hid (put_drop (t := xs) (put := ys) (i := i) (by rw [HLEN.out]; exact hin))
    generalize winF xs i = f at *
    generalize winT xs i = t at *
    have d1 : ¬ (f : Int) < 0 := by omega
    have d2 : ¬ (i : Int) < (f : Int) := by omega
    have d3 : ¬ (t : Int) < (i : Int) := by omega
    have d4 : ¬ (n : Int) < (t : Int) := by omega
    go_enter Tryd.func9, Tryd.ntmps9
    go_wp2_with fail
    refine WIN.out.mono ?_
    rintro e w1 ⟨rfl, hb1⟩
    have X1 := Lib.hid (HX.out.pass hb1)
    have Y1 := Lib.hid (HY.out.pass hb1)
    have L1 := Lib.hid (HL.out.pass hb1)
    obtain ⟨Ah, ch, CH⟩ := cut_h TI32 A n c i hin HX.out.le i rfl
    obtain ⟨Al, cl, CL⟩ := cut_l TI32 A n c i hin HX.out.le i rfl
    have rh := CH.run
    have rl := CL.run
    have SH := Lib.hid (CH.sliceIn X1.out)
    have SL := Lib.hid (CL.sliceIn X1.out)
    clear CH CL
    go_wp2_with fail
    go_region_law ((first
      | (refine step_appendE TI32 (by rfl) (.tmp 52) (.tmp 55) (by rfl) (by rfl) (own_empty _ _ .i32 w1.heap.size (by simp)) (by rfl) (SH.out.at_.later (by first | exact below2 w1 _ | exact below3 w1 _)) (by omega) (by simp) ?_
         intro A1 c1 w2 o1 b1
         have x2 : Below w1.heap.size w1 w2 := Below.trans (by first | exact below2 w1 _ | exact below3 w1 _) b1)
      | (refine step_appendN TI32 (by rfl) (.tmp 56) (.tmp 57) (by rfl) (by rfl) (by first | exact o1 | exact OwnV.drew o1) (by rfl) (by first | exact (Y1.out.pass x2).at_ | exact (Y1.out.pass x2.drew).at_) (i + m) rfl (by omega) (by have := x2.size; simp; omega) ?_
         intro A2 c2 w3 o2 b2
         have x3 : Below w1.heap.size w1 w3 := Below.trans (by first | exact x2 | exact x2.drew) b2)
      | (refine step_appendN TI32 (by rfl) (.tmp 58) (.tmp 61) (by rfl) (by rfl) (by first | exact o2 | exact OwnV.drew o2) (by rfl) (by first | exact (SL.out.pass x3).at_ | exact (SL.out.pass x3.drew).at_) (n + m) (by omega) (by omega) (by have := x3.size; simp; omega) ?_
         intro A3 c3 w4 o3 b3
         have x4 : Below w1.heap.size w1 w4 := Below.trans (by first | exact x3 | exact x3.drew) b3)))
    rw [show (xs.take i).drop 0 ++ ys ++ (xs.take n).drop i = putIn xs ys i by
      have et : xs.take n = xs := List.take_of_length_le (by rw [HLEN.out]; exact Nat.le_refl _)
      unfold putIn
      rw [List.drop_zero, et]] at o3
    have x5 := hb1.trans (x4.mono hb1.size)
    have X5 := Lib.hid x5
    have S5 := Lib.hid (o3.sliceIn (putIn_wf HX.out.wf HY.out.wf))
    clear o1 o2 b1 b2 b3 x2 x3 x4 hb1 rh rl
    go_wp2_with fail
    refine (pForms_any A n c xs _ (HX.out.pass x5) (HL.out.pass x5) (by omega)).mono ?_
    rintro e w6 ⟨A6, c6, rfl, o6, hb6⟩
    have x6 := x5.trans (hb6.mono x5.size)
    have X6 := Lib.hid x6
    have S6 := Lib.hid (S5.out.pass hb6)
    have O6 := Lib.hid o6
    clear hb6 o6 o3
    go_wp2_with fail
    refine (pForms_any A3 (n + m) c3 (putIn xs ys i) _ S6.out (HL.out.pass x6) (by omega)).mono ?_
    rintro e w7 ⟨A7, c7, rfl, o7, hb7⟩
    have x7 := x6.trans (hb7.mono x6.size)
    have X7 := Lib.hid x7
    have O7 := Lib.hid o7
    have O6' := Lib.hid (O6.out.pass hb7)
    clear hb7 o7 x5 x6
    go_wp2_with fail
    obtain ⟨Aa, ca, CA⟩ := cut_h TI36 A6 n c6 f (by omega) (OwnV.le O6.out) f rfl
    obtain ⟨Ab, cb, CB⟩ := cut_h TI36 A7 (n + m) c7 f (by omega) (OwnV.le O7.out) f rfl
    obtain ⟨Ac, cc, CC⟩ := cut_l TI36 A6 n c6 t (by omega) (OwnV.le O6.out) t rfl
    obtain ⟨Ad, cd, CD⟩ := cut_l TI36 A7 (n + m) c7 (t + m) (by omega) (OwnV.le O7.out) ((t : Int) + (m : Int)) (by omega)
    have ra := CA.run
    have rb := CB.run
    have rc := CC.run
    have rd := CD.run
    have e1 : ((((forms xs).take f).drop 0) == (((forms (putIn xs ys i)).take f).drop 0)) = true := by rw [PT.out]; simp
    have fl1 : (forms xs).length = n := by unfold forms; simp [HLEN.out]
    have fl2 : (forms (putIn xs ys i)).length = n + m := by unfold forms; simp; rw [putIn_len (by rw [HLEN.out]; exact hin), HLEN.out, HLENY.out]
    have pd := PD.out
    rw [HLENY.out] at pd
    have e2 : ((((forms xs).take n).drop t) == (((forms (putIn xs ys i)).take (n + m)).drop (t + m))) = true := by
      rw [List.take_of_length_le (by omega), List.take_of_length_le (by omega), pd]; simp
    have J1 := Lib.hid (fun N : Later w7 => ints02_any Aa Ab f f ca cb _ _ N.1 ((CA.at_ O6'.out.ints).later N.2) ((CB.at_ O7.out.ints).later N.2) (by omega) (by omega))
    have J2 := Lib.hid (fun N : Later w7 => ints02_any Ac Ad (n - t) (n + m - (t + m)) cc cd _ _ N.1 ((CC.at_ O6'.out.ints).later N.2) ((CD.at_ O7.out.ints).later N.2) (by omega) (by omega))
    have J3 := Lib.hid (fun N : Later w7 => alive36_any N.1 ((HL.out.pass X7.out).pass N.2))
    rw [e1] at J1
    rw [e2] at J2
    clear CA CB CC CD e1 e2 fl1 fl2 pd x7
    refine wp_region_later (by kernel_rfl) (by kernel_rfl) ?_
    repeat (go_big_quiet_step ((first | (go_at_call 26; with_reducible exact quiet_later (J1.out _)) | (go_at_call 26; with_reducible exact quiet_later (J2.out _)) | (go_at_call 23; with_reducible exact quiet_later (J3.out _)))))
    refine wpQuiet_nil ?_
    intro _ hw'
    obtain ⟨nq, hw''⟩ := hw'
    subst hw''
    go_wp2_with fail
    go_ret
    exact ⟨rfl, X7.out.trans (nq.2.mono X7.out.size)⟩
end Go.Proofs.YtajippjknikciaaDoor
