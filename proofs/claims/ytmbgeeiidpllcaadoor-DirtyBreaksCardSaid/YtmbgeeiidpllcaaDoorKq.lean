/- Chapter 19: the program's rules 7 to 12. -/
import Derived.Test.YtmbgeeiidpllcaaDoorKpo
namespace Go.Proofs.YtmbgeeiidpllcaaDoor
open Go.ChangeShapes Go.WideShapes Go.ChangeAt Go.RowKit
set_option maxRecDepth 100000
set_option linter.unusedSimpArgs false

def joinK (a b : Int) (heb : Bool) : Int := if joinQ a b heb = true then 0 else -1
def lastK (a b : Int) (odd : Bool) : Int := if lastB a b odd = true then 0 else 1
/-- while the two tests for letters are made -/
structure LI (w : World) (x y z : Value) (i a b oa ob s os : Int) (L : Nat → Bool) (v3 v4 v5 v6 v7 v8 v9 v10 v11 v12 : Value) (W : World) : Prop where
  sp : SpotI w W x y z i a b oa ob s os
  f0 : L 0 = true → v5 = .pointer (some ⟨w.heap.size, 4, none⟩)
  f1 : L 1 = true → v6 = .int .i64 a
  f2 : L 2 = true → ∃ g : Nat, v7 = .slice (some ⟨g, 0, none⟩) 2 2 ∧ IntsAt W W.heap.size .i64 (some ⟨g, 0, none⟩) 2 [0, 28]
  f3 : L 3 = true → v8 = .bool (inL [0, 28] a)
  f4 : L 4 = true → v9 = .pointer (some ⟨w.heap.size, 5, none⟩)
  f5 : L 5 = true → v10 = .int .i64 b
  f6 : L 6 = true → ∃ g : Nat, v11 = .slice (some ⟨g, 0, none⟩) 2 2 ∧ IntsAt W W.heap.size .i64 (some ⟨g, 0, none⟩) 2 [0, 28]
  f7 : L 7 = true → v12 = .bool (inL [0, 28] b)
  f8 : L 8 = true → v3 = .bool (inL [0, 28] a)
  f9 : L 9 = true → v4 = .bool (inL [0, 28] b)
theorem LI.alloc {w W : World} {x y z : Value} {i a b oa ob s os : Int} {L : Nat → Bool} {v3 v4 v5 v6 v7 v8 v9 v10 v11 v12 : Value} (h : LI w x y z i a b oa ob s os L v3 v4 v5 v6 v7 v8 v9 v10 v11 v12 W) (o : Obj) : LI w x y z i a b oa ob s os L v3 v4 v5 v6 v7 v8 v9 v10 v11 v12 (W.alloc o) :=
  { h with sp := h.sp.alloc o
           f2 := fun k => by obtain ⟨g, e, q⟩ := h.f2 k; exact ⟨g, e, q.later (below_alloc _ _)⟩
           f6 := fun k => by obtain ⟨g, e, q⟩ := h.f6 k; exact ⟨g, e, q.later (below_alloc _ _)⟩ }
set_option maxHeartbeats 16000000 in
theorem pjoin19_any (O C S : Option Addr) (n oc cc sc : Nat) (xs : List Int) (j : Nat) (hj : j + 1 < n) (a b oa ob s os : Int) (w : World) (hC : FnAt w C n (cls xs)) (hS : FnAt w S n fun i => (srcN xs i : Int)) (hn : n ≤ 4000) : Calls Tryd.prog 49 #[.agg #[.slice O n oc, .slice C n cc, .slice S n sc, .int .i64 ((j : Int) + 1), .int .i64 a, .int .i64 b, .int .i64 oa, .int .i64 ob, .int .i64 s, .int .i64 os]] w fun e w' => e = .returned (.int .i64 (joinK a b (hebN xs (j + 1)))) ∧ Below w.heap.size w w' := by
  have R0 : Shut (SpotI w (w.alloc (.cells #[.slice O n oc, .slice C n cc, .slice S n sc, .int .i64 ((j : Int) + 1), .int .i64 a, .int .i64 b, .int .i64 oa, .int .i64 ob, .int .i64 s, .int .i64 os] 61)) (.slice O n oc) (.slice C n cc) (.slice S n sc) ((j : Int) + 1) a b oa ob s os) := ⟨SpotI.new ..⟩
  have HB : Shut (∀ W, Below w.heap.size w W → Calls Tryd.prog 63 #[.agg #[.slice O n oc, .slice C n cc, .slice S n sc, .int .i64 ((j : Int) + 1), .int .i64 a, .int .i64 b, .int .i64 oa, .int .i64 ob, .int .i64 s, .int .i64 os]] W fun e w' => e = .returned (.bool (hebN xs (j + 1))) ∧ Below W.heap.size W w') := ⟨fun W hW => heb_any _ C S n cc sc xs j hj a b oa ob s os W (hC.pass hW) (hS.pass hW) hn⟩
  clear hC hS
  generalize hebN xs (j + 1) = heb at *
  go_enter Tryd.func49, Tryd.ntmps49
  go_upto_region 1 with fail
  go_cut [3, 4] (fun v3 v4 wx => v3 = .bool (inL [0, 28] a) ∧ v4 = .bool (inL [0, 28] b) ∧ Shut (SpotI w wx (.slice O n oc) (.slice C n cc) (.slice S n sc) ((j : Int) + 1) a b oa ob s os))
  case first =>
    refine wp_region_inv (by kernel_rfl) (by kernel_rfl) (fun L a' W => ∃ v3 v4 v5 v6 v7 v8 v9 v10 v11 v12 : Value, LI w (.slice O n oc) (.slice C n cc) (.slice S n sc) ((j : Int) + 1) a b oa ob s os L v3 v4 v5 v6 v7 v8 v9 v10 v11 v12 W ∧ a' = ⟨#[.agg #[.slice O n oc, .slice C n cc, .slice S n sc, .int .i64 ((j : Int) + 1), .int .i64 a, .int .i64 b, .int .i64 oa, .int .i64 ob, .int .i64 s, .int .i64 os], .pointer (some ⟨w.heap.size, 0, none⟩), .int .i64 0, v3, v4, v5, v6, v7, v8, v9, v10, v11, v12, undef, undef, undef, undef, undef, undef, undef, undef, undef, undef, undef, undef, undef, undef, undef, undef, undef, undef, undef, undef, undef, undef, undef, undef, undef, undef, undef, undef, undef, undef, undef, undef, undef, undef, undef, undef, undef, undef, undef, undef, undef, undef, undef, undef, undef, undef, undef, undef, undef, undef, undef, undef, undef, undef, undef, undef, undef, undef, undef, undef, undef, undef, undef, undef, undef, undef, undef, undef, undef, undef, undef, undef, undef, undef, undef, undef, undef, undef, undef, undef, undef, undef, undef, undef, undef, undef, undef, undef, undef, undef, undef, undef, undef, undef, undef, undef, undef, undef, undef, undef, undef, undef, undef, undef, undef, undef, undef, undef], []⟩) ?_ ?_ ?_
    · exact ⟨undef, undef, undef, undef, undef, undef, undef, undef, undef, undef, { sp := R0.out.drew, f0 := fun h => (by cases h), f1 := fun h => (by cases h), f2 := fun h => (by cases h), f3 := fun h => (by cases h), f4 := fun h => (by cases h), f5 := fun h => (by cases h), f6 := fun h => (by cases h), f7 := fun h => (by cases h), f8 := fun h => (by cases h), f9 := fun h => (by cases h) }, rfl⟩
    · rintro q o L a' W ho hLi hpre ⟨v3, v4, v5, v6, v7, v8, v9, v10, v11, v12, hI, rfl⟩
      have hi : q < 10 := by
        have := (Array.getElem?_eq_some_iff.1 ho).1
        simpa using this
      have hcs : q = 0 ∨ q = 1 ∨ q = 2 ∨ q = 3 ∨ q = 4 ∨ q = 5 ∨ q = 6 ∨ q = 7 ∨ q = 8 ∨ q = 9 := by omega
      rcases hcs with rfl | rfl | rfl | rfl | rfl | rfl | rfl | rfl | rfl | rfl
      all_goals (injection ho with ho; subst ho)
      all_goals (simp [Region.binds] at hpre)
      · refine wpOp_step rfl (fun K hK => ?_)
        go_simp
        exact hK _ _ ⟨v3, v4, .pointer (some ⟨w.heap.size, 4, none⟩), v6, v7, v8, v9, v10, v11, v12, { hI with f0 := fun _ => rfl }, rfl⟩
      · obtain rfl := hI.f0 hpre
        have q1 := hI.sp.c4
        refine wpOp_step rfl (fun K hK => ?_)
        go_simp
        exact hK _ _ ⟨v3, v4, .pointer (some ⟨w.heap.size, 4, none⟩), .int .i64 a, v7, v8, v9, v10, v11, v12, { hI with f1 := fun _ => rfl }, rfl⟩
      · refine wpOp_step rfl (fun K hK => ?_)
        go_simp
        exact hK _ _ ⟨v3, v4, v5, v6, .slice (some ⟨W.heap.size, 0, none⟩) 2 2, v8, v9, v10, v11, v12, { hI.alloc _ with f2 := fun _ => ⟨_, rfl, lit19 [0, 28] 2 rfl (by omega) (wfs _ (by decide)) _ rfl W _⟩ }, rfl⟩
      · obtain rfl := hI.f1 hpre.1
        obtain ⟨g, rfl, hg⟩ := hI.f2 hpre.2
        refine wpOp_step rfl (fun K hK => ?_)
        go_simp
        refine (among_any _ _ _ [0, 28] _ _ hg (by omega)).mono ?_
        rintro e w' ⟨rfl, rfl⟩
        exact hK _ _ ⟨v3, v4, v5, .int .i64 a, .slice (some ⟨g, 0, none⟩) 2 2, .bool (inL [0, 28] a), v9, v10, v11, v12, { hI with f3 := fun _ => rfl }, rfl⟩
      · refine wpOp_step rfl (fun K hK => ?_)
        go_simp
        exact hK _ _ ⟨v3, v4, v5, v6, v7, v8, .pointer (some ⟨w.heap.size, 5, none⟩), v10, v11, v12, { hI with f4 := fun _ => rfl }, rfl⟩
      · obtain rfl := hI.f4 hpre
        have q1 := hI.sp.c5
        refine wpOp_step rfl (fun K hK => ?_)
        go_simp
        exact hK _ _ ⟨v3, v4, v5, v6, v7, v8, .pointer (some ⟨w.heap.size, 5, none⟩), .int .i64 b, v11, v12, { hI with f5 := fun _ => rfl }, rfl⟩
      · refine wpOp_step rfl (fun K hK => ?_)
        go_simp
        exact hK _ _ ⟨v3, v4, v5, v6, v7, v8, v9, v10, .slice (some ⟨W.heap.size, 0, none⟩) 2 2, v12, { hI.alloc _ with f6 := fun _ => ⟨_, rfl, lit19 [0, 28] 2 rfl (by omega) (wfs _ (by decide)) _ rfl W _⟩ }, rfl⟩
      · obtain rfl := hI.f5 hpre.1
        obtain ⟨g, rfl, hg⟩ := hI.f6 hpre.2.1
        refine wpOp_step rfl (fun K hK => ?_)
        go_simp
        refine (among_any _ _ _ [0, 28] _ _ hg (by omega)).mono ?_
        rintro e w' ⟨rfl, rfl⟩
        exact hK _ _ ⟨v3, v4, v5, v6, v7, v8, v9, .int .i64 b, .slice (some ⟨g, 0, none⟩) 2 2, .bool (inL [0, 28] b), { hI with f7 := fun _ => rfl }, rfl⟩
      · obtain rfl := hI.f3 hpre.1
        refine wpOp_step rfl (fun K hK => ?_)
        go_simp
        exact hK _ _ ⟨.bool (inL [0, 28] a), v4, v5, v6, v7, .bool (inL [0, 28] a), v9, v10, v11, v12, { hI with f8 := fun _ => rfl }, rfl⟩
      · obtain rfl := hI.f7 hpre.1
        refine wpOp_step rfl (fun K hK => ?_)
        go_simp
        exact hK _ _ ⟨v3, .bool (inL [0, 28] b), v5, v6, v7, v8, v9, v10, v11, .bool (inL [0, 28] b), { hI with f9 := fun _ => rfl }, rfl⟩
    · rintro L a' W hall ⟨v3, v4, v5, v6, v7, v8, v9, v10, v11, v12, hI, rfl⟩
      have l8 := hall 8 (by simp)
      have l9 := hall 9 (by simp)
      clear hall
      obtain rfl := hI.f8 l8
      obtain rfl := hI.f9 l9
      have RR : Shut _ := ⟨hI.sp⟩
      clear hI
      go_step
      go_step
      go_meet
      exact ⟨rfl, rfl, RR⟩
  case rest =>
    obtain ⟨rfl, rfl, RL⟩ := hcut
    go_upto_region 2 with fail
    go_cut [13] (fun v wx => v = .bool (inL [10, 12, 17] b) ∧ Shut (SpotI w wx (.slice O n oc) (.slice C n cc) (.slice S n sc) ((j : Int) + 1) a b oa ob s os))
    case first =>
      have p5 := RL.out.c5
      have y5 : ∀ o, _ := fun o => (RL.out.alloc o).c5
      all_goals go_wp2_with (first
        | (go_at_call 45; (with_reducible refine (among_lit2 _ _ (by omega) (by omega) _ _ _ _ (by simp)).mono ?_); rintro e w' ⟨rfl, rfl⟩)
        | (go_at_call 45; (with_reducible refine (among_lit3 _ _ _ (by omega) (by omega) (by omega) _ _ _ _ (by simp)).mono ?_); rintro e w' ⟨rfl, rfl⟩)
        | (go_at_call 45; (with_reducible refine (among_lit4 _ _ _ _ (by omega) (by omega) (by omega) (by omega) _ _ _ _ (by simp)).mono ?_); rintro e w' ⟨rfl, rfl⟩)
        | (go_at_call 45; (with_reducible refine (among_lit5 _ _ _ _ _ (by omega) (by omega) (by omega) (by omega) (by omega) _ _ _ _ (by simp)).mono ?_); rintro e w' ⟨rfl, rfl⟩)
        | (go_at_call 63; with_reducible refine (HB.out _ (RL.out.alloc _).be).mono ?_; rintro e w9 ⟨rfl, b9⟩; have RS : Shut _ := ⟨(RL.out.alloc _).pass b9⟩; clear b9)
        | fail)
      all_goals go_meet
      all_goals exact ⟨boolv (by first | (simp_all; done) | (simp only [bne, *]; done) | simp [bne, *]), ⟨by first | sp RS | sp RL⟩⟩
    case rest =>
      obtain ⟨rfl, R1⟩ := hcut
      cases hb : (inL [10, 12, 17] b) with
      | true =>
        have H1 : Shut _ := ⟨hb⟩
        clear hb
        go_wp2_with fail
        go_ret
        exact ⟨intv (by unfold joinK joinQ; simp only [alI, show (25 : Int) + 1 = 26 from rfl, H1.out]; simp), R1.out.be⟩
      | false =>
        have H1 : Shut _ := ⟨hb⟩
        clear hb
        go_upto_region 3 with fail
        go_cut [13] (fun v wx => v = .bool (a == 11) ∧ Shut (SpotI w wx (.slice O n oc) (.slice C n cc) (.slice S n sc) ((j : Int) + 1) a b oa ob s os))
        case first =>
          have p4 := R1.out.c4
          have y4 : ∀ o, _ := fun o => (R1.out.alloc o).c4
          cases q0 : (a == 11)
          all_goals go_wp2_with (first
            | (go_at_call 45; (with_reducible refine (among_lit2 _ _ (by omega) (by omega) _ _ _ _ (by simp)).mono ?_); rintro e w' ⟨rfl, rfl⟩)
            | (go_at_call 45; (with_reducible refine (among_lit3 _ _ _ (by omega) (by omega) (by omega) _ _ _ _ (by simp)).mono ?_); rintro e w' ⟨rfl, rfl⟩)
            | (go_at_call 45; (with_reducible refine (among_lit4 _ _ _ _ (by omega) (by omega) (by omega) (by omega) _ _ _ _ (by simp)).mono ?_); rintro e w' ⟨rfl, rfl⟩)
            | (go_at_call 45; (with_reducible refine (among_lit5 _ _ _ _ _ (by omega) (by omega) (by omega) (by omega) (by omega) _ _ _ _ (by simp)).mono ?_); rintro e w' ⟨rfl, rfl⟩)
            | (go_at_call 63; with_reducible refine (HB.out _ (R1.out.alloc _).be).mono ?_; rintro e w9 ⟨rfl, b9⟩; have RS : Shut _ := ⟨(R1.out.alloc _).pass b9⟩; clear b9)
            | fail)
          all_goals go_meet
          all_goals exact ⟨boolv (by first | (simp_all; done) | (simp only [bne, *]; done) | simp [bne, *]), ⟨by first | sp RS | sp R1⟩⟩
        case rest =>
          obtain ⟨rfl, R2⟩ := hcut
          cases hb : (a == 11) with
          | true =>
            have H2 : Shut _ := ⟨hb⟩
            clear hb
            go_wp2_with fail
            go_ret
            exact ⟨intv (by unfold joinK joinQ; simp only [alI, show (25 : Int) + 1 = 26 from rfl, H1.out, H2.out]; simp), R2.out.be⟩
          | false =>
            have H2 : Shut _ := ⟨hb⟩
            clear hb
            go_upto_region 5 with fail
            go_cut [21] (fun v wx => v = .bool (inL [12, 10] a && heb) ∧ Shut (SpotI w wx (.slice O n oc) (.slice C n cc) (.slice S n sc) ((j : Int) + 1) a b oa ob s os))
            case first =>
              have p0 := R2.out.c0
              have y0 : ∀ o, _ := fun o => (R2.out.alloc o).c0
              have p1 := R2.out.c1
              have y1 : ∀ o, _ := fun o => (R2.out.alloc o).c1
              have p2 := R2.out.c2
              have y2 : ∀ o, _ := fun o => (R2.out.alloc o).c2
              have p3 := R2.out.c3
              have y3 : ∀ o, _ := fun o => (R2.out.alloc o).c3
              have p4 := R2.out.c4
              have y4 : ∀ o, _ := fun o => (R2.out.alloc o).c4
              have p5 := R2.out.c5
              have y5 : ∀ o, _ := fun o => (R2.out.alloc o).c5
              have p6 := R2.out.c6
              have y6 : ∀ o, _ := fun o => (R2.out.alloc o).c6
              have p7 := R2.out.c7
              have y7 : ∀ o, _ := fun o => (R2.out.alloc o).c7
              have p8 := R2.out.c8
              have y8 : ∀ o, _ := fun o => (R2.out.alloc o).c8
              have p9 := R2.out.c9
              have y9 : ∀ o, _ := fun o => (R2.out.alloc o).c9
              all_goals go_wp2_with (first
                | (go_at_call 45; (with_reducible refine (among_lit2 _ _ (by omega) (by omega) _ _ _ _ (by simp)).mono ?_); rintro e w' ⟨rfl, rfl⟩)
                | (go_at_call 45; (with_reducible refine (among_lit3 _ _ _ (by omega) (by omega) (by omega) _ _ _ _ (by simp)).mono ?_); rintro e w' ⟨rfl, rfl⟩)
                | (go_at_call 45; (with_reducible refine (among_lit4 _ _ _ _ (by omega) (by omega) (by omega) (by omega) _ _ _ _ (by simp)).mono ?_); rintro e w' ⟨rfl, rfl⟩)
                | (go_at_call 45; (with_reducible refine (among_lit5 _ _ _ _ _ (by omega) (by omega) (by omega) (by omega) (by omega) _ _ _ _ (by simp)).mono ?_); rintro e w' ⟨rfl, rfl⟩)
                | (go_at_call 63; with_reducible refine (HB.out _ (R2.out.alloc _).be).mono ?_; rintro e w9 ⟨rfl, b9⟩; have RS : Shut _ := ⟨(R2.out.alloc _).pass b9⟩; clear b9)
                | fail)
              all_goals go_meet
              all_goals exact ⟨boolv (by first | (simp_all; done) | (simp only [bne, *]; done) | simp [bne, *]), ⟨by first | sp RS | sp R2⟩⟩
            case rest =>
              obtain ⟨rfl, R3⟩ := hcut
              cases hb : (inL [12, 10] a && heb) with
              | true =>
                have H3 : Shut _ := ⟨hb⟩
                clear hb
                go_wp2_with fail
                go_ret
                exact ⟨intv (by unfold joinK joinQ; simp only [alI, show (25 : Int) + 1 = 26 from rfl, H1.out, H2.out, H3.out]; simp), R3.out.be⟩
              | false =>
                have H3 : Shut _ := ⟨hb⟩
                clear hb
                go_upto_region 7 with fail
                go_cut [30] (fun v wx => v = .bool (a == 24 && b == 28) ∧ Shut (SpotI w wx (.slice O n oc) (.slice C n cc) (.slice S n sc) ((j : Int) + 1) a b oa ob s os))
                case first =>
                  have p4 := R3.out.c4
                  have y4 : ∀ o, _ := fun o => (R3.out.alloc o).c4
                  have p5 := R3.out.c5
                  have y5 : ∀ o, _ := fun o => (R3.out.alloc o).c5
                  cases q0 : (a == 24)
                  all_goals cases q1 : (b == 28)
                  all_goals go_wp2_with (first
                    | (go_at_call 45; (with_reducible refine (among_lit2 _ _ (by omega) (by omega) _ _ _ _ (by simp)).mono ?_); rintro e w' ⟨rfl, rfl⟩)
                    | (go_at_call 45; (with_reducible refine (among_lit3 _ _ _ (by omega) (by omega) (by omega) _ _ _ _ (by simp)).mono ?_); rintro e w' ⟨rfl, rfl⟩)
                    | (go_at_call 45; (with_reducible refine (among_lit4 _ _ _ _ (by omega) (by omega) (by omega) (by omega) _ _ _ _ (by simp)).mono ?_); rintro e w' ⟨rfl, rfl⟩)
                    | (go_at_call 45; (with_reducible refine (among_lit5 _ _ _ _ _ (by omega) (by omega) (by omega) (by omega) (by omega) _ _ _ _ (by simp)).mono ?_); rintro e w' ⟨rfl, rfl⟩)
                    | (go_at_call 63; with_reducible refine (HB.out _ (R3.out.alloc _).be).mono ?_; rintro e w9 ⟨rfl, b9⟩; have RS : Shut _ := ⟨(R3.out.alloc _).pass b9⟩; clear b9)
                    | fail)
                  all_goals go_meet
                  all_goals exact ⟨boolv (by first | (simp_all; done) | (simp only [bne, *]; done) | simp [bne, *]), ⟨by first | sp RS | sp R3⟩⟩
                case rest =>
                  obtain ⟨rfl, R4⟩ := hcut
                  cases hb : (a == 24 && b == 28) with
                  | true =>
                    have H4 : Shut _ := ⟨hb⟩
                    clear hb
                    go_wp2_with fail
                    go_ret
                    exact ⟨intv (by unfold joinK joinQ; simp only [alI, show (25 : Int) + 1 = 26 from rfl, H1.out, H2.out, H3.out, H4.out]; simp), R4.out.be⟩
                  | false =>
                    have H4 : Shut _ := ⟨hb⟩
                    clear hb
                    go_upto_region 8 with fail
                    go_cut [30] (fun v wx => v = .bool (b == 16) ∧ Shut (SpotI w wx (.slice O n oc) (.slice C n cc) (.slice S n sc) ((j : Int) + 1) a b oa ob s os))
                    case first =>
                      have p5 := R4.out.c5
                      have y5 : ∀ o, _ := fun o => (R4.out.alloc o).c5
                      cases q0 : (b == 16)
                      all_goals go_wp2_with (first
                        | (go_at_call 45; (with_reducible refine (among_lit2 _ _ (by omega) (by omega) _ _ _ _ (by simp)).mono ?_); rintro e w' ⟨rfl, rfl⟩)
                        | (go_at_call 45; (with_reducible refine (among_lit3 _ _ _ (by omega) (by omega) (by omega) _ _ _ _ (by simp)).mono ?_); rintro e w' ⟨rfl, rfl⟩)
                        | (go_at_call 45; (with_reducible refine (among_lit4 _ _ _ _ (by omega) (by omega) (by omega) (by omega) _ _ _ _ (by simp)).mono ?_); rintro e w' ⟨rfl, rfl⟩)
                        | (go_at_call 45; (with_reducible refine (among_lit5 _ _ _ _ _ (by omega) (by omega) (by omega) (by omega) (by omega) _ _ _ _ (by simp)).mono ?_); rintro e w' ⟨rfl, rfl⟩)
                        | (go_at_call 63; with_reducible refine (HB.out _ (R4.out.alloc _).be).mono ?_; rintro e w9 ⟨rfl, b9⟩; have RS : Shut _ := ⟨(R4.out.alloc _).pass b9⟩; clear b9)
                        | fail)
                      all_goals go_meet
                      all_goals exact ⟨boolv (by first | (simp_all; done) | (simp only [bne, *]; done) | simp [bne, *]), ⟨by first | sp RS | sp R4⟩⟩
                    case rest =>
                      obtain ⟨rfl, R5⟩ := hcut
                      cases hb : (b == 16) with
                      | true =>
                        have H5 : Shut _ := ⟨hb⟩
                        clear hb
                        go_wp2_with fail
                        go_ret
                        exact ⟨intv (by unfold joinK joinQ; simp only [alI, show (25 : Int) + 1 = 26 from rfl, H1.out, H2.out, H3.out, H4.out, H5.out]; simp), R5.out.be⟩
                      | false =>
                        have H5 : Shut _ := ⟨hb⟩
                        clear hb
                        go_upto_region 10 with fail
                        go_cut [3, 4, 42] (fun k3 k4 v wx => k3 = .bool (inL [0, 28] a) ∧ k4 = .bool (inL [0, 28] b) ∧ v = .bool (inL [0, 28] a && b == 21) ∧ Shut (SpotI w wx (.slice O n oc) (.slice C n cc) (.slice S n sc) ((j : Int) + 1) a b oa ob s os))
                        case first =>
                          have p4 := R5.out.c4
                          have y4 : ∀ o, _ := fun o => (R5.out.alloc o).c4
                          have p5 := R5.out.c5
                          have y5 : ∀ o, _ := fun o => (R5.out.alloc o).c5
                          cases q0 : (b == 21)
                          all_goals go_wp2_with (first
                            | (go_at_call 45; (with_reducible refine (among_lit2 _ _ (by omega) (by omega) _ _ _ _ (by simp)).mono ?_); rintro e w' ⟨rfl, rfl⟩)
                            | (go_at_call 45; (with_reducible refine (among_lit3 _ _ _ (by omega) (by omega) (by omega) _ _ _ _ (by simp)).mono ?_); rintro e w' ⟨rfl, rfl⟩)
                            | (go_at_call 45; (with_reducible refine (among_lit4 _ _ _ _ (by omega) (by omega) (by omega) (by omega) _ _ _ _ (by simp)).mono ?_); rintro e w' ⟨rfl, rfl⟩)
                            | (go_at_call 45; (with_reducible refine (among_lit5 _ _ _ _ _ (by omega) (by omega) (by omega) (by omega) (by omega) _ _ _ _ (by simp)).mono ?_); rintro e w' ⟨rfl, rfl⟩)
                            | (go_at_call 63; with_reducible refine (HB.out _ (R5.out.alloc _).be).mono ?_; rintro e w9 ⟨rfl, b9⟩; have RS : Shut _ := ⟨(R5.out.alloc _).pass b9⟩; clear b9)
                            | fail)
                          all_goals go_meet
                          all_goals exact ⟨boolv (by first | (simp_all; done) | (simp only [bne, *]; done) | simp [bne, *]), boolv (by first | (simp_all; done) | (simp only [bne, *]; done) | simp [bne, *]), boolv (by first | (simp_all; done) | (simp only [bne, *]; done) | simp [bne, *]), ⟨by first | sp RS | sp R5⟩⟩
                        case rest =>
                          obtain ⟨rfl, rfl, rfl, R6⟩ := hcut
                          cases hb : (inL [0, 28] a && b == 21) with
                          | true =>
                            have H6 : Shut _ := ⟨hb⟩
                            clear hb
                            go_wp2_with fail
                            go_ret
                            exact ⟨intv (by unfold joinK joinQ; simp only [alI, show (25 : Int) + 1 = 26 from rfl, H1.out, H2.out, H3.out, H4.out, H5.out, H6.out]; simp), R6.out.be⟩
                          | false =>
                            have H6 : Shut _ := ⟨hb⟩
                            clear hb
                            go_upto_region 11 with fail
                            go_cut [3, 4, 42] (fun k3 k4 v wx => k3 = .bool (inL [0, 28] a) ∧ k4 = .bool (inL [0, 28] b) ∧ v = .bool (a == 21 && inL [0, 28] b) ∧ Shut (SpotI w wx (.slice O n oc) (.slice C n cc) (.slice S n sc) ((j : Int) + 1) a b oa ob s os))
                            case first =>
                              have p4 := R6.out.c4
                              have y4 : ∀ o, _ := fun o => (R6.out.alloc o).c4
                              have p5 := R6.out.c5
                              have y5 : ∀ o, _ := fun o => (R6.out.alloc o).c5
                              cases q0 : (a == 21)
                              all_goals go_wp2_with (first
                                | (go_at_call 45; (with_reducible refine (among_lit2 _ _ (by omega) (by omega) _ _ _ _ (by simp)).mono ?_); rintro e w' ⟨rfl, rfl⟩)
                                | (go_at_call 45; (with_reducible refine (among_lit3 _ _ _ (by omega) (by omega) (by omega) _ _ _ _ (by simp)).mono ?_); rintro e w' ⟨rfl, rfl⟩)
                                | (go_at_call 45; (with_reducible refine (among_lit4 _ _ _ _ (by omega) (by omega) (by omega) (by omega) _ _ _ _ (by simp)).mono ?_); rintro e w' ⟨rfl, rfl⟩)
                                | (go_at_call 45; (with_reducible refine (among_lit5 _ _ _ _ _ (by omega) (by omega) (by omega) (by omega) (by omega) _ _ _ _ (by simp)).mono ?_); rintro e w' ⟨rfl, rfl⟩)
                                | (go_at_call 63; with_reducible refine (HB.out _ (R6.out.alloc _).be).mono ?_; rintro e w9 ⟨rfl, b9⟩; have RS : Shut _ := ⟨(R6.out.alloc _).pass b9⟩; clear b9)
                                | fail)
                              all_goals go_meet
                              all_goals exact ⟨boolv (by first | (simp_all; done) | (simp only [bne, *]; done) | simp [bne, *]), boolv (by first | (simp_all; done) | (simp only [bne, *]; done) | simp [bne, *]), boolv (by first | (simp_all; done) | (simp only [bne, *]; done) | simp [bne, *]), ⟨by first | sp RS | sp R6⟩⟩
                            case rest =>
                              obtain ⟨rfl, rfl, rfl, R7⟩ := hcut
                              cases hb : (a == 21 && inL [0, 28] b) with
                              | true =>
                                have H7 : Shut _ := ⟨hb⟩
                                clear hb
                                go_wp2_with fail
                                go_ret
                                exact ⟨intv (by unfold joinK joinQ; simp only [alI, show (25 : Int) + 1 = 26 from rfl, H1.out, H2.out, H3.out, H4.out, H5.out, H6.out, H7.out]; simp), R7.out.be⟩
                              | false =>
                                have H7 : Shut _ := ⟨hb⟩
                                clear hb
                                go_upto_region 13 with fail
                                go_cut [55] (fun v wx => v = .bool (a == 23 && inL [25, 26, 27] b) ∧ Shut (SpotI w wx (.slice O n oc) (.slice C n cc) (.slice S n sc) ((j : Int) + 1) a b oa ob s os))
                                case first =>
                                  have p4 := R7.out.c4
                                  have y4 : ∀ o, _ := fun o => (R7.out.alloc o).c4
                                  have p5 := R7.out.c5
                                  have y5 : ∀ o, _ := fun o => (R7.out.alloc o).c5
                                  cases q0 : (a == 23)
                                  all_goals go_wp2_with (first
                                    | (go_at_call 45; (with_reducible refine (among_lit2 _ _ (by omega) (by omega) _ _ _ _ (by simp)).mono ?_); rintro e w' ⟨rfl, rfl⟩)
                                    | (go_at_call 45; (with_reducible refine (among_lit3 _ _ _ (by omega) (by omega) (by omega) _ _ _ _ (by simp)).mono ?_); rintro e w' ⟨rfl, rfl⟩)
                                    | (go_at_call 45; (with_reducible refine (among_lit4 _ _ _ _ (by omega) (by omega) (by omega) (by omega) _ _ _ _ (by simp)).mono ?_); rintro e w' ⟨rfl, rfl⟩)
                                    | (go_at_call 45; (with_reducible refine (among_lit5 _ _ _ _ _ (by omega) (by omega) (by omega) (by omega) (by omega) _ _ _ _ (by simp)).mono ?_); rintro e w' ⟨rfl, rfl⟩)
                                    | (go_at_call 63; with_reducible refine (HB.out _ (R7.out.alloc _).be).mono ?_; rintro e w9 ⟨rfl, b9⟩; have RS : Shut _ := ⟨(R7.out.alloc _).pass b9⟩; clear b9)
                                    | fail)
                                  all_goals go_meet
                                  all_goals exact ⟨boolv (by first | (simp_all; done) | (simp only [bne, *]; done) | simp [bne, *]), ⟨by first | sp RS | sp R7⟩⟩
                                case rest =>
                                  obtain ⟨rfl, R8⟩ := hcut
                                  cases hb : (a == 23 && inL [25, 26, 27] b) with
                                  | true =>
                                    have H8 : Shut _ := ⟨hb⟩
                                    clear hb
                                    go_wp2_with fail
                                    go_ret
                                    exact ⟨intv (by unfold joinK joinQ; simp only [alI, show (25 : Int) + 1 = 26 from rfl, H1.out, H2.out, H3.out, H4.out, H5.out, H6.out, H7.out, H8.out]; simp), R8.out.be⟩
                                  | false =>
                                    have H8 : Shut _ := ⟨hb⟩
                                    clear hb
                                    go_upto_region 14 with fail
                                    go_cut [55] (fun v wx => v = .bool (inL [25, 26, 27] a && b == 22) ∧ Shut (SpotI w wx (.slice O n oc) (.slice C n cc) (.slice S n sc) ((j : Int) + 1) a b oa ob s os))
                                    case first =>
                                      have p4 := R8.out.c4
                                      have y4 : ∀ o, _ := fun o => (R8.out.alloc o).c4
                                      have p5 := R8.out.c5
                                      have y5 : ∀ o, _ := fun o => (R8.out.alloc o).c5
                                      cases q0 : (b == 22)
                                      all_goals go_wp2_with (first
                                        | (go_at_call 45; (with_reducible refine (among_lit2 _ _ (by omega) (by omega) _ _ _ _ (by simp)).mono ?_); rintro e w' ⟨rfl, rfl⟩)
                                        | (go_at_call 45; (with_reducible refine (among_lit3 _ _ _ (by omega) (by omega) (by omega) _ _ _ _ (by simp)).mono ?_); rintro e w' ⟨rfl, rfl⟩)
                                        | (go_at_call 45; (with_reducible refine (among_lit4 _ _ _ _ (by omega) (by omega) (by omega) (by omega) _ _ _ _ (by simp)).mono ?_); rintro e w' ⟨rfl, rfl⟩)
                                        | (go_at_call 45; (with_reducible refine (among_lit5 _ _ _ _ _ (by omega) (by omega) (by omega) (by omega) (by omega) _ _ _ _ (by simp)).mono ?_); rintro e w' ⟨rfl, rfl⟩)
                                        | (go_at_call 63; with_reducible refine (HB.out _ (R8.out.alloc _).be).mono ?_; rintro e w9 ⟨rfl, b9⟩; have RS : Shut _ := ⟨(R8.out.alloc _).pass b9⟩; clear b9)
                                        | fail)
                                      all_goals go_meet
                                      all_goals exact ⟨boolv (by first | (simp_all; done) | (simp only [bne, *]; done) | simp [bne, *]), ⟨by first | sp RS | sp R8⟩⟩
                                    case rest =>
                                      obtain ⟨rfl, R9⟩ := hcut
                                      cases hb : (inL [25, 26, 27] a && b == 22) with
                                      | true =>
                                        have H9 : Shut _ := ⟨hb⟩
                                        clear hb
                                        go_wp2_with fail
                                        go_ret
                                        exact ⟨intv (by unfold joinK joinQ; simp only [alI, show (25 : Int) + 1 = 26 from rfl, H1.out, H2.out, H3.out, H4.out, H5.out, H6.out, H7.out, H8.out, H9.out]; simp), R9.out.be⟩
                                      | false =>
                                        have H9 : Shut _ := ⟨hb⟩
                                        clear hb
                                        go_upto_region 16 with fail
                                        go_cut [3, 4, 74] (fun k3 k4 v wx => k3 = .bool (inL [0, 28] a) ∧ k4 = .bool (inL [0, 28] b) ∧ v = .bool (inL [23, 22] a && inL [0, 28] b) ∧ Shut (SpotI w wx (.slice O n oc) (.slice C n cc) (.slice S n sc) ((j : Int) + 1) a b oa ob s os))
                                        case first =>
                                          have p4 := R9.out.c4
                                          have y4 : ∀ o, _ := fun o => (R9.out.alloc o).c4
                                          have p5 := R9.out.c5
                                          have y5 : ∀ o, _ := fun o => (R9.out.alloc o).c5
                                          all_goals go_wp2_with (first
                                            | (go_at_call 45; (with_reducible refine (among_lit2 _ _ (by omega) (by omega) _ _ _ _ (by simp)).mono ?_); rintro e w' ⟨rfl, rfl⟩)
                                            | (go_at_call 45; (with_reducible refine (among_lit3 _ _ _ (by omega) (by omega) (by omega) _ _ _ _ (by simp)).mono ?_); rintro e w' ⟨rfl, rfl⟩)
                                            | (go_at_call 45; (with_reducible refine (among_lit4 _ _ _ _ (by omega) (by omega) (by omega) (by omega) _ _ _ _ (by simp)).mono ?_); rintro e w' ⟨rfl, rfl⟩)
                                            | (go_at_call 45; (with_reducible refine (among_lit5 _ _ _ _ _ (by omega) (by omega) (by omega) (by omega) (by omega) _ _ _ _ (by simp)).mono ?_); rintro e w' ⟨rfl, rfl⟩)
                                            | (go_at_call 63; with_reducible refine (HB.out _ (R9.out.alloc _).be).mono ?_; rintro e w9 ⟨rfl, b9⟩; have RS : Shut _ := ⟨(R9.out.alloc _).pass b9⟩; clear b9)
                                            | fail)
                                          all_goals go_meet
                                          all_goals exact ⟨boolv (by first | (simp_all; done) | (simp only [bne, *]; done) | simp [bne, *]), boolv (by first | (simp_all; done) | (simp only [bne, *]; done) | simp [bne, *]), boolv (by first | (simp_all; done) | (simp only [bne, *]; done) | simp [bne, *]), ⟨by first | sp RS | sp R9⟩⟩
                                        case rest =>
                                          obtain ⟨rfl, rfl, rfl, R10⟩ := hcut
                                          cases hb : (inL [23, 22] a && inL [0, 28] b) with
                                          | true =>
                                            have H10 : Shut _ := ⟨hb⟩
                                            clear hb
                                            go_wp2_with fail
                                            go_ret
                                            exact ⟨intv (by unfold joinK joinQ; simp only [alI, show (25 : Int) + 1 = 26 from rfl, H1.out, H2.out, H3.out, H4.out, H5.out, H6.out, H7.out, H8.out, H9.out, H10.out]; simp), R10.out.be⟩
                                          | false =>
                                            have H10 : Shut _ := ⟨hb⟩
                                            clear hb
                                            go_upto_region 17 with fail
                                            go_cut [3, 4, 74] (fun k3 k4 v wx => k3 = .bool (inL [0, 28] a) ∧ k4 = .bool (inL [0, 28] b) ∧ v = .bool (inL [0, 28] a && inL [23, 22] b) ∧ Shut (SpotI w wx (.slice O n oc) (.slice C n cc) (.slice S n sc) ((j : Int) + 1) a b oa ob s os))
                                            case first =>
                                              have p4 := R10.out.c4
                                              have y4 : ∀ o, _ := fun o => (R10.out.alloc o).c4
                                              have p5 := R10.out.c5
                                              have y5 : ∀ o, _ := fun o => (R10.out.alloc o).c5
                                              all_goals go_wp2_with (first
                                                | (go_at_call 45; (with_reducible refine (among_lit2 _ _ (by omega) (by omega) _ _ _ _ (by simp)).mono ?_); rintro e w' ⟨rfl, rfl⟩)
                                                | (go_at_call 45; (with_reducible refine (among_lit3 _ _ _ (by omega) (by omega) (by omega) _ _ _ _ (by simp)).mono ?_); rintro e w' ⟨rfl, rfl⟩)
                                                | (go_at_call 45; (with_reducible refine (among_lit4 _ _ _ _ (by omega) (by omega) (by omega) (by omega) _ _ _ _ (by simp)).mono ?_); rintro e w' ⟨rfl, rfl⟩)
                                                | (go_at_call 45; (with_reducible refine (among_lit5 _ _ _ _ _ (by omega) (by omega) (by omega) (by omega) (by omega) _ _ _ _ (by simp)).mono ?_); rintro e w' ⟨rfl, rfl⟩)
                                                | (go_at_call 63; with_reducible refine (HB.out _ (R10.out.alloc _).be).mono ?_; rintro e w9 ⟨rfl, b9⟩; have RS : Shut _ := ⟨(R10.out.alloc _).pass b9⟩; clear b9)
                                                | fail)
                                              all_goals go_meet
                                              all_goals exact ⟨boolv (by first | (simp_all; done) | (simp only [bne, *]; done) | simp [bne, *]), boolv (by first | (simp_all; done) | (simp only [bne, *]; done) | simp [bne, *]), boolv (by first | (simp_all; done) | (simp only [bne, *]; done) | simp [bne, *]), ⟨by first | sp RS | sp R10⟩⟩
                                            case rest =>
                                              obtain ⟨rfl, rfl, rfl, R11⟩ := hcut
                                              cases hb : (inL [0, 28] a && inL [23, 22] b) with
                                              | true =>
                                                have H11 : Shut _ := ⟨hb⟩
                                                clear hb
                                                go_wp2_with fail
                                                go_ret
                                                exact ⟨intv (by unfold joinK joinQ; simp only [alI, show (25 : Int) + 1 = 26 from rfl, H1.out, H2.out, H3.out, H4.out, H5.out, H6.out, H7.out, H8.out, H9.out, H10.out, H11.out]; simp), R11.out.be⟩
                                              | false =>
                                                have H11 : Shut _ := ⟨hb⟩
                                                clear hb
                                                go_upto_region 19 with fail
                                                go_cut [89] (fun v wx => v = .bool (inL [13, 14, 21] a && inL [22, 23] b) ∧ Shut (SpotI w wx (.slice O n oc) (.slice C n cc) (.slice S n sc) ((j : Int) + 1) a b oa ob s os))
                                                case first =>
                                                  have p4 := R11.out.c4
                                                  have y4 : ∀ o, _ := fun o => (R11.out.alloc o).c4
                                                  have p5 := R11.out.c5
                                                  have y5 : ∀ o, _ := fun o => (R11.out.alloc o).c5
                                                  all_goals go_wp2_with (first
                                                    | (go_at_call 45; (with_reducible refine (among_lit2 _ _ (by omega) (by omega) _ _ _ _ (by simp)).mono ?_); rintro e w' ⟨rfl, rfl⟩)
                                                    | (go_at_call 45; (with_reducible refine (among_lit3 _ _ _ (by omega) (by omega) (by omega) _ _ _ _ (by simp)).mono ?_); rintro e w' ⟨rfl, rfl⟩)
                                                    | (go_at_call 45; (with_reducible refine (among_lit4 _ _ _ _ (by omega) (by omega) (by omega) (by omega) _ _ _ _ (by simp)).mono ?_); rintro e w' ⟨rfl, rfl⟩)
                                                    | (go_at_call 45; (with_reducible refine (among_lit5 _ _ _ _ _ (by omega) (by omega) (by omega) (by omega) (by omega) _ _ _ _ (by simp)).mono ?_); rintro e w' ⟨rfl, rfl⟩)
                                                    | (go_at_call 63; with_reducible refine (HB.out _ (R11.out.alloc _).be).mono ?_; rintro e w9 ⟨rfl, b9⟩; have RS : Shut _ := ⟨(R11.out.alloc _).pass b9⟩; clear b9)
                                                    | fail)
                                                  all_goals go_meet
                                                  all_goals exact ⟨boolv (by first | (simp_all; done) | (simp only [bne, *]; done) | simp [bne, *]), ⟨by first | sp RS | sp R11⟩⟩
                                                case rest =>
                                                  obtain ⟨rfl, R12⟩ := hcut
                                                  cases hb : (inL [13, 14, 21] a && inL [22, 23] b) with
                                                  | true =>
                                                    have H12 : Shut _ := ⟨hb⟩
                                                    clear hb
                                                    go_wp2_with fail
                                                    go_ret
                                                    exact ⟨intv (by unfold joinK joinQ; simp only [alI, show (25 : Int) + 1 = 26 from rfl, H1.out, H2.out, H3.out, H4.out, H5.out, H6.out, H7.out, H8.out, H9.out, H10.out, H11.out, H12.out]; simp), R12.out.be⟩
                                                  | false =>
                                                    have H12 : Shut _ := ⟨hb⟩
                                                    clear hb
                                                    go_upto_region 21 with fail
                                                    go_cut [100] (fun v wx => v = .bool (inL [22, 23] a && inL [18, 21] b) ∧ Shut (SpotI w wx (.slice O n oc) (.slice C n cc) (.slice S n sc) ((j : Int) + 1) a b oa ob s os))
                                                    case first =>
                                                      have p4 := R12.out.c4
                                                      have y4 : ∀ o, _ := fun o => (R12.out.alloc o).c4
                                                      have p5 := R12.out.c5
                                                      have y5 : ∀ o, _ := fun o => (R12.out.alloc o).c5
                                                      all_goals go_wp2_with (first
                                                        | (go_at_call 45; (with_reducible refine (among_lit2 _ _ (by omega) (by omega) _ _ _ _ (by simp)).mono ?_); rintro e w' ⟨rfl, rfl⟩)
                                                        | (go_at_call 45; (with_reducible refine (among_lit3 _ _ _ (by omega) (by omega) (by omega) _ _ _ _ (by simp)).mono ?_); rintro e w' ⟨rfl, rfl⟩)
                                                        | (go_at_call 45; (with_reducible refine (among_lit4 _ _ _ _ (by omega) (by omega) (by omega) (by omega) _ _ _ _ (by simp)).mono ?_); rintro e w' ⟨rfl, rfl⟩)
                                                        | (go_at_call 45; (with_reducible refine (among_lit5 _ _ _ _ _ (by omega) (by omega) (by omega) (by omega) (by omega) _ _ _ _ (by simp)).mono ?_); rintro e w' ⟨rfl, rfl⟩)
                                                        | (go_at_call 63; with_reducible refine (HB.out _ (R12.out.alloc _).be).mono ?_; rintro e w9 ⟨rfl, b9⟩; have RS : Shut _ := ⟨(R12.out.alloc _).pass b9⟩; clear b9)
                                                        | fail)
                                                      all_goals go_meet
                                                      all_goals exact ⟨boolv (by first | (simp_all; done) | (simp only [bne, *]; done) | simp [bne, *]), ⟨by first | sp RS | sp R12⟩⟩
                                                    case rest =>
                                                      obtain ⟨rfl, R13⟩ := hcut
                                                      cases hb : (inL [22, 23] a && inL [18, 21] b) with
                                                      | true =>
                                                        have H13 : Shut _ := ⟨hb⟩
                                                        clear hb
                                                        go_wp2_with fail
                                                        go_ret
                                                        exact ⟨intv (by unfold joinK joinQ; simp only [alI, show (25 : Int) + 1 = 26 from rfl, H1.out, H2.out, H3.out, H4.out, H5.out, H6.out, H7.out, H8.out, H9.out, H10.out, H11.out, H12.out, H13.out]; simp), R13.out.be⟩
                                                      | false =>
                                                        have H13 : Shut _ := ⟨hb⟩
                                                        clear hb
                                                        go_upto_region 23 with fail
                                                        go_cut [111] (fun v wx => v = .bool (inL [12, 20, 21, 24] a && b == 21) ∧ Shut (SpotI w wx (.slice O n oc) (.slice C n cc) (.slice S n sc) ((j : Int) + 1) a b oa ob s os))
                                                        case first =>
                                                          have p4 := R13.out.c4
                                                          have y4 : ∀ o, _ := fun o => (R13.out.alloc o).c4
                                                          have p5 := R13.out.c5
                                                          have y5 : ∀ o, _ := fun o => (R13.out.alloc o).c5
                                                          cases q0 : (b == 21)
                                                          all_goals go_wp2_with (first
                                                            | (go_at_call 45; (with_reducible refine (among_lit2 _ _ (by omega) (by omega) _ _ _ _ (by simp)).mono ?_); rintro e w' ⟨rfl, rfl⟩)
                                                            | (go_at_call 45; (with_reducible refine (among_lit3 _ _ _ (by omega) (by omega) (by omega) _ _ _ _ (by simp)).mono ?_); rintro e w' ⟨rfl, rfl⟩)
                                                            | (go_at_call 45; (with_reducible refine (among_lit4 _ _ _ _ (by omega) (by omega) (by omega) (by omega) _ _ _ _ (by simp)).mono ?_); rintro e w' ⟨rfl, rfl⟩)
                                                            | (go_at_call 45; (with_reducible refine (among_lit5 _ _ _ _ _ (by omega) (by omega) (by omega) (by omega) (by omega) _ _ _ _ (by simp)).mono ?_); rintro e w' ⟨rfl, rfl⟩)
                                                            | (go_at_call 63; with_reducible refine (HB.out _ (R13.out.alloc _).be).mono ?_; rintro e w9 ⟨rfl, b9⟩; have RS : Shut _ := ⟨(R13.out.alloc _).pass b9⟩; clear b9)
                                                            | fail)
                                                          all_goals go_meet
                                                          all_goals exact ⟨boolv (by first | (simp_all; done) | (simp only [bne, *]; done) | simp [bne, *]), ⟨by first | sp RS | sp R13⟩⟩
                                                        case rest =>
                                                          obtain ⟨rfl, R14⟩ := hcut
                                                          cases hb : (inL [12, 20, 21, 24] a && b == 21) with
                                                          | true =>
                                                            have H14 : Shut _ := ⟨hb⟩
                                                            clear hb
                                                            go_wp2_with fail
                                                            go_ret
                                                            exact ⟨intv (by unfold joinK joinQ; simp only [alI, show (25 : Int) + 1 = 26 from rfl, H1.out, H2.out, H3.out, H4.out, H5.out, H6.out, H7.out, H8.out, H9.out, H10.out, H11.out, H12.out, H13.out, H14.out]; simp), R14.out.be⟩
                                                          | false =>
                                                            have H14 : Shut _ := ⟨hb⟩
                                                            clear hb
                                                            go_wp2_with fail
                                                            go_ret
                                                            exact ⟨intv (by unfold joinK joinQ; simp only [alI, show (25 : Int) + 1 = 26 from rfl, H1.out, H2.out, H3.out, H4.out, H5.out, H6.out, H7.out, H8.out, H9.out, H10.out, H11.out, H12.out, H13.out, H14.out]; simp), R14.out.be⟩
set_option maxHeartbeats 16000000 in
theorem plast19_any (O C S : Option Addr) (n oc cc sc : Nat) (xs : List Int) (j : Nat) (hj : j + 1 < n) (a b oa ob s os : Int) (w : World) (hO : FnAt w O n (bk xs)) (hn : n ≤ 4000) : Calls Tryd.prog 50 #[.agg #[.slice O n oc, .slice C n cc, .slice S n sc, .int .i64 ((j : Int) + 1), .int .i64 a, .int .i64 b, .int .i64 oa, .int .i64 ob, .int .i64 s, .int .i64 os]] w fun e w' => e = .returned (.int .i64 (lastK a b (oddN xs (j + 1)))) ∧ Below w.heap.size w w' := by
  have R0 : Shut (SpotI w (w.alloc (.cells #[.slice O n oc, .slice C n cc, .slice S n sc, .int .i64 ((j : Int) + 1), .int .i64 a, .int .i64 b, .int .i64 oa, .int .i64 ob, .int .i64 s, .int .i64 os] 61)) (.slice O n oc) (.slice C n cc) (.slice S n sc) ((j : Int) + 1) a b oa ob s os) := ⟨SpotI.new ..⟩
  have OD : Shut (∀ W, Below w.heap.size w W → Calls Tryd.prog 65 #[.agg #[.slice O n oc, .slice C n cc, .slice S n sc, .int .i64 ((j : Int) + 1), .int .i64 a, .int .i64 b, .int .i64 oa, .int .i64 ob, .int .i64 s, .int .i64 os]] W fun e w' => e = .returned (.bool (oddN xs (j + 1))) ∧ Below W.heap.size W w') := ⟨fun W hW => odd_any O _ _ n oc xs (j + 1) (by omega) a b oa ob s os W (hO.pass hW) (by omega) hn⟩
  clear hO
  generalize oddN xs (j + 1) = odd at *
  go_enter Tryd.func50, Tryd.ntmps50
  go_upto_region 1 with fail
  go_cut [3, 4] (fun v3 v4 wx => v3 = .bool (inL [0, 28] a) ∧ v4 = .bool (inL [0, 28] b) ∧ Shut (SpotI w wx (.slice O n oc) (.slice C n cc) (.slice S n sc) ((j : Int) + 1) a b oa ob s os))
  case first =>
    refine wp_region_inv (by kernel_rfl) (by kernel_rfl) (fun L a' W => ∃ v3 v4 v5 v6 v7 v8 v9 v10 v11 v12 : Value, LI w (.slice O n oc) (.slice C n cc) (.slice S n sc) ((j : Int) + 1) a b oa ob s os L v3 v4 v5 v6 v7 v8 v9 v10 v11 v12 W ∧ a' = ⟨#[.agg #[.slice O n oc, .slice C n cc, .slice S n sc, .int .i64 ((j : Int) + 1), .int .i64 a, .int .i64 b, .int .i64 oa, .int .i64 ob, .int .i64 s, .int .i64 os], .pointer (some ⟨w.heap.size, 0, none⟩), .int .i64 0, v3, v4, v5, v6, v7, v8, v9, v10, v11, v12, undef, undef, undef, undef, undef, undef, undef, undef, undef, undef, undef, undef, undef, undef, undef, undef, undef, undef, undef, undef, undef, undef, undef, undef, undef, undef, undef, undef, undef, undef, undef, undef, undef, undef, undef, undef, undef, undef, undef, undef, undef, undef, undef, undef, undef, undef, undef, undef, undef, undef, undef, undef, undef, undef, undef, undef, undef, undef, undef, undef, undef, undef, undef, undef, undef, undef, undef, undef, undef, undef, undef, undef, undef, undef, undef, undef, undef, undef, undef, undef, undef, undef, undef, undef, undef, undef, undef, undef, undef, undef, undef, undef, undef, undef, undef, undef, undef, undef, undef, undef, undef, undef, undef], []⟩) ?_ ?_ ?_
    · exact ⟨undef, undef, undef, undef, undef, undef, undef, undef, undef, undef, { sp := R0.out.drew, f0 := fun h => (by cases h), f1 := fun h => (by cases h), f2 := fun h => (by cases h), f3 := fun h => (by cases h), f4 := fun h => (by cases h), f5 := fun h => (by cases h), f6 := fun h => (by cases h), f7 := fun h => (by cases h), f8 := fun h => (by cases h), f9 := fun h => (by cases h) }, rfl⟩
    · rintro q o L a' W ho hLi hpre ⟨v3, v4, v5, v6, v7, v8, v9, v10, v11, v12, hI, rfl⟩
      have hi : q < 10 := by
        have := (Array.getElem?_eq_some_iff.1 ho).1
        simpa using this
      have hcs : q = 0 ∨ q = 1 ∨ q = 2 ∨ q = 3 ∨ q = 4 ∨ q = 5 ∨ q = 6 ∨ q = 7 ∨ q = 8 ∨ q = 9 := by omega
      rcases hcs with rfl | rfl | rfl | rfl | rfl | rfl | rfl | rfl | rfl | rfl
      all_goals (injection ho with ho; subst ho)
      all_goals (simp [Region.binds] at hpre)
      · refine wpOp_step rfl (fun K hK => ?_)
        go_simp
        exact hK _ _ ⟨v3, v4, .pointer (some ⟨w.heap.size, 4, none⟩), v6, v7, v8, v9, v10, v11, v12, { hI with f0 := fun _ => rfl }, rfl⟩
      · obtain rfl := hI.f0 hpre
        have q1 := hI.sp.c4
        refine wpOp_step rfl (fun K hK => ?_)
        go_simp
        exact hK _ _ ⟨v3, v4, .pointer (some ⟨w.heap.size, 4, none⟩), .int .i64 a, v7, v8, v9, v10, v11, v12, { hI with f1 := fun _ => rfl }, rfl⟩
      · refine wpOp_step rfl (fun K hK => ?_)
        go_simp
        exact hK _ _ ⟨v3, v4, v5, v6, .slice (some ⟨W.heap.size, 0, none⟩) 2 2, v8, v9, v10, v11, v12, { hI.alloc _ with f2 := fun _ => ⟨_, rfl, lit19 [0, 28] 2 rfl (by omega) (wfs _ (by decide)) _ rfl W _⟩ }, rfl⟩
      · obtain rfl := hI.f1 hpre.1
        obtain ⟨g, rfl, hg⟩ := hI.f2 hpre.2
        refine wpOp_step rfl (fun K hK => ?_)
        go_simp
        refine (among_any _ _ _ [0, 28] _ _ hg (by omega)).mono ?_
        rintro e w' ⟨rfl, rfl⟩
        exact hK _ _ ⟨v3, v4, v5, .int .i64 a, .slice (some ⟨g, 0, none⟩) 2 2, .bool (inL [0, 28] a), v9, v10, v11, v12, { hI with f3 := fun _ => rfl }, rfl⟩
      · refine wpOp_step rfl (fun K hK => ?_)
        go_simp
        exact hK _ _ ⟨v3, v4, v5, v6, v7, v8, .pointer (some ⟨w.heap.size, 5, none⟩), v10, v11, v12, { hI with f4 := fun _ => rfl }, rfl⟩
      · obtain rfl := hI.f4 hpre
        have q1 := hI.sp.c5
        refine wpOp_step rfl (fun K hK => ?_)
        go_simp
        exact hK _ _ ⟨v3, v4, v5, v6, v7, v8, .pointer (some ⟨w.heap.size, 5, none⟩), .int .i64 b, v11, v12, { hI with f5 := fun _ => rfl }, rfl⟩
      · refine wpOp_step rfl (fun K hK => ?_)
        go_simp
        exact hK _ _ ⟨v3, v4, v5, v6, v7, v8, v9, v10, .slice (some ⟨W.heap.size, 0, none⟩) 2 2, v12, { hI.alloc _ with f6 := fun _ => ⟨_, rfl, lit19 [0, 28] 2 rfl (by omega) (wfs _ (by decide)) _ rfl W _⟩ }, rfl⟩
      · obtain rfl := hI.f5 hpre.1
        obtain ⟨g, rfl, hg⟩ := hI.f6 hpre.2.1
        refine wpOp_step rfl (fun K hK => ?_)
        go_simp
        refine (among_any _ _ _ [0, 28] _ _ hg (by omega)).mono ?_
        rintro e w' ⟨rfl, rfl⟩
        exact hK _ _ ⟨v3, v4, v5, v6, v7, v8, v9, .int .i64 b, .slice (some ⟨g, 0, none⟩) 2 2, .bool (inL [0, 28] b), { hI with f7 := fun _ => rfl }, rfl⟩
      · obtain rfl := hI.f3 hpre.1
        refine wpOp_step rfl (fun K hK => ?_)
        go_simp
        exact hK _ _ ⟨.bool (inL [0, 28] a), v4, v5, v6, v7, .bool (inL [0, 28] a), v9, v10, v11, v12, { hI with f8 := fun _ => rfl }, rfl⟩
      · obtain rfl := hI.f7 hpre.1
        refine wpOp_step rfl (fun K hK => ?_)
        go_simp
        exact hK _ _ ⟨v3, .bool (inL [0, 28] b), v5, v6, v7, v8, v9, v10, v11, .bool (inL [0, 28] b), { hI with f9 := fun _ => rfl }, rfl⟩
    · rintro L a' W hall ⟨v3, v4, v5, v6, v7, v8, v9, v10, v11, v12, hI, rfl⟩
      have l8 := hall 8 (by simp)
      have l9 := hall 9 (by simp)
      clear hall
      obtain rfl := hI.f8 l8
      obtain rfl := hI.f9 l9
      have RR : Shut _ := ⟨hI.sp⟩
      clear hI
      go_step
      go_step
      go_meet
      exact ⟨rfl, rfl, RR⟩
  case rest =>
    obtain ⟨rfl, rfl, RL⟩ := hcut
    go_upto_region 2 with fail
    go_cut [13] (fun v wx => v = .bool (a == 30 && inL [30, 31, 33, 34] b) ∧ Shut (SpotI w wx (.slice O n oc) (.slice C n cc) (.slice S n sc) ((j : Int) + 1) a b oa ob s os))
    case first =>
      have p4 := RL.out.c4
      have y4 : ∀ o, _ := fun o => (RL.out.alloc o).c4
      have p5 := RL.out.c5
      have y5 : ∀ o, _ := fun o => (RL.out.alloc o).c5
      cases q0 : (a == 30)
      all_goals go_wp2_with (first
        | (go_at_call 45; (with_reducible refine (among_lit2 _ _ (by omega) (by omega) _ _ _ _ (by simp)).mono ?_); rintro e w' ⟨rfl, rfl⟩)
        | (go_at_call 45; (with_reducible refine (among_lit3 _ _ _ (by omega) (by omega) (by omega) _ _ _ _ (by simp)).mono ?_); rintro e w' ⟨rfl, rfl⟩)
        | (go_at_call 45; (with_reducible refine (among_lit4 _ _ _ _ (by omega) (by omega) (by omega) (by omega) _ _ _ _ (by simp)).mono ?_); rintro e w' ⟨rfl, rfl⟩)
        | (go_at_call 45; (with_reducible refine (among_lit5 _ _ _ _ _ (by omega) (by omega) (by omega) (by omega) (by omega) _ _ _ _ (by simp)).mono ?_); rintro e w' ⟨rfl, rfl⟩)
        | (go_at_call 65; with_reducible refine (OD.out _ RL.out.be).mono ?_; rintro e w9 ⟨rfl, b9⟩; have RS : Shut _ := ⟨RL.out.pass b9⟩; clear b9)
        | (go_at_call 64; with_reducible refine (syl_any _ _).mono ?_; rintro e w9 ⟨rfl, b9⟩; have RS : Shut _ := ⟨RL.out.pass b9⟩; have p5s := RS.out.c5; clear b9)
        | fail)
      all_goals go_meet
      all_goals exact ⟨boolv (by first | (simp_all; done) | (simp only [bne, *]; done) | simp [bne, *]), ⟨by first | sp RS | sp RL⟩⟩
    case rest =>
      obtain ⟨rfl, R1⟩ := hcut
      cases hb : (a == 30 && inL [30, 31, 33, 34] b) with
      | true =>
        have H1 : Shut _ := ⟨hb⟩
        clear hb
        go_wp2_with fail
        go_ret
        exact ⟨intv (by unfold lastK lastB; simp only [alI, show (25 : Int) + 1 = 26 from rfl, H1.out]; simp), R1.out.be⟩
      | false =>
        have H1 : Shut _ := ⟨hb⟩
        clear hb
        go_upto_region 4 with fail
        go_cut [23] (fun v wx => v = .bool (inL [31, 33] a && inL [31, 32] b) ∧ Shut (SpotI w wx (.slice O n oc) (.slice C n cc) (.slice S n sc) ((j : Int) + 1) a b oa ob s os))
        case first =>
          have p4 := R1.out.c4
          have y4 : ∀ o, _ := fun o => (R1.out.alloc o).c4
          have p5 := R1.out.c5
          have y5 : ∀ o, _ := fun o => (R1.out.alloc o).c5
          all_goals go_wp2_with (first
            | (go_at_call 45; (with_reducible refine (among_lit2 _ _ (by omega) (by omega) _ _ _ _ (by simp)).mono ?_); rintro e w' ⟨rfl, rfl⟩)
            | (go_at_call 45; (with_reducible refine (among_lit3 _ _ _ (by omega) (by omega) (by omega) _ _ _ _ (by simp)).mono ?_); rintro e w' ⟨rfl, rfl⟩)
            | (go_at_call 45; (with_reducible refine (among_lit4 _ _ _ _ (by omega) (by omega) (by omega) (by omega) _ _ _ _ (by simp)).mono ?_); rintro e w' ⟨rfl, rfl⟩)
            | (go_at_call 45; (with_reducible refine (among_lit5 _ _ _ _ _ (by omega) (by omega) (by omega) (by omega) (by omega) _ _ _ _ (by simp)).mono ?_); rintro e w' ⟨rfl, rfl⟩)
            | (go_at_call 65; with_reducible refine (OD.out _ R1.out.be).mono ?_; rintro e w9 ⟨rfl, b9⟩; have RS : Shut _ := ⟨R1.out.pass b9⟩; clear b9)
            | (go_at_call 64; with_reducible refine (syl_any _ _).mono ?_; rintro e w9 ⟨rfl, b9⟩; have RS : Shut _ := ⟨R1.out.pass b9⟩; have p5s := RS.out.c5; clear b9)
            | fail)
          all_goals go_meet
          all_goals exact ⟨boolv (by first | (simp_all; done) | (simp only [bne, *]; done) | simp [bne, *]), ⟨by first | sp RS | sp R1⟩⟩
        case rest =>
          obtain ⟨rfl, R2⟩ := hcut
          cases hb : (inL [31, 33] a && inL [31, 32] b) with
          | true =>
            have H2 : Shut _ := ⟨hb⟩
            clear hb
            go_wp2_with fail
            go_ret
            exact ⟨intv (by unfold lastK lastB; simp only [alI, show (25 : Int) + 1 = 26 from rfl, H1.out, H2.out]; simp), R2.out.be⟩
          | false =>
            have H2 : Shut _ := ⟨hb⟩
            clear hb
            go_upto_region 5 with fail
            go_cut [23] (fun v wx => v = .bool (inL [32, 34] a && b == 32) ∧ Shut (SpotI w wx (.slice O n oc) (.slice C n cc) (.slice S n sc) ((j : Int) + 1) a b oa ob s os))
            case first =>
              have p4 := R2.out.c4
              have y4 : ∀ o, _ := fun o => (R2.out.alloc o).c4
              have p5 := R2.out.c5
              have y5 : ∀ o, _ := fun o => (R2.out.alloc o).c5
              cases q0 : (b == 32)
              all_goals go_wp2_with (first
                | (go_at_call 45; (with_reducible refine (among_lit2 _ _ (by omega) (by omega) _ _ _ _ (by simp)).mono ?_); rintro e w' ⟨rfl, rfl⟩)
                | (go_at_call 45; (with_reducible refine (among_lit3 _ _ _ (by omega) (by omega) (by omega) _ _ _ _ (by simp)).mono ?_); rintro e w' ⟨rfl, rfl⟩)
                | (go_at_call 45; (with_reducible refine (among_lit4 _ _ _ _ (by omega) (by omega) (by omega) (by omega) _ _ _ _ (by simp)).mono ?_); rintro e w' ⟨rfl, rfl⟩)
                | (go_at_call 45; (with_reducible refine (among_lit5 _ _ _ _ _ (by omega) (by omega) (by omega) (by omega) (by omega) _ _ _ _ (by simp)).mono ?_); rintro e w' ⟨rfl, rfl⟩)
                | (go_at_call 65; with_reducible refine (OD.out _ R2.out.be).mono ?_; rintro e w9 ⟨rfl, b9⟩; have RS : Shut _ := ⟨R2.out.pass b9⟩; clear b9)
                | (go_at_call 64; with_reducible refine (syl_any _ _).mono ?_; rintro e w9 ⟨rfl, b9⟩; have RS : Shut _ := ⟨R2.out.pass b9⟩; have p5s := RS.out.c5; clear b9)
                | fail)
              all_goals go_meet
              all_goals exact ⟨boolv (by first | (simp_all; done) | (simp only [bne, *]; done) | simp [bne, *]), ⟨by first | sp RS | sp R2⟩⟩
            case rest =>
              obtain ⟨rfl, R3⟩ := hcut
              cases hb : (inL [32, 34] a && b == 32) with
              | true =>
                have H3 : Shut _ := ⟨hb⟩
                clear hb
                go_wp2_with fail
                go_ret
                exact ⟨intv (by unfold lastK lastB; simp only [alI, show (25 : Int) + 1 = 26 from rfl, H1.out, H2.out, H3.out]; simp), R3.out.be⟩
              | false =>
                have H3 : Shut _ := ⟨hb⟩
                clear hb
                go_upto_region 7 with fail
                go_cut [43] (fun v wx => v = .bool (sylB a && b == 22) ∧ Shut (SpotI w wx (.slice O n oc) (.slice C n cc) (.slice S n sc) ((j : Int) + 1) a b oa ob s os))
                case first =>
                  have p4 := R3.out.c4
                  have y4 : ∀ o, _ := fun o => (R3.out.alloc o).c4
                  have p5 := R3.out.c5
                  have y5 : ∀ o, _ := fun o => (R3.out.alloc o).c5
                  cases q0 : (b == 22)
                  all_goals go_wp2_with (first
                    | (go_at_call 45; (with_reducible refine (among_lit2 _ _ (by omega) (by omega) _ _ _ _ (by simp)).mono ?_); rintro e w' ⟨rfl, rfl⟩)
                    | (go_at_call 45; (with_reducible refine (among_lit3 _ _ _ (by omega) (by omega) (by omega) _ _ _ _ (by simp)).mono ?_); rintro e w' ⟨rfl, rfl⟩)
                    | (go_at_call 45; (with_reducible refine (among_lit4 _ _ _ _ (by omega) (by omega) (by omega) (by omega) _ _ _ _ (by simp)).mono ?_); rintro e w' ⟨rfl, rfl⟩)
                    | (go_at_call 45; (with_reducible refine (among_lit5 _ _ _ _ _ (by omega) (by omega) (by omega) (by omega) (by omega) _ _ _ _ (by simp)).mono ?_); rintro e w' ⟨rfl, rfl⟩)
                    | (go_at_call 65; with_reducible refine (OD.out _ R3.out.be).mono ?_; rintro e w9 ⟨rfl, b9⟩; have RS : Shut _ := ⟨R3.out.pass b9⟩; clear b9)
                    | (go_at_call 64; with_reducible refine (syl_any _ _).mono ?_; rintro e w9 ⟨rfl, b9⟩; have RS : Shut _ := ⟨R3.out.pass b9⟩; have p5s := RS.out.c5; clear b9)
                    | fail)
                  all_goals go_meet
                  all_goals exact ⟨boolv (by first | (simp_all; done) | (simp only [bne, *]; done) | simp [bne, *]), ⟨by first | sp RS | sp R3⟩⟩
                case rest =>
                  obtain ⟨rfl, R4⟩ := hcut
                  cases hb : (sylB a && b == 22) with
                  | true =>
                    have H4 : Shut _ := ⟨hb⟩
                    clear hb
                    go_wp2_with fail
                    go_ret
                    exact ⟨intv (by unfold lastK lastB; simp only [alI, show (25 : Int) + 1 = 26 from rfl, H1.out, H2.out, H3.out, H4.out]; simp), R4.out.be⟩
                  | false =>
                    have H4 : Shut _ := ⟨hb⟩
                    clear hb
                    go_upto_region 8 with fail
                    go_cut [43] (fun v wx => v = .bool (a == 23 && sylB b) ∧ Shut (SpotI w wx (.slice O n oc) (.slice C n cc) (.slice S n sc) ((j : Int) + 1) a b oa ob s os))
                    case first =>
                      have p4 := R4.out.c4
                      have y4 : ∀ o, _ := fun o => (R4.out.alloc o).c4
                      have p5 := R4.out.c5
                      have y5 : ∀ o, _ := fun o => (R4.out.alloc o).c5
                      cases q0 : (a == 23)
                      all_goals go_wp2_with (first
                        | (go_at_call 45; (with_reducible refine (among_lit2 _ _ (by omega) (by omega) _ _ _ _ (by simp)).mono ?_); rintro e w' ⟨rfl, rfl⟩)
                        | (go_at_call 45; (with_reducible refine (among_lit3 _ _ _ (by omega) (by omega) (by omega) _ _ _ _ (by simp)).mono ?_); rintro e w' ⟨rfl, rfl⟩)
                        | (go_at_call 45; (with_reducible refine (among_lit4 _ _ _ _ (by omega) (by omega) (by omega) (by omega) _ _ _ _ (by simp)).mono ?_); rintro e w' ⟨rfl, rfl⟩)
                        | (go_at_call 45; (with_reducible refine (among_lit5 _ _ _ _ _ (by omega) (by omega) (by omega) (by omega) (by omega) _ _ _ _ (by simp)).mono ?_); rintro e w' ⟨rfl, rfl⟩)
                        | (go_at_call 65; with_reducible refine (OD.out _ R4.out.be).mono ?_; rintro e w9 ⟨rfl, b9⟩; have RS : Shut _ := ⟨R4.out.pass b9⟩; clear b9)
                        | (go_at_call 64; with_reducible refine (syl_any _ _).mono ?_; rintro e w9 ⟨rfl, b9⟩; have RS : Shut _ := ⟨R4.out.pass b9⟩; have p5s := RS.out.c5; clear b9)
                        | fail)
                      all_goals go_meet
                      all_goals exact ⟨boolv (by first | (simp_all; done) | (simp only [bne, *]; done) | simp [bne, *]), ⟨by first | sp RS | sp R4⟩⟩
                    case rest =>
                      obtain ⟨rfl, R5⟩ := hcut
                      cases hb : (a == 23 && sylB b) with
                      | true =>
                        have H5 : Shut _ := ⟨hb⟩
                        clear hb
                        go_wp2_with fail
                        go_ret
                        exact ⟨intv (by unfold lastK lastB; simp only [alI, show (25 : Int) + 1 = 26 from rfl, H1.out, H2.out, H3.out, H4.out, H5.out]; simp), R5.out.be⟩
                      | false =>
                        have H5 : Shut _ := ⟨hb⟩
                        clear hb
                        go_upto_region 10 with fail
                        go_cut [3, 4, 60] (fun k3 k4 v wx => k3 = .bool (inL [0, 28] a) ∧ k4 = .bool (inL [0, 28] b) ∧ v = .bool (inL [0, 28] a && inL [0, 28] b) ∧ Shut (SpotI w wx (.slice O n oc) (.slice C n cc) (.slice S n sc) ((j : Int) + 1) a b oa ob s os))
                        case first =>
                          have p4 := R5.out.c4
                          have y4 : ∀ o, _ := fun o => (R5.out.alloc o).c4
                          have p5 := R5.out.c5
                          have y5 : ∀ o, _ := fun o => (R5.out.alloc o).c5
                          all_goals go_wp2_with (first
                            | (go_at_call 45; (with_reducible refine (among_lit2 _ _ (by omega) (by omega) _ _ _ _ (by simp)).mono ?_); rintro e w' ⟨rfl, rfl⟩)
                            | (go_at_call 45; (with_reducible refine (among_lit3 _ _ _ (by omega) (by omega) (by omega) _ _ _ _ (by simp)).mono ?_); rintro e w' ⟨rfl, rfl⟩)
                            | (go_at_call 45; (with_reducible refine (among_lit4 _ _ _ _ (by omega) (by omega) (by omega) (by omega) _ _ _ _ (by simp)).mono ?_); rintro e w' ⟨rfl, rfl⟩)
                            | (go_at_call 45; (with_reducible refine (among_lit5 _ _ _ _ _ (by omega) (by omega) (by omega) (by omega) (by omega) _ _ _ _ (by simp)).mono ?_); rintro e w' ⟨rfl, rfl⟩)
                            | (go_at_call 65; with_reducible refine (OD.out _ R5.out.be).mono ?_; rintro e w9 ⟨rfl, b9⟩; have RS : Shut _ := ⟨R5.out.pass b9⟩; clear b9)
                            | (go_at_call 64; with_reducible refine (syl_any _ _).mono ?_; rintro e w9 ⟨rfl, b9⟩; have RS : Shut _ := ⟨R5.out.pass b9⟩; have p5s := RS.out.c5; clear b9)
                            | fail)
                          all_goals go_meet
                          all_goals exact ⟨boolv (by first | (simp_all; done) | (simp only [bne, *]; done) | simp [bne, *]), boolv (by first | (simp_all; done) | (simp only [bne, *]; done) | simp [bne, *]), boolv (by first | (simp_all; done) | (simp only [bne, *]; done) | simp [bne, *]), ⟨by first | sp RS | sp R5⟩⟩
                        case rest =>
                          obtain ⟨rfl, rfl, rfl, R6⟩ := hcut
                          cases hb : (inL [0, 28] a && inL [0, 28] b) with
                          | true =>
                            have H6 : Shut _ := ⟨hb⟩
                            clear hb
                            go_wp2_with fail
                            go_ret
                            exact ⟨intv (by unfold lastK lastB; simp only [alI, show (25 : Int) + 1 = 26 from rfl, H1.out, H2.out, H3.out, H4.out, H5.out, H6.out]; simp), R6.out.be⟩
                          | false =>
                            have H6 : Shut _ := ⟨hb⟩
                            clear hb
                            go_upto_region 11 with fail
                            go_cut [3, 4, 60] (fun k3 k4 v wx => k3 = .bool (inL [0, 28] a) ∧ k4 = .bool (inL [0, 28] b) ∧ v = .bool (a == 20 && inL [0, 28] b) ∧ Shut (SpotI w wx (.slice O n oc) (.slice C n cc) (.slice S n sc) ((j : Int) + 1) a b oa ob s os))
                            case first =>
                              have p4 := R6.out.c4
                              have y4 : ∀ o, _ := fun o => (R6.out.alloc o).c4
                              have p5 := R6.out.c5
                              have y5 : ∀ o, _ := fun o => (R6.out.alloc o).c5
                              cases q0 : (a == 20)
                              all_goals go_wp2_with (first
                                | (go_at_call 45; (with_reducible refine (among_lit2 _ _ (by omega) (by omega) _ _ _ _ (by simp)).mono ?_); rintro e w' ⟨rfl, rfl⟩)
                                | (go_at_call 45; (with_reducible refine (among_lit3 _ _ _ (by omega) (by omega) (by omega) _ _ _ _ (by simp)).mono ?_); rintro e w' ⟨rfl, rfl⟩)
                                | (go_at_call 45; (with_reducible refine (among_lit4 _ _ _ _ (by omega) (by omega) (by omega) (by omega) _ _ _ _ (by simp)).mono ?_); rintro e w' ⟨rfl, rfl⟩)
                                | (go_at_call 45; (with_reducible refine (among_lit5 _ _ _ _ _ (by omega) (by omega) (by omega) (by omega) (by omega) _ _ _ _ (by simp)).mono ?_); rintro e w' ⟨rfl, rfl⟩)
                                | (go_at_call 65; with_reducible refine (OD.out _ R6.out.be).mono ?_; rintro e w9 ⟨rfl, b9⟩; have RS : Shut _ := ⟨R6.out.pass b9⟩; clear b9)
                                | (go_at_call 64; with_reducible refine (syl_any _ _).mono ?_; rintro e w9 ⟨rfl, b9⟩; have RS : Shut _ := ⟨R6.out.pass b9⟩; have p5s := RS.out.c5; clear b9)
                                | fail)
                              all_goals go_meet
                              all_goals exact ⟨boolv (by first | (simp_all; done) | (simp only [bne, *]; done) | simp [bne, *]), boolv (by first | (simp_all; done) | (simp only [bne, *]; done) | simp [bne, *]), boolv (by first | (simp_all; done) | (simp only [bne, *]; done) | simp [bne, *]), ⟨by first | sp RS | sp R6⟩⟩
                            case rest =>
                              obtain ⟨rfl, rfl, rfl, R7⟩ := hcut
                              cases hb : (a == 20 && inL [0, 28] b) with
                              | true =>
                                have H7 : Shut _ := ⟨hb⟩
                                clear hb
                                go_wp2_with fail
                                go_ret
                                exact ⟨intv (by unfold lastK lastB; simp only [alI, show (25 : Int) + 1 = 26 from rfl, H1.out, H2.out, H3.out, H4.out, H5.out, H6.out, H7.out]; simp), R7.out.be⟩
                              | false =>
                                have H7 : Shut _ := ⟨hb⟩
                                clear hb
                                go_upto_region 13 with fail
                                go_cut [3, 4, 71] (fun k3 k4 v wx => k3 = .bool (inL [0, 28] a) ∧ k4 = .bool (inL [0, 28] b) ∧ v = .bool ((inL [0, 28] a || a == 21) && b == 18) ∧ Shut (SpotI w wx (.slice O n oc) (.slice C n cc) (.slice S n sc) ((j : Int) + 1) a b oa ob s os))
                                case first =>
                                  have p4 := R7.out.c4
                                  have y4 : ∀ o, _ := fun o => (R7.out.alloc o).c4
                                  have p5 := R7.out.c5
                                  have y5 : ∀ o, _ := fun o => (R7.out.alloc o).c5
                                  cases q0 : (a == 21)
                                  all_goals cases q1 : (b == 18)
                                  all_goals go_wp2_with (first
                                    | (go_at_call 45; (with_reducible refine (among_lit2 _ _ (by omega) (by omega) _ _ _ _ (by simp)).mono ?_); rintro e w' ⟨rfl, rfl⟩)
                                    | (go_at_call 45; (with_reducible refine (among_lit3 _ _ _ (by omega) (by omega) (by omega) _ _ _ _ (by simp)).mono ?_); rintro e w' ⟨rfl, rfl⟩)
                                    | (go_at_call 45; (with_reducible refine (among_lit4 _ _ _ _ (by omega) (by omega) (by omega) (by omega) _ _ _ _ (by simp)).mono ?_); rintro e w' ⟨rfl, rfl⟩)
                                    | (go_at_call 45; (with_reducible refine (among_lit5 _ _ _ _ _ (by omega) (by omega) (by omega) (by omega) (by omega) _ _ _ _ (by simp)).mono ?_); rintro e w' ⟨rfl, rfl⟩)
                                    | (go_at_call 65; with_reducible refine (OD.out _ R7.out.be).mono ?_; rintro e w9 ⟨rfl, b9⟩; have RS : Shut _ := ⟨R7.out.pass b9⟩; clear b9)
                                    | (go_at_call 64; with_reducible refine (syl_any _ _).mono ?_; rintro e w9 ⟨rfl, b9⟩; have RS : Shut _ := ⟨R7.out.pass b9⟩; have p5s := RS.out.c5; clear b9)
                                    | fail)
                                  all_goals go_meet
                                  all_goals exact ⟨boolv (by first | (simp_all; done) | (simp only [bne, *]; done) | simp [bne, *]), boolv (by first | (simp_all; done) | (simp only [bne, *]; done) | simp [bne, *]), boolv (by first | (simp_all; done) | (simp only [bne, *]; done) | simp [bne, *]), ⟨by first | sp RS | sp R7⟩⟩
                                case rest =>
                                  obtain ⟨rfl, rfl, rfl, R8⟩ := hcut
                                  cases hb : ((inL [0, 28] a || a == 21) && b == 18) with
                                  | true =>
                                    have H8 : Shut _ := ⟨hb⟩
                                    clear hb
                                    go_wp2_with fail
                                    go_ret
                                    exact ⟨intv (by unfold lastK lastB; simp only [alI, show (25 : Int) + 1 = 26 from rfl, H1.out, H2.out, H3.out, H4.out, H5.out, H6.out, H7.out, H8.out]; simp), R8.out.be⟩
                                  | false =>
                                    have H8 : Shut _ := ⟨hb⟩
                                    clear hb
                                    go_upto_region 14 with fail
                                    go_cut [3, 4, 71] (fun k3 k4 v wx => k3 = .bool (inL [0, 28] a) ∧ k4 = .bool (inL [0, 28] b) ∧ v = .bool (a == 14 && (inL [0, 28] b || b == 21)) ∧ Shut (SpotI w wx (.slice O n oc) (.slice C n cc) (.slice S n sc) ((j : Int) + 1) a b oa ob s os))
                                    case first =>
                                      have p4 := R8.out.c4
                                      have y4 : ∀ o, _ := fun o => (R8.out.alloc o).c4
                                      have p5 := R8.out.c5
                                      have y5 : ∀ o, _ := fun o => (R8.out.alloc o).c5
                                      cases q0 : (a == 14)
                                      all_goals cases q1 : (b == 21)
                                      all_goals go_wp2_with (first
                                        | (go_at_call 45; (with_reducible refine (among_lit2 _ _ (by omega) (by omega) _ _ _ _ (by simp)).mono ?_); rintro e w' ⟨rfl, rfl⟩)
                                        | (go_at_call 45; (with_reducible refine (among_lit3 _ _ _ (by omega) (by omega) (by omega) _ _ _ _ (by simp)).mono ?_); rintro e w' ⟨rfl, rfl⟩)
                                        | (go_at_call 45; (with_reducible refine (among_lit4 _ _ _ _ (by omega) (by omega) (by omega) (by omega) _ _ _ _ (by simp)).mono ?_); rintro e w' ⟨rfl, rfl⟩)
                                        | (go_at_call 45; (with_reducible refine (among_lit5 _ _ _ _ _ (by omega) (by omega) (by omega) (by omega) (by omega) _ _ _ _ (by simp)).mono ?_); rintro e w' ⟨rfl, rfl⟩)
                                        | (go_at_call 65; with_reducible refine (OD.out _ R8.out.be).mono ?_; rintro e w9 ⟨rfl, b9⟩; have RS : Shut _ := ⟨R8.out.pass b9⟩; clear b9)
                                        | (go_at_call 64; with_reducible refine (syl_any _ _).mono ?_; rintro e w9 ⟨rfl, b9⟩; have RS : Shut _ := ⟨R8.out.pass b9⟩; have p5s := RS.out.c5; clear b9)
                                        | fail)
                                      all_goals go_meet
                                      all_goals exact ⟨boolv (by first | (simp_all; done) | (simp only [bne, *]; done) | simp [bne, *]), boolv (by first | (simp_all; done) | (simp only [bne, *]; done) | simp [bne, *]), boolv (by first | (simp_all; done) | (simp only [bne, *]; done) | simp [bne, *]), ⟨by first | sp RS | sp R8⟩⟩
                                    case rest =>
                                      obtain ⟨rfl, rfl, rfl, R9⟩ := hcut
                                      cases hb : (a == 14 && (inL [0, 28] b || b == 21)) with
                                      | true =>
                                        have H9 : Shut _ := ⟨hb⟩
                                        clear hb
                                        go_wp2_with fail
                                        go_ret
                                        exact ⟨intv (by unfold lastK lastB; simp only [alI, show (25 : Int) + 1 = 26 from rfl, H1.out, H2.out, H3.out, H4.out, H5.out, H6.out, H7.out, H8.out, H9.out]; simp), R9.out.be⟩
                                      | false =>
                                        have H9 : Shut _ := ⟨hb⟩
                                        clear hb
                                        go_upto_region 16 with fail
                                        go_cut [94] (fun v wx => v = .bool (a == 26 && b == 27) ∧ Shut (SpotI w wx (.slice O n oc) (.slice C n cc) (.slice S n sc) ((j : Int) + 1) a b oa ob s os))
                                        case first =>
                                          have p4 := R9.out.c4
                                          have y4 : ∀ o, _ := fun o => (R9.out.alloc o).c4
                                          have p5 := R9.out.c5
                                          have y5 : ∀ o, _ := fun o => (R9.out.alloc o).c5
                                          cases q0 : (a == 26)
                                          all_goals cases q1 : (b == 27)
                                          all_goals go_wp2_with (first
                                            | (go_at_call 45; (with_reducible refine (among_lit2 _ _ (by omega) (by omega) _ _ _ _ (by simp)).mono ?_); rintro e w' ⟨rfl, rfl⟩)
                                            | (go_at_call 45; (with_reducible refine (among_lit3 _ _ _ (by omega) (by omega) (by omega) _ _ _ _ (by simp)).mono ?_); rintro e w' ⟨rfl, rfl⟩)
                                            | (go_at_call 45; (with_reducible refine (among_lit4 _ _ _ _ (by omega) (by omega) (by omega) (by omega) _ _ _ _ (by simp)).mono ?_); rintro e w' ⟨rfl, rfl⟩)
                                            | (go_at_call 45; (with_reducible refine (among_lit5 _ _ _ _ _ (by omega) (by omega) (by omega) (by omega) (by omega) _ _ _ _ (by simp)).mono ?_); rintro e w' ⟨rfl, rfl⟩)
                                            | (go_at_call 65; with_reducible refine (OD.out _ R9.out.be).mono ?_; rintro e w9 ⟨rfl, b9⟩; have RS : Shut _ := ⟨R9.out.pass b9⟩; clear b9)
                                            | (go_at_call 64; with_reducible refine (syl_any _ _).mono ?_; rintro e w9 ⟨rfl, b9⟩; have RS : Shut _ := ⟨R9.out.pass b9⟩; have p5s := RS.out.c5; clear b9)
                                            | fail)
                                          all_goals go_meet
                                          all_goals exact ⟨boolv (by first | (simp_all; done) | (simp only [bne, *]; done) | simp [bne, *]), ⟨by first | sp RS | sp R9⟩⟩
                                        case rest =>
                                          obtain ⟨rfl, R10⟩ := hcut
                                          cases hb : (a == 26 && b == 27) with
                                          | true =>
                                            have H10 : Shut _ := ⟨hb⟩
                                            clear hb
                                            go_wp2_with fail
                                            go_ret
                                            exact ⟨intv (by unfold lastK lastB; simp only [alI, show (25 : Int) + 1 = 26 from rfl, H1.out, H2.out, H3.out, H4.out, H5.out, H6.out, H7.out, H8.out, H9.out, H10.out]; simp), R10.out.be⟩
                                          | false =>
                                            have H10 : Shut _ := ⟨hb⟩
                                            clear hb
                                            go_upto_region 18 with fail
                                            go_cut [103] (fun v wx => v = .bool (a == 29 && (b == 29 && odd)) ∧ Shut (SpotI w wx (.slice O n oc) (.slice C n cc) (.slice S n sc) ((j : Int) + 1) a b oa ob s os))
                                            case first =>
                                              have p0 := R10.out.c0
                                              have y0 : ∀ o, _ := fun o => (R10.out.alloc o).c0
                                              have p1 := R10.out.c1
                                              have y1 : ∀ o, _ := fun o => (R10.out.alloc o).c1
                                              have p2 := R10.out.c2
                                              have y2 : ∀ o, _ := fun o => (R10.out.alloc o).c2
                                              have p3 := R10.out.c3
                                              have y3 : ∀ o, _ := fun o => (R10.out.alloc o).c3
                                              have p4 := R10.out.c4
                                              have y4 : ∀ o, _ := fun o => (R10.out.alloc o).c4
                                              have p5 := R10.out.c5
                                              have y5 : ∀ o, _ := fun o => (R10.out.alloc o).c5
                                              have p6 := R10.out.c6
                                              have y6 : ∀ o, _ := fun o => (R10.out.alloc o).c6
                                              have p7 := R10.out.c7
                                              have y7 : ∀ o, _ := fun o => (R10.out.alloc o).c7
                                              have p8 := R10.out.c8
                                              have y8 : ∀ o, _ := fun o => (R10.out.alloc o).c8
                                              have p9 := R10.out.c9
                                              have y9 : ∀ o, _ := fun o => (R10.out.alloc o).c9
                                              cases q0 : (a == 29)
                                              all_goals cases q1 : (b == 29)
                                              all_goals go_wp2_with (first
                                                | (go_at_call 45; (with_reducible refine (among_lit2 _ _ (by omega) (by omega) _ _ _ _ (by simp)).mono ?_); rintro e w' ⟨rfl, rfl⟩)
                                                | (go_at_call 45; (with_reducible refine (among_lit3 _ _ _ (by omega) (by omega) (by omega) _ _ _ _ (by simp)).mono ?_); rintro e w' ⟨rfl, rfl⟩)
                                                | (go_at_call 45; (with_reducible refine (among_lit4 _ _ _ _ (by omega) (by omega) (by omega) (by omega) _ _ _ _ (by simp)).mono ?_); rintro e w' ⟨rfl, rfl⟩)
                                                | (go_at_call 45; (with_reducible refine (among_lit5 _ _ _ _ _ (by omega) (by omega) (by omega) (by omega) (by omega) _ _ _ _ (by simp)).mono ?_); rintro e w' ⟨rfl, rfl⟩)
                                                | (go_at_call 65; with_reducible refine (OD.out _ R10.out.be).mono ?_; rintro e w9 ⟨rfl, b9⟩; have RS : Shut _ := ⟨R10.out.pass b9⟩; clear b9)
                                                | (go_at_call 64; with_reducible refine (syl_any _ _).mono ?_; rintro e w9 ⟨rfl, b9⟩; have RS : Shut _ := ⟨R10.out.pass b9⟩; have p5s := RS.out.c5; clear b9)
                                                | fail)
                                              all_goals go_meet
                                              all_goals exact ⟨boolv (by first | (simp_all; done) | (simp only [bne, *]; done) | simp [bne, *]), ⟨by first | sp RS | sp R10⟩⟩
                                            case rest =>
                                              obtain ⟨rfl, R11⟩ := hcut
                                              cases hb : (a == 29 && (b == 29 && odd)) with
                                              | true =>
                                                have H11 : Shut _ := ⟨hb⟩
                                                clear hb
                                                go_wp2_with fail
                                                go_ret
                                                exact ⟨intv (by unfold lastK lastB; simp only [alI, show (25 : Int) + 1 = 26 from rfl, H1.out, H2.out, H3.out, H4.out, H5.out, H6.out, H7.out, H8.out, H9.out, H10.out, H11.out]; simp), R11.out.be⟩
                                              | false =>
                                                have H11 : Shut _ := ⟨hb⟩
                                                clear hb
                                                go_wp2_with fail
                                                go_ret
                                                exact ⟨intv (by unfold lastK lastB; simp only [alI, show (25 : Int) + 1 = 26 from rfl, H1.out, H2.out, H3.out, H4.out, H5.out, H6.out, H7.out, H8.out, H9.out, H10.out, H11.out]; simp), R11.out.be⟩
end Go.Proofs.YtmbgeeiidpllcaaDoor
