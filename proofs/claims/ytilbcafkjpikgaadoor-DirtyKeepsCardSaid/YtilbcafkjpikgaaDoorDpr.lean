/- Chapter 52: which paragraphs an edit changes: the reference's answer. -/
import Derived.Test.YtilbcafkjpikgaaDoorDpar
import Derived.Test.YtilbcafkjpikgaaDoorDs
import Derived.BigQuiet
namespace Go.Proofs.YtilbcafkjpikgaaDoor
open Go.ChangeShapes Go.WideShapes Go.ChangeAt Go.RowKit
set_option maxRecDepth 100000
set_option linter.unusedSimpArgs false

theorem cutEqlD (a b c d : Int) (w : World) : (binOp .eql 35 (.agg #[.int .i64 a, .int .i64 b]) (.agg #[.int .i64 c, .int .i64 d])).run Tryd.prog w = .ok (.bool (a == c && b == d)) w := by
  by_cases h1 : a = c
  · by_cases h2 : b = d
    · simp [go_sem, h1, h2]
    · simp [go_sem, h1, h2]
  · simp [go_sem, h1]
theorem chgSize : (Tryd.prog.info? 30).map (·.size) = some 4 := by kernel_rfl
theorem chg_done {a b c d x y z u : Value} {w w1 : World} {tmps : Array Value} (ht : tmps.getD 6 undef = .pointer (some ⟨w.heap.size + 1, 0, none⟩)) (R : Four w1 (w.heap.size + 1) 30 x y z u) (hb : Below w.heap.size w w1) :
    bodyPost Tryd.prog Tryd.f11 (fun e w' => e = .returned (.agg #[a, b, c, d]) ∧ Below w.heap.size w w') .ret ⟨tmps, []⟩ (w1.setRow (w.heap.size + 1) #[a, b, c, d]) := by
  refine bodyPost_ret (v := .agg #[a, b, c, d]) (results_cell_row Tryd.results11 _ _ (w.heap.size + 1) 30 _ (0, 0) _ ht (setRow_heap _ _ _ _ _ _ R) Tryd.underlying30 rfl chgSize) rfl ⟨rfl, ?_⟩
  exact below_setRow hb (by omega) _
/-- what an edit changes of paragraphs: p where it begins, g how many signs it takes, m how many it puts -/
def paraV (k l : List (Nat × Nat)) (p g m : Nat) : Value :=
  .agg #[.int .i64 (keepN k l p : Nat), .int .i64 ((k.length : Int) - (keepN k l p : Nat) - (tailN k l p ((p : Int) + g) ((m : Int) - g) : Nat)),
    .int .i64 ((l.length : Int) - (keepN k l p : Nat) - (tailN k l p ((p : Int) + g) ((m : Int) - g) : Nat)), .int .i64 (tailN k l p ((p : Int) + g) ((m : Int) - g) : Nat)]

theorem below_drewP {B : Nat} {a w : World} (h : Below B a w) : Below B a w.drew := ⟨h.os, h.tape, h.output, h.size, h.block⟩
theorem four_all52 (a b c d : Int) : (#[Value.int .i64 a, Value.int .i64 b, Value.int .i64 c, Value.int .i64 d] : Array Value).all (·.oneCell') = true := by simp [Value.oneCell']
/-- what lies in memory while paragraphs are compared -/
structure PRel (w wr : World) (p g : Nat) (D : Option Addr) (m d : Nat) (st : Int) (B5 : Nat) (A5 : Option Addr) (kn c5 : Nat) (k : List (Nat × Nat)) (B6 : Nat) (A6 : Option Addr) (ln c6 : Nat) (l : List (Nat × Nat)) : Prop where
  four : Four wr w.heap.size 24 (.int .i64 (p : Int)) (.int .i64 (g : Int)) (.slice D m d) (.int .i64 st)
  res : Four wr (w.heap.size + 1) 30 (.int .i64 0) (.int .i64 0) (.int .i64 0) (.int .i64 0)
  be : Below w.heap.size w wr
  ok : OwnV wr B5 35 2 A5 kn c5 (cutsV k)
  ol : OwnV wr B6 35 2 A6 ln c6 (cutsV l)
theorem PRel.pass {w wr w' : World} {p g : Nat} {D : Option Addr} {m d : Nat} {st : Int} {B5 : Nat} {A5 : Option Addr} {kn c5 : Nat} {k : List (Nat × Nat)} {B6 : Nat} {A6 : Option Addr} {ln c6 : Nat} {l : List (Nat × Nat)}
    (h : PRel w wr p g D m d st B5 A5 kn c5 k B6 A6 ln c6 l) (hb : Below wr.heap.size wr w') : PRel w w' p g D m d st B5 A5 kn c5 k B6 A6 ln c6 l :=
  ⟨h.four.pass hb h.four.lt, h.res.pass hb h.res.lt, h.be.trans (hb.mono h.be.size), h.ok.pass hb, h.ol.pass hb⟩

set_option maxHeartbeats 4000000 in
theorem rdp_any (A : Option Addr) (n c : Nat) (xs : List Int) (B : Option Addr) (nb cb : Nat) (ys : List Int) (p g : Nat) (D : Option Addr) (m d : Nat) (st : Int) (w : World) (hx : SliceIn .i32 w A n c xs) (hy : SliceIn .i32 w B nb cb ys) (hn : n ≤ 1000) (hnb : nb ≤ 1000) (hm : m ≤ 1000) (hf : fitsB n m p g = true) :
    Calls Tryd.prog 11 #[.slice A n c, .slice B nb cb, .agg #[.int .i64 (p : Int), .int .i64 (g : Int), .slice D m d, .int .i64 st]] w fun e w' => e = .returned (paraV (allP xs) (allP ys) p g m) ∧ Below w.heap.size w w' := by
  have F := Lib.hid (fun W => rfits_any A n c (by omega) p g D m d st (by omega) W)
  simp only [hf] at F
  have P1 := Lib.hid (fun W (hb : Below w.heap.size w W) => rall_any A n c xs W (hx.pass hb) (by omega))
  have P2 := Lib.hid (fun W (hb : Below w.heap.size w W) => rall_any B nb cb ys W (hy.pass hb) (by omega))
  have hk1 := allP_len xs
  have hl1 := allP_len ys
  have he1 := allP_each xs
  have he2 := allP_each ys
  rw [hx.at_.len] at hk1 he1
  rw [hy.at_.len] at hl1 he2
  have hpg : p + g ≤ n := by unfold fitsB at hf; simp at hf; omega
  clear hx hy hf
  generalize allP xs = k at *
  generalize allP ys = l at *
  obtain ⟨kn, hkn⟩ : ∃ kn, k.length = kn := ⟨_, rfl⟩
  obtain ⟨ln, hln⟩ : ∃ ln, l.length = ln := ⟨_, rfl⟩
  have hKle := keepN_le k l (p : Int)
  have hTle := tailN_le k l (p : Int) ((p : Int) + g) ((m : Int) - g)
  have hK0 : stopAt (keepB k l (p : Int)) (min k.length l.length) 0 = keepN k l (p : Int) := rfl
  have hT0 : stopAt (tailB k l ((p : Int) + g) ((m : Int) - g)) (min (k.length - keepN k l (p : Int)) (l.length - keepN k l (p : Int))) 0 = tailN k l (p : Int) ((p : Int) + g) ((m : Int) - g) := rfl
  unfold paraV
  unfold NewCuts at P1 P2
  obtain ⟨K, hK⟩ : ∃ K, keepN k l (p : Int) = K := ⟨_, rfl⟩
  obtain ⟨T, hT⟩ : ∃ T, tailN k l (p : Int) ((p : Int) + g) ((m : Int) - g) = T := ⟨_, rfl⟩
  rw [hkn] at P1 hk1 he1 hKle hTle hK0 hT0
  rw [hln] at P2 hl1 he2 hKle hTle hK0 hT0
  rw [hK] at hKle hTle hK0 hT0
  rw [hT] at hTle hT0
  rw [hkn, hln, hK, hT]
  have E1 : Shut _ := ⟨he1⟩
  have E2 : Shut _ := ⟨he2⟩
  have HK0 : Shut _ := ⟨hK0⟩
  have HT0 : Shut _ := ⟨hT0⟩
  have HKN : Shut (k.length = kn) := ⟨hkn⟩
  have HLN : Shut (l.length = ln) := ⟨hln⟩
  clear he1 he2 hK0 hT0 hkn hln hK hT
  go_enter Tryd.func11, Tryd.ntmps11
  go_wp2_with fail
  refine (F.out _).mono ?_
  rintro e w1 ⟨rfl, x1⟩
  have Q1 : Shut (Four w1 w.heap.size 24 (.int .i64 (p : Int)) (.int .i64 (g : Int)) (.slice D m d) (.int .i64 st)) := ⟨((Four.new w _ _ _ _ _ _ rfl).alloc _).pass x1 (by simp; omega)⟩
  have R1 : Shut (Four w1 (w.heap.size + 1) 30 (.int .i64 0) (.int .i64 0) (.int .i64 0) (.int .i64 0)) := ⟨(Four.new _ _ _ _ _ _ _ (by simp)).pass x1 (by simp)⟩
  have X1 : Shut (Below w.heap.size w w1) := ⟨((below_alloc w _).alloc (by simp) _).trans (x1.mono (by simp; omega))⟩
  have c0 := Q1.out.c0
  have c1 := Q1.out.c1
  have c2 := Q1.out.c2
  clear x1
  go_wp2_with fail
  refine (P1.out _ X1.out).mono ?_
  rintro e w2 ⟨A5, c5, rfl, o5, x2⟩
  have X2 : Shut (Below w.heap.size w w2) := ⟨X1.out.trans (x2.mono X1.out.size)⟩
  have Q2 : Shut _ := ⟨Q1.out.pass x2 Q1.out.lt⟩
  have R2 : Shut _ := ⟨R1.out.pass x2 R1.out.lt⟩
  have O5 : Shut _ := ⟨o5⟩
  clear x2 o5 c0 c1 c2
  go_wp2_with fail
  refine (P2.out _ X2.out).mono ?_
  rintro e w3 ⟨A6, c6, rfl, o6, x3⟩
  have S0 : Shut (PRel w w3 p g D m d st w1.heap.size A5 kn c5 k w2.heap.size A6 ln c6 l) := ⟨⟨Q2.out.pass x3 Q2.out.lt, R2.out.pass x3 R2.out.lt, X2.out.trans (x3.mono X2.out.size), OwnV.pass O5.out x3, o6⟩⟩
  clear x3 o6 O5 Q1 Q2 R1 R2 X1 X2 P1 P2 F
  go_upto_block 0 with fail
  go_cut [10] (fun v wx => v = .int .i64 (K : Int) ∧ Shut (PRel w wx p g D m d st w1.heap.size A5 kn c5 k w2.heap.size A6 ln c6 l))
  case first =>
    go_wp2_with fail
    go_loopg [10] (kn + 1) (fun gg v wr => ∃ i : Nat, kn - i < gg ∧ i ≤ kn ∧ i ≤ ln ∧ v = .int .i64 (i : Int) ∧ Shut (stopAt (keepB k l (p : Int)) (min kn ln) i = K) ∧ Shut (PRel w wr p g D m d st w1.heap.size A5 kn c5 k w2.heap.size A6 ln c6 l))
    case atStart => exact ⟨0, by omega, by omega, by omega, rfl, HK0, S0⟩
    case round =>
      obtain ⟨i, hg, hik, hil, rfl, SI, R⟩ := hrel
      have c0 := later_cell R.out.four.c0
      by_cases h1 : i < kn
      · by_cases h2 : i < ln
        · obtain ⟨v1, v2⟩ := cutsV_at k i (by rw [HKN.out]; exact h1)
          obtain ⟨v3, v4⟩ := cutsV_at l i (by rw [HLN.out]; exact h2)
          obtain ⟨ga, rfl, _⟩ := OwnV.form R.out.ok (by omega)
          obtain ⟨gb, rfl, _⟩ := OwnV.form R.out.ol (by omega)
          have d1 := later_cell ((OwnV.cellAt R.out.ok (i * 2) (by omega)).trans v1)
          have d2 := later_cell ((OwnV.cellAt R.out.ok (i * 2 + 1) (by omega)).trans v2)
          have d3 := later_cell ((OwnV.cellAt R.out.ol (i * 2) (by omega)).trans v3)
          have d4 := later_cell ((OwnV.cellAt R.out.ol (i * 2 + 1) (by omega)).trans v4)
          have KB : keepB k l (p : Int) i = (((((rng k i).1 : Int) == ((rng l i).1 : Int)) && (((rng k i).2 : Int) == ((rng l i).2 : Int))) && decide (((rng k i).2 : Int) ≤ (p : Int))) := by
            unfold keepB
            congr 1
            rw [Bool.eq_iff_iff, beq_iff_eq, Prod.ext_iff, Bool.and_eq_true, beq_iff_eq, beq_iff_eq, Int.natCast_inj, Int.natCast_inj]
          generalize ((rng k i).1 : Int) = a1 at *
          generalize ((rng k i).2 : Int) = a2 at *
          generalize ((rng l i).1 : Int) = b1 at *
          generalize ((rng l i).2 : Int) = b2 at *
          have i1 : (i : Int) < (kn : Int) := by omega
          have i2 : (i : Int) < (ln : Int) := by omega
          have f1 : decide ((i : Int) < (kn : Int)) = true := by simp; omega
          have f2 : decide ((i : Int) < (ln : Int)) = true := by simp; omega
          have pi0 : (0 : Int) ≤ (i : Int) := by omega
          have hmin : i < min kn ln := by omega
          have i9 : i ≤ 1001 := by omega
          clear v1 v2 v3 v4
          have SK : Shut _ := ⟨KB⟩
          clear KB
          cases e1 : a1 == b1 with
          | false =>
            have SI2 : Shut (i = K) := ⟨(stopAt_stop (fun _ => SK.out.trans (by rw [e1]; rfl))).symm.trans SI.out⟩
            clear hmin
            go_wp2_with fail
            refine wp_region_later (by kernel_rfl) (by kernel_rfl) ?_
            repeat (go_big_quiet_step (fail))
            refine wpQuiet_nil ?_
            intro _ hw'
            obtain ⟨nq, hw''⟩ := hw'
            subst hw''
            go_wp2_with fail
            go_meet
            exact ⟨by rw [SI2.out], ⟨R.out.pass nq.2⟩⟩
          | true =>
            cases e2 : a2 == b2 with
            | false =>
              have SI2 : Shut (i = K) := ⟨(stopAt_stop (fun _ => SK.out.trans (by rw [e1, e2]; rfl))).symm.trans SI.out⟩
              clear hmin
              go_wp2_with fail
              refine wp_region_later (by kernel_rfl) (by kernel_rfl) ?_
              repeat (go_big_quiet_step (fail))
              refine wpQuiet_nil ?_
              intro _ hw'
              obtain ⟨nq, hw''⟩ := hw'
              subst hw''
              go_wp2_with fail
              go_meet
              exact ⟨by rw [SI2.out], ⟨R.out.pass nq.2⟩⟩
            | true =>
              by_cases e3 : a2 ≤ (p : Int)
              · have SI2 : Shut _ := ⟨(stopAt_step hmin (SK.out.trans (by rw [e1, e2]; simpa using e3))).symm.trans SI.out⟩
                have f3 : decide (a2 ≤ (p : Int)) = true := by simpa using e3
                clear hmin
                go_wp2_with fail
                refine wp_region_later (by kernel_rfl) (by kernel_rfl) ?_
                repeat (go_big_quiet_step (fail))
                refine wpQuiet_nil ?_
                intro _ hw'
                obtain ⟨nq, hw''⟩ := hw'
                subst hw''
                go_wp2_with fail
                have R2 : Shut _ := ⟨R.out.pass nq.2⟩
                go_roundg (kn - i)
                case measure => omega
                case rel => exact ⟨i + 1, by omega, by omega, by omega, by go_num, SI2, R2⟩
              · have SI2 : Shut (i = K) := ⟨(stopAt_stop (fun _ => SK.out.trans (by rw [e1, e2]; simpa using e3))).symm.trans SI.out⟩
                have f3 : decide (a2 ≤ (p : Int)) = false := by simpa using e3
                clear hmin
                go_wp2_with fail
                refine wp_region_later (by kernel_rfl) (by kernel_rfl) ?_
                repeat (go_big_quiet_step (fail))
                refine wpQuiet_nil ?_
                intro _ hw'
                obtain ⟨nq, hw''⟩ := hw'
                subst hw''
                go_wp2_with fail
                go_meet
                exact ⟨by rw [SI2.out], ⟨R.out.pass nq.2⟩⟩
        · have SI2 : Shut (i = K) := ⟨(stopAt_stop (fun h => absurd h (by omega))).symm.trans SI.out⟩
          have f1 : decide ((i : Int) < (kn : Int)) = true := by simp; omega
          have i1 : (i : Int) < (kn : Int) := by omega
          have f2 : decide ((i : Int) < (ln : Int)) = false := by simp; omega
          have f3 : decide (i < ln) = false := by simp; omega
          clear h2
          go_wp2_with fail
          refine wp_region_later (by kernel_rfl) (by kernel_rfl) ?_
          repeat (go_big_quiet_step (fail))
          refine wpQuiet_nil ?_
          intro _ hw'
          obtain ⟨nq, hw''⟩ := hw'
          subst hw''
          go_wp2_with fail
          go_meet
          exact ⟨by rw [SI2.out], ⟨R.out.pass nq.2⟩⟩
      · have SI2 : Shut (i = K) := ⟨(stopAt_stop (fun h => absurd h (by omega))).symm.trans SI.out⟩
        have f2 : decide ((i : Int) < (kn : Int)) = false := by simp; omega
        have f3 : decide (i < kn) = false := by simp; omega
        clear h1
        go_wp2_with fail
        refine wp_region_later (by kernel_rfl) (by kernel_rfl) ?_
        repeat (go_big_quiet_step (fail))
        refine wpQuiet_nil ?_
        intro _ hw'
        obtain ⟨nq, hw''⟩ := hw'
        subst hw''
        go_wp2_with fail
        go_meet
        exact ⟨by rw [SI2.out], ⟨R.out.pass nq.2⟩⟩
  case rest =>
    obtain ⟨rfl, R0⟩ := hcut
    clear S0
    go_upto_block 2 with fail
    go_cut [11] (fun v wx => v = .int .i64 (T : Int) ∧ Shut (PRel w wx p g D m d st w1.heap.size A5 kn c5 k w2.heap.size A6 ln c6 l))
    case first =>
      go_wp2_with fail
      go_loopg [11] (kn + 1) (fun gg v wr => ∃ t : Nat, kn - t < gg ∧ t ≤ kn - K ∧ t ≤ ln - K ∧ v = .int .i64 (t : Int) ∧ Shut (stopAt (tailB k l ((p : Int) + g) ((m : Int) - g)) (min (kn - K) (ln - K)) t = T) ∧ Shut (PRel w wr p g D m d st w1.heap.size A5 kn c5 k w2.heap.size A6 ln c6 l))
      case atStart => exact ⟨0, by omega, by omega, by omega, rfl, HT0, R0⟩
      case round =>
        obtain ⟨t, hg, htk, htl, rfl, SI, R⟩ := hrel
        by_cases h1 : t < kn - K
        · have g1 : (t : Int) < (kn : Int) - (K : Int) := by omega
          by_cases h2 : t < ln - K
          · have g2 : (t : Int) < (ln : Int) - (K : Int) := by omega
            obtain ⟨u, hu⟩ : ∃ u, kn - 1 - t = u := ⟨_, rfl⟩
            obtain ⟨v, hv⟩ : ∃ v, ln - 1 - t = v := ⟨_, rfl⟩
            have hu2 : u < kn := by omega
            have hv2 : v < ln := by omega
            obtain ⟨v1, v2⟩ := cutsV_at k u (by rw [HKN.out]; exact hu2)
            obtain ⟨v3, v4⟩ := cutsV_at l v (by rw [HLN.out]; exact hv2)
            obtain ⟨ga, rfl, _⟩ := OwnV.form R.out.ok (by omega)
            obtain ⟨gb, rfl, _⟩ := OwnV.form R.out.ol (by omega)
            have d1 := (OwnV.cellAt R.out.ok (u * 2) (by omega)).trans v1
            have d2 := (OwnV.cellAt R.out.ok (u * 2 + 1) (by omega)).trans v2
            have d3 := (OwnV.cellAt R.out.ol (v * 2) (by omega)).trans v3
            have d4 := (OwnV.cellAt R.out.ol (v * 2 + 1) (by omega)).trans v4
            have F1 : (0 : Int) ≤ ((rng k u).1 : Int) ∧ ((rng k u).1 : Int) ≤ ((rng k u).2 : Int) ∧ ((rng k u).2 : Int) ≤ 1000 := by
              obtain ⟨h3, h4⟩ := E1.out u hu2
              omega
            have F2 : (0 : Int) ≤ ((rng l v).1 : Int) ∧ ((rng l v).1 : Int) ≤ ((rng l v).2 : Int) ∧ ((rng l v).2 : Int) ≤ 1000 := by
              obtain ⟨h3, h4⟩ := E2.out v hv2
              omega
            have TB : Shut (tailB k l ((p : Int) + g) ((m : Int) - g) t = (decide ((p : Int) + g ≤ ((rng k u).1 : Int)) && (decide (((rng k u).1 : Int) + ((m : Int) - g) = (rng l v).1) && decide (((rng k u).2 : Int) + ((m : Int) - g) = (rng l v).2)))) := ⟨by
              unfold tailB; rw [HKN.out, HLN.out, hu, hv]⟩
            generalize ((rng k u).1 : Int) = x1 at *
            generalize ((rng k u).2 : Int) = x2 at *
            generalize ((rng l v).1 : Int) = y1 at *
            generalize ((rng l v).2 : Int) = y2 at *
            have eu : (kn : Int) - 1 - (t : Int) = (u : Int) := by omega
            have ev : (ln : Int) - 1 - (t : Int) = (v : Int) := by omega
            have pu : (0 : Int) ≤ (u : Int) := by omega
            have pv : (0 : Int) ≤ (v : Int) := by omega
            have pu2 : (u : Int) < (kn : Int) := by omega
            have pv2 : (v : Int) < (ln : Int) := by omega
            have hmin : Shut (t < min (kn - K) (ln - K)) := ⟨by omega⟩
            have HG : Shut (t < kn ∧ t < ln) := ⟨by omega⟩
            clear v1 v2 v3 v4 hu hv
            go_upto_region 10 with fail
            go_cut [12, 13] (fun va vb wx => ∃ p1 p2 : Nat, va = .pointer (some ⟨p1, 0, none⟩) ∧ vb = .pointer (some ⟨p2, 0, none⟩) ∧ Shut (Two wx p1 35 (.int .i64 x1) (.int .i64 x2)) ∧ Shut (Two wx p2 35 (.int .i64 y1) (.int .i64 y2)) ∧ Shut (PRel w wx p g D m d st w1.heap.size (some ⟨ga, 0, none⟩) kn c5 k w2.heap.size (some ⟨gb, 0, none⟩) ln c6 l))
            case first =>
              go_wp2_with fail
              go_region
              · go_step
                go_step
                go_meet
                exact ⟨wr.heap.size, wr.heap.size + 1, rfl, rfl, ⟨Two.drew ((Two.new _ _ _ _).alloc _)⟩, ⟨Two.drew (Two.newN _ _ _ _ _ (by simp))⟩, ⟨R.out.pass (below_drewP ((below_alloc wr _).alloc (by simp) _))⟩⟩
              · go_step
                go_step
                go_meet
                exact ⟨wr.heap.size + 1, wr.heap.size, rfl, rfl, ⟨Two.drew (Two.newN _ _ _ _ _ (by simp))⟩, ⟨Two.drew ((Two.new _ _ _ _).alloc _)⟩, ⟨R.out.pass (below_drewP ((below_alloc wr _).alloc (by simp) _))⟩⟩
            case rest =>
              obtain ⟨p1, p2, rfl, rfl, t1, t2, R2⟩ := hcut
              have c0 := R2.out.four.c0
              have c1 := R2.out.four.c1
              have z1 := t1.out.c0
              have z2 := t1.out.c1
              have z3 := t2.out.c0
              have z4 := t2.out.c1
              clear d1 d2 d3 d4 eu ev pu pv pu2 pv2 R t1 t2
              by_cases k1 : x1 < (p : Int) + g
              · have SI2 : Shut (t = T) := ⟨(stopAt_stop (fun _ => TB.out.trans (by simp; omega))).symm.trans SI.out⟩
                have k2 : decide (x1 < (p : Int) + g) = true := by simpa using k1
                go_wp2_with fail
                go_meet
                exact ⟨by rw [SI2.out], R2⟩
              · have k2 : decide (x1 < (p : Int) + g) = false := by simpa using k1
                have k3 : (p : Int) + g ≤ x1 := by omega
                cases k4 : (x1 + ((m : Int) - g)) != y1 with
                | true =>
                  have SI2 : Shut (t = T) := ⟨(stopAt_stop (fun _ => TB.out.trans (by simp at k4; simp [k4]))).symm.trans SI.out⟩
                  go_wp2_with fail
                  go_meet
                  exact ⟨by rw [SI2.out], R2⟩
                | false =>
                  cases k5 : (x2 + ((m : Int) - g)) != y2 with
                  | true =>
                    have SI2 : Shut (t = T) := ⟨(stopAt_stop (fun _ => TB.out.trans (by simp at k5; simp [k5]))).symm.trans SI.out⟩
                    go_wp2_with fail
                    go_meet
                    exact ⟨by rw [SI2.out], R2⟩
                  | false =>
                    have SI2 : Shut _ := ⟨(stopAt_step hmin.out (TB.out.trans (by simp at k4 k5; simp [k4, k5, k3]))).symm.trans SI.out⟩
                    go_wp2_with fail
                    go_roundg (kn - t)
                    case measure => have := HG.out; omega
                    case rel => exact ⟨t + 1, by omega, by omega, by omega, by go_num, SI2, R2⟩
          · have SI2 : Shut (t = T) := ⟨(stopAt_stop (fun h => absurd h (by omega))).symm.trans SI.out⟩
            have g2 : ¬ (t : Int) < (ln : Int) - (K : Int) := by omega
            have g3 : decide ((t : Int) < (ln : Int) - (K : Int)) = false := by simpa using g2
            clear h2 h1
            go_wp2_with fail
            go_meet
            exact ⟨by rw [SI2.out], R⟩
        · have SI2 : Shut (t = T) := ⟨(stopAt_stop (fun h => absurd h (by omega))).symm.trans SI.out⟩
          have g1 : ¬ (t : Int) < (kn : Int) - (K : Int) := by omega
          have g3 : decide ((t : Int) < (kn : Int) - (K : Int)) = false := by simpa using g1
          clear h1
          go_wp2_with fail
          go_meet
          exact ⟨by rw [SI2.out], R⟩
    case rest =>
      obtain ⟨rfl, R⟩ := hcut
      have RES := R.out.res
      have WE : Shut (Below w.heap.size w wc) := ⟨R.out.be⟩
      have T1 : Shut _ := ⟨hTle⟩
      go_wp2_with (refine wpList_store_row rfl 30 (.tmp 6) (.tmp 134) rfl (w.heap.size + 1) _ rfl rfl 30 _ RES chgSize (by rfl) (four_all52 _ _ _ _) ?_)
      exact chg_done (by rfl) RES WE.out
end Go.Proofs.YtilbcafkjpikgaaDoor
