/- Chapter 52: which paragraphs an edit changes: the program's answer. -/
import Derived.Test.YtilbcafkjpikgaaDoorDpr
namespace Go.Proofs.YtilbcafkjpikgaaDoor
open Go.ChangeShapes Go.WideShapes Go.ChangeAt Go.RowKit
set_option maxRecDepth 100000
set_option linter.unusedSimpArgs false

section
variable {w w' : World} {b : Nat} {t : TypeId} {x y z u : Value}
theorem Four.f (h : Four w b t x y z u) (j : Nat) : w.frozen? ⟨b, j, none⟩ = false := frozen_of_row _ _ _ _ _ h
theorem Four.set0 (h : Four w b t x y z u) (v : Value) : Four (w.setCell ⟨b, 0, none⟩ v) b t v y z u := by
  have hlt := h.lt
  have h' : w.heap[b] = .cells #[x, y, z, u] t (0, 0) := by unfold Four at h; simpa [Array.getElem?_eq_getElem hlt] using h
  show (w.heap.modify b _)[b]? = _
  rw [Array.getElem?_eq_getElem (by simpa using hlt), Array.getElem_modify_self, h']
  rfl
theorem Four.set1 (h : Four w b t x y z u) (v : Value) : Four (w.setCell ⟨b, 1, none⟩ v) b t x v z u := by
  have hlt := h.lt
  have h' : w.heap[b] = .cells #[x, y, z, u] t (0, 0) := by unfold Four at h; simpa [Array.getElem?_eq_getElem hlt] using h
  show (w.heap.modify b _)[b]? = _
  rw [Array.getElem?_eq_getElem (by simpa using hlt), Array.getElem_modify_self, h']
  rfl
theorem Four.set2 (h : Four w b t x y z u) (v : Value) : Four (w.setCell ⟨b, 2, none⟩ v) b t x y v u := by
  have hlt := h.lt
  have h' : w.heap[b] = .cells #[x, y, z, u] t (0, 0) := by unfold Four at h; simpa [Array.getElem?_eq_getElem hlt] using h
  show (w.heap.modify b _)[b]? = _
  rw [Array.getElem?_eq_getElem (by simpa using hlt), Array.getElem_modify_self, h']
  rfl
theorem Four.set3 (h : Four w b t x y z u) (v : Value) : Four (w.setCell ⟨b, 3, none⟩ v) b t x y z v := by
  have hlt := h.lt
  have h' : w.heap[b] = .cells #[x, y, z, u] t (0, 0) := by unfold Four at h; simpa [Array.getElem?_eq_getElem hlt] using h
  show (w.heap.modify b _)[b]? = _
  rw [Array.getElem?_eq_getElem (by simpa using hlt), Array.getElem_modify_self, h']
  rfl
end
theorem chgSizeP : (Tryd.prog.info? 28).map (·.size) = some 4 := by kernel_rfl
theorem chg_doneP {a b c d x y z u : Value} {w w1 : World} {tmps : Array Value} (ht : tmps.getD 6 undef = .pointer (some ⟨w.heap.size + 1, 0, none⟩)) (R : Four w1 (w.heap.size + 1) 28 x y z u) (hb : Below w.heap.size w w1) :
    bodyPost Tryd.prog Tryd.f10 (fun e w' => e = .returned (.agg #[a, b, c, d]) ∧ Below w.heap.size w w') .ret ⟨tmps, []⟩ (w1.setRow (w.heap.size + 1) #[a, b, c, d]) := by
  refine bodyPost_ret (v := .agg #[a, b, c, d]) (results_cell_row Tryd.results10 _ _ (w.heap.size + 1) 28 _ (0, 0) _ ht (setRow_heap _ _ _ _ _ _ R) Tryd.underlying28 rfl chgSizeP) rfl ⟨rfl, ?_⟩
  exact below_setRow hb (by omega) _
/-- what lies in memory while paragraphs are compared: the counters in a block -/
structure QRel (w wr : World) (p g : Nat) (D : Option Addr) (m d : Nat) (st : Int) (B5 : Nat) (A5 : Option Addr) (kn c5 : Nat) (k : List (Nat × Nat)) (B6 : Nat) (A6 : Option Addr) (ln c6 : Nat) (l : List (Nat × Nat)) (gc : Nat) (a t : Int) : Prop where
  four : Four wr w.heap.size 24 (.int .i64 (p : Int)) (.int .i64 (g : Int)) (.slice D m d) (.int .i64 st)
  res : Four wr (w.heap.size + 1) 28 (.int .i64 0) (.int .i64 0) (.int .i64 0) (.int .i64 0)
  be : Below w.heap.size w wr
  ok : OwnV wr B5 35 2 A5 kn c5 (cutsV k)
  ol : OwnV wr B6 35 2 A6 ln c6 (cutsV l)
  cnt : Four wr gc 28 (.int .i64 a) (.int .i64 0) (.int .i64 0) (.int .i64 t)
  a5 : Apart A5 (some ⟨gc, 0, none⟩)
  a6 : Apart A6 (some ⟨gc, 0, none⟩)
  gcl : w.heap.size + 2 ≤ gc
section
variable {w wr w' : World} {p g : Nat} {D : Option Addr} {m d : Nat} {st : Int} {B5 : Nat} {A5 : Option Addr} {kn c5 : Nat} {k : List (Nat × Nat)} {B6 : Nat} {A6 : Option Addr} {ln c6 : Nat} {l : List (Nat × Nat)} {gc : Nat} {a t : Int}
theorem QRel.pass (h : QRel w wr p g D m d st B5 A5 kn c5 k B6 A6 ln c6 l gc a t) (hb : Below wr.heap.size wr w') : QRel w w' p g D m d st B5 A5 kn c5 k B6 A6 ln c6 l gc a t :=
  ⟨h.four.pass hb h.four.lt, h.res.pass hb h.res.lt, h.be.trans (hb.mono h.be.size), h.ok.pass hb, h.ol.pass hb, h.cnt.pass hb h.cnt.lt, h.a5, h.a6, h.gcl⟩
theorem QRel.set0 (h : QRel w wr p g D m d st B5 A5 kn c5 k B6 A6 ln c6 l gc a t) (v : Int) : QRel w (wr.setCell ⟨gc, 0, none⟩ (.int .i64 v)) p g D m d st B5 A5 kn c5 k B6 A6 ln c6 l gc v t :=
  have hg := h.gcl
  ⟨h.four.far (by simp; omega) _, h.res.far (by simp; omega) _, Below.setCell h.be (p := ⟨gc, 0, none⟩) (by simp; omega) _, h.ok.far h.a5 _, h.ol.far h.a6 _, h.cnt.set0 _, h.a5, h.a6, h.gcl⟩
theorem QRel.set3 (h : QRel w wr p g D m d st B5 A5 kn c5 k B6 A6 ln c6 l gc a t) (v : Int) : QRel w (wr.setCell ⟨gc, 3, none⟩ (.int .i64 v)) p g D m d st B5 A5 kn c5 k B6 A6 ln c6 l gc a v :=
  have hg := h.gcl
  ⟨h.four.far (by simp; omega) _, h.res.far (by simp; omega) _, Below.setCell h.be (p := ⟨gc, 3, none⟩) (by simp; omega) _, h.ok.far h.a5 _, h.ol.far h.a6 _, h.cnt.set3 _, h.a5, h.a6, h.gcl⟩
end

set_option maxHeartbeats 4000000 in
theorem pdp_any (A : Option Addr) (n c : Nat) (xs : List Int) (B : Option Addr) (nb cb : Nat) (ys : List Int) (p g : Nat) (D : Option Addr) (m d : Nat) (st : Int) (w : World) (hx : SliceIn .i32 w A n c xs) (hy : SliceIn .i32 w B nb cb ys) (hl : Laid w) (hn : n ≤ 1000) (hnb : nb ≤ 1000) (hm : m ≤ 1000) (hf : fitsB n m p g = true) :
    Calls Tryd.prog 10 #[.slice A n c, .slice B nb cb, .agg #[.int .i64 (p : Int), .int .i64 (g : Int), .slice D m d, .int .i64 st]] w fun e w' => e = .returned (paraV (allP xs) (allP ys) p g m) ∧ Below w.heap.size w w' := by
  have F := Lib.hid (fun W => pfits_any n (by omega) p g D m d st (by omega) W)
  simp only [hf] at F
  have P1 := Lib.hid (fun W (hb : Below w.heap.size w W) => pall_any A n c xs W (hx.pass hb) (hl.pass hb) (by omega))
  have P2 := Lib.hid (fun W (hb : Below w.heap.size w W) => pall_any B nb cb ys W (hy.pass hb) (hl.pass hb) (by omega))
  have hk1 := allP_len xs
  have hl1 := allP_len ys
  have he1 := allP_each xs
  have he2 := allP_each ys
  rw [hx.at_.len] at hk1 he1
  rw [hy.at_.len] at hl1 he2
  have hpg : p + g ≤ n := by unfold fitsB at hf; simp at hf; omega
  clear hx hy hf hl
  generalize allP xs = k at *
  generalize allP ys = l at *
  obtain ⟨kn, hkn⟩ : ∃ kn, k.length = kn := ⟨_, rfl⟩
  obtain ⟨ln, hln⟩ : ∃ ln, l.length = ln := ⟨_, rfl⟩
  have hKle := keepN_le k l (p : Int)
  have hTle := tailN_le k l (p : Int) ((p : Int) + g) ((m : Int) - g)
  have hK0 : stopAt (keepB k l (p : Int)) (min k.length l.length) 0 = keepN k l (p : Int) := rfl
  have hT0 : stopAt (tailB k l ((p : Int) + g) ((m : Int) - g)) (min (k.length - keepN k l (p : Int)) (l.length - keepN k l (p : Int))) 0 = tailN k l (p : Int) ((p : Int) + g) ((m : Int) - g) := rfl
  unfold paraV
  unfold NewCuts at P1 P2
  obtain ⟨K, hK⟩ : ∃ K, keepN k l (p : Int) = K := ⟨_, rfl⟩
  obtain ⟨T, hT⟩ : ∃ T, tailN k l (p : Int) ((p : Int) + g) ((m : Int) - g) = T := ⟨_, rfl⟩
  rw [hkn] at P1 hk1 he1 hKle hTle hK0 hT0
  rw [hln] at P2 hl1 he2 hKle hTle hK0 hT0
  rw [hK] at hKle hTle hK0 hT0
  rw [hT] at hTle hT0
  rw [hkn, hln, hK, hT]
  have E1 : Shut _ := ⟨he1⟩
  have E2 : Shut _ := ⟨he2⟩
  have HK0 : Shut _ := ⟨hK0⟩
  have HT0 : Shut _ := ⟨hT0⟩
  have HKN : Shut (k.length = kn) := ⟨hkn⟩
  have HLN : Shut (l.length = ln) := ⟨hln⟩
  clear he1 he2 hK0 hT0 hkn hln hK hT
  go_enter Tryd.func10, Tryd.ntmps10
  go_wp2_with fail
  refine (F.out _).mono ?_
  rintro e w1 ⟨rfl, x1⟩
  have Q1 : Shut (Four w1 w.heap.size 24 (.int .i64 (p : Int)) (.int .i64 (g : Int)) (.slice D m d) (.int .i64 st)) := ⟨((Four.new w _ _ _ _ _ _ rfl).alloc _).pass x1 (by simp; omega)⟩
  have R1 : Shut (Four w1 (w.heap.size + 1) 28 (.int .i64 0) (.int .i64 0) (.int .i64 0) (.int .i64 0)) := ⟨(Four.new _ _ _ _ _ _ _ (by simp)).pass x1 (by simp)⟩
  have X1 : Shut (Below w.heap.size w w1) := ⟨((below_alloc w _).alloc (by simp) _).trans (x1.mono (by simp; omega))⟩
  have c0 := Q1.out.c0
  have c1 := Q1.out.c1
  have c2 := Q1.out.c2
  clear x1
  go_wp2_with fail
  refine (P1.out _ X1.out).mono ?_
  rintro e w2 ⟨A5, c5, rfl, o5, x2⟩
  have X2 : Shut (Below w.heap.size w w2) := ⟨X1.out.trans (x2.mono X1.out.size)⟩
  have Q2 : Shut _ := ⟨Q1.out.pass x2 Q1.out.lt⟩
  have R2 : Shut _ := ⟨R1.out.pass x2 R1.out.lt⟩
  have O5 : Shut _ := ⟨o5⟩
  clear x2 o5 c0 c1 c2
  go_wp2_with fail
  refine (P2.out _ X2.out).mono ?_
  rintro e w3 ⟨A6, c6, rfl, o6, x3⟩
  have S3 : Shut (Four w3 w.heap.size 24 (.int .i64 (p : Int)) (.int .i64 (g : Int)) (.slice D m d) (.int .i64 st)) := ⟨Q2.out.pass x3 Q2.out.lt⟩
  have hz3 : w.heap.size + 2 ≤ w3.heap.size := by have := R2.out.lt; have := x3.size; omega
  have bx := below_alloc w3 (.cells #[.int .i64 0, .int .i64 0, .int .i64 0, .int .i64 0] 28)
  have OK3 := OwnV.pass O5.out x3
  have S0 : Shut (QRel w (w3.alloc (.cells #[.int .i64 0, .int .i64 0, .int .i64 0, .int .i64 0] 28)) p g D m d st w1.heap.size A5 kn c5 k w2.heap.size A6 ln c6 l w3.heap.size 0 0) :=
    ⟨⟨S3.out.alloc _, (R2.out.pass x3 R2.out.lt).alloc _, (X2.out.trans (x3.mono X2.out.size)).trans (bx.mono (by omega)), OwnV.alloc OK3 _, OwnV.alloc o6 _, Four.new _ _ _ _ _ _ _ rfl, OwnV.new_apart OK3 (Nat.le_refl _), OwnV.new_apart o6 (Nat.le_refl _), hz3⟩⟩
  have c0 := S3.out.c0
  have c1 := S3.out.c1
  have c2 := S3.out.c2
  clear x3 o6 O5 Q1 Q2 R1 R2 X1 X2 P1 P2 F OK3 bx
  obtain ⟨gc, hgc⟩ : ∃ gc, w3.heap.size = gc := ⟨_, rfl⟩
  go_upto_block 0 with fail
  rw [hgc] at S0
  clear c0 c1 c2 S3 hgc
  go_cut [] (fun wx => Shut (QRel w wx p g D m d st w1.heap.size A5 kn c5 k w2.heap.size A6 ln c6 l gc (K : Int) 0))
  case first =>
    go_wp2_with fail
    go_loopg [] (kn + 1) (fun gg wr => ∃ i : Nat, kn - i < gg ∧ i ≤ kn ∧ i ≤ ln ∧ Shut (stopAt (keepB k l (p : Int)) (min kn ln) i = K) ∧ Shut (QRel w wr p g D m d st w1.heap.size A5 kn c5 k w2.heap.size A6 ln c6 l gc (i : Int) 0))
    case atStart => exact ⟨0, by omega, by omega, by omega, HK0, S0⟩
    case round =>
      obtain ⟨i, hg, hik, hil, SI, R⟩ := hrel
      have c0 := later_cell R.out.four.c0
      have c9 := later_cell R.out.cnt.c0
      by_cases h1 : i < kn
      · by_cases h2 : i < ln
        · obtain ⟨v1, v2⟩ := cutsV_at k i (by rw [HKN.out]; exact h1)
          obtain ⟨v3, v4⟩ := cutsV_at l i (by rw [HLN.out]; exact h2)
          obtain ⟨ga, rfl, _⟩ := OwnV.form R.out.ok (by omega)
          obtain ⟨gb, rfl, _⟩ := OwnV.form R.out.ol (by omega)
          have d1 := later_cell ((OwnV.cellAt R.out.ok (i * 2) (by omega)).trans v1)
          have d2 := later_cell ((OwnV.cellAt R.out.ok (i * 2 + 1) (by omega)).trans v2)
          have d3 := later_cell ((OwnV.cellAt R.out.ol (i * 2) (by omega)).trans v3)
          have d4 := later_cell ((OwnV.cellAt R.out.ol (i * 2 + 1) (by omega)).trans v4)
          have KB : keepB k l (p : Int) i = (((((rng k i).1 : Int) == ((rng l i).1 : Int)) && (((rng k i).2 : Int) == ((rng l i).2 : Int))) && decide (((rng k i).2 : Int) ≤ (p : Int))) := by
            unfold keepB
            congr 1
            rw [Bool.eq_iff_iff, beq_iff_eq, Prod.ext_iff, Bool.and_eq_true, beq_iff_eq, beq_iff_eq, Int.natCast_inj, Int.natCast_inj]
          generalize ((rng k i).1 : Int) = a1 at *
          generalize ((rng k i).2 : Int) = a2 at *
          generalize ((rng l i).1 : Int) = b1 at *
          generalize ((rng l i).2 : Int) = b2 at *
          have i1 : (i : Int) < (kn : Int) := by omega
          have i2 : (i : Int) < (ln : Int) := by omega
          have f1 : decide ((i : Int) < (kn : Int)) = true := by simp; omega
          have f2 : decide ((i : Int) < (ln : Int)) = true := by simp; omega
          have pi0 : (0 : Int) ≤ (i : Int) := by omega
          have hmin : i < min kn ln := by omega
          have i9 : i ≤ 1001 := by omega
          clear v1 v2 v3 v4
          have SK : Shut _ := ⟨KB⟩
          clear KB
          cases e1 : a1 == b1 with
          | false =>
            have SI2 : Shut (i = K) := ⟨(stopAt_stop (fun _ => SK.out.trans (by rw [e1]; rfl))).symm.trans SI.out⟩
            clear hmin
            go_wp2_with fail
            refine wp_region_later (by kernel_rfl) (by kernel_rfl) ?_
            repeat (go_big_quiet_step (fail))
            refine wpQuiet_nil ?_
            intro _ hw'
            obtain ⟨nq, hw''⟩ := hw'
            subst hw''
            go_wp2_with fail
            go_meet
            rw [← SI2.out]
            exact ⟨R.out.pass nq.2⟩
          | true =>
            cases e2 : a2 == b2 with
            | false =>
              have SI2 : Shut (i = K) := ⟨(stopAt_stop (fun _ => SK.out.trans (by rw [e1, e2]; rfl))).symm.trans SI.out⟩
              clear hmin
              go_wp2_with fail
              refine wp_region_later (by kernel_rfl) (by kernel_rfl) ?_
              repeat (go_big_quiet_step (fail))
              refine wpQuiet_nil ?_
              intro _ hw'
              obtain ⟨nq, hw''⟩ := hw'
              subst hw''
              go_wp2_with fail
              go_meet
              rw [← SI2.out]
              exact ⟨R.out.pass nq.2⟩
            | true =>
              by_cases e3 : a2 ≤ (p : Int)
              · have SI2 : Shut _ := ⟨(stopAt_step hmin (SK.out.trans (by rw [e1, e2]; simpa using e3))).symm.trans SI.out⟩
                have f3 : decide (a2 ≤ (p : Int)) = true := by simpa using e3
                clear hmin
                go_wp2_with fail
                refine wp_region_later (by kernel_rfl) (by kernel_rfl) ?_
                repeat (go_big_quiet_step (fail))
                refine wpQuiet_nil ?_
                intro _ hw'
                obtain ⟨nq, hw''⟩ := hw'
                subst hw''
                have R2 : Shut _ := ⟨R.out.pass nq.2⟩
                have c8 := R2.out.cnt.c0
                have f8 := R2.out.cnt.f 0
                have hz8 := R2.out.cnt.lt
                have R3 : Shut _ := ⟨R2.out.set0 ((i : Int) + 1)⟩
                generalize nq.1 = W8 at *
                clear c0 c9 d1 d2 d3 d4
                go_wp2_with fail
                go_roundg (kn - i)
                case measure => omega
                case rel => exact ⟨i + 1, by omega, by omega, by omega, SI2, by simpa using R3⟩
              · have SI2 : Shut (i = K) := ⟨(stopAt_stop (fun _ => SK.out.trans (by rw [e1, e2]; simpa using e3))).symm.trans SI.out⟩
                have f3 : decide (a2 ≤ (p : Int)) = false := by simpa using e3
                clear hmin
                go_wp2_with fail
                refine wp_region_later (by kernel_rfl) (by kernel_rfl) ?_
                repeat (go_big_quiet_step (fail))
                refine wpQuiet_nil ?_
                intro _ hw'
                obtain ⟨nq, hw''⟩ := hw'
                subst hw''
                go_wp2_with fail
                go_meet
                rw [← SI2.out]
                exact ⟨R.out.pass nq.2⟩
        · have SI2 : Shut (i = K) := ⟨(stopAt_stop (fun h => absurd h (by omega))).symm.trans SI.out⟩
          have f1 : decide ((i : Int) < (kn : Int)) = true := by simp; omega
          have i1 : (i : Int) < (kn : Int) := by omega
          have f2 : decide ((i : Int) < (ln : Int)) = false := by simp; omega
          have f3 : decide (i < ln) = false := by simp; omega
          clear h2
          go_wp2_with fail
          refine wp_region_later (by kernel_rfl) (by kernel_rfl) ?_
          repeat (go_big_quiet_step (fail))
          refine wpQuiet_nil ?_
          intro _ hw'
          obtain ⟨nq, hw''⟩ := hw'
          subst hw''
          go_wp2_with fail
          go_meet
          rw [← SI2.out]
          exact ⟨R.out.pass nq.2⟩
      · have SI2 : Shut (i = K) := ⟨(stopAt_stop (fun h => absurd h (by omega))).symm.trans SI.out⟩
        have f2 : decide ((i : Int) < (kn : Int)) = false := by simp; omega
        have f3 : decide (i < kn) = false := by simp; omega
        clear h1
        go_wp2_with fail
        refine wp_region_later (by kernel_rfl) (by kernel_rfl) ?_
        repeat (go_big_quiet_step (fail))
        refine wpQuiet_nil ?_
        intro _ hw'
        obtain ⟨nq, hw''⟩ := hw'
        subst hw''
        go_wp2_with fail
        go_meet
        rw [← SI2.out]
        exact ⟨R.out.pass nq.2⟩
  case rest =>
    have R0 := hcut
    clear hcut S0
    go_upto_block 2 with fail
    go_cut [] (fun wx => Shut (QRel w wx p g D m d st w1.heap.size A5 kn c5 k w2.heap.size A6 ln c6 l gc (K : Int) (T : Int)))
    case first =>
      go_wp2_with fail
      go_loopg [] (kn + 1) (fun gg wr => ∃ t : Nat, kn - t < gg ∧ t ≤ kn - K ∧ t ≤ ln - K ∧ Shut (stopAt (tailB k l ((p : Int) + g) ((m : Int) - g)) (min (kn - K) (ln - K)) t = T) ∧ Shut (QRel w wr p g D m d st w1.heap.size A5 kn c5 k w2.heap.size A6 ln c6 l gc (K : Int) (t : Int)))
      case atStart => exact ⟨0, by omega, by omega, by omega, HT0, R0⟩
      case round =>
        obtain ⟨t, hg, htk, htl, SI, R⟩ := hrel
        have n0 := R.out.cnt.c0
        have n3 := R.out.cnt.c3
        have n8 := R.out.four.c0
        have n9 := R.out.four.c1
        by_cases h1 : t < kn - K
        · have g1 : (K : Int) + (t : Int) < (kn : Int) := by omega
          by_cases h2 : t < ln - K
          · have g2 : (K : Int) + (t : Int) < (ln : Int) := by omega
            obtain ⟨u, hu⟩ : ∃ u, kn - 1 - t = u := ⟨_, rfl⟩
            obtain ⟨v, hv⟩ : ∃ v, ln - 1 - t = v := ⟨_, rfl⟩
            have hu2 : u < kn := by omega
            have hv2 : v < ln := by omega
            obtain ⟨v1, v2⟩ := cutsV_at k u (by rw [HKN.out]; exact hu2)
            obtain ⟨v3, v4⟩ := cutsV_at l v (by rw [HLN.out]; exact hv2)
            obtain ⟨ga, rfl, _⟩ := OwnV.form R.out.ok (by omega)
            obtain ⟨gb, rfl, _⟩ := OwnV.form R.out.ol (by omega)
            have d1 := (OwnV.cellAt R.out.ok (u * 2) (by omega)).trans v1
            have d2 := (OwnV.cellAt R.out.ok (u * 2 + 1) (by omega)).trans v2
            have d3 := (OwnV.cellAt R.out.ol (v * 2) (by omega)).trans v3
            have d4 := (OwnV.cellAt R.out.ol (v * 2 + 1) (by omega)).trans v4
            have F1 : (0 : Int) ≤ ((rng k u).1 : Int) ∧ ((rng k u).1 : Int) ≤ ((rng k u).2 : Int) ∧ ((rng k u).2 : Int) ≤ 1000 := by
              obtain ⟨h3, h4⟩ := E1.out u hu2
              omega
            have F2 : (0 : Int) ≤ ((rng l v).1 : Int) ∧ ((rng l v).1 : Int) ≤ ((rng l v).2 : Int) ∧ ((rng l v).2 : Int) ≤ 1000 := by
              obtain ⟨h3, h4⟩ := E2.out v hv2
              omega
            have TB : Shut (tailB k l ((p : Int) + g) ((m : Int) - g) t = (decide ((p : Int) + g ≤ ((rng k u).1 : Int)) && (decide (((rng k u).1 : Int) + ((m : Int) - g) = (rng l v).1) && decide (((rng k u).2 : Int) + ((m : Int) - g) = (rng l v).2)))) := ⟨by
              unfold tailB; rw [HKN.out, HLN.out, hu, hv]⟩
            generalize ((rng k u).1 : Int) = x1 at *
            generalize ((rng k u).2 : Int) = x2 at *
            generalize ((rng l v).1 : Int) = y1 at *
            generalize ((rng l v).2 : Int) = y2 at *
            have eu : (kn : Int) - 1 - (t : Int) = (u : Int) := by omega
            have ev : (ln : Int) - 1 - (t : Int) = (v : Int) := by omega
            have pu : (0 : Int) ≤ (u : Int) := by omega
            have pv : (0 : Int) ≤ (v : Int) := by omega
            have pu2 : (u : Int) < (kn : Int) := by omega
            have pv2 : (v : Int) < (ln : Int) := by omega
            have hmin : Shut (t < min (kn - K) (ln - K)) := ⟨by omega⟩
            have HG : Shut (t < kn ∧ t < ln) := ⟨by omega⟩
            clear v1 v2 v3 v4 hu hv
            go_upto_region 10 with fail
            go_cut [11, 12] (fun va vb wx => ∃ p1 p2 : Nat, va = .pointer (some ⟨p1, 0, none⟩) ∧ vb = .pointer (some ⟨p2, 0, none⟩) ∧ Shut (Two wx p1 35 (.int .i64 x1) (.int .i64 x2)) ∧ Shut (Two wx p2 35 (.int .i64 y1) (.int .i64 y2)) ∧ Shut (QRel w wx p g D m d st w1.heap.size (some ⟨ga, 0, none⟩) kn c5 k w2.heap.size (some ⟨gb, 0, none⟩) ln c6 l gc (K : Int) (t : Int)))
            case first =>
              have n3a := fun o1 : Obj => cell_alloc n3 o1
              have n3b := fun o1 o2 : Obj => cell_alloc (cell_alloc n3 o1) o2
              have n3c : ∀ o1 : Obj, ((wr.alloc o1).drew).cell? _ = some _ := n3a
              have n3d : ∀ o1 o2 : Obj, (((wr.alloc o1).alloc o2).drew).cell? _ = some _ := n3b
              have d1a := fun o1 : Obj => cell_alloc d1 o1
              have d1b := fun o1 o2 : Obj => cell_alloc (cell_alloc d1 o1) o2
              have d1c : ∀ o1 : Obj, ((wr.alloc o1).drew).cell? _ = some _ := d1a
              have d1d : ∀ o1 o2 : Obj, (((wr.alloc o1).alloc o2).drew).cell? _ = some _ := d1b
              have d2a := fun o1 : Obj => cell_alloc d2 o1
              have d2b := fun o1 o2 : Obj => cell_alloc (cell_alloc d2 o1) o2
              have d2c : ∀ o1 : Obj, ((wr.alloc o1).drew).cell? _ = some _ := d2a
              have d2d : ∀ o1 o2 : Obj, (((wr.alloc o1).alloc o2).drew).cell? _ = some _ := d2b
              have d3a := fun o1 : Obj => cell_alloc d3 o1
              have d3b := fun o1 o2 : Obj => cell_alloc (cell_alloc d3 o1) o2
              have d3c : ∀ o1 : Obj, ((wr.alloc o1).drew).cell? _ = some _ := d3a
              have d3d : ∀ o1 o2 : Obj, (((wr.alloc o1).alloc o2).drew).cell? _ = some _ := d3b
              have d4a := fun o1 : Obj => cell_alloc d4 o1
              have d4b := fun o1 o2 : Obj => cell_alloc (cell_alloc d4 o1) o2
              have d4c : ∀ o1 : Obj, ((wr.alloc o1).drew).cell? _ = some _ := d4a
              have d4d : ∀ o1 o2 : Obj, (((wr.alloc o1).alloc o2).drew).cell? _ = some _ := d4b
              clear n3a n3b d1a d1b d2a d2b d3a d3b d4a d4b
              go_wp2_with fail
              go_region
              all_goals (go_step; go_step; go_meet)
              all_goals first
                | exact ⟨wr.heap.size, wr.heap.size + 1, rfl, rfl, ⟨Two.drew ((Two.new _ _ _ _).alloc _)⟩, ⟨Two.drew (Two.newN _ _ _ _ _ (by simp))⟩, ⟨R.out.pass (below_drewP ((below_alloc wr _).alloc (by simp) _))⟩⟩
                | exact ⟨wr.heap.size + 1, wr.heap.size, rfl, rfl, ⟨Two.drew (Two.newN _ _ _ _ _ (by simp))⟩, ⟨Two.drew ((Two.new _ _ _ _).alloc _)⟩, ⟨R.out.pass (below_drewP ((below_alloc wr _).alloc (by simp) _))⟩⟩
            case rest =>
              obtain ⟨p1, p2, rfl, rfl, t1, t2, R2⟩ := hcut
              have c0 := R2.out.four.c0
              have c1 := R2.out.four.c1
              have c8 := R2.out.cnt.c3
              have f8 := R2.out.cnt.f 3
              have hz8 := R2.out.cnt.lt
              have z1 := t1.out.c0
              have z2 := t1.out.c1
              have z3 := t2.out.c0
              have z4 := t2.out.c1
              clear d1 d2 d3 d4 eu ev pu pv pu2 pv2 R t1 t2 n0 n3 n8 n9
              by_cases k1 : x1 < (p : Int) + g
              · have SI2 : Shut (t = T) := ⟨(stopAt_stop (fun _ => TB.out.trans (by simp; omega))).symm.trans SI.out⟩
                have k2 : decide (x1 < (p : Int) + g) = true := by simpa using k1
                go_wp2_with fail
                go_meet
                rw [← SI2.out]
                exact R2
              · have k2 : decide (x1 < (p : Int) + g) = false := by simpa using k1
                have k3 : (p : Int) + g ≤ x1 := by omega
                cases k4 : y1 != (x1 + ((m : Int) - g)) with
                | true =>
                  have SI2 : Shut (t = T) := ⟨(stopAt_stop (fun _ => TB.out.trans (by simp at k4; simp [Ne.symm k4]))).symm.trans SI.out⟩
                  go_wp2_with fail
                  go_meet
                  rw [← SI2.out]
                  exact R2
                | false =>
                  cases k5 : y2 != (x2 + ((m : Int) - g)) with
                  | true =>
                    have SI2 : Shut (t = T) := ⟨(stopAt_stop (fun _ => TB.out.trans (by simp at k5; simp [Ne.symm k5]))).symm.trans SI.out⟩
                    go_wp2_with fail
                    go_meet
                    rw [← SI2.out]
                    exact R2
                  | false =>
                    have SI2 : Shut _ := ⟨(stopAt_step hmin.out (TB.out.trans (by simp at k4 k5; simp [k4, k5, k3]))).symm.trans SI.out⟩
                    have R3 : Shut _ := ⟨R2.out.set3 ((t : Int) + 1)⟩
                    go_wp2_with fail
                    go_roundg (kn - t)
                    case measure => have := HG.out; omega
                    case rel => exact ⟨t + 1, by omega, by omega, by omega, SI2, by simpa using R3⟩
          · have SI2 : Shut (t = T) := ⟨(stopAt_stop (fun h => absurd h (by omega))).symm.trans SI.out⟩
            have g2 : ¬ (K : Int) + (t : Int) < (ln : Int) := by omega
            have g3 : decide ((K : Int) + (t : Int) < (ln : Int)) = false := by simpa using g2
            clear h2 h1
            go_wp2_with fail
            go_meet
            rw [← SI2.out]
            exact R
        · have SI2 : Shut (t = T) := ⟨(stopAt_stop (fun h => absurd h (by omega))).symm.trans SI.out⟩
          have g1 : ¬ (K : Int) + (t : Int) < (kn : Int) := by omega
          have g3 : decide ((K : Int) + (t : Int) < (kn : Int)) = false := by simpa using g1
          clear h1
          go_wp2_with fail
          go_meet
          rw [← SI2.out]
          exact R
    case rest =>
      have R := hcut
      clear hcut
      have hg := R.out.gcl
      have e0 := R.out.cnt.c0
      have e3 := R.out.cnt.c3
      have e1 := R.out.cnt.c1
      have e2 := R.out.cnt.c2
      have f1 := R.out.cnt.f 1
      have f2 := R.out.cnt.f 2
      have hzc := R.out.cnt.lt
      have N1 := R.out.cnt.set1 (.int .i64 ((kn : Int) - (K : Int) - (T : Int)))
      have f3 := N1.f 2
      have e4 := N1.c2
      have N2 := N1.set2 (.int .i64 ((ln : Int) - (K : Int) - (T : Int)))
      have h0 := N2.c0
      have h1 := N2.c1
      have h2 := N2.c2
      have h3 := N2.c3
      have RES := (R.out.res.far (a := ⟨gc, 1, none⟩) (by simp; omega) (.int .i64 ((kn : Int) - (K : Int) - (T : Int)))).far (a := ⟨gc, 2, none⟩) (by simp; omega) (.int .i64 ((ln : Int) - (K : Int) - (T : Int)))
      have WE : Shut _ := ⟨Below.setCell (Below.setCell R.out.be (p := ⟨gc, 1, none⟩) (by simp; omega) (.int .i64 ((kn : Int) - (K : Int) - (T : Int)))) (p := ⟨gc, 2, none⟩) (by simp; omega) (.int .i64 ((ln : Int) - (K : Int) - (T : Int)))⟩
      have T1 : Shut _ := ⟨hTle⟩
      clear N1 N2
      go_wp2_with (refine wpList_store_row rfl 28 (.tmp 6) (.tmp 153) rfl (w.heap.size + 1) _ rfl rfl 28 _ RES chgSizeP (by rfl) (four_all52 _ _ _ _) ?_)
      exact chg_doneP (by rfl) RES WE.out
end Go.Proofs.YtilbcafkjpikgaaDoor
