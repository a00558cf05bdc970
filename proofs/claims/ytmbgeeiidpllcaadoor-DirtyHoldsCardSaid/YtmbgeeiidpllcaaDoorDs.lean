/- Chapter 52: the text behind an edit, the program's way; the window of signs, both ways. -/
import Derived.Test.YtmbgeeiidpllcaaDoorDfit
import Derived.Test.YtmbgeeiidpllcaaDoorDwin
import Derived.Test.YtmbgeeiidpllcaaDoorSt
import Derived.Deep.DeepCutAuto
import Derived.Deep.CutBlock
namespace Go.Proofs.YtmbgeeiidpllcaaDoor
open Go.ChangeShapes Go.WideShapes Go.ChangeAt Go.RowKit
set_option maxRecDepth 100000
set_option linter.unusedSimpArgs false

/-- a fact that nothing opens -/
structure Shut (p : Prop) : Prop where
  out : p
set_option maxHeartbeats 2000000 in
theorem pdone_any (A : Option Addr) (n c : Nat) (xs : List Int) (p g : Nat) (hpg : p + g ≤ n) (B : Option Addr) (m d : Nat) (st : Int) (ys : List Int) (w : World) (hx : SliceIn .i32 w A n c xs) (hy : SliceIn .i32 w B m d ys) (hn : (n + m) * 4 ≤ 140737488355328) :
    Calls Tryd.prog 16 #[.slice A n c, .agg #[.int .i64 (p : Int), .int .i64 (g : Int), .slice B m d, .int .i64 st]] w fun e w' => ∃ (A2 : Option Addr) (c2 : Nat), e = .returned (.slice A2 (n - g + m) c2) ∧ SliceIn .i32 w' A2 (n - g + m) c2 (behind xs ys p g) ∧ Below w.heap.size w w' := by
  have HX := Lib.hid hx
  have HY := Lib.hid hy
  have HLEN := Lib.hid hx.at_.len
  have hle := hx.le
  obtain ⟨Ah, ch, CH⟩ := cut_h TI32d A n c p (by omega) hle p rfl
  obtain ⟨Al, cl, CL⟩ := cut_l TI32d A n c (p + g) hpg hle ((p : Int) + (g : Int)) (by omega)
  have rh := CH.run
  have rl := CL.run
  have SH := Lib.hid (CH.sliceIn hx)
  have SL := Lib.hid (CL.sliceIn hx)
  clear hx hy CH CL
  go_enter Tryd.func16, Tryd.ntmps16
  have OE : Shut (Own ((w.alloc (.cells #[.int .i64 (p : Int), .int .i64 (g : Int), .slice B m d, .int .i64 st] 24)).alloc (.cells #[] 21)) (w.heap.size + 1) 21 .i32 (some ⟨w.heap.size + 1, 0, none⟩) 0 0 []) := ⟨by
    have := own_empty (w.alloc (.cells #[.int .i64 (p : Int), .int .i64 (g : Int), .slice B m d, .int .i64 st] 24)) 21 .i32 (w.heap.size + 1) (by simp)
    simpa using this⟩
  have BE : Shut (Below w.heap.size w ((w.alloc (.cells #[.int .i64 (p : Int), .int .i64 (g : Int), .slice B m d, .int .i64 st] 24)).alloc (.cells #[] 21))) := ⟨(below_alloc w _).alloc (by simp) _⟩
  go_wp2_with (first
    | (at_builtin; refine wpList_appendN TI32d rfl (.tmp 6) (.tmp 10) rfl rfl OE.out rfl (SH.out.at_.later BE.out) p (by omega) (by omega) (by simp) ?_; intro A1 c1 w1 o1 b1; have q0 := (b1.cell (p := ⟨w.heap.size, 0, none⟩) (Nat.lt_succ_self _)).trans (show ((w.alloc (.cells #[.int .i64 (p : Int), .int .i64 (g : Int), .slice B m d, .int .i64 st] 24)).alloc (.cells #[] 21)).cell? ⟨w.heap.size, 0, none⟩ = some (.int .i64 (p : Int)) from cell_alloc (by rw [cell_of_row _ _ _ _ _ _ (heap_alloc_new w _)]; rfl) _); have q1 := (b1.cell (p := ⟨w.heap.size, 1, none⟩) (Nat.lt_succ_self _)).trans (show ((w.alloc (.cells #[.int .i64 (p : Int), .int .i64 (g : Int), .slice B m d, .int .i64 st] 24)).alloc (.cells #[] 21)).cell? ⟨w.heap.size, 1, none⟩ = some (.int .i64 (g : Int)) from cell_alloc (by rw [cell_of_row _ _ _ _ _ _ (heap_alloc_new w _)]; rfl) _); have q2 := (b1.cell (p := ⟨w.heap.size, 2, none⟩) (Nat.lt_succ_self _)).trans (show ((w.alloc (.cells #[.int .i64 (p : Int), .int .i64 (g : Int), .slice B m d, .int .i64 st] 24)).alloc (.cells #[] 21)).cell? ⟨w.heap.size, 2, none⟩ = some (.slice B m d) from cell_alloc (by rw [cell_of_row _ _ _ _ _ _ (heap_alloc_new w _)]; rfl) _); have z1 : w.heap.size + 1 ≤ w1.heap.size := (by have := b1.size; simp at this; omega); have x1 := BE.out.trans (b1.mono (Nat.le_succ _)); have O1 := Lib.hid o1; have X1 := Lib.hid x1; clear o1 b1 x1)
    | (at_builtin; refine wpList_appendN TI32d rfl (.tmp 12) (.tmp 14) rfl rfl O1.out rfl (HY.out.pass X1.out).at_ (p + m) rfl (by omega) z1 ?_; intro A2 c2 w2 o2 b2; have r0 := (b2.cell (p := ⟨w.heap.size, 0, none⟩) (Nat.lt_succ_self _)).trans q0; have r1 := (b2.cell (p := ⟨w.heap.size, 1, none⟩) (Nat.lt_succ_self _)).trans q1; have x2 := X1.out.trans (b2.mono (Nat.le_succ _)); have z2 := Nat.le_trans z1 b2.size; have O2 := Lib.hid o2; have X2 := Lib.hid x2; clear o2 b2 x2)
    | (at_builtin; refine wpList_appendN TI32d rfl (.tmp 16) (.tmp 23) rfl rfl O2.out rfl (SL.out.pass X2.out).at_ (n - g + m) (by omega) (by omega) z2 ?_; intro A3 c3 w3 o3 b3; have x3 := X2.out.trans (b3.mono (Nat.le_succ _)); have O3 := Lib.hid o3; have X3 := Lib.hid x3; clear o3 b3 x3))
  go_ret
  have ho := O3.out
  have et : xs.take n = xs := List.take_of_length_le (by rw [HLEN.out]; exact Nat.le_refl _)
  rw [List.nil_append, List.drop_zero, et] at ho
  refine ⟨A3, c3, rfl, ho.sliceIn ?_, X3.out⟩
  intro x hx
  rcases List.mem_append.1 hx with h | h
  · rcases List.mem_append.1 h with h | h
    · exact HX.out.wf x (List.mem_of_mem_take h)
    · exact HY.out.wf x h
  · exact HX.out.wf x (List.mem_of_mem_drop h)

/-- a function value of two numbers that makes new memory at most -/
def Tells2 (P : Program) (g : Nat) (lb : Array Value) (same : Nat → Nat → Bool) (n nb : Nat) (W : World) : Prop :=
  ∀ i k : Nat, i < n → k < nb → Calls P g (#[.int .i64 (i : Int), .int .i64 (k : Int)] ++ lb) W fun e w' => e = .returned (.bool (same i k)) ∧ Below W.heap.size W w'
/-- a block of four cells -/
def Four (w : World) (b : Nat) (t : TypeId) (x y z u : Value) : Prop := w.heap[b]? = some (.cells #[x, y, z, u] t (0, 0))
section
variable {w w' : World} {b : Nat} {t : TypeId} {x y z u : Value}
theorem Four.lt (h : Four w b t x y z u) : b < w.heap.size := lt_of_block h
theorem Four.c0 (h : Four w b t x y z u) : w.cell? ⟨b, 0, none⟩ = some x := by rw [cell_of_row _ _ _ _ _ _ h]; rfl
theorem Four.c1 (h : Four w b t x y z u) : w.cell? ⟨b, 1, none⟩ = some y := by rw [cell_of_row _ _ _ _ _ _ h]; rfl
theorem Four.c2 (h : Four w b t x y z u) : w.cell? ⟨b, 2, none⟩ = some z := by rw [cell_of_row _ _ _ _ _ _ h]; rfl
theorem Four.c3 (h : Four w b t x y z u) : w.cell? ⟨b, 3, none⟩ = some u := by rw [cell_of_row _ _ _ _ _ _ h]; rfl
theorem Four.pass {B : Nat} (h : Four w b t x y z u) (hb : Below B w w') (hB : b < B) : Four w' b t x y z u := (hb.block b hB).trans h
theorem Four.new (w : World) (t : TypeId) (x y z u : Value) (N : Nat) (h : w.heap.size = N) : Four (w.alloc (.cells #[x, y, z, u] t)) N t x y z u := by subst h; exact heap_alloc_new w _
theorem Four.alloc (h : Four w b t x y z u) (o : Obj) : Four (w.alloc o) b t x y z u := h.pass ((Below.refl _ _).alloc (Nat.le_refl _) o) h.lt
theorem Four.far (h : Four w b t x y z u) {a : Addr} (ha : b ≠ a.block) (v : Value) : Four (w.setCell a v) b t x y z u := by
  unfold Four
  rw [Below.heap_setCell _ _ _ _ ha]
  exact h
theorem Two.newN (w : World) (t : TypeId) (x y : Value) (N : Nat) (h : w.heap.size = N) : Two (w.alloc (.cells #[x, y] t)) N t x y := by subst h; exact heap_alloc_new w _
end
def editV (p g : Nat) (D : Option Addr) (m d : Nat) (st : Int) : Value := .agg #[.int .i64 (p : Int), .int .i64 (g : Int), .slice D m d, .int .i64 st]
theorem cutSize52 : (Tryd.prog.info? 27).map (·.size) = some 2 := by kernel_rfl

theorem two_all52 (a b : Int) : (#[Value.int .i64 a, Value.int .i64 b] : Array Value).all (·.oneCell') = true := by simp [Value.oneCell']
theorem cut_done {a b x y : Value} {w w1 : World} {tmps : Array Value} (ht : tmps.getD 6 undef = .pointer (some ⟨w.heap.size + 1, 0, none⟩)) (R : Two w1 (w.heap.size + 1) 27 x y) (hb : Below w.heap.size w w1) :
    bodyPost Tryd.prog Tryd.f24 (fun e w' => e = .returned (.agg #[a, b]) ∧ Below w.heap.size w w') .ret ⟨tmps, []⟩ (w1.setRow (w.heap.size + 1) #[a, b]) := by
  refine bodyPost_ret (v := .agg #[a, b]) (results_cell_row Tryd.results24 _ _ (w.heap.size + 1) 27 _ (0, 0) _ ht (setRow_heap _ _ _ _ _ _ R) Tryd.underlying27 rfl cutSize52) rfl ⟨rfl, ?_⟩
  exact below_setRow hb (by omega) _
/-- what lies in memory while the window is sought -/
structure SRel (w wr : World) (p g : Nat) (D : Option Addr) (m d : Nat) (st : Int) (i q : Int) : Prop where
  four : Four wr w.heap.size 24 (.int .i64 (p : Int)) (.int .i64 (g : Int)) (.slice D m d) (.int .i64 st)
  res : Two wr (w.heap.size + 1) 27 (.int .i64 0) (.int .i64 0)
  win : Two wr (w.heap.size + 1 + 1) 27 (.int .i64 i) (.int .i64 q)
  be : Below w.heap.size w wr
section
variable {w wr w' : World} {p g : Nat} {D : Option Addr} {m d : Nat} {st : Int} {i q : Int}
theorem SRel.sz (h : SRel w wr p g D m d st i q) : w.heap.size + 3 ≤ wr.heap.size := by have := h.win.lt; omega
theorem SRel.pass (h : SRel w wr p g D m d st i q) (hb : Below wr.heap.size wr w') : SRel w w' p g D m d st i q :=
  ⟨h.four.pass hb h.four.lt, h.res.pass hb h.res.lt, h.win.pass hb h.win.lt, h.be.trans (hb.mono h.be.size)⟩
theorem SRel.set0 (h : SRel w wr p g D m d st i q) (x : Int) : SRel w (wr.setCell ⟨w.heap.size + 1 + 1, 0, none⟩ (.int .i64 x)) p g D m d st x q :=
  ⟨h.four.far (by simp; omega) _, h.res.far (by simp) _, h.win.set0 _, Below.setCell h.be (p := ⟨w.heap.size + 1 + 1, 0, none⟩) (by simp; omega) _⟩
theorem SRel.set1 (h : SRel w wr p g D m d st i q) (x : Int) : SRel w (wr.setCell ⟨w.heap.size + 1 + 1, 1, none⟩ (.int .i64 x)) p g D m d st i x :=
  ⟨h.four.far (by simp; omega) _, h.res.far (by simp) _, h.win.set1 _, Below.setCell h.be (p := ⟨w.heap.size + 1 + 1, 1, none⟩) (by simp; omega) _⟩
end

set_option maxHeartbeats 4000000 in
theorem psigns_any (gf : Nat) (bx bY : Addr) (same : Nat → Nat → Bool) (n p g : Nat) (hpg : p + g ≤ n) (D : Option Addr) (m d : Nat) (st : Int) (w : World) (hn : n ≤ 1000) (hm : m ≤ 1000)
    (eg : ∀ args w, (callFunc gf args).run Tryd.prog w = .ok (.enter gf args) w) (ht : ∀ W, Below w.heap.size w W → Tells2 Tryd.prog gf #[.pointer (some bx), .pointer (some bY)] same n (n - g + m) W) :
    Calls Tryd.prog 24 #[.int .i64 (n : Int), .agg #[.int .i64 (p : Int), .int .i64 (g : Int), .slice D m d, .int .i64 st], .func (.func gf) #[] #[.pointer (some bx), .pointer (some bY)]] w fun e w' => e = .returned (.agg #[.int .i64 (sgF same p : Nat), .int .i64 ((n - sgT same n p g m : Nat) : Int)]) ∧ Below w.heap.size w w' := by
  have HT : Shut _ := ⟨ht⟩
  obtain ⟨F, hF⟩ : ∃ F, sgF same p = F := ⟨_, rfl⟩
  obtain ⟨T, hT⟩ : ∃ T, sgT same n p g m = T := ⟨_, rfl⟩
  have hFp := sgF_le same p
  have hTp := sgT_le same n p g m
  rw [hF] at hFp
  rw [hT] at hTp
  rw [hF, hT]
  have SF : Shut (stopAt (fun j => same j j) p 0 = F) := ⟨hF⟩
  have STT : Shut (stopAt (sgB same n g m) (n - (p + g)) 0 = T) := ⟨hT⟩
  clear ht hF hT
  go_enter Tryd.func24, Tryd.ntmps24
  go_upto_block 0 with fail
  have S0 : Shut (SRel w (((w.alloc (.cells #[.int .i64 (p : Int), .int .i64 (g : Int), .slice D m d, .int .i64 st] 24)).alloc (.cells #[.int .i64 0, .int .i64 0] 27)).alloc (.cells #[.int .i64 0, .int .i64 (n : Int)] 27)) p g D m d st 0 n) :=
    ⟨⟨((Four.new w _ _ _ _ _ _ rfl).alloc _).alloc _, (Two.newN _ _ _ _ _ (by simp)).alloc _, Two.newN _ _ _ _ _ (by simp), ((below_alloc w _).alloc (by simp) _).alloc (by simp; omega) _⟩⟩
  go_cut [] (fun wx => Shut (SRel w wx p g D m d st F n))
  case first =>
    go_wp2_with fail
    go_loopg [] (p + 1) (fun gg wr => ∃ i : Nat, p - i < gg ∧ i ≤ p ∧ Shut (stopAt (fun j => same j j) p i = F) ∧ Shut (SRel w wr p g D m d st (i : Int) n))
    case atStart => exact ⟨0, by omega, by omega, SF, S0⟩
    case round =>
      obtain ⟨i, hg, hip, SI, R⟩ := hrel
      have hz := R.out.sz
      have c0 := R.out.win.c0
      have cp := R.out.four.c0
      by_cases hlt : i < p
      · have CT : Shut _ := ⟨HT.out wr R.out.be i i (by omega) (by omega)⟩
        have i1 : (i : Int) < (p : Int) := by omega
        have f0 := R.out.win.f 0
        cases hs : same i i with
        | true =>
          have SI2 : Shut _ := ⟨(stopAt_step (p := fun j => same j j) hlt hs).symm.trans SI.out⟩
          rw [hs] at CT
          clear hs f0
          go_wp2_with fail
          refine CT.out.mono ?_
          rintro e w2 ⟨rfl, b2⟩
          have R2 : Shut _ := ⟨R.out.pass b2⟩
          have c2 := R2.out.win.c0
          have f2 := R2.out.win.f 0
          have hz2 := R2.out.sz
          have R3 : Shut _ := ⟨R2.out.set0 ((i : Int) + 1)⟩
          clear b2 c0 cp
          go_wp2_with fail
          go_roundg (p - i)
          case measure => omega
          case rel => exact ⟨i + 1, by omega, by omega, SI2, by simpa using R3⟩
        | false =>
          have SI2 : Shut (i = F) := ⟨(stopAt_stop (p := fun j => same j j) (fun _ => hs)).symm.trans SI.out⟩
          rw [hs] at CT
          clear hs f0
          go_wp2_with fail
          refine CT.out.mono ?_
          rintro e w2 ⟨rfl, b2⟩
          have R2 : Shut _ := ⟨R.out.pass b2⟩
          clear b2 c0 cp
          go_wp2_with fail
          go_meet
          rw [← SI2.out]
          exact R2
      · have SI2 : Shut (i = F) := ⟨(stopAt_stop (p := fun j => same j j) (fun h => absurd h hlt)).symm.trans SI.out⟩
        have i1 : decide ((i : Int) < (p : Int)) = false := by simp; omega
        have i2 : decide (i < p) = false := by simp; omega
        go_wp2_with fail
        go_meet
        rw [← SI2.out]
        exact R
  case rest =>
    have R0 := hcut
    clear hcut S0
    go_wp2_with fail
    go_loopg [] (n + 1) (fun gg wr => ∃ j q : Nat, q < gg ∧ j ≤ n - (p + g) ∧ n - j = q ∧ Shut (stopAt (sgB same n g m) (n - (p + g)) j = T) ∧ Shut (SRel w wr p g D m d st F (q : Int)))
    case atStart => exact ⟨0, n, by omega, by omega, by omega, STT, R0⟩
    case round =>
      obtain ⟨j, q, hg, hj, hq, SI, R⟩ := hrel
      have hz := R.out.sz
      have cp := R.out.four.c0
      have cg := R.out.four.c1
      by_cases hlt : j < n - (p + g)
      · obtain ⟨i, rfl⟩ : ∃ i, q = i + 1 := ⟨q - 1, by omega⟩
        obtain ⟨k, hk⟩ : ∃ k, i + m - g = k := ⟨_, rfl⟩
        have c1 := R.out.win.c1
        have CT : Shut _ := ⟨HT.out wr R.out.be i k (by omega) (by omega)⟩
        have SB : Shut (sgB same n g m j = same i k) := ⟨by unfold sgB; rw [show n - 1 - j = i by omega, hk]⟩
        have e2 : (i : Int) + ((m : Int) - (g : Int)) = (k : Int) := by omega
        have i1 : (p : Int) + (g : Int) < (i : Int) + 1 := by omega
        have i0 : (0 : Int) ≤ (i : Int) := by omega
        have hi : i ≤ 1000 := by omega
        have hkk : k ≤ 2000 := by omega
        have hqa : n ≤ i + 1 + j := by omega
        have hqb : i + 1 + j ≤ n := by omega
        cases hs : same i k with
        | true =>
          have SI2 : Shut _ := ⟨(stopAt_step (p := sgB same n g m) hlt (SB.out.trans hs)).symm.trans SI.out⟩
          rw [hs] at CT
          clear hs hk hq
          go_wp2_with fail
          refine CT.out.mono ?_
          rintro e w2 ⟨rfl, b2⟩
          have R2 : Shut _ := ⟨R.out.pass b2⟩
          have c2 := R2.out.win.c1
          have f2 := R2.out.win.f 1
          have hz2 := R2.out.sz
          have R3 : Shut _ := ⟨R2.out.set1 (i : Int)⟩
          clear b2 c1 cp cg e2
          go_wp2_with fail
          go_roundg (i + 1)
          case measure => omega
          case rel => exact ⟨j + 1, i, by omega, by omega, by omega, SI2, by simpa using R3⟩
        | false =>
          have SI2 : Shut (j = T) := ⟨(stopAt_stop (p := sgB same n g m) (fun _ => SB.out.trans hs)).symm.trans SI.out⟩
          have QT : Shut (n - T = i + 1) := ⟨by rw [← SI2.out]; exact hq⟩
          rw [hs] at CT
          clear hs hk hq
          go_wp2_with fail
          refine CT.out.mono ?_
          rintro e w2 ⟨rfl, b2⟩
          have R2 : Shut _ := ⟨R.out.pass b2⟩
          have cA := R2.out.win.c0
          have cB := R2.out.win.c1
          have RES := R2.out.res
          have hz2 := R2.out.sz
          clear b2 c1 cp cg e2
          have WE : Shut (Below w.heap.size w w2) := ⟨R2.out.be⟩
          go_wp2_with (refine wpList_store_row rfl 27 (.tmp 6) (.tmp 58) rfl (w.heap.size + 1) _ rfl rfl 27 _ RES cutSize52 (by rfl) (two_all52 _ _) ?_)
          rw [QT.out]
          exact cut_done (by rfl) RES WE.out
      · have hjt : j = n - (p + g) := by omega
        have SI2 : Shut (j = T) := ⟨(stopAt_stop (p := sgB same n g m) (fun h => absurd h hlt)).symm.trans SI.out⟩
        have QT : Shut (n - T = q) := ⟨by rw [← SI2.out]; exact hq⟩
        have hqp : q = p + g := by omega
        have i1 : ¬ (p : Int) + (g : Int) < (q : Int) := by omega
        have i2 : decide ((p : Int) + (g : Int) < (q : Int)) = false := by simp; omega
        have cA := R.out.win.c0
        have cB := R.out.win.c1
        have RES := R.out.res
        have WE : Shut (Below w.heap.size w wr) := ⟨R.out.be⟩
        have hq1 : q ≤ 1000 := by omega
        clear hjt hqp hq
        go_wp2_with (refine wpList_store_row rfl 27 (.tmp 6) (.tmp 58) rfl (w.heap.size + 1) _ rfl rfl 27 _ RES cutSize52 (by rfl) (two_all52 _ _) ?_)
        rw [QT.out]
        exact cut_done (by rfl) RES WE.out
end Go.Proofs.YtmbgeeiidpllcaaDoor
