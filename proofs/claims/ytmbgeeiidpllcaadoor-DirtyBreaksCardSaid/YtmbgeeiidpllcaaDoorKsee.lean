/- Chapter 19: the program's view of a text. -/
import Derived.Test.YtmbgeeiidpllcaaDoorKro
import Derived.Test.YtmbgeeiidpllcaaDoorKsep
import Derived.Test.YtmbgeeiidpllcaaDoorReg
namespace Go.Proofs.YtmbgeeiidpllcaaDoor
open Go.ChangeShapes Go.WideShapes Go.ChangeAt Go.RowKit
set_option maxRecDepth 100000
set_option linter.unusedSimpArgs false

def RowD.val (r : RowD) : Value := .slice r.A r.n r.c
/-- while the view is made -/
structure SeeI (w W : World) (a b c : RowD) : Prop where
  be : Below w.heap.size w W
  res : Tri W w.heap.size 48 (.slice none 0 0) (.slice none 0 0) (.slice none 0 0)
  tri : Tri W (w.heap.size + 1) 48 (.slice a.A a.n a.c) (.slice b.A b.n b.c) (.slice c.A c.n c.c)
  sep : Sep W (w.heap.size + 2) 3 (rows5 a b c none none)
  sz : w.heap.size + 2 ≤ W.heap.size
theorem SeeI.pass {w W W' : World} {a b c : RowD} (h : SeeI w W a b c) (hb : Below W.heap.size W W') : SeeI w W' a b c :=
  ⟨h.be.trans (hb.mono h.be.size), h.res.pass hb h.res.lt, h.tri.pass hb h.tri.lt, h.sep.pass hb, Nat.le_trans h.sz hb.size⟩
theorem SeeI.cell {w W : World} {a b c : RowD} (h : SeeI w W a b c) {i : Nat} {r : RowD} (hi : rows5 a b c none none i = some r) {j : Nat} (hj : j < r.n) : ∃ g, r.A = some ⟨g, 0, none⟩ ∧ W.cell? ⟨g, j, none⟩ = some (.int .i64 (nth r.xs j)) := by
  have o := h.sep.1 i r hi
  obtain ⟨g, e, _, _⟩ := OwnV.form o (by omega)
  rw [e] at o
  obtain ⟨a2, e2, _, h3⟩ := o.ints.2 (by omega)
  obtain rfl := Option.some.inj e2
  have := h3 j hj
  rw [add_zero_at] at this
  exact ⟨g, e, this⟩
/-- a sign's class stored -/
theorem SeeI.own_ {w w1 w4 : World} {A : Option Addr} {n cc : Nat} {l : List Int} {b c : RowD} {cu : Int} {A4 : Option Addr} {c4 : Nat} (h : SeeI w w1 ⟨A, n, cc, l⟩ b c)
    (o4 : Own w4 (w.heap.size + 2) 3 .i64 A4 (n + 1) c4 (l ++ [cu])) (b4 : Below (w.heap.size + 2) (w1.alloc (.cells #[.int .i64 cu] 3)) w4)
    (g4 : (w1.alloc (.cells #[.int .i64 cu] 3)).grownBy w4 (Value.slice A n cc).ownBlock) (a4 : ∀ g, A4 = some ⟨g, 0, none⟩ → A = some ⟨g, 0, none⟩ ∨ (w1.alloc (.cells #[.int .i64 cu] 3)).heap.size ≤ g) :
    SeeI w (w4.setCell ⟨w.heap.size + 1, 0, none⟩ (.slice A4 (n + 1) c4)) ⟨A4, n + 1, c4, l ++ [cu]⟩ b c := by
  have s1 := h.sep.lit 3 cu h.sz
  rw [rows5_3] at s1
  have s2 := Sep.push s1 (i := 0) rfl o4 g4 a4
  rw [rows5_0] at s2
  have s3 := (s2.drop).far (b := w.heap.size + 1) (j := 0) (by omega) (.slice A4 (n + 1) c4)
  have bb := (h.be.alloc (by have := h.sz; omega) (.cells #[.int .i64 cu] 3)).trans (b4.mono (by omega))
  have t4 := (h.tri.alloc (.cells #[.int .i64 cu] 3)).pass b4 (by omega)
  have r4 := (h.res.alloc (.cells #[.int .i64 cu] 3)).pass b4 (by omega)
  exact ⟨bb.setCell (by simp) _, r4.far (by omega) _, t4.set0 _, s3, by
    have := b4.size
    have := h.sz
    simp at *
    omega⟩
/-- while the class and its source are laid: what has been done so far -/
structure F12 (w : World) (a b c : RowD) (x y : Int) (b' c' : RowD) (d e : Option RowD) (L : Nat → Bool) (v53 v54 v55 v56 v57 v58 v59 v60 v61 v62 v63 v64 : Value) (W : World) : Prop where
  be : Below w.heap.size w W
  res : Tri W w.heap.size 48 (.slice none 0 0) (.slice none 0 0) (.slice none 0 0)
  tri : Tri W (w.heap.size + 1) 48 (.slice a.A a.n a.c) (if L 11 = true then .slice b'.A b'.n b'.c else .slice b.A b.n b.c) (if L 13 = true then .slice c'.A c'.n c'.c else .slice c.A c.n c.c)
  sep : Sep W (w.heap.size + 2) 3 (rows5 a b' c' d e)
  sz : w.heap.size + 2 ≤ W.heap.size
  o4 : L 4 = true → L 1 = true ∧ L 3 = true
  o9 : L 9 = true → L 4 = true ∧ L 6 = true ∧ L 8 = true
  o11 : L 11 = true → L 9 = true
  o13 : L 13 = true → L 11 = true
  f0 : L 0 = true → v53 = .pointer (some ⟨w.heap.size + 1, 1, none⟩)
  f1 : L 1 = true → v54 = .slice b.A b.n b.c
  f2 : L 2 = true → v55 = .int .i64 x
  f3 : L 3 = true → ∃ g : Nat, v56 = .slice (some ⟨g, 0, none⟩) 1 1 ∧ d = some ⟨some ⟨g, 0, none⟩, 1, 1, [x]⟩
  n4 : L 4 = false → b' = b
  f4 : L 4 = true → v57 = .slice b'.A b'.n b'.c ∧ b'.n = b.n + 1 ∧ b'.xs = b.xs ++ [x]
  f5 : L 5 = true → v58 = .pointer (some ⟨w.heap.size + 1, 2, none⟩)
  f6 : L 6 = true → v59 = .slice c.A c.n c.c
  f7 : L 7 = true → v60 = .int .i64 y
  f8 : L 8 = true → ∃ g : Nat, v61 = .slice (some ⟨g, 0, none⟩) 1 1 ∧ e = some ⟨some ⟨g, 0, none⟩, 1, 1, [y]⟩
  n9 : L 9 = false → c' = c
  f9 : L 9 = true → v62 = .slice c'.A c'.n c'.c ∧ c'.n = c.n + 1 ∧ c'.xs = c.xs ++ [y]
  f10 : L 10 = true → v63 = .pointer (some ⟨w.heap.size + 1, 1, none⟩)
  f12 : L 12 = true → v64 = .pointer (some ⟨w.heap.size + 1, 2, none⟩)
theorem Sep.lit_cell {W : World} {B : Nat} {t : TypeId} {f : Nat → Option RowD} (h : Sep W B t f) {i g : Nat} {y : Int} (hi : f i = some ⟨some ⟨g, 0, none⟩, 1, 1, [y]⟩) : W.cell? ⟨g, 0, none⟩ = some (.int .i64 y) := by
  have o := h.1 i _ hi
  rw [OwnV.cellAt o 0 (by simp)]
  rfl
theorem nt {b : Bool} (h : b = false) : ¬ b = true := by rw [h]; simp
theorem F12.alloc_ {w W : World} {a b c b' c' : RowD} {x y : Int} {d e : Option RowD} {L : Nat → Bool} {v53 v54 v55 v56 v57 v58 v59 v60 v61 v62 v63 v64 : Value} (h : F12 w a b c x y b' c' d e L v53 v54 v55 v56 v57 v58 v59 v60 v61 v62 v63 v64 W) (o : Obj) :
    F12 w a b c x y b' c' d e L v53 v54 v55 v56 v57 v58 v59 v60 v61 v62 v63 v64 (W.alloc o) :=
  { h with be := h.be.alloc h.be.size o, res := h.res.alloc o, tri := h.tri.alloc o, sep := h.sep.pass (below_alloc _ _), sz := Nat.le_trans h.sz (below_alloc _ _).size }
theorem src_own {xs : List Int} {i : Nat} (h : mkB (bk xs i) = false) : srcN xs i = i := by
  cases i <;> simp [srcN, h]
theorem src_stop {xs : List Int} {j : Nat} (h : mkB (bk xs (j + 1)) = true) (hs : inL [1, 2, 3, 4, 5] (bk xs j) = true) : cls xs (j + 1) = 0 ∧ srcN xs (j + 1) = j + 1 := by
  simp only [cls, srcN]
  rw [if_pos h, if_pos h, if_pos (by unfold stopB; exact hs), if_pos (by unfold stopB; exact hs)]
  exact ⟨rfl, rfl⟩
theorem src_go {xs : List Int} {j : Nat} (h : mkB (bk xs (j + 1)) = true) (hs : inL [1, 2, 3, 4, 5] (bk xs j) = false) : cls xs (j + 1) = cls xs j ∧ srcN xs (j + 1) = srcN xs j := by
  simp only [cls, srcN]
  rw [if_pos h, if_pos h, if_neg (by unfold stopB; rw [hs]; simp), if_neg (by unfold stopB; rw [hs]; simp)]
  exact ⟨rfl, rfl⟩
theorem intV {a b : Int} (h : a = b) : Value.int .i64 a = Value.int .i64 b := by rw [h]
theorem viewSize : (Tryd.prog.info? 48).map (·.size) = some 3 := by kernel_rfl
theorem three_all (a b c : Option Addr) (n1 c1 n2 c2 n3 c3 : Nat) : (#[Value.slice a n1 c1, Value.slice b n2 c2, Value.slice c n3 c3] : Array Value).all (·.oneCell') = true := by simp [Value.oneCell']
theorem see_done {x y z a b c : Value} {w w1 : World} {tmps : Array Value} {Post : Ending → World → Prop} (ht : tmps.getD 2 undef = .pointer (some ⟨w.heap.size, 0, none⟩)) (R : Tri w1 w.heap.size 48 x y z)
    (h : Post (.returned (.agg #[a, b, c])) (w1.setRow w.heap.size #[a, b, c])) : bodyPost Tryd.prog Tryd.f37 Post .ret ⟨tmps, []⟩ (w1.setRow w.heap.size #[a, b, c]) :=
  bodyPost_ret (v := .agg #[a, b, c]) (results_cell_row Tryd.results37 _ _ w.heap.size 48 _ (0, 0) _ ht (setRow_heap _ _ _ _ _ _ R) Tryd.underlying48 rfl viewSize) rfl h
theorem OwnV.setRow_ {w : World} {B n c size b : Nat} {e : TypeId} {A : Option Addr} {vs : List Value} (h : OwnV w B e size A n c vs) (hb : b < B) (cs : Array Value) : OwnV (w.setRow b cs) B e size A n c vs := by
  refine ⟨h.1, ?_⟩
  rcases h.2 with h2 | ⟨g, cap, cur, hv, hg, hh, r⟩
  · exact .inl h2
  · refine .inr ⟨g, cap, cur, hv, hg, ?_, r⟩
    have e1 : (w.setRow b cs).heap[g]? = w.heap[g]? := by
      show (w.heap.modify b _)[g]? = _
      rw [Array.getElem?_modify, if_neg (by omega)]
    rw [e1]
    exact hh
set_option maxHeartbeats 8000000 in
theorem see_any (A : Option Addr) (n c : Nat) (xs : List Int) (w : World) (hx : SliceIn .i32 w A n c xs) (hl : Laid w) (hn : n ≤ 4000) :
    Calls Tryd.prog 37 #[.slice A n c] w fun e w' => ∃ (A0 A1 A2 : Option Addr) (c0 c1 c2 : Nat), e = .returned (.agg #[.slice A0 n c0, .slice A1 n c1, .slice A2 n c2]) ∧
      Own w' w.heap.size 3 .i64 A0 n c0 ((List.range n).map (bk xs)) ∧ Own w' w.heap.size 3 .i64 A1 n c1 ((List.range n).map (cls xs)) ∧ Own w' w.heap.size 3 .i64 A2 n c2 ((List.range n).map fun i => (srcN xs i : Int)) ∧ Below w.heap.size w w' := by
  have HX : Shut _ := ⟨hx⟩
  have HL : Shut _ := ⟨hl⟩
  clear hx hl
  have S0 : Shut (SeeI w ((w.alloc (.cells #[.slice none 0 0, .slice none 0 0, .slice none 0 0] 48)).alloc (.cells #[.slice none 0 0, .slice none 0 0, .slice none 0 0] 48)) ⟨none, 0, 0, []⟩ ⟨none, 0, 0, []⟩ ⟨none, 0, 0, []⟩) :=
    ⟨⟨(below_alloc w _).alloc (by simp) _, (Tri.newN w _ _ _ _ _ rfl).alloc _, Tri.newN _ _ _ _ _ _ (by simp), sep_start _ _ _, by simp⟩⟩
  go_enter Tryd.func37, Tryd.ntmps37
  go_wp2_with fail
  go_loopg [10, 4, 5, 6, 7] (n + 1) (fun gg v10 _ _ _ _ wr => ∃ (k : Nat) (A0 A1 A2 : Option Addr) (c0 c1 c2 : Nat), n - k < gg ∧ k ≤ n ∧ v10 = .int .i64 (k : Int) ∧ Shut (SeeI w wr ⟨A0, k, c0, (List.range k).map (bk xs)⟩ ⟨A1, k, c1, (List.range k).map (cls xs)⟩ ⟨A2, k, c2, (List.range k).map fun i => (srcN xs i : Int)⟩))
  case atStart => exact ⟨0, none, none, none, 0, 0, 0, by omega, by omega, rfl, S0⟩
  case round =>
    obtain ⟨k, A0, A1, A2, c0, c1, c2, hg, hk, rfl, SI⟩ := hrel
    clear S0
    by_cases hlt : k < n
    · obtain ⟨ad, rfl, hab, hcx⟩ := (HX.out.pass SI.out.be).at_.2 (by omega)
      have d1 := hcx k hlt
      obtain ⟨h1, h2⟩ := bounds_i32 (HX.out.nth_wf hlt)
      have O : Shut _ := ⟨pOf_lit (nth xs k) h1 h2 wr (HL.out.pass SI.out.be)⟩
      have BK : Shut ((propOf (nth xs k)).brk = bk xs k) := ⟨rfl⟩
      generalize hq : propOf (nth xs k) = q at O BK
      obtain ⟨cu, hcu⟩ : ∃ cu, q.brk = cu := ⟨_, rfl⟩
      rw [hcu] at O BK
      clear hq h1 h2 hcx hcu
      generalize nth xs k = u at *
      go_upto_region 7 with (first
        | (go_at_call 30; refine O.out.mono ?_; rintro e w1 ⟨rfl, b1⟩; have I1 : Shut _ := ⟨SI.out.pass b1⟩; have q0 := I1.out.tri.c0; clear b1; have S1 : Shut _ := ⟨(I1.out.sep.lit 3 cu I1.out.sz).1 0 _ rfl⟩)
        | (at_builtin; refine wpList_pushAt TIg rfl (.tmp 19) (.tmp 21) rfl rfl S1.out rfl (y := cu) (cell_newN _ _ _ _ (by simp)) (by omega) (by have := I1.out.sz; simp; omega) ?_; intro A4 c4 w4 o4 b4 g4 a4; have I5 : Shut _ := ⟨I1.out.own_ o4 b4 g4 a4⟩; have t4 := (I1.out.tri.alloc (.cells #[.int .i64 cu] 3)).pass b4 (by omega); clear q0; have q0 := t4.c0; have f0 := t4.f 0; clear t4 S1 o4 b4 g4 a4))
      have E5 : Shut (SeeI w (w4.setCell ⟨w.heap.size + 1, 0, none⟩ (.slice A4 (k + 1) c4)) ⟨A4, k + 1, c4, (List.range (k + 1)).map (bk xs)⟩ ⟨A1, k, c1, (List.range k).map (cls xs)⟩ ⟨A2, k, c2, (List.range k).map fun i => (srcN xs i : Int)⟩) := ⟨by
        have := I5.out
        rw [BK.out] at this
        rw [clsL_succ]
        exact this⟩
      clear I5 q0 f0 I1 SI O d1 hab
      generalize w4.setCell ⟨w.heap.size + 1, 0, none⟩ (.slice A4 (k + 1) c4) = w5 at *
      go_upto_if 27 with (go_at_call 45; (with_reducible refine (among_lit2 _ _ (by omega) (by omega) _ _ _ _ (by simp)).mono ?_); rintro e w9 ⟨rfl, rfl⟩)
      have E6 : Shut (∀ o, SeeI w (w5.alloc o) ⟨A4, k + 1, c4, (List.range (k + 1)).map (bk xs)⟩ ⟨A1, k, c1, (List.range k).map (cls xs)⟩ ⟨A2, k, c2, (List.range k).map fun i => (srcN xs i : Int)⟩) := ⟨fun o => E5.out.pass (below_alloc _ _)⟩
      clear E5
      go_cut [6, 7] (fun v6 v7 wx => v6 = .int .i64 (cls xs k) ∧ v7 = .int .i64 (srcN xs k : Int) ∧ Shut (SeeI w wx ⟨A4, k + 1, c4, (List.range (k + 1)).map (bk xs)⟩ ⟨A1, k, c1, (List.range k).map (cls xs)⟩ ⟨A2, k, c2, (List.range k).map fun i => (srcN xs i : Int)⟩))
      case first =>
        cases hm : inL [8, 9] cu with
        | false =>
          have m1 : mkB (bk xs k) = false := by rw [← BK.out]; exact hm
          have E : Shut (cu = cls xs k ∧ (k : Int) = (srcN xs k : Int)) := ⟨by rw [cls_own m1, src_own m1]; exact ⟨BK.out, rfl⟩⟩
          clear m1
          go_wp2_with fail
          go_meet
          exact ⟨intV E.out.1, intV E.out.2, ⟨E6.out _⟩⟩
        | true =>
          have m1 : mkB (bk xs k) = true := by rw [← BK.out]; exact hm
          clear BK
          obtain rfl | ⟨j, rfl⟩ : k = 0 ∨ ∃ j, k = j + 1 := by cases k with | zero => exact .inl rfl | succ j => exact .inr ⟨j, rfl⟩
          · have E : Shut (0 = cls xs 0 ∧ (0 : Int) = (srcN xs 0 : Int)) := ⟨by
              refine ⟨?_, rfl⟩
              simp only [cls]; rw [if_pos m1]⟩
            clear m1
            rw [show ((0 : Nat) : Int) = 0 from rfl]
            go_wp2_with fail
            go_meet
            exact ⟨intV E.out.1, intV E.out.2, ⟨E6.out _⟩⟩
          · have CC : Shut (∀ W : World, SeeI w W ⟨A4, j + 1 + 1, c4, (List.range (j + 1 + 1)).map (bk xs)⟩ ⟨A1, j + 1, c1, (List.range (j + 1)).map (cls xs)⟩ ⟨A2, j + 1, c2, (List.range (j + 1)).map fun i => (srcN xs i : Int)⟩ →
                ∃ g0 g1 g2 : Nat, A4 = some ⟨g0, 0, none⟩ ∧ A1 = some ⟨g1, 0, none⟩ ∧ A2 = some ⟨g2, 0, none⟩ ∧ W.cell? ⟨g0, j, none⟩ = some (.int .i64 (bk xs j)) ∧ W.cell? ⟨g1, j, none⟩ = some (.int .i64 (cls xs j)) ∧ W.cell? ⟨g2, j, none⟩ = some (.int .i64 (srcN xs j : Int)) ∧
                W.cell? ⟨w.heap.size + 1, 0, none⟩ = some (.slice A4 (j + 1 + 1) c4) ∧ W.cell? ⟨w.heap.size + 1, 1, none⟩ = some (.slice A1 (j + 1) c1) ∧ W.cell? ⟨w.heap.size + 1, 2, none⟩ = some (.slice A2 (j + 1) c2)) := ⟨fun W h => by
              obtain ⟨g0, e0, k0⟩ := h.cell (i := 0) rfl (j := j) (by show j < j + 1 + 1; omega)
              obtain ⟨g1, e1, k1⟩ := h.cell (i := 1) rfl (j := j) (by show j < j + 1; omega)
              obtain ⟨g2, e2, k2⟩ := h.cell (i := 2) rfl (j := j) (by show j < j + 1; omega)
              have z0 : nth ((List.range (j + 1 + 1)).map (bk xs)) j = bk xs j := clsL_at (by omega)
              have z1 : nth ((List.range (j + 1)).map (cls xs)) j = cls xs j := clsL_at (by omega)
              have z2 : nth ((List.range (j + 1)).map fun i => (srcN xs i : Int)) j = (srcN xs j : Int) := clsL_at (f := fun i => (srcN xs i : Int)) (by omega)
              exact ⟨g0, g1, g2, e0, e1, e2, by rw [← z0]; exact k0, by rw [← z1]; exact k1, by rw [← z2]; exact k2, h.tri.c0, h.tri.c1, h.tri.c2⟩⟩
            have D6 : Shut (∀ o o2, SeeI w ((w5.alloc o).alloc o2) ⟨A4, j + 1 + 1, c4, (List.range (j + 1 + 1)).map (bk xs)⟩ ⟨A1, j + 1, c1, (List.range (j + 1)).map (cls xs)⟩ ⟨A2, j + 1, c2, (List.range (j + 1)).map fun i => (srcN xs i : Int)⟩) := ⟨fun o o2 => (E6.out o).pass (below_alloc _ _)⟩
            obtain ⟨g0, g1, g2, rfl, rfl, rfl, _⟩ := CC.out _ (E6.out (.cells #[.int .i64 8, .int .i64 9] 3))
            have x0 : ∀ o, (w5.alloc o).cell? ⟨g0, j, none⟩ = some (.int .i64 (bk xs j)) := fun o => by
              obtain ⟨_, _, _, e0, _, _, h, _⟩ := CC.out _ (E6.out o)
              injection e0 with e0; injection e0 with e0; subst e0; exact h
            have y0 : ∀ o, (w5.alloc o).cell? ⟨w.heap.size + 1, 0, none⟩ = some (.slice (some ⟨g0, 0, none⟩) (j + 1 + 1) c4) := fun o => (E6.out o).tri.c0
            rw [show ((j + 1 : Nat) : Int) = (j : Int) + 1 from rfl]
            cases hs : inL [1, 2, 3, 4, 5] (bk xs j) with
            | true =>
              have E : Shut (0 = cls xs (j + 1) ∧ ((j : Int) + 1) = (srcN xs (j + 1) : Int)) := ⟨by obtain ⟨h1, h2⟩ := src_stop m1 hs; rw [h1, h2]; exact ⟨rfl, rfl⟩⟩
              clear m1
              go_wp2_with (go_at_call 45; (with_reducible refine (among_lit5 _ _ _ _ _ (by omega) (by omega) (by omega) (by omega) (by omega) _ _ _ _ (by simp)).mono ?_); rw [hs]; rintro e w9 ⟨rfl, rfl⟩)
              go_meet
              exact ⟨intV E.out.1, intV E.out.2, ⟨D6.out _ _⟩⟩
            | false =>
              have E : Shut (cls xs j = cls xs (j + 1) ∧ (srcN xs j : Int) = (srcN xs (j + 1) : Int)) := ⟨by obtain ⟨h1, h2⟩ := src_go m1 hs; rw [h1, h2]; exact ⟨rfl, rfl⟩⟩
              clear m1
              have x1 : ∀ o o2, ((w5.alloc o).alloc o2).cell? ⟨g1, j, none⟩ = some (.int .i64 (cls xs j)) := fun o o2 => by
                obtain ⟨_, _, _, _, e0, _, _, h, _⟩ := CC.out _ (D6.out o o2)
                injection e0 with e0; injection e0 with e0; subst e0; exact h
              have x2 : ∀ o o2, ((w5.alloc o).alloc o2).cell? ⟨g2, j, none⟩ = some (.int .i64 (srcN xs j : Int)) := fun o o2 => by
                obtain ⟨_, _, _, _, _, e0, _, _, h, _⟩ := CC.out _ (D6.out o o2)
                injection e0 with e0; injection e0 with e0; subst e0; exact h
              have y1 : ∀ o o2, ((w5.alloc o).alloc o2).cell? ⟨w.heap.size + 1, 1, none⟩ = some (.slice (some ⟨g1, 0, none⟩) (j + 1) c1) := fun o o2 => (D6.out o o2).tri.c1
              have y2 : ∀ o o2, ((w5.alloc o).alloc o2).cell? ⟨w.heap.size + 1, 2, none⟩ = some (.slice (some ⟨g2, 0, none⟩) (j + 1) c2) := fun o o2 => (D6.out o o2).tri.c2
              go_wp2_with (go_at_call 45; (with_reducible refine (among_lit5 _ _ _ _ _ (by omega) (by omega) (by omega) (by omega) (by omega) _ _ _ _ (by simp)).mono ?_); rw [hs]; rintro e w9 ⟨rfl, rfl⟩)
              go_quiet (fail)
              go_wp2_with fail
              go_meet
              exact ⟨intV E.out.1, intV E.out.2, ⟨(D6.out _ _).pass (below_drewN (Below.refl _ _) _)⟩⟩
      case rest =>
        obtain ⟨rfl, rfl, R5⟩ := hcut
        clear E6 BK
        go_upto_region 12 with fail
        refine wp_region_inv (by kernel_rfl) (by kernel_rfl) (fun L a' W => ∃ v53 v54 v55 v56 v57 v58 v59 v60 v61 v62 v63 v64 : Value, ∃ (b' c' : RowD) (d e : Option RowD), F12 w ⟨A4, k + 1, c4, (List.range (k + 1)).map (bk xs)⟩ ⟨A1, k, c1, (List.range k).map (cls xs)⟩ ⟨A2, k, c2, (List.range k).map fun i => (srcN xs i : Int)⟩ (cls xs k) (srcN xs k : Int) b' c' d e L v53 v54 v55 v56 v57 v58 v59 v60 v61 v62 v63 v64 W ∧ a' = ⟨#[.slice (some ad) n c, undef, .pointer (some ⟨w.heap.size, 0, none⟩), .pointer (some ⟨w.heap.size + 1, 0, none⟩), .int .i64 (k : Int), .int .i32 u, .int .i64 (cls xs k), .int .i64 (srcN xs k : Int), .slice (some ad) n c, .int .i64 (n : Int), .int .i64 (k : Int), u11, u12, u13, u14, u15, u16, u17, u18, u19, u20, u21, u22, u23, u24, u25, u26, u27, u28, u29, u30, u31, u32, u33, u34, u35, u36, u37, u38, u39, u40, u41, u42, u43, u44, u45, u46, u47, u48, u49, u50, u51, u52, v53, v54, v55, v56, v57, v58, v59, v60, v61, v62, v63, v64, u65, undef], []⟩) ?_ ?_ ?_
        · refine ⟨u53, u54, u55, u56, u57, u58, u59, u60, u61, u62, u63, u64, ⟨A1, k, c1, (List.range k).map (cls xs)⟩, ⟨A2, k, c2, (List.range k).map fun i => (srcN xs i : Int)⟩, none, none, ?_, rfl⟩
          have hI := R5.out
          exact { be := below_drewN hI.be 1, res := hI.res, tri := hI.tri, sep := hI.sep, sz := hI.sz, o4 := fun h => (by cases h), o9 := fun h => (by cases h), o11 := fun h => (by cases h), o13 := fun h => (by cases h), f0 := fun h => (by cases h), f1 := fun h => (by cases h), f2 := fun h => (by cases h), f3 := fun h => (by cases h), n4 := fun _ => rfl, f4 := fun h => (by cases h), f5 := fun h => (by cases h), f6 := fun h => (by cases h), f7 := fun h => (by cases h), f8 := fun h => (by cases h), n9 := fun _ => rfl, f9 := fun h => (by cases h), f10 := fun h => (by cases h), f12 := fun h => (by cases h) }
        · rintro i o L a' W ho hLi hpre ⟨v53, v54, v55, v56, v57, v58, v59, v60, v61, v62, v63, v64, b', c', d, e, hI, rfl⟩
          have hi : i < 14 := by
            have := (Array.getElem?_eq_some_iff.1 ho).1
            simpa using this
          have hcs : i = 0 ∨ i = 1 ∨ i = 2 ∨ i = 3 ∨ i = 4 ∨ i = 5 ∨ i = 6 ∨ i = 7 ∨ i = 8 ∨ i = 9 ∨ i = 10 ∨ i = 11 ∨ i = 12 ∨ i = 13 := by omega
          rcases hcs with rfl | rfl | rfl | rfl | rfl | rfl | rfl | rfl | rfl | rfl | rfl | rfl | rfl | rfl
          all_goals (injection ho with ho; subst ho)
          all_goals (simp [Region.binds] at hpre)
          · refine wpOp_step rfl (fun K hK => ?_)
            go_simp
            exact hK _ _ ⟨.pointer (some ⟨w.heap.size + 1, 1, none⟩), v54, v55, v56, v57, v58, v59, v60, v61, v62, v63, v64, b', c', d, e, { hI with f0 := fun _ => rfl }, rfl⟩
          · obtain rfl := hI.f0 hpre
            have l11 : L 11 = false := by cases h : L 11 with | false => rfl | true => (have := (hI.o4 (hI.o9 (hI.o11 h)).1).1; rw [hLi] at this; cases this)
            have q1 := hI.tri.c1
            rw [if_neg (nt l11)] at q1
            dsimp only at q1
            refine wpOp_step rfl (fun K hK => ?_)
            go_simp
            exact hK _ _ ⟨.pointer (some ⟨w.heap.size + 1, 1, none⟩), (.slice A1 k c1), v55, v56, v57, v58, v59, v60, v61, v62, v63, v64, b', c', d, e, { hI with f1 := fun _ => rfl, o4 := fun h => ⟨rfl, (hI.o4 h).2⟩ }, rfl⟩
          · refine wpOp_step rfl (fun K hK => ?_)
            go_simp
            exact hK _ _ ⟨v53, v54, .int .i64 (cls xs k), v56, v57, v58, v59, v60, v61, v62, v63, v64, b', c', d, e, { hI with f2 := fun _ => rfl }, rfl⟩
          · obtain rfl := hI.f2 hpre
            have hsz := hI.sz
            refine wpOp_step rfl (fun K hK => ?_)
            go_simp
            have sp := hI.sep.lit 3 (cls xs k) hsz
            rw [rows5_3] at sp
            exact hK _ _ ⟨v53, v54, .int .i64 (cls xs k), .slice (some ⟨W.heap.size, 0, none⟩) 1 1, v57, v58, v59, v60, v61, v62, v63, v64, b', c', _, e, { hI.alloc_ (.cells #[.int .i64 (cls xs k)] 3) with sep := sp, f3 := fun _ => ⟨_, rfl, rfl⟩, o4 := fun h => ⟨(hI.o4 h).1, rfl⟩ }, rfl⟩
          · obtain rfl := hI.f1 hpre.1
            obtain ⟨g, rfl, rfl⟩ := hI.f3 hpre.2
            obtain rfl := hI.n4 hLi
            have hsz := hI.sz
            have qc := hI.sep.lit_cell (i := 3) rfl
            have l11 : L 11 = false := by cases h : L 11 with | false => rfl | true => (have := (hI.o9 (hI.o11 h)).1; rw [hLi] at this; cases this)
            have l9 : L 9 = false := by cases h : L 9 with | false => rfl | true => (have := (hI.o9 h).1; rw [hLi] at this; cases this)
            refine wpOp_step rfl (fun K hK => ?_)
            refine step_pushAt TIg rfl (.tmp 54) (.tmp 56) rfl rfl (hI.sep.1 1 _ rfl) rfl qc (by show (k + 1) * 8 ≤ _; omega) hsz ?_
            intro A' cc' W' o' b1' g' h'
            have sp := Sep.push hI.sep (i := 1) rfl o' g' h'
            rw [rows5_1] at sp
            exact hK _ _ ⟨v53, (.slice A1 k c1), v55, .slice (some ⟨g, 0, none⟩) 1 1, _, v58, v59, v60, v61, v62, v63, v64, _, c', _, e, { be := hI.be.trans (b1'.mono (by omega)), res := hI.res.pass b1' (by omega), tri := (by have := hI.tri.pass b1' (by omega); rw [if_neg (nt l11)] at this; show Tri _ _ _ _ (if L 11 = true then _ else _) _; rw [if_neg (nt l11)]; exact this), sep := sp, sz := Nat.le_trans hsz b1'.size, o4 := fun _ => hpre, o9 := fun h => absurd h (nt l9), o11 := hI.o11, o13 := hI.o13, f0 := hI.f0, f1 := hI.f1, f2 := hI.f2, f3 := hI.f3, n4 := fun h => (by cases h), f4 := fun _ => ⟨rfl, rfl, rfl⟩, f5 := hI.f5, f6 := hI.f6, f7 := hI.f7, f8 := hI.f8, n9 := hI.n9, f9 := hI.f9, f10 := hI.f10, f12 := hI.f12 }, rfl⟩
          · refine wpOp_step rfl (fun K hK => ?_)
            go_simp
            exact hK _ _ ⟨v53, v54, v55, v56, v57, .pointer (some ⟨w.heap.size + 1, 2, none⟩), v59, v60, v61, v62, v63, v64, b', c', d, e, { hI with f5 := fun _ => rfl }, rfl⟩
          · obtain rfl := hI.f5 hpre
            have l13 : L 13 = false := by cases h : L 13 with | false => rfl | true => (have := (hI.o9 (hI.o11 (hI.o13 h))).2.1; rw [hLi] at this; cases this)
            have q1 := hI.tri.c2
            rw [if_neg (nt l13)] at q1
            dsimp only at q1
            refine wpOp_step rfl (fun K hK => ?_)
            go_simp
            exact hK _ _ ⟨v53, v54, v55, v56, v57, .pointer (some ⟨w.heap.size + 1, 2, none⟩), (.slice A2 k c2), v60, v61, v62, v63, v64, b', c', d, e, { hI with f6 := fun _ => rfl, o9 := fun h => ⟨(hI.o9 h).1, rfl, (hI.o9 h).2.2⟩ }, rfl⟩
          · refine wpOp_step rfl (fun K hK => ?_)
            go_simp
            exact hK _ _ ⟨v53, v54, v55, v56, v57, v58, v59, .int .i64 (srcN xs k : Int), v61, v62, v63, v64, b', c', d, e, { hI with f7 := fun _ => rfl }, rfl⟩
          · obtain rfl := hI.f7 hpre
            have hsz := hI.sz
            refine wpOp_step rfl (fun K hK => ?_)
            go_simp
            have sp := hI.sep.lit 4 (srcN xs k : Int) hsz
            rw [rows5_4] at sp
            exact hK _ _ ⟨v53, v54, v55, v56, v57, v58, v59, .int .i64 (srcN xs k : Int), .slice (some ⟨W.heap.size, 0, none⟩) 1 1, v62, v63, v64, b', c', d, _, { hI.alloc_ (.cells #[.int .i64 (srcN xs k : Int)] 3) with sep := sp, f8 := fun _ => ⟨_, rfl, rfl⟩, o9 := fun h => ⟨(hI.o9 h).1, (hI.o9 h).2.1, rfl⟩ }, rfl⟩
          · obtain rfl := hI.f6 hpre.1
            obtain ⟨g, rfl, rfl⟩ := hI.f8 hpre.2.1
            obtain rfl := hI.n9 hLi
            have hsz := hI.sz
            have qc := hI.sep.lit_cell (i := 4) rfl
            have l13 : L 13 = false := by cases h : L 13 with | false => rfl | true => (have := hI.o11 (hI.o13 h); rw [hLi] at this; cases this)
            have l11 : L 11 = false := by cases h : L 11 with | false => rfl | true => (have := hI.o11 h; rw [hLi] at this; cases this)
            refine wpOp_step rfl (fun K hK => ?_)
            refine step_pushAt TIg rfl (.tmp 59) (.tmp 61) rfl rfl (hI.sep.1 2 _ rfl) rfl qc (by show (k + 1) * 8 ≤ _; omega) hsz ?_
            intro A' cc' W' o' b1' g' h'
            have sp := Sep.push hI.sep (i := 2) rfl o' g' h'
            rw [rows5_2] at sp
            exact hK _ _ ⟨v53, v54, v55, v56, v57, v58, (.slice A2 k c2), v60, .slice (some ⟨g, 0, none⟩) 1 1, _, v63, v64, b', _, d, _, { be := hI.be.trans (b1'.mono (by omega)), res := hI.res.pass b1' (by omega), tri := (by have := hI.tri.pass b1' (by omega); rw [if_neg (nt l13)] at this; show Tri _ _ _ _ _ (if L 13 = true then _ else _); rw [if_neg (nt l13)]; exact this), sep := sp, sz := Nat.le_trans hsz b1'.size, o4 := hI.o4, o9 := fun _ => ⟨hpre.2.2, hpre.1, hpre.2.1⟩, o11 := fun h => absurd h (nt l11), o13 := hI.o13, f0 := hI.f0, f1 := hI.f1, f2 := hI.f2, f3 := hI.f3, n4 := hI.n4, f4 := hI.f4, f5 := hI.f5, f6 := hI.f6, f7 := hI.f7, f8 := hI.f8, n9 := fun h => (by cases h), f9 := fun _ => ⟨rfl, rfl, rfl⟩, f10 := hI.f10, f12 := hI.f12 }, rfl⟩
          · refine wpOp_step rfl (fun K hK => ?_)
            go_simp
            exact hK _ _ ⟨v53, v54, v55, v56, v57, v58, v59, v60, v61, v62, .pointer (some ⟨w.heap.size + 1, 1, none⟩), v64, b', c', d, e, { hI with f10 := fun _ => rfl }, rfl⟩
          · have l10 : L 10 = true := hpre.1
            have l4 : L 4 = true := hpre.2.1
            have l9 : L 9 = true := hpre.2.2.1
            clear hpre
            obtain rfl := hI.f10 l10
            obtain rfl := (hI.f4 l4).1
            have l13 : L 13 = false := by cases h : L 13 with | false => rfl | true => (have := hI.o13 h; rw [hLi] at this; cases this)
            have q1 := hI.tri.c1
            have f1 := hI.tri.f 1
            rw [if_neg (nt hLi)] at q1
            have tr := hI.tri
            rw [if_neg (nt l13)] at tr
            refine wpOp_step rfl (fun K hK => ?_)
            go_simp
            exact hK _ _ ⟨v53, v54, v55, v56, .slice b'.A b'.n b'.c, v58, v59, v60, v61, v62, .pointer (some ⟨w.heap.size + 1, 1, none⟩), v64, b', c', d, e, { hI with be := hI.be.setCell (by simp) _, res := hI.res.far (by omega) _, tri := (by have := tr.set1 (.slice b'.A b'.n b'.c); show Tri _ _ _ _ _ (if L 13 = true then _ else _); rw [if_neg (nt l13)]; exact this), sep := hI.sep.far (by omega) _, sz := (by have := hI.sz; simpa using this), o11 := fun _ => l9, o13 := fun h => absurd h (nt l13) }, rfl⟩
          · refine wpOp_step rfl (fun K hK => ?_)
            go_simp
            exact hK _ _ ⟨v53, v54, v55, v56, v57, v58, v59, v60, v61, v62, v63, .pointer (some ⟨w.heap.size + 1, 2, none⟩), b', c', d, e, { hI with f12 := fun _ => rfl }, rfl⟩
          · have l12 : L 12 = true := hpre.1
            have l9 : L 9 = true := hpre.2.1
            have l11 : L 11 = true := hpre.2.2.1
            clear hpre
            obtain rfl := hI.f12 l12
            obtain rfl := (hI.f9 l9).1
            have q1 := hI.tri.c2
            have f1 := hI.tri.f 2
            rw [if_neg (nt hLi)] at q1
            refine wpOp_step rfl (fun K hK => ?_)
            go_simp
            exact hK _ _ ⟨v53, v54, v55, v56, v57, v58, v59, v60, v61, .slice c'.A c'.n c'.c, v63, .pointer (some ⟨w.heap.size + 1, 2, none⟩), b', c', d, e, { hI with be := hI.be.setCell (by simp) _, res := hI.res.far (by omega) _, tri := hI.tri.set2 (.slice c'.A c'.n c'.c), sep := hI.sep.far (by omega) _, sz := (by have := hI.sz; simpa using this), o13 := fun _ => l11 }, rfl⟩
        · rintro L a' W hall ⟨v53, v54, v55, v56, v57, v58, v59, v60, v61, v62, v63, v64, b', c', d, e, hI, rfl⟩
          have l4 := hall 4 (by simp)
          have l9 := hall 9 (by simp)
          have l11 := hall 11 (by simp)
          have l13 := hall 13 (by simp)
          clear hall
          obtain ⟨A1', n1', c1', x1'⟩ := b'
          obtain ⟨A2', n2', c2', x2'⟩ := c'
          obtain ⟨_, e1, e2⟩ := hI.f4 l4
          obtain ⟨_, e3, e4⟩ := hI.f9 l9
          dsimp only at e1 e2 e3 e4
          subst e1 e2 e3 e4
          have tr := hI.tri
          rw [if_pos l11, if_pos l13] at tr
          have H : Shut (SeeI w W ⟨A4, k + 1, c4, (List.range (k + 1)).map (bk xs)⟩ ⟨A1', k + 1, c1', (List.range (k + 1)).map (cls xs)⟩ ⟨A2', k + 1, c2', (List.range (k + 1)).map fun i => (srcN xs i : Int)⟩) := ⟨by
            have sp := hI.sep.drop
            rw [clsL_succ (cls xs), clsL_succ (fun i => (srcN xs i : Int))]
            exact ⟨hI.be, hI.res, tr, sp, hI.sz⟩⟩
          clear hI tr R5
          go_step
          go_wp2_with fail
          go_roundg (n - k)
          case measure => omega
          case rel => exact ⟨k + 1, A4, A1', A2', c4, c1', c2', by omega, by omega, by go_num, H⟩
    · obtain rfl : k = n := by omega
      have c0' := SI.out.tri.c0
      have c1' := SI.out.tri.c1
      have c2' := SI.out.tri.c2
      have RES := SI.out.res
      dsimp only at c0' c1' c2'
      go_wp2_with (refine wpList_store_row rfl 48 (.tmp 2) (.tmp 66) rfl w.heap.size _ rfl rfl 48 _ RES viewSize (by rfl) (three_all _ _ _ _ _ _ _ _ _) ?_)
      refine see_done (by rfl) RES ⟨A0, A1, A2, c0, c1, c2, rfl, ?_, ?_, ?_, below_setRow SI.out.be (Nat.le_refl _) _⟩
      · exact Own.moreG (OwnV.setRow_ (SI.out.sep.1 0 _ rfl) (by omega) _) (by omega)
      · exact Own.moreG (OwnV.setRow_ (SI.out.sep.1 1 _ rfl) (by omega) _) (by omega)
      · exact Own.moreG (OwnV.setRow_ (SI.out.sep.1 2 _ rfl) (by omega) _) (by omega)
end Go.Proofs.YtmbgeeiidpllcaaDoor
