/- A region that draws its order, by an invariant, where edges that do not bind may lead on. No program in sight. -/
import Derived.Test.YtmbgeeiidpllcaaDoorReg
import Derived.Test.YtmbgeeiidpllcaaDoorKq
import Derived.Test.YtmbgeeiidpllcaaDoorKro
import Derived.Test.YtmbgeeiidpllcaaDoorGi
import Derived.Test.YtmbgeeiidpllcaaDoorDcq
namespace Go.Proofs.YtmbgeeiidpllcaaDoor
open Go.RowKit
section
variable {P : Program} {ops : Array Oper} {Q : Exit → Act → World → Prop}
/-- every edge leads back -/
def backwardA (ops : Array Oper) : Bool := (List.range ops.size).all fun i => ((ops[i]?).map (·.after.all fun e => !Region.binds .any e || decide (e.on < i))).getD true
theorem ready_doneA {listed : Array Bool} (hb : backwardA ops = true) (hs : listed.size = ops.size) (hr : Region.ready .any ops listed = []) : ∀ i, i < ops.size → listed.getD i false = true := by
  intro i
  induction i using Nat.strongRecOn with
  | _ i ih =>
    intro hi
    cases hl : listed.getD i false with
    | true => rfl
    | false =>
      exfalso
      have hm : i ∈ Region.ready .any ops listed := by
        unfold Region.ready
        rw [List.mem_filter]
        refine ⟨List.mem_range.2 hi, ?_⟩
        have h1 : listed.getD i true = false := by
          rw [Array.getD_eq_getD_getElem?] at hl ⊢
          rw [Array.getElem?_eq_getElem (by omega)] at hl ⊢
          exact hl
        rw [h1, Array.getElem?_eq_getElem hi]
        simp only [Bool.not_false, Bool.true_and, Option.map_some, Option.getD_some]
        rw [Array.all_eq_true]
        intro j hj
        have hb2 := (List.all_eq_true.1 hb) i (List.mem_range.2 hi)
        rw [Array.getElem?_eq_getElem hi] at hb2
        simp only [Option.map_some, Option.getD_some] at hb2
        rw [Array.all_eq_true] at hb2
        have hlt := hb2 j hj
        cases hbd : Region.binds .any ((ops[i].after)[j]) with
        | false => simp
        | true =>
          rw [hbd] at hlt
          have hlt2 : ((ops[i].after)[j]).on < i := by simpa using hlt
          rw [ih _ hlt2 (by omega)]
          simp
      rw [hr] at hm
      cases hm
theorem any_invA (hb : backwardA ops = true) (I : (Nat → Bool) → Act → World → Prop)
    (hstep : ∀ i o L a w, ops[i]? = some o → L i = false → o.after.all (fun e => !Region.binds .any e || L e.on) = true → I L a w → wpOp P ops Q i (I (fun k => k == i || L k)) a w)
    (hend : ∀ L a w, (∀ i, i < ops.size → L i = true) → I L a w → Q .normal a w) :
    ∀ (fuel : Nat) (listed : Array Bool) (a : Act) (w : World), listed.size = ops.size → listed.toList.count false ≤ fuel → I (fun k => listed.getD k false) a w → wpAny P .any ops Q fuel listed a w := by
  intro fuel
  induction fuel with
  | zero =>
    intro listed a w hs hc hI
    have hall : ∀ i, i < ops.size → listed.getD i false = true := fun i hi => by
      rw [Array.getD_eq_getD_getElem?, Array.getElem?_eq_getElem (by omega)]
      cases hl : listed[i] with
      | true => rfl
      | false =>
        exfalso
        have : false ∈ listed.toList := by rw [← hl]; simp
        have := List.count_pos_iff.2 this
        omega
    refine ⟨?_, hend _ a w hall hI⟩
    unfold Region.ready
    rw [List.filter_eq_nil_iff]
    intro i hi
    have h1 := hall i (List.mem_range.1 hi)
    have h2 : listed.getD i true = true := by
      have hil := List.mem_range.1 hi
      rw [Array.getD_eq_getD_getElem?, Array.getElem?_eq_getElem (by omega)] at h1 ⊢
      exact h1
    rw [h2]
    simp
  | succ fuel ih =>
    intro listed a w hs hc hI
    refine ⟨fun hr => hend _ a w (ready_doneA hb hs hr) hI, fun i hi => ?_⟩
    have hr := hi
    unfold Region.ready at hr
    rw [List.mem_filter] at hr
    obtain ⟨hr1, hr2⟩ := hr
    have hio := List.mem_range.1 hr1
    rw [Bool.and_eq_true] at hr2
    obtain ⟨hr2, hr3⟩ := hr2
    have hlf : listed[i]'(by omega) = false := by
      rw [Array.getD_eq_getD_getElem?, Array.getElem?_eq_getElem (by omega)] at hr2
      simpa using hr2
    have hL : listed.getD i false = false := by
      rw [Array.getD_eq_getD_getElem?, Array.getElem?_eq_getElem (by omega), hlf]
      rfl
    rw [Array.getElem?_eq_getElem hio] at hr3
    simp only [Option.map_some, Option.getD_some] at hr3
    have hst := hstep i ops[i] (fun k => listed.getD k false) a w (Array.getElem?_eq_getElem hio) hL hr3 hI
    refine wpOp_mono (fun a' w' h' => ih _ a' w' (by simpa using hs) ?_ ?_) hst
    · have := count_set listed.toList i (by rw [Array.getElem?_toList, Array.getElem?_eq_getElem (by omega), hlf])
      rw [Array.toList_setIfInBounds]
      omega
    · rw [set_flags (by omega)]
      exact h'
/-- the law -/
theorem wp_region_invA {id : Nat} {a : Act} {w : World} (hm : P.follows .mixedOrders = true) (hb : backwardA ops = true) (I : (Nat → Bool) → Act → World → Prop) (h0 : I (fun _ => false) a w.drew)
    (hstep : ∀ i o L a w, ops[i]? = some o → L i = false → o.after.all (fun e => !Region.binds .any e || L e.on) = true → I L a w → wpOp P ops Q i (I (fun k => k == i || L k)) a w)
    (hend : ∀ L a w, (∀ i, i < ops.size → L i = true) → I L a w → Q .normal a w) : (Code.region id ops true).wp P Q a w := by
  refine wp_region_any hm ?_
  refine any_invA hb I hstep hend ops.size _ a _ (by simp) ?_ ?_
  · rw [Array.toList_replicate, List.count_replicate]
    simp
  · have : (fun k => (Array.replicate ops.size false).getD k false) = fun _ => false := by
      funext k
      rw [Array.getD_eq_getD_getElem?, Array.getElem?_replicate]
      split <;> rfl
    rw [this]
    exact h0
end
end Go.Proofs.YtmbgeeiidpllcaaDoor
/- Chapter 19: the program's place in a view. -/
namespace Go.Proofs.YtmbgeeiidpllcaaDoor
open Go.ChangeShapes Go.WideShapes Go.ChangeAt Go.RowKit
set_option maxRecDepth 100000
set_option linter.unusedSimpArgs false

/-- while the place is laid -/
structure AtI (w w1 : World) (ac ao : Addr) (S : Option Addr) (n oc cc sc j : Nat) (a b oa ob : Int) (L : Nat → Bool) (v5 v7 v8 v9 v10 v11 v12 v13 v14 v15 v16 v17 v18 v19 v20 v21 v22 v23 v24 v25 v26 v27 v28 v29 v30 v31 : Value) (W : World) : Prop where
  be : Below w1.heap.size w1 W
  tri : Tri W w.heap.size 48 (.slice (some ao) n oc) (.slice (some ac) n cc) (.slice S n sc)
  sz : L 25 = false → W.heap.size = w1.heap.size
  nb : L 25 = true → v5 = .pointer (some ⟨w1.heap.size, 0, none⟩) ∧ W.heap[w1.heap.size]? = some (.cells (if L 26 = true then #[.slice (some ao) n oc, .slice (some ac) n cc, .slice S n sc, .int .i64 ((j : Int) + 1), .int .i64 a, .int .i64 b, .int .i64 oa, .int .i64 ob, .int .i64 (-1), .int .i64 (-1)] else #[.slice none 0 0, .slice none 0 0, .slice none 0 0, .int .i64 0, .int .i64 0, .int .i64 0, .int .i64 0, .int .i64 0, .int .i64 0, .int .i64 0]) 61 (0, 0))
  o26 : L 26 = true → L 25 = true
  e0 : L 0 = true → v7 = .agg #[.slice (some ao) n oc, .slice (some ac) n cc, .slice S n sc]
  e1 : L 1 = true → v8 = .int .i64 ((j : Int) + 1)
  e2 : L 2 = true → v9 = .pointer (some ⟨w.heap.size, 1, none⟩)
  e3 : L 3 = true → v10 = .slice (some ac) n cc
  e4 : L 4 = true → v11 = .int .i64 ((j : Int) + 1)
  e5 : L 5 = true → v12 = .int .i64 (j : Int)
  e6 : L 6 = true → v13 = .pointer (some (ac.add j))
  e7 : L 7 = true → v14 = .int .i64 a
  e8 : L 8 = true → v15 = .pointer (some ⟨w.heap.size, 1, none⟩)
  e9 : L 9 = true → v16 = .slice (some ac) n cc
  e10 : L 10 = true → v17 = .int .i64 ((j : Int) + 1)
  e11 : L 11 = true → v18 = .pointer (some ⟨ac.block, ac.off + (j + 1), none⟩)
  e12 : L 12 = true → v19 = .int .i64 b
  e13 : L 13 = true → v20 = .pointer (some ⟨w.heap.size, 0, none⟩)
  e14 : L 14 = true → v21 = .slice (some ao) n oc
  e15 : L 15 = true → v22 = .int .i64 ((j : Int) + 1)
  e16 : L 16 = true → v23 = .int .i64 (j : Int)
  e17 : L 17 = true → v24 = .pointer (some (ao.add j))
  e18 : L 18 = true → v25 = .int .i64 oa
  e19 : L 19 = true → v26 = .pointer (some ⟨w.heap.size, 0, none⟩)
  e20 : L 20 = true → v27 = .slice (some ao) n oc
  e21 : L 21 = true → v28 = .int .i64 ((j : Int) + 1)
  e22 : L 22 = true → v29 = .pointer (some ⟨ao.block, ao.off + (j + 1), none⟩)
  e23 : L 23 = true → v30 = .int .i64 ob
  e24 : L 24 = true → v31 = .agg #[.slice (some ao) n oc, .slice (some ac) n cc, .slice S n sc, .int .i64 ((j : Int) + 1), .int .i64 a, .int .i64 b, .int .i64 oa, .int .i64 ob, .int .i64 (-1), .int .i64 (-1)]
theorem spotSize : (Tryd.prog.info? 61).map (·.size) = some 10 := by kernel_rfl
theorem ten_all (A B C : Option Addr) (n1 c1 n2 c2 n3 c3 : Nat) (i a b oa ob s os : Int) : (#[Value.slice A n1 c1, Value.slice B n2 c2, Value.slice C n3 c3, .int .i64 i, .int .i64 a, .int .i64 b, .int .i64 oa, .int .i64 ob, .int .i64 s, .int .i64 os] : Array Value).all (·.oneCell') = true := by simp [Value.oneCell']
theorem store_spot {W : World} {g : Nat} {c0 : Array Value} (A B C : Option Addr) (n1 c1 n2 c2 n3 c3 : Nat) (i a b oa ob s os : Int) (h : W.heap[g]? = some (.cells c0 61 (0, 0))) (hs : c0.size = 10) :
    (Instr.storeAt 61 (.pointer (some ⟨g, 0, none⟩)) (.agg #[.slice A n1 c1, .slice B n2 c2, .slice C n3 c3, .int .i64 i, .int .i64 a, .int .i64 b, .int .i64 oa, .int .i64 ob, .int .i64 s, .int .i64 os])).run Tryd.prog W = .ok () (W.setRow g #[.slice A n1 c1, .slice B n2 c2, .slice C n3 c3, .int .i64 i, .int .i64 a, .int .i64 b, .int .i64 oa, .int .i64 ob, .int .i64 s, .int .i64 os]) := by
  simp only [Instr.storeAt, Instr.sureAddr, Sem.run_bind, Sem.run_pure, Result.andThen_ok, run_storeVar_row W g 61 61 _ #[.slice A n1 c1, .slice B n2 c2, .slice C n3 c3, .int .i64 i, .int .i64 a, .int .i64 b, .int .i64 oa, .int .i64 ob, .int .i64 s, .int .i64 os] h spotSize (by simpa using hs) (ten_all A B C n1 c1 n2 c2 n3 c3 i a b oa ob s os)]
theorem step_storeRow {P : Program} {w : World} {a : Act} {ops : Array Oper} {o : Oper} {K : Act → World → Prop} {Q : Exit → Act → World → Prop} {E : Prop} (hgd : o.guard = none) (ty : TypeId) (x y : Operand) (ho : o.op = .store ty x y)
    (g : Nat) (cells : Array Value) (hx : a.eval x = .pointer (some ⟨g, 0, none⟩)) (hy : a.eval y = .agg cells)
    (t : TypeId) (old : Array Value) (hg : w.heap[g]? = some (.cells old t (0, 0))) (hi : (P.info? ty).map (·.size) = some cells.size)
    (hold : old.size = cells.size) (h1 : cells.all (·.oneCell') = true)
    (h : K (a.put o.dst undef) (w.setRow g cells)) : if Region.wanted o (yielded ops a.tmps) = true then Oper.wp P o a w K Q else E := by
  have hw : Region.wanted o (yielded ops a.tmps) = true := by simp [Region.wanted, hgd]
  rw [if_pos hw]
  exact wp_store_row ty x y ho g cells hx hy t old hg hi hold h1 h
theorem ten_c {W : World} {g : Nat} {t : TypeId} {x0 x1 x2 x3 x4 x5 x6 x7 x8 x9 : Value} (h : W.heap[g]? = some (.cells #[x0, x1, x2, x3, x4, x5, x6, x7, x8, x9] t (0, 0))) :
    W.cell? ⟨g, 0, none⟩ = some x0 ∧ W.cell? ⟨g, 1, none⟩ = some x1 ∧ W.cell? ⟨g, 2, none⟩ = some x2 ∧ W.cell? ⟨g, 3, none⟩ = some x3 ∧ W.cell? ⟨g, 4, none⟩ = some x4 ∧ W.cell? ⟨g, 5, none⟩ = some x5 ∧ W.cell? ⟨g, 6, none⟩ = some x6 ∧ W.cell? ⟨g, 7, none⟩ = some x7 ∧ W.cell? ⟨g, 8, none⟩ = some x8 ∧ W.cell? ⟨g, 9, none⟩ = some x9 := by
  refine ⟨?_, ?_, ?_, ?_, ?_, ?_, ?_, ?_, ?_, ?_⟩ <;> (rw [cell_of_row _ _ _ _ _ _ h]; rfl)
theorem place_done {c0 cs : Array Value} {w w1 : World} {tmps : Array Value} {Post : Ending → World → Prop} (ht : tmps.getD 4 undef = .pointer (some ⟨w.heap.size + 1, 0, none⟩)) (R : w1.heap[w.heap.size + 1]? = some (.cells c0 61 (0, 0))) (hs : cs.size = 10)
    (h : Post (.returned (.agg cs)) (w1.setRow (w.heap.size + 1) cs)) : bodyPost Tryd.prog Tryd.f46 Post .ret ⟨tmps, []⟩ (w1.setRow (w.heap.size + 1) cs) :=
  bodyPost_ret (v := .agg cs) (results_cell_row Tryd.results46 _ _ (w.heap.size + 1) 61 _ (0, 0) _ ht (setRow_heap _ _ _ _ _ _ R) Tryd.underlying61 rfl (by rw [spotSize, hs])) rfl h
theorem ten_set8 {W : World} {g : Nat} {t : TypeId} {x0 x1 x2 x3 x4 x5 x6 x7 x8 x9 : Value} (h : W.heap[g]? = some (.cells #[x0, x1, x2, x3, x4, x5, x6, x7, x8, x9] t (0, 0))) (v : Value) :
    (W.setCell ⟨g, 8, none⟩ v).heap[g]? = some (.cells #[x0, x1, x2, x3, x4, x5, x6, x7, v, x9] t (0, 0)) := by
  have hlt : g < W.heap.size := lt_of_block h
  have h' : W.heap[g] = .cells #[x0, x1, x2, x3, x4, x5, x6, x7, x8, x9] t (0, 0) := by simpa [Array.getElem?_eq_getElem hlt] using h
  show (W.heap.modify g _)[g]? = _
  rw [Array.getElem?_eq_getElem (by simpa using hlt), Array.getElem_modify_self, h']
  rfl
theorem ten_set9 {W : World} {g : Nat} {t : TypeId} {x0 x1 x2 x3 x4 x5 x6 x7 x8 x9 : Value} (h : W.heap[g]? = some (.cells #[x0, x1, x2, x3, x4, x5, x6, x7, x8, x9] t (0, 0))) (v : Value) :
    (W.setCell ⟨g, 9, none⟩ v).heap[g]? = some (.cells #[x0, x1, x2, x3, x4, x5, x6, x7, x8, v] t (0, 0)) := by
  have hlt : g < W.heap.size := lt_of_block h
  have h' : W.heap[g] = .cells #[x0, x1, x2, x3, x4, x5, x6, x7, x8, x9] t (0, 0) := by simpa [Array.getElem?_eq_getElem hlt] using h
  show (W.heap.modify g _)[g]? = _
  rw [Array.getElem?_eq_getElem (by simpa using hlt), Array.getElem_modify_self, h']
  rfl
/-- a place laid: the view's box, the result's, the place's own -/
structure AtJ (w W : World) (vo vc vs : Value) (cells : Array Value) : Prop where
  be : Below w.heap.size w W
  tri : Tri W w.heap.size 48 vo vc vs
  res : W.heap[w.heap.size + 1]? = some (.cells #[.slice none 0 0, .slice none 0 0, .slice none 0 0, .int .i64 0, .int .i64 0, .int .i64 0, .int .i64 0, .int .i64 0, .int .i64 0, .int .i64 0] 61 (0, 0))
  box : W.heap[w.heap.size + 2]? = some (.cells cells 61 (0, 0))
/-- while the sign beyond spaces is laid -/
structure AtK (w wr : World) (ac ao : Addr) (S : Option Addr) (n oc cc sc j q : Nat) (a b oa ob c d : Int) (L : Nat → Bool) (v48 v49 v50 v51 v52 v53 v54 v55 v56 v57 v58 v59 : Value) (W : World) : Prop where
  sz : W.heap.size = wr.heap.size
  be : Below w.heap.size w W
  tri : Tri W w.heap.size 48 (.slice (some ao) n oc) (.slice (some ac) n cc) (.slice S n sc)
  res : W.heap[w.heap.size + 1]? = some (.cells #[.slice none 0 0, .slice none 0 0, .slice none 0 0, .int .i64 0, .int .i64 0, .int .i64 0, .int .i64 0, .int .i64 0, .int .i64 0, .int .i64 0] 61 (0, 0))
  box : W.heap[w.heap.size + 2]? = some (.cells #[.slice (some ao) n oc, .slice (some ac) n cc, .slice S n sc, .int .i64 ((j : Int) + 1), .int .i64 a, .int .i64 b, .int .i64 oa, .int .i64 ob, if L 11 = true then .int .i64 c else .int .i64 (-1), if L 13 = true then .int .i64 d else .int .i64 (-1)] 61 (0, 0))
  o11 : L 11 = true → L 4 = true
  e0 : L 0 = true → v48 = .pointer (some ⟨w.heap.size, 1, none⟩)
  e1 : L 1 = true → v49 = .slice (some ac) n cc
  e2 : L 2 = true → v50 = .int .i64 (q : Int)
  e3 : L 3 = true → v51 = .pointer (some (ac.add q))
  e4 : L 4 = true → v52 = .int .i64 c
  e5 : L 5 = true → v53 = .pointer (some ⟨w.heap.size, 0, none⟩)
  e6 : L 6 = true → v54 = .slice (some ao) n oc
  e7 : L 7 = true → v55 = .int .i64 (q : Int)
  e8 : L 8 = true → v56 = .pointer (some (ao.add q))
  e9 : L 9 = true → v57 = .int .i64 d
  e10 : L 10 = true → v58 = .pointer (some ⟨w.heap.size + 2, 8, none⟩)
  e12 : L 12 = true → v59 = .pointer (some ⟨w.heap.size + 2, 9, none⟩)
set_option maxHeartbeats 16000000 in
theorem at_any (O C S : Option Addr) (n oc cc sc : Nat) (xs : List Int) (j : Nat) (hj : j + 1 < n) (w : World) (hO : FnAt w O n (bk xs)) (hC : FnAt w C n (cls xs)) (hn : n ≤ 4000) :
    Calls Tryd.prog 46 #[.agg #[.slice O n oc, .slice C n cc, .slice S n sc], .int .i64 ((j : Int) + 1)] w fun e w' => e = .returned (.agg #[.slice O n oc, .slice C n cc, .slice S n sc, .int .i64 ((j : Int) + 1), .int .i64 (cls xs j), .int .i64 (cls xs (j + 1)), .int .i64 (bk xs j), .int .i64 (bk xs (j + 1)), .int .i64 (spC xs (j + 1)), .int .i64 (spO xs (j + 1))]) ∧ Below w.heap.size w w' := by
  obtain ⟨ao, rfl, hao, hoo⟩ := hO.at_ (by omega)
  obtain ⟨ac, rfl, hac, hcc⟩ := hC.at_ (by omega)
  have HOO : Shut _ := ⟨hoo⟩
  have HCC : Shut _ := ⟨hcc⟩
  clear hO hC hoo hcc
  go_enter Tryd.func46, Tryd.ntmps46
  go_upto_region 1 with fail
  have X1 : Shut (Below w.heap.size w ((w.alloc (.cells #[.slice (some ao) n oc, .slice (some ac) n cc, .slice S n sc] 48)).alloc (.cells #[.slice none 0 0, .slice none 0 0, .slice none 0 0, .int .i64 0, .int .i64 0, .int .i64 0, .int .i64 0, .int .i64 0, .int .i64 0, .int .i64 0] 61))) := ⟨(below_alloc w _).alloc (by simp) _⟩
  have T1 : Shut (Tri ((w.alloc (.cells #[.slice (some ao) n oc, .slice (some ac) n cc, .slice S n sc] 48)).alloc (.cells #[.slice none 0 0, .slice none 0 0, .slice none 0 0, .int .i64 0, .int .i64 0, .int .i64 0, .int .i64 0, .int .i64 0, .int .i64 0, .int .i64 0] 61)) w.heap.size 48 (.slice (some ao) n oc) (.slice (some ac) n cc) (.slice S n sc)) := ⟨(Tri.newN w _ _ _ _ _ rfl).alloc _⟩
  have Y1 : Shut (((w.alloc (.cells #[.slice (some ao) n oc, .slice (some ac) n cc, .slice S n sc] 48)).alloc (.cells #[.slice none 0 0, .slice none 0 0, .slice none 0 0, .int .i64 0, .int .i64 0, .int .i64 0, .int .i64 0, .int .i64 0, .int .i64 0, .int .i64 0] 61)).heap[w.heap.size + 1]? = some (.cells #[.slice none 0 0, .slice none 0 0, .slice none 0 0, .int .i64 0, .int .i64 0, .int .i64 0, .int .i64 0, .int .i64 0, .int .i64 0, .int .i64 0] 61 (0, 0))) := ⟨by have := heap_alloc_new (w.alloc (.cells #[.slice (some ao) n oc, .slice (some ac) n cc, .slice S n sc] 48)) (.cells #[.slice none 0 0, .slice none 0 0, .slice none 0 0, .int .i64 0, .int .i64 0, .int .i64 0, .int .i64 0, .int .i64 0, .int .i64 0, .int .i64 0] 61); simpa using this⟩
  have Z1 : ((w.alloc (.cells #[.slice (some ao) n oc, .slice (some ac) n cc, .slice S n sc] 48)).alloc (.cells #[.slice none 0 0, .slice none 0 0, .slice none 0 0, .int .i64 0, .int .i64 0, .int .i64 0, .int .i64 0, .int .i64 0, .int .i64 0, .int .i64 0] 61)).heap.size = w.heap.size + 2 := by simp
  generalize (w.alloc (.cells #[.slice (some ao) n oc, .slice (some ac) n cc, .slice S n sc] 48)).alloc (.cells #[.slice none 0 0, .slice none 0 0, .slice none 0 0, .int .i64 0, .int .i64 0, .int .i64 0, .int .i64 0, .int .i64 0, .int .i64 0, .int .i64 0] 61) = w1 at *
  have K1 : Shut (∀ W, Below w1.heap.size w1 W → W.cell? (ac.add j) = some (.int .i64 (cls xs j))) := ⟨fun W hW => HCC.out W (X1.out.trans (hW.mono X1.out.size)) j (by omega)⟩
  have K2 : Shut (∀ W, Below w1.heap.size w1 W → W.cell? ⟨ac.block, ac.off + (j + 1), none⟩ = some (.int .i64 (cls xs (j + 1)))) := ⟨fun W hW => by rw [← add_succ]; exact HCC.out W (X1.out.trans (hW.mono X1.out.size)) (j + 1) hj⟩
  have K3 : Shut (∀ W, Below w1.heap.size w1 W → W.cell? (ao.add j) = some (.int .i64 (bk xs j))) := ⟨fun W hW => HOO.out W (X1.out.trans (hW.mono X1.out.size)) j (by omega)⟩
  have K4 : Shut (∀ W, Below w1.heap.size w1 W → W.cell? ⟨ao.block, ao.off + (j + 1), none⟩ = some (.int .i64 (bk xs (j + 1)))) := ⟨fun W hW => by rw [← add_succ]; exact HOO.out W (X1.out.trans (hW.mono X1.out.size)) (j + 1) hj⟩
  go_cut [5] (fun v5 wx => v5 = .pointer (some ⟨w.heap.size + 2, 0, none⟩) ∧ Shut (AtJ w wx (.slice (some ao) n oc) (.slice (some ac) n cc) (.slice S n sc) #[.slice (some ao) n oc, .slice (some ac) n cc, .slice S n sc, .int .i64 ((j : Int) + 1), .int .i64 (cls xs j), .int .i64 (cls xs (j + 1)), .int .i64 (bk xs j), .int .i64 (bk xs (j + 1)), .int .i64 (-1), .int .i64 (-1)]))
  case first =>
    generalize cls xs j = a at *
    generalize cls xs (j + 1) = b at *
    generalize bk xs j = oa at *
    generalize bk xs (j + 1) = ob at *
    clear HOO HCC
    have wk1 : IntKind.i64.wrap (j : Int) = (j : Int) := IntWalk.i64_in _ (by omega)
    have wk2 : IntKind.i64.wrap ((j : Int) + 1) = (j : Int) + 1 := IntWalk.i64_in _ (by omega)
    have i1 : (0 : Int) ≤ (j : Int) := by omega
    have i2 : (j : Int) < (n : Int) := by omega
    have i3 : (0 : Int) ≤ (j : Int) + 1 := by omega
    have i4 : (j : Int) + 1 < (n : Int) := by omega
    have i5 : j < n := by omega
    refine wp_region_inv (by kernel_rfl) (by kernel_rfl) (fun L a' W => ∃ v5 v7 v8 v9 v10 v11 v12 v13 v14 v15 v16 v17 v18 v19 v20 v21 v22 v23 v24 v25 v26 v27 v28 v29 v30 v31 : Value, AtI w w1 ac ao S n oc cc sc j a b oa ob L v5 v7 v8 v9 v10 v11 v12 v13 v14 v15 v16 v17 v18 v19 v20 v21 v22 v23 v24 v25 v26 v27 v28 v29 v30 v31 W ∧ a' = ⟨#[.agg #[.slice (some ao) n oc, .slice (some ac) n cc, .slice S n sc], .int .i64 ((j : Int) + 1), .pointer (some ⟨w.heap.size, 0, none⟩), undef, .pointer (some ⟨w.heap.size + 1, 0, none⟩), v5, undef, v7, v8, v9, v10, v11, v12, v13, v14, v15, v16, v17, v18, v19, v20, v21, v22, v23, v24, v25, v26, v27, v28, v29, v30, v31, undef, undef, undef, undef, undef, undef, undef, undef, undef, undef, undef, undef, undef, undef, undef, undef, undef, undef, undef, undef, undef, undef, undef, undef, undef, undef, undef, undef, undef], []⟩) ?_ ?_ ?_
    · exact ⟨undef, undef, undef, undef, undef, undef, undef, undef, undef, undef, undef, undef, undef, undef, undef, undef, undef, undef, undef, undef, undef, undef, undef, undef, undef, undef, { be := below_drewN (Below.refl _ _) 1, tri := T1.out, sz := fun _ => rfl, nb := fun h => (by cases h), o26 := fun h => (by cases h), e0 := fun h => (by cases h), e1 := fun h => (by cases h), e2 := fun h => (by cases h), e3 := fun h => (by cases h), e4 := fun h => (by cases h), e5 := fun h => (by cases h), e6 := fun h => (by cases h), e7 := fun h => (by cases h), e8 := fun h => (by cases h), e9 := fun h => (by cases h), e10 := fun h => (by cases h), e11 := fun h => (by cases h), e12 := fun h => (by cases h), e13 := fun h => (by cases h), e14 := fun h => (by cases h), e15 := fun h => (by cases h), e16 := fun h => (by cases h), e17 := fun h => (by cases h), e18 := fun h => (by cases h), e19 := fun h => (by cases h), e20 := fun h => (by cases h), e21 := fun h => (by cases h), e22 := fun h => (by cases h), e23 := fun h => (by cases h), e24 := fun h => (by cases h) }, rfl⟩
    · rintro q o L a' W ho hLi hpre ⟨v5, v7, v8, v9, v10, v11, v12, v13, v14, v15, v16, v17, v18, v19, v20, v21, v22, v23, v24, v25, v26, v27, v28, v29, v30, v31, hI, rfl⟩
      have hi : q < 27 := by
        have := (Array.getElem?_eq_some_iff.1 ho).1
        simpa using this
      have hcs : q = 0 ∨ q = 1 ∨ q = 2 ∨ q = 3 ∨ q = 4 ∨ q = 5 ∨ q = 6 ∨ q = 7 ∨ q = 8 ∨ q = 9 ∨ q = 10 ∨ q = 11 ∨ q = 12 ∨ q = 13 ∨ q = 14 ∨ q = 15 ∨ q = 16 ∨ q = 17 ∨ q = 18 ∨ q = 19 ∨ q = 20 ∨ q = 21 ∨ q = 22 ∨ q = 23 ∨ q = 24 ∨ q = 25 ∨ q = 26 := by omega
      rcases hcs with rfl | rfl | rfl | rfl | rfl | rfl | rfl | rfl | rfl | rfl | rfl | rfl | rfl | rfl | rfl | rfl | rfl | rfl | rfl | rfl | rfl | rfl | rfl | rfl | rfl | rfl | rfl
      all_goals (injection ho with ho; subst ho)
      all_goals (simp [Region.binds] at hpre)
      · have q0 := hI.tri.c0
        have q1 := hI.tri.c1
        have q2 := hI.tri.c2
        refine wpOp_step rfl (fun K hK => ?_)
        go_simp
        exact hK _ _ ⟨v5, .agg #[.slice (some ao) n oc, .slice (some ac) n cc, .slice S n sc], v8, v9, v10, v11, v12, v13, v14, v15, v16, v17, v18, v19, v20, v21, v22, v23, v24, v25, v26, v27, v28, v29, v30, v31, { hI with e0 := fun _ => rfl }, rfl⟩
      · refine wpOp_step rfl (fun K hK => ?_)
        go_simp
        exact hK _ _ ⟨v5, v7, .int .i64 ((j : Int) + 1), v9, v10, v11, v12, v13, v14, v15, v16, v17, v18, v19, v20, v21, v22, v23, v24, v25, v26, v27, v28, v29, v30, v31, { hI with e1 := fun _ => rfl }, rfl⟩
      · refine wpOp_step rfl (fun K hK => ?_)
        go_simp
        exact hK _ _ ⟨v5, v7, v8, .pointer (some ⟨w.heap.size, 1, none⟩), v10, v11, v12, v13, v14, v15, v16, v17, v18, v19, v20, v21, v22, v23, v24, v25, v26, v27, v28, v29, v30, v31, { hI with e2 := fun _ => rfl }, rfl⟩
      · obtain rfl := hI.e2 hpre
        have q0 := hI.tri.c1
        refine wpOp_step rfl (fun K hK => ?_)
        go_simp
        exact hK _ _ ⟨v5, v7, v8, .pointer (some ⟨w.heap.size, 1, none⟩), .slice (some ac) n cc, v11, v12, v13, v14, v15, v16, v17, v18, v19, v20, v21, v22, v23, v24, v25, v26, v27, v28, v29, v30, v31, { hI with e3 := fun _ => rfl }, rfl⟩
      · refine wpOp_step rfl (fun K hK => ?_)
        go_simp
        exact hK _ _ ⟨v5, v7, v8, v9, v10, .int .i64 ((j : Int) + 1), v12, v13, v14, v15, v16, v17, v18, v19, v20, v21, v22, v23, v24, v25, v26, v27, v28, v29, v30, v31, { hI with e4 := fun _ => rfl }, rfl⟩
      · obtain rfl := hI.e4 hpre
        refine wpOp_step rfl (fun K hK => ?_)
        go_simp
        exact hK _ _ ⟨v5, v7, v8, v9, v10, .int .i64 ((j : Int) + 1), .int .i64 (j : Int), v13, v14, v15, v16, v17, v18, v19, v20, v21, v22, v23, v24, v25, v26, v27, v28, v29, v30, v31, { hI with e5 := fun _ => rfl }, rfl⟩
      · obtain rfl := hI.e3 hpre.1
        obtain rfl := hI.e5 hpre.2
        refine wpOp_step rfl (fun K hK => ?_)
        go_simp
        exact hK _ _ ⟨v5, v7, v8, v9, .slice (some ac) n cc, v11, .int .i64 (j : Int), .pointer (some (ac.add j)), v14, v15, v16, v17, v18, v19, v20, v21, v22, v23, v24, v25, v26, v27, v28, v29, v30, v31, { hI with e6 := fun _ => rfl }, rfl⟩
      · obtain rfl := hI.e6 hpre
        have q0 := K1.out _ hI.be
        refine wpOp_step rfl (fun K hK => ?_)
        go_simp
        exact hK _ _ ⟨v5, v7, v8, v9, v10, v11, v12, .pointer (some (ac.add j)), .int .i64 a, v15, v16, v17, v18, v19, v20, v21, v22, v23, v24, v25, v26, v27, v28, v29, v30, v31, { hI with e7 := fun _ => rfl }, rfl⟩
      · refine wpOp_step rfl (fun K hK => ?_)
        go_simp
        exact hK _ _ ⟨v5, v7, v8, v9, v10, v11, v12, v13, v14, .pointer (some ⟨w.heap.size, 1, none⟩), v16, v17, v18, v19, v20, v21, v22, v23, v24, v25, v26, v27, v28, v29, v30, v31, { hI with e8 := fun _ => rfl }, rfl⟩
      · obtain rfl := hI.e8 hpre
        have q0 := hI.tri.c1
        refine wpOp_step rfl (fun K hK => ?_)
        go_simp
        exact hK _ _ ⟨v5, v7, v8, v9, v10, v11, v12, v13, v14, .pointer (some ⟨w.heap.size, 1, none⟩), .slice (some ac) n cc, v17, v18, v19, v20, v21, v22, v23, v24, v25, v26, v27, v28, v29, v30, v31, { hI with e9 := fun _ => rfl }, rfl⟩
      · refine wpOp_step rfl (fun K hK => ?_)
        go_simp
        exact hK _ _ ⟨v5, v7, v8, v9, v10, v11, v12, v13, v14, v15, v16, .int .i64 ((j : Int) + 1), v18, v19, v20, v21, v22, v23, v24, v25, v26, v27, v28, v29, v30, v31, { hI with e10 := fun _ => rfl }, rfl⟩
      · obtain rfl := hI.e9 hpre.1
        obtain rfl := hI.e10 hpre.2
        refine wpOp_step rfl (fun K hK => ?_)
        go_simp
        exact hK _ _ ⟨v5, v7, v8, v9, v10, v11, v12, v13, v14, v15, .slice (some ac) n cc, .int .i64 ((j : Int) + 1), .pointer (some ⟨ac.block, ac.off + (j + 1), none⟩), v19, v20, v21, v22, v23, v24, v25, v26, v27, v28, v29, v30, v31, { hI with e11 := fun _ => rfl }, rfl⟩
      · obtain rfl := hI.e11 hpre
        have q0 := K2.out _ hI.be
        refine wpOp_step rfl (fun K hK => ?_)
        go_simp
        exact hK _ _ ⟨v5, v7, v8, v9, v10, v11, v12, v13, v14, v15, v16, v17, .pointer (some ⟨ac.block, ac.off + (j + 1), none⟩), .int .i64 b, v20, v21, v22, v23, v24, v25, v26, v27, v28, v29, v30, v31, { hI with e12 := fun _ => rfl }, rfl⟩
      · refine wpOp_step rfl (fun K hK => ?_)
        go_simp
        exact hK _ _ ⟨v5, v7, v8, v9, v10, v11, v12, v13, v14, v15, v16, v17, v18, v19, .pointer (some ⟨w.heap.size, 0, none⟩), v21, v22, v23, v24, v25, v26, v27, v28, v29, v30, v31, { hI with e13 := fun _ => rfl }, rfl⟩
      · obtain rfl := hI.e13 hpre
        have q0 := hI.tri.c0
        refine wpOp_step rfl (fun K hK => ?_)
        go_simp
        exact hK _ _ ⟨v5, v7, v8, v9, v10, v11, v12, v13, v14, v15, v16, v17, v18, v19, .pointer (some ⟨w.heap.size, 0, none⟩), .slice (some ao) n oc, v22, v23, v24, v25, v26, v27, v28, v29, v30, v31, { hI with e14 := fun _ => rfl }, rfl⟩
      · refine wpOp_step rfl (fun K hK => ?_)
        go_simp
        exact hK _ _ ⟨v5, v7, v8, v9, v10, v11, v12, v13, v14, v15, v16, v17, v18, v19, v20, v21, .int .i64 ((j : Int) + 1), v23, v24, v25, v26, v27, v28, v29, v30, v31, { hI with e15 := fun _ => rfl }, rfl⟩
      · obtain rfl := hI.e15 hpre
        refine wpOp_step rfl (fun K hK => ?_)
        go_simp
        exact hK _ _ ⟨v5, v7, v8, v9, v10, v11, v12, v13, v14, v15, v16, v17, v18, v19, v20, v21, .int .i64 ((j : Int) + 1), .int .i64 (j : Int), v24, v25, v26, v27, v28, v29, v30, v31, { hI with e16 := fun _ => rfl }, rfl⟩
      · obtain rfl := hI.e14 hpre.1
        obtain rfl := hI.e16 hpre.2
        refine wpOp_step rfl (fun K hK => ?_)
        go_simp
        exact hK _ _ ⟨v5, v7, v8, v9, v10, v11, v12, v13, v14, v15, v16, v17, v18, v19, v20, .slice (some ao) n oc, v22, .int .i64 (j : Int), .pointer (some (ao.add j)), v25, v26, v27, v28, v29, v30, v31, { hI with e17 := fun _ => rfl }, rfl⟩
      · obtain rfl := hI.e17 hpre
        have q0 := K3.out _ hI.be
        refine wpOp_step rfl (fun K hK => ?_)
        go_simp
        exact hK _ _ ⟨v5, v7, v8, v9, v10, v11, v12, v13, v14, v15, v16, v17, v18, v19, v20, v21, v22, v23, .pointer (some (ao.add j)), .int .i64 oa, v26, v27, v28, v29, v30, v31, { hI with e18 := fun _ => rfl }, rfl⟩
      · refine wpOp_step rfl (fun K hK => ?_)
        go_simp
        exact hK _ _ ⟨v5, v7, v8, v9, v10, v11, v12, v13, v14, v15, v16, v17, v18, v19, v20, v21, v22, v23, v24, v25, .pointer (some ⟨w.heap.size, 0, none⟩), v27, v28, v29, v30, v31, { hI with e19 := fun _ => rfl }, rfl⟩
      · obtain rfl := hI.e19 hpre
        have q0 := hI.tri.c0
        refine wpOp_step rfl (fun K hK => ?_)
        go_simp
        exact hK _ _ ⟨v5, v7, v8, v9, v10, v11, v12, v13, v14, v15, v16, v17, v18, v19, v20, v21, v22, v23, v24, v25, .pointer (some ⟨w.heap.size, 0, none⟩), .slice (some ao) n oc, v28, v29, v30, v31, { hI with e20 := fun _ => rfl }, rfl⟩
      · refine wpOp_step rfl (fun K hK => ?_)
        go_simp
        exact hK _ _ ⟨v5, v7, v8, v9, v10, v11, v12, v13, v14, v15, v16, v17, v18, v19, v20, v21, v22, v23, v24, v25, v26, v27, .int .i64 ((j : Int) + 1), v29, v30, v31, { hI with e21 := fun _ => rfl }, rfl⟩
      · obtain rfl := hI.e20 hpre.1
        obtain rfl := hI.e21 hpre.2
        refine wpOp_step rfl (fun K hK => ?_)
        go_simp
        exact hK _ _ ⟨v5, v7, v8, v9, v10, v11, v12, v13, v14, v15, v16, v17, v18, v19, v20, v21, v22, v23, v24, v25, v26, .slice (some ao) n oc, .int .i64 ((j : Int) + 1), .pointer (some ⟨ao.block, ao.off + (j + 1), none⟩), v30, v31, { hI with e22 := fun _ => rfl }, rfl⟩
      · obtain rfl := hI.e22 hpre
        have q0 := K4.out _ hI.be
        refine wpOp_step rfl (fun K hK => ?_)
        go_simp
        exact hK _ _ ⟨v5, v7, v8, v9, v10, v11, v12, v13, v14, v15, v16, v17, v18, v19, v20, v21, v22, v23, v24, v25, v26, v27, v28, .pointer (some ⟨ao.block, ao.off + (j + 1), none⟩), .int .i64 ob, v31, { hI with e23 := fun _ => rfl }, rfl⟩
      · obtain rfl := hI.e0 hpre.1
        obtain rfl := hI.e1 hpre.2.1
        obtain rfl := hI.e7 hpre.2.2.1
        obtain rfl := hI.e12 hpre.2.2.2.1
        obtain rfl := hI.e18 hpre.2.2.2.2.1
        obtain rfl := hI.e23 hpre.2.2.2.2.2
        refine wpOp_step rfl (fun K hK => ?_)
        go_simp
        exact hK _ _ ⟨v5, .agg #[.slice (some ao) n oc, .slice (some ac) n cc, .slice S n sc], .int .i64 ((j : Int) + 1), v9, v10, v11, v12, v13, .int .i64 a, v15, v16, v17, v18, .int .i64 b, v20, v21, v22, v23, v24, .int .i64 oa, v26, v27, v28, v29, .int .i64 ob, .agg #[.slice (some ao) n oc, .slice (some ac) n cc, .slice S n sc, .int .i64 ((j : Int) + 1), .int .i64 a, .int .i64 b, .int .i64 oa, .int .i64 ob, .int .i64 (-1), .int .i64 (-1)], { hI with e24 := fun _ => rfl }, rfl⟩
      · have e := hI.sz hLi
        have l26 : L 26 = false := by cases h : L 26 with | false => rfl | true => (have := hI.o26 h; rw [hLi] at this; cases this)
        refine wpOp_step rfl (fun K hK => ?_)
        go_simp
        exact hK _ _ ⟨.pointer (some ⟨w.heap.size + 2, 0, none⟩), v7, v8, v9, v10, v11, v12, v13, v14, v15, v16, v17, v18, v19, v20, v21, v22, v23, v24, v25, v26, v27, v28, v29, v30, v31, { hI with be := hI.be.alloc (by rw [e]; exact Nat.le_refl _) _, tri := hI.tri.alloc _, sz := fun h => (by cases h), nb := fun _ => ⟨by rw [Z1], by show _ = some (Obj.cells (if L 26 = true then _ else _) _ _); rw [if_neg (nt l26), ← e]; exact heap_alloc_new _ _⟩, o26 := fun _ => rfl }, rfl⟩
      · have l25 : L 25 = true := hpre.1
        have l24 : L 24 = true := hpre.2.1
        clear hpre
        obtain ⟨h5, hb⟩ := hI.nb l25
        rw [if_neg (nt hLi)] at hb
        rw [Z1] at h5 hb
        subst h5
        obtain rfl := hI.e24 l24
        refine wpOp_step rfl (fun K hK => ?_)
        refine step_storeRow rfl 61 (.tmp 5) (.tmp 31) rfl (w.heap.size + 2) _ rfl rfl 61 _ hb spotSize (by simp) (ten_all (some ao) (some ac) S n oc n cc n sc ((j : Int) + 1) a b oa ob (-1) (-1)) ?_
        exact hK _ _ ⟨.pointer (some ⟨w.heap.size + 2, 0, none⟩), v7, v8, v9, v10, v11, v12, v13, v14, v15, v16, v17, v18, v19, v20, v21, v22, v23, v24, v25, v26, v27, v28, v29, v30, .agg #[.slice (some ao) n oc, .slice (some ac) n cc, .slice S n sc, .int .i64 ((j : Int) + 1), .int .i64 a, .int .i64 b, .int .i64 oa, .int .i64 ob, .int .i64 (-1), .int .i64 (-1)], { hI with be := below_setRow hI.be (by omega) _, tri := (setRow_other W (w.heap.size + 2) w.heap.size _ (by omega)).trans hI.tri, sz := (by intro h; rw [l25] at h; cases h), nb := fun _ => ⟨by rw [Z1], by rw [Z1]; exact setRow_heap _ _ _ _ _ _ hb⟩, o26 := fun _ => l25 }, rfl⟩
    · rintro L a' W hall ⟨v5, v7, v8, v9, v10, v11, v12, v13, v14, v15, v16, v17, v18, v19, v20, v21, v22, v23, v24, v25, v26, v27, v28, v29, v30, v31, hI, rfl⟩
      have l25 := hall 25 (by simp)
      have l26 := hall 26 (by simp)
      clear hall
      obtain ⟨rfl, hb⟩ := hI.nb l25
      rw [if_pos l26, Z1] at hb
      have H : Shut (AtJ w W (.slice (some ao) n oc) (.slice (some ac) n cc) (.slice S n sc) #[.slice (some ao) n oc, .slice (some ac) n cc, .slice S n sc, .int .i64 ((j : Int) + 1), .int .i64 a, .int .i64 b, .int .i64 oa, .int .i64 ob, .int .i64 (-1), .int .i64 (-1)]) := ⟨⟨X1.out.trans (hI.be.mono X1.out.size), hI.tri, (hI.be.block _ (by omega)).trans Y1.out, hb⟩⟩
      rw [Z1]
      clear hI hb
      go_step
      go_step
      go_meet
      exact ⟨rfl, H⟩
  case rest =>
    obtain ⟨rfl, RJ⟩ := hcut
    clear K1 K2 K3 K4 T1 Y1 Z1 X1
    have S0 : Shut (spN xs (j + 1) = 0 → spC xs (j + 1) = -1 ∧ spO xs (j + 1) = -1) := ⟨fun h => ⟨spC_zero h, spO_zero h⟩⟩
    have S1 : Shut (∀ s, spN xs (j + 1) = s + 1 → spC xs (j + 1) = cls xs s ∧ spO xs (j + 1) = bk xs s) := ⟨fun s h => ⟨spC_succ h, spO_succ h⟩⟩
    go_wp2_with fail
    go_loopg [6] (j + 1 + 1) (fun gg v wr => ∃ k : Nat, k < gg ∧ k ≤ j + 1 ∧ v = .int .i64 ((k : Int) - 1) ∧ Shut (spN xs k = spN xs (j + 1)) ∧ wr = wc)
    case atStart => exact ⟨j + 1, by omega, by omega, by go_num, ⟨rfl⟩, rfl⟩
    case round =>
      obtain ⟨k, hg, hk, rfl, SI, rfl⟩ := hrel
      obtain rfl | ⟨q, rfl⟩ : k = 0 ∨ ∃ q, k = q + 1 := by cases k with | zero => exact .inl rfl | succ q => exact .inr ⟨q, rfl⟩
      · rw [show ((0 : Nat) : Int) - 1 = -1 from rfl]
        have E : Shut _ := ⟨S0.out SI.out.symm⟩
        clear S0 S1 SI HOO HCC
        obtain ⟨z0, z1, z2, z3, z4, z5, z6, z7, z8, z9⟩ := ten_c RJ.out.box
        have RES := RJ.out.res
        go_wp2_with (refine wpList_store_row rfl 61 (.tmp 4) (.tmp 60) rfl (w.heap.size + 1) _ rfl rfl 61 _ RES spotSize (by simp) (ten_all _ _ _ _ _ _ _ _ _ _ _ _ _ _ _ _) ?_)
        refine place_done (by rfl) RES (by simp) ⟨?_, below_setRow RJ.out.be (by omega) _⟩
        rw [E.out.1, E.out.2]
      · have k1 := HOO.out _ RJ.out.be q (by omega)
        have t0 := RJ.out.tri.c0
        have Y : Shut ((bk xs q == 4) = true → spN xs q = spN xs (j + 1)) := ⟨fun h1 => by
          have := SI.out
          simp only [spN] at this ⊢
          rw [if_pos h1] at this
          exact this⟩
        have N1 : Shut ((bk xs q == 4) = false → spN xs (j + 1) = q + 1) := ⟨fun h1 => by
          have := SI.out
          rw [← this]
          simp only [spN]
          rw [if_neg (by rw [h1]; simp)]⟩
        rw [show ((q + 1 : Nat) : Int) - 1 = (q : Int) from by omega]
        cases hm : (bk xs q == 4) with
        | true =>
          have E : Shut _ := ⟨Y.out hm⟩
          clear S0 S1 SI HOO HCC Y N1
          go_wp2_with fail
          go_roundg (q + 1)
          case measure => omega
          case rel => exact ⟨q, by omega, by omega, by go_num, E, rfl⟩
        | false =>
          have E : Shut _ := ⟨S1.out q (N1.out hm)⟩
          clear S0 S1 SI Y N1
          go_upto_region 6 with fail
          have KC : Shut (∀ W, Below w.heap.size w W → W.cell? (ac.add q) = some (.int .i64 (cls xs q))) := ⟨fun W hW => HCC.out W hW q (by omega)⟩
          have KO : Shut (∀ W, Below w.heap.size w W → W.cell? (ao.add q) = some (.int .i64 (bk xs q))) := ⟨fun W hW => HOO.out W hW q (by omega)⟩
          have wk1 : IntKind.i64.wrap (q : Int) = (q : Int) := IntWalk.i64_in _ (by omega)
          have i1 : (0 : Int) ≤ (q : Int) := by omega
          have i2 : (q : Int) < (n : Int) := by omega
          have i5 : q < n := by omega
          clear hm k1 t0
          refine wp_region_invA (by kernel_rfl) (by kernel_rfl) (fun L a' W => ∃ v48 v49 v50 v51 v52 v53 v54 v55 v56 v57 v58 v59 : Value, AtK w wr ac ao S n oc cc sc j q (cls xs j) (cls xs (j + 1)) (bk xs j) (bk xs (j + 1)) (cls xs q) (bk xs q) L v48 v49 v50 v51 v52 v53 v54 v55 v56 v57 v58 v59 W ∧ a' = ⟨#[.agg #[.slice (some ao) n oc, .slice (some ac) n cc, .slice S n sc], .int .i64 ((j : Int) + 1), .pointer (some ⟨w.heap.size, 0, none⟩), undef, .pointer (some ⟨w.heap.size + 1, 0, none⟩), .pointer (some ⟨w.heap.size + 2, 0, none⟩), .int .i64 (q : Int), u7, u8, u9, u10, u11, u12, u13, u14, u15, u16, u17, u18, u19, u20, u21, u22, u23, u24, u25, u26, u27, u28, u29, u30, u31, .int .i64 ((j : Int) + 1), .int .i64 (j : Int), .int .i64 (q : Int), .bool true, .bool true, .pointer (some ⟨w.heap.size, 0, none⟩), .slice (some ao) n oc, .int .i64 (q : Int), .pointer (some (ao.add q)), .int .i64 (bk xs q), .bool false, .bool false, u44, u45, .int .i64 (q : Int), .bool true, v48, v49, v50, v51, v52, v53, v54, v55, v56, v57, v58, v59, u60], []⟩) ?_ ?_ ?_
          · exact ⟨u48, u49, u50, u51, u52, u53, u54, u55, u56, u57, u58, u59, { sz := rfl, be := below_drewN RJ.out.be 1, tri := RJ.out.tri, res := RJ.out.res, box := RJ.out.box, o11 := fun h => (by cases h), e0 := fun h => (by cases h), e1 := fun h => (by cases h), e2 := fun h => (by cases h), e3 := fun h => (by cases h), e4 := fun h => (by cases h), e5 := fun h => (by cases h), e6 := fun h => (by cases h), e7 := fun h => (by cases h), e8 := fun h => (by cases h), e9 := fun h => (by cases h), e10 := fun h => (by cases h), e12 := fun h => (by cases h) }, rfl⟩
          · rintro i o L a' W ho hLi hpre ⟨v48, v49, v50, v51, v52, v53, v54, v55, v56, v57, v58, v59, hI, rfl⟩
            have hi : i < 14 := by
              have := (Array.getElem?_eq_some_iff.1 ho).1
              simpa using this
            have hcs : i = 0 ∨ i = 1 ∨ i = 2 ∨ i = 3 ∨ i = 4 ∨ i = 5 ∨ i = 6 ∨ i = 7 ∨ i = 8 ∨ i = 9 ∨ i = 10 ∨ i = 11 ∨ i = 12 ∨ i = 13 := by omega
            rcases hcs with rfl | rfl | rfl | rfl | rfl | rfl | rfl | rfl | rfl | rfl | rfl | rfl | rfl | rfl
            all_goals (injection ho with ho; subst ho)
            all_goals (simp [Region.binds] at hpre)
            · refine wpOp_step rfl (fun K hK => ?_)
              go_simp
              exact hK _ _ ⟨.pointer (some ⟨w.heap.size, 1, none⟩), v49, v50, v51, v52, v53, v54, v55, v56, v57, v58, v59, { hI with e0 := fun _ => rfl }, rfl⟩
            · obtain rfl := hI.e0 (hpre)
              have q0 := hI.tri.c1
              refine wpOp_step rfl (fun K hK => ?_)
              go_simp
              exact hK _ _ ⟨.pointer (some ⟨w.heap.size, 1, none⟩), .slice (some ac) n cc, v50, v51, v52, v53, v54, v55, v56, v57, v58, v59, { hI with e1 := fun _ => rfl }, rfl⟩
            · refine wpOp_step rfl (fun K hK => ?_)
              go_simp
              exact hK _ _ ⟨v48, v49, .int .i64 (q : Int), v51, v52, v53, v54, v55, v56, v57, v58, v59, { hI with e2 := fun _ => rfl }, rfl⟩
            · obtain rfl := hI.e1 (hpre.1)
              obtain rfl := hI.e2 (hpre.2)
              refine wpOp_step rfl (fun K hK => ?_)
              go_simp
              exact hK _ _ ⟨v48, .slice (some ac) n cc, .int .i64 (q : Int), .pointer (some (ac.add q)), v52, v53, v54, v55, v56, v57, v58, v59, { hI with e3 := fun _ => rfl }, rfl⟩
            · obtain rfl := hI.e3 (hpre)
              have q0 := KC.out W hI.be
              refine wpOp_step rfl (fun K hK => ?_)
              go_simp
              exact hK _ _ ⟨v48, v49, v50, .pointer (some (ac.add q)), .int .i64 (cls xs q), v53, v54, v55, v56, v57, v58, v59, { hI with e4 := fun _ => rfl, o11 := fun _ => rfl }, rfl⟩
            · refine wpOp_step rfl (fun K hK => ?_)
              go_simp
              exact hK _ _ ⟨v48, v49, v50, v51, v52, .pointer (some ⟨w.heap.size, 0, none⟩), v54, v55, v56, v57, v58, v59, { hI with e5 := fun _ => rfl }, rfl⟩
            · obtain rfl := hI.e5 (hpre)
              have q0 := hI.tri.c0
              refine wpOp_step rfl (fun K hK => ?_)
              go_simp
              exact hK _ _ ⟨v48, v49, v50, v51, v52, .pointer (some ⟨w.heap.size, 0, none⟩), .slice (some ao) n oc, v55, v56, v57, v58, v59, { hI with e6 := fun _ => rfl }, rfl⟩
            · refine wpOp_step rfl (fun K hK => ?_)
              go_simp
              exact hK _ _ ⟨v48, v49, v50, v51, v52, v53, v54, .int .i64 (q : Int), v56, v57, v58, v59, { hI with e7 := fun _ => rfl }, rfl⟩
            · obtain rfl := hI.e6 (hpre.1)
              obtain rfl := hI.e7 (hpre.2)
              refine wpOp_step rfl (fun K hK => ?_)
              go_simp
              exact hK _ _ ⟨v48, v49, v50, v51, v52, v53, .slice (some ao) n oc, .int .i64 (q : Int), .pointer (some (ao.add q)), v57, v58, v59, { hI with e8 := fun _ => rfl }, rfl⟩
            · obtain rfl := hI.e8 (hpre)
              have q0 := KO.out W hI.be
              refine wpOp_step rfl (fun K hK => ?_)
              go_simp
              exact hK _ _ ⟨v48, v49, v50, v51, v52, v53, v54, v55, .pointer (some (ao.add q)), .int .i64 (bk xs q), v58, v59, { hI with e9 := fun _ => rfl }, rfl⟩
            · refine wpOp_step rfl (fun K hK => ?_)
              go_simp
              exact hK _ _ ⟨v48, v49, v50, v51, v52, v53, v54, v55, v56, v57, .pointer (some ⟨w.heap.size + 2, 8, none⟩), v59, { hI with e10 := fun _ => rfl }, rfl⟩
            · obtain rfl := hI.e10 (hpre.1)
              obtain rfl := hI.e4 (hpre.2.1)
              obtain ⟨_, _, _, _, _, _, _, _, z8, z9⟩ := ten_c hI.box
              have fz : W.frozen? ⟨w.heap.size + 2, 8, none⟩ = false := frozen_of_row _ _ _ _ _ hI.box
              refine wpOp_step rfl (fun K hK => ?_)
              go_simp
              exact hK _ _ ⟨v48, v49, v50, v51, .int .i64 (cls xs q), v53, v54, v55, v56, v57, .pointer (some ⟨w.heap.size + 2, 8, none⟩), v59, { hI with sz := (by rw [← hI.sz]; simp), be := hI.be.setCell (by simp) _, tri := hI.tri.far (by omega) _, res := (Below.heap_setCell W ⟨w.heap.size + 2, 8, none⟩ _ _ (by simp)).trans hI.res, box := ten_set8 hI.box _, o11 := fun _ => hpre.2.1 }, rfl⟩
            · refine wpOp_step rfl (fun K hK => ?_)
              go_simp
              exact hK _ _ ⟨v48, v49, v50, v51, v52, v53, v54, v55, v56, v57, v58, .pointer (some ⟨w.heap.size + 2, 9, none⟩), { hI with e12 := fun _ => rfl }, rfl⟩
            · obtain rfl := hI.e12 (hpre.1)
              obtain rfl := hI.e9 (hpre.2.1)
              obtain ⟨_, _, _, _, _, _, _, _, z8, z9⟩ := ten_c hI.box
              have fz : W.frozen? ⟨w.heap.size + 2, 9, none⟩ = false := frozen_of_row _ _ _ _ _ hI.box
              refine wpOp_step rfl (fun K hK => ?_)
              go_simp
              exact hK _ _ ⟨v48, v49, v50, v51, v52, v53, v54, v55, v56, .int .i64 (bk xs q), v58, .pointer (some ⟨w.heap.size + 2, 9, none⟩), { hI with sz := (by rw [← hI.sz]; simp), be := hI.be.setCell (by simp) _, tri := hI.tri.far (by omega) _, res := (Below.heap_setCell W ⟨w.heap.size + 2, 9, none⟩ _ _ (by simp)).trans hI.res, box := ten_set9 hI.box _ }, rfl⟩
          · rintro L a' W hall ⟨v48, v49, v50, v51, v52, v53, v54, v55, v56, v57, v58, v59, hI, rfl⟩
            have l11 := hall 11 (by simp)
            have l13 := hall 13 (by simp)
            clear hall
            have bx := hI.box
            rw [if_pos l11, if_pos l13] at bx
            have RES : Shut _ := ⟨hI.res⟩
            have BE : Shut _ := ⟨hI.be⟩
            obtain ⟨z0, z1, z2, z3, z4, z5, z6, z7, z8, z9⟩ := ten_c bx
            clear hI bx HOO HCC KC KO
            go_step
            have RES := RES.out
            go_wp2_with (refine wpList_store_row rfl 61 (.tmp 4) (.tmp 60) rfl (w.heap.size + 1) _ rfl rfl 61 _ RES spotSize (by simp) (ten_all _ _ _ _ _ _ _ _ _ _ _ _ _ _ _ _) ?_)
            refine place_done (by rfl) RES (by simp) ⟨?_, below_setRow BE.out (by omega) _⟩
            rw [E.out.1, E.out.2]
end Go.Proofs.YtmbgeeiidpllcaaDoor
/- Chapter 19: the program's kind of a place. -/
namespace Go.Proofs.YtmbgeeiidpllcaaDoor
open Go.ChangeShapes Go.WideShapes Go.ChangeAt Go.RowKit
set_option maxRecDepth 100000
set_option linter.unusedSimpArgs false

structure KdI (w w1 W : World) (cells : Array Value) (f g h : Value) : Prop where
  be : Below w.heap.size w W
  box : W.heap[w1.heap.size]? = some (.cells cells 61 (0, 0))
  fn : Tri W (w1.heap.size + 1) 63 f g h
theorem KdI.pass {w w1 W W' : World} {cells : Array Value} {f g h : Value} (k : KdI w w1 W cells f g h) (hb : Below W.heap.size W W') : KdI w w1 W' cells f g h :=
  ⟨k.be.trans (hb.mono k.be.size), (hb.block _ (lt_of_block k.box)).trans k.box, k.fn.pass hb k.fn.lt⟩
theorem kindN_K (xs : List Int) (j : Nat) : kindN xs (j + 1) = if (hardF (bk xs j) (bk xs (j + 1)) (spO xs (j + 1)) (cls xs j) (cls xs (j + 1)) != -1) = true then hardF (bk xs j) (bk xs (j + 1)) (spO xs (j + 1)) (cls xs j) (cls xs (j + 1))
    else if (closF (bk xs j) (cls xs j) (cls xs (j + 1)) (spC xs (j + 1)) != -1) = true then closF (bk xs j) (cls xs j) (cls xs (j + 1)) (spC xs (j + 1))
    else if (joinK (cls xs j) (cls xs (j + 1)) (hebN xs (j + 1)) != -1) = true then joinK (cls xs j) (cls xs (j + 1)) (hebN xs (j + 1)) else lastK (cls xs j) (cls xs (j + 1)) (oddN xs (j + 1)) := by
  unfold joinK lastK kindN
  rw [Nat.add_sub_cancel]
  cases joinQ (cls xs j) (cls xs (j + 1)) (hebN xs (j + 1)) <;> cases lastB (cls xs j) (cls xs (j + 1)) (oddN xs (j + 1)) <;> simp
set_option maxHeartbeats 8000000 in
theorem pkind_any (O C S : Option Addr) (n oc cc sc : Nat) (xs : List Int) (j : Nat) (hj : j + 1 < n) (w : World) (hO : FnAt w O n (bk xs)) (hC : FnAt w C n (cls xs)) (hS : FnAt w S n fun i => (srcN xs i : Int)) (hn : n ≤ 4000) :
    Calls Tryd.prog 38 #[.agg #[.slice O n oc, .slice C n cc, .slice S n sc], .int .i64 ((j : Int) + 1)] w fun e w' => e = .returned (.int .i64 (kindN xs (j + 1))) ∧ Below w.heap.size w w' := by
  have AT : Shut (∀ W, Below w.heap.size w W → _) := ⟨fun W hW => at_any O C S n oc cc sc xs j hj W (hO.pass hW) (hC.pass hW) hn⟩
  have HD : Shut (∀ W, _) := ⟨fun W => phard19_any (.slice O n oc) (.slice C n cc) (.slice S n sc) ((j : Int) + 1) (cls xs j) (cls xs (j + 1)) (bk xs j) (bk xs (j + 1)) (spC xs (j + 1)) (spO xs (j + 1)) W⟩
  have CL : Shut (∀ W, _) := ⟨fun W => pclos19_any (.slice O n oc) (.slice C n cc) (.slice S n sc) ((j : Int) + 1) (cls xs j) (cls xs (j + 1)) (bk xs j) (bk xs (j + 1)) (spC xs (j + 1)) (spO xs (j + 1)) W⟩
  have JN : Shut (∀ W, Below w.heap.size w W → _) := ⟨fun W hW => pjoin19_any O C S n oc cc sc xs j hj (cls xs j) (cls xs (j + 1)) (bk xs j) (bk xs (j + 1)) (spC xs (j + 1)) (spO xs (j + 1)) W (hC.pass hW) (hS.pass hW) hn⟩
  have LA : Shut (∀ W, Below w.heap.size w W → _) := ⟨fun W hW => plast19_any O C S n oc cc sc xs j hj (cls xs j) (cls xs (j + 1)) (bk xs j) (bk xs (j + 1)) (spC xs (j + 1)) (spO xs (j + 1)) W (hO.pass hW) hn⟩
  have EQ : Shut _ := ⟨kindN_K xs j⟩
  have BX : Shut (Below w.heap.size w (w.alloc (.cells #[.slice O n oc, .slice C n cc, .slice S n sc] 48))) := ⟨below_alloc _ _⟩
  have p0 := (Tri.newN w 48 (.slice O n oc) (.slice C n cc) (.slice S n sc) _ rfl).c0
  have p1 := (Tri.newN w 48 (.slice O n oc) (.slice C n cc) (.slice S n sc) _ rfl).c1
  have p2 := (Tri.newN w 48 (.slice O n oc) (.slice C n cc) (.slice S n sc) _ rfl).c2
  clear hO hC hS
  generalize hardF (bk xs j) (bk xs (j + 1)) (spO xs (j + 1)) (cls xs j) (cls xs (j + 1)) = h at *
  generalize closF (bk xs j) (cls xs j) (cls xs (j + 1)) (spC xs (j + 1)) = c at *
  generalize joinK (cls xs j) (cls xs (j + 1)) (hebN xs (j + 1)) = jk at *
  generalize lastK (cls xs j) (cls xs (j + 1)) (oddN xs (j + 1)) = lk at *
  generalize kindN xs (j + 1) = K at *
  generalize cls xs j = a at *
  generalize cls xs (j + 1) = b at *
  generalize bk xs j = oa at *
  generalize bk xs (j + 1) = ob at *
  generalize spC xs (j + 1) = s at *
  generalize spO xs (j + 1) = os at *
  go_enter Tryd.func38, Tryd.ntmps38
  go_wp2_with (go_at_call 46; with_reducible refine (AT.out _ BX.out).mono ?_; rintro e w1 ⟨rfl, b1⟩; have X1 : Shut (Below w.heap.size w w1) := ⟨BX.out.trans (b1.mono BX.out.size)⟩; clear b1 p0 p1 p2 BX AT)
  have R0 : Shut (KdI w w1 ((w1.alloc (.cells #[.slice O n oc, .slice C n cc, .slice S n sc, .int .i64 ((j : Int) + 1), .int .i64 a, .int .i64 b, .int .i64 oa, .int .i64 ob, .int .i64 s, .int .i64 os] 61)).alloc (.cells #[.func (.func 47) #[.agg #[.slice O n oc, .slice C n cc, .slice S n sc, .int .i64 ((j : Int) + 1), .int .i64 a, .int .i64 b, .int .i64 oa, .int .i64 ob, .int .i64 s, .int .i64 os]] #[], .func (.func 48) #[.agg #[.slice O n oc, .slice C n cc, .slice S n sc, .int .i64 ((j : Int) + 1), .int .i64 a, .int .i64 b, .int .i64 oa, .int .i64 ob, .int .i64 s, .int .i64 os]] #[], .func (.func 49) #[.agg #[.slice O n oc, .slice C n cc, .slice S n sc, .int .i64 ((j : Int) + 1), .int .i64 a, .int .i64 b, .int .i64 oa, .int .i64 ob, .int .i64 s, .int .i64 os]] #[]] 63)) #[.slice O n oc, .slice C n cc, .slice S n sc, .int .i64 ((j : Int) + 1), .int .i64 a, .int .i64 b, .int .i64 oa, .int .i64 ob, .int .i64 s, .int .i64 os] (.func (.func 47) #[.agg #[.slice O n oc, .slice C n cc, .slice S n sc, .int .i64 ((j : Int) + 1), .int .i64 a, .int .i64 b, .int .i64 oa, .int .i64 ob, .int .i64 s, .int .i64 os]] #[]) (.func (.func 48) #[.agg #[.slice O n oc, .slice C n cc, .slice S n sc, .int .i64 ((j : Int) + 1), .int .i64 a, .int .i64 b, .int .i64 oa, .int .i64 ob, .int .i64 s, .int .i64 os]] #[]) (.func (.func 49) #[.agg #[.slice O n oc, .slice C n cc, .slice S n sc, .int .i64 ((j : Int) + 1), .int .i64 a, .int .i64 b, .int .i64 oa, .int .i64 ob, .int .i64 s, .int .i64 os]] #[])) := ⟨⟨(X1.out.alloc X1.out.size _).trans (below_alloc _ _ |>.mono (by have := X1.out.size; simp; omega)), by rw [Below.heap_alloc _ _ _ (by simp)]; exact heap_alloc_new _ _, Tri.newN _ _ _ _ _ _ (by simp)⟩⟩
  generalize (w1.alloc (.cells #[.slice O n oc, .slice C n cc, .slice S n sc, .int .i64 ((j : Int) + 1), .int .i64 a, .int .i64 b, .int .i64 oa, .int .i64 ob, .int .i64 s, .int .i64 os] 61)).alloc (.cells #[.func (.func 47) #[.agg #[.slice O n oc, .slice C n cc, .slice S n sc, .int .i64 ((j : Int) + 1), .int .i64 a, .int .i64 b, .int .i64 oa, .int .i64 ob, .int .i64 s, .int .i64 os]] #[], .func (.func 48) #[.agg #[.slice O n oc, .slice C n cc, .slice S n sc, .int .i64 ((j : Int) + 1), .int .i64 a, .int .i64 b, .int .i64 oa, .int .i64 ob, .int .i64 s, .int .i64 os]] #[], .func (.func 49) #[.agg #[.slice O n oc, .slice C n cc, .slice S n sc, .int .i64 ((j : Int) + 1), .int .i64 a, .int .i64 b, .int .i64 oa, .int .i64 ob, .int .i64 s, .int .i64 os]] #[]] 63) = wz at *
  go_loopg [20, 7, 8] (3 + 1) (fun gg v20 _ _ wr => ∃ k : Nat, 3 - k < gg ∧ k ≤ 3 ∧ v20 = .int .i64 (k : Int) ∧ Shut ((1 ≤ k → h = -1) ∧ (2 ≤ k → c = -1) ∧ (3 ≤ k → jk = -1)) ∧ Shut (KdI w w1 wr #[.slice O n oc, .slice C n cc, .slice S n sc, .int .i64 ((j : Int) + 1), .int .i64 a, .int .i64 b, .int .i64 oa, .int .i64 ob, .int .i64 s, .int .i64 os] (.func (.func 47) #[.agg #[.slice O n oc, .slice C n cc, .slice S n sc, .int .i64 ((j : Int) + 1), .int .i64 a, .int .i64 b, .int .i64 oa, .int .i64 ob, .int .i64 s, .int .i64 os]] #[]) (.func (.func 48) #[.agg #[.slice O n oc, .slice C n cc, .slice S n sc, .int .i64 ((j : Int) + 1), .int .i64 a, .int .i64 b, .int .i64 oa, .int .i64 ob, .int .i64 s, .int .i64 os]] #[]) (.func (.func 49) #[.agg #[.slice O n oc, .slice C n cc, .slice S n sc, .int .i64 ((j : Int) + 1), .int .i64 a, .int .i64 b, .int .i64 oa, .int .i64 ob, .int .i64 s, .int .i64 os]] #[])))
  case atStart => exact ⟨0, by omega, by omega, rfl, ⟨fun h => by omega, fun h => by omega, fun h => by omega⟩, R0⟩
  case round =>
    obtain ⟨k, hg, hk, rfl, SI, RB⟩ := hrel
    clear R0
    obtain rfl | rfl | rfl | rfl : k = 0 ∨ k = 1 ∨ k = 2 ∨ k = 3 := by omega
    · rw [show ((0 : Nat) : Int) = 0 from rfl]
      have q0 := RB.out.fn.c0
      have CT : Shut _ := ⟨HD.out wr⟩
      cases hq : (h == -1) with
      | false =>
        have hn1 : (h != -1) = true := by simp [bne, hq]
        have E : Shut (h = K) := ⟨by rw [EQ.out, if_pos hn1]⟩
        clear EQ
        go_wp2_with (go_at_call 47; with_reducible refine CT.out.mono ?_; rintro e w9 ⟨rfl, b9⟩)
        go_ret
        exact ⟨intv E.out, RB.out.be.trans (b9.mono RB.out.be.size)⟩
      | true =>
        have hn1 : (h != -1) = false := by simp [bne, hq]
        have E : Shut (h = -1) := ⟨by simpa using hq⟩
        go_wp2_with (go_at_call 47; with_reducible refine CT.out.mono ?_; rintro e w9 ⟨rfl, b9⟩; have R9 : Shut _ := ⟨RB.out.pass b9⟩; clear b9)
        go_roundg (3 - 0)
        case measure => omega
        case rel => exact ⟨1, by omega, by omega, by go_num, ⟨fun h => E.out, fun h => by omega, fun h => by omega⟩, R9⟩
    · rw [show ((1 : Nat) : Int) = 1 from rfl]
      have e0 := SI.out.1 (by omega)
      have q0 := RB.out.fn.c1
      have CT : Shut _ := ⟨CL.out wr⟩
      cases hq : (c == -1) with
      | false =>
        have hn1 : (c != -1) = true := by simp [bne, hq]
        have E : Shut (c = K) := ⟨by rw [EQ.out, e0, if_neg (by decide), if_pos hn1]⟩
        clear EQ
        clear e0
        go_wp2_with (go_at_call 48; with_reducible refine CT.out.mono ?_; rintro e w9 ⟨rfl, b9⟩)
        go_ret
        exact ⟨intv E.out, RB.out.be.trans (b9.mono RB.out.be.size)⟩
      | true =>
        have hn1 : (c != -1) = false := by simp [bne, hq]
        have E : Shut (c = -1) := ⟨by simpa using hq⟩
        clear e0
        go_wp2_with (go_at_call 48; with_reducible refine CT.out.mono ?_; rintro e w9 ⟨rfl, b9⟩; have R9 : Shut _ := ⟨RB.out.pass b9⟩; clear b9)
        go_roundg (3 - 1)
        case measure => omega
        case rel => exact ⟨2, by omega, by omega, by go_num, ⟨fun h => SI.out.1 (by omega), fun h => E.out, fun h => by omega⟩, R9⟩
    · rw [show ((2 : Nat) : Int) = 2 from rfl]
      have e0 := SI.out.1 (by omega)
      have e1 := SI.out.2.1 (by omega)
      have q0 := RB.out.fn.c2
      have CT : Shut _ := ⟨JN.out wr RB.out.be⟩
      cases hq : (jk == -1) with
      | false =>
        have hn1 : (jk != -1) = true := by simp [bne, hq]
        have E : Shut (jk = K) := ⟨by rw [EQ.out, e0, e1, if_neg (by decide), if_neg (by decide), if_pos hn1]⟩
        clear EQ
        clear e0 e1
        go_wp2_with (go_at_call 49; with_reducible refine CT.out.mono ?_; rintro e w9 ⟨rfl, b9⟩)
        go_ret
        exact ⟨intv E.out, RB.out.be.trans (b9.mono RB.out.be.size)⟩
      | true =>
        have hn1 : (jk != -1) = false := by simp [bne, hq]
        have E : Shut (jk = -1) := ⟨by simpa using hq⟩
        clear e0 e1
        go_wp2_with (go_at_call 49; with_reducible refine CT.out.mono ?_; rintro e w9 ⟨rfl, b9⟩; have R9 : Shut _ := ⟨RB.out.pass b9⟩; clear b9)
        go_roundg (3 - 2)
        case measure => omega
        case rel => exact ⟨3, by omega, by omega, by go_num, ⟨fun h => SI.out.1 (by omega), fun h => SI.out.2.1 (by omega), fun h => E.out⟩, R9⟩
    · rw [show ((3 : Nat) : Int) = 3 from rfl]
      have E : Shut (lk = K) := ⟨by have e0 := SI.out.1 (by omega); have e1 := SI.out.2.1 (by omega); have e2 := SI.out.2.2 (by omega); rw [EQ.out, e0, e1, e2]; simp⟩
      clear EQ SI
      obtain ⟨z0, z1, z2, z3, z4, z5, z6, z7, z8, z9⟩ := ten_c RB.out.box
      go_wp2_with (go_at_call 50; with_reducible refine (LA.out _ RB.out.be).mono ?_; rintro e w9 ⟨rfl, b9⟩)
      go_ret
      exact ⟨intv E.out, RB.out.be.trans (b9.mono RB.out.be.size)⟩
end Go.Proofs.YtmbgeeiidpllcaaDoor
/- Chapter 19: the reference's kinds of a text. -/
namespace Go.Proofs.YtmbgeeiidpllcaaDoor
open Go.ChangeShapes Go.WideShapes Go.ChangeAt Go.RowKit
set_option maxRecDepth 100000
set_option linter.unusedSimpArgs false

theorem kindsE_nil {xs : List Int} (h : xs.length = 0) : kindsE xs = [] := if_pos h
theorem kindsE_len {xs : List Int} {n : Nat} (h : xs.length = n) (hn : 0 < n) : (kindsE xs).length = n + 1 := by
  unfold kindsE
  rw [if_neg (by omega)]
  simp [kindsL, h]
theorem kindsE_eq {xs : List Int} {n : Nat} (h : xs.length = n) (hn : 0 < n) : kindsE xs = (List.range (n + 1)).map (kindAt xs) := by
  unfold kindsE
  rw [if_neg (by omega)]
  simp [kindsL, h]
theorem kindAt_end {xs : List Int} {n : Nat} (h : xs.length = n) (hn : 0 < n) : kindAt xs n = 2 := by
  unfold kindAt
  rw [if_neg (by omega), if_pos h.symm]
set_option maxHeartbeats 2000000 in
theorem kind19_any (A : Option Addr) (n c : Nat) (xs : List Int) (C : Option Addr) (cc : Nat) (i : Nat) (hi : i ≤ n) (h0 : 0 < n) (w : World) (hx : SliceIn .i32 w A n c xs) (hc : ClsAt w C n xs) (hn : n ≤ 4000) :
    Calls Tryd.prog 40 #[.slice A n c, .slice C n cc, .int .i64 (i : Int)] w fun e w' => e = .returned (.int .i64 (kindAt xs i)) ∧ Below w.heap.size w w' := by
  rcases Nat.lt_or_ge i n with h1 | h1
  · obtain rfl | ⟨j, rfl⟩ : i = 0 ∨ ∃ j, i = j + 1 := by cases i with | zero => exact .inl rfl | succ j => exact .inr ⟨j, rfl⟩
    · have E : Shut (0 = kindAt xs 0) := ⟨rfl⟩
      clear hx hc
      generalize kindAt xs 0 = K at *
      rw [show ((0 : Nat) : Int) = 0 from rfl]
      go_enter Tryd.func40, Tryd.ntmps40
      go_wp2_with fail
      go_ret
      exact ⟨intv E.out, Below.refl _ _⟩
    · exact kindm_any A n c xs C cc j h1 w hx hc hn
  · obtain rfl : i = n := by omega
    have E : Shut (2 = kindAt xs i) := ⟨(kindAt_end hx.at_.len h0).symm⟩
    clear hx hc
    generalize kindAt xs i = K at *
    have j0 : ((i : Int) == 0) = false := by simp; omega
    go_enter Tryd.func40, Tryd.ntmps40
    go_wp2_with fail
    go_ret
    exact ⟨intv E.out, Below.refl _ _⟩
set_option maxHeartbeats 4000000 in
theorem of19_any (A : Option Addr) (n c : Nat) (xs : List Int) (w : World) (hx : SliceIn .i32 w A n c xs) (hn : n ≤ 4000) :
    Calls Tryd.prog 28 #[.slice A n c] w (NewInts w 3 .i64 (kindsE xs).length (kindsE xs)) := by
  have HX : Shut _ := ⟨hx⟩
  have CS : Shut _ := ⟨classes19_any A n c xs w hx hn⟩
  have hlen := hx.at_.len
  clear hx
  rcases Nat.eq_zero_or_pos n with h0 | h0
  · subst h0
    rw [kindsE_nil hlen]
    clear hlen
    go_enter Tryd.func28, Tryd.ntmps28
    go_wp2_with fail
    refine CS.out.mono ?_
    rintro e w1 ⟨C, cc, rfl, o1, b1⟩
    clear CS
    go_wp2_with fail
    go_loopg [5, 3] 1 (fun gg v5 v3 wr => v5 = .int .i64 0 ∧ v3 = .slice none 0 0 ∧ wr = w1)
    case atStart => exact ⟨rfl, rfl, rfl⟩
    case round =>
      obtain ⟨rfl, rfl, rfl⟩ := hrel
      go_wp2_with fail
      go_ret
      exact ⟨none, 0, rfl, Own.nil _ _ _ _, b1⟩
  · rw [kindsE_len hlen h0, kindsE_eq hlen h0]
    clear hlen
    go_enter Tryd.func28, Tryd.ntmps28
    go_wp2_with fail
    refine CS.out.mono ?_
    rintro e w1 ⟨C, cc, rfl, o1, b1⟩
    clear CS
    have HC : Shut (ClsAt w1 C n xs) := ⟨clsAt_own o1⟩
    have B1 : Shut (Below w.heap.size w w1) := ⟨b1⟩
    clear o1 b1
    have KD : Shut (∀ i, i ≤ n → ∀ w', Below w1.heap.size w1 w' → Calls Tryd.prog 40 #[.slice A n c, .slice C n cc, .int .i64 (i : Int)] w' fun e w2 => e = .returned (.int .i64 (kindAt xs i)) ∧ Below w'.heap.size w' w2) :=
      ⟨fun i hi w' hb => kind19_any A n c xs C cc i hi h0 w' (HX.out.pass (B1.out.trans (hb.mono B1.out.size))) (HC.out.pass hb) hn⟩
    have hs1 := B1.out.size
    go_wp2_with fail
    go_loopg [5, 3] (n + 1 + 1) (fun gg v5 v3 wr => ∃ (k : Nat) (A' : Option Addr) (c' : Nat), n + 1 - k < gg ∧ k ≤ n + 1 ∧ v5 = .int .i64 (k : Int) ∧ v3 = .slice A' k c' ∧ Shut (Own wr w1.heap.size 3 .i64 A' k c' ((List.range k).map (kindAt xs))) ∧ Shut (Below w1.heap.size w1 wr))
    case atStart => exact ⟨0, none, 0, by omega, by omega, rfl, rfl, ⟨Own.nil _ _ _ _⟩, ⟨Below.refl _ _⟩⟩
    case round =>
      obtain ⟨k, A', c', hg, hk, rfl, rfl, RO, RW⟩ := hrel
      by_cases hlt : k ≤ n
      · have K1 : Shut _ := ⟨KD.out k hlt wr RW.out⟩
        have l2 : (k : Int) ≤ (n : Int) := by omega
        generalize hkd : kindAt xs k = x at *
        have E : Shut (kindAt xs k = x) := ⟨hkd⟩
        clear hkd
        go_wp2_with (first
          | (go_at_call 40; with_reducible refine K1.out.mono ?_; rintro e w2 ⟨rfl, b2⟩; have X1 : Shut (Below w1.heap.size w1 w2) := ⟨RW.out.trans (b2.mono RW.out.size)⟩; have P1 : Shut _ := ⟨RO.out.pass b2⟩; clear b2)
          | (at_builtin; refine wpList_push TIg rfl (.tmp 19) (.tmp 24) rfl rfl (P1.out.alloc _) rfl (y := x) (cell_newN _ _ _ _ (by simp)) (by omega) (by have := X1.out.size; simp; omega) ?_; intro A4 c4 w4 o4 b4))
        have O4 : Shut _ := ⟨o4⟩
        have X4 : Shut (Below w1.heap.size w1 w4) := ⟨(X1.out.alloc (by have := X1.out.size; omega) _).trans b4⟩
        clear o4 b4
        go_roundg (n + 1 - k)
        case measure => omega
        case rel => exact ⟨k + 1, A4, c4, by omega, by omega, by go_num, rfl, ⟨by rw [clsL_succ, E.out]; exact O4.out⟩, X4⟩
      · obtain rfl : k = n + 1 := by omega
        have l1 : ¬ ((n : Int) + 1 ≤ (n : Int)) := by omega
        rw [show ((n + 1 : Nat) : Int) = (n : Int) + 1 from rfl]
        go_wp2_with fail
        go_ret
        exact ⟨A', c', rfl, by have := RO.out; rw [clsL_succ] at this; exact Own.moreG this hs1, B1.out.trans (RW.out.mono hs1)⟩
end Go.Proofs.YtmbgeeiidpllcaaDoor
/- Chapter 19: the program's kinds of a text, and of a document, both ways. -/
namespace Go.Proofs.YtmbgeeiidpllcaaDoor
open Go.ChangeShapes Go.WideShapes Go.ChangeAt Go.RowKit
set_option maxRecDepth 100000
set_option linter.unusedSimpArgs false

/-- the kinds of the places below k -/
def ofK (xs : List Int) (n k : Nat) : List Int := (List.range (n + 1)).map fun i => if (decide (i < k) && (decide (0 < i) && isN (ks xs) i)) = true then kindN xs i else 0
theorem ofK_one (xs : List Int) (n : Nat) : ofK xs n 1 = List.replicate (n + 1) 0 := by
  apply List.ext_getElem
  · simp [ofK]
  · intro i h1 h2
    rcases i with _ | i <;> simp [ofK]
theorem dec_succ {i k : Nat} (e : k ≠ i) : decide (i < k + 1) = decide (i < k) := by
  rw [decide_eq_decide]
  omega
theorem ofK_set {xs : List Int} {n k : Nat} (h0 : 0 < k) (h : isN (ks xs) k = true) : (ofK xs n k).set k (kindN xs k) = ofK xs n (k + 1) := by
  apply List.ext_getElem
  · simp [ofK]
  · intro i h1 h2
    rw [List.getElem_set]
    by_cases e : k = i
    · subst e
      simp [ofK, h, h0]
    · rw [if_neg e]
      simp only [ofK, List.getElem_map, List.getElem_range]
      rw [dec_succ e]
theorem ofK_skip {xs : List Int} {k : Nat} (n : Nat) (h : isN (ks xs) k = false) : ofK xs n (k + 1) = ofK xs n k := by
  unfold ofK
  apply List.map_congr_left
  intro i _
  by_cases e : k = i
  · subst e
    simp [h]
  · rw [dec_succ e]
theorem ofK_end {xs : List Int} {n : Nat} (hl : xs.length = n) (h0 : 0 < n) : (ofK xs n n).set n 2 = kindsL xs := by
  unfold kindsL
  rw [hl]
  apply List.ext_getElem
  · simp [ofK]
  · intro i h1 h2
    have hi : i < n + 1 := by simpa using h2
    rw [List.getElem_set]
    by_cases e : n = i
    · subst e
      rw [if_pos rfl, List.getElem_map, List.getElem_range, kindAt_end hl h0]
    · rw [if_neg e]
      simp only [ofK, List.getElem_map, List.getElem_range]
      unfold kindAt
      have e2 : ¬ i = n := fun h => e h.symm
      rcases i with _ | i
      · simp
      · simp [hl, e2, show i + 1 < n by omega]
/-- the kinds of the places of a document -/
def kdL (xs : List Int) : List Int := if xs.length = 0 then [0] else kindsL xs
theorem kdL_len {xs : List Int} {n : Nat} (h : xs.length = n) : (kdL xs).length = n + 1 := by
  unfold kdL
  rw [h]
  split
  · subst_vars; simp_all
  · simp [kindsL, h]

set_option maxHeartbeats 8000000 in
theorem pof19_any (A : Option Addr) (n c : Nat) (xs : List Int) (w : World) (hx : SliceIn .i32 w A n c xs) (hl : Laid w) (h0 : 0 < n) (hn : n ≤ 4000) :
    Calls Tryd.prog 27 #[.slice A n c] w fun e w' => ∃ (A2 : Option Addr) (c2 : Nat), e = .returned (.slice A2 (n + 1) c2) ∧ Own w' w.heap.size 3 .i64 A2 (n + 1) c2 (kindsL xs) ∧ Below w.heap.size w w' := by
  have SE : Shut _ := ⟨see_any A n c xs w hx hl hn⟩
  have IS : Shut (∀ (k : Nat) W, Below w.heap.size w W → _) := ⟨fun k W hW => pisn_any A n c xs k W (hx.pass hW) (hl.pass hW) (by omega)⟩
  have FU : Shut ((ofK xs n n).set n 2 = kindsL xs) := ⟨ofK_end hx.at_.len h0⟩
  have zz : Shut ((Tryd.prog.info? 3).map (·.zero) = some (some (.int .i64 0))) := ⟨by kernel_rfl⟩
  generalize kindsL xs = KL at *
  clear hx hl
  obtain ⟨N, hN⟩ : ∃ N, n + 1 = N := ⟨_, rfl⟩
  have NI : Shut ((n : Int) + 1 = (N : Int) ∧ N ≤ 4001 ∧ n + 1 = N) := ⟨by omega, by omega, hN⟩
  rw [hN]
  clear hN
  have hn0 : ((n : Int) == 0) = false := by simp; omega
  go_enter Tryd.func27, Tryd.ntmps27
  go_wp2_with fail
  refine SE.out.mono ?_
  rintro e w1 ⟨O, C, S, oc, cc, sc, rfl, oO, oC, oS, b1⟩
  have RA : (w1.alloc (.cells #[.slice none 0 0, .slice none 0 0, .slice none 0 0] 48)).heap[w1.heap.size]? = some (.cells #[.slice none 0 0, .slice none 0 0, .slice none 0 0] 48 (0, 0)) := heap_alloc_new w1 _
  obtain ⟨w2, hw2⟩ : ∃ w2, w2 = (w1.alloc (.cells #[.slice none 0 0, .slice none 0 0, .slice none 0 0] 48)).setRow w1.heap.size #[.slice O n oc, .slice C n cc, .slice S n sc] := ⟨_, rfl⟩
  have X2 : Below w1.heap.size w1 w2 := by rw [hw2]; exact below_setRow (below_alloc w1 _) (Nat.le_refl _) _
  have TR : Shut (Tri w2 w1.heap.size 48 (.slice O n oc) (.slice C n cc) (.slice S n sc)) := ⟨by rw [hw2]; exact setRow_heap _ _ _ _ _ _ RA⟩
  have hO : Shut (FnAt w2 O n (bk xs)) := ⟨(fnAt_own oO).pass X2⟩
  have hC : Shut (FnAt w2 C n (cls xs)) := ⟨(fnAt_own oC).pass X2⟩
  have hS : Shut (FnAt w2 S n fun i => (srcN xs i : Int)) := ⟨(fnAt_own oS).pass X2⟩
  have B2 : Shut (Below w.heap.size w w2) := ⟨b1.trans (X2.mono b1.size)⟩
  clear oO oC oS b1 X2 SE
  go_wp2_with (first
    | (refine wpList_store_row rfl 48 (.tmp 3) (.tmp 10) rfl w1.heap.size _ rfl rfl 48 _ RA viewSize (by rfl) (three_all _ _ _ _ _ _ _ _ _) ?_; rw [← hw2]; clear hw2 RA)
    | (refine wpList_makeInts TIg zz.out rfl (.tmp 13) (.tmp 13) rfl N rfl rfl NI.out.1 NI.out.1 (by have := NI.out.2.1; omega) w2.heap.size (Nat.le_refl _) ?_; intro gh w3 o3 b3; have O3 : Shut _ := ⟨o3⟩; have B3 : Shut _ := ⟨b3⟩; clear o3 b3))
  go_loopg [5] (n + 1) (fun gg v wr => ∃ k : Nat, n - k < gg ∧ 1 ≤ k ∧ k ≤ n ∧ v = .int .i64 (k : Int) ∧ Shut (Own wr w2.heap.size 3 .i64 (some ⟨gh, 0, none⟩) N N (ofK xs n k)) ∧ Shut (Below w2.heap.size w2 wr))
  case atStart => exact ⟨1, by omega, by omega, by omega, rfl, ⟨by rw [ofK_one, NI.out.2.2]; exact O3.out⟩, B3⟩
  case round =>
    obtain ⟨k, hg, hk1, hk, rfl, OM, BE⟩ := hrel
    clear O3 B3
    by_cases hlt : k < n
    · obtain ⟨j, rfl⟩ : ∃ j, k = j + 1 := ⟨k - 1, by omega⟩
      rw [show ((j + 1 : Nat) : Int) = (j : Int) + 1 from rfl]
      have CI1 : Shut _ := ⟨IS.out (j + 1) wr (B2.out.trans (BE.out.mono B2.out.size))⟩
      rw [show ((j + 1 : Nat) : Int) = (j : Int) + 1 from rfl] at CI1
      have i1 : (j : Int) + 1 < (n : Int) := by omega
      have hj4 : j ≤ 4000 := by omega
      cases hs : isN (ks xs) (j + 1) with
      | true =>
        rw [hs] at CI1
        have E : Shut ((ofK xs n (j + 1)).set (j + 1) (kindN xs (j + 1)) = ofK xs n (j + 1 + 1)) := ⟨ofK_set (by omega) hs⟩
        clear hs hk hk1
        go_wp2_with fail
        refine CI1.out.mono ?_
        rintro e w4 ⟨rfl, b4⟩
        have X4 : Shut (Below w2.heap.size w2 w4) := ⟨BE.out.trans (b4.mono BE.out.size)⟩
        have OM4 : Shut _ := ⟨OM.out.pass b4⟩
        clear b4 CI1
        have T4 := TR.out.pass X4.out TR.out.lt
        have c0 := T4.c0
        have c1 := T4.c1
        have c2 := T4.c2
        clear T4
        have KD : Shut _ := ⟨pkind_any O C S n oc cc sc xs j hlt w4 (hO.out.pass X4.out) (hC.out.pass X4.out) (hS.out.pass X4.out) hn⟩
        go_wp2_with fail
        refine KD.out.mono ?_
        rintro e w5 ⟨rfl, b5⟩
        have X5 : Shut (Below w2.heap.size w2 w5) := ⟨X4.out.trans (b5.mono X4.out.size)⟩
        have OM5 : Shut _ := ⟨OM4.out.pass b5⟩
        clear b5 KD c0 c1 c2
        obtain ⟨u, hu⟩ : ∃ u, w5.cell? ⟨gh, j + 1, none⟩ = some u := by
          have h5 := OwnV.cellAt OM5.out (j + 1) (by have := NI.out.2.2; omega)
          rw [h5]
          exact ⟨_, List.getElem?_eq_getElem (by have := OM5.out.len; have := NI.out.2.2; rw [List.length_map]; omega)⟩
        have f2 := OwnV.frozenAt OM5.out (j + 1)
        have i2 : (j : Int) + 1 < (N : Int) := by have := NI.out.2.2; omega
        have SO : Shut _ := ⟨Own.set_ OM5.out (j + 1) (kindN xs (j + 1))⟩
        have SE : Shut (Below w2.heap.size w2 (w5.setCell ⟨gh, j + 1, none⟩ (.int .i64 (kindN xs (j + 1))))) := ⟨Below.setCell X5.out (p := ⟨gh, j + 1, none⟩) (OwnV.ltH OM5.out).1 _⟩
        rw [E.out] at SO
        generalize kindN xs (j + 1) = kd at *
        go_wp2_with fail
        go_roundg (n - (j + 1))
        case measure => omega
        case rel => exact ⟨j + 1 + 1, by omega, by omega, by omega, by go_num, SO, SE⟩
      | false =>
        rw [hs] at CI1
        have E : Shut (ofK xs n (j + 1 + 1) = ofK xs n (j + 1)) := ⟨ofK_skip n hs⟩
        clear hs hk hk1
        go_wp2_with fail
        refine CI1.out.mono ?_
        rintro e w4 ⟨rfl, b4⟩
        have X4 : Shut (Below w2.heap.size w2 w4) := ⟨BE.out.trans (b4.mono BE.out.size)⟩
        have OM4 : Shut _ := ⟨OM.out.pass b4⟩
        rw [← E.out] at OM4
        clear b4 CI1
        go_wp2_with fail
        go_roundg (n - (j + 1))
        case measure => omega
        case rel => exact ⟨j + 1 + 1, by omega, by omega, by omega, by go_num, OM4, X4⟩
    · obtain rfl : k = n := by omega
      obtain ⟨u, hu⟩ : ∃ u, wr.cell? ⟨gh, k, none⟩ = some u := by
        have h5 := OwnV.cellAt OM.out k (by have := NI.out.2.2; omega)
        rw [h5]
        exact ⟨_, List.getElem?_eq_getElem (by have := OM.out.len; have := NI.out.2.2; rw [List.length_map]; omega)⟩
      have f2 := OwnV.frozenAt OM.out k
      have i2 : (k : Int) < (N : Int) := by have := NI.out.2.2; omega
      have i3 : (0 : Int) ≤ (k : Int) := by omega
      have SO : Shut _ := ⟨Own.set_ OM.out k 2⟩
      have SE : Shut (Below w2.heap.size w2 (wr.setCell ⟨gh, k, none⟩ (.int .i64 2))) := ⟨Below.setCell BE.out (p := ⟨gh, k, none⟩) (OwnV.ltH OM.out).1 _⟩
      rw [FU.out] at SO
      clear hlt hk hk1
      go_wp2_with fail
      go_ret
      exact ⟨_, _, rfl, Own.moreG SO.out B2.out.size, B2.out.trans (SE.out.mono B2.out.size)⟩
set_option maxHeartbeats 2000000 in
theorem pkinds_any (A : Option Addr) (n c : Nat) (xs : List Int) (w : World) (hx : SliceIn .i32 w A n c xs) (hl : Laid w) (hn : n ≤ 4000) :
    Calls Tryd.prog 15 #[.slice A n c] w fun e w' => ∃ (A2 : Option Addr) (c2 : Nat), e = .returned (.slice A2 (n + 1) c2) ∧ Own w' w.heap.size 3 .i64 A2 (n + 1) c2 (kdL xs) ∧ Below w.heap.size w w' := by
  rcases Nat.eq_zero_or_pos n with h0 | h0
  · subst h0
    have zz : Shut ((Tryd.prog.info? 3).map (·.zero) = some (some (.int .i64 0))) := ⟨by kernel_rfl⟩
    have E : Shut (kdL xs = [0]) := ⟨if_pos hx.at_.len⟩
    clear hx hl
    go_enter Tryd.func15, Tryd.ntmps15
    go_wp2_with (refine wpList_makeInts TIg zz.out rfl (.const (.int .i64 1)) (.const (.int .i64 1)) rfl 1 rfl rfl rfl rfl (by omega) w.heap.size (Nat.le_refl _) ?_; intro gh w3 o3 b3; have O3 : Shut _ := ⟨o3⟩; have B3 : Shut _ := ⟨b3⟩; clear o3 b3)
    go_ret
    exact ⟨_, _, rfl, by rw [E.out]; exact O3.out, B3.out⟩
  · have E : Shut (kdL xs = kindsL xs) := ⟨if_neg (by rw [hx.at_.len]; omega)⟩
    have OF : Shut _ := ⟨pof19_any A n c xs w hx hl h0 hn⟩
    have hn0 : ((n : Int) == 0) = false := by simp; omega
    clear hx hl
    go_enter Tryd.func15, Tryd.ntmps15
    go_wp2_with fail
    refine OF.out.mono ?_
    rintro e w1 ⟨A2, c2, rfl, o1, b1⟩
    have O1 : Shut _ := ⟨o1⟩
    have B1 : Shut _ := ⟨b1⟩
    clear o1 b1
    go_wp2_with fail
    go_ret
    exact ⟨_, _, rfl, by rw [E.out]; exact O1.out, B1.out⟩
set_option maxHeartbeats 2000000 in
theorem rkinds_any (A : Option Addr) (n c : Nat) (xs : List Int) (w : World) (hx : SliceIn .i32 w A n c xs) (hn : n ≤ 4000) :
    Calls Tryd.prog 20 #[.slice A n c] w fun e w' => ∃ (A2 : Option Addr) (c2 : Nat), e = .returned (.slice A2 (n + 1) c2) ∧ Own w' w.heap.size 3 .i64 A2 (n + 1) c2 (kdL xs) ∧ Below w.heap.size w w' := by
  rcases Nat.eq_zero_or_pos n with h0 | h0
  · subst h0
    have E : Shut (kdL xs = [0]) := ⟨if_pos hx.at_.len⟩
    have O1 : Shut _ := ⟨own_lit19 w 3 .i64 0 w.heap.size (Nat.le_refl _)⟩
    clear hx
    go_enter Tryd.func20, Tryd.ntmps20
    go_wp2_with fail
    go_ret
    exact ⟨_, _, rfl, by rw [E.out]; exact O1.out, below_alloc _ _⟩
  · have E : Shut (kdL xs = kindsE xs ∧ (kindsE xs).length = n + 1) := ⟨by unfold kdL kindsE; rw [if_neg (by rw [hx.at_.len]; omega), if_neg (by rw [hx.at_.len]; omega)], kindsE_len hx.at_.len h0⟩
    have OF : Shut _ := ⟨of19_any A n c xs w hx hn⟩
    rw [E.out.2] at OF
    have hn0 : ((n : Int) == 0) = false := by simp; omega
    clear hx
    go_enter Tryd.func20, Tryd.ntmps20
    go_wp2_with fail
    refine OF.out.mono ?_
    rintro e w1 ⟨A2, c2, rfl, o1, b1⟩
    have O1 : Shut _ := ⟨o1⟩
    have B1 : Shut _ := ⟨b1⟩
    clear o1 b1
    go_wp2_with fail
    go_ret
    exact ⟨_, _, rfl, by rw [E.out.1]; exact O1.out, B1.out⟩
end Go.Proofs.YtmbgeeiidpllcaaDoor
/- Chapter 52: the window of places to break, the program's way. -/
namespace Go.Proofs.YtmbgeeiidpllcaaDoor
open Go.ChangeShapes Go.WideShapes Go.ChangeAt Go.RowKit
set_option maxRecDepth 100000
set_option linter.unusedSimpArgs false

/-- the window of places to break of a text under an edit that fits -/
def breaksV (xs ys : List Int) (p g : Nat) : Value := plcV (sameL (kdL xs) (kdL (behind xs ys p g))) xs.length p g ys.length
theorem kdV_at {K : List Int} {i : Nat} (h : i < K.length) : (K.map (Value.int .i64))[i]? = some (.int .i64 (nth K i)) := by
  rw [List.getElem?_map, List.getElem?_eq_getElem h, nth_eq h]
  rfl
theorem pkindsB_any (A : Option Addr) (n c : Nat) (xs : List Int) (w : World) (hx : SliceIn .i32 w A n c xs) (hl : Laid w) (hn : n ≤ 2000) :
    Calls Tryd.prog 15 #[.slice A n c] w fun e w' => ∃ (A2 : Option Addr) (c2 : Nat), e = .returned (.slice A2 (n + 1) c2) ∧ OwnV w' w.heap.size 3 1 A2 (n + 1) c2 ((kdL xs).map (Value.int .i64)) ∧ Below w.heap.size w w' :=
  (pkinds_any A n c xs w hx hl (by omega)).mono fun _ _ ⟨A2, c, h1, h2, h3⟩ => ⟨A2, c, h1, h2, h3⟩
set_option maxHeartbeats 1000000 in
theorem breaksClo_any (i k : Nat) (bx bY : Nat) (X : Option Addr) (nx cx : Nat) (K1 : List Int) (Y : Option Addr) (ny cy : Nat) (K2 : List Int) (B : Nat) (w : World) (hk1 : nx = K1.length) (hk2 : ny = K2.length)
    (h1 : w.cell? ⟨bx, 0, none⟩ = some (.slice X nx cx)) (h2 : w.cell? ⟨bY, 0, none⟩ = some (.slice Y ny cy)) (hx : OwnV w B 3 1 X nx cx (K1.map (Value.int .i64))) (hy : OwnV w B 3 1 Y ny cy (K2.map (Value.int .i64))) (hi : i < nx) (hk : k < ny) :
    Calls Tryd.prog 18 #[.int .i64 (i : Int), .int .i64 (k : Int), .pointer (some ⟨bx, 0, none⟩), .pointer (some ⟨bY, 0, none⟩)] w fun e w' => e = .returned (.bool (sameL K1 K2 i k)) ∧ Below w.heap.size w w' := by
  obtain ⟨gx, rfl, _, _⟩ := OwnV.form hx (by omega)
  obtain ⟨gy, rfl, _, _⟩ := OwnV.form hy (by omega)
  have c1 := (OwnV.cellAt hx i (by omega)).trans (kdV_at (by omega))
  have c2 := (OwnV.cellAt hy k (by omega)).trans (kdV_at (by omega))
  unfold sameL
  generalize nth K1 i = u at *
  generalize nth K2 k = v at *
  have i1 : (i : Int) < (nx : Int) := by omega
  have i2 : (k : Int) < (ny : Int) := by omega
  have i3 : (0 : Int) ≤ (i : Int) := by omega
  have i4 : (0 : Int) ≤ (k : Int) := by omega
  clear hx hy hi hk hk1 hk2
  go_enter Tryd.func18, Tryd.ntmps18
  go_wp2_with fail
  go_quiet (fail)
  go_wp2
  go_ret
  exact ⟨rfl, below_drewN (Below.refl _ _) _⟩
theorem breaksTells (bx bY : Nat) (X : Option Addr) (nx cx : Nat) (K1 : List Int) (Y : Option Addr) (ny cy : Nat) (K2 : List Int) (B : Nat) (w : World) (hk1 : nx = K1.length) (hk2 : ny = K2.length)
    (h1 : w.cell? ⟨bx, 0, none⟩ = some (.slice X nx cx)) (h2 : w.cell? ⟨bY, 0, none⟩ = some (.slice Y ny cy)) (hx : OwnV w B 3 1 X nx cx (K1.map (Value.int .i64))) (hy : OwnV w B 3 1 Y ny cy (K2.map (Value.int .i64))) :
    Tells2 Tryd.prog 18 #[.pointer (some ⟨bx, 0, none⟩), .pointer (some ⟨bY, 0, none⟩)] (sameL K1 K2) nx ny w :=
  fun i k hi hk => breaksClo_any i k bx bY X nx cx K1 Y ny cy K2 B w hk1 hk2 h1 h2 hx hy hi hk

set_option maxHeartbeats 4000000 in
theorem pbreaksNo_any (A : Option Addr) (n c : Nat) (p g : Int) (D : Option Addr) (m d : Nat) (st : Int) (w : World) (hn : n ≤ 1000) (hm : m ≤ 1000) (hf : fitsB n m p g = false) :
    Calls Tryd.prog 6 #[.slice A n c, .agg #[.int .i64 p, .int .i64 g, .slice D m d, .int .i64 st]] w fun e w' => e = .returned (.agg #[.int .i64 0, .int .i64 0]) ∧ Below w.heap.size w w' := by
  have F : Shut (∀ W, _) := ⟨fun W => pfits_any n (by omega) p g D m d st (by omega) W⟩
  rw [hf] at F
  clear hf
  go_enter Tryd.func6, Tryd.ntmps6
  go_wp2_with fail
  refine (F.out _).mono ?_
  rintro e w1 ⟨rfl, b1⟩
  have R1 : Two w1 (w.heap.size + 1) 27 (.int .i64 0) (.int .i64 0) := (Two.newN _ _ _ _ _ (by simp)).pass b1 (by simp)
  have B1 : Shut (Below w.heap.size w w1) := ⟨((below_alloc w _).alloc (by simp) _).trans (b1.mono (by simp; omega))⟩
  clear b1
  go_wp2_with (refine wpList_store_row rfl 27 (.tmp 4) (.tmp 12) rfl (w.heap.size + 1) _ rfl rfl 27 _ R1 cutSize52 (by rfl) (two_all52 _ _) ?_)
  exact cut_done3 Tryd.results6 (by rfl) R1 B1.out

/-- what is known in the midst of the region: L tells which operations have been done -/
structure BI (w : World) (A : Option Addr) (n c p g : Nat) (D : Option Addr) (m d : Nat) (st : Int) (fx : List Value) (bs : List Int) (fy : List Value) (nb : Nat) (L : Nat → Bool) (v5 v6 v13 v14 v15 v16 v17 v18 : Value) (W : World) : Prop where
  be : Below w.heap.size w W
  four : Four W w.heap.size 24 (.int .i64 (p : Int)) (.int .i64 (g : Int)) (.slice D m d) (.int .i64 st)
  res : Two W (w.heap.size + 1) 27 (.int .i64 0) (.int .i64 0)
  m13 : L 0 = true → v13 = .slice A n c
  f14 : L 1 = true → ∃ (X : Option Addr) (cx : Nat), v14 = .slice X (n + 1) cx ∧ OwnV W w.heap.size 3 1 X (n + 1) cx fx
  m15 : L 2 = true → v15 = .slice A n c
  l16 : L 3 = true → v16 = editV p g D m d st
  d17 : L 4 = true → L 8 = false → L 9 = false → ∃ (A3 : Option Addr) (c3 : Nat), v17 = .slice A3 nb c3 ∧ SliceIn .i32 W A3 nb c3 bs
  f18 : L 5 = true → ∃ (Y : Option Addr) (cy : Nat), v18 = .slice Y (nb + 1) cy ∧ OwnV W w.heap.size 3 1 Y (nb + 1) cy fy
  a5 : L 6 = true → ∃ g5 : Nat, v5 = .pointer (some ⟨g5, 0, none⟩) ∧ w.heap.size + 2 ≤ g5 ∧ One W g5 33 (if L 8 = true then v14 else .slice none 0 0)
  a6 : L 7 = true → ∃ g6 : Nat, v6 = .pointer (some ⟨g6, 0, none⟩) ∧ w.heap.size + 2 ≤ g6 ∧ One W g6 33 (if L 9 = true then v18 else .slice none 0 0)
  ne : L 6 = true → L 7 = true → v5 ≠ v6
  o8 : L 8 = true → L 6 = true ∧ L 1 = true ∧ L 5 = true
  o9 : L 9 = true → L 7 = true ∧ L 5 = true ∧ L 1 = true
theorem BI.pass {w : World} {A : Option Addr} {n c p g : Nat} {D : Option Addr} {m d : Nat} {st : Int} {fx : List Value} {bs : List Int} {fy : List Value} {nb : Nat} {L : Nat → Bool} {v5 v6 v13 v14 v15 v16 v17 v18 : Value} {W W' : World}
    (h : BI w A n c p g D m d st fx bs fy nb L v5 v6 v13 v14 v15 v16 v17 v18 W) (hb : Below W.heap.size W W') : BI w A n c p g D m d st fx bs fy nb L v5 v6 v13 v14 v15 v16 v17 v18 W' :=
  { be := h.be.trans (hb.mono h.be.size)
    four := h.four.pass hb h.four.lt
    res := h.res.pass hb h.res.lt
    m13 := h.m13
    f14 := fun k => by obtain ⟨X, cx, e, o⟩ := h.f14 k; exact ⟨X, cx, e, OwnV.pass o hb⟩
    m15 := h.m15
    l16 := h.l16
    d17 := fun k k8 k9 => by obtain ⟨X, cx, e, o⟩ := h.d17 k k8 k9; exact ⟨X, cx, e, o.pass hb⟩
    f18 := fun k => by obtain ⟨X, cx, e, o⟩ := h.f18 k; exact ⟨X, cx, e, OwnV.pass o hb⟩
    a5 := fun k => by obtain ⟨g5, e, h1, o⟩ := h.a5 k; exact ⟨g5, e, h1, o.pass hb o.lt⟩
    a6 := fun k => by obtain ⟨g5, e, h1, o⟩ := h.a6 k; exact ⟨g5, e, h1, o.pass hb o.lt⟩
    ne := h.ne
    o8 := h.o8
    o9 := h.o9 }
set_option maxHeartbeats 8000000 in
theorem pbreaks_any (A : Option Addr) (n c : Nat) (xs : List Int) (p g : Nat) (D : Option Addr) (m d : Nat) (st : Int) (ys : List Int) (w : World) (hx : SliceIn .i32 w A n c xs) (hy : SliceIn .i32 w D m d ys) (hl : Laid w) (hn : n ≤ 1000) (hm : m ≤ 1000) (hf : fitsB n m p g = true) :
    Calls Tryd.prog 6 #[.slice A n c, .agg #[.int .i64 (p : Int), .int .i64 (g : Int), .slice D m d, .int .i64 st]] w fun e w' => e = .returned (breaksV xs ys p g) ∧ Below w.heap.size w w' := by
  have hpg : p + g ≤ n := by unfold fitsB at hf; simp at hf; omega
  have F : Shut (∀ W, _) := ⟨fun W => pfits_any n (by omega) (p : Int) (g : Int) D m d st (by omega) W⟩
  rw [hf] at F
  have C1 : Shut (∀ W, Below w.heap.size w W → _) := ⟨fun W hW => pkindsB_any A n c xs W (hx.pass hW) (hl.pass hW) (by omega)⟩
  have C2 : Shut (∀ W, Below w.heap.size w W → _) := ⟨fun W hW => pdone_any A n c xs p g hpg D m d st ys W (hx.pass hW) (hy.pass hW) (by omega)⟩
  obtain ⟨nb, hnb⟩ : ∃ nb, n - g + m = nb := ⟨_, rfl⟩
  rw [hnb] at C2
  have C3 : Shut (∀ (W : World) (A2 : Option Addr) (c2 : Nat), Below w.heap.size w W → SliceIn .i32 W A2 nb c2 (behind xs ys p g) → _) := ⟨fun W A2 c2 hb hW => pkindsB_any A2 nb c2 (behind xs ys p g) W hW (hl.pass hb) (by omega)⟩
  have FV : Shut (breaksV xs ys p g = plcV (sameL (kdL xs) (kdL (behind xs ys p g))) n p g m) := ⟨by unfold breaksV; rw [hx.at_.len, hy.at_.len]⟩
  have HK1 : Shut ((kdL xs).length = n + 1) := ⟨kdL_len hx.at_.len⟩
  have HK2 : Shut ((kdL (behind xs ys p g)).length = nb + 1) := ⟨kdL_len (by rw [behind_len (by rw [hx.at_.len]; exact hpg), hx.at_.len, hy.at_.len]; omega)⟩
  generalize behind xs ys p g = bs at *
  generalize kdL xs = K1 at *
  generalize kdL bs = K2 at *
  generalize breaksV xs ys p g = V at *
  clear hx hy hf hl
  go_enter Tryd.func6, Tryd.ntmps6
  go_wp2_with fail
  refine (F.out _).mono ?_
  rintro e w1 ⟨rfl, b1⟩
  have R1 : Shut (Two w1 (w.heap.size + 1) 27 (.int .i64 0) (.int .i64 0)) := ⟨(Two.newN _ _ _ _ _ (by simp)).pass b1 (by simp)⟩
  have Q1 : Shut (Four w1 w.heap.size 24 (.int .i64 (p : Int)) (.int .i64 (g : Int)) (.slice D m d) (.int .i64 st)) := ⟨((Four.new w _ _ _ _ _ _ rfl).alloc _).pass b1 (by simp; omega)⟩
  have B1 : Shut (Below w.heap.size w w1) := ⟨((below_alloc w _).alloc (by simp) _).trans (b1.mono (by simp; omega))⟩
  clear b1 F
  go_upto_region 3 with fail
  go_cut [5, 6] (fun v5 v6 W => ∃ (g5 g6 : Nat) (X : Option Addr) (cx : Nat) (Y : Option Addr) (cy : Nat), v5 = .pointer (some ⟨g5, 0, none⟩) ∧ v6 = .pointer (some ⟨g6, 0, none⟩) ∧ Shut (One W g5 33 (.slice X (n + 1) cx)) ∧ Shut (One W g6 33 (.slice Y (nb + 1) cy)) ∧
    Shut (OwnV W w.heap.size 3 1 X (n + 1) cx (K1.map (Value.int .i64))) ∧ Shut (OwnV W w.heap.size 3 1 Y (nb + 1) cy (K2.map (Value.int .i64))) ∧ Shut (Four W w.heap.size 24 (.int .i64 (p : Int)) (.int .i64 (g : Int)) (.slice D m d) (.int .i64 st)) ∧ Shut (Two W (w.heap.size + 1) 27 (.int .i64 0) (.int .i64 0)) ∧ Shut (Below w.heap.size w W))
  case first =>
    refine wp_region_inv (by kernel_rfl) (by kernel_rfl) (fun L a' W => ∃ v5 v6 v13 v14 v15 v16 v17 v18 : Value, BI w A n c p g D m d st (K1.map (Value.int .i64)) bs (K2.map (Value.int .i64)) nb L v5 v6 v13 v14 v15 v16 v17 v18 W ∧
      a' = ⟨#[.slice A n c, .agg #[.int .i64 (p : Int), .int .i64 (g : Int), .slice D m d, .int .i64 st], undef, .pointer (some ⟨w.heap.size, 0, none⟩), .pointer (some ⟨w.heap.size + 1, 0, none⟩), v5, v6, .slice A n c, .int .i64 (n : Int), .agg #[.int .i64 (p : Int), .int .i64 (g : Int), .slice D m d, .int .i64 st], .bool true, .bool false, undef, v13, v14, v15, v16, v17, v18, undef, undef, undef, undef, undef], []⟩) ?_ ?_ ?_
    · exact ⟨undef, undef, undef, undef, undef, undef, undef, undef, ⟨below_drewX B1.out, Q1.out, R1.out, fun h => (by cases h), fun h => (by cases h), fun h => (by cases h), fun h => (by cases h), fun h => (by cases h), fun h => (by cases h), fun h => (by cases h), fun h => (by cases h), fun h => (by cases h), fun h => (by cases h), fun h => (by cases h)⟩, rfl⟩
    · rintro i o L a' W ho hLi hpre ⟨v5, v6, v13, v14, v15, v16, v17, v18, hI, rfl⟩
      have hi : i < 10 := by
        have := (Array.getElem?_eq_some_iff.1 ho).1
        simpa using this
      have hcs : i = 0 ∨ i = 1 ∨ i = 2 ∨ i = 3 ∨ i = 4 ∨ i = 5 ∨ i = 6 ∨ i = 7 ∨ i = 8 ∨ i = 9 := by omega
      rcases hcs with rfl | rfl | rfl | rfl | rfl | rfl | rfl | rfl | rfl | rfl
      all_goals (injection ho with ho; subst ho)
      all_goals (simp [Region.binds] at hpre)
      · refine wpOp_step rfl (fun K hK => ?_)
        go_simp
        exact hK _ _ ⟨v5, v6, .slice A n c, v14, v15, v16, v17, v18, { hI with m13 := fun _ => rfl }, rfl⟩
      · obtain rfl := hI.m13 hpre
        have h8 : ¬ L 8 = true := fun h => by have := (hI.o8 h).2.1; rw [hLi] at this; cases this
        refine wpOp_step rfl (fun K hK => ?_)
        go_simp
        refine (C1.out W hI.be).mono ?_
        rintro e w2 ⟨X, cx, rfl, o2, b2⟩
        exact hK _ _ ⟨v5, v6, .slice A n c, .slice X (n + 1) cx, v15, v16, v17, v18, { hI.pass b2 with
          f14 := fun _ => ⟨X, cx, rfl, o2.weak hI.be.size⟩
          a5 := fun k => by
            obtain ⟨g5, e, h1, o⟩ := (hI.pass b2).a5 k
            rw [if_neg h8] at o
            refine ⟨g5, e, h1, ?_⟩
            show One _ _ _ (if L 8 = true then _ else _)
            rw [if_neg h8]
            exact o
          o8 := fun h => absurd h h8
          o9 := fun h => by have := (hI.o9 h).2.2; rw [hLi] at this; cases this }, rfl⟩
      · refine wpOp_step rfl (fun K hK => ?_)
        go_simp
        exact hK _ _ ⟨v5, v6, v13, v14, .slice A n c, v16, v17, v18, { hI with m15 := fun _ => rfl }, rfl⟩
      · have q0 := hI.four.c0
        have q1 := hI.four.c1
        have q2 := hI.four.c2
        have q3 := hI.four.c3
        refine wpOp_step rfl (fun K hK => ?_)
        go_simp
        exact hK _ _ ⟨v5, v6, v13, v14, v15, editV p g D m d st, v17, v18, { hI with l16 := fun _ => rfl }, rfl⟩
      · obtain rfl := hI.m15 hpre.1
        obtain rfl := hI.l16 hpre.2.1
        refine wpOp_step rfl (fun K hK => ?_)
        go_simp
        refine (C2.out W hI.be).mono ?_
        rintro e w2 ⟨A3, c3, rfl, o3, b2⟩
        exact hK _ _ ⟨v5, v6, v13, v14, .slice A n c, editV p g D m d st, .slice A3 nb c3, v18, { hI.pass b2 with d17 := fun _ _ _ => ⟨A3, c3, rfl, o3⟩ }, rfl⟩
      · have h8 : ¬ L 8 = true := fun h => by have := (hI.o8 h).2.2; rw [hLi] at this; cases this
        have h9 : ¬ L 9 = true := fun h => by have := (hI.o9 h).2.1; rw [hLi] at this; cases this
        obtain ⟨A3, c3, rfl, o3⟩ := hI.d17 hpre (by simpa using h8) (by simpa using h9)
        refine wpOp_step rfl (fun K hK => ?_)
        go_simp
        refine (C3.out W A3 c3 hI.be o3).mono ?_
        rintro e w2 ⟨Y, cy, rfl, o2, b2⟩
        exact hK _ _ ⟨v5, v6, v13, v14, v15, v16, .slice A3 nb c3, .slice Y (nb + 1) cy, { hI.pass b2 with
          f18 := fun _ => ⟨Y, cy, rfl, o2.weak hI.be.size⟩
          a6 := fun k => by
            obtain ⟨g5, e, h1, o⟩ := (hI.pass b2).a6 k
            rw [if_neg h9] at o
            refine ⟨g5, e, h1, ?_⟩
            show One _ _ _ (if L 9 = true then _ else _)
            rw [if_neg h9]
            exact o
          o8 := fun h => absurd h h8
          o9 := fun h => absurd h h9 }, rfl⟩
      · have h8 : ¬ L 8 = true := fun h => by have := (hI.o8 h).1; rw [hLi] at this; cases this
        have hz := hI.res.lt
        refine wpOp_step rfl (fun K hK => ?_)
        go_simp
        exact hK _ _ ⟨.pointer (some ⟨W.heap.size, 0, none⟩), v6, v13, v14, v15, v16, v17, v18, { hI.pass (below_alloc W _) with
          a5 := fun _ => by
            refine ⟨W.heap.size, rfl, by omega, ?_⟩
            show One _ _ _ (if L 8 = true then _ else _)
            rw [if_neg h8]
            exact One.new _ _ _
          ne := fun _ k => by
            obtain ⟨g6, rfl, h6, o6⟩ := hI.a6 k
            have := o6.lt
            intro h
            injection h with h
            injection h with h
            injection h with h
            omega
          o8 := fun h => absurd h h8
          o9 := hI.o9 }, rfl⟩
      · have h9 : ¬ L 9 = true := fun h => by have := (hI.o9 h).1; rw [hLi] at this; cases this
        have hz := hI.res.lt
        refine wpOp_step rfl (fun K hK => ?_)
        go_simp
        exact hK _ _ ⟨v5, .pointer (some ⟨W.heap.size, 0, none⟩), v13, v14, v15, v16, v17, v18, { hI.pass (below_alloc W _) with
          a6 := fun _ => by
            refine ⟨W.heap.size, rfl, by omega, ?_⟩
            show One _ _ _ (if L 9 = true then _ else _)
            rw [if_neg h9]
            exact One.new _ _ _
          ne := fun k _ => by
            obtain ⟨g6, rfl, h6, o6⟩ := hI.a5 k
            have := o6.lt
            intro h
            injection h with h
            injection h with h
            injection h with h
            omega
          o8 := hI.o8
          o9 := fun h => absurd h h9 }, rfl⟩
      · have l1 : L 1 = true := by simp_all
        have l5 : L 5 = true := by simp_all
        have l6 : L 6 = true := by simp_all
        have l7 : L 7 = true := by simp_all
        have h8 : ¬ L 8 = true := by simp_all
        clear hpre hLi
        obtain ⟨X, cx, rfl, oX⟩ := hI.f14 l1
        obtain ⟨Y, cy, rfl, oY⟩ := hI.f18 l5
        obtain ⟨g5, rfl, b5, o5⟩ := hI.a5 l6
        obtain ⟨g6, rfl, b6, o6⟩ := hI.a6 l7
        rw [if_neg h8] at o5
        have hne : g6 ≠ g5 := fun h => hI.ne l6 l7 (by rw [h])
        have k0 := o5.cell
        have f0 := o5.f
        refine wpOp_step rfl (fun K hK => ?_)
        go_simp
        exact hK _ _ ⟨.pointer (some ⟨g5, 0, none⟩), .pointer (some ⟨g6, 0, none⟩), v13, .slice X (n + 1) cx, v15, v16, v17, .slice Y (nb + 1) cy, { hI with
          be := Below.setCell hI.be (p := ⟨g5, 0, none⟩) (by simp; omega) _
          four := hI.four.far (a := ⟨g5, 0, none⟩) (by simp; omega) _
          res := hI.res.far (a := ⟨g5, 0, none⟩) (by simp; omega) _
          f14 := fun _ => ⟨X, cx, rfl, oX.far (own_apart_type oX o5 (by decide)) _⟩
          f18 := fun _ => ⟨Y, cy, rfl, oY.far (own_apart_type oY o5 (by decide)) _⟩
          d17 := fun _ h => by cases h
          a5 := fun _ => ⟨g5, rfl, b5, o5.set_ _⟩
          a6 := fun _ => ⟨g6, rfl, b6, o6.far (a := ⟨g5, 0, none⟩) hne _⟩
          o8 := fun _ => ⟨l6, l1, l5⟩
          o9 := fun _ => ⟨l7, l5, l1⟩ }, rfl⟩
      · have l1 : L 1 = true := by simp_all
        have l5 : L 5 = true := by simp_all
        have l6 : L 6 = true := by simp_all
        have l7 : L 7 = true := by simp_all
        have l8 : L 8 = true := by simp_all
        have h9 : ¬ L 9 = true := by simp_all
        clear hpre hLi
        obtain ⟨X, cx, rfl, oX⟩ := hI.f14 l1
        obtain ⟨Y, cy, rfl, oY⟩ := hI.f18 l5
        obtain ⟨g5, rfl, b5, o5⟩ := hI.a5 l6
        obtain ⟨g6, rfl, b6, o6⟩ := hI.a6 l7
        rw [if_neg h9] at o6
        have hne : g5 ≠ g6 := fun h => hI.ne l6 l7 (by rw [h])
        have k0 := o6.cell
        have f0 := o6.f
        refine wpOp_step rfl (fun K hK => ?_)
        go_simp
        exact hK _ _ ⟨.pointer (some ⟨g5, 0, none⟩), .pointer (some ⟨g6, 0, none⟩), v13, .slice X (n + 1) cx, v15, v16, v17, .slice Y (nb + 1) cy, { hI with
          be := Below.setCell hI.be (p := ⟨g6, 0, none⟩) (by simp; omega) _
          four := hI.four.far (a := ⟨g6, 0, none⟩) (by simp; omega) _
          res := hI.res.far (a := ⟨g6, 0, none⟩) (by simp; omega) _
          f14 := fun _ => ⟨X, cx, rfl, oX.far (own_apart_type oX o6 (by decide)) _⟩
          f18 := fun _ => ⟨Y, cy, rfl, oY.far (own_apart_type oY o6 (by decide)) _⟩
          d17 := fun _ _ h => by cases h
          a5 := fun _ => ⟨g5, rfl, b5, o5.far (a := ⟨g6, 0, none⟩) hne _⟩
          a6 := fun _ => ⟨g6, rfl, b6, o6.set_ _⟩
          o8 := fun _ => ⟨l6, l1, l5⟩
          o9 := fun _ => ⟨l7, l5, l1⟩ }, rfl⟩
    · rintro L a' W hall ⟨v5, v6, v13, v14, v15, v16, v17, v18, hI, rfl⟩
      have l1 := hall 1 (by decide)
      have l5 := hall 5 (by decide)
      have l6 := hall 6 (by decide)
      have l7 := hall 7 (by decide)
      have l8 := hall 8 (by decide)
      have l9 := hall 9 (by decide)
      clear hall
      obtain ⟨X, cx, rfl, oX⟩ := hI.f14 l1
      obtain ⟨Y, cy, rfl, oY⟩ := hI.f18 l5
      obtain ⟨g5, rfl, b5, o5⟩ := hI.a5 l6
      obtain ⟨g6, rfl, b6, o6⟩ := hI.a6 l7
      rw [if_pos l8] at o5
      rw [if_pos l9] at o6
      have H : Shut _ := ⟨hI⟩
      have oX : Shut _ := ⟨oX⟩
      have oY : Shut _ := ⟨oY⟩
      have o5 : Shut _ := ⟨o5⟩
      have o6 : Shut _ := ⟨o6⟩
      clear hI C1 C2 C3 FV R1 Q1 B1
      go_step
      go_step
      go_meet
      exact ⟨g5, g6, X, cx, Y, cy, rfl, rfl, o5, o6, oX, oY, ⟨H.out.four⟩, ⟨H.out.res⟩, ⟨H.out.be⟩⟩
  case rest =>
    obtain ⟨g5, g6, X, cx, Y, cy, rfl, rfl, o5, o6, oX, oY, hfour, hres, hbe⟩ := hcut
    clear C1 C2 C3 R1 Q1 B1
    have SG := pplaces_any 18 ⟨g5, 0, none⟩ ⟨g6, 0, none⟩ (sameL K1 K2) n p g hpg D m d st wc hn hm (enters_of Tryd.func18 (by kernel_rfl) rfl)
      (fun W hW => by rw [hnb]; exact breaksTells g5 g6 X (n + 1) cx K1 Y (nb + 1) cy K2 _ W (by rw [HK1.out]) (by rw [HK2.out]) ((o5.out.pass hW o5.out.lt).cell) ((o6.out.pass hW o6.out.lt).cell) (OwnV.pass oX.out hW) (OwnV.pass oY.out hW))
    obtain ⟨v1, v2, hv1⟩ : ∃ v1 v2 : Int, plcV (sameL K1 K2) n p g m = .agg #[.int .i64 v1, .int .i64 v2] := ⟨_, _, rfl⟩
    rw [hv1] at FV SG
    have SG : Shut _ := ⟨SG⟩
    have q0 := hfour.out.c0
    have q1 := hfour.out.c1
    have q2 := hfour.out.c2
    have q3 := hfour.out.c3
    clear o5 o6 oX oY hfour hv1 hnb
    go_wp2_with fail
    refine SG.out.mono ?_
    rintro e w2 ⟨rfl, b2⟩
    have B2 : Shut (Below w.heap.size w w2) := ⟨hbe.out.trans (b2.mono hbe.out.size)⟩
    have R2 := hres.out.pass b2 hres.out.lt
    clear b2 SG q0 q1 q2 q3
    go_wp2_with (refine wpList_store_row rfl 27 (.tmp 4) (.tmp 23) rfl (w.heap.size + 1) _ rfl rfl 27 _ R2 cutSize52 (by rfl) (two_all52 _ _) ?_)
    rw [FV.out]
    exact cut_done3 Tryd.results6 (by rfl) R2 B2.out
end Go.Proofs.YtmbgeeiidpllcaaDoor
