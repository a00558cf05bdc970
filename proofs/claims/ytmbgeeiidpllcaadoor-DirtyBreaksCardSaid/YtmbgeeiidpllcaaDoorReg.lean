/- A region that draws its order, by an invariant: each operation is shown once, whatever has been done before it. No program in sight. -/
import Derived.RegionTactic
import Derived.Test.YtmbgeeiidpllcaaDoorLib
namespace Go.Proofs.YtmbgeeiidpllcaaDoor
open Go.RowKit

theorem count_set : ∀ (l : List Bool) (i : Nat), l[i]? = some false → (l.set i true).count false + 1 = l.count false
  | [], i, h => by simp at h
  | b :: l, 0, h => by
    simp at h
    subst h
    simp
  | b :: l, i + 1, h => by
    have := count_set l i (by simpa using h)
    simp only [List.set_cons_succ, List.count_cons]
    omega
section
variable {P : Program} {ops : Array Oper} {Q : Exit → Act → World → Prop}
/-- every edge leads back -/
def backward (ops : Array Oper) : Bool := (List.range ops.size).all fun i => ((ops[i]?).map (·.after.all fun e => decide (e.on < i))).getD true
theorem ready_done {listed : Array Bool} (hb : backward ops = true) (hs : listed.size = ops.size) (hr : Region.ready .any ops listed = []) : ∀ i, i < ops.size → listed.getD i false = true := by
  intro i
  induction i using Nat.strongRecOn with
  | _ i ih =>
    intro hi
    cases hl : listed.getD i false with
    | true => rfl
    | false =>
      exfalso
      have hm : i ∈ Region.ready .any ops listed := by
        unfold Region.ready
        rw [List.mem_filter]
        refine ⟨List.mem_range.2 hi, ?_⟩
        have h1 : listed.getD i true = false := by
          rw [Array.getD_eq_getD_getElem?] at hl ⊢
          rw [Array.getElem?_eq_getElem (by omega)] at hl ⊢
          exact hl
        rw [h1, Array.getElem?_eq_getElem hi]
        simp only [Bool.not_false, Bool.true_and, Option.map_some, Option.getD_some]
        rw [Array.all_eq_true]
        intro j hj
        have hb2 := (List.all_eq_true.1 hb) i (List.mem_range.2 hi)
        rw [Array.getElem?_eq_getElem hi] at hb2
        simp only [Option.map_some, Option.getD_some] at hb2
        rw [Array.all_eq_true] at hb2
        have hlt := hb2 j hj
        have hlt2 : ((ops[i].after)[j]).on < i := by simpa using hlt
        rw [ih _ hlt2 (by omega)]
        simp
      rw [hr] at hm
      cases hm
theorem set_flags {listed : Array Bool} {i : Nat} (hi : i < listed.size) : (fun k => (listed.setIfInBounds i true).getD k false) = fun k => k == i || listed.getD k false := by
  funext k
  rw [Array.getD_eq_getD_getElem?, Array.getD_eq_getD_getElem?, Array.getElem?_setIfInBounds]
  by_cases h : i = k
  · subst h
    simp [hi]
  · have h2 : (k == i) = false := by simpa using Ne.symm h
    rw [if_neg h, h2, Bool.false_or]
theorem any_inv (hb : backward ops = true) (I : (Nat → Bool) → Act → World → Prop)
    (hstep : ∀ i o L a w, ops[i]? = some o → L i = false → o.after.all (fun e => !Region.binds .any e || L e.on) = true → I L a w → wpOp P ops Q i (I (fun k => k == i || L k)) a w)
    (hend : ∀ L a w, (∀ i, i < ops.size → L i = true) → I L a w → Q .normal a w) :
    ∀ (fuel : Nat) (listed : Array Bool) (a : Act) (w : World), listed.size = ops.size → listed.toList.count false ≤ fuel → I (fun k => listed.getD k false) a w → wpAny P .any ops Q fuel listed a w := by
  intro fuel
  induction fuel with
  | zero =>
    intro listed a w hs hc hI
    have hall : ∀ i, i < ops.size → listed.getD i false = true := fun i hi => by
      rw [Array.getD_eq_getD_getElem?, Array.getElem?_eq_getElem (by omega)]
      cases hl : listed[i] with
      | true => rfl
      | false =>
        exfalso
        have : false ∈ listed.toList := by rw [← hl]; simp
        have := List.count_pos_iff.2 this
        omega
    refine ⟨?_, hend _ a w hall hI⟩
    unfold Region.ready
    rw [List.filter_eq_nil_iff]
    intro i hi
    have h1 := hall i (List.mem_range.1 hi)
    have h2 : listed.getD i true = true := by
      have hil := List.mem_range.1 hi
      rw [Array.getD_eq_getD_getElem?, Array.getElem?_eq_getElem (by omega)] at h1 ⊢
      exact h1
    rw [h2]
    simp
  | succ fuel ih =>
    intro listed a w hs hc hI
    refine ⟨fun hr => hend _ a w (ready_done hb hs hr) hI, fun i hi => ?_⟩
    have hr := hi
    unfold Region.ready at hr
    rw [List.mem_filter] at hr
    obtain ⟨hr1, hr2⟩ := hr
    have hio := List.mem_range.1 hr1
    rw [Bool.and_eq_true] at hr2
    obtain ⟨hr2, hr3⟩ := hr2
    have hlf : listed[i]'(by omega) = false := by
      rw [Array.getD_eq_getD_getElem?, Array.getElem?_eq_getElem (by omega)] at hr2
      simpa using hr2
    have hL : listed.getD i false = false := by
      rw [Array.getD_eq_getD_getElem?, Array.getElem?_eq_getElem (by omega), hlf]
      rfl
    rw [Array.getElem?_eq_getElem hio] at hr3
    simp only [Option.map_some, Option.getD_some] at hr3
    have hst := hstep i ops[i] (fun k => listed.getD k false) a w (Array.getElem?_eq_getElem hio) hL hr3 hI
    refine wpOp_mono (fun a' w' h' => ih _ a' w' (by simpa using hs) ?_ ?_) hst
    · have := count_set listed.toList i (by rw [Array.getElem?_toList, Array.getElem?_eq_getElem (by omega), hlf])
      rw [Array.toList_setIfInBounds]
      omega
    · rw [set_flags (by omega)]
      exact h'
/-- the law -/
theorem wp_region_inv {id : Nat} {a : Act} {w : World} (hm : P.follows .mixedOrders = true) (hb : backward ops = true) (I : (Nat → Bool) → Act → World → Prop) (h0 : I (fun _ => false) a w.drew)
    (hstep : ∀ i o L a w, ops[i]? = some o → L i = false → o.after.all (fun e => !Region.binds .any e || L e.on) = true → I L a w → wpOp P ops Q i (I (fun k => k == i || L k)) a w)
    (hend : ∀ L a w, (∀ i, i < ops.size → L i = true) → I L a w → Q .normal a w) : (Code.region id ops true).wp P Q a w := by
  refine wp_region_any hm ?_
  refine any_inv hb I hstep hend ops.size _ a _ (by simp) ?_ ?_
  · rw [Array.toList_replicate, List.count_replicate]
    simp
  · have : (fun k => (Array.replicate ops.size false).getD k false) = fun _ => false := by
      funext k
      rw [Array.getD_eq_getD_getElem?, Array.getElem?_replicate]
      split <;> rfl
    rw [this]
    exact h0
end
end Go.Proofs.YtmbgeeiidpllcaaDoor
