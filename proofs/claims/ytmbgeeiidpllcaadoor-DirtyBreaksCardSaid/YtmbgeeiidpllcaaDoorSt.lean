/- Steps of a region that draws its order: a call by its contract; a block of two cells; append of one integer. No program in sight. -/
import Derived.Test.YtmbgeeiidpllcaaDoorTab
import Derived.Test.YtmbgeeiidpllcaaDoorOwn2
import Derived.Deep.RegionLaw
namespace Go.Proofs.YtmbgeeiidpllcaaDoor
open Go.ChangeShapes Go.WideShapes Go.ChangeAt Go.RowKit

/-- a call of a Go function at a step of such a region -/
theorem step_call {P : Program} {w : World} {ops : Array Oper} {o : Oper} {a : Act} {K : Act → World → Prop} {Q : Exit → Act → World → Prop} {E : Prop} (f : FuncId) (xs : List Operand) (ats : Array TypeId)
    (hgd : o.guard = none) (ho : o.op = .call { callee := .value (.func f), args := xs.toArray, argTypes := ats }) (he : EntersIt P f) {v : Value} {args : List Value} (hargs : xs.map a.eval = args)
    (hc : Calls P f args.toArray w fun e w' => e = .returned v ∧ Below w.heap.size w w') (hk : ∀ w', Below w.heap.size w w' → K (a.put o.dst v) w') :
    if Region.wanted o (yielded ops a.tmps) = true then Oper.wp P o a w K Q else E := by
  have hw : Region.wanted o (yielded ops a.tmps) = true := by simp [Region.wanted, hgd]
  rw [if_pos hw]
  subst hargs
  exact wp_call_go f xs.toArray ats ho he (by rw [List.map_toArray]; exact hc) hk
/-- append of one integer at a step of such a region -/
theorem step_push {P : Program} {w : World} {ops : Array Oper} {o : Oper} {a : Act} {K : Act → World → Prop} {Q : Exit → Act → World → Prop} {E : Prop} {t e : TypeId} {bytes : Nat} {k : IntKind} (T : SliceOf P t e 1 bytes) (hgd : o.guard = none) (s x : Operand)
    (ho : o.op = .call { callee := .builtin .append, args := #[s, x], argTypes := #[t, t] }) {B : Nat} {A : Option Addr} {n c : Nat} {xs : List Int} (hs : a.eval s = .slice A n c) (hown : Own w B e k A n c xs)
    {g : Nat} (hx : a.eval x = .slice (some ⟨g, 0, none⟩) 1 1) {y : Int} (hc : w.cell? ⟨g, 0, none⟩ = some (.int k y))
    (hn : (n + 1) * bytes ≤ 140737488355328) (hB : B ≤ w.heap.size)
    (h : ∀ A' c' w', Own w' B e k A' (n + 1) c' (xs ++ [y]) → Below B w w' → K (a.put o.dst (.slice A' (n + 1) c')) w') :
    if Region.wanted o (yielded ops a.tmps) = true then Oper.wp P o a w K Q else E := by
  refine step_pushV T hgd s x ho hs hown hx (news := [.int k y]) rfl (fun j u hu => ?_) (fun u hu => ?_) hn hB fun A' c' w' h1 h2 => h A' c' w' ?_ h2
  · match j with
    | 0 => simp at hu; subst hu; exact hc
    | j + 1 => simp at hu
  · simp at hu; subst hu; rfl
  · unfold Own; rw [List.map_append]; exact h1

theorem cell_newN (w : World) (v : Value) (t : TypeId) (N : Nat) (h : w.heap.size = N) : (w.alloc (.cells #[v] t)).cell? ⟨N, 0, none⟩ = some v := by subst h; exact cell_new w v t
/-- a block of two cells -/
def Two (w : World) (b : Nat) (t : TypeId) (x y : Value) : Prop := w.heap[b]? = some (.cells #[x, y] t (0, 0))
section
variable {w w' : World} {b : Nat} {t : TypeId} {x y : Value}
theorem Two.lt (h : Two w b t x y) : b < w.heap.size := lt_of_block h
theorem Two.c0 (h : Two w b t x y) : w.cell? ⟨b, 0, none⟩ = some x := by rw [cell_of_row _ _ _ _ _ _ h]; rfl
theorem Two.c1 (h : Two w b t x y) : w.cell? ⟨b, 1, none⟩ = some y := by rw [cell_of_row _ _ _ _ _ _ h]; rfl
theorem Two.f (h : Two w b t x y) (j : Nat) : w.frozen? ⟨b, j, none⟩ = false := frozen_of_row _ _ _ _ _ h
theorem Two.pass {B : Nat} (h : Two w b t x y) (hb : Below B w w') (hB : b < B) : Two w' b t x y := (hb.block b hB).trans h
theorem Two.new (w : World) (t : TypeId) (x y : Value) : Two (w.alloc (.cells #[x, y] t)) w.heap.size t x y := heap_alloc_new w _
theorem Two.alloc (h : Two w b t x y) (o : Obj) : Two (w.alloc o) b t x y := h.pass ((Below.refl _ _).alloc (Nat.le_refl _) o) h.lt
theorem Two.drew (h : Two w b t x y) : Two w.drew b t x y := h
theorem Two.set1 (h : Two w b t x y) (u : Value) : Two (w.setCell ⟨b, 1, none⟩ u) b t x u := by
  have hlt := h.lt
  have h' : w.heap[b] = .cells #[x, y] t (0, 0) := by unfold Two at h; simpa [Array.getElem?_eq_getElem hlt] using h
  show (w.heap.modify b _)[b]? = _
  rw [Array.getElem?_eq_getElem (by simpa using hlt), Array.getElem_modify_self, h']
  rfl
theorem Two.set0 (h : Two w b t x y) (u : Value) : Two (w.setCell ⟨b, 0, none⟩ u) b t u y := by
  have hlt := h.lt
  have h' : w.heap[b] = .cells #[x, y] t (0, 0) := by unfold Two at h; simpa [Array.getElem?_eq_getElem hlt] using h
  show (w.heap.modify b _)[b]? = _
  rw [Array.getElem?_eq_getElem (by simpa using hlt), Array.getElem_modify_self, h']
  rfl
theorem Two.far (h : Two w b t x y) {a : Addr} (ha : b ≠ a.block) (u : Value) : Two (w.setCell a u) b t x y := by
  unfold Two
  rw [Below.heap_setCell _ _ _ _ ha]
  exact h
end
/-- what is owned is kept where a cell ahead of it is stored -/
theorem OwnV.under {w : World} {B n c size : Nat} {e : TypeId} {A : Option Addr} {vs : List Value} (h : OwnV w B e size A n c vs) {a : Addr} (ha : a.block < B) (u : Value) : OwnV (w.setCell a u) B e size A n c vs := by
  refine ownsRow_setCell_other h (fun e => ?_) u
  rcases OwnV.headC h with rfl | ⟨g, rfl⟩
  · simp [Value.ownBlock] at e
  · simp [Value.ownBlock] at e
    have := h.ltH
    omega
end Go.Proofs.YtmbgeeiidpllcaaDoor
