/- Some rows of integers that the call made, each apart from the others: what an append to one, a new one, a store elsewhere leaves. No program in sight. -/
import Derived.Test.YtmbgeeiidpllcaaDoorOwn2
import Derived.Test.YtmbgeeiidpllcaaDoorDs
namespace Go.Proofs.YtmbgeeiidpllcaaDoor
open Go.ChangeShapes Go.WideShapes Go.ChangeAt Go.RowKit
set_option linter.unusedSimpArgs false

structure RowD where
  A : Option Addr
  n : Nat
  c : Nat
  xs : List Int
def Sep (W : World) (B : Nat) (e : TypeId) (f : Nat → Option RowD) : Prop :=
  (∀ i r, f i = some r → Own W B e .i64 r.A r.n r.c r.xs) ∧ ∀ i j r s, i ≠ j → f i = some r → f j = some s → Apart r.A s.A
def putR (f : Nat → Option RowD) (i : Nat) (r : RowD) : Nat → Option RowD := fun j => if j = i then some r else f j
section
variable {W W' : World} {B : Nat} {e : TypeId} {f : Nat → Option RowD} {i : Nat} {r : RowD}
theorem Sep.push (h : Sep W B e f) (hi : f i = some r) {A' : Option Addr} {n' c' : Nat} {ys : List Int} (o : Own W' B e .i64 A' n' c' ys) (hg : W.grownBy W' (Value.slice r.A r.n r.c).ownBlock)
    (hat : ∀ g, A' = some ⟨g, 0, none⟩ → r.A = some ⟨g, 0, none⟩ ∨ W.heap.size ≤ g) : Sep W' B e (putR f i ⟨A', n', c', ys⟩) := by
  refine ⟨fun j s hs => ?_, fun j k s t hjk hs ht => ?_⟩
  · unfold putR at hs
    split at hs
    · injection hs with hs; subst hs; exact o
    · rename_i hj
      exact Own.kept (h.1 j s hs) hg (h.2 j i s r hj hs hi) (OwnV.headC (h.1 i r hi))
  · unfold putR at hs ht
    split at hs
    · rename_i hj
      injection hs with hs; subst hs
      split at ht
      · omega
      · rename_i hk
        exact Apart.grow (h.2 i k r t (by omega) hi ht) (fun g eg => by have := h.1 k t ht; rw [eg] at this; exact (OwnV.ltH this).2) hat
    · rename_i hj
      split at ht
      · rename_i hk
        injection ht with ht; subst ht
        exact (Apart.grow (h.2 i j r s (by omega) hi hs) (fun g eg => by have := h.1 j s hs; rw [eg] at this; exact (OwnV.ltH this).2) hat).symm
      · exact h.2 j k s t hjk hs ht
theorem Sep.pass (h : Sep W B e f) (hb : Below W.heap.size W W') : Sep W' B e f := ⟨fun j s hs => (h.1 j s hs).pass hb, h.2⟩
theorem own_lit19 (w : World) (e : TypeId) (k : IntKind) (y : Int) (B : Nat) (hB : B ≤ w.heap.size) : Own (w.alloc (.cells #[.int k y] e)) B e k (some ⟨w.heap.size, 0, none⟩) 1 1 [y] := by
  refine ⟨rfl, .inr ⟨w.heap.size, 1, #[.int k y], rfl, hB, heap_alloc_new w _, ?_⟩⟩
  simp [maxLen]
theorem Sep.lit (h : Sep W B e f) (i : Nat) (y : Int) (hB : B ≤ W.heap.size) : Sep (W.alloc (.cells #[.int .i64 y] e)) B e (putR f i ⟨some ⟨W.heap.size, 0, none⟩, 1, 1, [y]⟩) := by
  refine ⟨fun j s hs => ?_, fun j k s t hjk hs ht => ?_⟩
  · unfold putR at hs
    split at hs
    · injection hs with hs; subst hs; exact own_lit19 W e .i64 y B hB
    · exact (h.1 j s hs).alloc _
  · unfold putR at hs ht
    split at hs
    · injection hs with hs; subst hs
      split at ht
      · omega
      · exact (OwnV.new_apart (h.1 k t ht) (Nat.le_refl _)).symm
    · split at ht
      · injection ht with ht; subst ht
        exact OwnV.new_apart (h.1 j s hs) (Nat.le_refl _)
      · exact h.2 j k s t hjk hs ht
theorem Sep.far (h : Sep W B e f) {b j : Nat} (hb : b < B) (u : Value) : Sep (W.setCell ⟨b, j, none⟩ u) B e f :=
  ⟨fun k s hs => Own.far (h.1 k s hs) (OwnV.apartB (h.1 k s hs) hb) u, h.2⟩
theorem Sep.sub (h : Sep W B e f) {g : Nat → Option RowD} (hg : ∀ i r, g i = some r → f i = some r) : Sep W B e g :=
  ⟨fun i r hr => h.1 i r (hg i r hr), fun i j r s hij hr hs => h.2 i j r s hij (hg i r hr) (hg j s hs)⟩
theorem Sep.drew (h : Sep W B e f) : Sep W.drew B e f := h
end
/-- three rows, and two that may be -/
def rows5 (a b c : RowD) (d e : Option RowD) : Nat → Option RowD
  | 0 => some a
  | 1 => some b
  | 2 => some c
  | 3 => d
  | 4 => e
  | _ => none
theorem rows5_0 (a b c : RowD) (d e : Option RowD) (r : RowD) : putR (rows5 a b c d e) 0 r = rows5 r b c d e := by
  funext i; unfold putR rows5; split <;> rename_i h <;> (try subst h) <;> (try rfl)
  split <;> first | rfl | omega
theorem rows5_1 (a b c : RowD) (d e : Option RowD) (r : RowD) : putR (rows5 a b c d e) 1 r = rows5 a r c d e := by
  funext i; unfold putR rows5; split <;> rename_i h <;> (try subst h) <;> (try rfl)
  split <;> first | rfl | omega
theorem rows5_2 (a b c : RowD) (d e : Option RowD) (r : RowD) : putR (rows5 a b c d e) 2 r = rows5 a b r d e := by
  funext i; unfold putR rows5; split <;> rename_i h <;> (try subst h) <;> (try rfl)
  split <;> first | rfl | omega
theorem rows5_3 (a b c : RowD) (d e : Option RowD) (r : RowD) : putR (rows5 a b c d e) 3 r = rows5 a b c (some r) e := by
  funext i; unfold putR rows5; split <;> rename_i h <;> (try subst h) <;> (try rfl)
  split <;> first | rfl | omega
theorem rows5_4 (a b c : RowD) (d e : Option RowD) (r : RowD) : putR (rows5 a b c d e) 4 r = rows5 a b c d (some r) := by
  funext i; unfold putR rows5; split <;> rename_i h <;> (try subst h) <;> (try rfl)
  split <;> first | rfl | omega
theorem Sep.drop {W : World} {B : Nat} {t : TypeId} {a b c : RowD} {d e : Option RowD} (h : Sep W B t (rows5 a b c d e)) : Sep W B t (rows5 a b c none none) :=
  h.sub fun i r hr => by
    match i, hr with
    | 0, hr => exact hr
    | 1, hr => exact hr
    | 2, hr => exact hr
    | 3, hr => cases hr
    | 4, hr => cases hr
    | n + 5, hr => cases hr
theorem sep_start (W : World) (B : Nat) (t : TypeId) : Sep W B t (rows5 ⟨none, 0, 0, []⟩ ⟨none, 0, 0, []⟩ ⟨none, 0, 0, []⟩ none none) := by
  refine ⟨fun i r hr => ?_, fun i j r s hij hr hs => ?_⟩
  · match i, hr with
    | 0, hr => injection hr with hr; subst hr; exact Own.nil _ _ _ _
    | 1, hr => injection hr with hr; subst hr; exact Own.nil _ _ _ _
    | 2, hr => injection hr with hr; subst hr; exact Own.nil _ _ _ _
    | 3, hr => cases hr
    | 4, hr => cases hr
    | n + 5, hr => cases hr
  · have h1 : r.A = none := by
      match i, hr with
      | 0, hr => injection hr with hr; subst hr; rfl
      | 1, hr => injection hr with hr; subst hr; rfl
      | 2, hr => injection hr with hr; subst hr; rfl
      | 3, hr => cases hr
      | 4, hr => cases hr
      | n + 5, hr => cases hr
    rw [h1]
    exact none_apart _

/-- append of one element at a step of a region that draws its order, and where it lies -/
theorem step_pushAt {P : Program} {w : World} {ops : Array Oper} {o : Oper} {a : Act} {K : Act → World → Prop} {Q : Exit → Act → World → Prop} {E : Prop} {t e : TypeId} {bytes : Nat} (T : SliceOf P t e 1 bytes) (hgd : o.guard = none) (s x : Operand)
    (ho : o.op = .call { callee := .builtin .append, args := #[s, x], argTypes := #[t, t] }) {B : Nat} {A : Option Addr} {n c : Nat} {xs : List Int} (hs : a.eval s = .slice A n c) (hown : Own w B e .i64 A n c xs)
    {g : Nat} (hx : a.eval x = .slice (some ⟨g, 0, none⟩) 1 1) {y : Int} (hc : w.cell? ⟨g, 0, none⟩ = some (.int .i64 y))
    (hn : (n + 1) * bytes ≤ 140737488355328) (hB : B ≤ w.heap.size)
    (h : ∀ A' c' w', Own w' B e .i64 A' (n + 1) c' (xs ++ [y]) → Below B w w' → w.grownBy w' (Value.slice A n c).ownBlock → (∀ g, A' = some ⟨g, 0, none⟩ → A = some ⟨g, 0, none⟩ ∨ w.heap.size ≤ g) → K (a.put o.dst (.slice A' (n + 1) c')) w') :
    if Region.wanted o (yielded ops a.tmps) = true then Oper.wp P o a w K Q else E := by
  have hw : Region.wanted o (yielded ops a.tmps) = true := by simp [Region.wanted, hgd]
  rw [if_pos hw]
  obtain ⟨i, z, hi, hz, hsz, hby, hzs⟩ := T.info
  have hpb := T.posb
  have hn1 : n + 1 ≤ 140737488355328 := by
    have h2 : (n + 1) * 1 ≤ (n + 1) * bytes := Nat.mul_le_mul_left _ hpb
    omega
  obtain ⟨v', w', hr, hown', hg, _, hat⟩ := run_append_own_at (P := P) w B t o.type e i z 1 bytes T.ht hi hz hsz hby hzs T.pos (.slice A n c) n _ hown ⟨g, 0, none⟩ 1 1 [.int .i64 y] rfl
    (fun j u hu => by
      rw [add_zero_at]
      match j with
      | 0 => simp at hu; subst hu; exact hc
      | j + 1 => simp at hu) (fun u hu => by simp at hu; subst hu; rfl) (by unfold maxLen; omega) hn hB
  unfold Oper.wp execOp
  simp only [ho, resolve, invoke, builtin, Sem.run_bind, Sem.run_pure, Result.andThen_ok, List.map_toArray, List.map_cons, List.map_nil, hs, hx, hr]
  have hB' := OwnV.below_of_grown hown hg hB
  rcases hown'.2 with ⟨hv, h0⟩ | ⟨g', cap, cur, hv, _⟩
  · omega
  · subst hv
    refine h _ _ w' (by unfold Own; rw [List.map_append]; exact hown') hB' hg fun g1 e1 => ?_
    injection e1 with e1
    injection e1 with e1
    subst e1
    rcases hat with h2 | h2
    · rcases OwnV.headC hown with rfl | ⟨g2, rfl⟩
      · simp [Value.ownBlock] at h2
      · simp [Value.ownBlock] at h2; subst h2; exact .inl rfl
    · simp [Value.ownBlock] at h2; exact .inr (by omega)
/-- a block of three cells -/
def Tri (w : World) (b : Nat) (t : TypeId) (x y z : Value) : Prop := w.heap[b]? = some (.cells #[x, y, z] t (0, 0))
section
variable {w w' : World} {b : Nat} {t : TypeId} {x y z : Value}
theorem Tri.lt (h : Tri w b t x y z) : b < w.heap.size := lt_of_block h
theorem Tri.c0 (h : Tri w b t x y z) : w.cell? ⟨b, 0, none⟩ = some x := by rw [cell_of_row _ _ _ _ _ _ h]; rfl
theorem Tri.c1 (h : Tri w b t x y z) : w.cell? ⟨b, 1, none⟩ = some y := by rw [cell_of_row _ _ _ _ _ _ h]; rfl
theorem Tri.c2 (h : Tri w b t x y z) : w.cell? ⟨b, 2, none⟩ = some z := by rw [cell_of_row _ _ _ _ _ _ h]; rfl
theorem Tri.pass {B : Nat} (h : Tri w b t x y z) (hb : Below B w w') (hB : b < B) : Tri w' b t x y z := (hb.block b hB).trans h
theorem Tri.newN (w : World) (t : TypeId) (x y z : Value) (N : Nat) (hN : w.heap.size = N) : Tri (w.alloc (.cells #[x, y, z] t)) N t x y z := by subst hN; exact heap_alloc_new w _
theorem Tri.alloc (h : Tri w b t x y z) (o : Obj) : Tri (w.alloc o) b t x y z := (Below.heap_alloc w o b h.lt).trans h
theorem Tri.f (h : Tri w b t x y z) (j : Nat) : w.frozen? ⟨b, j, none⟩ = false := frozen_of_row _ _ _ _ _ h
theorem Tri.set0 (h : Tri w b t x y z) (v : Value) : Tri (w.setCell ⟨b, 0, none⟩ v) b t v y z := by
  have hlt := h.lt
  have h' : w.heap[b] = .cells #[x, y, z] t (0, 0) := by unfold Tri at h; simpa [Array.getElem?_eq_getElem hlt] using h
  show (w.heap.modify b _)[b]? = _
  rw [Array.getElem?_eq_getElem (by simpa using hlt), Array.getElem_modify_self, h']
  rfl
theorem Tri.set1 (h : Tri w b t x y z) (v : Value) : Tri (w.setCell ⟨b, 1, none⟩ v) b t x v z := by
  have hlt := h.lt
  have h' : w.heap[b] = .cells #[x, y, z] t (0, 0) := by unfold Tri at h; simpa [Array.getElem?_eq_getElem hlt] using h
  show (w.heap.modify b _)[b]? = _
  rw [Array.getElem?_eq_getElem (by simpa using hlt), Array.getElem_modify_self, h']
  rfl
theorem Tri.set2 (h : Tri w b t x y z) (v : Value) : Tri (w.setCell ⟨b, 2, none⟩ v) b t x y v := by
  have hlt := h.lt
  have h' : w.heap[b] = .cells #[x, y, z] t (0, 0) := by unfold Tri at h; simpa [Array.getElem?_eq_getElem hlt] using h
  show (w.heap.modify b _)[b]? = _
  rw [Array.getElem?_eq_getElem (by simpa using hlt), Array.getElem_modify_self, h']
  rfl
theorem Tri.far {g j : Nat} (h : Tri w b t x y z) (hg : b ≠ g) (u : Value) : Tri (w.setCell ⟨g, j, none⟩ u) b t x y z := (Below.heap_setCell w ⟨g, j, none⟩ u b hg).trans h
theorem Tri.drew (h : Tri w b t x y z) : Tri w.drew b t x y z := h
end
end Go.Proofs.YtmbgeeiidpllcaaDoor
