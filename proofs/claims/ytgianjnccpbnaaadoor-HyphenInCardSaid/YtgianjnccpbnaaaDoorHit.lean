/- A string's iterator beside slices of the call's own. No program in sight. -/
import Derived.Test.YtgianjnccpbnaaaDoorOwn2
import Derived.Lib.OthersKept
namespace Go.Proofs.YtgianjnccpbnaaaDoor
open Go.ChangeShapes Go.WideShapes Go.ChangeAt Go.RowKit

def IterIs (w : World) (k : Nat) (s : ByteArray) (pos : Nat) : Prop := w.heap[k]? = some (.stringIter s pos)
section
variable {w w' : World} {B n c k : Nat} {e : TypeId} {size : Nat} {A : Option Addr} {vs : List Value} {s : ByteArray} {pos : Nat}
theorem IterIs.lt (h : IterIs w k s pos) : k < w.heap.size := (Array.getElem?_eq_some_iff.1 h).1
theorem OwnV.ne_iter {g : Nat} (h : OwnV w B e size (some ⟨g, 0, none⟩) n c vs) (hi : IterIs w k s pos) : g ≠ k := by
  rintro rfl
  rcases h.2 with ⟨hv, _⟩ | ⟨g', cap, cur, hv, hb, hh, r⟩
  · cases hv
  · injection hv with h1
    injection h1 with h1
    injection h1 with h1
    subst h1
    unfold IterIs at hi
    rw [hi] at hh
    cases hh
theorem IterIs.grown (hi : IterIs w k s pos) (h : OwnV w B e size A n c vs) {m d : Nat} (hg : w.grownBy w' (Value.slice A m d).ownBlock) : IterIs w' k s pos := by
  refine (hg.block k hi.lt ?_).trans hi
  rcases OwnV.headC h with rfl | ⟨g, rfl⟩
  · simp [Value.ownBlock]
  · have := h.ne_iter hi
    simp only [Value.ownBlock]
    intro e
    injection e with e
    exact this e.symm
theorem IterIs.alloc (hi : IterIs w k s pos) (o : Obj) : IterIs (w.alloc o) k s pos := (Lib.alloc_old w o k hi.lt).trans hi
theorem IterIs.set_ (hi : IterIs w k s pos) {g j : Nat} (h : g ≠ k) (u : Value) : IterIs (w.setCell ⟨g, j, none⟩ u) k s pos := by
  unfold IterIs
  rw [Below.heap_setCell w ⟨g, j, none⟩ u k (fun e => h e.symm)]
  exact hi
theorem IterIs.moved (hi : IterIs w k s pos) (p : Nat) : IterIs (w.iterAt k s p) k s p := Lib.iterAt_heap w k s pos p hi
theorem OwnV.moved (h : OwnV w B e size A n c vs) (hi : IterIs w k s pos) (p : Nat) : OwnV (w.iterAt k s p) B e size A n c vs := by
  refine ⟨h.1, ?_⟩
  rcases h.2 with h2 | ⟨g, cap, cur, hv, hb, hh, r⟩
  · exact .inl h2
  · refine .inr ⟨g, cap, cur, hv, hb, ?_, r⟩
    rw [Lib.iterAt_other w k g s p ?_]
    · exact hh
    · rintro rfl
      unfold IterIs at hi
      rw [hi] at hh
      cases hh
end
theorem Own.moved {w : World} {B n c k : Nat} {e : TypeId} {A : Option Addr} {kd : IntKind} {xs : List Int} {s : ByteArray} {pos : Nat} (h : Own w B e kd A n c xs) (hi : IterIs w k s pos) (p : Nat) : Own (w.iterAt k s p) B e kd A n c xs := OwnV.moved h hi p
end Go.Proofs.YtgianjnccpbnaaaDoor
