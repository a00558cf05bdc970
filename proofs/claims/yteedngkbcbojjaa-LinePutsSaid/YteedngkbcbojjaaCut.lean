/- A slice of a slice, as one equation; what a slice that the call made reads as. No program in sight. -/
import Derived.Test.YteedngkbcbojjaaApp
namespace Go.Proofs.Yteedngkbcbojjaa
open Go.ChangeShapes Go.WideShapes Go.ChangeAt Go.RowKit

/-- cutting the slice value '.slice A n c' from i to j runs to '.slice A2 m c2', and that reads as the part -/
def CutRun (P : Program) (t : TypeId) (A : Option Addr) (n c : Nat) (lo hi : Option Value) (i j m : Nat) (A2 : Option Addr) (c2 : Nat) : Prop :=
  (∀ w : World, (Instr.slice t (.slice A n c) lo hi none).run P w = .ok (.slice A2 m c2) w) ∧ m ≤ c2 ∧ c2 ≤ c ∧ ∀ w B k xs, IntsAt w B k A n xs → IntsAt w B k A2 m ((xs.take j).drop i)

section
variable {P : Program} {t e : TypeId} {bytes : Nat}
theorem sizeOf_run {size : Nat} (T : SliceOf P t e size bytes) (w : World) : (sizeOf (P.elem t)).run P w = .ok size w := by
  obtain ⟨i, z, h1, h2, h3, h4, h5⟩ := T.info
  have he : P.elem t = e := by simp [Program.elem, T.ht]
  rw [he]
  simp [sizeOf, typeInfo, h1, h3]
theorem under_elem {size : Nat} (T : SliceOf P t e size bytes) : P.underlying t = some (.slice (P.elem t)) := by
  have he : P.elem t = e := by simp [Program.elem, T.ht]
  rw [he]; exact T.ht
theorem cut_lh (T : SliceOf P t e 1 bytes) (A : Option Addr) (n c i j : Nat) (hij : i ≤ j) (hj : j ≤ n) (hc : n ≤ c) (l h : Int) (hl : l = i) (hh : h = j) :
    ∃ A2 c2, CutRun P t A n c (some (.int .i64 l)) (some (.int .i64 h)) i j (j - i) A2 c2 := by
  subst hl; subst hh
  refine ⟨if c = i then A else A.map (·.add i), c - i, fun w => ?_, by omega, by omega, fun w B k xs hx => hx.cut hij hj hc⟩
  rw [run_slice_lh w t A n c (under_elem T) .i64 .i64 i j (by omega) (by omega) (by omega), sizeOf_run T]
  simp [Result.andThen, sliced]
theorem cut_h (T : SliceOf P t e 1 bytes) (A : Option Addr) (n c j : Nat) (hj : j ≤ n) (hc : n ≤ c) (h : Int) (hh : h = j) :
    ∃ A2 c2, CutRun P t A n c none (some (.int .i64 h)) 0 j j A2 c2 := by
  subst hh
  refine ⟨if c = 0 then A else A.map (·.add 0), c, fun w => ?_, by omega, by omega, fun w B k xs hx => by have := hx.cut (i := 0) (j := j) (cap := c) (by omega) hj hc; simpa using this⟩
  rw [run_slice_h w t A n c (under_elem T) .i64 j (by omega) (by omega), sizeOf_run T]
  simp [Result.andThen, sliced]
theorem cut_l (T : SliceOf P t e 1 bytes) (A : Option Addr) (n c i : Nat) (hi : i ≤ n) (hc : n ≤ c) (l : Int) (hl : l = i) :
    ∃ A2 c2, CutRun P t A n c (some (.int .i64 l)) none i n (n - i) A2 c2 := by
  subst hl
  refine ⟨if c = i then A else A.map (·.add i), c - i, fun w => ?_, by omega, by omega, fun w B k xs hx => hx.cut hi (Nat.le_refl _) hc⟩
  rw [run_slice_l w t A n c (under_elem T) .i64 i (by omega) (by omega), sizeOf_run T]
  simp [Result.andThen, sliced]
theorem CutRun.run {A A2 : Option Addr} {n c i j m c2 : Nat} {lo hi : Option Value} (h : CutRun P t A n c lo hi i j m A2 c2) : ∀ w : World, (Instr.slice t (.slice A n c) lo hi none).run P w = .ok (.slice A2 m c2) w := h.1
theorem CutRun.at_ {A A2 : Option Addr} {n c i j m c2 : Nat} {lo hi : Option Value} (h : CutRun P t A n c lo hi i j m A2 c2) {w : World} {B : Nat} {k : IntKind} {xs : List Int} (hx : IntsAt w B k A n xs) : IntsAt w B k A2 m ((xs.take j).drop i) := h.2.2.2 w B k xs hx
theorem CutRun.sliceIn {A A2 : Option Addr} {n c i j m c2 : Nat} {lo hi : Option Value} (h : CutRun P t A n c lo hi i j m A2 c2) {w : World} {k : IntKind} {xs : List Int} (hx : SliceIn k w A n c xs) : SliceIn k w A2 m c2 ((xs.take j).drop i) :=
  ⟨h.at_ hx.at_, h.2.1, Nat.le_trans h.2.2.1 hx.cap, fun x hm => hx.wf x (List.mem_of_mem_take (List.mem_of_mem_drop hm))⟩
end
theorem Own.sliceIn {w : World} {B n c : Nat} {e : TypeId} {k : IntKind} {A : Option Addr} {xs : List Int} (h : Own w B e k A n c xs) (hw : ∀ x ∈ xs, (Lit.int k x).wf = true) : SliceIn k w A n c xs :=
  ⟨h.ints, OwnV.le h, OwnV.capLe h, hw⟩
/-- a slice literal of integers, as it was just made -/
theorem lit_in {k : IntKind} {w : World} {t : TypeId} (xs : List Int) (n : Nat) (hn : xs.length = n) (hm : n ≤ 9223372036854775807) (hw : ∀ x ∈ xs, (Lit.int k x).wf = true)
    (vs : Array Value) (hv : vs = (xs.map (Value.int k)).toArray) : SliceIn k (w.alloc (.cells vs t)) (some ⟨w.heap.size, 0, none⟩) n n xs := by
  subst hv
  have hc : ∀ j, j < n → (w.alloc (.cells (xs.map (Value.int k)).toArray t)).cell? ⟨w.heap.size, j, none⟩ = some (.int k (nth xs j)) := fun j hj => by
    rw [cell_of_row _ _ _ _ _ _ (heap_alloc_new w _)]
    have : j < xs.length := by omega
    simp [nth_eq this, this]
  exact ⟨⟨hn, fun h0 => ⟨_, rfl, block_lt_of_cell (hc 0 h0), fun j hj => by rw [add_zero_at]; exact hc j hj⟩⟩, Nat.le_refl _, hm, hw⟩
theorem below_alloc (w : World) (o : Obj) : Below w.heap.size w (w.alloc o) := (Below.refl _ _).alloc (Nat.le_refl _) o

theorem add_succ (a : Addr) (k : Nat) : a.add (k + 1) = ⟨a.block, a.off + (k + 1), none⟩ := by simp [Addr.add]
end Go.Proofs.Yteedngkbcbojjaa
