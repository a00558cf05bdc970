/- Chapters 17, 45: what the walks share: hidden facts, the types of the slices. -/
import Derived.Test.YteedngkbcbojjaaOwn2
import Derived.Test.YteedngkbcbojjaaVlaw
import Derived.Test.YteedngkbcbojjaaRows
import Derived.WalkKit
import Derived.ProofKit
import Derived.Deep.CutBlock
import Derived.Deep.DeepCutAuto
namespace Go.Proofs.Yteedngkbcbojjaa
open Go.ChangeShapes Go.WideShapes Go.ChangeAt Go.RowKit
set_option linter.unusedSimpArgs false

structure Shut (p : Prop) : Prop where
  out : p
theorem intv {a b : Int} (h : a = b) : Ending.returned (Value.int .i64 a) = Ending.returned (Value.int .i64 b) := by rw [h]
theorem nt {b : Bool} (h : b = false) : ¬ b = true := by rw [h]; simp
theorem TIv : SliceOf Try.prog 28 3 1 8 := sliceOf_mk Try.underlying28 (z := .int .i64 0) (by kernel_rfl) rfl (by omega) (by omega)
theorem zeroInt : (Try.prog.info? 3).map (·.zero) = some (some (.int .i64 0)) := by kernel_rfl
theorem own_cellH {w : World} {B n c : Nat} {e : TypeId} {g : Nat} {k : IntKind} {xs : List Int} (h : Own w B e k (some ⟨g, 0, none⟩) n c xs) {j : Nat} (hj : j < n) : w.cell? ⟨g, j, none⟩ = some (.int k (nth xs j)) := by
  have h1 := h.len
  rw [OwnV.cellAt h j (by omega), List.getElem?_map, List.getElem?_eq_getElem (by omega), nth_eq (by omega)]
  rfl
theorem Own.weakB {w : World} {B B' : Nat} {e : TypeId} {k : IntKind} {A : Option Addr} {n c : Nat} {xs : List Int} (h : Own w B e k A n c xs) (hb : B' ≤ B) : Own w B' e k A n c xs := by
  refine ⟨h.1, ?_⟩
  rcases h.2 with h2 | ⟨g, cap, cur, hv, hg, r⟩
  · exact .inl h2
  · exact .inr ⟨g, cap, cur, hv, by omega, r⟩
theorem cell_newN (w : World) (v : Value) (t : TypeId) (N : Nat) (h : w.heap.size = N) : (w.alloc (.cells #[v] t)).cell? ⟨N, 0, none⟩ = some v := by subst h; exact cell_new w v t
theorem below_drew {B : Nat} {a w : World} (h : Below B a w) : Below B a w.drew := ⟨h.os, h.tape, h.output, h.size, h.block⟩
end Go.Proofs.Yteedngkbcbojjaa
