/- Slices of integers that came in or were made, as lists; small laws for walks. No program in sight. -/
import Derived.WalkKit
import Derived.ProofKit
import Derived.OpenShut
import Derived.Deep.QuietTactic
import Derived.BigQuiet
import Derived.Lib.Hide
namespace Go.Proofs.YtajippjknikciaaDoor
open Go.ChangeShapes Go.WideShapes Go.ChangeAt Go.RowKit

def nth (xs : List Int) (k : Nat) : Int := xs.getD k 0
theorem nth_eq {xs : List Int} {k : Nat} (h : k < xs.length) : nth xs k = xs[k] := by simp [nth, h]
theorem block_of_add (a : Addr) (n : Nat) : (a.add n).block = a.block := by unfold Addr.add; split <;> rfl
theorem add_of_add (a : Addr) (i j : Nat) : (a.add i).add j = a.add (i + j) := by
  unfold Addr.add
  by_cases hi : i = 0 <;> by_cases hj : j = 0 <;> simp [hi, hj, Nat.add_assoc]

/-- the slice value '.slice A n c' reads as the list xs, and lies below block B -/
def IntsAt (w : World) (B : Nat) (k : IntKind) (A : Option Addr) (n : Nat) (xs : List Int) : Prop :=
  xs.length = n ∧ (0 < n → ∃ ad, A = some ad ∧ ad.block < B ∧ ∀ j, j < n → w.cell? (ad.add j) = some (.int k (nth xs j)))

section
variable {w w' : World} {B B' n : Nat} {k : IntKind} {A : Option Addr} {xs : List Int}
theorem IntsAt.nil : IntsAt w B k A 0 [] := ⟨rfl, fun h => absurd h (by omega)⟩
theorem IntsAt.len (h : IntsAt w B k A n xs) : xs.length = n := h.1
theorem IntsAt.keep (h : IntsAt w B k A n xs) (hk : ∀ p : Addr, p.block < B → w'.cell? p = w.cell? p) : IntsAt w' B k A n xs :=
  ⟨h.1, fun hn => by
    obtain ⟨ad, e, hb, hc⟩ := h.2 hn
    exact ⟨ad, e, hb, fun j hj => (hk _ (by rw [block_of_add]; exact hb)).trans (hc j hj)⟩⟩
theorem IntsAt.more (h : IntsAt w B k A n xs) (hB : B ≤ B') : IntsAt w B' k A n xs :=
  ⟨h.1, fun hn => by
    obtain ⟨ad, e, hb, hc⟩ := h.2 hn
    exact ⟨ad, e, by omega, hc⟩⟩
theorem IntsAt.below (h : IntsAt w B k A n xs) (hb : Below B w w') : IntsAt w' B k A n xs := h.keep fun _ hp => hb.cell hp
/-- carried to a later world, whole -/
theorem IntsAt.later (h : IntsAt w w.heap.size k A n xs) (hb : Below w.heap.size w w') : IntsAt w' w'.heap.size k A n xs := (h.below hb).more hb.size
theorem IntsAt.cut (h : IntsAt w B k A n xs) {i j cap : Nat} (hij : i ≤ j) (hj : j ≤ n) (hc : n ≤ cap) :
    IntsAt w B k (if cap = i then A else A.map (·.add i)) (j - i) ((xs.take j).drop i) := by
  refine ⟨by rw [List.length_drop, List.length_take, h.1]; omega, fun hn => ?_⟩
  obtain ⟨ad, rfl, hb, hcell⟩ := h.2 (by omega)
  rw [if_neg (by omega)]
  refine ⟨ad.add i, rfl, by rw [block_of_add]; exact hb, fun m hm => ?_⟩
  rw [add_of_add, hcell _ (by omega)]
  congr 2
  simp only [nth, List.getD_eq_getElem?_getD, List.getElem?_drop, List.getElem?_take]
  rw [if_pos (by omega)]
end

/-- what is known of a slice of integers that came in -/
structure SliceIn (k : IntKind) (w : World) (A : Option Addr) (n c : Nat) (xs : List Int) : Prop where
  at_ : IntsAt w w.heap.size k A n xs
  le : n ≤ c
  cap : c ≤ 9223372036854775807
  wf : ∀ x ∈ xs, (Lit.int k x).wf = true
theorem SliceIn.nth_wf {k : IntKind} {w : World} {A : Option Addr} {n c : Nat} {xs : List Int} (h : SliceIn k w A n c xs) {i : Nat} (hi : i < n) : (Lit.int k (nth xs i)).wf = true := by
  have : i < xs.length := by rw [h.at_.1]; exact hi
  rw [nth_eq this]
  exact h.wf _ (List.getElem_mem ..)

theorem sliceIn_of_nil (k : IntKind) (w : World) : SliceIn k w none 0 0 [] := ⟨IntsAt.nil, Nat.le_refl _, by omega, by simp⟩
theorem sliceIn_of_row {k : IntKind} {w : World} {a : Addr} {len cap : Nat} {zs : List Int} (hl : len ≤ cap) (hm : cap ≤ maxLen) (hz : zs.length = cap)
    (hc : ∀ i, i < zs.length → w.cell? (a.add i) = some (.int k (zs.getD i 0))) (hw : ∀ n ∈ zs, (Lit.int k n).wf = true) : SliceIn k w (some a) len cap (zs.take len) := by
  refine ⟨⟨by rw [List.length_take, hz]; omega, fun hn => ⟨a, rfl, ?_, fun j hj => ?_⟩⟩, hl, by unfold maxLen at hm; omega, fun x hx => hw x (List.mem_of_mem_take hx)⟩
  · have := block_lt_of_cell (hc 0 (by omega))
    rwa [block_of_add] at this
  · rw [hc j (by omega)]
    congr 2
    simp only [nth, List.getD_eq_getElem?_getD, List.getElem?_take]
    rw [if_pos hj]

theorem retb {a b : Bool} (h : a = b) : Ending.returned (.bool a) = Ending.returned (.bool b) := by rw [h]
theorem reti {k : IntKind} {a b : Int} (h : a = b) : Ending.returned (.int k a) = Ending.returned (.int k b) := by rw [h]
theorem bcells {B : Nat} {W w1 : World} (hb : Below B W w1) : (∀ b o, b < B → w1.cell? ⟨b, o, none⟩ = W.cell? ⟨b, o, none⟩) ∧ (∀ b o, b < B → w1.frozen? ⟨b, o, none⟩ = W.frozen? ⟨b, o, none⟩) :=
  ⟨fun b o h => hb.cell (p := ⟨b, o, none⟩) h, fun b o h => hb.frozen (p := ⟨b, o, none⟩) h⟩
theorem below_drewN {B : Nat} {a w : World} (h : Below B a w) (n : Nat) : Below B a (w.drewN n) := ⟨h.os, h.tape, h.output, h.size, h.block⟩

/-! ### two lists held against each other -/
theorem same_take {xs ys : List Int} {k : Nat} (h : xs.take k = ys.take k) (h1 : k < xs.length) (h2 : k < ys.length) (e : nth xs k = nth ys k) : xs.take (k+1) = ys.take (k+1) := by
  rw [List.take_succ_eq_append_getElem h1, List.take_succ_eq_append_getElem h2, h]
  rw [nth_eq h1, nth_eq h2] at e
  rw [e]
theorem ne_of_nth {xs ys : List Int} {k : Nat} (e : nth xs k ≠ nth ys k) : (xs == ys) = false := by
  rw [beq_eq_false_iff_ne]; rintro rfl; exact e rfl
theorem eq_of_take {xs ys : List Int} {n : Nat} (h : xs.take n = ys.take n) (h1 : xs.length = n) (h2 : ys.length = n) : (xs == ys) = true := by
  rw [List.take_of_length_le (by omega), List.take_of_length_le (by omega)] at h; simp [h]
theorem ne_of_len {xs ys : List Int} (h : xs.length ≠ ys.length) : (xs == ys) = false := by
  rw [beq_eq_false_iff_ne]; rintro rfl; exact h rfl
end Go.Proofs.YtajippjknikciaaDoor
