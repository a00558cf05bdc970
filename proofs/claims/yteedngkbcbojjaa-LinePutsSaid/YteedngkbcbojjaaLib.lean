/- Slices of integers that came in or were made, as lists; small laws for walks. No program in sight. -/
import Derived.WalkKit
import Derived.ProofKit
import Derived.OpenShut
import Derived.Deep.QuietTactic
import Derived.BigQuiet
import Derived.Lib.Hide
namespace Go.Proofs.Yteedngkbcbojjaa
open Go.ChangeShapes Go.WideShapes Go.ChangeAt Go.RowKit

def nth (xs : List Int) (k : Nat) : Int := xs.getD k 0
theorem nth_eq {xs : List Int} {k : Nat} (h : k < xs.length) : nth xs k = xs[k] := by simp [nth, h]
theorem block_of_add (a : Addr) (n : Nat) : (a.add n).block = a.block := by unfold Addr.add; split <;> rfl
theorem add_of_add (a : Addr) (i j : Nat) : (a.add i).add j = a.add (i + j) := by
  unfold Addr.add
  by_cases hi : i = 0 <;> by_cases hj : j = 0 <;> simp [hi, hj, Nat.add_assoc]

/-- the slice value '.slice A n c' reads as the list xs, and lies below block B -/
def IntsAt (w : World) (B : Nat) (k : IntKind) (A : Option Addr) (n : Nat) (xs : List Int) : Prop :=
  xs.length = n ∧ (0 < n → ∃ ad, A = some ad ∧ ad.block < B ∧ ∀ j, j < n → w.cell? (ad.add j) = some (.int k (nth xs j)))

section
variable {w w' : World} {B B' n : Nat} {k : IntKind} {A : Option Addr} {xs : List Int}
theorem IntsAt.nil : IntsAt w B k A 0 [] := ⟨rfl, fun h => absurd h (by omega)⟩
theorem IntsAt.len (h : IntsAt w B k A n xs) : xs.length = n := h.1
theorem IntsAt.keep (h : IntsAt w B k A n xs) (hk : ∀ p : Addr, p.block < B → w'.cell? p = w.cell? p) : IntsAt w' B k A n xs :=
  ⟨h.1, fun hn => by
    obtain ⟨ad, e, hb, hc⟩ := h.2 hn
    exact ⟨ad, e, hb, fun j hj => (hk _ (by rw [block_of_add]; exact hb)).trans (hc j hj)⟩⟩
theorem IntsAt.more (h : IntsAt w B k A n xs) (hB : B ≤ B') : IntsAt w B' k A n xs :=
  ⟨h.1, fun hn => by
    obtain ⟨ad, e, hb, hc⟩ := h.2 hn
    exact ⟨ad, e, by omega, hc⟩⟩
theorem IntsAt.below (h : IntsAt w B k A n xs) (hb : Below B w w') : IntsAt w' B k A n xs := h.keep fun _ hp => hb.cell hp
/-- carried to a later world, whole -/
theorem IntsAt.later (h : IntsAt w w.heap.size k A n xs) (hb : Below w.heap.size w w') : IntsAt w' w'.heap.size k A n xs := (h.below hb).more hb.size
theorem IntsAt.cut (h : IntsAt w B k A n xs) {i j cap : Nat} (hij : i ≤ j) (hj : j ≤ n) (hc : n ≤ cap) :
    IntsAt w B k (if cap = i then A else A.map (·.add i)) (j - i) ((xs.take j).drop i) := by
  refine ⟨by rw [List.length_drop, List.length_take, h.1]; omega, fun hn => ?_⟩
  obtain ⟨ad, rfl, hb, hcell⟩ := h.2 (by omega)
  rw [if_neg (by omega)]
  refine ⟨ad.add i, rfl, by rw [block_of_add]; exact hb, fun m hm => ?_⟩
  rw [add_of_add, hcell _ (by omega)]
  congr 2
  simp only [nth, List.getD_eq_getElem?_getD, List.getElem?_drop, List.getElem?_take]
  rw [if_pos (by omega)]
end

/-- what is known of a slice of integers that came in -/
structure SliceIn (k : IntKind) (w : World) (A : Option Addr) (n c : Nat) (xs : List Int) : Prop where
  at_ : IntsAt w w.heap.size k A n xs
  le : n ≤ c
  cap : c ≤ 9223372036854775807
  wf : ∀ x ∈ xs, (Lit.int k x).wf = true
theorem SliceIn.nth_wf {k : IntKind} {w : World} {A : Option Addr} {n c : Nat} {xs : List Int} (h : SliceIn k w A n c xs) {i : Nat} (hi : i < n) : (Lit.int k (nth xs i)).wf = true := by
  have : i < xs.length := by rw [h.at_.1]; exact hi
  rw [nth_eq this]
  exact h.wf _ (List.getElem_mem ..)

theorem sliceIn_of_nil (k : IntKind) (w : World) : SliceIn k w none 0 0 [] := ⟨IntsAt.nil, Nat.le_refl _, by omega, by simp⟩
theorem sliceIn_of_row {k : IntKind} {w : World} {a : Addr} {len cap : Nat} {zs : List Int} (hl : len ≤ cap) (hm : cap ≤ maxLen) (hz : zs.length = cap)
    (hc : ∀ i, i < zs.length → w.cell? (a.add i) = some (.int k (zs.getD i 0))) (hw : ∀ n ∈ zs, (Lit.int k n).wf = true) : SliceIn k w (some a) len cap (zs.take len) := by
  refine ⟨⟨by rw [List.length_take, hz]; omega, fun hn => ⟨a, rfl, ?_, fun j hj => ?_⟩⟩, hl, by unfold maxLen at hm; omega, fun x hx => hw x (List.mem_of_mem_take hx)⟩
  · have := block_lt_of_cell (hc 0 (by omega))
    rwa [block_of_add] at this
  · rw [hc j (by omega)]
    congr 2
    simp only [nth, List.getD_eq_getElem?_getD, List.getElem?_take]
    rw [if_pos hj]

/-! ### slices that the call itself made -/
theorem add_zero_at (g j : Nat) : (⟨g, 0, none⟩ : Addr).add j = ⟨g, j, none⟩ := by unfold Addr.add; split <;> simp_all

/-- the slice '.slice A n c' is the call's own, from block B on, and its elements are the cells xs -/
def OwnV (w : World) (B : Nat) (e : TypeId) (size : Nat) (A : Option Addr) (n c : Nat) (xs : List Value) : Prop := w.ownsRow B e size (.slice A n c) n xs
/-- the same, of integers -/
def Own (w : World) (B : Nat) (e : TypeId) (k : IntKind) (A : Option Addr) (n c : Nat) (xs : List Int) : Prop := OwnV w B e 1 A n c (xs.map (Value.int k))

section
variable {w w' : World} {B : Nat} {e : TypeId} {size n c : Nat} {A : Option Addr} {vs : List Value} {k : IntKind} {xs : List Int}
theorem OwnV.pass (h : OwnV w B e size A n c vs) (hb : Below w.heap.size w w') : OwnV w' B e size A n c vs := by
  refine ⟨h.1, ?_⟩
  rcases h.2 with h2 | ⟨g, cap, cur, hv, hg, hh, r⟩
  · exact .inl h2
  · exact .inr ⟨g, cap, cur, hv, hg, (hb.block g (Array.getElem?_eq_some_iff.1 hh).1).trans hh, r⟩
theorem OwnV.alloc (h : OwnV w B e size A n c vs) (o : Obj) : OwnV (w.alloc o) B e size A n c vs := h.pass ((Below.refl _ _).alloc (Nat.le_refl _) o)
theorem OwnV.drewN (h : OwnV w B e size A n c vs) (m : Nat) : OwnV (w.drewN m) B e size A n c vs := h
theorem OwnV.drew (h : OwnV w B e size A n c vs) : OwnV w.drew B e size A n c vs := h
theorem OwnV.nil (w : World) (B : Nat) (e : TypeId) (size : Nat) : OwnV w B e size none 0 0 [] := ⟨by simp, .inl ⟨rfl, rfl⟩⟩
theorem OwnV.form (h : OwnV w B e size A n c vs) (hn : 0 < n) : ∃ g, A = some ⟨g, 0, none⟩ ∧ B ≤ g ∧ g < w.heap.size := by
  rcases h.2 with ⟨_, h0⟩ | ⟨g, cap, cur, hv, hg, hh, r⟩
  · omega
  · injection hv with h1
    exact ⟨g, h1, hg, (Array.getElem?_eq_some_iff.1 hh).1⟩
theorem OwnV.le (h : OwnV w B e size A n c vs) : n ≤ c := by
  rcases h.2 with ⟨_, h0⟩ | ⟨g, cap, cur, hv, hg, hh, hl, r⟩
  · omega
  · injection hv with h1 h2 h3
    omega
theorem OwnV.capLe (h : OwnV w B e size A n c vs) : c ≤ 9223372036854775807 := by
  rcases h.2 with ⟨hv, h0⟩ | ⟨g, cap, cur, hv, hg, hh, hl, hm, r⟩
  · injection hv with h1 h2 h3
    omega
  · injection hv with h1 h2 h3
    unfold maxLen at hm
    omega
theorem OwnV.cellAt {g : Nat} (h : OwnV w B e size (some ⟨g, 0, none⟩) n c vs) (j : Nat) (hj : j < n * size) : w.cell? ⟨g, j, none⟩ = vs[j]? := World.ownsRow.cellAt (cap := c) h j hj
theorem OwnV.frozenAt {g : Nat} (h : OwnV w B e size (some ⟨g, 0, none⟩) n c vs) (j : Nat) : w.frozen? ⟨g, j, none⟩ = false := World.ownsRow.frozenAt (cap := c) h j
theorem OwnV.below_of_grown (h : OwnV w B e size A n c vs) (hg : w.grownBy w' (Value.slice A n c).ownBlock) (hB : B ≤ w.heap.size) : Below B w w' := by
  refine (Below.refl B w).grown hg hB fun g hr => ?_
  rcases h.2 with ⟨hv, _⟩ | ⟨g', cap, cur, hv, hg', _⟩
  · rw [hv] at hr; simp [Value.ownBlock] at hr
  · rw [hv] at hr; simp [Value.ownBlock] at hr; omega
theorem Own.pass (h : Own w B e k A n c xs) (hb : Below w.heap.size w w') : Own w' B e k A n c xs := OwnV.pass h hb
theorem Own.alloc (h : Own w B e k A n c xs) (o : Obj) : Own (w.alloc o) B e k A n c xs := OwnV.alloc h o
theorem Own.drewN (h : Own w B e k A n c xs) (m : Nat) : Own (w.drewN m) B e k A n c xs := h
theorem Own.nil (w : World) (B : Nat) (e : TypeId) (k : IntKind) : Own w B e k none 0 0 [] := OwnV.nil w B e 1
theorem Own.len (h : Own w B e k A n c xs) : xs.length = n := by have := h.1; simpa using this
theorem Own.ints (h : Own w B e k A n c xs) : IntsAt w w.heap.size k A n xs := by
  refine ⟨h.len, fun hn => ?_⟩
  obtain ⟨g, rfl, _, hlt⟩ := OwnV.form h hn
  refine ⟨_, rfl, hlt, fun j hj => ?_⟩
  rw [add_zero_at, OwnV.cellAt h j (by omega)]
  have hl : j < xs.length := by rw [h.len]; exact hj
  rw [List.getElem?_map, List.getElem?_eq_getElem hl, nth_eq hl]
  rfl
/-- one element stored -/
theorem Own.set_ {g : Nat} (h : Own w B e k (some ⟨g, 0, none⟩) n c xs) (j : Nat) (y : Int) : Own (w.setCell ⟨g, j, none⟩ (.int k y)) B e k (some ⟨g, 0, none⟩) n c (xs.set j y) := by
  have := (World.ownsRow.stored (cap := c) h j (.int k y)).1
  unfold Own OwnV
  rw [List.map_set]
  exact this
end

/-- a slice type, and what is known of its elements' type -/
structure SliceOf (P : Program) (t e : TypeId) (size bytes : Nat) : Prop where
  ht : P.underlying t = some (.slice e)
  info : ∃ (i : TypeInfo) (z : Value), P.info? e = some i ∧ i.zero = some z ∧ i.size = size ∧ i.bytes = bytes ∧ z.cells.size = size
  pos : 0 < size
  posb : 0 < bytes

theorem sliceOf_mk {P : Program} {t e : TypeId} {size bytes : Nat} {z : Value} (ht : P.underlying t = some (.slice e)) (hi : (P.info? e).map (fun i => (i.zero, i.size, i.bytes)) = some (some z, size, bytes)) (hz : z.cells.size = size) (hp : 0 < size) (hb : 0 < bytes) : SliceOf P t e size bytes := by
  obtain ⟨i, h1, h2, h3, h4⟩ := info_parts hi
  exact ⟨ht, ⟨i, z, h1, h2, h3, h4, hz⟩, hp, hb⟩

/-- append of one element, which lies in a new block g -/
theorem wpList_pushV {P : Program} {w : World} {ops : Array Oper} {rest : List Oper} {o : Oper} {a : Act} {Q : Exit → Act → World → Prop} {t e : TypeId} {size bytes : Nat} (T : SliceOf P t e size bytes) (hgd : o.guard = none) (s x : Operand)
    (ho : o.op = .call { callee := .builtin .append, args := #[s, x], argTypes := #[t, t] }) {B : Nat} {A : Option Addr} {n c : Nat} {vs : List Value} (hs : a.eval s = .slice A n c) (hown : OwnV w B e size A n c vs)
    {g : Nat} (hx : a.eval x = .slice (some ⟨g, 0, none⟩) 1 1) {news : List Value} (hl : news.length = size) (hc : ∀ j u, news[j]? = some u → w.cell? ⟨g, j, none⟩ = some u) (h1 : ∀ u ∈ news, u.oneCell' = true)
    (hn : (n + 1) * bytes ≤ 140737488355328) (hB : B ≤ w.heap.size)
    (h : ∀ A' c' w', OwnV w' B e size A' (n + 1) c' (vs ++ news) → Below B w w' → wpList P ops Q rest (a.put o.dst (.slice A' (n + 1) c')) w') : wpList P ops Q (o :: rest) a w := by
  obtain ⟨i, z, hi, hz, hsz, hby, hzs⟩ := T.info
  have hpb := T.posb
  have hn1 : n + 1 ≤ 140737488355328 := by
    have h2 : (n + 1) * 1 ≤ (n + 1) * bytes := Nat.mul_le_mul_left _ hpb
    omega
  refine wpList_append_own w hgd s x t ho B e i z size bytes T.ht hi hz hsz hby hzs T.pos (.slice A n c) n vs hs hown ⟨g, 0, none⟩ 1 1 news hx (by omega) (fun j u hu => by rw [add_zero_at]; exact hc j u hu) h1 (by unfold maxLen; omega) hn hB ?_
  intro v' w' hown' hg _
  have hB' := OwnV.below_of_grown hown hg hB
  rcases hown'.2 with ⟨hv, h0⟩ | ⟨g', cap, cur, hv, _⟩
  · omega
  · subst hv
    exact h _ _ w' hown' hB'

theorem wpList_push {P : Program} {w : World} {ops : Array Oper} {rest : List Oper} {o : Oper} {a : Act} {Q : Exit → Act → World → Prop} {t e : TypeId} {bytes : Nat} (T : SliceOf P t e 1 bytes) (hgd : o.guard = none) (s x : Operand)
    (ho : o.op = .call { callee := .builtin .append, args := #[s, x], argTypes := #[t, t] }) {B : Nat} {k : IntKind} {A : Option Addr} {n c : Nat} {xs : List Int} (hs : a.eval s = .slice A n c) (hown : Own w B e k A n c xs)
    {g : Nat} (hx : a.eval x = .slice (some ⟨g, 0, none⟩) 1 1) {y : Int} (hc : w.cell? ⟨g, 0, none⟩ = some (.int k y))
    (hn : (n + 1) * bytes ≤ 140737488355328) (hB : B ≤ w.heap.size)
    (h : ∀ A' c' w', Own w' B e k A' (n + 1) c' (xs ++ [y]) → Below B w w' → wpList P ops Q rest (a.put o.dst (.slice A' (n + 1) c')) w') : wpList P ops Q (o :: rest) a w := by
  refine wpList_pushV T hgd s x ho hs hown hx (news := [.int k y]) rfl (fun j u hu => ?_) (fun u hu => ?_) hn hB fun A' c' w' h1 h2 => h A' c' w' ?_ h2
  · match j with
    | 0 => simp at hu; subst hu; exact hc
    | j + 1 => simp at hu
  · simp at hu; subst hu; rfl
  · unfold Own; rw [List.map_append]; exact h1

/-- make([]T, 0, n) -/
theorem wpList_make0 {P : Program} {w : World} {ops : Array Oper} {rest : List Oper} {o : Oper} {a : Act} {Q : Exit → Act → World → Prop} {t e : TypeId} {size bytes : Nat} (T : SliceOf P t e size bytes) (hgd : o.guard = none) (l c : Operand)
    (ho : o.op = .makeSlice t l c) {kl kc : IntKind} {C : Int} (n : Nat) (hl : a.eval l = .int kl 0) (hc : a.eval c = .int kc C) (hC : C = (n : Int)) (hn : n * bytes ≤ 140737488355328) (B : Nat) (hB : B ≤ w.heap.size)
    (h : ∀ g w', OwnV w' B e size (some ⟨g, 0, none⟩) 0 n [] → Below B w w' → wpList P ops Q rest (a.put o.dst (.slice (some ⟨g, 0, none⟩) 0 n)) w') : wpList P ops Q (o :: rest) a w := by
  obtain ⟨i, z, hi, hz, hsz, hby, hzs⟩ := T.info
  have hpb := T.posb
  have hn1 : n ≤ 140737488355328 := by
    have h2 : n * 1 ≤ n * bytes := Nat.mul_le_mul_left _ hpb
    omega
  exact wpList_make_own w hgd l c t ho B e i z size T.ht hi hz hsz kl kc C n hl hc hC (by rw [hby, Nat.mul_comm]; omega) (by unfold maxLen; omega) hB fun w' h1 h2 =>
    h _ w' h1 ((Below.refl B w).grown h2 hB (fun k hk => by cases hk))

/-- make([]T, n) of integers -/
theorem wpList_makeInts {P : Program} {w : World} {ops : Array Oper} {rest : List Oper} {o : Oper} {a : Act} {Q : Exit → Act → World → Prop} {t e : TypeId} {bytes : Nat} {k : IntKind} (T : SliceOf P t e 1 bytes) (hz0 : (P.info? e).map (·.zero) = some (some (.int k 0))) (hgd : o.guard = none) (l c : Operand)
    (ho : o.op = .makeSlice t l c) {kl kc : IntKind} {L C : Int} (n : Nat) (hl : a.eval l = .int kl L) (hc : a.eval c = .int kc C) (hL : L = (n : Int)) (hC : C = (n : Int)) (hn : n * bytes ≤ 140737488355328) (B : Nat) (hB : B ≤ w.heap.size)
    (h : ∀ g w', Own w' B e k (some ⟨g, 0, none⟩) n n (List.replicate n 0) → Below B w w' → wpList P ops Q rest (a.put o.dst (.slice (some ⟨g, 0, none⟩) n n)) w') : wpList P ops Q (o :: rest) a w := by
  obtain ⟨i, z, hi, hz, hsz, hby, hzs⟩ := T.info
  have hpb := T.posb
  have hn1 : n ≤ 140737488355328 := by
    have h2 : n * 1 ≤ n * bytes := Nat.mul_le_mul_left _ hpb
    omega
  have hzz : z = .int k 0 := by
    rw [hi] at hz0
    simp [hz] at hz0
    exact hz0
  refine wpList_make_full w hgd l c t ho B e i z 1 T.ht hi hz hsz kl kc L C n hl hc hL hC (by rw [hby, Nat.mul_comm]; omega) (by unfold maxLen; omega) hB fun w' h1 h2 =>
    h _ w' ?_ ((Below.refl B w).grown h2 hB (fun k hk => by cases hk))
  subst hzz
  unfold Own OwnV
  have e1 : (madeCells (Value.int k 0).cells (n * 1)).toList = (List.replicate n (0 : Int)).map (Value.int k) := by
    rw [Nat.mul_one, List.map_replicate]
    exact toList_madeCells_one _ _
  rw [e1] at h1
  exact h1

theorem cell_new (w : World) (v : Value) (t : TypeId) : (w.alloc (.cells #[v] t)).cell? ⟨w.heap.size, 0, none⟩ = some v := by
  rw [cell_of_row _ _ _ _ _ _ (heap_alloc_new w _)]; rfl
theorem take_succ_map {α : Type} (f : Int → α) {xs : List Int} {k : Nat} (h : k < xs.length) : (xs.take (k + 1)).map f = (xs.take k).map f ++ [f (nth xs k)] := by
  rw [List.take_succ_eq_append_getElem h, List.map_append, nth_eq h]; rfl
/-- what a call that hands back a new slice of integers leaves -/
def NewInts (w : World) (e : TypeId) (k : IntKind) (n : Nat) (xs : List Int) (r : Ending) (w' : World) : Prop :=
  ∃ (A : Option Addr) (c : Nat), r = .returned (.slice A n c) ∧ Own w' w.heap.size e k A n c xs ∧ Below w.heap.size w w'

theorem retb {a b : Bool} (h : a = b) : Ending.returned (.bool a) = Ending.returned (.bool b) := by rw [h]
theorem reti {k : IntKind} {a b : Int} (h : a = b) : Ending.returned (.int k a) = Ending.returned (.int k b) := by rw [h]
theorem cell_alloc {w : World} {p : Addr} {v : Value} (h : w.cell? p = some v) (o : Obj) : (w.alloc o).cell? p = some v := (World.cell?_alloc_lt w o p (block_lt_of_cell h)).trans h
theorem cell_pass {w w' : World} {p : Addr} {v : Value} (h : w.cell? p = some v) (hb : Below w.heap.size w w') : w'.cell? p = some v := (hb.cell (block_lt_of_cell h)).trans h
theorem bcells {B : Nat} {W w1 : World} (hb : Below B W w1) : (∀ b o, b < B → w1.cell? ⟨b, o, none⟩ = W.cell? ⟨b, o, none⟩) ∧ (∀ b o, b < B → w1.frozen? ⟨b, o, none⟩ = W.frozen? ⟨b, o, none⟩) :=
  ⟨fun b o h => hb.cell (p := ⟨b, o, none⟩) h, fun b o h => hb.frozen (p := ⟨b, o, none⟩) h⟩
theorem below_drewN {B : Nat} {a w : World} (h : Below B a w) (n : Nat) : Below B a (w.drewN n) := ⟨h.os, h.tape, h.output, h.size, h.block⟩

/-! ### a region that draws its order, whose operations read and whose callees read or make new memory: one walk, in the text's order -/
/-- a world that w may have become: what there was is as it was -/
def Later (w : World) : Type := { w' : World // Below w.heap.size w w' }
instance later_nonempty (w : World) : Nonempty (Later w) := ⟨⟨w, Below.refl _ _⟩⟩
theorem wp_region_later {P : Program} {id : Nat} {Q : Exit → Act → World → Prop} {a : Act} {w : World} {l : List Oper} (hm : P.follows .mixedOrders = true) (hB : Region.lexB .any l.toArray = true)
    (h : wpQuiet P l.toArray (fun w' => ∃ n : Later w, w' = n.1) (fun a' => ∀ w', (∃ n : Later w, w' = n.1) → Q .normal a' w') l a) : (Code.region id l.toArray true).wp P Q a w :=
  wp_region_quiet (C := fun w' => ∃ n : Later w, w' = n.1) hm hB ⟨⟨{ w with drawn := w.drawn + 1 }, ⟨rfl, rfl, rfl, Nat.le_refl _, fun _ _ => rfl⟩⟩, rfl⟩ (by simpa using h)
theorem quiet_later {P : Program} {f : FuncId} {args : Array Value} {w : World} {n : Later w} {v : Value} (h : Calls P f args n.1 fun e w' => e = .returned v ∧ Below n.1.heap.size n.1 w') :
    Calls P f args n.1 fun e w'' => e = .returned v ∧ ∃ m : Later w, w'' = m.1 :=
  h.mono fun _ w' ⟨he, hb⟩ => ⟨he, ⟨w', n.2.trans (hb.mono n.2.size)⟩, rfl⟩
theorem later_cell {w : World} {p : Addr} {v : Value} (h : w.cell? p = some v) : ∀ n : Later w, n.1.cell? p = some v := fun n => (n.2.cell (block_lt_of_cell h)).trans h

/-! ### two lists held against each other -/
theorem same_take {xs ys : List Int} {k : Nat} (h : xs.take k = ys.take k) (h1 : k < xs.length) (h2 : k < ys.length) (e : nth xs k = nth ys k) : xs.take (k+1) = ys.take (k+1) := by
  rw [List.take_succ_eq_append_getElem h1, List.take_succ_eq_append_getElem h2, h]
  rw [nth_eq h1, nth_eq h2] at e
  rw [e]
theorem ne_of_nth {xs ys : List Int} {k : Nat} (e : nth xs k ≠ nth ys k) : (xs == ys) = false := by
  rw [beq_eq_false_iff_ne]; rintro rfl; exact e rfl
theorem eq_of_take {xs ys : List Int} {n : Nat} (h : xs.take n = ys.take n) (h1 : xs.length = n) (h2 : ys.length = n) : (xs == ys) = true := by
  rw [List.take_of_length_le (by omega), List.take_of_length_le (by omega)] at h; simp [h]
theorem ne_of_len {xs ys : List Int} (h : xs.length ≠ ys.length) : (xs == ys) = false := by
  rw [beq_eq_false_iff_ne]; rintro rfl; exact h rfl
end Go.Proofs.Yteedngkbcbojjaa
