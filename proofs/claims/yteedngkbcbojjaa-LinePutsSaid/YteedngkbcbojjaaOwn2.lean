/- Two slices that the call made, side by side: a change to one leaves the other; the last element taken off. No program in sight. -/
import Derived.Test.YteedngkbcbojjaaCut
import Derived.Maps.AppendAt
namespace Go.Proofs.Yteedngkbcbojjaa
open Go.ChangeShapes Go.WideShapes Go.ChangeAt Go.RowKit

/-- they do not lie in one block -/
def Apart (A C : Option Addr) : Prop := ∀ g : Nat, A = some ⟨g, 0, none⟩ → C ≠ some ⟨g, 0, none⟩
theorem Apart.symm {A C : Option Addr} (h : Apart A C) : Apart C A := fun g h1 h2 => h g h2 h1
theorem apart_none (A : Option Addr) : Apart A none := fun g _ h => by cases h
theorem none_apart (A : Option Addr) : Apart none A := fun g h => by cases h

section
variable {w w' : World} {B n c : Nat} {e : TypeId} {size : Nat} {A C : Option Addr} {vs : List Value} {k : IntKind} {xs : List Int}
/-- kept where only another block has turned -/
theorem OwnV.kept {m d : Nat} (h : OwnV w B e size A n c vs) (hg : w.grownBy w' (Value.slice C m d).ownBlock) (ha : Apart A C) (hC : C = none ∨ ∃ g, C = some ⟨g, 0, none⟩) : OwnV w' B e size A n c vs := by
  rcases h.2 with h2 | ⟨g, cap, cur, hv, hb, hh, r⟩
  · exact ⟨h.1, .inl h2⟩
  · refine ⟨h.1, .inr ⟨g, cap, cur, hv, hb, ?_, r⟩⟩
    rw [hg.block g (Array.getElem?_eq_some_iff.1 hh).1 ?_]
    · exact hh
    · rcases hC with rfl | ⟨g', rfl⟩
      · simp [Value.ownBlock]
      · injection hv with h1
        have := ha g h1
        simp only [Value.ownBlock]
        intro e
        injection e with e
        subst e
        exact this rfl
theorem OwnV.headC (h : OwnV w B e size A n c vs) : A = none ∨ ∃ g, A = some ⟨g, 0, none⟩ := by
  rcases h.2 with ⟨hv, _⟩ | ⟨g, cap, cur, hv, _⟩
  · injection hv with h1; exact .inl h1
  · injection hv with h1; exact .inr ⟨g, h1⟩
theorem OwnV.ltH {g : Nat} (h : OwnV w B e size (some ⟨g, 0, none⟩) n c vs) : B ≤ g ∧ g < w.heap.size := by
  rcases h.2 with ⟨hv, _⟩ | ⟨g', cap, cur, hv, hb, hh, r⟩
  · cases hv
  · injection hv with h1
    injection h1 with h1
    injection h1 with h1
    subst h1
    exact ⟨hb, (Array.getElem?_eq_some_iff.1 hh).1⟩
/-- a block that is yet to be made -/
theorem OwnV.new_apart (h : OwnV w B e size A n c vs) {g : Nat} (hg : w.heap.size ≤ g) : Apart A (some ⟨g, 0, none⟩) := by
  intro g' h1 h2
  subst h1
  injection h2 with h2
  injection h2 with h2
  have := h.ltH
  omega
/-- one cell of another block stored -/
theorem OwnV.far {g j : Nat} (h : OwnV w B e size A n c vs) (ha : Apart A (some ⟨g, 0, none⟩)) (u : Value) : OwnV (w.setCell ⟨g, j, none⟩ u) B e size A n c vs := by
  rcases h.2 with h2 | ⟨g', cap, cur, hv, hb, hh, r⟩
  · exact ⟨h.1, .inl h2⟩
  · refine ⟨h.1, .inr ⟨g', cap, cur, hv, hb, ?_, r⟩⟩
    rw [Below.heap_setCell w ⟨g, j, none⟩ u g' ?_]
    · exact hh
    · injection hv with h1
      have := ha g' h1
      simp only
      intro e
      subst e
      exact this rfl
/-- a change of blocks from B2 on leaves what lies ahead of them -/
theorem OwnV.passB {g B2 : Nat} (h : OwnV w B e size (some ⟨g, 0, none⟩) n c vs) (hg : g < B2) (hb : Below B2 w w') : OwnV w' B e size (some ⟨g, 0, none⟩) n c vs := by
  refine ⟨h.1, ?_⟩
  rcases h.2 with ⟨hv, _⟩ | ⟨g', cap, cur, hv, hb', hh, r⟩
  · cases hv
  · refine .inr ⟨g', cap, cur, hv, hb', ?_, r⟩
    injection hv with h1
    injection h1 with h1
    injection h1 with h1
    subst h1
    exact (hb.block g hg).trans hh
theorem Own.passB {g B2 : Nat} (h : Own w B e k (some ⟨g, 0, none⟩) n c xs) (hg : g < B2) (hb : Below B2 w w') : Own w' B e k (some ⟨g, 0, none⟩) n c xs := OwnV.passB h hg hb
theorem OwnV.apartB {g : Nat} (h : OwnV w B e size A n c vs) (hg : g < B) : Apart A (some ⟨g, 0, none⟩) := by
  intro g' h1 h2
  subst h1
  injection h2 with h2
  injection h2 with h2
  have := h.ltH
  omega
theorem Own.kept {m d : Nat} (h : Own w B e k A n c xs) (hg : w.grownBy w' (Value.slice C m d).ownBlock) (ha : Apart A C) (hC : C = none ∨ ∃ g, C = some ⟨g, 0, none⟩) : Own w' B e k A n c xs := OwnV.kept h hg ha hC
theorem Own.far {g j : Nat} (h : Own w B e k A n c xs) (ha : Apart A (some ⟨g, 0, none⟩)) (u : Value) : Own (w.setCell ⟨g, j, none⟩ u) B e k A n c xs := OwnV.far h ha u

/-- the last element taken off: x[:len-1] -/
theorem own_pop {P : Program} {t : TypeId} {bytes : Nat} (T : SliceOf P t e 1 bytes) {xs : List Int} {x : Int} (h : Own w B e k A (n + 1) c (xs ++ [x])) (l : Int) (hl : l = n) :
    (∀ w1 : World, (Instr.slice t (.slice A (n + 1) c) none (some (.int .i64 l)) none).run P w1 = .ok (.slice A n c) w1) ∧ Own w B e k A n c xs := by
  subst hl
  have hle := OwnV.le h
  have hlen := h.len
  obtain ⟨g, hA, hg1, hg2⟩ := OwnV.form h (by omega)
  subst hA
  refine ⟨fun w1 => ?_, ?_⟩
  · rw [run_slice_h w1 t _ _ _ (under_elem T) .i64 n (by omega) (by omega), sizeOf_run T]
    have hc : ¬ c = 0 := by omega
    simp [Result.andThen, sliced, hc, Addr.add]
  · rcases h.2 with ⟨hv, h0⟩ | ⟨g', cap, cur, hv, hb, hh, h1, h2, h3, h4⟩
    · cases hv
    · injection hv with e1 e2 e3
      refine ⟨by simp at hlen ⊢; omega, .inr ⟨g', cap, cur, by rw [e1, e3], hb, hh, by omega, h2, h3, ?_⟩⟩
      have := congrArg (List.take n) h4
      rw [List.take_take] at this
      simp only [Nat.mul_one] at this ⊢
      rw [show min n (n + 1) = n by omega] at this
      rw [this, List.map_append]
      have hl : (xs.map (Value.int k)).length = n := by simp at hlen ⊢; omega
      rw [List.take_append_of_le_length (by omega), List.take_of_length_le (by omega)]
end

/-- append of one element, and what else is known of where it lies -/
theorem wpList_pushVAt {P : Program} {w : World} {ops : Array Oper} {rest : List Oper} {o : Oper} {a : Act} {Q : Exit → Act → World → Prop} {t e : TypeId} {size bytes : Nat} (T : SliceOf P t e size bytes) (hgd : o.guard = none) (s x : Operand)
    (ho : o.op = .call { callee := .builtin .append, args := #[s, x], argTypes := #[t, t] }) {B : Nat} {A : Option Addr} {n c : Nat} {vs : List Value} (hs : a.eval s = .slice A n c) (hown : OwnV w B e size A n c vs)
    {g : Nat} (hx : a.eval x = .slice (some ⟨g, 0, none⟩) 1 1) {news : List Value} (hl : news.length = size) (hc : ∀ j u, news[j]? = some u → w.cell? ⟨g, j, none⟩ = some u) (h1 : ∀ u ∈ news, u.oneCell' = true)
    (hn : (n + 1) * bytes ≤ 140737488355328) (hB : B ≤ w.heap.size)
    (h : ∀ A' c' w', OwnV w' B e size A' (n + 1) c' (vs ++ news) → Below B w w' → w.grownBy w' (Value.slice A n c).ownBlock → (∀ g, A' = some ⟨g, 0, none⟩ → A = some ⟨g, 0, none⟩ ∨ w.heap.size ≤ g) → wpList P ops Q rest (a.put o.dst (.slice A' (n + 1) c')) w') : wpList P ops Q (o :: rest) a w := by
  obtain ⟨i, z, hi, hz, hsz, hby, hzs⟩ := T.info
  have hpb := T.posb
  have hn1 : n + 1 ≤ 140737488355328 := by
    have h2 : (n + 1) * 1 ≤ (n + 1) * bytes := Nat.mul_le_mul_left _ hpb
    omega
  refine wpList_append_own_at w hgd s x t ho B e i z size bytes T.ht hi hz hsz hby hzs T.pos (.slice A n c) n vs hs hown ⟨g, 0, none⟩ 1 1 news hx (by omega) (fun j u hu => by rw [add_zero_at]; exact hc j u hu) h1 (by unfold maxLen; omega) hn hB ?_
  intro v' w' hown' hg _ hat
  have hB' := OwnV.below_of_grown hown hg hB
  rcases hown'.2 with ⟨hv, h0⟩ | ⟨g', cap, cur, hv, _⟩
  · omega
  · subst hv
    refine h _ _ w' hown' hB' hg fun g1 e1 => ?_
    injection e1 with e1
    injection e1 with e1
    subst e1
    rcases hat with h2 | h2
    · rcases OwnV.headC hown with rfl | ⟨g2, rfl⟩
      · simp [Value.ownBlock] at h2
      · simp [Value.ownBlock] at h2; subst h2; exact .inl rfl
    · simp [Value.ownBlock] at h2; exact .inr (by omega)
theorem wpList_pushAt {P : Program} {w : World} {ops : Array Oper} {rest : List Oper} {o : Oper} {a : Act} {Q : Exit → Act → World → Prop} {t e : TypeId} {bytes : Nat} (T : SliceOf P t e 1 bytes) (hgd : o.guard = none) (s x : Operand)
    (ho : o.op = .call { callee := .builtin .append, args := #[s, x], argTypes := #[t, t] }) {B : Nat} {k : IntKind} {A : Option Addr} {n c : Nat} {xs : List Int} (hs : a.eval s = .slice A n c) (hown : Own w B e k A n c xs)
    {g : Nat} (hx : a.eval x = .slice (some ⟨g, 0, none⟩) 1 1) {y : Int} (hc : w.cell? ⟨g, 0, none⟩ = some (.int k y))
    (hn : (n + 1) * bytes ≤ 140737488355328) (hB : B ≤ w.heap.size)
    (h : ∀ A' c' w', Own w' B e k A' (n + 1) c' (xs ++ [y]) → Below B w w' → w.grownBy w' (Value.slice A n c).ownBlock → (∀ g, A' = some ⟨g, 0, none⟩ → A = some ⟨g, 0, none⟩ ∨ w.heap.size ≤ g) → wpList P ops Q rest (a.put o.dst (.slice A' (n + 1) c')) w') : wpList P ops Q (o :: rest) a w := by
  refine wpList_pushVAt T hgd s x ho hs hown hx (news := [.int k y]) rfl (fun j u hu => ?_) (fun u hu => ?_) hn hB fun A' c' w' h1 h2 h3 h4 => h A' c' w' ?_ h2 h3 h4
  · match j with
    | 0 => simp at hu; subst hu; exact hc
    | j + 1 => simp at hu
  · simp at hu; subst hu; rfl
  · unfold Own; rw [List.map_append]; exact h1
/-- append of one element at a step of a region that draws its order -/
theorem step_pushV {P : Program} {w : World} {ops : Array Oper} {o : Oper} {a : Act} {K : Act → World → Prop} {Q : Exit → Act → World → Prop} {E : Prop} {t e : TypeId} {size bytes : Nat} (T : SliceOf P t e size bytes) (hgd : o.guard = none) (s x : Operand)
    (ho : o.op = .call { callee := .builtin .append, args := #[s, x], argTypes := #[t, t] }) {B : Nat} {A : Option Addr} {n c : Nat} {vs : List Value} (hs : a.eval s = .slice A n c) (hown : OwnV w B e size A n c vs)
    {g : Nat} (hx : a.eval x = .slice (some ⟨g, 0, none⟩) 1 1) {news : List Value} (hl : news.length = size) (hc : ∀ j u, news[j]? = some u → w.cell? ⟨g, j, none⟩ = some u) (h1 : ∀ u ∈ news, u.oneCell' = true)
    (hn : (n + 1) * bytes ≤ 140737488355328) (hB : B ≤ w.heap.size)
    (h : ∀ A' c' w', OwnV w' B e size A' (n + 1) c' (vs ++ news) → Below B w w' → K (a.put o.dst (.slice A' (n + 1) c')) w') :
    if Region.wanted o (yielded ops a.tmps) = true then Oper.wp P o a w K Q else E := by
  have hw : Region.wanted o (yielded ops a.tmps) = true := by simp [Region.wanted, hgd]
  rw [if_pos hw]
  obtain ⟨i, z, hi, hz, hsz, hby, hzs⟩ := T.info
  have hpb := T.posb
  have hn1 : n + 1 ≤ 140737488355328 := by
    have h2 : (n + 1) * 1 ≤ (n + 1) * bytes := Nat.mul_le_mul_left _ hpb
    omega
  refine wp_append_own w s x t ho B e i z size bytes T.ht hi hz hsz hby hzs T.pos (.slice A n c) n vs hs hown ⟨g, 0, none⟩ 1 1 news hx (by omega) (fun j u hu => by rw [add_zero_at]; exact hc j u hu) h1 (by unfold maxLen; omega) hn hB ?_
  intro v' w' hown' hg _
  have hB' := OwnV.below_of_grown hown hg hB
  rcases hown'.2 with ⟨hv, h0⟩ | ⟨g', cap, cur, hv, _⟩
  · omega
  · subst hv
    exact h _ _ w' hown' hB'
theorem Apart.grow {A A2 C : Option Addr} {w : World} (h : Apart A C) (hC : ∀ g, C = some ⟨g, 0, none⟩ → g < w.heap.size) (hg : ∀ g, A2 = some ⟨g, 0, none⟩ → A = some ⟨g, 0, none⟩ ∨ w.heap.size ≤ g) : Apart A2 C := by
  intro g h1 h2
  rcases hg g h1 with h3 | h3
  · exact h g h3 h2
  · have := hC g h2; omega
end Go.Proofs.Yteedngkbcbojjaa
