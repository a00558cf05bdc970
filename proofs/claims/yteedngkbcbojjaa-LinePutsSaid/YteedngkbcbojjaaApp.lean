/- append of one slice of integers to one that the call itself made; the empty literal. No program in sight. -/
import Derived.Test.YteedngkbcbojjaaLib
import Derived.Deep.Upon
namespace Go.Proofs.Yteedngkbcbojjaa
open Go.ChangeShapes Go.WideShapes Go.ChangeAt Go.RowKit

section
variable {P : Program} {w : World} {o : Oper} {a : Act} {Q : Exit → Act → World → Prop} {t e : TypeId} {bytes : Nat}
theorem wp_appendI {K : Act → World → Prop} (T : SliceOf P t e 1 bytes) (s x : Operand)
    (ho : o.op = .call { callee := .builtin .append, args := #[s, x], argTypes := #[t, t] }) {B : Nat} {k : IntKind} {A : Option Addr} {n c : Nat} {xs : List Int} (hs : a.eval s = .slice A n c) (hown : Own w B e k A n c xs)
    {C : Option Addr} {m d : Nat} {ys : List Int} (hx : a.eval x = .slice C m d) (hy : IntsAt w w.heap.size k C m ys)
    (hn : (n + m) * bytes ≤ 140737488355328) (hB : B ≤ w.heap.size)
    (h : ∀ A' c' w', Own w' B e k A' (n + m) c' (xs ++ ys) → Below B w w' → K (a.put o.dst (.slice A' (n + m) c')) w') : o.wp P a w K Q := by
  obtain ⟨i, z, hi, hz, hsz, hby, hzs⟩ := T.info
  have hpb := T.posb
  have hn1 : n + m ≤ 140737488355328 := by
    have h2 : (n + m) * 1 ≤ (n + m) * bytes := Nat.mul_le_mul_left _ hpb
    omega
  cases C with
  | none =>
    obtain rfl : m = 0 := by
      rcases Nat.eq_zero_or_pos m with h0 | h0
      · exact h0
      · obtain ⟨_, he, _⟩ := hy.2 h0; cases he
    obtain rfl : ys = [] := List.eq_nil_of_length_eq_zero hy.1
    have hrun := run_append_nothing (P := P) w t t o.type e i T.ht hi A n c (OwnV.le hown) (.slice none 0 d) (Src.ofNil (size := i.size) (w := w) T.ht d)
    unfold Oper.wp execOp
    simp only [ho, resolve, invoke, builtin, Sem.run_bind, Sem.run_pure, Result.andThen_ok, List.map_toArray, List.map_cons, List.map_nil, hs, hx, hrun]
    have := h A c w (by simpa using hown) (Below.refl _ _)
    simp only [Nat.add_zero] at this
    exact this
  | some ad =>
    refine wp_append_own w s x t ho B e i z 1 bytes T.ht hi hz hsz hby hzs T.pos (.slice A n c) n _ hs hown ad m d (ys.map (Value.int k)) hx (by simp [hy.1]) (fun j u hu => ?_) (fun u hu => ?_) (by unfold maxLen; omega) hn hB ?_
    · have hj : j < ys.length := by
        have := (List.getElem?_eq_some_iff.1 hu).1
        simpa using this
      obtain ⟨ad', he, _, hc⟩ := hy.2 (by rw [← hy.1]; omega)
      obtain rfl : ad = ad' := Option.some.inj he
      rw [hc j (by rw [← hy.1]; exact hj), ← hu, List.getElem?_map, List.getElem?_eq_getElem hj, nth_eq hj]
      rfl
    · obtain ⟨y, _, rfl⟩ := List.mem_map.1 hu
      rfl
    · intro v' w' h1 h2 _
      obtain ⟨A', c', rfl⟩ : ∃ A' c', v' = .slice A' (n + m) c' := by
        rcases h1.2 with ⟨hv, h0⟩ | ⟨g, cap, cur, hv, _⟩
        · exact ⟨none, 0, by rw [hv, h0]⟩
        · exact ⟨_, _, hv⟩
      refine h A' c' w' ?_ (OwnV.below_of_grown hown h2 hB)
      unfold Own OwnV
      rw [List.map_append]
      exact h1
/-- at a plain list of operations -/
theorem wpList_appendI {ops : Array Oper} {rest : List Oper} (T : SliceOf P t e 1 bytes) (hgd : o.guard = none) (s x : Operand)
    (ho : o.op = .call { callee := .builtin .append, args := #[s, x], argTypes := #[t, t] }) {B : Nat} {k : IntKind} {A : Option Addr} {n c : Nat} {xs : List Int} (hs : a.eval s = .slice A n c) (hown : Own w B e k A n c xs)
    {C : Option Addr} {m d : Nat} {ys : List Int} (hx : a.eval x = .slice C m d) (hy : IntsAt w w.heap.size k C m ys)
    (hn : (n + m) * bytes ≤ 140737488355328) (hB : B ≤ w.heap.size)
    (h : ∀ A' c' w', Own w' B e k A' (n + m) c' (xs ++ ys) → Below B w w' → wpList P ops Q rest (a.put o.dst (.slice A' (n + m) c')) w') : wpList P ops Q (o :: rest) a w :=
  wpList_plain hgd fun _ hK => wp_appendI T s x ho hs hown hx hy hn hB fun A' c' w' h1 h2 => hK _ _ (h A' c' w' h1 h2)
/-- at a step of a region that draws its order -/
theorem step_appendI {ops : Array Oper} {K : Act → World → Prop} {E : Prop} (T : SliceOf P t e 1 bytes) (hgd : o.guard = none) (s x : Operand)
    (ho : o.op = .call { callee := .builtin .append, args := #[s, x], argTypes := #[t, t] }) {B : Nat} {k : IntKind} {A : Option Addr} {n c : Nat} {xs : List Int} (hs : a.eval s = .slice A n c) (hown : Own w B e k A n c xs)
    {C : Option Addr} {m d : Nat} {ys : List Int} (hx : a.eval x = .slice C m d) (hy : IntsAt w w.heap.size k C m ys)
    (hn : (n + m) * bytes ≤ 140737488355328) (hB : B ≤ w.heap.size)
    (h : ∀ A' c' w', Own w' B e k A' (n + m) c' (xs ++ ys) → Below B w w' → K (a.put o.dst (.slice A' (n + m) c')) w') :
    if Region.wanted o (yielded ops a.tmps) = true then Oper.wp P o a w K Q else E := by
  have hw : Region.wanted o (yielded ops a.tmps) = true := by simp [Region.wanted, hgd]
  rw [if_pos hw]
  exact wp_appendI T s x ho hs hown hx hy hn hB h
/-- the same, from an empty one -/
theorem step_appendE {ops : Array Oper} {K : Act → World → Prop} {E : Prop} (T : SliceOf P t e 1 bytes) (hgd : o.guard = none) (s x : Operand)
    (ho : o.op = .call { callee := .builtin .append, args := #[s, x], argTypes := #[t, t] }) {B : Nat} {k : IntKind} {A : Option Addr} {c : Nat} (hs : a.eval s = .slice A 0 c) (hown : Own w B e k A 0 c [])
    {C : Option Addr} {m d : Nat} {ys : List Int} (hx : a.eval x = .slice C m d) (hy : IntsAt w w.heap.size k C m ys)
    (hn : m * bytes ≤ 140737488355328) (hB : B ≤ w.heap.size)
    (h : ∀ A' c' w', Own w' B e k A' m c' ys → Below B w w' → K (a.put o.dst (.slice A' m c')) w') :
    if Region.wanted o (yielded ops a.tmps) = true then Oper.wp P o a w K Q else E := by
  refine step_appendI T hgd s x ho hs hown hx hy (by simpa using hn) hB fun A' c' w' h1 h2 => ?_
  rw [Nat.zero_add] at h1 ⊢
  exact h A' c' w' h1 h2
/-- the same, the sum under a name -/
theorem step_appendN {ops : Array Oper} {K : Act → World → Prop} {E : Prop} (T : SliceOf P t e 1 bytes) (hgd : o.guard = none) (s x : Operand)
    (ho : o.op = .call { callee := .builtin .append, args := #[s, x], argTypes := #[t, t] }) {B : Nat} {k : IntKind} {A : Option Addr} {n c : Nat} {xs : List Int} (hs : a.eval s = .slice A n c) (hown : Own w B e k A n c xs)
    {C : Option Addr} {m d : Nat} {ys : List Int} (hx : a.eval x = .slice C m d) (hy : IntsAt w w.heap.size k C m ys)
    (N : Nat) (hN : n + m = N) (hn : N * bytes ≤ 140737488355328) (hB : B ≤ w.heap.size)
    (h : ∀ A' c' w', Own w' B e k A' N c' (xs ++ ys) → Below B w w' → K (a.put o.dst (.slice A' N c')) w') :
    if Region.wanted o (yielded ops a.tmps) = true then Oper.wp P o a w K Q else E := by
  subst hN
  exact step_appendI T hgd s x ho hs hown hx hy hn hB h
theorem wpList_appendN {ops : Array Oper} {rest : List Oper} (T : SliceOf P t e 1 bytes) (hgd : o.guard = none) (s x : Operand)
    (ho : o.op = .call { callee := .builtin .append, args := #[s, x], argTypes := #[t, t] }) {B : Nat} {k : IntKind} {A : Option Addr} {n c : Nat} {xs : List Int} (hs : a.eval s = .slice A n c) (hown : Own w B e k A n c xs)
    {C : Option Addr} {m d : Nat} {ys : List Int} (hx : a.eval x = .slice C m d) (hy : IntsAt w w.heap.size k C m ys)
    (N : Nat) (hN : n + m = N) (hn : N * bytes ≤ 140737488355328) (hB : B ≤ w.heap.size)
    (h : ∀ A' c' w', Own w' B e k A' N c' (xs ++ ys) → Below B w w' → wpList P ops Q rest (a.put o.dst (.slice A' N c')) w') : wpList P ops Q (o :: rest) a w := by
  subst hN
  exact wpList_appendI T hgd s x ho hs hown hx hy hn hB h
end

theorem own_empty (w : World) (e : TypeId) (k : IntKind) (B : Nat) (hB : B ≤ w.heap.size) : Own (w.alloc (.cells #[] e)) B e k (some ⟨w.heap.size, 0, none⟩) 0 0 [] := by
  refine ⟨rfl, .inr ⟨w.heap.size, 0, #[], rfl, hB, heap_alloc_new w _, ?_⟩⟩
  simp [maxLen]
end Go.Proofs.Yteedngkbcbojjaa
