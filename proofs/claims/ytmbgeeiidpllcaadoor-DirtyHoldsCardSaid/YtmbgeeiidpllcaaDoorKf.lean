/- Chapter 19: is a class one of some? both ways; a sign's own class. -/
import Derived.Test.YtmbgeeiidpllcaaDoorKlaw
import Derived.Test.YtmbgeeiidpllcaaDoorOfs
import Derived.Test.YtmbgeeiidpllcaaDoorOwn2
import Derived.Test.YtmbgeeiidpllcaaDoorDs
namespace Go.Proofs.YtmbgeeiidpllcaaDoor
open Go.ChangeShapes Go.WideShapes Go.ChangeAt Go.RowKit
set_option maxRecDepth 100000
set_option linter.unusedSimpArgs false

theorem inL_true {l : List Int} {c : Int} {j : Nat} (hj : j < l.length) (h : nth l j = c) : inL l c = true := by
  unfold inL
  rw [List.contains_iff_mem, ← h, nth_eq hj]
  exact List.getElem_mem ..
theorem inL_false {l : List Int} {c : Int} (h : ∀ j, j < l.length → nth l j ≠ c) : inL l c = false := by
  unfold inL
  rw [Bool.eq_false_iff]
  intro h2
  obtain ⟨j, hj, e⟩ := List.getElem_of_mem (List.contains_iff_mem.1 h2)
  exact h j hj (by rw [nth_eq hj]; exact e)
set_option maxHeartbeats 1000000 in
theorem index19_any (A : Option Addr) (n cp : Nat) (l : List Int) (c : Int) (w : World) (hx : IntsAt w w.heap.size .i64 A n l) (hn : n ≤ 1000) :
    Calls Tryd.prog 83 #[.slice A n cp, .int .i64 c] w fun e w' => (∃ r : Int, e = .returned (.int .i64 r) ∧ decide (0 ≤ r) = inL l c) ∧ w = w' := by
  have HX : Shut _ := ⟨hx⟩
  have HLEN : Shut _ := ⟨hx.len⟩
  clear hx
  go_enter Tryd.func83, Tryd.ntmps83
  go_wp2_with fail
  go_loopg [5, 8] (n + 1) (fun gg v5 v8 wr => ∃ i : Nat, n - i < gg ∧ i ≤ n ∧ v8 = .int .i64 (i : Int) ∧ Shut (∀ j, j < i → nth l j ≠ c) ∧ wr = w)
  case atStart => exact ⟨0, by omega, by omega, rfl, ⟨fun j h => by omega⟩, rfl⟩
  case round =>
    obtain ⟨i, hg, hi, rfl, ALL, rfl⟩ := hrel
    by_cases hlt : i < n
    · obtain ⟨ad, rfl, hab, hcx⟩ := HX.out.2 (by omega)
      have hc := hcx i hlt
      have YES : Shut (nth l i = c → inL l c = true) := ⟨fun h => inL_true (by rw [HLEN.out]; exact hlt) h⟩
      have NO : Shut (nth l i ≠ c → ∀ j, j < i + 1 → nth l j ≠ c) := ⟨fun h j hj => by
        rcases Nat.lt_or_ge j i with h3 | h3
        · exact ALL.out j h3
        · obtain rfl : j = i := by omega
          exact h⟩
      generalize nth l i = x at *
      clear hcx hab
      cases hb : (c == x) with
      | true =>
        have E : Shut _ := ⟨YES.out (by simpa using (beq_iff_eq.1 hb).symm)⟩
        go_wp2_with fail
        go_ret
        exact ⟨⟨_, rfl, by rw [E.out]; simp⟩, rfl⟩
      | false =>
        have E : Shut _ := ⟨NO.out (fun h => by subst h; simp at hb)⟩
        go_wp2_with fail
        go_roundg (n - i)
        case measure => omega
        case rel => exact ⟨i + 1, by omega, by omega, by go_num, E, rfl⟩
    · obtain rfl : i = n := by omega
      have E : Shut (inL l c = false) := ⟨inL_false fun j hj => ALL.out j (by rw [← HLEN.out]; exact hj)⟩
      go_wp2_with fail
      go_ret
      exact ⟨⟨_, rfl, by rw [E.out]; decide⟩, rfl⟩
theorem contains19_any (A : Option Addr) (n cp : Nat) (l : List Int) (c : Int) (w : World) (hx : IntsAt w w.heap.size .i64 A n l) (hn : n ≤ 1000) :
    Calls Tryd.prog 62 #[.slice A n cp, .int .i64 c] w fun e w' => e = .returned (.bool (inL l c)) ∧ w = w' := by
  have C : Shut _ := ⟨index19_any A n cp l c w hx hn⟩
  clear hx
  go_enter Tryd.func62, Tryd.ntmps62
  go_wp2_with fail
  refine C.out.mono ?_
  rintro e w' ⟨⟨r, rfl, hr⟩, rfl⟩
  have E : Shut _ := ⟨hr⟩
  clear hr C
  go_wp2_with fail
  go_ret
  exact ⟨retb E.out, rfl⟩
theorem among_any (A : Option Addr) (n cp : Nat) (l : List Int) (c : Int) (w : World) (hx : IntsAt w w.heap.size .i64 A n l) (hn : n ≤ 1000) :
    Calls Tryd.prog 45 #[.int .i64 c, .slice A n cp] w fun e w' => e = .returned (.bool (inL l c)) ∧ w = w' := by
  have C : Shut _ := ⟨contains19_any A n cp l c w hx hn⟩
  clear hx
  go_enter Tryd.func45, Tryd.ntmps45
  go_wp2_with fail
  refine C.out.mono ?_
  rintro e w' ⟨rfl, rfl⟩
  go_wp2_with fail
  go_ret
  exact ⟨rfl, rfl⟩
set_option maxHeartbeats 1000000 in
theorem in19_any (A : Option Addr) (n cp : Nat) (l : List Int) (c : Int) (w : World) (hx : IntsAt w w.heap.size .i64 A n l) (hn : n ≤ 1000) :
    Calls Tryd.prog 53 #[.int .i64 c, .slice A n cp] w fun e w' => e = .returned (.bool (inL l c)) ∧ w = w' := by
  have HX : Shut _ := ⟨hx⟩
  have HLEN : Shut _ := ⟨hx.len⟩
  clear hx
  go_enter Tryd.func53, Tryd.ntmps53
  go_wp2_with fail
  go_loopg [5] (n + 1) (fun gg v3 wr => ∃ i : Nat, n - i < gg ∧ i ≤ n ∧ v3 = .int .i64 (i : Int) ∧ Shut (∀ j, j < i → nth l j ≠ c) ∧ wr = w)
  case atStart => exact ⟨0, by omega, by omega, rfl, ⟨fun j h => by omega⟩, rfl⟩
  case round =>
    obtain ⟨i, hg, hi, rfl, ALL, rfl⟩ := hrel
    by_cases hlt : i < n
    · obtain ⟨ad, rfl, hab, hcx⟩ := HX.out.2 (by omega)
      have hc := hcx i hlt
      have YES : Shut (nth l i = c → inL l c = true) := ⟨fun h => inL_true (by rw [HLEN.out]; exact hlt) h⟩
      have NO : Shut (nth l i ≠ c → ∀ j, j < i + 1 → nth l j ≠ c) := ⟨fun h j hj => by
        rcases Nat.lt_or_ge j i with h3 | h3
        · exact ALL.out j h3
        · obtain rfl : j = i := by omega
          exact h⟩
      generalize nth l i = x at *
      clear hcx hab
      cases hb : (x == c) with
      | true =>
        have E : Shut _ := ⟨YES.out (by simpa using hb)⟩
        go_wp2_with fail
        go_ret
        exact ⟨retb E.out.symm, rfl⟩
      | false =>
        have E : Shut _ := ⟨NO.out (by simpa using hb)⟩
        go_wp2_with fail
        go_roundg (n - i)
        case measure => omega
        case rel => exact ⟨i + 1, by omega, by omega, by go_num, E, rfl⟩
    · obtain rfl : i = n := by omega
      have E : Shut (inL l c = false) := ⟨inL_false fun j hj => ALL.out j (by rw [← HLEN.out]; exact hj)⟩
      go_wp2_with fail
      go_ret
      exact ⟨retb E.out.symm, rfl⟩
/-- of a list that was just made -/
theorem lit19 (l : List Int) (n : Nat) (hn : l.length = n) (h10 : n ≤ 10) (hw : ∀ x ∈ l, (Lit.int .i64 x).wf = true) (vs : Array Value) (hv : vs = (l.map (Value.int .i64)).toArray) (w0 : World) (t : TypeId) :
    IntsAt (w0.alloc (.cells vs t)) (w0.alloc (.cells vs t)).heap.size .i64 (some ⟨w0.heap.size, 0, none⟩) n l := (lit_in l n hn (by omega) hw vs hv).at_
theorem wfs (l : List Int) (h : l.all (fun x => decide (0 ≤ x ∧ x ≤ 100)) = true) : ∀ x ∈ l, (Lit.int .i64 x).wf = true := fun x hx => by
  have := of_decide_eq_true (List.all_eq_true.1 h x hx)
  have h8 : IntKind.i64.min ≤ x ∧ x ≤ IntKind.i64.max := by
    show (-9223372036854775808 : Int) ≤ _ ∧ _ ≤ (9223372036854775807 : Int)
    omega
  simpa [Lit.wf] using h8
theorem among_lit2 (x0 x1 : Int) (hx0 : 0 ≤ x0 ∧ x0 ≤ 100) (hx1 : 0 ≤ x1 ∧ x1 ≤ 100) (c : Int) (w0 : World) (t : TypeId) (N : Nat) (hN : w0.heap.size = N) :
    Calls Tryd.prog 45 #[.int .i64 c, .slice (some ⟨N, 0, none⟩) 2 2] (w0.alloc (.cells #[.int .i64 x0, .int .i64 x1] t)) fun e w' => e = .returned (.bool (inL [x0, x1] c)) ∧ w0.alloc (.cells #[.int .i64 x0, .int .i64 x1] t) = w' := by
  subst hN
  exact among_any _ 2 2 [x0, x1] c _ (lit19 [x0, x1] 2 rfl (by omega) (wfs _ (by simp; omega)) _ rfl w0 t) (by omega)
theorem among_lit3 (x0 x1 x2 : Int) (hx0 : 0 ≤ x0 ∧ x0 ≤ 100) (hx1 : 0 ≤ x1 ∧ x1 ≤ 100) (hx2 : 0 ≤ x2 ∧ x2 ≤ 100) (c : Int) (w0 : World) (t : TypeId) (N : Nat) (hN : w0.heap.size = N) :
    Calls Tryd.prog 45 #[.int .i64 c, .slice (some ⟨N, 0, none⟩) 3 3] (w0.alloc (.cells #[.int .i64 x0, .int .i64 x1, .int .i64 x2] t)) fun e w' => e = .returned (.bool (inL [x0, x1, x2] c)) ∧ w0.alloc (.cells #[.int .i64 x0, .int .i64 x1, .int .i64 x2] t) = w' := by
  subst hN
  exact among_any _ 3 3 [x0, x1, x2] c _ (lit19 [x0, x1, x2] 3 rfl (by omega) (wfs _ (by simp; omega)) _ rfl w0 t) (by omega)
theorem among_lit4 (x0 x1 x2 x3 : Int) (hx0 : 0 ≤ x0 ∧ x0 ≤ 100) (hx1 : 0 ≤ x1 ∧ x1 ≤ 100) (hx2 : 0 ≤ x2 ∧ x2 ≤ 100) (hx3 : 0 ≤ x3 ∧ x3 ≤ 100) (c : Int) (w0 : World) (t : TypeId) (N : Nat) (hN : w0.heap.size = N) :
    Calls Tryd.prog 45 #[.int .i64 c, .slice (some ⟨N, 0, none⟩) 4 4] (w0.alloc (.cells #[.int .i64 x0, .int .i64 x1, .int .i64 x2, .int .i64 x3] t)) fun e w' => e = .returned (.bool (inL [x0, x1, x2, x3] c)) ∧ w0.alloc (.cells #[.int .i64 x0, .int .i64 x1, .int .i64 x2, .int .i64 x3] t) = w' := by
  subst hN
  exact among_any _ 4 4 [x0, x1, x2, x3] c _ (lit19 [x0, x1, x2, x3] 4 rfl (by omega) (wfs _ (by simp; omega)) _ rfl w0 t) (by omega)
theorem among_lit5 (x0 x1 x2 x3 x4 : Int) (hx0 : 0 ≤ x0 ∧ x0 ≤ 100) (hx1 : 0 ≤ x1 ∧ x1 ≤ 100) (hx2 : 0 ≤ x2 ∧ x2 ≤ 100) (hx3 : 0 ≤ x3 ∧ x3 ≤ 100) (hx4 : 0 ≤ x4 ∧ x4 ≤ 100) (c : Int) (w0 : World) (t : TypeId) (N : Nat) (hN : w0.heap.size = N) :
    Calls Tryd.prog 45 #[.int .i64 c, .slice (some ⟨N, 0, none⟩) 5 5] (w0.alloc (.cells #[.int .i64 x0, .int .i64 x1, .int .i64 x2, .int .i64 x3, .int .i64 x4] t)) fun e w' => e = .returned (.bool (inL [x0, x1, x2, x3, x4] c)) ∧ w0.alloc (.cells #[.int .i64 x0, .int .i64 x1, .int .i64 x2, .int .i64 x3, .int .i64 x4] t) = w' := by
  subst hN
  exact among_any _ 5 5 [x0, x1, x2, x3, x4] c _ (lit19 [x0, x1, x2, x3, x4] 5 rfl (by omega) (wfs _ (by simp; omega)) _ rfl w0 t) (by omega)
theorem in_lit2 (x0 x1 : Int) (hx0 : 0 ≤ x0 ∧ x0 ≤ 100) (hx1 : 0 ≤ x1 ∧ x1 ≤ 100) (c : Int) (w0 : World) (t : TypeId) (N : Nat) (hN : w0.heap.size = N) :
    Calls Tryd.prog 53 #[.int .i64 c, .slice (some ⟨N, 0, none⟩) 2 2] (w0.alloc (.cells #[.int .i64 x0, .int .i64 x1] t)) fun e w' => e = .returned (.bool (inL [x0, x1] c)) ∧ w0.alloc (.cells #[.int .i64 x0, .int .i64 x1] t) = w' := by
  subst hN
  exact in19_any _ 2 2 [x0, x1] c _ (lit19 [x0, x1] 2 rfl (by omega) (wfs _ (by simp; omega)) _ rfl w0 t) (by omega)
theorem in_lit3 (x0 x1 x2 : Int) (hx0 : 0 ≤ x0 ∧ x0 ≤ 100) (hx1 : 0 ≤ x1 ∧ x1 ≤ 100) (hx2 : 0 ≤ x2 ∧ x2 ≤ 100) (c : Int) (w0 : World) (t : TypeId) (N : Nat) (hN : w0.heap.size = N) :
    Calls Tryd.prog 53 #[.int .i64 c, .slice (some ⟨N, 0, none⟩) 3 3] (w0.alloc (.cells #[.int .i64 x0, .int .i64 x1, .int .i64 x2] t)) fun e w' => e = .returned (.bool (inL [x0, x1, x2] c)) ∧ w0.alloc (.cells #[.int .i64 x0, .int .i64 x1, .int .i64 x2] t) = w' := by
  subst hN
  exact in19_any _ 3 3 [x0, x1, x2] c _ (lit19 [x0, x1, x2] 3 rfl (by omega) (wfs _ (by simp; omega)) _ rfl w0 t) (by omega)
theorem in_lit4 (x0 x1 x2 x3 : Int) (hx0 : 0 ≤ x0 ∧ x0 ≤ 100) (hx1 : 0 ≤ x1 ∧ x1 ≤ 100) (hx2 : 0 ≤ x2 ∧ x2 ≤ 100) (hx3 : 0 ≤ x3 ∧ x3 ≤ 100) (c : Int) (w0 : World) (t : TypeId) (N : Nat) (hN : w0.heap.size = N) :
    Calls Tryd.prog 53 #[.int .i64 c, .slice (some ⟨N, 0, none⟩) 4 4] (w0.alloc (.cells #[.int .i64 x0, .int .i64 x1, .int .i64 x2, .int .i64 x3] t)) fun e w' => e = .returned (.bool (inL [x0, x1, x2, x3] c)) ∧ w0.alloc (.cells #[.int .i64 x0, .int .i64 x1, .int .i64 x2, .int .i64 x3] t) = w' := by
  subst hN
  exact in19_any _ 4 4 [x0, x1, x2, x3] c _ (lit19 [x0, x1, x2, x3] 4 rfl (by omega) (wfs _ (by simp; omega)) _ rfl w0 t) (by omega)
theorem in_lit5 (x0 x1 x2 x3 x4 : Int) (hx0 : 0 ≤ x0 ∧ x0 ≤ 100) (hx1 : 0 ≤ x1 ∧ x1 ≤ 100) (hx2 : 0 ≤ x2 ∧ x2 ≤ 100) (hx3 : 0 ≤ x3 ∧ x3 ≤ 100) (hx4 : 0 ≤ x4 ∧ x4 ≤ 100) (c : Int) (w0 : World) (t : TypeId) (N : Nat) (hN : w0.heap.size = N) :
    Calls Tryd.prog 53 #[.int .i64 c, .slice (some ⟨N, 0, none⟩) 5 5] (w0.alloc (.cells #[.int .i64 x0, .int .i64 x1, .int .i64 x2, .int .i64 x3, .int .i64 x4] t)) fun e w' => e = .returned (.bool (inL [x0, x1, x2, x3, x4] c)) ∧ w0.alloc (.cells #[.int .i64 x0, .int .i64 x1, .int .i64 x2, .int .i64 x3, .int .i64 x4] t) = w' := by
  subst hN
  exact in19_any _ 5 5 [x0, x1, x2, x3, x4] c _ (lit19 [x0, x1, x2, x3, x4] 5 rfl (by omega) (wfs _ (by simp; omega)) _ rfl w0 t) (by omega)
theorem brk_le (r : Int) : 0 ≤ (propOf r).brk ∧ (propOf r).brk ≤ 34 := by
  have h : tab.all (fun x => decide (0 ≤ x.2.2.brk ∧ x.2.2.brk ≤ 34)) = true := by decide +kernel
  cases hl : look tab r with
  | none => rw [propOf_none hl]; decide
  | some p =>
    obtain ⟨lo, hi, h1, _, _⟩ := look_mem _ _ _ hl
    have := of_decide_eq_true (List.all_eq_true.1 h _ h1)
    rw [propOf_some hl]
    split <;> first | exact this | simp
theorem bk_le (xs : List Int) (i : Nat) : 0 ≤ bk xs i ∧ bk xs i ≤ 34 := brk_le _
theorem cls_le (xs : List Int) : ∀ i, 0 ≤ cls xs i ∧ cls xs i ≤ 34
  | 0 => by
    have := bk_le xs 0
    simp only [cls]; split <;> omega
  | i + 1 => by
    have h1 := bk_le xs (i + 1)
    have h2 := cls_le xs i
    simp only [cls]
    split
    · split <;> omega
    · omega
theorem own19_any (r : Int) (h1 : -2147483648 ≤ r) (h2 : r ≤ 2147483647) (w : World) :
    Calls Tryd.prog 51 #[.int .i32 r] w fun e w' => e = .returned (.int .i64 (propOf r).brk) ∧ Below w.heap.size w w' := by
  have O : Shut _ := ⟨rOf_lit r h1 h2 w⟩
  generalize propOf r = q at *
  clear h1 h2
  go_enter Tryd.func51, Tryd.ntmps51
  go_wp2_with fail
  refine O.out.mono ?_
  rintro e w1 ⟨rfl, hb1⟩
  go_wp2_with fail
  go_ret
  exact ⟨rfl, hb1⟩
theorem mkB_eq (c : Int) : mkB c = (c == 8 || c == 9) := by
  unfold mkB inL
  rw [Bool.eq_iff_iff]
  simp
theorem marks19_any (c : Int) (w : World) : Calls Tryd.prog 52 #[.int .i64 c] w fun e w' => e = .returned (.bool (mkB c)) ∧ w = w' := by
  rw [mkB_eq]
  cases h : (c == 8) with
  | true =>
    go_enter Tryd.func52, Tryd.ntmps52
    go_wp2_with fail
    go_ret
    exact ⟨rfl, rfl⟩
  | false =>
    go_enter Tryd.func52, Tryd.ntmps52
    go_wp2_with fail
    go_ret
    exact ⟨rfl, rfl⟩
end Go.Proofs.YtmbgeeiidpllcaaDoor
