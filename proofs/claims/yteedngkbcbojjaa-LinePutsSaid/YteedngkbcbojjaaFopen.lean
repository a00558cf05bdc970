/- A font that came in by value: its fields, and its maps as a list. -/
import Derived.Test.YteedngkbcbojjaaFontl
import Derived.Lib.SmallJoins
import Derived.Deep.SlicePairs
namespace Go.Proofs.Yteedngkbcbojjaa
open Go.Joins Go.ChangeShapes Go.WideShapes Go.RowKit Go.Deep

theorem six {cs : Array Value} (h : cs.size = 6) : ∃ a b c d e f, cs = #[a, b, c, d, e, f] := by
  obtain ⟨l⟩ := cs
  match l, h with
  | [a, b, c, d, e, f], _ => exact ⟨a, b, c, d, e, f, rfl⟩
section
variable {H : Type} {enc : TypeId × Value → H} {P : Program} {w : World} {base : Nat} {spare : Nat → Bool} {held : Bool}
theorem open_six {r : Reach} {b0 : Nat} {t : TypeId} {f0 f1 f2 f3 f4 f5 : Field} {v : Value} {d : DataW H} {p : List MemPlace} (hs : P.underlying t = some (.struct #[f0, f1, f2, f3, f4, f5])) (hone : oneCellFields P #[f0, f1, f2, f3, f4, f5] = true) (hC : P.cellsOf t = 6)
    (hv : Value.okWide P w r b0 t v) (h : DataW.Trod enc P w base spare held t v d p) :
    ∃ (v0 v1 v2 v3 v4 v5 : Value) (n : Nat), v = .agg #[v0, v1, v2, v3, v4, v5] ∧ (∃ y, DataW.trod enc P w base spare held n f0.type [v0] = some y) ∧ (∃ y, DataW.trod enc P w base spare held n f1.type [v1] = some y) ∧ (∃ y, DataW.trod enc P w base spare held n f2.type [v2] = some y) ∧
      (∃ y, DataW.trod enc P w base spare held n f3.type [v3] = some y) ∧ (∃ y, DataW.trod enc P w base spare held n f4.type [v4] = some y) ∧ (∃ y, DataW.trod enc P w base spare held n f5.type [v5] = some y) := by
  obtain ⟨cs, rfl, hsz⟩ := okWide_struct hs hv
  obtain ⟨v0, v1, v2, v3, v4, v5, rfl⟩ := six (hsz.trans hC)
  obtain ⟨fuel, hf⟩ := h
  obtain ⟨xs, n, _, _, _, hlen, hg⟩ := DataW.trod_struct hs hf
  have at_ : ∀ j, j < 6 → ∃ y, xs[j]? = some y := fun j hj => ⟨xs[j]'(by simpa [hlen] using hj), List.getElem?_eq_getElem _⟩
  obtain ⟨o0, k0⟩ := hone_of hone 0 f0 rfl
  obtain ⟨o1, k1⟩ := hone_of hone 1 f1 rfl
  obtain ⟨o2, k2⟩ := hone_of hone 2 f2 rfl
  obtain ⟨o3, k3⟩ := hone_of hone 3 f3 rfl
  obtain ⟨o4, k4⟩ := hone_of hone 4 f4 rfl
  obtain ⟨o5, k5⟩ := hone_of hone 5 f5 rfl
  obtain ⟨y0, e0⟩ := at_ 0 (by omega)
  obtain ⟨y1, e1⟩ := at_ 1 (by omega)
  obtain ⟨y2, e2⟩ := at_ 2 (by omega)
  obtain ⟨y3, e3⟩ := at_ 3 (by omega)
  obtain ⟨y4, e4⟩ := at_ 4 (by omega)
  obtain ⟨y5, e5⟩ := at_ 5 (by omega)
  have g0 := hg 0 f0 rfl
  have g1 := hg 1 f1 rfl
  have g2 := hg 2 f2 rfl
  have g3 := hg 3 f3 rfl
  have g4 := hg 4 f4 rfl
  have g5 := hg 5 f5 rfl
  rw [e0] at g0
  rw [e1] at g1
  rw [e2] at g2
  rw [e3] at g3
  rw [e4] at g4
  rw [e5] at g5
  exact ⟨v0, v1, v2, v3, v4, v5, n, rfl, ⟨y0, by simpa [Value.cells, o0, k0] using g0⟩, ⟨y1, by simpa [Value.cells, o1, k1] using g1⟩, ⟨y2, by simpa [Value.cells, o2, k2] using g2⟩, ⟨y3, by simpa [Value.cells, o3, k3] using g3⟩, ⟨y4, by simpa [Value.cells, o4, k4] using g4⟩, ⟨y5, by simpa [Value.cells, o5, k5] using g5⟩⟩
theorem slice_form {t e : TypeId} {fuel : Nat} {v : Value} (ht : P.underlying t = some (.slice e)) (h : ∃ y, DataW.trod enc P w base spare held fuel t [v] = some y) : ∃ A n c, v = .slice A n c := by
  obtain ⟨y, h⟩ := h
  rcases open_slice ht h with ⟨h1, _⟩ | ⟨a, len, cap, m, n, D, Pl, h1, _⟩
  · exact ⟨none, 0, 0, by simpa using h1⟩
  · exact ⟨some a, len, cap, by simpa using h1⟩
theorem int_form {t : TypeId} {fuel : Nat} {v : Value} {k : IntKind} (ht : P.underlying t = some (.int k)) (h : ∃ y, DataW.trod enc P w base spare held fuel t [v] = some y) : ∃ i, v = .int k i ∧ (Lit.int k i).wf = true := by
  obtain ⟨y, h⟩ := h
  obtain ⟨i, h1, _, h3⟩ := DataW.trod_int ht h
  exact ⟨i, by simpa using h1, h3⟩
theorem maps_open {t e : TypeId} {f0 f1 : Field} {fuel : Nat} {v : Value} (ht : P.underlying t = some (.slice e)) (he : P.underlying e = some (.struct #[f0, f1]))
    (ce : P.cellsOf e = 2) (o0 : f0.offset = 0) (o1 : f1.offset = 1) (c0 : P.cellsOf f0.type = 1) (c1 : P.cellsOf f1.type = 1) (u0 : P.underlying f0.type = some (.int .i32)) (u1 : P.underlying f1.type = some (.int .i64))
    (h : ∃ y, DataW.trod enc P w base (fun _ => true) held fuel t [v] = some y) : ∃ A n c ms, v = .slice A n c ∧ n ≤ 9223372036854775807 ∧ MapsAt w w.heap.size A n ms ∧ ∀ j, j < n → (Lit.int .i32 (mnth ms j).1).wf = true := by
  obtain ⟨y, h⟩ := h
  rcases open_slice_pairs ht he ce o0 o1 c0 c1 h with ⟨h1, _⟩ | ⟨a, len, cap, m, n, V0, V1, D0, D1, P0, P1, h1, _, hl, hm, hmm, _, hall⟩
  · exact ⟨none, 0, 0, [], by simpa using h1, by omega, ⟨rfl, fun h => absurd h (by omega)⟩, fun j h => absurd h (by omega)⟩
  · simp only [if_true] at hmm
    subst hmm
    have each : ∀ j, j < len → ∃ q : Int × Int, w.cell? (a.add (j * 2)) = some (.int .i32 q.1) ∧ w.cell? (a.add (j * 2 + 1)) = some (.int .i64 q.2) ∧ (Lit.int .i32 q.1).wf = true := by
      intro j hj
      obtain ⟨g0, g1, g2, g3⟩ := hall j (by omega)
      obtain ⟨i0, k0, _, w0⟩ := DataW.trod_int u0 g2
      obtain ⟨i1, k1, _, _⟩ := DataW.trod_int u1 g3
      have k0 : V0 j = .int .i32 i0 := by simpa using k0
      have k1 : V1 j = .int .i64 i1 := by simpa using k1
      rw [k0] at g0
      rw [k1] at g1
      exact ⟨(i0, i1), g0, g1, w0⟩
    obtain ⟨q, hq⟩ := choose_lt each
    have hn : ∀ j, j < len → mnth ((List.range len).map q) j = q j := by
      intro j hj
      unfold mnth
      simp [hj]
    refine ⟨some a, len, _, (List.range len).map q, by simpa using h1, by unfold maxLen at hm; omega, ⟨by simp, fun h0 => ⟨a, rfl, ?_, fun j hj => ?_⟩⟩, fun j hj => ?_⟩
    · have := block_lt_of_cell (hq 0 h0).1
      rwa [block_of_add] at this
    · rw [hn j hj]; exact ⟨(hq j hj).1, (hq j hj).2.1⟩
    · rw [hn j hj]; exact (hq j hj).2.2
end
end Go.Proofs.Yteedngkbcbojjaa
