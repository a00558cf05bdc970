/- A slice of fonts: how it lies in memory, and how it is read off the datum. -/
import Derived.Test.YtefajgfhdnhmmaaDoorFopen
namespace Go.Proofs.YtefajgfhdnhmmaaDoor
open Go.Joins Go.ChangeShapes Go.WideShapes Go.RowKit Go.Deep

structure Fd where
  em : Int
  G : Option Addr
  gn : Nat
  gc : Nat
  M : Option Addr
  mn : Nat
  mc : Nat
  L : Option Addr
  ln : Nat
  lc : Nat
  F : Option Addr
  fn : Nat
  fc : Nat
  S : Option Addr
  sn : Nat
  sc : Nat
  ms : List (Int × Int)
deriving Inhabited
/-- the font f lies at p -/
def FdAt (w : World) (B : Nat) (p : Addr) (f : Fd) : Prop :=
  w.cell? p = some (.int .i64 f.em) ∧ w.cell? (p.add 1) = some (.slice f.G f.gn f.gc) ∧ w.cell? (p.add 2) = some (.slice f.M f.mn f.mc) ∧ w.cell? (p.add 3) = some (.slice f.L f.ln f.lc) ∧
    w.cell? (p.add 4) = some (.slice f.F f.fn f.fc) ∧ w.cell? (p.add 5) = some (.slice f.S f.sn f.sc) ∧ MapsAt w B f.M f.mn f.ms
def fnth (fs : List Fd) (j : Nat) : Fd := fs.getD j default
/-- the slice value '.slice A n c' reads as the fonts fs -/
def FontsAt (w : World) (B : Nat) (A : Option Addr) (n : Nat) (fs : List Fd) : Prop :=
  fs.length = n ∧ (0 < n → ∃ ad, A = some ad ∧ ad.block < B ∧ ∀ j, j < n → FdAt w B (ad.add (j * 6)) (fnth fs j))
section
variable {w w' : World} {B n : Nat} {A : Option Addr} {fs : List Fd} {p : Addr} {f : Fd}
theorem FdAt.below (hp : p.block < B) (h : FdAt w B p f) (hb : Below B w w') : FdAt w' B p f := by
  obtain ⟨h0, h1, h2, h3, h4, h5, h6⟩ := h
  have go : ∀ k v, w.cell? (p.add k) = some v → w'.cell? (p.add k) = some v := fun k v h => (hb.cell (by rw [block_of_add]; exact hp)).trans h
  exact ⟨(hb.cell hp).trans h0, go _ _ h1, go _ _ h2, go _ _ h3, go _ _ h4, go _ _ h5, h6.below hb⟩
theorem FontsAt.below (h : FontsAt w B A n fs) (hb : Below B w w') : FontsAt w' B A n fs :=
  ⟨h.1, fun hn => by
    obtain ⟨ad, e, hB, hc⟩ := h.2 hn
    exact ⟨ad, e, hB, fun j hj => (hc j hj).below (by rw [block_of_add]; exact hB) hb⟩⟩
theorem MapsAt.up {B' : Nat} {M : Option Addr} {mn : Nat} {ms : List (Int × Int)} (h : MapsAt w B M mn ms) (hB : B ≤ B') : MapsAt w B' M mn ms :=
  ⟨h.1, fun hn => by
    obtain ⟨ad, e, h1, hc⟩ := h.2 hn
    exact ⟨ad, e, Nat.lt_of_lt_of_le h1 hB, hc⟩⟩
theorem FontsAt.later (h : FontsAt w w.heap.size A n fs) (hb : Below w.heap.size w w') : FontsAt w' w'.heap.size A n fs :=
  ⟨h.1, fun hn => by
    obtain ⟨ad, e, h1, hc⟩ := (h.below hb).2 hn
    refine ⟨ad, e, Nat.lt_of_lt_of_le h1 hb.size, fun j hj => ?_⟩
    obtain ⟨h0, h1, h2, h3, h4, h5, h6⟩ := hc j hj
    exact ⟨h0, h1, h2, h3, h4, h5, h6.up hb.size⟩⟩
end
section
variable {H : Type} {enc : TypeId × Value → H} {P : Program} {w : World} {base : Nat} {held : Bool}
theorem fonts_open {t e em : TypeId} {f0 f1 f2 f3 f4 f5 m0 m1 : Field} {e1 e3 e4 e5 : TypeId} {fuel : Nat} {v : Value} (ht : P.underlying t = some (.slice e)) (hs : P.underlying e = some (.struct #[f0, f1, f2, f3, f4, f5])) (hone : oneCellFields P #[f0, f1, f2, f3, f4, f5] = true) (hC : P.cellsOf e = 6)
    (u0 : P.underlying f0.type = some (.int .i64)) (u1 : P.underlying f1.type = some (.slice e1)) (u2 : P.underlying f2.type = some (.slice em)) (u3 : P.underlying f3.type = some (.slice e3)) (u4 : P.underlying f4.type = some (.slice e4)) (u5 : P.underlying f5.type = some (.slice e5))
    (he : P.underlying em = some (.struct #[m0, m1])) (ce : P.cellsOf em = 2) (o0 : m0.offset = 0) (o1 : m1.offset = 1) (c0 : P.cellsOf m0.type = 1) (c1 : P.cellsOf m1.type = 1) (w0 : P.underlying m0.type = some (.int .i32)) (w1 : P.underlying m1.type = some (.int .i64))
    (h : ∃ y, DataW.trod enc P w base (fun _ => true) held fuel t [v] = some y) : ∃ A n c fs, v = .slice A n c ∧ n ≤ 9223372036854775807 ∧ FontsAt w w.heap.size A n fs := by
  obtain ⟨y, h⟩ := h
  rcases open_slice ht h with ⟨h1, _⟩ | ⟨a, len, cap, m, n, D, Pl, h1, _, hl, hm, hmm, _, hall⟩
  · exact ⟨none, 0, 0, [], by simpa using h1, by omega, ⟨rfl, fun h => absurd h (by omega)⟩⟩
  · simp only [if_true] at hmm
    have each : ∀ j, j < len → ∃ f : Fd, FdAt w w.heap.size (a.add (j * 6)) f := by
      intro j hj
      obtain ⟨cs', h2, h3⟩ := hall j (by omega)
      rw [hC] at h2
      obtain ⟨_, hlen, hcell⟩ := World.cells?_some h2
      obtain ⟨xs, n', _, _, _, hxl, hg⟩ := DataW.trod_struct hs h3
      match cs', hlen with
      | [v0, v1, v2, v3, v4, v5], _ =>
        have at_ : ∀ j, j < 6 → ∃ y, xs[j]? = some y := fun j hj => ⟨xs[j]'(by simpa [hxl] using hj), List.getElem?_eq_getElem _⟩
        obtain ⟨p0, k0⟩ := hone_of hone 0 f0 rfl
        obtain ⟨p1, k1⟩ := hone_of hone 1 f1 rfl
        obtain ⟨p2, k2⟩ := hone_of hone 2 f2 rfl
        obtain ⟨p3, k3⟩ := hone_of hone 3 f3 rfl
        obtain ⟨p4, k4⟩ := hone_of hone 4 f4 rfl
        obtain ⟨p5, k5⟩ := hone_of hone 5 f5 rfl
        obtain ⟨y0, q0⟩ := at_ 0 (by omega)
        obtain ⟨y1, q1⟩ := at_ 1 (by omega)
        obtain ⟨y2, q2⟩ := at_ 2 (by omega)
        obtain ⟨y3, q3⟩ := at_ 3 (by omega)
        obtain ⟨y4, q4⟩ := at_ 4 (by omega)
        obtain ⟨y5, q5⟩ := at_ 5 (by omega)
        have g0 := hg 0 f0 rfl
        have g1 := hg 1 f1 rfl
        have g2 := hg 2 f2 rfl
        have g3 := hg 3 f3 rfl
        have g4 := hg 4 f4 rfl
        have g5 := hg 5 f5 rfl
        rw [q0] at g0
        rw [q1] at g1
        rw [q2] at g2
        rw [q3] at g3
        rw [q4] at g4
        rw [q5] at g5
        obtain ⟨em, rfl, _⟩ := int_form u0 ⟨y0, by simpa [Value.cells, p0, k0] using g0⟩
        obtain ⟨G, gn, gc, rfl⟩ := slice_form u1 ⟨y1, by simpa [Value.cells, p1, k1] using g1⟩
        obtain ⟨M, mn, mc, ms, rfl, _, hM, _⟩ := maps_open u2 he ce o0 o1 c0 c1 w0 w1 ⟨y2, by simpa [Value.cells, p2, k2] using g2⟩
        obtain ⟨L, ln, lc, rfl⟩ := slice_form u3 ⟨y3, by simpa [Value.cells, p3, k3] using g3⟩
        obtain ⟨F, fn, fc, rfl⟩ := slice_form u4 ⟨y4, by simpa [Value.cells, p4, k4] using g4⟩
        obtain ⟨S, sn, sc, rfl⟩ := slice_form u5 ⟨y5, by simpa [Value.cells, p5, k5] using g5⟩
        refine ⟨⟨em, G, gn, gc, M, mn, mc, L, ln, lc, F, fn, fc, S, sn, sc, ms⟩, ?_, ?_, ?_, ?_, ?_, ?_, hM⟩
        · have h9 := hcell 0 (by omega)
          rw [add_of_add] at h9
          simpa using h9
        · simpa using hcell 1 (by omega)
        · simpa using hcell 2 (by omega)
        · simpa using hcell 3 (by omega)
        · simpa using hcell 4 (by omega)
        · simpa using hcell 5 (by omega)
    obtain ⟨q, hq⟩ := choose_lt each
    have hn : ∀ j, j < len → fnth ((List.range len).map q) j = q j := by
      intro j hj
      unfold fnth
      simp [hj]
    refine ⟨some a, len, _, (List.range len).map q, by simpa using h1, by unfold maxLen at hm; omega, ⟨by simp, fun h0 => ⟨a, rfl, ?_, fun j hj => ?_⟩⟩⟩
    · have := block_lt_of_cell (hq 0 h0).1
      rwa [block_of_add] at this
    · rw [hn j hj]; exact hq j hj
end
end Go.Proofs.YtefajgfhdnhmmaaDoor
