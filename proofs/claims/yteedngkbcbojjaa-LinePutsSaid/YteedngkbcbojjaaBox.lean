/- Chapter 45: boxes and their glyphs: how they lie in memory, and how they are read off the datum. -/
import Derived.Test.YteedngkbcbojjaaFopen
import Derived.Test.YteedngkbcbojjaaPutl
namespace Go.Proofs.Yteedngkbcbojjaa
open Go.Joins Go.ChangeShapes Go.WideShapes Go.RowKit Go.Deep

/-- the glyph g lies at p -/
def PutAt (w : World) (p : Addr) (g : PutD) : Prop := w.cell? p = some (.int .i64 g.font) ∧ w.cell? (p.add 1) = some (.int .i64 g.id) ∧ w.cell? (p.add 2) = some (.int .i64 g.x) ∧ w.cell? (p.add 3) = some (.int .i64 g.y)
def PutsAt (w : World) (B : Nat) (G : Option Addr) (n : Nat) (gs : List PutD) : Prop :=
  gs.length = n ∧ (0 < n → ∃ ad, G = some ad ∧ ad.block < B ∧ ∀ j, j < n → PutAt w (ad.add (j * 4)) (pnth gs j))
/-- the box b lies at p -/
def BoxAt (w : World) (B : Nat) (p : Addr) (b : BoxD) : Prop :=
  w.cell? p = some (.int .i64 b.f) ∧ w.cell? (p.add 1) = some (.int .i64 b.t) ∧ w.cell? (p.add 2) = some (.int .i64 b.lv) ∧ w.cell? (p.add 3) = some (.int .i64 b.x) ∧ w.cell? (p.add 4) = some (.int .i64 b.wd) ∧
    ∃ (G : Option Addr) (gc : Nat), w.cell? (p.add 5) = some (.slice G b.gs.length gc) ∧ PutsAt w B G b.gs.length b.gs
def BoxesAt (w : World) (B : Nat) (A : Option Addr) (n : Nat) (bs : List BoxD) : Prop :=
  bs.length = n ∧ (0 < n → ∃ ad, A = some ad ∧ ad.block < B ∧ ∀ j, j < n → BoxAt w B (ad.add (j * 6)) (bnth bs j))
section
variable {w w' : World} {B n : Nat} {A G : Option Addr} {bs : List BoxD} {gs : List PutD} {p : Addr} {b : BoxD} {g : PutD}
theorem PutAt.keep (h : PutAt w p g) (hk : ∀ q : Addr, q.block = p.block → w'.cell? q = w.cell? q) : PutAt w' p g := by
  obtain ⟨h0, h1, h2, h3⟩ := h
  exact ⟨(hk _ rfl).trans h0, (hk _ (block_of_add _ _)).trans h1, (hk _ (block_of_add _ _)).trans h2, (hk _ (block_of_add _ _)).trans h3⟩
theorem PutsAt.later (h : PutsAt w B G n gs) (hb : Below B w w') {B' : Nat} (hB : B ≤ B') : PutsAt w' B' G n gs :=
  ⟨h.1, fun hn => by
    obtain ⟨ad, e, h1, hc⟩ := h.2 hn
    refine ⟨ad, e, by omega, fun j hj => (hc j hj).keep fun q hq => hb.cell ?_⟩
    rw [block_of_add] at hq
    omega⟩
theorem BoxAt.later (h : BoxAt w B p b) (hp : p.block < B) (hb : Below B w w') {B' : Nat} (hB : B ≤ B') : BoxAt w' B' p b := by
  obtain ⟨h0, h1, h2, h3, h4, G, gc, h5, h6⟩ := h
  have go : ∀ k v, w.cell? (p.add k) = some v → w'.cell? (p.add k) = some v := fun k v h => (hb.cell (by rw [block_of_add]; exact hp)).trans h
  exact ⟨(hb.cell hp).trans h0, go _ _ h1, go _ _ h2, go _ _ h3, go _ _ h4, G, gc, go _ _ h5, h6.later hb hB⟩
theorem BoxesAt.later (h : BoxesAt w w.heap.size A n bs) (hb : Below w.heap.size w w') : BoxesAt w' w'.heap.size A n bs :=
  ⟨h.1, fun hn => by
    obtain ⟨ad, e, h1, hc⟩ := h.2 hn
    refine ⟨ad, e, Nat.lt_of_lt_of_le h1 hb.size, fun j hj => (hc j hj).later (by rw [block_of_add]; exact h1) hb hb.size⟩⟩
end
section
variable {H : Type} {enc : TypeId × Value → H} {P : Program} {w : World} {base : Nat} {held : Bool}
theorem puts_open {t e : TypeId} {f0 f1 f2 f3 : Field} {fuel : Nat} {v : Value} (ht : P.underlying t = some (.slice e)) (hs : P.underlying e = some (.struct #[f0, f1, f2, f3])) (hone : oneCellFields P #[f0, f1, f2, f3] = true) (hC : P.cellsOf e = 4)
    (u0 : P.underlying f0.type = some (.int .i64)) (u1 : P.underlying f1.type = some (.int .i64)) (u2 : P.underlying f2.type = some (.int .i64)) (u3 : P.underlying f3.type = some (.int .i64))
    (h : ∃ y, DataW.trod enc P w base (fun _ => true) held fuel t [v] = some y) : ∃ G c gs, v = .slice G gs.length c ∧ PutsAt w w.heap.size G gs.length gs := by
  obtain ⟨y, h⟩ := h
  rcases open_slice ht h with ⟨h1, _⟩ | ⟨a, len, cap, m, n, D, Pl, h1, _, hl, hm, hmm, _, hall⟩
  · exact ⟨none, 0, [], by simpa using h1, ⟨rfl, fun h => absurd h (by simp)⟩⟩
  · simp only [if_true] at hmm
    have each : ∀ j, j < len → ∃ g : PutD, PutAt w (a.add (j * 4)) g := by
      intro j hj
      obtain ⟨cs', h2, h3⟩ := hall j (by omega)
      rw [hC] at h2
      obtain ⟨_, hlen, hcell⟩ := World.cells?_some h2
      obtain ⟨xs, n', _, _, _, hxl, hg⟩ := DataW.trod_struct hs h3
      match cs', hlen with
      | [v0, v1, v2, v3], _ =>
        have at_ : ∀ j, j < 4 → ∃ y, xs[j]? = some y := fun j hj => ⟨xs[j]'(by simpa [hxl] using hj), List.getElem?_eq_getElem _⟩
        obtain ⟨p0, k0⟩ := hone_of hone 0 f0 rfl
        obtain ⟨p1, k1⟩ := hone_of hone 1 f1 rfl
        obtain ⟨p2, k2⟩ := hone_of hone 2 f2 rfl
        obtain ⟨p3, k3⟩ := hone_of hone 3 f3 rfl
        obtain ⟨y0, q0⟩ := at_ 0 (by omega)
        obtain ⟨y1, q1⟩ := at_ 1 (by omega)
        obtain ⟨y2, q2⟩ := at_ 2 (by omega)
        obtain ⟨y3, q3⟩ := at_ 3 (by omega)
        have g0 := hg 0 f0 rfl
        have g1 := hg 1 f1 rfl
        have g2 := hg 2 f2 rfl
        have g3 := hg 3 f3 rfl
        rw [q0] at g0
        rw [q1] at g1
        rw [q2] at g2
        rw [q3] at g3
        obtain ⟨i0, rfl, _⟩ := int_form u0 ⟨y0, by simpa [Value.cells, p0, k0] using g0⟩
        obtain ⟨i1, rfl, _⟩ := int_form u1 ⟨y1, by simpa [Value.cells, p1, k1] using g1⟩
        obtain ⟨i2, rfl, _⟩ := int_form u2 ⟨y2, by simpa [Value.cells, p2, k2] using g2⟩
        obtain ⟨i3, rfl, _⟩ := int_form u3 ⟨y3, by simpa [Value.cells, p3, k3] using g3⟩
        refine ⟨⟨i0, i1, i2, i3⟩, ?_, ?_, ?_, ?_⟩
        · have h9 := hcell 0 (by omega)
          rw [add_of_add] at h9
          simpa using h9
        · simpa using hcell 1 (by omega)
        · simpa using hcell 2 (by omega)
        · simpa using hcell 3 (by omega)
    obtain ⟨q, hq⟩ := choose_lt each
    have hn : ∀ j, j < len → pnth ((List.range len).map q) j = q j := by
      intro j hj
      unfold pnth
      simp [hj]
    refine ⟨some a, _, (List.range len).map q, by simpa using h1, ⟨rfl, fun h0 => ⟨a, rfl, ?_, fun j hj => ?_⟩⟩⟩
    · have := block_lt_of_cell (hq 0 (by simpa using h0)).1
      rwa [block_of_add] at this
    · have hj : j < len := by simpa using hj
      rw [hn j hj]; exact hq j hj
theorem boxes_open {t e tg eg : TypeId} {f0 f1 f2 f3 f4 f5 g0 g1 g2 g3 : Field} {fuel : Nat} {v : Value} (ht : P.underlying t = some (.slice e)) (hs : P.underlying e = some (.struct #[f0, f1, f2, f3, f4, f5])) (hone : oneCellFields P #[f0, f1, f2, f3, f4, f5] = true) (hC : P.cellsOf e = 6)
    (u0 : P.underlying f0.type = some (.int .i64)) (u1 : P.underlying f1.type = some (.int .i64)) (u2 : P.underlying f2.type = some (.int .i64)) (u3 : P.underlying f3.type = some (.int .i64)) (u4 : P.underlying f4.type = some (.int .i64)) (hg5 : f5.type = tg)
    (htg : P.underlying tg = some (.slice eg)) (hsg : P.underlying eg = some (.struct #[g0, g1, g2, g3])) (honeg : oneCellFields P #[g0, g1, g2, g3] = true) (hCg : P.cellsOf eg = 4)
    (x0 : P.underlying g0.type = some (.int .i64)) (x1 : P.underlying g1.type = some (.int .i64)) (x2 : P.underlying g2.type = some (.int .i64)) (x3 : P.underlying g3.type = some (.int .i64))
    (h : ∃ y, DataW.trod enc P w base (fun _ => true) held fuel t [v] = some y) : ∃ A n c bs, v = .slice A n c ∧ n ≤ c ∧ BoxesAt w w.heap.size A n bs := by
  subst hg5
  obtain ⟨y, h⟩ := h
  rcases open_slice ht h with ⟨h1, _⟩ | ⟨a, len, cap, m, n, D, Pl, h1, _, hl, hm, hmm, _, hall⟩
  · exact ⟨none, 0, 0, [], by simpa using h1, by omega, ⟨rfl, fun h => absurd h (by omega)⟩⟩
  · simp only [if_true] at hmm
    have each : ∀ j, j < len → ∃ b : BoxD, BoxAt w w.heap.size (a.add (j * 6)) b := by
      intro j hj
      obtain ⟨cs', h2, h3⟩ := hall j (by omega)
      rw [hC] at h2
      obtain ⟨_, hlen, hcell⟩ := World.cells?_some h2
      obtain ⟨xs, n', _, _, _, hxl, hg⟩ := DataW.trod_struct hs h3
      match cs', hlen with
      | [v0, v1, v2, v3, v4, v5], _ =>
        have at_ : ∀ j, j < 6 → ∃ y, xs[j]? = some y := fun j hj => ⟨xs[j]'(by simpa [hxl] using hj), List.getElem?_eq_getElem _⟩
        obtain ⟨p0, k0⟩ := hone_of hone 0 f0 rfl
        obtain ⟨p1, k1⟩ := hone_of hone 1 f1 rfl
        obtain ⟨p2, k2⟩ := hone_of hone 2 f2 rfl
        obtain ⟨p3, k3⟩ := hone_of hone 3 f3 rfl
        obtain ⟨p4, k4⟩ := hone_of hone 4 f4 rfl
        obtain ⟨p5, k5⟩ := hone_of hone 5 f5 rfl
        obtain ⟨y0, q0⟩ := at_ 0 (by omega)
        obtain ⟨y1, q1⟩ := at_ 1 (by omega)
        obtain ⟨y2, q2⟩ := at_ 2 (by omega)
        obtain ⟨y3, q3⟩ := at_ 3 (by omega)
        obtain ⟨y4, q4⟩ := at_ 4 (by omega)
        obtain ⟨y5, q5⟩ := at_ 5 (by omega)
        have g0 := hg 0 f0 rfl
        have g1 := hg 1 f1 rfl
        have g2 := hg 2 f2 rfl
        have g3 := hg 3 f3 rfl
        have g4 := hg 4 f4 rfl
        have g5 := hg 5 f5 rfl
        rw [q0] at g0
        rw [q1] at g1
        rw [q2] at g2
        rw [q3] at g3
        rw [q4] at g4
        rw [q5] at g5
        obtain ⟨i0, rfl, _⟩ := int_form u0 ⟨y0, by simpa [Value.cells, p0, k0] using g0⟩
        obtain ⟨i1, rfl, _⟩ := int_form u1 ⟨y1, by simpa [Value.cells, p1, k1] using g1⟩
        obtain ⟨i2, rfl, _⟩ := int_form u2 ⟨y2, by simpa [Value.cells, p2, k2] using g2⟩
        obtain ⟨i3, rfl, _⟩ := int_form u3 ⟨y3, by simpa [Value.cells, p3, k3] using g3⟩
        obtain ⟨i4, rfl, _⟩ := int_form u4 ⟨y4, by simpa [Value.cells, p4, k4] using g4⟩
        obtain ⟨G, gc, gs, rfl, hG⟩ := puts_open htg hsg honeg hCg x0 x1 x2 x3 ⟨y5, by simpa [Value.cells, p5, k5] using g5⟩
        refine ⟨⟨i0, i1, i2, i3, i4, gs⟩, ?_, ?_, ?_, ?_, ?_, G, gc, ?_, hG⟩
        · have h9 := hcell 0 (by omega)
          rw [add_of_add] at h9
          simpa using h9
        · simpa using hcell 1 (by omega)
        · simpa using hcell 2 (by omega)
        · simpa using hcell 3 (by omega)
        · simpa using hcell 4 (by omega)
        · simpa using hcell 5 (by omega)
    obtain ⟨q, hq⟩ := choose_lt each
    have hn : ∀ j, j < len → bnth ((List.range len).map q) j = q j := by
      intro j hj
      unfold bnth
      simp [hj]
    refine ⟨some a, len, _, (List.range len).map q, by simpa using h1, hl, ⟨by simp, fun h0 => ⟨a, rfl, ?_, fun j hj => ?_⟩⟩⟩
    · have := block_lt_of_cell (hq 0 h0).1
      rwa [block_of_add] at this
    · rw [hn j hj]; exact hq j hj
end
end Go.Proofs.Yteedngkbcbojjaa
