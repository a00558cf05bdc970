/- Chapter 45: a box that is being made: its glyphs moved one by one; the reference's moved. -/
import Derived.Test.YteedngkbcbojjaaBs2
namespace Go.Proofs.Yteedngkbcbojjaa
open Go.ChangeShapes Go.WideShapes Go.ChangeAt Go.RowKit
set_option maxRecDepth 100000
set_option linter.unusedSimpArgs false

theorem own_apart_row {w : World} {B n c size g : Nat} {e t : TypeId} {A : Option Addr} {vs : List Value} {cs : Array Value} {fz : Nat × Nat} (h : OwnV w B e size A n c vs) (hg : w.heap[g]? = some (.cells cs t fz)) (hne : t ≠ e) : Apart A (some ⟨g, 0, none⟩) := by
  intro g1 h1 h2
  subst h1
  injection h2 with h2
  injection h2 with h2
  subst h2
  rcases h.2 with ⟨hv, _⟩ | ⟨g', cap, cur, hv, _, hh, _⟩
  · cases hv
  · injection hv with hv
    injection hv with hv
    injection hv with hv
    subst hv
    rw [hh] at hg
    injection hg with hg
    injection hg with _ hg
    exact hne hg.symm
theorem six_newN (w : World) (x0 x1 x2 x3 x4 x5 : Value) (N : Nat) (h : w.heap.size = N) : Six (w.alloc (.cells #[x0, x1, x2, x3, x4, x5] 37)) N x0 x1 x2 x3 x4 x5 := by subst h; exact heap_alloc_new w _
theorem OwnV.weakB {w : World} {B B' : Nat} {e : TypeId} {size : Nat} {A : Option Addr} {n c : Nat} {xs : List Value} (h : OwnV w B e size A n c xs) (hb : B' ≤ B) : OwnV w B' e size A n c xs := by
  refine ⟨h.1, ?_⟩
  rcases h.2 with h2 | ⟨g, cap, cur, hv, hg, r⟩
  · exact .inl h2
  · exact .inr ⟨g, cap, cur, hv, by omega, r⟩
theorem OwnV.farRow {w : World} {B : Nat} {e : TypeId} {size g : Nat} {A : Option Addr} {n c : Nat} {xs : List Value} (h : OwnV w B e size A n c xs) (hg : g < B) (cs : Array Value) : OwnV (w.setRow g cs) B e size A n c xs := by
  refine ⟨h.1, ?_⟩
  rcases h.2 with h2 | ⟨g', cap, cur, hv, hb, hh, r⟩
  · exact .inl h2
  · exact .inr ⟨g', cap, cur, hv, hb, by rw [setRow_other w g g' cs (by omega)]; exact hh, r⟩
theorem cells4_new (W : World) (v0 v1 v2 v3 : Value) (t : TypeId) (N : Nat) (hN : W.heap.size = N) : ∀ (j : Nat) (u : Value), [v0, v1, v2, v3][j]? = some u → (W.alloc (.cells #[v0, v1, v2, v3] t)).cell? ⟨N, j, none⟩ = some u := by
  intro j u h
  subst hN
  rw [cell_of_row _ _ _ _ _ _ (heap_alloc_new W _)]
  simpa using h
theorem cells6_new (W : World) (v0 v1 v2 v3 v4 v5 : Value) (t : TypeId) (N : Nat) (hN : W.heap.size = N) : ∀ (j : Nat) (u : Value), [v0, v1, v2, v3, v4, v5][j]? = some u → (W.alloc (.cells #[v0, v1, v2, v3, v4, v5] t)).cell? ⟨N, j, none⟩ = some u := by
  intro j u h
  subst hN
  rw [cell_of_row _ _ _ _ _ _ (heap_alloc_new W _)]
  simpa using h
theorem putC_one (g : PutD) : ∀ u ∈ putC g, u.oneCell' = true := by
  intro u hu
  simp [putC] at hu
  rcases hu with rfl | rfl | rfl | rfl <;> rfl
theorem boxC_one (p : BoxM) : ∀ u ∈ boxC p, u.oneCell' = true := by
  intro u hu
  simp [boxC] at hu
  rcases hu with rfl | rfl | rfl | rfl | rfl | rfl <;> rfl
/-- the first k glyphs, moved -/
def mvG (gs : List PutD) (P : Int) (k : Nat) : List PutD := (gs.take k).map (moveG P)
theorem mvG_len {gs : List PutD} {k : Nat} (P : Int) (h : k ≤ gs.length) : (mvG gs P k).length = k := by simp [mvG]; omega
theorem mvG_succ {gs : List PutD} {k : Nat} (P : Int) (h : k < gs.length) : mvG gs P (k + 1) = mvG gs P k ++ [moveG P (pnth gs k)] := by
  unfold mvG
  rw [List.take_succ_eq_append_getElem h, List.map_append, pnth_eq h]
  rfl
theorem mvG_full (gs : List PutD) (P : Int) : mvG gs P gs.length = gs.map (moveG P) := by simp [mvG]
/-- while its glyphs are moved: the box at bb, whose glyphs lie at G -/
structure GI (W0 : World) (bb : Nat) (x0 x1 x2 x3 x4 : Int) (gs : List PutD) (P : Int) (k : Nat) (G : Option Addr) (gc : Nat) (W : World) : Prop where
  six : Six W bb (.int .i64 x0) (.int .i64 x1) (.int .i64 x2) (.int .i64 x3) (.int .i64 x4) (.slice G k gc)
  own : OwnV W (bb + 1) 39 4 G k gc ((mvG gs P k).flatMap putC)
  be : Below bb W0 W
section
variable {W0 W W' : World} {bb : Nat} {x0 x1 x2 x3 x4 : Int} {gs : List PutD} {P : Int} {k : Nat} {G : Option Addr} {gc : Nat}
theorem GI.pass (h : GI W0 bb x0 x1 x2 x3 x4 gs P k G gc W) (hb : Below W.heap.size W W') : GI W0 bb x0 x1 x2 x3 x4 gs P k G gc W' :=
  ⟨h.six.pass hb h.six.lt, OwnV.pass h.own hb, h.be.trans (hb.mono (by have := h.six.lt; omega))⟩
theorem GI.push (h : GI W0 bb x0 x1 x2 x3 x4 gs P k G gc W) {G2 : Option Addr} {c2 : Nat} (o : OwnV W' (bb + 1) 39 4 G2 (k + 1) c2 ((mvG gs P k).flatMap putC ++ putC (moveG P (pnth gs k)))) (b : Below (bb + 1) W W') (hk : k < gs.length) :
    GI W0 bb x0 x1 x2 x3 x4 gs P (k + 1) G2 c2 (W'.setCell ⟨bb, 5, none⟩ (.slice G2 (k + 1) c2)) := by
  have s2 := h.six.pass b (by omega)
  refine ⟨s2.set5 _, ?_, Below.setCell (h.be.trans (b.mono (by omega))) (p := ⟨bb, 5, none⟩) (Nat.le_refl _) _⟩
  refine OwnV.far ?_ (own_apart_row o s2 (by decide)) _
  rw [mvG_succ P hk, List.flatMap_append]
  simpa using o
theorem GI.ownG (h : GI W0 bb x0 x1 x2 x3 x4 gs P gs.length G gc W) : OwnG W (bb + 1) G gc (gs.map (moveG P)) := by
  have := h.own
  rw [mvG_full] at this
  unfold OwnG
  rw [List.length_map]
  exact this
end
/-- glyphs' positions are not great -/
def GxIn (gs : List PutD) : Prop := gs.length ≤ 20 ∧ ∀ j, -1073741824 ≤ (pnth gs j).x ∧ (pnth gs j).x ≤ 1073741824
/-- a glyph's cells, as the load of the whole asks them -/
theorem pdx {w : World} {p : Addr} {g : PutD} (h : PutAt w p g) : w.cell? p = some (.int .i64 g.font) ∧ w.cell? { block := p.block, off := p.off + 1 } = some (.int .i64 g.id) ∧ w.cell? { block := p.block, off := p.off + 2 } = some (.int .i64 g.x) ∧ w.cell? { block := p.block, off := p.off + 3 } = some (.int .i64 g.y) := h
theorem put_moved (P : Int) (g : PutD) : putC (moveG P g) = [.int .i64 g.font, .int .i64 g.id, .int .i64 (g.x + P), .int .i64 g.y] := rfl

theorem six_done {a : Array Value} {x0 x1 x2 x3 x4 x5 : Value} {w w1 : World} {tmps : Array Value} {Post : Ending → World → Prop} (ht : tmps.getD 6 undef = .pointer (some ⟨w.heap.size + 1, 0, none⟩)) (R : Six w1 (w.heap.size + 1) x0 x1 x2 x3 x4 x5) (hs : a.size = 6)
    (h : Post (.returned (.agg a)) (w1.setRow (w.heap.size + 1) a)) : bodyPost Try.prog Try.f16 Post .ret ⟨tmps, []⟩ (w1.setRow (w.heap.size + 1) a) :=
  bodyPost_ret (v := .agg a) (results_cell_row Try.results16 _ _ (w.heap.size + 1) 37 _ (0, 0) _ ht (setRow_heap _ _ _ _ _ _ R) Try.underlying37 rfl (by rw [boxSize, hs])) rfl h
set_option maxHeartbeats 8000000 in
theorem moved_any (f t lv x wd : Int) (G : Option Addr) (n gc : Nat) (gs : List PutD) (bx P : Int) (w : World) (hG : PutsAt w w.heap.size G n gs) (hg : GxIn gs) (h1 : -4611686018427387904 ≤ x + bx) (h2 : x + bx ≤ 4611686018427387904) (h3 : -4611686018427387904 ≤ P) (h4 : P ≤ 4611686018427387904) :
    Calls Try.prog 16 #[.agg #[.int .i64 f, .int .i64 t, .int .i64 lv, .int .i64 x, .int .i64 wd, .slice G n gc], .int .i64 bx, .int .i64 P] w fun e w' =>
      ∃ (G2 : Option Addr) (c2 : Nat), e = .returned (.agg #[.int .i64 f, .int .i64 t, .int .i64 lv, .int .i64 (x + bx), .int .i64 wd, .slice G2 n c2]) ∧ OwnG w' w.heap.size G2 c2 (gs.map (moveG P)) ∧ Below w.heap.size w w' := by
  have HG : Shut _ := ⟨hG⟩
  have HX : Shut _ := ⟨hg.2⟩
  have hl : gs.length = n := hG.1
  have hn : n ≤ 20 := by have := hg.1; omega
  have HL : Shut _ := ⟨hl⟩
  clear hG hg
  obtain ⟨W1, hW1⟩ : ∃ W1, W1 = (((w.alloc (.cells #[.int .i64 f, .int .i64 t, .int .i64 lv, .int .i64 x, .int .i64 wd, .slice G n gc] 37)).alloc (.cells #[.int .i64 0, .int .i64 0, .int .i64 0, .int .i64 0, .int .i64 0, .slice none 0 0] 37)).alloc (.cells #[.int .i64 f, .int .i64 t, .int .i64 lv, .int .i64 (x + bx), .int .i64 wd, .slice none 0 0] 37)) := ⟨_, rfl⟩
  have S0 : Shut (Six W1 w.heap.size (.int .i64 f) (.int .i64 t) (.int .i64 lv) (.int .i64 x) (.int .i64 wd) (.slice G n gc)) := ⟨by rw [hW1]; exact Six.alloc (Six.alloc (heap_alloc_new w _) _) _⟩
  have R0 : Shut (Six W1 (w.heap.size + 1) (.int .i64 0) (.int .i64 0) (.int .i64 0) (.int .i64 0) (.int .i64 0) (.slice none 0 0)) := ⟨by rw [hW1]; exact Six.alloc (six_newN _ _ _ _ _ _ _ _ (by simp)) _⟩
  have I0 : Shut (GI W1 (w.heap.size + 1 + 1) f t lv (x + bx) wd gs P 0 none 0 W1) := ⟨⟨by rw [hW1]; exact six_newN _ _ _ _ _ _ _ _ (by simp), OwnV.nil _ _ _ _, Below.refl _ _⟩⟩
  have B0 : Shut (Below w.heap.size w W1) := ⟨by rw [hW1]; exact ((below_alloc w _).alloc (by simp) _).alloc (by simp; omega) _⟩
  go_enter Try.func16, Try.ntmps16
  go_wp2_with fail
  rw [← hW1]
  clear hW1
  go_loopg [8, 9] (n + 1) (fun gg v8 _ wr => ∃ (k : Nat) (G2 : Option Addr) (c2 : Nat), n - k < gg ∧ k ≤ n ∧ v8 = .int .i64 (k : Int) ∧ Shut (GI W1 (w.heap.size + 1 + 1) f t lv (x + bx) wd gs P k G2 c2 wr))
  case atStart => exact ⟨0, none, 0, by omega, by omega, rfl, I0⟩
  case round =>
    obtain ⟨k, G2, c2, hg, hk, rfl, I⟩ := hrel
    clear I0
    have sp := S0.out.pass I.out.be (by omega)
    obtain ⟨p0, p1, p2, p3, p4, p5⟩ := sp.cs
    have BW : Shut (Below w.heap.size w wr) := ⟨B0.out.trans (I.out.be.mono (by omega))⟩
    by_cases hlt : k < n
    · obtain ⟨ad, rfl, _, hc⟩ := (HG.out.later BW.out BW.out.size).2 (by omega)
      obtain ⟨z0, z1, z2, z3⟩ := pdx (hc k hlt)
      have h5 := HX.out k
      have hkl : k < gs.length := by rw [HL.out]; exact hlt
      have PM : Shut (putC (moveG P (pnth gs k)) = [.int .i64 (pnth gs k).font, .int .i64 (pnth gs k).id, .int .i64 ((pnth gs k).x + P), .int .i64 (pnth gs k).y]) := ⟨rfl⟩
      obtain ⟨g, hgk⟩ : ∃ g, pnth gs k = g := ⟨_, rfl⟩
      have HGK : Shut (pnth gs k = g) := ⟨hgk⟩
      rw [hgk] at z0 z1 z2 z3 h5 PM
      obtain ⟨wq, hwq⟩ : ∃ wq, wq = wr.alloc (.cells #[.int .i64 g.font, .int .i64 g.id, .int .i64 (g.x + P), .int .i64 g.y] 39) := ⟨_, rfl⟩
      have IQ : Shut (GI W1 (w.heap.size + 1 + 1) f t lv (x + bx) wd gs P k G2 c2 wq) := ⟨by rw [hwq]; exact I.out.pass (below_alloc _ _)⟩
      have y5 := (hwq ▸ IQ.out.six).cs.2.2.2.2.2
      have i1 : (k : Int) < (n : Int) := by omega
      have hsz : w.heap.size + 1 + 1 < wr.heap.size := I.out.six.lt
      clear hc hgk
      go_wp2_with (at_builtin; refine wpList_pushVAt TPut rfl (.tmp 35) (.tmp 37) rfl rfl (OwnV.alloc (hwq ▸ IQ.out.own) _) rfl (news := [.int .i64 g.font, .int .i64 g.id, .int .i64 (g.x + P), .int .i64 g.y]) rfl (cells4_new _ _ _ _ _ _ _ (by simp)) (by rw [← PM.out]; exact putC_one _) (by omega) (by simp; omega) ?_; intro G4 c4 w4 o4 b4 _ _; have s4 := (Six.alloc (hwq ▸ IQ.out.six) _).pass b4 (by omega); have y6 := s4.cs.2.2.2.2.2; have f6 := s4.f 5; have O4 : Shut _ := ⟨o4⟩; have B4 : Shut _ := ⟨b4⟩; clear o4 b4 s4)
      have I5 : Shut (GI W1 (w.heap.size + 1 + 1) f t lv (x + bx) wd gs P (k + 1) G4 c4 (w4.setCell ⟨w.heap.size + 1 + 1, 5, none⟩ (.slice G4 (k + 1) c4))) := ⟨(hwq ▸ IQ.out.pass (below_alloc _ _)).push (by rw [HGK.out, PM.out]; exact O4.out) B4.out hkl⟩
      go_roundg (n - k)
      case measure => omega
      case rel => exact ⟨k + 1, G4, c4, by omega, by omega, by go_num, I5⟩
    · obtain rfl : k = n := by omega
      have OG : Shut (OwnG wr (w.heap.size + 1 + 1 + 1) G2 c2 (gs.map (moveG P))) := ⟨(HL.out ▸ I.out).ownG⟩
      have rs := R0.out.pass I.out.be (by omega)
      obtain ⟨q0, q1, q2, q3, q4, q5⟩ := I.out.six.cs
      clear hlt hg hk sp
      go_wp2_with (refine wpList_store_row rfl 37 (.tmp 6) (.tmp 40) rfl (w.heap.size + 1) _ rfl rfl 37 _ rs boxSize (by rfl) (six_allB _ _ _ _ _ _ _ _) ?_)
      refine six_done (by rfl) rs (by simp) ⟨_, _, rfl, ?_, below_setRow BW.out (by omega) _⟩
      exact OwnV.weakB (OwnV.farRow OG.out (by omega) _) (by omega)
end Go.Proofs.Yteedngkbcbojjaa
