/- Chapter 45: a box variable; odd, sum, Wide, levels, Order, both ways. -/
import Derived.Test.YteedngkbcbojjaaObx
import Derived.Test.YteedngkbcbojjaaVrr
import Derived.Laws.CopyOwn
namespace Go.Proofs.Yteedngkbcbojjaa
open Go.ChangeShapes Go.WideShapes Go.ChangeAt Go.RowKit
set_option maxRecDepth 100000
set_option linter.unusedSimpArgs false

theorem TBox : SliceOf Try.prog 22 37 6 64 := sliceOf_mk Try.underlying22 (z := .agg #[.int .i64 0, .int .i64 0, .int .i64 0, .int .i64 0, .int .i64 0, .slice none 0 0]) (by kernel_rfl) rfl (by omega) (by omega)
theorem TPut : SliceOf Try.prog 35 39 4 32 := sliceOf_mk Try.underlying35 (z := .agg #[.int .i64 0, .int .i64 0, .int .i64 0, .int .i64 0]) (by kernel_rfl) rfl (by omega) (by omega)
theorem boxSize : (Try.prog.info? 37).map (·.size) = some 6 := by kernel_rfl
theorem putSize : (Try.prog.info? 39).map (·.size) = some 4 := by kernel_rfl
theorem six_allB (a b c d e : Int) (G : Option Addr) (n m : Nat) : (#[Value.int .i64 a, Value.int .i64 b, Value.int .i64 c, Value.int .i64 d, Value.int .i64 e, Value.slice G n m] : Array Value).all (·.oneCell') = true := by simp [Value.oneCell']
theorem four_allP (a b c d : Int) : (#[Value.int .i64 a, Value.int .i64 b, Value.int .i64 c, Value.int .i64 d] : Array Value).all (·.oneCell') = true := by simp [Value.oneCell']
/-- a block of six cells; of four -/
def Six (w : World) (b : Nat) (x0 x1 x2 x3 x4 x5 : Value) : Prop := w.heap[b]? = some (.cells #[x0, x1, x2, x3, x4, x5] 37 (0, 0))
def FourP (w : World) (b : Nat) (x0 x1 x2 x3 : Value) : Prop := w.heap[b]? = some (.cells #[x0, x1, x2, x3] 39 (0, 0))
section
variable {w w' : World} {b : Nat} {x0 x1 x2 x3 x4 x5 : Value}
theorem Six.lt (h : Six w b x0 x1 x2 x3 x4 x5) : b < w.heap.size := lt_of_block h
theorem Six.cs (h : Six w b x0 x1 x2 x3 x4 x5) : w.cell? ⟨b, 0, none⟩ = some x0 ∧ w.cell? ⟨b, 1, none⟩ = some x1 ∧ w.cell? ⟨b, 2, none⟩ = some x2 ∧ w.cell? ⟨b, 3, none⟩ = some x3 ∧ w.cell? ⟨b, 4, none⟩ = some x4 ∧ w.cell? ⟨b, 5, none⟩ = some x5 := by
  refine ⟨?_, ?_, ?_, ?_, ?_, ?_⟩ <;> (rw [cell_of_row _ _ _ _ _ _ h]; rfl)
theorem Six.f (h : Six w b x0 x1 x2 x3 x4 x5) (j : Nat) : w.frozen? ⟨b, j, none⟩ = false := frozen_of_row _ _ _ _ _ h
theorem Six.pass {B : Nat} (h : Six w b x0 x1 x2 x3 x4 x5) (hb : Below B w w') (hB : b < B) : Six w' b x0 x1 x2 x3 x4 x5 := (hb.block b hB).trans h
theorem Six.far {g j : Nat} (h : Six w b x0 x1 x2 x3 x4 x5) (hg : b ≠ g) (u : Value) : Six (w.setCell ⟨g, j, none⟩ u) b x0 x1 x2 x3 x4 x5 := (Below.heap_setCell w ⟨g, j, none⟩ u b hg).trans h
theorem Six.alloc (h : Six w b x0 x1 x2 x3 x4 x5) (o : Obj) : Six (w.alloc o) b x0 x1 x2 x3 x4 x5 := (Below.heap_alloc w o b h.lt).trans h
theorem Six.set3 (h : Six w b x0 x1 x2 x3 x4 x5) (v : Value) : Six (w.setCell ⟨b, 3, none⟩ v) b x0 x1 x2 v x4 x5 := by
  have hlt := h.lt
  have h' : w.heap[b] = .cells #[x0, x1, x2, x3, x4, x5] 37 (0, 0) := by unfold Six at h; simpa [Array.getElem?_eq_getElem hlt] using h
  show (w.heap.modify b _)[b]? = _
  rw [Array.getElem?_eq_getElem (by simpa using hlt), Array.getElem_modify_self, h']
  rfl
theorem Six.set5 (h : Six w b x0 x1 x2 x3 x4 x5) (v : Value) : Six (w.setCell ⟨b, 5, none⟩ v) b x0 x1 x2 x3 x4 v := by
  have hlt := h.lt
  have h' : w.heap[b] = .cells #[x0, x1, x2, x3, x4, x5] 37 (0, 0) := by unfold Six at h; simpa [Array.getElem?_eq_getElem hlt] using h
  show (w.heap.modify b _)[b]? = _
  rw [Array.getElem?_eq_getElem (by simpa using hlt), Array.getElem_modify_self, h']
  rfl
theorem FourP.lt (h : FourP w b x0 x1 x2 x3) : b < w.heap.size := lt_of_block h
theorem FourP.cs (h : FourP w b x0 x1 x2 x3) : w.cell? ⟨b, 0, none⟩ = some x0 ∧ w.cell? ⟨b, 1, none⟩ = some x1 ∧ w.cell? ⟨b, 2, none⟩ = some x2 ∧ w.cell? ⟨b, 3, none⟩ = some x3 := by
  refine ⟨?_, ?_, ?_, ?_⟩ <;> (rw [cell_of_row _ _ _ _ _ _ h]; rfl)
theorem FourP.f (h : FourP w b x0 x1 x2 x3) (j : Nat) : w.frozen? ⟨b, j, none⟩ = false := frozen_of_row _ _ _ _ _ h
theorem FourP.set2 (h : FourP w b x0 x1 x2 x3) (v : Value) : FourP (w.setCell ⟨b, 2, none⟩ v) b x0 x1 v x3 := by
  have hlt := h.lt
  have h' : w.heap[b] = .cells #[x0, x1, x2, x3] 39 (0, 0) := by unfold FourP at h; simpa [Array.getElem?_eq_getElem hlt] using h
  show (w.heap.modify b _)[b]? = _
  rw [Array.getElem?_eq_getElem (by simpa using hlt), Array.getElem_modify_self, h']
  rfl
end
theorem box_new (wr : World) (a b c d e : Int) (v : Value) : ∃ w2, w2 = (wr.alloc (.cells #[.int .i64 0, .int .i64 0, .int .i64 0, .int .i64 0, .int .i64 0, .slice none 0 0] 37)).setRow wr.heap.size #[.int .i64 a, .int .i64 b, .int .i64 c, .int .i64 d, .int .i64 e, v] ∧
    Shut (Below wr.heap.size wr w2) ∧ Shut (Six w2 wr.heap.size (.int .i64 a) (.int .i64 b) (.int .i64 c) (.int .i64 d) (.int .i64 e) v) ∧
    Shut ((wr.alloc (.cells #[.int .i64 0, .int .i64 0, .int .i64 0, .int .i64 0, .int .i64 0, .slice none 0 0] 37)).heap[wr.heap.size]? = some (.cells #[.int .i64 0, .int .i64 0, .int .i64 0, .int .i64 0, .int .i64 0, .slice none 0 0] 37 (0, 0))) :=
  ⟨_, rfl, ⟨below_setRow (below_alloc wr _) (Nat.le_refl _) _⟩, ⟨setRow_heap _ _ _ _ _ _ (heap_alloc_new wr _)⟩, ⟨heap_alloc_new wr _⟩⟩
theorem put_new (wr : World) (a b c d : Int) : ∃ w2, w2 = (wr.alloc (.cells #[.int .i64 0, .int .i64 0, .int .i64 0, .int .i64 0] 39)).setRow wr.heap.size #[.int .i64 a, .int .i64 b, .int .i64 c, .int .i64 d] ∧
    Shut (Below wr.heap.size wr w2) ∧ Shut (FourP w2 wr.heap.size (.int .i64 a) (.int .i64 b) (.int .i64 c) (.int .i64 d)) ∧
    Shut ((wr.alloc (.cells #[.int .i64 0, .int .i64 0, .int .i64 0, .int .i64 0] 39)).heap[wr.heap.size]? = some (.cells #[.int .i64 0, .int .i64 0, .int .i64 0, .int .i64 0] 39 (0, 0))) :=
  ⟨_, rfl, ⟨below_setRow (below_alloc wr _) (Nat.le_refl _) _⟩, ⟨setRow_heap _ _ _ _ _ _ (heap_alloc_new wr _)⟩, ⟨heap_alloc_new wr _⟩⟩
/-- a box's cells, as the load of the whole asks them -/
theorem bdx {w : World} {B : Nat} {p : Addr} {b : BoxD} (h : BoxAt w B p b) : ∃ (G : Option Addr) (gc : Nat), (w.cell? p = some (.int .i64 b.f) ∧ w.cell? { block := p.block, off := p.off + 1 } = some (.int .i64 b.t) ∧ w.cell? { block := p.block, off := p.off + 2 } = some (.int .i64 b.lv) ∧
    w.cell? { block := p.block, off := p.off + 3 } = some (.int .i64 b.x) ∧ w.cell? { block := p.block, off := p.off + 4 } = some (.int .i64 b.wd) ∧ w.cell? { block := p.block, off := p.off + 5 } = some (.slice G b.gs.length gc)) ∧ PutsAt w B G b.gs.length b.gs := by
  obtain ⟨h0, h1, h2, h3, h4, G, gc, h5, h6⟩ := h
  exact ⟨G, gc, ⟨h0, h1, h2, h3, h4, h5⟩, h6⟩
/-- widths are not great -/
def WdIn (bs : List BoxD) : Prop := ∀ j, -1073741824 ≤ (bnth bs j).wd ∧ (bnth bs j).wd ≤ 1073741824
def oddB (x : Int) : Bool := x.tmod 2 != 0
set_option maxHeartbeats 1000000 in
theorem odd_any (x : Int) (w : World) : Calls Try.prog 21 #[.int .i64 x] w fun e w' => e = .returned (.bool (oddB x)) ∧ w' = w := by
  go_enter Try.func21, Try.ntmps21
  go_wp2_with fail
  go_ret
  exact ⟨rfl, rfl⟩
set_option maxHeartbeats 2000000 in
theorem wide_any (A : Option Addr) (n c : Nat) (bs : List BoxD) (w : World) (hx : BoxesAt w w.heap.size A n bs) (hn : n ≤ 40) (hw : WdIn bs) :
    Calls Try.prog 15 #[.slice A n c] w fun e w' => e = .returned (.int .i64 (wideN bs n)) ∧ w' = w := by
  have HX : Shut _ := ⟨hx⟩
  have HW : Shut _ := ⟨hw⟩
  clear hx hw
  go_enter Try.func15, Try.ntmps15
  go_wp2_with fail
  go_loopg [3, 4] (n + 1) (fun gg v3 v4 wr => ∃ k : Nat, n - k < gg ∧ k ≤ n ∧ v3 = .int .i64 (wideN bs k) ∧ v4 = .int .i64 (k : Int) ∧ wr = w)
  case atStart => exact ⟨0, by omega, by omega, rfl, rfl, rfl⟩
  case round =>
    obtain ⟨k, hg, hk, rfl, rfl, rfl⟩ := hrel
    by_cases hlt : k < n
    · obtain ⟨ad, rfl, _, hc⟩ := HX.out.2 (by omega)
      obtain ⟨G, gc, ⟨_, _, _, _, c4, _⟩, _⟩ := bdx (hc k hlt)
      have E : Shut (wideN bs (k + 1) = wideN bs k + (bnth bs k).wd) := ⟨rfl⟩
      have h1 := wideN_in HW.out k
      have h2 := HW.out k
      generalize wideN bs k = S at *
      generalize (bnth bs k).wd = x at *
      have i1 : (k : Int) < (n : Int) := by omega
      clear hc
      go_wp2_with fail
      go_roundg (n - k)
      case measure => omega
      case rel => exact ⟨k + 1, by omega, by omega, iv E.out.symm, by go_num, rfl⟩
    · obtain rfl : k = n := by omega
      clear hlt
      go_wp2_with fail
      go_ret
      exact ⟨rfl, rfl⟩
set_option maxHeartbeats 2000000 in
theorem sum_any (A : Option Addr) (n c : Nat) (bs : List BoxD) (w : World) (hx : BoxesAt w w.heap.size A n bs) (hn : n ≤ 40) (hw : WdIn bs) :
    Calls Try.prog 22 #[.slice A n c] w fun e w' => e = .returned (.int .i64 (wideN bs n)) ∧ Below w.heap.size w w' := by
  have HX : Shut _ := ⟨hx⟩
  have HW : Shut _ := ⟨hw⟩
  clear hx hw
  go_enter Try.func22, Try.ntmps22
  go_wp2_with fail
  go_loopg [3, 5, 8] (n + 1) (fun gg v3 _ v8 wr => ∃ k : Nat, n - k < gg ∧ k ≤ n ∧ v3 = .int .i64 (wideN bs k) ∧ v8 = .int .i64 (k : Int) ∧ Shut (Below w.heap.size w wr))
  case atStart => exact ⟨0, by omega, by omega, rfl, rfl, ⟨Below.refl _ _⟩⟩
  case round =>
    obtain ⟨k, hg, hk, rfl, rfl, BE⟩ := hrel
    by_cases hlt : k < n
    · obtain ⟨ad, rfl, _, hc⟩ := (HX.out.later BE.out).2 (by omega)
      obtain ⟨G, gc, ⟨c0, c1, c2, c3, c4, c5⟩, _⟩ := bdx (hc k hlt)
      have E : Shut (wideN bs (k + 1) = wideN bs k + (bnth bs k).wd) := ⟨rfl⟩
      have h1 := wideN_in HW.out k
      have h2 := HW.out k
      obtain ⟨w2, hw2, X2, S2, RA⟩ := box_new wr (bnth bs k).f (bnth bs k).t (bnth bs k).lv (bnth bs k).x (bnth bs k).wd (.slice G (bnth bs k).gs.length gc)
      obtain ⟨s0, s1, s2, s3, s4, s5⟩ := S2.out.cs
      generalize wideN bs k = S at *
      generalize bnth bs k = b at *
      have i1 : (k : Int) < (n : Int) := by omega
      have BE2 : Shut (Below w.heap.size w w2) := ⟨BE.out.trans (X2.out.mono BE.out.size)⟩
      clear hc s0 s1 s2 s3 s5
      go_wp2_with (refine wpList_store_row rfl 37 (.tmp 5) (.tmp 11) rfl wr.heap.size _ rfl rfl 37 _ RA.out boxSize (by rfl) (six_allB _ _ _ _ _ _ _ _) ?_; rw [← hw2]; clear hw2)
      go_roundg (n - k)
      case measure => omega
      case rel => exact ⟨k + 1, by omega, by omega, iv E.out.symm, by go_num, BE2⟩
    · obtain rfl : k = n := by omega
      clear hlt
      go_wp2_with fail
      go_ret
      exact ⟨rfl, BE.out⟩
end Go.Proofs.Yteedngkbcbojjaa
