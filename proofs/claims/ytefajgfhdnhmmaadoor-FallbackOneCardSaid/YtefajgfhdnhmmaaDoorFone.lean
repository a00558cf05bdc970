/- Chapter 23: the walk of FallbackOne. -/
import Derived.Test.YtefajgfhdnhmmaaDoorFow
namespace Go.Proofs.YtefajgfhdnhmmaaDoor
open Go.ChangeShapes Go.WideShapes Go.ChangeAt Go.RowKit
set_option maxRecDepth 100000
set_option linter.unusedSimpArgs false

/-- a font's cells -/
def fdV (f : Fd) : List Value := [.int .i64 f.em, .slice f.G f.gn f.gc, .slice f.M f.mn f.mc, .slice f.L f.ln f.lc, .slice f.F f.fn f.fc, .slice f.S f.sn f.sc]
theorem fonts_lit (w : World) (t : TypeId) (fs : List Fd) (n : Nat) (hn : fs.length = n) (vs : Array Value) (hv : vs = (fs.flatMap fdV).toArray) (hM : ∀ f ∈ fs, MapsAt w w.heap.size f.M f.mn f.ms) :
    FontsAt (w.alloc (.cells vs t)) (w.alloc (.cells vs t)).heap.size (some ⟨w.heap.size, 0, none⟩) n fs := by
  have hlen : ∀ l : List Fd, (l.flatMap fdV).length = l.length * 6 := by
    intro l
    induction l with
    | nil => rfl
    | cons f l ih => simp [List.flatMap_cons, fdV] at ih ⊢; omega
  have hat : ∀ (l : List Fd) (j k : Nat), j < l.length → k < 6 → (l.flatMap fdV)[j * 6 + k]? = (fdV (fnth l j))[k]? := by
    intro l
    induction l with
    | nil => intro j k h; simp at h
    | cons f l ih =>
      intro j k h hk
      rw [List.flatMap_cons]
      cases j with
      | zero =>
        rw [Nat.zero_mul, Nat.zero_add, List.getElem?_append_left (by simpa [fdV] using hk)]
        rfl
      | succ j =>
        have e : (fdV f).length = 6 := rfl
        rw [List.getElem?_append_right (by rw [e]; omega), e, show (j + 1) * 6 + k - 6 = j * 6 + k by omega, ih j k (by simpa using h) hk]
        rfl
  subst hv
  refine ⟨hn, fun h0 => ⟨_, rfl, by simp, fun j hj => ?_⟩⟩
  have hc : ∀ k, k < 6 → (w.alloc (.cells (fs.flatMap fdV).toArray t)).cell? ⟨w.heap.size, j * 6 + k, none⟩ = (fdV (fnth fs j))[k]? := fun k hk => by
    rw [cell_of_row _ _ _ _ _ _ (heap_alloc_new w _), List.getElem?_toArray, hat fs j k (by omega) hk]
  have hm := (hM (fnth fs j) (by rw [fnth_eq (by omega)]; exact List.getElem_mem _)).later (below_alloc w (.cells (fs.flatMap fdV).toArray t))
  rw [add_zero_at]
  have ha : ∀ k, (⟨w.heap.size, j * 6, none⟩ : Addr).add k = ⟨w.heap.size, j * 6 + k, none⟩ := fun k => by unfold Addr.add; split <;> simp_all
  refine ⟨hc 0 (by omega), ?_, ?_, ?_, ?_, ?_, hm⟩
  · rw [ha]; exact hc 1 (by omega)
  · rw [ha]; exact hc 2 (by omega)
  · rw [ha]; exact hc 3 (by omega)
  · rw [ha]; exact hc 4 (by omega)
  · rw [ha]; exact hc 5 (by omega)
theorem fontS_one {fs : List Fd} (h : fs.length ≤ 1) (sp : List Sp) {xs : List Int} {n : Nat} (hn : xs.length = n) : fontS fs sp xs = if n = 0 then [] else [⟨0, (n : Int), 0⟩] := by
  obtain ⟨_, h0, _, _, hz, hp⟩ := bnd_facts hn
  unfold fontS
  by_cases hn0 : n = 0
  · rw [if_pos hn0, hz hn0]
    rfl
  · rw [if_neg hn0]
    obtain ⟨h2, hl⟩ := hp (by omega)
    obtain ⟨m, hm⟩ : ∃ m, (bndA (ks xs)).length - 1 = m + 1 := ⟨(bndA (ks xs)).length - 2, by omega⟩
    rw [hm] at hl ⊢
    rw [clS_const (v := 0) h0 (fun k => by unfold fontA; exact pickV_one h _ _ _), hl]
theorem spans_lit (w : World) (t : TypeId) (a b c : Int) : SpansAt (w.alloc (.cells #[.int .i64 a, .int .i64 b, .int .i64 c] t)) (w.alloc (.cells #[.int .i64 a, .int .i64 b, .int .i64 c] t)).heap.size (some ⟨w.heap.size, 0, none⟩) 1 [⟨a, b, c⟩] := by
  refine ⟨rfl, fun _ => ⟨_, rfl, by simp, fun j hj => ?_⟩⟩
  obtain rfl : j = 0 := by omega
  rw [add_zero_at, add_zero_at, add_zero_at, cell_of_row _ _ _ _ _ _ (heap_alloc_new w _), cell_of_row _ _ _ _ _ _ (heap_alloc_new w _), cell_of_row _ _ _ _ _ _ (heap_alloc_new w _)]
  exact ⟨rfl, rfl, rfl⟩
theorem free_needs : goodB [] 8205 = true ∧ needsB 8205 = false ∧ needsB 8234 = false := by decide +kernel
theorem pick_one (f : Fd) : pickV [f, f] 1 [8205, 8234] 0 = 1 := by
  refine pickV_pre ?_
  have h : hasB f.ms [8205, 8234] = true := by
    refine hasB_yes fun k hk => ?_
    have : nth [8205, 8234] k = 8205 ∨ nth [8205, 8234] k = 8234 := by
      match k with
      | 0 => exact .inl rfl
      | 1 => exact .inr rfl
      | k + 2 => simp only [List.length_cons, List.length_nil] at hk; omega
    unfold goodB
    rcases this with h | h
    · rw [h, free_needs.2.1]; simp
    · rw [h, free_needs.2.2]; simp
  show (isB 2 1 && hasB f.ms [8205, 8234]) = true
  rw [h]
  rfl
end Go.Proofs.YtefajgfhdnhmmaaDoor
