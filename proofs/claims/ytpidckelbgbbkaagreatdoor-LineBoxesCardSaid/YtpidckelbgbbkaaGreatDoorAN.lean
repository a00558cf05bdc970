/- Part of LineBoxes: settings and paragraphs, read off the datum. -/
import Derived.Test.YtpidckelbgbbkaaGreatDoorAM
import Derived.Lib.SmallJoins
import Derived.Deep.Slices
import Derived.SizedLaws
namespace Go.Proofs.YtpidckelbgbbkaaGreatDoor
open Go.Joins Go.ChangeShapes Go.WideShapes Go.ChangeAt Go.RowKit Go.Deep
set_option linter.all false
set_option maxRecDepth 100000
/-- fields, one behind the other -/
def shGo (P : Program) (r : TypeId → Ty → Bool) : List Field → Ty → Nat → Bool
  | [], _, _ => false
  | [x], T, off => decide (x.offset = off) && decide (P.cellsOf x.type = T.n) && r x.type T
  | x :: y :: fs, .two a b, off => decide (x.offset = off) && decide (P.cellsOf x.type = a.n) && r x.type a && shGo P r (y :: fs) b (off + a.n)
  | _ :: _ :: _, _, _ => false
/-- does a type have that shape? -/
def shB (P : Program) : Nat → TypeId → Ty → Bool
  | 0, _, _ => false
  | f + 1, t, T => match P.underlying t, T with
    | some (.int k), .num k' => decide (k = k')
    | some .bool, .Vo => true
    | some .string, .str => true
    | some (.slice e), .arr T => shB P f e T && decide (P.cellsOf e = T.n) && decide (T.lb ≤ P.bytesOf e)
    | some (.struct fs), T => shGo P (shB P f) fs.toList T 0 && decide (P.cellsOf t = T.n)
    | _, _ => false
section
variable {H : Type} {enc : TypeId × Value → H} {P : Program} {w : World} {base : Nat} {held : Bool}
theorem weights_all {e : TypeId} : ∀ (l : List (DataW H)) (d : DataW H), d ∈ l → ∀ m ∈ d.weights P e, m ∈ DataW.weightsAll P e l
  | [], d, h, _, _ => by cases h
  | x :: l, d, h, m, hm => by
    simp only [DataW.weightsAll, List.mem_append]
    rcases List.mem_cons.1 h with rfl | h
    · exact .inl hm
    · exact .inr (weights_all l d h m hm)
theorem rd_go (f : Nat) (ih : ∀ (t : TypeId) (T : Ty) (fuel : Nat) (cs : List Value) (y : DataW H × List MemPlace), shB P f t T = true → Fits P t y.1 → DataW.trod enc P w base (fun _ => true) held fuel t cs = some y → Rd w w.heap.size T cs)
    (cs : List Value) (fuel : Nat) : ∀ (fs : List Field) (T : Ty) (off : Nat), shGo P (shB P f) fs T off = true → (∀ x ∈ fs, ∃ y, Fits P x.type y.1 ∧ DataW.trod enc P w base (fun _ => true) held fuel x.type ((cs.drop x.offset).take (P.cellsOf x.type)) = some y) → Rd w w.heap.size T ((cs.drop off).take T.n)
  | [], _, _, h, _ => by simp [shGo] at h
  | [x], T, off, h, hx => by
    simp only [shGo, Bool.and_eq_true, decide_eq_true_eq] at h
    obtain ⟨y, hw, hy⟩ := hx x (by simp)
    rw [h.1.1, h.1.2] at hy
    exact ih _ _ _ _ _ h.2 hw hy
  | x :: y :: fs, .two a b, off, h, hx => by
    simp only [shGo, Bool.and_eq_true, decide_eq_true_eq] at h
    obtain ⟨z, hw, hz⟩ := hx x (by simp)
    rw [h.1.1.1, h.1.1.2] at hz
    have h1 := ih _ _ _ _ _ h.1.2 hw hz
    have h2 := rd_go f ih cs fuel (y :: fs) b (off + a.n) h.2 (fun q hq => hx q (by simp at hq ⊢; exact .inr hq))
    refine ⟨_, _, ?_, h1, h2⟩
    rw [show (Ty.two a b).n = a.n + b.n from rfl, List.take_add, List.drop_drop]
  | _ :: _ :: _, .num _, _, h, _ => by simp [shGo] at h
  | _ :: _ :: _, .Vo, _, h, _ => by simp [shGo] at h
  | _ :: _ :: _, .str, _, h, _ => by simp [shGo] at h
  | _ :: _ :: _, .arr _, _, h, _ => by simp [shGo] at h
theorem rd_open : ∀ (f : Nat) (t : TypeId) (T : Ty) (fuel : Nat) (cs : List Value) (y : DataW H × List MemPlace), shB P f t T = true → Fits P t y.1 → DataW.trod enc P w base (fun _ => true) held fuel t cs = some y → Rd w w.heap.size T cs
  | 0, _, _, _, _, _, h, _, _ => by simp [shB] at h
  | f + 1, t, T, fuel, cs, y, h, hfit, hy => by
    cases hu : P.underlying t with
    | none => simp [shB, hu] at h
    | some u =>
      cases u with
      | int k =>
        cases T with
        | num k' =>
          simp [shB, hu] at h
          subst h
          obtain ⟨z, e, _, hw⟩ := DataW.trod_int hu hy
          exact ⟨z, e, hw⟩
        | _ => simp [shB, hu] at h
      | bool =>
        cases T with
        | Vo =>
          obtain ⟨z, e, _⟩ := DataW.trod_bool hu hy
          exact ⟨z, e⟩
        | _ => simp [shB, hu] at h
      | string =>
        cases T with
        | str =>
          obtain ⟨z, e, _, hs⟩ := DataW.trod_string hu hy
          exact ⟨z, e, hs⟩
        | _ => simp [shB, hu] at h
      | slice e =>
        cases T with
        | arr E =>
          simp [shB, hu] at h
          rcases open_slice hu hy with ⟨h1, _⟩ | ⟨a, len, cap, m, n, D, Pl, h1, _, hl, hm, hmm, hyx, cC⟩
          · exact ⟨none, 0, 0, h1, by omega, by omega, by simp, fun h => absurd h (by omega)⟩
          · simp only [if_true] at hmm
            have each : ∀ j, j < len → ∃ us, Rd w w.heap.size E us ∧ ∀ q u, us[q]? = some u → w.cell? ((a.add (j * E.n)).add q) = some u := by
              intro j hj
              obtain ⟨uE, h2, h3⟩ := cC j (by omega)
              rw [h.1.2] at h2
              obtain ⟨_, hlen, mi⟩ := World.cells?_some h2
              have hD : D j ∈ (List.range len).map D := List.mem_map.2 ⟨j, List.mem_range.2 hj, rfl⟩
              refine ⟨uE, rd_open f e E _ _ _ h.1.1 (fun m hm => hfit m (by rw [hyx]; simp only [DataW.weights, hu, List.mem_cons, List.mem_append]; exact .inr (.inl (weights_all _ _ hD m hm)))) h3, fun q u hq => ?_⟩
              have uK := (List.getElem?_eq_some_iff.1 hq).1
              rw [mi q (by rw [← hlen]; exact uK), hq]
            have hr : len * E.lb ≤ 140737488351232 := by
              have h5 := hfit ((((List.range len).map D).length + ((List.range (m - len)).map fun j => D (len + j)).length) * P.bytesOf e) (by rw [hyx]; simp [DataW.weights, hu])
              simp only [List.length_map, List.length_range] at h5
              exact Nat.le_trans (Nat.mul_le_mul (by omega) h.2) h5
            refine ⟨some a, len, cap, h1, hl, by unfold maxLen at hm; omega, hr, fun h0 => ⟨a, rfl, ?_, each⟩⟩
            obtain ⟨us, hu1, hu2⟩ := each 0 h0
            have lF : 0 < E.n := by
              have : ∀ T : Ty, 0 < T.n := by intro T; induction T <;> simp [Ty.n] <;> omega
              exact this E
            have hlen := hu1.len
            have := block_lt_of_cell (hu2 0 us[0] (List.getElem?_eq_getElem (by omega)))
            rwa [aO, aO] at this
        | _ => simp [shB, hu] at h
      | struct fs =>
        have hg : shGo P (shB P f) fs.toList T 0 = true ∧ P.cellsOf t = T.n := by
          cases T <;> simpa [shB, hu] using h
        obtain ⟨xs, n, _, hyx, hlen, hxl, hf⟩ := DataW.trod_struct hu hy
        have h9 := rd_go (H := H) (enc := enc) (w := w) (base := base) (held := held) f (rd_open f) cs n fs.toList T 0 hg.1 (fun x hx => by
          obtain ⟨i, hi, e⟩ := List.getElem_of_mem hx
          have h1 : fs[i]? = some x := by rw [← e]; simp at hi ⊢
          have h2 := hf i x h1
          have h3 : i < xs.length := by rw [hxl]; simpa using hi
          exact ⟨xs[i], fun m hm => hfit m (by
            rw [hyx]
            simp only [DataW.weights, hu]
            exact DataW.weights_mem_each (j := i) (by simp [h1]) (by simp [List.getElem?_eq_getElem h3]) m hm), by rw [h2, List.getElem?_eq_getElem h3]⟩)
        have sD := h9.len
        rw [List.drop_zero] at h9 sD
        have pU : cs.length = T.n := hlen.trans hg.2
        rwa [List.take_of_length_le (by omega)] at h9
      | _ => cases T <;> simp [shB, hu] at h
end

section
open Ty
abbrev settT : Ty := two (arr wC) (two (arr Cv) (two (arr str) (two ew ew)))
abbrev paraT : Ty := two (arr (num .i32)) (two (arr vu) (two (arr aac) (two ew (two ew (two ew (two ew Vo))))))
theorem settShape : shB Tryz.prog 20 26 settT = true := by kernel_rfl
theorem paraShape : shB Tryz.prog 9 31 paraT = true := by kernel_rfl
theorem sett_of {w : World} {B : Nat} {us : List Value} (h : Rd w B settT us) : ∃ x : cX, us = [.slice x.F x.fn x.fc, .slice x.Y x.yn x.yc, .slice x.P x.pn x.pc, .int .i64 x.ev, .int .i64 x.ld] ∧ ix w B x := by
  obtain ⟨_, _, rfl, ⟨A0, n0, c0, rfl, h0⟩, ⟨_, _, rfl, ⟨A1, n1, c1, rfl, h1⟩, ⟨_, _, rfl, ⟨A2, n2, c2, rfl, h2⟩, ⟨_, _, rfl, ⟨x3, rfl, _⟩, ⟨x4, rfl, _⟩⟩⟩⟩⟩ := h
  exact ⟨⟨A0, n0, c0, A1, n1, c1, A2, n2, c2, x3, x4⟩, rfl, ⟨h0, h1, h2⟩⟩
end
theorem para_of {w : World} {us : List Value} (h : Rd w w.heap.size paraT us) : ∃ (x : jW) (ts : List Int), us = x.row.toList ∧ mx w x ts := by
  obtain ⟨_, _, rfl, ⟨A0, n0, c0, rfl, h0⟩, ⟨_, _, rfl, ⟨A1, n1, c1, rfl, h1⟩, ⟨_, _, rfl, ⟨A2, n2, c2, rfl, h2⟩, ⟨_, _, rfl, ⟨x3, rfl, _⟩, ⟨_, _, rfl, ⟨x4, rfl, _⟩, ⟨_, _, rfl, ⟨x5, rfl, _⟩, ⟨_, _, rfl, ⟨x6, rfl, _⟩, ⟨x7, rfl⟩⟩⟩⟩⟩⟩⟩⟩ := h
  obtain ⟨ts, ht⟩ := cM.ints h0
  exact ⟨⟨A0, n0, c0, A1, n1, c1, A2, n2, c2, x3, x4, x5, x6, x7⟩, ts, rfl, ⟨ht, h1, h2⟩⟩
end Go.Proofs.YtpidckelbgbbkaaGreatDoor
