/- Chapter 20: the reference's In without patterns. -/
import Derived.Test.YtgianjnccpbnaaaDoorNin
namespace Go.Proofs.YtgianjnccpbnaaaDoor
open Go.ChangeShapes Go.WideShapes Go.ChangeAt Go.RowKit
set_option maxRecDepth 100000
set_option linter.unusedSimpArgs false

theorem own_oneN (w : World) (e : TypeId) (k : IntKind) (B : Nat) (hB : B ≤ w.heap.size) (x : Int) : Own (w.alloc (.cells #[.int k x] e)) B e k (some ⟨w.heap.size, 0, none⟩) 1 1 [x] :=
  ⟨by simp, .inr ⟨w.heap.size, 1, #[.int k x], rfl, hB, heap_alloc_new w _, by omega, by unfold maxLen; omega, by simp, by simp⟩⟩
theorem rsmall_any (r : Int) (h1 : -2147483648 ≤ r) (h2 : r ≤ 2147483647) (w : World) : Calls Tryd.prog 36 #[.int .i32 r] w fun e w' => e = .returned (.int .i32 (if 65 ≤ r ∧ r ≤ 90 then r + 32 else r)) ∧ w = w' := by
  go_enter Tryd.func36, Tryd.ntmps36
  go_wp2
  all_goals go_ret
  all_goals refine ⟨reti ?_, rfl⟩
  all_goals first | rfl | omega
theorem nth_zeros (n j : Nat) : nth (List.replicate n (0 : Int)) j = 0 := by
  unfold nth
  rw [List.getD_eq_getElem?_getD, List.getElem?_replicate]
  split <;> rfl
set_option maxHeartbeats 4000000 in
theorem rpointsNil_any (A : Option Addr) (n c : Nat) (ys : List Int) (w : World) (hx : SliceIn .i32 w A n c ys) (hn : n ≤ 1000) :
    Calls Tryd.prog 20 #[.slice none 0 0, .slice A n c] w fun e w' => e = .returned (.slice none 0 0) ∧ Below w.heap.size w w' := by
  have HX : Shut _ := ⟨hx⟩
  clear hx
  by_cases hbig : 64 < n
  · go_enter Tryd.func20, Tryd.ntmps20
    go_wp2_with fail
    go_ret
    exact ⟨rfl, Below.refl _ _⟩
  · have hb2 : ¬ (64 : Int) < (n : Int) := by omega
    go_enter Tryd.func20, Tryd.ntmps20
    go_wp2_with fail
    go_loopg [6, 7] (n + 1) (fun g v6 v7 wr => ∃ (k : Nat) (ts : List Int) (A1 : Option Addr) (c1 : Nat), n - k < g ∧ k ≤ n ∧ v6 = .slice A1 (k + 1) c1 ∧ v7 = .int .i64 (k : Int) ∧ Shut (Own wr w.heap.size 21 .i32 A1 (k + 1) c1 ts) ∧ Shut (Below w.heap.size w wr))
    case atStart => exact ⟨0, [46], some ⟨w.heap.size, 0, none⟩, 1, by omega, by omega, rfl, rfl, ⟨own_oneN w _ _ _ (Nat.le_refl _) _⟩, ⟨(Below.refl w.heap.size w).alloc (Nat.le_refl _) _⟩⟩
    case round =>
      obtain ⟨k, ts, A1, c1, hg, hk, rfl, rfl, OT, BE⟩ := hrel
      have hwz : w.heap.size ≤ wr.heap.size := BE.out.size
      by_cases hlt : k < n
      · have HXr := HX.out.pass BE.out
        obtain ⟨g1, g2⟩ := bounds_i32 (HX.out.nth_wf hlt)
        obtain ⟨ad, hA, hab, hcx⟩ := HXr.at_.2 (by omega)
        subst hA
        have hc := hcx k hlt
        have CS : Shut (∀ W, _) := ⟨fun W => rsmall_any (nth ys k) g1 g2 W⟩
        generalize nth ys k = r at *
        generalize (if 65 ≤ r ∧ r ≤ 90 then r + 32 else r) = q at *
        clear hcx HXr
        go_wp2_with fail
        refine (CS.out _).mono ?_
        rintro e w2 ⟨rfl, rfl⟩
        go_wp2_with (at_builtin; refine wpList_push TI32d rfl (.tmp 24) (.tmp 30) rfl rfl (Own.alloc OT.out _) rfl (cell_new _ _ _) (by omega) (by simp; omega) ?_; intro A4 c4 w4 o4 b4; have O4 : Shut _ := ⟨o4⟩; have B4 : Shut _ := ⟨b4⟩; clear o4 b4)
        go_roundg (n - k)
        case measure => omega
        case rel => exact ⟨k + 1, ts ++ [q], A4, c4, by omega, by omega, rfl, by go_num, O4, ⟨(BE.out.alloc hwz _).trans B4.out⟩⟩
      · obtain rfl : k = n := by omega
        have zz : (Tryd.prog.info? 3).map (·.zero) = some (some (.int .i64 0)) := by kernel_rfl
        have zz : Shut _ := ⟨zz⟩
        go_wp2_with (first
          | (at_builtin; refine wpList_push TI32d rfl (.tmp 32) (.tmp 33) rfl rfl (Own.alloc OT.out _) rfl (cell_new _ _ _) (by omega) (by simp; omega) ?_; intro A4 c4 w4 o4 b4; have z4 := b4.size; have O4 : Shut _ := ⟨o4⟩; have B4 : Shut _ := ⟨b4⟩; clear o4 b4)
          | (refine wpList_makeInts TI64n zz.out rfl (.tmp 36) (.tmp 36) rfl (k + 3) rfl rfl (by go_num) (by go_num) (by omega) w.heap.size (by simp at z4; omega) ?_; intro g5 w5 o5 b5; have O5 : Shut _ := ⟨o5⟩; have B5 : Shut _ := ⟨b5⟩; clear o5 b5))
        have B6 : Shut (Below w.heap.size w w5) := ⟨((BE.out.alloc hwz _).trans B4.out).trans B5.out⟩
        go_loopg [9] 1 (fun g v wr => v = .int .i64 0 ∧ wr = w5)
        case atStart => exact ⟨rfl, rfl⟩
        case round =>
          obtain ⟨rfl, rfl⟩ := hrel
          go_wp2_with fail
          go_loopg [12, 13] (k + 1) (fun g v12 v13 wr2 => ∃ i : Nat, 2 ≤ i ∧ k + 1 ≤ i + g ∧ i ≤ k + 2 ∧ v12 = .slice none 0 0 ∧ v13 = .int .i64 (i : Int) ∧ wr2 = wr)
          case atStart => exact ⟨2, by omega, by omega, by omega, rfl, rfl, rfl⟩
          case round =>
            obtain ⟨i, hi2, hig, hik, rfl, rfl, rfl⟩ := hrel
            by_cases hi : i + 3 ≤ k
            · have hc := own_cellN O5.out (j := i + 1) (by omega)
              rw [nth_zeros] at hc
              have i1 : (i : Int) ≤ (k : Int) - 3 := by omega
              have i3 : (i : Int) + 1 < (k : Int) + 3 := by omega
              go_wp2_with fail
              go_roundg (gk - 1)
              case measure => omega
              case rel => exact ⟨i + 1, by omega, by omega, by omega, rfl, by go_num, rfl⟩
            · have i1 : ¬ (i : Int) ≤ (k : Int) - 3 := by omega
              clear hi
              go_wp2_with fail
              go_ret
              exact ⟨rfl, B6.out⟩

/-- make([]T, n) of elements of one cell -/
theorem wpList_makeVs {P : Program} {w : World} {ops : Array Oper} {rest : List Oper} {o : Oper} {a : Act} {Q : Exit → Act → World → Prop} {t e : TypeId} {bytes : Nat} {z0 : Value} (T : SliceOf P t e 1 bytes) (hz0 : (P.info? e).map (·.zero) = some (some z0)) (hc0 : z0.cells = #[z0]) (hgd : o.guard = none) (l c : Operand)
    (ho : o.op = .makeSlice t l c) {kl kc : IntKind} {L C : Int} (n : Nat) (hl : a.eval l = .int kl L) (hc : a.eval c = .int kc C) (hL : L = (n : Int)) (hC : C = (n : Int)) (hn : n * bytes ≤ 140737488355328) (B : Nat) (hB : B ≤ w.heap.size)
    (h : ∀ g w', OwnV w' B e 1 (some ⟨g, 0, none⟩) n n (List.replicate n z0) → Below B w w' → wpList P ops Q rest (a.put o.dst (.slice (some ⟨g, 0, none⟩) n n)) w') : wpList P ops Q (o :: rest) a w := by
  obtain ⟨i, z, hi, hz, hsz, hby, hzs⟩ := T.info
  have hpb := T.posb
  have hn1 : n ≤ 140737488355328 := by
    have h2 : n * 1 ≤ n * bytes := Nat.mul_le_mul_left _ hpb
    omega
  have hzz : z = z0 := by
    rw [hi] at hz0
    simp [hz] at hz0
    exact hz0
  refine wpList_make_full w hgd l c t ho B e i z 1 T.ht hi hz hsz kl kc L C n hl hc hL hC (by rw [hby, Nat.mul_comm]; omega) (by unfold maxLen; omega) hB fun w' h1 h2 =>
    h _ w' ?_ ((Below.refl B w).grown h2 hB (fun k hk => by cases hk))
  subst hzz
  unfold OwnV
  have e1 : (madeCells z.cells (n * 1)).toList = List.replicate n z := by
    rw [Nat.mul_one, hc0]
    exact toList_madeCells_one _ _
  rw [e1] at h1
  exact h1
theorem TBn : SliceOf Tryd.prog 45 4 1 1 := sliceOf_mk Tryd.underlying45 (z := .bool false) (by kernel_rfl) rfl (by omega) (by omega)
theorem OwnV.setV {w : World} {B n c : Nat} {e : TypeId} {g : Nat} {vs : List Value} (h : OwnV w B e 1 (some ⟨g, 0, none⟩) n c vs) (j : Nat) (u : Value) : OwnV (w.setCell ⟨g, j, none⟩ u) B e 1 (some ⟨g, 0, none⟩) n c (vs.set j u) :=
  (World.ownsRow.stored (cap := c) h j u).1
/-- the marks of the places behind soft hyphens, those of the first k signs set -/
def hitsV (xs : List Int) (k : Nat) : List Value := (List.range (xs.length + 1)).map fun j => .bool (decide (j ≤ k) && hitB xs j)
theorem hitsV_len (xs : List Int) (k : Nat) : (hitsV xs k).length = xs.length + 1 := by simp [hitsV]
theorem hitsV_at {xs : List Int} {k j : Nat} (h : j < xs.length + 1) : (hitsV xs k)[j]? = some (.bool (decide (j ≤ k) && hitB xs j)) := by
  simp [hitsV, h]
theorem hitsV_zero (xs : List Int) : List.replicate (xs.length + 1) (Value.bool false) = hitsV xs 0 := by
  apply List.ext_getElem?
  intro j
  rw [List.getElem?_replicate]
  by_cases h : j < xs.length + 1
  · rw [hitsV_at h, if_pos h]
    congr 2
    cases j with
    | zero => simp [hitB]
    | succ j => simp
  · rw [if_neg h, List.getElem?_eq_none (by rw [hitsV_len]; omega)]
theorem hitsV_no {xs : List Int} {k : Nat} (h : hitB xs (k + 1) = false) : hitsV xs (k + 1) = hitsV xs k := by
  unfold hitsV
  apply List.map_congr_left
  intro j _
  congr 1
  by_cases hj : j = k + 1
  · subst hj; rw [h]; simp
  · congr 1
    rw [Bool.eq_iff_iff]; simp; omega
theorem hitsV_yes {xs : List Int} {k : Nat} (h : hitB xs (k + 1) = true) (hk : k + 1 < xs.length + 1) : hitsV xs (k + 1) = (hitsV xs k).set (k + 1) (.bool true) := by
  apply List.ext_getElem?
  intro j
  by_cases hj : j < xs.length + 1
  · rw [hitsV_at hj, List.getElem?_set, hitsV_len]
    by_cases he : k + 1 = j
    · subst he
      rw [if_pos rfl, if_pos hk, h]; simp
    · rw [if_neg he, hitsV_at hj]
      congr 3
      rw [Bool.eq_iff_iff]; simp; omega
  · rw [List.getElem?_eq_none (by rw [hitsV_len]; omega), List.getElem?_eq_none (by rw [List.length_set, hitsV_len]; omega)]
end Go.Proofs.YtgianjnccpbnaaaDoor
