/- The program's choice of a chunk, and the row that a code point falls into. -/
import Derived.Test.YtmbgeeiidpllcaaDoorPchunk
import Derived.Test.YtmbgeeiidpllcaaDoorPlaw
import Derived.Lib.Hide
import Derived.StillTailTactics
import Derived.BigRegion
namespace Go.Proofs.YtmbgeeiidpllcaaDoor
set_option linter.unusedSimpArgs false
open Go.ChangeShapes Go.WideShapes Go.ChangeAt Go.RowKit
set_option maxRecDepth 100000
theorem chunkCells_size : ∀ k, k < 13 → (chunkCells k).size = 220 := by decide +kernel
theorem chunkCells_one (k : Nat) : (chunkCells k).all (·.oneCell') = true := by
  unfold chunkCells
  generalize chunkRows k = l
  rw [List.all_toArray, List.all_flatMap]
  simp [rowCells, Value.oneCell', Function.comp_def]
attribute [local irreducible] chunkCells

theorem chunk_zero : ∃ (i : TypeInfo) (z : Value), Tryd.prog.info? 72 = some i ∧ i.zero = some z ∧ z.cells.size = 220 := by
  obtain ⟨i0, hi, hz0, hz1, hz2⟩ := info_parts chunkInfo
  exact ⟨i0, _, hi, hz0, rfl⟩

/-- where the function ends: the chunk lies in the first new block -/
theorem chunk_done {k : Nat} {z : Array Value} {w w1 : World} {tmps : Array Value} (hk : k < 13) (ht : tmps.getD 2 undef = .pointer (some ⟨w.heap.size, 0, none⟩))
    (hb : Below (w.alloc (.cells z 72)).heap.size (w.alloc (.cells z 72)) w1) :
    bodyPost Tryd.prog Tryd.f61 (fun e w' => e = .returned (.agg (chunkCells k)) ∧ Below w.heap.size w w') .ret ⟨tmps, []⟩ (w1.setRow w.heap.size (chunkCells k)) := by
  refine bodyPost_ret (v := .agg (chunkCells k)) (results_cell_row Tryd.results61 _ _ w.heap.size 72 _ (0, 0) _ ht (setRow_heap _ _ _ _ _ _ ((hb.block _ (by simp)).trans (heap_alloc_new w _))) Tryd.underlying72 rfl (chunkSize.trans (congrArg some (chunkCells_size k hk).symm))) rfl ⟨rfl, ?_⟩
  exact below_setRow (((Below.refl _ _).alloc (Nat.le_refl _) _).trans (hb.mono (by simp))) (Nat.le_refl _) _

set_option maxHeartbeats 1000000 in
theorem chunkAt_any (k : Nat) (hk : k < 13) (w : World) :
    Calls Tryd.prog 61 #[.int .i64 k] w fun e w' => e = .returned (.agg (chunkCells k)) ∧ Below w.heap.size w w' := by
  obtain ⟨i0, z, hi, hz, hzs⟩ := chunk_zero
  have HI := Lib.hid hi
  have HZ := Lib.hid hz
  have HS := Lib.hid hzs
  clear hi hz hzs
  go_enter Tryd.func61, Tryd.ntmps61
  go_wp2_with (first
    | (refine wpList_plain rfl fun K hK => wp_alloc_go 72 rfl HI.out HZ.out (hK _ _ ?_); simp only [Act.put])
    | (refine wpList_store_row rfl _ _ _ rfl w.heap.size _ rfl rfl 72 z.cells ((hb.block _ (by simp)).trans (heap_alloc_new w _)) ?hs1 ?hs2 (chunkCells_one _) ?_; (case hs1 => exact chunkSize.trans (congrArg some (chunkCells_size _ (by omega)).symm)); (case hs2 => exact HS.out.trans (chunkCells_size _ (by omega)).symm))
    | (go_at_call 70; refine (chunk0_any _).mono ?_; rintro e w1 ⟨rfl, hb⟩)
    | (go_at_call 71; refine (chunk1_any _).mono ?_; rintro e w1 ⟨rfl, hb⟩)
    | (go_at_call 72; refine (chunk2_any _).mono ?_; rintro e w1 ⟨rfl, hb⟩)
    | (go_at_call 73; refine (chunk3_any _).mono ?_; rintro e w1 ⟨rfl, hb⟩)
    | (go_at_call 74; refine (chunk4_any _).mono ?_; rintro e w1 ⟨rfl, hb⟩)
    | (go_at_call 75; refine (chunk5_any _).mono ?_; rintro e w1 ⟨rfl, hb⟩)
    | (go_at_call 76; refine (chunk6_any _).mono ?_; rintro e w1 ⟨rfl, hb⟩)
    | (go_at_call 77; refine (chunk7_any _).mono ?_; rintro e w1 ⟨rfl, hb⟩)
    | (go_at_call 78; refine (chunk8_any _).mono ?_; rintro e w1 ⟨rfl, hb⟩)
    | (go_at_call 79; refine (chunk9_any _).mono ?_; rintro e w1 ⟨rfl, hb⟩)
    | (go_at_call 80; refine (chunk10_any _).mono ?_; rintro e w1 ⟨rfl, hb⟩)
    | (go_at_call 81; refine (chunk11_any _).mono ?_; rintro e w1 ⟨rfl, hb⟩)
    | (go_at_call 82; refine (chunk12_any _).mono ?_; rintro e w1 ⟨rfl, hb⟩))
  · obtain rfl : k = 0 := by { have h := ‹((k : Int) == 0) = true›; simp at h; omega }
    exact chunk_done (by omega) rfl hb
  · obtain rfl : k = 1 := by { have h := ‹((k : Int) == 1) = true›; simp at h; omega }
    exact chunk_done (by omega) rfl hb
  · obtain rfl : k = 2 := by { have h := ‹((k : Int) == 2) = true›; simp at h; omega }
    exact chunk_done (by omega) rfl hb
  · obtain rfl : k = 3 := by { have h := ‹((k : Int) == 3) = true›; simp at h; omega }
    exact chunk_done (by omega) rfl hb
  · obtain rfl : k = 4 := by { have h := ‹((k : Int) == 4) = true›; simp at h; omega }
    exact chunk_done (by omega) rfl hb
  · obtain rfl : k = 5 := by { have h := ‹((k : Int) == 5) = true›; simp at h; omega }
    exact chunk_done (by omega) rfl hb
  · obtain rfl : k = 6 := by { have h := ‹((k : Int) == 6) = true›; simp at h; omega }
    exact chunk_done (by omega) rfl hb
  · obtain rfl : k = 7 := by { have h := ‹((k : Int) == 7) = true›; simp at h; omega }
    exact chunk_done (by omega) rfl hb
  · obtain rfl : k = 8 := by { have h := ‹((k : Int) == 8) = true›; simp at h; omega }
    exact chunk_done (by omega) rfl hb
  · obtain rfl : k = 9 := by { have h := ‹((k : Int) == 9) = true›; simp at h; omega }
    exact chunk_done (by omega) rfl hb
  · obtain rfl : k = 10 := by { have h := ‹((k : Int) == 10) = true›; simp at h; omega }
    exact chunk_done (by omega) rfl hb
  · obtain rfl : k = 11 := by { have h := ‹((k : Int) == 11) = true›; simp at h; omega }
    exact chunk_done (by omega) rfl hb
  · have h0 : ¬ ((k : Int) = 0) := by simpa using ‹((k : Int) == 0) = false›
    have h1 : ¬ ((k : Int) = 1) := by simpa using ‹((k : Int) == 1) = false›
    have h2 : ¬ ((k : Int) = 2) := by simpa using ‹((k : Int) == 2) = false›
    have h3 : ¬ ((k : Int) = 3) := by simpa using ‹((k : Int) == 3) = false›
    have h4 : ¬ ((k : Int) = 4) := by simpa using ‹((k : Int) == 4) = false›
    have h5 : ¬ ((k : Int) = 5) := by simpa using ‹((k : Int) == 5) = false›
    have h6 : ¬ ((k : Int) = 6) := by simpa using ‹((k : Int) == 6) = false›
    have h7 : ¬ ((k : Int) = 7) := by simpa using ‹((k : Int) == 7) = false›
    have h8 : ¬ ((k : Int) = 8) := by simpa using ‹((k : Int) == 8) = false›
    have h9 : ¬ ((k : Int) = 9) := by simpa using ‹((k : Int) == 9) = false›
    have h10 : ¬ ((k : Int) = 10) := by simpa using ‹((k : Int) == 10) = false›
    have h11 : ¬ ((k : Int) = 11) := by simpa using ‹((k : Int) == 11) = false›
    obtain rfl : k = 12 := by omega
    exact chunk_done (by omega) rfl hb

theorem lastN_le : ∀ i j, i ≤ j → j < 13 → lastN i ≤ lastN j := by
  have h : ∀ j, j < 13 → ∀ i, i < 14 → i ≤ j → lastN i ≤ lastN j := by decide +kernel
  exact fun i j hij hj => h j hj i (by omega) hij

theorem flat_get : ∀ (l : List (Int × Int × Pr)) (i j : Nat), i < l.length → j < 11 → (l.flatMap rowCells)[11 * i + j]? = (rowCells (l.getD i dfl))[j]?
  | [], _, _, h, _ => absurd h (by simp)
  | x :: l, 0, j, _, hj => by
    rw [List.flatMap_cons, List.getElem?_append_left (by simp [rowCells]; omega)]
    simp
  | x :: l, i + 1, j, h, hj => by
    rw [List.flatMap_cons, List.getElem?_append_right (by simp [rowCells]; omega)]
    have e : 11 * (i + 1) + j - (rowCells x).length = 11 * i + j := by simp [rowCells]; omega
    rw [e]
    exact flat_get l i j (by simpa using h) hj
theorem chunk_get (k i j : Nat) (hk : k < 13) (hi : i < 20) (hj : j < 11) : (chunkCells k)[11 * i + j]? = (rowCells (tabN (20 * k + i)))[j]? := by
  unfold chunkCells
  rw [List.getElem?_toArray, flat_get _ _ _ (by simp [chunkRows, tab_length]; omega) hj]
  congr 2
  unfold chunkRows tabN
  simp only [List.getD_eq_getElem?_getD, List.getElem?_take, List.getElem?_drop, hi, if_true]

/-- what the variable that holds the chunks' last codes reads as -/
def Laid (w : World) : Prop := 0 < w.heap.size ∧ ∀ i, i < 13 → w.cell? ⟨0, i, none⟩ = some (.int .i32 (lastN i))
theorem Laid.below {B : Nat} {w w' : World} (h : Laid w) (hb : Below B w w') (hB : 0 < B) : Laid w' :=
  ⟨Nat.lt_of_lt_of_le h.1 hb.size, fun i hi => (hb.cell (p := ⟨0, i, none⟩) hB).trans (h.2 i hi)⟩

/-- what find tells: the row, and whether it holds the code point -/
def FindIs (r : Int) (x : Int × Int × Pr) (b : Bool) : Prop :=
  match look tab r with
  | some p => b = true ∧ x.2.2 = p ∧ (p.cluster = 13 → x.1 = 44032)
  | none => b = false
def FindEnd (r : Int) (w : World) (e : Ending) (w' : World) : Prop :=
  ∃ (x : Int × Int × Pr) (b : Bool), e = .returned (.tuple #[.agg (rowCells x).toArray, .bool b]) ∧ FindIs r x b ∧ Below w.heap.size w w'
theorem lvt_row : ∀ i, i < 260 → (tabN i).2.2.cluster = 13 → (tabN i).1 = 44032 := by decide +kernel
theorem found_row {r : Int} {lo x : Nat} {P : Int × Int × Pr} (h2 : lo ≤ 13) (h13 : ¬ lo = 13) (hx : x ≤ 19) (h3 : ∀ i, i < lo → lastN i < r) (h4 : ∀ i, lo ≤ i → i < 13 → r ≤ lastN i)
    (x3 : ∀ i, i < x → hiN (20 * lo + i) < r) (x4 : ∀ i, x ≤ i → i < 19 → r ≤ hiN (20 * lo + i)) (hP : tabN (20 * lo + x) = P) : FindIs r P (decide (P.1 ≤ r)) := by
  have hn : 20 * lo + x < 260 := by omega
  have hf : look tab r = if (tabN (20 * lo + x)).1 ≤ r then some (tabN (20 * lo + x)).2.2 else none := by
    refine look_found hn ?_ ?_
    · rcases Nat.eq_zero_or_pos x with h0 | h0
      · subst h0
        rcases Nat.eq_zero_or_pos lo with h1 | h1
        · subst h1; exact .inl rfl
        · refine .inr ?_
          have := h3 (lo - 1) (by omega)
          rw [last_hi _ (by omega)] at this
          rwa [show 20 * lo + 0 - 1 = 20 * (lo - 1) + 19 by omega]
      · refine .inr ?_
        have := x3 (x - 1) (by omega)
        rwa [show 20 * lo + x - 1 = 20 * lo + (x - 1) by omega]
    · rcases Nat.lt_or_ge x 19 with h0 | h0
      · exact x4 x (Nat.le_refl _) h0
      · have := h4 lo (Nat.le_refl _) (by omega)
        rw [last_hi _ (by omega)] at this
        rwa [show x = 19 by omega]
  have hl := lvt_row _ hn
  rw [hP] at hf hl
  unfold FindIs
  rw [hf]
  by_cases hc : P.1 ≤ r
  · rw [if_pos hc]
    exact ⟨by simp [hc], rfl, hl⟩
  · rw [if_neg hc]
    simp [hc]

set_option maxHeartbeats 1000000 in
theorem find_any (r : Int) (w : World) (hl : Laid w) :
    Calls Tryd.prog 41 #[.int .i32 r] w (FindEnd r w) := by
  obtain ⟨h0, hl⟩ := hl
  go_enter Tryd.func41, Tryd.ntmps41
  go_wp2
  go_loop [4, 5] (fun a b => ∃ lo hi : Nat, lo ≤ hi ∧ hi ≤ 13 ∧ a = .int .i64 lo ∧ b = .int .i64 hi ∧ (∀ i, i < lo → lastN i < r) ∧ (∀ i, hi ≤ i → i < 13 → r ≤ lastN i)) (fun a b => (intOf b - intOf a).toNat)
  case atStart => exact ⟨0, 13, by omega, by omega, rfl, rfl, fun i hi => by omega, fun i h1 h2 => by omega⟩
  case round =>
    obtain ⟨lo, hi, h1, h2, rfl, rfl, h3, h4⟩ := hrel
    have H3 := Lib.hid h3
    have H4 := Lib.hid h4
    clear h3 h4
    by_cases hlt : lo < hi
    · have hc : w.cell? ⟨0, (lo + hi) / 2, none⟩ = some (.int .i32 (lastN ((lo + hi) / 2))) := hl _ (by omega)
      clear hl
      go_wp2
      · go_round
        case rel => exact ⟨(lo + hi) / 2 + 1, hi, by omega, by omega, by go_num, rfl, fun i hi' => Int.lt_of_le_of_lt (lastN_le i ((lo + hi) / 2) (by omega) (by omega)) (by assumption), H4.out⟩
        case measure => simp [intOf]; omega
      · go_round
        case rel => exact ⟨lo, (lo + hi) / 2, by omega, by omega, rfl, by go_num, H3.out, fun i h1' h2' => Int.le_trans (by assumption) (lastN_le ((lo + hi) / 2) i h1' h2')⟩
        case measure => simp [intOf]; omega
    · obtain rfl : lo = hi := by omega
      by_cases h13 : lo = 13
      · subst h13
        clear hl
        go_wp2
        refine bodyPost_ret (v := .tuple #[.agg (rowCells (0, 0, ⟨0, 0, 0, 0, 0, 0, 0, 0, false⟩)).toArray, .bool false]) (by simp [results, Tryd.results41, go_sem, rowCells]) rfl ⟨(0, 0, ⟨0, 0, 0, 0, 0, 0, 0, 0, false⟩), _, rfl, ?_, ?_⟩
        · unfold FindIs
          rw [look_beyond (H3.out 12 (by omega))]
        · (repeat (first | (with_reducible refine Below.setCell ?_ ?_ _) | (with_reducible refine Below.alloc ?_ ?_ _) | (with_reducible refine Below.drew ?_) | (with_reducible exact Below.refl _ _) | (with_reducible exact HB.out) | (with_reducible exact Nat.le_refl _) | omega | (simp; omega) | simp))
      · have h13b : (((lo : Int)) == 13) = false := by simp; omega
        obtain ⟨i0, z, hi, hz, hzs⟩ := chunk_zero
        have HI := Lib.hid hi
        have HZ := Lib.hid hz
        have HS := Lib.hid hzs
        clear hi hz hzs hl
        go_wp2_with (first
          | (go_at_call 61; refine (chunkAt_any lo (by omega) _).mono ?_; rintro e w1 ⟨rfl, hb⟩)
          | (refine wpList_plain rfl fun K hK => wp_alloc_go 72 rfl HI.out HZ.out (hK _ _ ?_); simp only [Act.put])
          | (refine wpList_store_row rfl _ _ _ rfl w1.heap.size _ rfl rfl 72 z.cells (heap_alloc_new w1 _) ?hs1 ?hs2 (chunkCells_one _) ?_; (case hs1 => exact chunkSize.trans (congrArg some (chunkCells_size _ (by omega)).symm)); (case hs2 => exact HS.out.trans (chunkCells_size _ (by omega)).symm); generalize hW2 : World.setRow _ _ _ = W2; have HW2 := Lib.hid hW2; clear hW2))
        have hz1 : w.heap.size < w1.heap.size := by have := hb.size; simp only [World.size_alloc] at this; omega
        have hg2 : W2.heap[w1.heap.size]? = some (.cells (chunkCells lo) 72 (0, 0)) := by rw [← HW2.out]; exact setRow_heap _ _ _ _ _ _ (heap_alloc_new w1 _)
        have hg0 : W2.heap[w.heap.size]? = some (.cells (rowCells (0, 0, ⟨0, 0, 0, 0, 0, 0, 0, 0, false⟩)).toArray 53 (0, 0)) := by
          rw [← HW2.out, setRow_other _ _ _ _ (by omega), Below.heap_alloc _ _ _ hz1]
          exact (hb.block _ (by simp)).trans (heap_alloc_new w _)
        have hB : Below w.heap.size w W2 := by
          rw [← HW2.out]
          exact below_setRow ((((Below.refl _ _).alloc (Nat.le_refl _) _).trans (hb.mono (by simp))).alloc (by omega) _) (by omega) _
        have hs2 : w1.heap.size < W2.heap.size := (Array.getElem?_eq_some_iff.1 hg2).1
        have hcell : ∀ i j, i < 20 → j < 11 → W2.cell? ⟨w1.heap.size, i * 11 + j, none⟩ = (rowCells (tabN (20 * lo + i)))[j]? := fun i j hi hj => by
          rw [Nat.mul_comm, cell_of_row _ _ _ _ _ _ hg2]; exact chunk_get lo i j (by omega) hi hj
        have HG0 := Lib.hid hg0
        have HG2 := Lib.hid hg2
        have HB := Lib.hid hB
        have HC := Lib.hid hcell
        clear hg0 hg2 hB hcell hb HW2 HI HZ HS
        generalize w1.heap.size = g2 at *
        clear w1
        go_loop [4, 5] (fun a b => ∃ x y : Nat, x ≤ y ∧ y ≤ 19 ∧ a = .int .i64 x ∧ b = .int .i64 y ∧ (∀ i, i < x → hiN (20 * lo + i) < r) ∧ (∀ i, y ≤ i → i < 19 → r ≤ hiN (20 * lo + i))) (fun a b => (intOf b - intOf a).toNat)
        case atStart => exact ⟨0, 19, by omega, by omega, rfl, rfl, fun i hi => by omega, fun i h1 h2 => by omega⟩
        case round =>
          obtain ⟨x, y, hx1, hx2, rfl, rfl, hx3, hx4⟩ := hrel
          have X3 := Lib.hid hx3
          have X4 := Lib.hid hx4
          clear hx3 hx4
          by_cases hlt2 : x < y
          · have hc : W2.cell? ⟨g2, (x + y) / 2 * 11 + 1, none⟩ = some (.int .i32 (hiN (20 * lo + (x + y) / 2))) := HC.out _ 1 (by omega) (by omega)
            go_wp2
            · go_round
              case rel => exact ⟨(x + y) / 2 + 1, y, by omega, by omega, by go_num, rfl, fun i hi' => Int.lt_of_le_of_lt (hiN_le (i := 20 * lo + i) (j := 20 * lo + (x + y) / 2) (by omega) (by omega)) (by assumption), X4.out⟩
              case measure => simp [intOf]; omega
            · go_round
              case rel => exact ⟨x, (x + y) / 2, by omega, by omega, rfl, by go_num, X3.out, fun i h1' h2' => Int.le_trans (by assumption) (hiN_le (i := 20 * lo + (x + y) / 2) (j := 20 * lo + i) (by omega) (by omega))⟩
              case measure => simp [intOf]; omega
          · obtain rfl : x = y := by omega
            generalize hP : tabN (20 * lo + x) = P at *
            have HP := Lib.hid hP
            clear hP
            have c0 : W2.cell? ⟨g2, x * 11, none⟩ = some ((rowCells (P)).getD 0 undef) := HP.out ▸ HC.out x 0 (by omega) (by omega)
            have c1 : W2.cell? ⟨g2, x * 11 + 1, none⟩ = some ((rowCells (P)).getD 1 undef) := HP.out ▸ HC.out x 1 (by omega) (by omega)
            have c2 : W2.cell? ⟨g2, x * 11 + 2, none⟩ = some ((rowCells (P)).getD 2 undef) := HP.out ▸ HC.out x 2 (by omega) (by omega)
            have c3 : W2.cell? ⟨g2, x * 11 + 3, none⟩ = some ((rowCells (P)).getD 3 undef) := HP.out ▸ HC.out x 3 (by omega) (by omega)
            have c4 : W2.cell? ⟨g2, x * 11 + 4, none⟩ = some ((rowCells (P)).getD 4 undef) := HP.out ▸ HC.out x 4 (by omega) (by omega)
            have c5 : W2.cell? ⟨g2, x * 11 + 5, none⟩ = some ((rowCells (P)).getD 5 undef) := HP.out ▸ HC.out x 5 (by omega) (by omega)
            have c6 : W2.cell? ⟨g2, x * 11 + 6, none⟩ = some ((rowCells (P)).getD 6 undef) := HP.out ▸ HC.out x 6 (by omega) (by omega)
            have c7 : W2.cell? ⟨g2, x * 11 + 7, none⟩ = some ((rowCells (P)).getD 7 undef) := HP.out ▸ HC.out x 7 (by omega) (by omega)
            have c8 : W2.cell? ⟨g2, x * 11 + 8, none⟩ = some ((rowCells (P)).getD 8 undef) := HP.out ▸ HC.out x 8 (by omega) (by omega)
            have c9 : W2.cell? ⟨g2, x * 11 + 9, none⟩ = some ((rowCells (P)).getD 9 undef) := HP.out ▸ HC.out x 9 (by omega) (by omega)
            have c10 : W2.cell? ⟨g2, x * 11 + 10, none⟩ = some ((rowCells (P)).getD 10 undef) := HP.out ▸ HC.out x 10 (by omega) (by omega)
            have d0 : W2.cell? ⟨w.heap.size, 0, none⟩ = some ((rowCells (0, 0, ⟨0, 0, 0, 0, 0, 0, 0, 0, false⟩)).getD 0 undef) := cell_of_row _ _ _ _ _ _ HG0.out
            have e0 : W2.frozen? ⟨w.heap.size, 0, none⟩ = false := frozen_of_row _ _ _ _ _ HG0.out
            have d1 : W2.cell? ⟨w.heap.size, 1, none⟩ = some ((rowCells (0, 0, ⟨0, 0, 0, 0, 0, 0, 0, 0, false⟩)).getD 1 undef) := cell_of_row _ _ _ _ _ _ HG0.out
            have e1 : W2.frozen? ⟨w.heap.size, 1, none⟩ = false := frozen_of_row _ _ _ _ _ HG0.out
            have d2 : W2.cell? ⟨w.heap.size, 2, none⟩ = some ((rowCells (0, 0, ⟨0, 0, 0, 0, 0, 0, 0, 0, false⟩)).getD 2 undef) := cell_of_row _ _ _ _ _ _ HG0.out
            have e2 : W2.frozen? ⟨w.heap.size, 2, none⟩ = false := frozen_of_row _ _ _ _ _ HG0.out
            have d3 : W2.cell? ⟨w.heap.size, 3, none⟩ = some ((rowCells (0, 0, ⟨0, 0, 0, 0, 0, 0, 0, 0, false⟩)).getD 3 undef) := cell_of_row _ _ _ _ _ _ HG0.out
            have e3 : W2.frozen? ⟨w.heap.size, 3, none⟩ = false := frozen_of_row _ _ _ _ _ HG0.out
            have d4 : W2.cell? ⟨w.heap.size, 4, none⟩ = some ((rowCells (0, 0, ⟨0, 0, 0, 0, 0, 0, 0, 0, false⟩)).getD 4 undef) := cell_of_row _ _ _ _ _ _ HG0.out
            have e4 : W2.frozen? ⟨w.heap.size, 4, none⟩ = false := frozen_of_row _ _ _ _ _ HG0.out
            have d5 : W2.cell? ⟨w.heap.size, 5, none⟩ = some ((rowCells (0, 0, ⟨0, 0, 0, 0, 0, 0, 0, 0, false⟩)).getD 5 undef) := cell_of_row _ _ _ _ _ _ HG0.out
            have e5 : W2.frozen? ⟨w.heap.size, 5, none⟩ = false := frozen_of_row _ _ _ _ _ HG0.out
            have d6 : W2.cell? ⟨w.heap.size, 6, none⟩ = some ((rowCells (0, 0, ⟨0, 0, 0, 0, 0, 0, 0, 0, false⟩)).getD 6 undef) := cell_of_row _ _ _ _ _ _ HG0.out
            have e6 : W2.frozen? ⟨w.heap.size, 6, none⟩ = false := frozen_of_row _ _ _ _ _ HG0.out
            have d7 : W2.cell? ⟨w.heap.size, 7, none⟩ = some ((rowCells (0, 0, ⟨0, 0, 0, 0, 0, 0, 0, 0, false⟩)).getD 7 undef) := cell_of_row _ _ _ _ _ _ HG0.out
            have e7 : W2.frozen? ⟨w.heap.size, 7, none⟩ = false := frozen_of_row _ _ _ _ _ HG0.out
            have d8 : W2.cell? ⟨w.heap.size, 8, none⟩ = some ((rowCells (0, 0, ⟨0, 0, 0, 0, 0, 0, 0, 0, false⟩)).getD 8 undef) := cell_of_row _ _ _ _ _ _ HG0.out
            have e8 : W2.frozen? ⟨w.heap.size, 8, none⟩ = false := frozen_of_row _ _ _ _ _ HG0.out
            have d9 : W2.cell? ⟨w.heap.size, 9, none⟩ = some ((rowCells (0, 0, ⟨0, 0, 0, 0, 0, 0, 0, 0, false⟩)).getD 9 undef) := cell_of_row _ _ _ _ _ _ HG0.out
            have e9 : W2.frozen? ⟨w.heap.size, 9, none⟩ = false := frozen_of_row _ _ _ _ _ HG0.out
            have d10 : W2.cell? ⟨w.heap.size, 10, none⟩ = some ((rowCells (0, 0, ⟨0, 0, 0, 0, 0, 0, 0, 0, false⟩)).getD 10 undef) := cell_of_row _ _ _ _ _ _ HG0.out
            have e10 : W2.frozen? ⟨w.heap.size, 10, none⟩ = false := frozen_of_row _ _ _ _ _ HG0.out
            simp only [rowCells, List.getD_cons_zero, List.getD_cons_succ] at c0 c1 c2 c3 c4 c5 c6 c7 c8 c9 c10 d0 d1 d2 d3 d4 d5 d6 d7 d8 d9 d10
            have hne : ¬ (g2 = w.heap.size) := by omega
            have hne' : ¬ (w.heap.size = g2) := by omega
            go_wp2
            go_region
            go_wp2
            refine bodyPost_ret (v := .tuple #[.agg (rowCells P).toArray, .bool (decide (P.1 ≤ r))]) (by simp [results, Tryd.results41, go_sem, rowCells, d0, d1, d2, d3, d4, d5, d6, d7, d8, d9, d10]) rfl ⟨P, _, rfl, found_row h2 h13 hx2 H3.out H4.out X3.out X4.out HP.out, ?_⟩
            (repeat (first | (with_reducible refine Below.setCell ?_ ?_ _) | (with_reducible refine Below.alloc ?_ ?_ _) | (with_reducible refine Below.drew ?_) | (with_reducible exact Below.refl _ _) | (with_reducible exact HB.out) | (with_reducible exact Nat.le_refl _) | omega | (simp; omega) | simp))
end Go.Proofs.YtmbgeeiidpllcaaDoor
