/- Chapter 8: the kind of a stretch, both ways. -/
import Derived.Test.YtefajgfhdnhmmaaDoorWi
namespace Go.Proofs.YtefajgfhdnhmmaaDoor
open Go.ChangeShapes Go.WideShapes Go.ChangeAt Go.RowKit
set_option maxRecDepth 100000
set_option linter.unusedSimpArgs false

theorem word_le (r : Int) : 0 ≤ wdOf r ∧ wdOf r ≤ 7 := by
  unfold wdOf
  have h : tab.all (fun x => decide (0 ≤ x.2.2.word ∧ x.2.2.word ≤ 7)) = true := by decide +kernel
  cases hl : look tab r with
  | none => rw [propOf_none hl]; decide
  | some p =>
    obtain ⟨lo, hi, h1, _, _⟩ := look_mem _ _ _ hl
    have := of_decide_eq_true (List.all_eq_true.1 h _ h1)
    rw [propOf_some hl]
    split <;> exact this

/-- eight flags -/
def flags (ws : List Int) (f k : Nat) : List Value := (List.range 8).map fun (j : Nat) => Value.bool (hasF ws (j : Int) f k)
theorem flags_len (ws : List Int) (f k : Nat) : (flags ws f k).length = 8 := by simp [flags]
theorem flags_zero (ws : List Int) (f : Nat) : flags ws f 0 = List.replicate 8 (.bool false) := rfl
theorem flags_at (ws : List Int) (f k : Nat) {j : Nat} (h : j < 8) : (flags ws f k)[j]? = some (.bool (hasF ws (j : Int) f k)) := by simp [flags, h]
theorem flags_set {ws : List Int} {f k q : Nat} (h : nth ws (f + k) = (q : Int)) : (flags ws f k).set q (.bool true) = flags ws f (k + 1) := by
  refine List.ext_getElem? fun j => ?_
  rw [List.getElem?_set]
  rcases Nat.lt_or_ge j 8 with hj | hj
  · rw [flags_at _ _ _ hj, flags_at _ _ _ hj, hasF_snoc, h, flags_len]
    by_cases hq : q = j
    · subst hq; simp [hj]
    · rw [if_neg hq]
      have : ((q : Int) == (j : Int)) = false := by simp; omega
      rw [this, Bool.or_false]
  · rw [List.getElem?_eq_none (by rw [flags_len]; exact hj), List.getElem?_eq_none (by rw [flags_len]; exact hj), flags_len]
    by_cases hq : q = j
    · rw [if_pos hq, if_neg (by omega)]
    · rw [if_neg hq]
theorem kindK_1 (b c : Bool) : kindK true b c = 1 := rfl
theorem kindK_2 (c : Bool) : kindK false true c = 2 := rfl

set_option maxHeartbeats 4000000 in
theorem pkindS_any (A : Option Addr) (n c : Nat) (xs : List Int) (f t : Int) (w : World) (hx : SliceIn .i32 w A n c xs) (hl : Laid w) (hn : n ≤ 140737488355328) :
    Calls Tryd.prog 16 #[.slice A n c, .agg #[.int .i64 f, .int .i64 t]] w fun e w' => e = .returned (.int .i64 (kindC (wds xs) f t)) ∧ Below w.heap.size w w' := by
  have hwl : (wds xs).length = n := by rw [wds_len]; exact hx.at_.len
  by_cases hout : f < 0 ∨ (n : Int) < t ∨ t ≤ f
  · rw [kindC_out (by rw [hwl]; exact hout)]
    clear hx hl hwl
    by_cases h1 : f < 0
    · go_enter Tryd.func16, Tryd.ntmps16
      go_wp2_with fail
      go_ret
      exact ⟨rfl, below_alloc w _⟩
    · by_cases h2 : t ≤ f
      · go_enter Tryd.func16, Tryd.ntmps16
        go_wp2_with fail
        go_ret
        exact ⟨rfl, below_alloc w _⟩
      · have h3 : (n : Int) < t := by omega
        clear hout
        go_enter Tryd.func16, Tryd.ntmps16
        go_wp2_with fail
        go_ret
        exact ⟨rfl, below_alloc w _⟩
  · obtain ⟨fn, rfl⟩ : ∃ fn : Nat, f = fn := ⟨f.toNat, by omega⟩
    obtain ⟨d, hd⟩ : ∃ d : Nat, t = ((fn + d : Nat) : Int) := ⟨t.toNat - fn, by omega⟩
    subst hd
    have hd0 : 0 < d := by omega
    have hdn : fn + d ≤ n := by omega
    rw [kindC_in (by rw [hwl]; exact hdn) hd0]
    have HL := Lib.hid hl
    have HLEN := Lib.hid hx.at_.len
    have hle := hx.le
    obtain ⟨A2, c2, CH⟩ := cut_lh TI32w A n c fn (fn + d) (by omega) hdn hle fn ((fn + d : Nat) : Int) rfl rfl
    have rh := CH.run
    have SH := Lib.hid (CH.sliceIn hx)
    rw [show fn + d - fn = d by omega] at rh SH
    have hmn : d ≤ 140737488355328 := by omega
    obtain ⟨t, ht⟩ : ∃ t, fn + d = t := ⟨_, rfl⟩
    have HT := Lib.hid ht
    rw [ht] at rh SH hdn ⊢
    have l1 : ¬ (t : Int) ≤ (fn : Int) := by omega
    have l2 : ¬ (n : Int) < (t : Int) := by omega
    have hBase : w.heap.size + 1 ≤ (w.alloc (.cells #[.int .i64 (fn : Int), .int .i64 (t : Int)] 24)).heap.size := by simp
    clear hx hl CH hout hwl ht
    go_enter Tryd.func16, Tryd.ntmps16
    go_wp2_with fail
    go_loopw [34] (fun v wr => ∃ k : Nat, k ≤ d ∧ v = .int .i64 k ∧ OwnV wr (w.heap.size + 1) 68 1 (some ⟨w.heap.size + 1, 0, none⟩) 8 8 (flags (wds xs) fn k) ∧ Below w.heap.size w wr) (fun v _ => d - (intOf v).toNat)
    case atStart =>
      refine ⟨0, Nat.zero_le _, rfl, ?_, ?_⟩
      · rw [flags_zero]
        refine ⟨rfl, .inr ⟨w.heap.size + 1, 8, #[.bool false, .bool false, .bool false, .bool false, .bool false, .bool false, .bool false, .bool false], rfl, Nat.le_refl _, ?_, by omega, by unfold maxLen; omega, rfl, rfl⟩⟩
        have := heap_alloc_new (w.alloc (.cells #[.int .i64 (fn : Int), .int .i64 (t : Int)] 24)) (.cells #[.bool false, .bool false, .bool false, .bool false, .bool false, .bool false, .bool false, .bool false] 68)
        rw [show (w.alloc (.cells #[.int .i64 (fn : Int), .int .i64 (t : Int)] 24)).heap.size = w.heap.size + 1 by simp] at this
        exact this
      · exact (below_alloc w _).alloc (by simp) _
    case round =>
      obtain ⟨k, hk, rfl, ho, hb⟩ := hrel
      have HO := Lib.hid ho
      have HB := Lib.hid hb
      by_cases hlt : k < d
      · obtain ⟨ad, rfl, hab, hcx⟩ := (SH.out.at_.below hb).2 (by omega)
        have hc := hcx k hlt
        obtain ⟨h1, h2⟩ := bounds_i32 (SH.out.nth_wf hlt)
        have er : nth ((xs.take t).drop fn) k = nth xs (fn + k) := nth_cut (by have := HT.out; omega)
        rw [er] at hc h1 h2
        have ew := wds_at (xs := xs) (i := fn + k) (by rw [HLEN.out]; have := HT.out; omega)
        have O := Lib.hid (pOf_lit (nth xs (fn + k)) h1 h2 wr (HL.out.pass hb))
        obtain ⟨g1, g2⟩ := word_le (nth xs (fn + k))
        have eb : (propOf (nth xs (fn + k))).word = wdOf (nth xs (fn + k)) := rfl
        rw [eb] at O
        generalize nth xs (fn + k) = r at *
        obtain ⟨q, hq⟩ : ∃ q : Nat, wdOf r = q := ⟨(wdOf r).toNat, by omega⟩
        rw [hq] at O ew
        have hq8 : q < 8 := by omega
        have EF := Lib.hid (flags_set ew)
        clear hcx h1 h2 er eb hb ew g1 g2 hq ho
        have l3 : (q : Int) < 8 := by omega
        go_wp2_with fail
        refine O.out.mono ?_
        rintro e w1 ⟨rfl, hb1⟩
        have HB2 := Lib.hid (HB.out.trans (hb1.mono HB.out.size))
        have o2 := HO.out.pass hb1
        have cq := (OwnV.cellAt o2 q (by omega)).trans (flags_at _ _ _ hq8)
        have fq := OwnV.frozenAt o2 q
        have HO2 := Lib.hid o2
        clear hb1 o2
        go_wp2_with fail
        go_roundw
        case rel => exact ⟨k + 1, by omega, by go_num, by rw [← EF.out]; exact (World.ownsRow.stored HO2.out q _).1, HB2.out.setCell (Nat.le_succ _) _⟩
        case measure => simp [intOf] <;> omega
      · obtain rfl : k = d := by omega
        have f1 := (OwnV.cellAt ho 1 (by omega)).trans (flags_at _ _ _ (by omega))
        have f2 := (OwnV.cellAt ho 2 (by omega)).trans (flags_at _ _ _ (by omega))
        have f7 := (OwnV.cellAt ho 7 (by omega)).trans (flags_at _ _ _ (by omega))
        simp only [Int.cast_ofNat_Int] at f1 f2 f7
        have f1 : wr.cell? ⟨w.heap.size + 1, 1, none⟩ = some (.bool (hasF (wds xs) 1 fn k)) := f1
        have f2 : wr.cell? ⟨w.heap.size + 1, 2, none⟩ = some (.bool (hasF (wds xs) 2 fn k)) := f2
        have f7 : wr.cell? ⟨w.heap.size + 1, 7, none⟩ = some (.bool (hasF (wds xs) 7 fn k)) := f7
        clear ho hb
        obtain ⟨b1, hb1⟩ : ∃ b, hasF (wds xs) 1 fn k = b := ⟨_, rfl⟩
        obtain ⟨b2, hb2⟩ : ∃ b, hasF (wds xs) 2 fn k = b := ⟨_, rfl⟩
        obtain ⟨b7, hb7⟩ : ∃ b, hasF (wds xs) 7 fn k = b := ⟨_, rfl⟩
        have E1 := Lib.hid hb1
        have E2 := Lib.hid hb2
        have E7 := Lib.hid hb7
        rw [hb1] at f1
        rw [hb2] at f2
        rw [hb7] at f7
        have F1 := Lib.hid (cell_alloc f1 (.cells #[.int .i64 1, .int .i64 2, .int .i64 7] 3))
        have F2 := Lib.hid (cell_alloc f2 (.cells #[.int .i64 1, .int .i64 2, .int .i64 7] 3))
        have F7 := Lib.hid (cell_alloc f7 (.cells #[.int .i64 1, .int .i64 2, .int .i64 7] 3))
        clear hb1 hb2 hb7 f1 f2 f7
        go_wp2_with fail
        go_loop [45] (fun v => ∃ j : Nat, j ≤ 3 ∧ v = .int .i64 j ∧ (0 < j → b1 = false) ∧ (1 < j → b2 = false) ∧ (2 < j → b7 = false)) (fun v => 3 - (intOf v).toNat)
        case atStart => exact ⟨0, by omega, rfl, fun h => by omega, fun h => by omega, fun h => by omega⟩
        case round =>
          obtain ⟨j, hj, rfl, n1, n2, n7⟩ := hrel
          have N1 := Lib.hid n1
          have N2 := Lib.hid n2
          have N7 := Lib.hid n7
          have f1 := F1.out
          have f2 := F2.out
          have f7 := F7.out
          clear n1 n2 n7
          have hcase : j = 0 ∨ j = 1 ∨ j = 2 ∨ j = 3 := by omega
          rcases hcase with rfl | rfl | rfl | rfl
          · cases b1
            · go_wp2_with fail
              go_round
              case rel => exact ⟨1, by omega, rfl, by first | trivial | exact fun _ => rfl, fun h => by omega, fun h => by omega⟩
              case measure => simp [intOf]
            · go_wp2_with fail
              go_ret
              exact ⟨reti (by rw [E1.out]; rfl), HB.out.alloc (by have := HB.out.size; omega) _⟩
          · cases b2
            · go_wp2_with fail
              go_round
              case rel => exact ⟨2, by omega, rfl, fun _ => N1.out (by omega), by first | trivial | exact fun _ => rfl, fun h => by omega⟩
              case measure => simp [intOf]
            · go_wp2_with fail
              go_ret
              exact ⟨reti (by rw [E1.out, E2.out, N1.out (by omega)]; rfl), HB.out.alloc (by have := HB.out.size; omega) _⟩
          · cases b7
            · go_wp2_with fail
              go_round
              case rel => exact ⟨3, by omega, rfl, fun _ => N1.out (by omega), fun _ => N2.out (by omega), by first | trivial | exact fun _ => rfl⟩
              case measure => simp [intOf]
            · go_wp2_with fail
              go_ret
              exact ⟨reti (by rw [E1.out, E2.out, E7.out, N1.out (by omega), N2.out (by omega)]; rfl), HB.out.alloc (by have := HB.out.size; omega) _⟩
          · go_wp2_with fail
            go_ret
            exact ⟨reti (by rw [E1.out, E2.out, E7.out, N1.out (by omega), N2.out (by omega), N7.out (by omega)]; rfl), HB.out.alloc (by have := HB.out.size; omega) _⟩
end Go.Proofs.YtefajgfhdnhmmaaDoor
