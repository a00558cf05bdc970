/- Chapter 20: the program's Points. -/
import Derived.Test.YtgianjnccpbnaaaDoorHwe
namespace Go.Proofs.YtgianjnccpbnaaaDoor
open Go.ChangeShapes Go.WideShapes Go.ChangeAt Go.RowKit
set_option maxRecDepth 100000
set_option linter.unusedSimpArgs false

theorem SliceIn.passT {k : IntKind} {w w1 : World} {A : Option Addr} {n c : Nat} {xs : List Int} (h : SliceIn k w A n c xs) (hb : Below w.heap.size w w1) : SliceIn k w1 A n c xs := ⟨h.at_.later hb, h.le, h.cap, h.wf⟩
theorem zeroT : (Tryd.prog.info? 3).map (·.zero) = some (some (.int .i64 0)) := by kernel_rfl
theorem psmall_any (r : Int) (h1 : -2147483648 ≤ r) (h2 : r ≤ 2147483647) (w : World) : Calls Tryd.prog 22 #[.int .i32 r] w fun e w' => e = .returned (.int .i32 (small20 r)) ∧ w = w' := by
  unfold small20
  by_cases h65 : 65 ≤ r
  · by_cases h90 : r ≤ 90
    · rw [if_pos ⟨h65, h90⟩]
      go_enter Tryd.func22, Tryd.ntmps22
      go_wp2
      go_ret
      exact ⟨reti (by omega), rfl⟩
    · rw [if_neg (fun h => h90 h.2)]
      go_enter Tryd.func22, Tryd.ntmps22
      go_wp2
      go_ret
      exact ⟨rfl, rfl⟩
  · rw [if_neg (fun h => h65 h.1)]
    go_enter Tryd.func22, Tryd.ntmps22
    go_wp2
    go_ret
    exact ⟨rfl, rfl⟩
theorem small20_wf {r : Int} (h : (Lit.int .i32 r).wf = true) : (Lit.int .i32 (small20 r)).wf = true := by
  obtain ⟨h1, h2⟩ := bounds_i32 h
  have h8 : IntKind.i32.min ≤ small20 r ∧ small20 r ≤ IntKind.i32.max := by
    show (-2147483648 : Int) ≤ _ ∧ _ ≤ (2147483647 : Int)
    unfold small20
    split <;> omega
  simpa [Lit.wf] using h8
theorem dotted_wf {xs : List Int} (h : ∀ x ∈ xs, (Lit.int .i32 x).wf = true) : ∀ x ∈ dotted xs, (Lit.int .i32 x).wf = true := by
  intro x hx
  unfold dotted at hx
  simp at hx
  rcases hx with rfl | ⟨y, hy, rfl⟩ | rfl
  · decide
  · exact small20_wf (h y hy)
  · decide
theorem dot_succ {xs : List Int} {k : Nat} (h : k < xs.length) : 46 :: (xs.take (k + 1)).map small20 = (46 :: (xs.take k).map small20) ++ [small20 (nth xs k)] := by
  rw [List.take_succ_eq_append_getElem h, List.map_append, nth_eq h]; rfl
theorem lays_most {L : List Pat} (hL : PatsOk L) {t : List Int} {j : Nat} {v : Int} (h : Lays L t j v) : v ≤ 9 := by
  obtain ⟨p, hp, a, _, _, i, hi, _, rfl⟩ := h
  exact ((hL.ok p hp).2.2.2 _ (by rw [nth_eq hi]; exact List.getElem_mem ..)).2
/-- what Points leaves -/
def PtsPost (w : World) (L : List Pat) (xs : List Int) (e : Ending) (w' : World) : Prop :=
  ∃ out, Points L xs out ∧ out.length ≤ xs.length ∧ NewInts w 3 .i64 out.length out e w'
/-- what is known while the marks are laid -/
structure MRel (w wr : World) (L : List Pat) (t : List Int) (At : Option Addr) (n ct : Nat) (gm nm cm : Nat) (ms : List Int) (m : Nat) : Prop where
  w0 : WRel w wr At n ct t gm nm cm ms (LaysLo L t m)

set_option maxHeartbeats 4000000 in
theorem ppoints_any (w : World) (B b0 N : Nat) (L : List Pat) (hL : PatsOk L) (node kids : List Int → Option Nat) (hT : TrieAt Tryd.prog w B b0 N (lookP L) node kids)
    (A : Option Addr) (n c : Nat) (xs : List Int) (hx : SliceIn .i32 w A n c xs) (hn : n ≤ 1000) :
    Calls Tryd.prog 8 #[.pointer (some ⟨b0, 0, none⟩), .slice A n c] w (PtsPost w L xs) := by
  have HX : Shut _ := ⟨hx⟩
  have HT : Shut _ := ⟨hT⟩
  have HL : Shut _ := ⟨hL⟩
  have HLEN : Shut _ := ⟨hx.at_.len⟩
  clear hx hT hL
  by_cases h64 : 64 < n
  · have h64i : (64 : Int) < (n : Int) := by omega
    go_enter Tryd.func8, Tryd.ntmps8
    go_wp2_with fail
    go_ret
    exact ⟨[], by unfold Points; rw [if_pos (by rw [HLEN.out]; exact h64)], by simp, none, 0, rfl, Own.nil _ _ _ _, Below.refl _ _⟩
  · have h64i : ¬ (64 : Int) < (n : Int) := by omega
    have O0 : Shut (Own (w.alloc (.cells #[.int .i32 46] 21)) w.heap.size 21 .i32 (some ⟨w.heap.size, 0, none⟩) 1 1 (46 :: (xs.take 0).map small20)) := ⟨own_one w _ _ _ (Nat.le_refl _) 46⟩
    go_enter Tryd.func8, Tryd.ntmps8
    go_wp2_with fail
    go_loopg [5, 7, 22] (n + 1) (fun gg v5 v7 v22 wr => ∃ (k : Nat) (A1 : Option Addr) (c1 : Nat), n - k < gg ∧ k ≤ n ∧ v5 = .slice A1 (k + 1) c1 ∧ v22 = .int .i64 (k : Int) ∧ Shut (Own wr w.heap.size 21 .i32 A1 (k + 1) c1 (46 :: (xs.take k).map small20)) ∧ Shut (Below w.heap.size w wr))
    case atStart => exact ⟨0, _, 1, by omega, by omega, rfl, rfl, O0, ⟨below_alloc w _⟩⟩
    case round =>
      obtain ⟨k, A1, c1, hg, hk, rfl, rfl, O1, B1⟩ := hrel
      by_cases hlt : k < n
      · obtain ⟨ad, rfl, hab, hcx⟩ := (HX.out.passT B1.out).at_.2 (by omega)
        have hc := hcx k hlt
        obtain ⟨r1, r2⟩ := bounds_i32 (HX.out.nth_wf hlt)
        have SM : Shut (∀ W, _) := ⟨fun W => psmall_any (nth xs k) r1 r2 W⟩
        have DS : Shut _ := ⟨dot_succ (xs := xs) (k := k) (by rw [HLEN.out]; exact hlt)⟩
        have hz := B1.out.size
        generalize nth xs k = r at *
        clear hcx r1 r2 hab
        go_wp2_with fail
        refine (SM.out _).mono ?_
        rintro e w2 ⟨rfl, rfl⟩
        go_wp2_with (at_builtin; refine wpList_push TI32h rfl (.tmp 26) (.tmp 29) rfl rfl (Own.alloc O1.out _) rfl (cell_new _ _ _) (by omega) (by simp; omega) ?_; intro A2 c2 w3 o3 b3)
        rw [← DS.out] at o3
        have O3 : Shut _ := ⟨o3⟩
        have B3 : Shut (Below w.heap.size w w3) := ⟨(B1.out.alloc hz _).trans b3⟩
        clear o3 b3
        go_roundg (n - k)
        case measure => omega
        case rel => exact ⟨k + 1, A2, c2, by omega, by omega, rfl, by go_num, O3, B3⟩
      · obtain rfl : k = n := by omega
        have hz := B1.out.size
        have hO := O1.out
        rw [List.take_of_length_le (by rw [HLEN.out]; exact Nat.le_refl _)] at hO
        have O2 : Shut _ := ⟨hO⟩
        clear hO hlt
        go_wp2_with (first
          | (at_builtin; refine wpList_push TI32h rfl (.tmp 32) (.tmp 33) rfl rfl (Own.alloc O2.out _) rfl (cell_new _ _ _) (by omega) (by simp; omega) ?_; intro A2 c2 w3 o3 b3; have z3 : w.heap.size ≤ w3.heap.size := (by have := b3.size; simp at this; omega))
          | (at_make; refine wpList_makeInts TI64h zeroT rfl _ _ rfl (k + 3) rfl rfl (by omega) (by omega) (by omega) w3.heap.size (Nat.le_refl _) ?_; intro gm w4 o4 b4))
        have hdt : (46 :: xs.map small20) ++ [46] = dotted xs := rfl
        rw [hdt] at o3
        have hdl : (dotted xs).length = k + 2 := by rw [dotted_len, HLEN.out]
        have M0 : Shut (WRel w w4 A2 (k + 2) c2 (dotted xs) gm (k + 3) (k + 3) (List.replicate (k + 3) 0) (LaysLo L (dotted xs) 0)) :=
          ⟨⟨Own.pass o3 b4, OwnV.lowT o4 z3, (IsBest.zero _).iff fun j v => laysLo_zero.symm, ((O2.out |> fun _ => (B1.out.alloc hz _).trans b3)).trans (b4.mono z3)⟩⟩
        have HDL : Shut _ := ⟨hdl⟩
        have HDW : Shut _ := ⟨dotted_wf HX.out.wf⟩
        clear o3 o4 b3 b4 hdt O2 O1 B1 hz hdl z3
        obtain ⟨t, ht⟩ : ∃ t, dotted xs = t := ⟨_, rfl⟩
        rw [ht] at M0 HDL HDW
        have HDT : Shut (dotted xs = t) := ⟨ht⟩
        clear ht
        go_wp2_with fail
        go_loopg [9, 41] (k + 3) (fun gg v9 v41 wr => ∃ (m : Nat) (ms : List Int), k + 2 - m < gg ∧ m ≤ k + 2 ∧ v41 = .int .i64 (m : Int) ∧ Shut (WRel w wr A2 (k + 2) c2 t gm (k + 3) (k + 3) ms (LaysLo L t m)))
        case atStart => exact ⟨0, _, by omega, by omega, rfl, M0⟩
        case round =>
          obtain ⟨m, ms, hg2, hm, rfl, W⟩ := hrel
          by_cases hlt : m < k + 2
          · have WA : Shut _ := ⟨weigh_any w wr B b0 N L HL.out node kids HT.out A2 (k + 2) c2 t m gm (k + 3) (k + 3) ms (LaysLo L t m) W.out (by omega) (by omega) (by omega) HDW.out⟩
            have hmi : (m : Int) < ((k + 2 : Nat) : Int) := by omega
            have hmi2 : (m : Int) < (k : Int) + 2 := by omega
            go_wp2_with fail
            refine WA.out.mono ?_
            rintro e w5 ⟨ms5, rfl, w5r⟩
            have W5 : Shut (WRel w w5 A2 (k + 2) c2 t gm (k + 3) (k + 3) ms5 (LaysLo L t (m + 1))) := ⟨w5r.iff fun j v => laysLo_succ.symm⟩
            clear w5r
            go_wp2_with fail
            go_roundg (k + 2 - m)
            case measure => omega
            case rel => exact ⟨m + 1, ms5, by omega, by omega, by go_num, W5⟩
          · obtain rfl : m = k + 2 := by omega
            have WB : Shut (WRel w wr A2 (k + 2) c2 t gm (k + 3) (k + 3) ms (Lays L t)) := ⟨W.out.iff fun j v => by rw [← laysLo_all, HDL.out]⟩
            have hml : ms.length = k + 3 := W.out.om.len
            have M9 : Shut (∀ j, j < k + 3 → 0 ≤ nth ms j ∧ nth ms j ≤ 9) := ⟨fun j hj => ⟨WB.out.best.pos j (by omega), WB.out.best.most (by omega) (fun j v h => lays_most HL.out h) (by omega)⟩⟩
            have HML : Shut _ := ⟨hml⟩
            clear hlt W hg2 hm hml
            go_wp2_with fail
            have hwz := WB.out.be.size
            obtain ⟨wo, rfl⟩ : ∃ wo : World, wo = wr := ⟨_, rfl⟩
            go_loopg [10, 11] (k + 1) (fun gg v10 v11 wr' => ∃ (i : Nat) (out : List Int) (A3 : Option Addr) (c3 : Nat), k - i < gg ∧ 2 ≤ i ∧ (i ≤ 2 ∨ i + 2 ≤ k) ∧ v10 = .slice A3 out.length c3 ∧ v11 = .int .i64 (i : Int) ∧ Shut (out = ptsN ms i) ∧ out.length ≤ i ∧ Shut (Own wr' wo.heap.size 3 .i64 A3 out.length c3 out) ∧ Shut (Below wo.heap.size wo wr'))
            case atStart => exact ⟨2, [], none, 0, by omega, by omega, by omega, rfl, rfl, ⟨(ptsN_low ms (Nat.le_refl _)).symm⟩, by simp, ⟨Own.nil _ _ _ _⟩, ⟨Below.refl _ _⟩⟩
            case round =>
              obtain ⟨i, out, A3, c3, hg3, hi2, hik, rfl, rfl, HO, hol, O3, B3⟩ := hrel
              by_cases hlt : (i : Int) ≤ (k : Int) - 3
              · have hi3 : i + 1 < k + 3 := by omega
                obtain ⟨x0, x9⟩ := M9.out (i + 1) hi3
                have e1 := own_cellH (Own.pass WB.out.om B3.out) hi3
                have PY : Shut (_ → _) := ⟨fun h => ptsN_yes (ms := ms) (m := i) hi2 h⟩
                have PN : Shut (_ → _) := ⟨fun h => ptsN_no (ms := ms) (m := i) h⟩
                generalize nth ms (i + 1) = x at *
                have ei : (i : Int) + 1 < (k : Int) + 3 := by omega
                have hz3 := B3.out.size
                have hkik : i < k := by omega
                clear hik
                cases hb : (x % 2 == 1) with
                | true =>
                  have HO2 : Shut (out ++ [(i : Int)] = ptsN ms (i + 1)) := ⟨by rw [PY.out (by simpa using hb), HO.out]⟩
                  go_wp2_with (at_builtin; refine wpList_push TI64h rfl (.tmp 64) (.tmp 66) rfl rfl (Own.alloc O3.out _) rfl (cell_new _ _ _) (by omega) (by simp; omega) ?_; intro A4 c4 w6 o6 b6)
                  have O6 : Shut (Own w6 wo.heap.size 3 .i64 A4 (out ++ [(i : Int)]).length c4 (out ++ [(i : Int)])) := ⟨by rw [show (out ++ [(i : Int)]).length = out.length + 1 by simp]; exact o6⟩
                  have B6 : Shut (Below wo.heap.size wo w6) := ⟨(B3.out.alloc hz3 _).trans b6⟩
                  clear o6 b6 hb
                  go_roundg (k - i)
                  case measure => omega
                  case rel => exact ⟨i + 1, out ++ [(i : Int)], A4, c4, by omega, by omega, by omega, by rw [List.length_append]; rfl, by go_num, HO2, by rw [List.length_append]; simp; omega, O6, B6⟩
                | false =>
                  have HO2 : Shut (out = ptsN ms (i + 1)) := ⟨by rw [PN.out (by simpa using hb), HO.out]⟩
                  go_wp2_with fail
                  clear hb
                  go_roundg (k - i)
                  case measure => omega
                  case rel => exact ⟨i + 1, out, A3, c3, by omega, by omega, by omega, rfl, by go_num, HO2, by omega, O3, B3⟩
              · have hl2 : decide ((i : Int) ≤ (k : Int) - 3) = false := by simpa using hlt
                have HE : Shut (ptsN ms i = ptsN ms (xs.length - 2)) := ⟨by
                  rw [HLEN.out]
                  rcases Nat.lt_or_ge k 4 with h4 | h4
                  · rw [ptsN_low ms (show i ≤ 2 by omega), ptsN_low ms (show k - 2 ≤ 2 by omega)]
                  · rw [show i = k - 2 by omega]⟩
                have HN64 : Shut (¬ 64 < xs.length) := ⟨by rw [HLEN.out]; exact h64⟩
                clear hik
                go_wp2_with fail
                go_ret
                refine ⟨out, ?_, ?_, A3, c3, rfl, OwnV.lowT O3.out hwz, WB.out.be.trans (B3.out.mono hwz)⟩
                · unfold Points
                  rw [if_neg HN64.out]
                  exact ⟨ms, by rw [show dotted xs = t from HDT.out]; exact WB.out.best, by rw [HML.out, HLEN.out], HO.out.trans HE.out⟩
                · rw [HO.out, HE.out]
                  have := ptsN_len ms (xs.length - 2)
                  omega
end Go.Proofs.YtgianjnccpbnaaaDoor
