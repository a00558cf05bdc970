/- Chapter 5: the value at a place (both ways), spans held against each other, the spans of values. -/
import Derived.Test.YtefajgfhdnhmmaaDoorSpl
import Derived.Test.YtefajgfhdnhmmaaDoorOfs
import Derived.Test.YtefajgfhdnhmmaaDoorOwn2
import Derived.IntWalk
namespace Go.Proofs.YtefajgfhdnhmmaaDoor
open Go.ChangeShapes Go.WideShapes Go.ChangeAt Go.RowKit
set_option maxRecDepth 100000
set_option linter.unusedSimpArgs false

theorem TSp : SliceOf Tryd.prog 41 54 3 24 := sliceOf_mk Tryd.underlying41 (z := .agg #[.int .i64 0, .int .i64 0, .int .i64 0]) (by kernel_rfl) rfl (by omega) (by omega)
theorem SpansAt.cells {w : World} {B n : Nat} {A : Option Addr} {l : List Sp} (h : SpansAt w B A n l) {j : Nat} (hj : j < n) : ∃ ad, A = some ad ∧ w.cell? (ad.add (j * 3)) = some (.int .i64 (snth l j).f) ∧
    w.cell? { block := (ad.add (j * 3)).block, off := (ad.add (j * 3)).off + 1 } = some (.int .i64 (snth l j).t) ∧ w.cell? { block := (ad.add (j * 3)).block, off := (ad.add (j * 3)).off + 2 } = some (.int .i64 (snth l j).v) := by
  obtain ⟨ad, e, h0, h1, h2⟩ := h.at_ hj
  rw [← add_of_add] at h1 h2
  exact ⟨ad, e, h0, h1, h2⟩
theorem OwnV.spans {w : World} {B n c : Nat} {e : TypeId} {A : Option Addr} {S : List Sp} (h : OwnV w B e 3 A n c (spsV S)) : SpansAt w w.heap.size A n S := by
  have hl : S.length = n := by have h1 := h.1; rw [spsV_len] at h1; omega
  refine ⟨hl, fun hn => ?_⟩
  obtain ⟨g, rfl, _, hlt⟩ := OwnV.form h hn
  refine ⟨_, rfl, hlt, fun j hj => ?_⟩
  obtain ⟨v1, v2, v3⟩ := spsV_at S j (by omega)
  rw [add_zero_at, add_zero_at, add_zero_at]
  exact ⟨(OwnV.cellAt h _ (by omega)).trans v1, (OwnV.cellAt h _ (by omega)).trans v2, (OwnV.cellAt h _ (by omega)).trans v3⟩

set_option maxHeartbeats 2000000 in
theorem pspAt_any (A : Option Addr) (n c : Nat) (l : List Sp) (i : Int) (w : World) (hS : SpansAt w w.heap.size A n l) (hn : n ≤ 140737488355328) :
    Calls Tryd.prog 39 #[.slice A n c, .int .i64 i] w fun e w' => e = .returned (.int .i64 (spAt l i)) ∧ Below w.heap.size w w' := by
  have HS := Lib.hid hS
  have HN := Lib.hid hS.1
  clear hS
  go_enter Tryd.func39, Tryd.ntmps39
  go_wp2_with fail
  go_loopw [9] (fun v wr => ∃ k : Nat, k ≤ n ∧ v = .int .i64 k ∧ spAt l i = spF l i (n - k) k ∧ Below w.heap.size w wr) (fun v _ => n - (intOf v).toNat)
  case atStart => exact ⟨0, Nat.zero_le _, rfl, by unfold spAt; rw [HN.out]; rfl, Below.refl _ _⟩
  case round =>
    obtain ⟨k, hk, rfl, hsp, hb⟩ := hrel
    have HB := Lib.hid hb
    by_cases hlt : k < n
    · obtain ⟨d, hd⟩ : ∃ d, n - k = d + 1 := ⟨n - k - 1, by omega⟩
      rw [hd] at hsp
      have SP := Lib.hid hsp
      have HD := Lib.hid hd
      obtain ⟨ad, rfl, c0, c1, c2⟩ := (HS.out.below hb).cells hlt
      have EY := Lib.hid (fun h => spF_yes (l := l) (i := i) (d := d) (j := k) h)
      have EN := Lib.hid (fun h => spF_no (l := l) (i := i) (d := d) (j := k) h)
      obtain ⟨s, hs⟩ : ∃ s, snth l k = s := ⟨_, rfl⟩
      rw [hs] at c0 c1 c2 EY EN
      obtain ⟨f, t, v⟩ := s
      simp only at c0 c1 c2 EY EN
      clear hsp hd hs hb
      by_cases h1 : f ≤ i
      · by_cases h2 : i < t
        · go_wp2_with fail
          go_ret
          exact ⟨reti (by rw [SP.out, EY.out ⟨h1, h2⟩]), HB.out.alloc (by have := HB.out.size; omega) _⟩
        · go_wp2_with fail
          go_roundw
          case rel => exact ⟨k + 1, by omega, by go_num, by rw [SP.out, EN.out (fun h => h2 h.2)]; congr 1; have := HD.out; omega, HB.out.alloc (by have := HB.out.size; omega) _⟩
          case measure => simp [intOf] <;> omega
      · go_wp2_with fail
        go_roundw
        case rel => exact ⟨k + 1, by omega, by go_num, by rw [SP.out, EN.out (fun h => h1 h.1)]; congr 1; have := HD.out; omega, HB.out.alloc (by have := HB.out.size; omega) _⟩
        case measure => simp [intOf] <;> omega
    · have hz : n - k = 0 := by omega
      rw [hz] at hsp
      have SP := Lib.hid hsp
      clear hsp hz
      go_wp2_with fail
      go_ret
      exact ⟨reti (by rw [SP.out]; rfl), HB.out⟩

set_option maxHeartbeats 2000000 in
theorem rspAt_any (A : Option Addr) (n c : Nat) (l : List Sp) (i : Int) (w : World) (hS : SpansAt w w.heap.size A n l) (hn : n ≤ 140737488355328) :
    Calls Tryd.prog 69 #[.slice A n c, .int .i64 i] w fun e w' => e = .returned (.int .i64 (spAt l i)) ∧ Below w.heap.size w w' := by
  have HS := Lib.hid hS
  have HN := Lib.hid hS.1
  clear hS
  go_enter Tryd.func69, Tryd.ntmps69
  go_wp2_with fail
  go_loop [5] (fun v => ∃ k : Nat, k ≤ n ∧ v = .int .i64 k ∧ spAt l i = spF l i (n - k) k) (fun v => n - (intOf v).toNat)
  case atStart => exact ⟨0, Nat.zero_le _, rfl, by unfold spAt; rw [HN.out]; rfl⟩
  case round =>
    obtain ⟨k, hk, rfl, hsp⟩ := hrel
    by_cases hlt : k < n
    · obtain ⟨d, hd⟩ : ∃ d, n - k = d + 1 := ⟨n - k - 1, by omega⟩
      rw [hd] at hsp
      have SP := Lib.hid hsp
      have HD := Lib.hid hd
      obtain ⟨ad, rfl, c0, c1, c2⟩ := HS.out.cells hlt
      have EY := Lib.hid (fun h => spF_yes (l := l) (i := i) (d := d) (j := k) h)
      have EN := Lib.hid (fun h => spF_no (l := l) (i := i) (d := d) (j := k) h)
      obtain ⟨s, hs⟩ : ∃ s, snth l k = s := ⟨_, rfl⟩
      rw [hs] at c0 c1 c2 EY EN
      obtain ⟨f, t, v⟩ := s
      simp only at c0 c1 c2 EY EN
      have c1b : w.cell? ((ad.add (k * 3)).add 1) = some (.int .i64 t) := c1
      have c2b : w.cell? ((ad.add (k * 3)).add 2) = some (.int .i64 v) := c2
      clear hsp hd hs
      by_cases h1 : f ≤ i
      · by_cases h2 : i < t
        · go_wp2_with fail
          go_ret
          exact ⟨reti (by rw [SP.out, EY.out ⟨h1, h2⟩]), Below.refl _ _⟩
        · go_wp2_with fail
          go_round
          case rel => exact ⟨k + 1, by omega, by go_num, by rw [SP.out, EN.out (fun h => h2 h.2)]; congr 1; have := HD.out; omega⟩
          case measure => simp [intOf] <;> omega
      · go_wp2_with fail
        go_round
        case rel => exact ⟨k + 1, by omega, by go_num, by rw [SP.out, EN.out (fun h => h1 h.1)]; congr 1; have := HD.out; omega⟩
        case measure => simp [intOf] <;> omega
    · have hz : n - k = 0 := by omega
      rw [hz] at hsp
      have SP := Lib.hid hsp
      clear hsp hz
      go_wp2_with fail
      go_ret
      exact ⟨reti (by rw [SP.out]; rfl), Below.refl _ _⟩

theorem spNeq (a b c : Int) (w : World) : (binOp .neq 54 (.agg #[.int .i64 a, .int .i64 b, .int .i64 c]) (.agg #[.int .i64 a, .int .i64 b, .int .i64 c])).run Tryd.prog w = .ok (.bool false) w := by
  simp [go_sem]
set_option maxHeartbeats 2000000 in
theorem sameSp_any (A C : Option Addr) (n c d : Nat) (l : List Sp) (w : World) (hS : SpansAt w w.heap.size A n l) (hT : SpansAt w w.heap.size C n l) (hn : n ≤ 140737488355328) :
    Calls Tryd.prog 33 #[.slice A n c, .slice C n d] w fun e w' => e = .returned (.bool true) ∧ Below w.heap.size w w' := by
  have HS := Lib.hid hS
  have HT := Lib.hid hT
  clear hS hT
  go_enter Tryd.func33, Tryd.ntmps33
  go_wp2_with fail
  go_loopw [5] (fun v wr => ∃ k : Nat, k ≤ n ∧ v = .int .i64 k ∧ Below w.heap.size w wr) (fun v _ => n - (intOf v).toNat)
  case atStart => exact ⟨0, Nat.zero_le _, rfl, Below.refl _ _⟩
  case round =>
    obtain ⟨k, hk, rfl, hb⟩ := hrel
    have HB := Lib.hid hb
    by_cases hlt : k < n
    · obtain ⟨ad, rfl, c0, c1, c2⟩ := (HS.out.below hb).cells hlt
      obtain ⟨bd, rfl, d0, d1, d2⟩ := (HT.out.below hb).cells hlt
      obtain ⟨s, hs⟩ : ∃ s, snth l k = s := ⟨_, rfl⟩
      rw [hs] at c0 c1 c2 d0 d1 d2
      obtain ⟨f, t, v⟩ := s
      simp only at c0 c1 c2 d0 d1 d2
      have cn := spNeq f t v
      clear hs hb
      go_wp2_with fail
      go_quiet (fail)
      go_wp2_with fail
      go_roundw
      case rel => exact ⟨k + 1, by omega, by go_num, below_drewN HB.out _⟩
      case measure => simp [intOf] <;> omega
    · obtain rfl : k = n := by omega
      go_wp2_with fail
      go_ret
      exact ⟨rfl, HB.out⟩

/-- a call that hands back new spans -/
def NewSpans (w : World) (S : List Sp) (r : Ending) (w' : World) : Prop :=
  ∃ (A : Option Addr) (c : Nat), r = .returned (.slice A S.length c) ∧ OwnV w' w.heap.size 54 3 A S.length c (spsV S) ∧ Below w.heap.size w w'
theorem cells_new3 (w : World) (a b c : Value) (t : TypeId) : ∀ j u, [a, b, c][j]? = some u → (w.alloc (.cells #[a, b, c] t)).cell? ⟨w.heap.size, j, none⟩ = some u := by
  intro j u h
  rw [cell_of_row _ _ _ _ _ _ (heap_alloc_new w _)]
  simpa using h
theorem three_one (a b c : Int) : ∀ u ∈ [Value.int .i64 a, Value.int .i64 b, Value.int .i64 c], u.oneCell' = true := by
  intro u hu
  simp at hu
  rcases hu with rfl | rfl | rfl <;> rfl
theorem ownV_congr3 {w : World} {B n n' c size : Nat} {e : TypeId} {A : Option Addr} {xs ys : List Value} (h : OwnV w B e size A n c xs) (hx : xs = ys) (hn : n = n') : OwnV w B e size A n' c ys := by subst hx; subst hn; exact h

theorem b24 {a q n : Nat} (h1 : a + 1 ≤ q + 1) (h2 : q + 1 < n) (h3 : (n + 1) * 24 ≤ 140737488355328) : (a + 1 + 1) * 24 ≤ 140737488355328 :=
  Nat.le_trans (Nat.mul_le_mul_right 24 (show a + 1 + 1 ≤ n + 1 by omega)) h3
set_option maxHeartbeats 4000000 in
theorem r05Of_any (A : Option Addr) (n c : Nat) (v : List Int) (w : World) (hv : IntsAt w w.heap.size .i64 A n v) (hn : (n + 1) * 24 ≤ 140737488355328) :
    Calls Tryd.prog 70 #[.slice A n c] w (NewSpans w (valN v n)) := by
  have HV := Lib.hid hv
  clear hv
  go_enter Tryd.func70, Tryd.ntmps70
  go_wp2_with fail
  go_loopw [3, 4] (fun u i wr => ∃ (k : Nat) (A' : Option Addr) (c' : Nat), k ≤ n ∧ i = .int .i64 k ∧ u = .slice A' (valN v k).length c' ∧ OwnV wr w.heap.size 54 3 A' (valN v k).length c' (spsV (valN v k)) ∧ Below w.heap.size w wr) (fun _ i _ => n - (intOf i).toNat)
  case atStart => exact ⟨0, none, 0, Nat.zero_le _, rfl, rfl, OwnV.nil _ _ _ _, Below.refl _ _⟩
  case round =>
    obtain ⟨k, A', c', hk, rfl, rfl, ho, hb⟩ := hrel
    have HO := Lib.hid ho
    have HB := Lib.hid hb
    have hlen := valN_len v k
    by_cases hlt : k < n
    · obtain ⟨ad, rfl, hab, hcx⟩ := (HV.out.below hb).2 (by omega)
      have c0 := hcx k hlt
      have EV : valN v (k + 1) = addSp (valN v k) k ((k : Int) + 1) (nth v k) := rfl
      rcases Nat.eq_zero_or_pos k with hk0 | hk0
      · subst hk0
        have c0b : wr.cell? ad = some (.int .i64 (nth v 0)) := c0
        generalize nth v 0 = x at *
        have EV2 := Lib.hid EV
        clear hcx ho hb EV c0
        have e0 : (valN v 0).length = 0 := rfl
        rw [e0] at HO ⊢
        go_wp2_with fail
        go_quiet (fail)
        go_wp2_with (at_builtin; refine wpList_pushV TSp rfl (.tmp 33) (.tmp 42) rfl rfl (OwnV.alloc (OwnV.drewN HO.out _) _) rfl (news := [.int .i64 0, .int .i64 1, .int .i64 x]) rfl (cells_new3 _ _ _ _ _) (three_one _ _ _) (by omega) (by have := HB.out.size; simp <;> omega) ?_; intro A4 c4 w4 o4 b4)
        have hbw := ((below_drewN HB.out _).alloc (by have := HB.out.size; simp <;> omega) _).trans b4
        go_roundw
        case rel => exact ⟨0 + 1, A4, c4, by omega, by go_num, by rw [EV2.out]; rfl, by rw [EV2.out]; exact o4, hbw⟩
        case measure => simp [intOf] <;> omega
      · obtain ⟨q, rfl⟩ : ∃ q, k = q + 1 := ⟨k - 1, by omega⟩
        have c1 := hcx q (by omega)
        rw [add_succ] at c0
        obtain ⟨S0, s, hS, hsv, hst⟩ := addSp_last (valN v q) q ((q : Int) + 1) (nth v q)
        have ES : valN v (q + 1) = S0 ++ [s] := hS
        have ei : ((q + 1 : Nat) : Int) = (q : Int) + 1 := by omega
        have p0 : (0 : Int) ≤ (q : Int) := by omega
        have p1 : (q : Int) < (n : Int) := by omega
        have p2 : (0 : Int) ≤ (q : Int) + 1 := by omega
        have p3 : (q : Int) + 1 < (n : Int) := by omega
        have p4 : (0 : Int) < (q : Int) + 1 := by omega
        have wk1 : IntKind.i64.wrap (q : Int) = (q : Int) := IntWalk.i64_in _ (by omega)
        have wk2 : IntKind.i64.wrap ((q : Int) + 1) = (q : Int) + 1 := IntWalk.i64_in _ (by omega)
        have tn : ((q : Int) + 1).toNat = q + 1 := by omega
        rw [ES] at EV HO hlen ⊢
        rw [ei] at EV ⊢
        have hsl : (S0 ++ [s]).length = S0.length + 1 := by simp
        rw [hsl] at HO hlen ⊢
        have hb24 : (S0.length + 1 + 1) * 24 ≤ 140737488355328 := b24 hlen hlt hn
        have hbs : w.heap.size ≤ wr.heap.size := HB.out.size
        by_cases he : nth v (q + 1) = nth v q
        · have be : ((nth v (q + 1) : Int) == nth v q) = true := by simpa using he
          have EV2 := Lib.hid (show valN v (q + 1 + 1) = S0 ++ [⟨s.f, (q : Int) + 1 + 1, s.v⟩] from EV.trans (by rw [he, ← hsv]; exact addSp_eq S0 s _ _))
          generalize nth v (q + 1) = x at *
          generalize nth v q = y at *
          have b1 : ((S0.length + 1 : Nat) : Int) - 1 = (S0.length : Int) := by omega
          have ho1 := HO.out
          obtain ⟨g, rfl, _⟩ := OwnV.form ho1 (by omega)
          have u1 := (OwnV.cellAt ho1 (S0.length * 3 + 1) (by omega)).trans (spsV_at (S0 ++ [s]) S0.length (by simp)).2.1
          have u2 := OwnV.frozenAt ho1 (S0.length * 3 + 1)
          rw [snth_at] at u1
          have HG := Lib.hid (OwnV.ltH ho1).1
          obtain ⟨z, hz⟩ : ∃ z, S0.length = z := ⟨_, rfl⟩
          have HZ := Lib.hid hz
          rw [hz] at u1 u2 HO hlen b1 ⊢
          clear hcx ho hb EV he hsv hst hS ES ho1 hsl ei hz
          go_wp2_with fail
          go_quiet (fail)
          clear wk1 wk2 tn
          go_wp2_with fail
          go_roundw
          case rel =>
            refine ⟨q + 1 + 1, some ⟨g, 0, none⟩, c', by omega, by go_num, by rw [EV2.out]; simp [HZ.out], ?_, (below_drewN HB.out _).setCell HG.out _⟩
            rw [EV2.out]
            have h9 := (World.ownsRow.stored (OwnV.drewN HO.out nq) (z * 3 + 1) (.int .i64 ((q : Int) + 1 + 1))).1
            rw [← HZ.out, spsV_set] at h9
            rw [← HZ.out]
            exact ownV_congr3 h9 rfl (by simp)
          case measure => simp [intOf] <;> omega
        · have be : ((nth v (q + 1) : Int) == nth v q) = false := by simpa using he
          have EV2 := Lib.hid (show valN v (q + 1 + 1) = S0 ++ [s] ++ [⟨(q : Int) + 1, (q : Int) + 1 + 1, nth v (q + 1)⟩] from EV.trans (addSp_ne S0 s _ _ _ (by rw [hsv]; exact fun h => he h.symm)))
          generalize nth v (q + 1) = x at *
          generalize nth v q = y at *
          clear hcx ho hb EV he hsv hst hS ES ei
          go_wp2_with fail
          go_quiet (fail)
          clear wk1 wk2 tn
          go_wp2_with (at_builtin; refine wpList_pushV TSp rfl (.tmp 33) (.tmp 42) rfl rfl (OwnV.alloc (OwnV.drewN HO.out _) _) rfl (news := [.int .i64 ((q : Int) + 1), .int .i64 ((q : Int) + 1 + 1), .int .i64 x]) rfl (cells_new3 _ _ _ _ _) (three_one _ _ _) hb24 (by simp; exact Nat.le_succ_of_le hbs) ?_; intro A4 c4 w4 o4 b4)
          have hbw := ((below_drewN HB.out _).alloc hbs _).trans b4
          go_roundw
          case rel => exact ⟨q + 1 + 1, A4, c4, by omega, by go_num, by rw [EV2.out]; simp, by rw [EV2.out, spsV_app _ [_], spsV_one]; exact ownV_congr3 o4 rfl (by simp), hbw⟩
          case measure => simp [intOf] <;> omega
    · obtain rfl : k = n := by omega
      go_wp2_with fail
      go_ret
      exact ⟨A', c', rfl, HO.out, HB.out⟩
end Go.Proofs.YtefajgfhdnhmmaaDoor
