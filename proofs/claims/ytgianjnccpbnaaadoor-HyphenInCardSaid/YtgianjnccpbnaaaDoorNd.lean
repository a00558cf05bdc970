/- slices.IndexFunc and slices.DeleteFunc over integers, the function value by its contract. -/
import Derived.Test.YtgianjnccpbnaaaDoorHlaw
import Derived.Test.YtgianjnccpbnaaaDoorBs
import Derived.Test.YtgianjnccpbnaaaDoorOwn2
import Derived.Test.YtgianjnccpbnaaaDoorNlaw
import Derived.Lib.SliceRun
import Derived.Lib.LazyBuf
import Derived.Deep.CutBlock
import Derived.Deep.DeepCutAuto
namespace Go.Proofs.YtgianjnccpbnaaaDoor
open Go.ChangeShapes Go.WideShapes Go.ChangeAt Go.RowKit
set_option maxRecDepth 100000
set_option linter.unusedSimpArgs false

/-- a function value that leaves the world as it is -/
def Tells (P : Program) (g : Nat) (lb : Array Value) (p : Int → Bool) (W : World) : Prop := ∀ x : Int, Calls P g (#[.int .i64 x] ++ lb) W fun e w' => e = .returned (.bool (p x)) ∧ W = w'
def IdxPost (w : World) (p : Int → Bool) (zs : List Int) (e : Ending) (w' : World) : Prop :=
  ((∃ k : Nat, k < zs.length ∧ e = .returned (.int .i64 (k : Int)) ∧ p (nth zs k) = true ∧ ∀ j, j < k → p (nth zs j) = false) ∨ (e = .returned (.int .i64 (-1)) ∧ ∀ j, j < zs.length → p (nth zs j) = false)) ∧ w = w'
set_option maxHeartbeats 2000000 in
theorem idx_any (g : Nat) (b : Addr) (p : Int → Bool) (A : Option Addr) (n c : Nat) (zs : List Int) (w : World) (hx : IntsAt w w.heap.size .i64 A n zs) (hn : n ≤ 140737488355328)
    (eg : ∀ args w, (callFunc g args).run Tryd.prog w = .ok (.enter g args) w) (ht : Tells Tryd.prog g #[.pointer (some b)] p w) :
    Calls Tryd.prog 30 #[.slice A n c, .func (.func g) #[] #[.pointer (some b)]] w (IdxPost w p zs) := by
  have HX : Shut _ := ⟨hx⟩
  have HT : Shut _ := ⟨ht⟩
  have HLEN : Shut (zs.length = n) := ⟨hx.len⟩
  clear hx ht
  go_enter Tryd.func30, Tryd.ntmps30
  go_wp2_with fail
  go_loopg [8] (n + 1) (fun gg v wr => ∃ k : Nat, n - k < gg ∧ k ≤ n ∧ v = .int .i64 (k : Int) ∧ Shut (∀ j, j < k → p (nth zs j) = false) ∧ wr = w)
  case atStart => exact ⟨0, by omega, by omega, rfl, ⟨fun j h => by omega⟩, rfl⟩
  case round =>
    obtain ⟨k, hg, hk, rfl, HALL, rfl⟩ := hrel
    by_cases hlt : k < n
    · obtain ⟨ad, rfl, hab, hcx⟩ := HX.out.2 (by omega)
      have hc := hcx k hlt
      have CT := HT.out (nth zs k)
      obtain ⟨x, hx⟩ : ∃ x, nth zs k = x := ⟨_, rfl⟩
      rw [hx] at hc CT
      have HXX : Shut _ := ⟨hx⟩
      have CT : Shut _ := ⟨CT⟩
      clear hcx hx
      go_wp2_with fail
      refine CT.out.mono ?_
      rintro e w2 ⟨rfl, rfl⟩
      cases hb : p x with
      | true =>
        have HB : Shut _ := ⟨hb⟩
        clear hb
        go_wp2_with fail
        go_ret
        exact ⟨.inl ⟨k, by rw [HLEN.out]; exact hlt, rfl, by rw [HXX.out]; exact HB.out, HALL.out⟩, rfl⟩
      | false =>
        have HB : Shut _ := ⟨hb⟩
        clear hb
        go_wp2_with fail
        go_roundg (n - k)
        case measure => omega
        case rel =>
          refine ⟨k + 1, by omega, by omega, by go_num, ⟨fun j hj => ?_⟩, rfl⟩
          rcases Nat.lt_or_ge j k with h1 | h1
          · exact HALL.out j h1
          · obtain rfl : j = k := by omega
            rw [HXX.out]
            exact HB.out
    · obtain rfl : k = n := by omega
      go_wp2_with fail
      go_ret
      exact ⟨.inr ⟨rfl, fun j hj => HALL.out j (by rw [HLEN.out] at hj; exact hj)⟩, rfl⟩

/-- what is asked of the function value while the row in block r is written -/
def TellsOver (P : Program) (g : Nat) (lb : Array Value) (p : Int → Bool) (w : World) (r : Nat) : Prop :=
  ∀ W : World, w.heap.size ≤ W.heap.size → (∀ b, b < w.heap.size → b ≠ r → W.heap[b]? = w.heap[b]?) → Tells P g lb p W
def DelPost (w : World) (B : Nat) (r : List Int) (e : Ending) (w' : World) : Prop :=
  ∃ (A : Option Addr) (c : Nat), e = .returned (.slice A r.length c) ∧ Own w' B 3 .i64 A r.length c r ∧ Below B w w'

theorem keptN_take (p : Int → Bool) {zs : List Int} {k : Nat} (h : k < zs.length) : (zs.take (k + 1)).filter (fun x => !p x) = (zs.take k).filter (fun x => !p x) ++ (if p (nth zs k) = true then [] else [nth zs k]) := by
  rw [List.take_succ_eq_append_getElem h, List.filter_append, nth_eq h]
  congr 1
  cases hp : p zs[k] <;> simp [hp]
theorem filter_none {p : Int → Bool} {zs : List Int} (h : ∀ j, j < zs.length → p (nth zs j) = false) : zs.filter (fun x => !p x) = zs := by
  rw [List.filter_eq_self]
  intro x hx
  obtain ⟨j, hj, rfl⟩ := List.getElem_of_mem hx
  have := h j hj
  rw [nth_eq hj] at this
  simp [this]
theorem filter_take_none {p : Int → Bool} {zs : List Int} {k : Nat} (hk : k ≤ zs.length) (h : ∀ j, j < k → p (nth zs j) = false) : (zs.take k).filter (fun x => !p x) = zs.take k := by
  refine filter_none fun j hj => ?_
  have hj2 : j < k := by simp at hj; omega
  have e : nth (zs.take k) j = nth zs j := by
    unfold nth
    rw [List.getD_eq_getElem?_getD, List.getD_eq_getElem?_getD, List.getElem?_take, if_pos hj2]
  rw [e]
  exact h j hj2
/-- the row cut to its first m elements -/
theorem Own.cutTo {w : World} {B n c m : Nat} {e : TypeId} {g : Nat} {k : IntKind} {xs : List Int} (h : Own w B e k (some ⟨g, 0, none⟩) n c xs) (hm : m ≤ n) : Own w B e k (some ⟨g, 0, none⟩) m c (xs.take m) := by
  have hlen := h.len
  rcases h.2 with ⟨hv, h0⟩ | ⟨g', cap, cur, hv, hb, hh, h1, h2, h3, h4⟩
  · cases hv
  · refine ⟨by simp; omega, .inr ⟨g', cap, cur, ?_, hb, hh, by omega, h2, h3, ?_⟩⟩
    · injection hv with e1 e2 e3
      rw [e1, e3]
    · have := congrArg (List.take m) h4
      rw [List.take_take] at this
      simp only [Nat.mul_one] at this ⊢
      rw [show min m n = m by omega] at this
      rw [this, List.map_take]
/-- a stretch of the row stored -/
theorem Own.setMany {B n c : Nat} {e : TypeId} {g : Nat} {k : IntKind} (y : Int) : ∀ (m o : Nat) (w : World) (xs : List Int), Own w B e k (some ⟨g, 0, none⟩) n c xs → ∃ ys, Own (w.setCells g o (List.replicate m (Value.int k y))) B e k (some ⟨g, 0, none⟩) n c ys ∧ ys.take o = xs.take o
  | 0, o, w, xs, h => ⟨xs, h, rfl⟩
  | m + 1, o, w, xs, h => by
    obtain ⟨ys, h1, h2⟩ := Own.setMany y m (o + 1) _ _ (Own.set_ h o y)
    refine ⟨ys, h1, ?_⟩
    have := congrArg (List.take o) h2
    rw [List.take_take, List.take_take, show min o (o + 1) = o by omega] at this
    rw [this, List.take_set_of_le (Nat.le_refl _)]

theorem own_cellN {w : World} {B n c : Nat} {e : TypeId} {g : Nat} {k : IntKind} {xs : List Int} (h : Own w B e k (some ⟨g, 0, none⟩) n c xs) {j : Nat} (hj : j < n) : w.cell? ⟨g, j, none⟩ = some (.int k (nth xs j)) := by
  rw [OwnV.cellAt h j (by omega)]
  have hl : j < xs.length := by rw [h.len]; exact hj
  rw [List.getElem?_map, List.getElem?_eq_getElem hl, nth_eq hl]
  rfl
theorem TI64n : SliceOf Tryd.prog 25 3 1 8 := sliceOf_mk Tryd.underlying25 (z := .int .i64 0) (by kernel_rfl) rfl (by omega) (by omega)
theorem tail_run (r n c i : Nat) (hi : i < n) (hc : n ≤ c) (W : World) : (Instr.slice 25 (.slice (some ⟨r, 0, none⟩) n c) (some (.int .i64 (i : Int))) none none).run Tryd.prog W = .ok (.slice (some ⟨r, i, none⟩) (n - i) (c - i)) W := by
  rw [run_slice_l W 25 _ n c (under_elem TI64n) .i64 i (by omega) (by omega), sizeOf_run TI64n]
  have hne : ¬ c = i := by omega
  simp [Result.andThen, sliced, hne, add_zero_at]
theorem head_run (r n c i : Nat) (hi : i ≤ n) (hn : 0 < n) (hc : n ≤ c) (W : World) : (Instr.slice 25 (.slice (some ⟨r, 0, none⟩) n c) none (some (.int .i64 (i : Int))) none).run Tryd.prog W = .ok (.slice (some ⟨r, 0, none⟩) i c) W := by
  rw [run_slice_h W 25 _ _ _ (under_elem TI64n) .i64 i (by omega) (by omega), sizeOf_run TI64n]
  have hne : ¬ c = 0 := by omega
  simp [Result.andThen, sliced, hne, Addr.add]
theorem zero_int (W : World) : (zeroValue 3).run Tryd.prog W = .ok (.int .i64 0) W := by kernel_rfl

set_option maxHeartbeats 4000000 in
theorem del_any (g : Nat) (b : Addr) (p : Int → Bool) (A : Option Addr) (n c : Nat) (zs : List Int) (B : Nat) (w : World) (ho : Own w B 3 .i64 A n c zs) (hn : n ≤ 140737488355328)
    (eg : ∀ args w, (callFunc g args).run Tryd.prog w = .ok (.enter g args) w) (h0 : Tells Tryd.prog g #[.pointer (some b)] p w) (ht : ∀ r, A = some ⟨r, 0, none⟩ → TellsOver Tryd.prog g #[.pointer (some b)] p w r) :
    Calls Tryd.prog 16 #[.slice A n c, .func (.func g) #[] #[.pointer (some b)]] w (DelPost w B (zs.filter (fun x => !p x))) := by
  have HO : Shut _ := ⟨ho⟩
  have HT : Shut _ := ⟨ht⟩
  have HLEN : Shut (zs.length = n) := ⟨ho.len⟩
  have CI : Shut _ := ⟨idx_any g b p A n c zs w ho.ints hn eg h0⟩
  have hle := OwnV.le ho
  have hcap := OwnV.capLe ho
  obtain ⟨R, hR⟩ : ∃ R, zs.filter (fun x => !p x) = R := ⟨_, rfl⟩
  rw [hR]
  have HR : Shut _ := ⟨hR⟩
  clear ho ht h0 hR
  go_enter Tryd.func16, Tryd.ntmps16
  go_wp2_with fail
  refine CI.out.mono ?_
  rintro e w1 ⟨hcs, rfl⟩
  rcases hcs with ⟨k, hk, rfl, hpk, hall⟩ | ⟨rfl, hall⟩
  · have HPK : Shut _ := ⟨hpk⟩
    have HALL : Shut _ := ⟨hall⟩
    rw [HLEN.out] at hk
    obtain ⟨r, rfl, hr1, hr2⟩ := OwnV.form HO.out (by omega)
    have TO : Shut _ := ⟨HT.out r rfl⟩
    clear hpk hall HT CI
    have hk1 : ((k : Int) == -1) = false := by simp
    go_wp2_with fail
    go_loopg [5, 6] (n + 1) (fun gg v5 v6 wr => ∃ (i j : Nat) (ys : List Int), n - j < gg ∧ i < j ∧ j ≤ n ∧ v5 = .int .i64 (i : Int) ∧ v6 = .int .i64 (j : Int) ∧ Shut (Own wr B 3 .i64 (some ⟨r, 0, none⟩) n c ys) ∧ Shut (ys.take i = (zs.take j).filter (fun x => !p x)) ∧ Shut (ys.drop j = zs.drop j) ∧ wr.heap.size = w.heap.size ∧ Shut (∀ b, b < w.heap.size → b ≠ r → wr.heap[b]? = w.heap[b]?) ∧ Shut (Below B w wr))
    case atStart =>
      refine ⟨k, k + 1, zs, by omega, by omega, by omega, rfl, rfl, HO, ⟨?_⟩, ⟨rfl⟩, rfl, ⟨fun b _ _ => rfl⟩, ⟨Below.refl _ _⟩⟩
      have hkl : k < zs.length := by rw [HLEN.out]; exact hk
      rw [keptN_take p hkl, if_pos HPK.out, List.append_nil, filter_take_none (Nat.le_of_lt hkl) HALL.out]
    case round =>
      obtain ⟨i, j, ys, hg, hij, hjn, rfl, rfl, OY, TK, DR, hsz, HK, BE⟩ := hrel
      have HSZ : Shut _ := ⟨hsz⟩
      have CT : Shut (Tells Tryd.prog g #[.pointer (some b)] p wr) := ⟨TO.out wr (by omega) HK.out⟩
      have hr3 : r < wr.heap.size := by omega
      clear hsz
      by_cases hlt : j < n
      · have hyl : ys.length = n := Own.len OY.out
        have hx : nth ys j = nth zs j := by
          have := congrArg (fun l => l[0]?) DR.out
          simp only [List.getElem?_drop, Nat.add_zero] at this
          unfold nth
          rw [List.getD_eq_getElem?_getD, List.getD_eq_getElem?_getD, this]
        have DR2 : Shut (ys.drop (j + 1) = zs.drop (j + 1)) := ⟨by
          have := congrArg (List.drop 1) DR.out
          rw [List.drop_drop, List.drop_drop] at this
          exact this⟩
        have hc := own_cellN OY.out hlt
        have hci := own_cellN OY.out (j := i) (by omega)
        have hfr := OwnV.frozenAt OY.out i
        rw [hx] at hc
        have KT : Shut _ := ⟨keptN_take p (zs := zs) (k := j) (by rw [HLEN.out]; exact hlt)⟩
        have CX : Shut _ := ⟨CT.out (nth zs j)⟩
        generalize nth zs j = x at *
        generalize nth ys i = yi at *
        cases hb : p x with
        | true =>
          have TK2 : Shut (ys.take i = (zs.take (j + 1)).filter (fun x => !p x)) := ⟨by rw [KT.out, if_pos hb, List.append_nil]; exact TK.out⟩
          rw [hb] at CX
          clear hb hx hyl hci hfr
          go_wp2_with fail
          refine CX.out.mono ?_
          rintro e w2 ⟨rfl, rfl⟩
          go_wp2_with fail
          go_roundg (n - j)
          case measure => omega
          case rel => exact ⟨i, j + 1, ys, by omega, by omega, by omega, rfl, by go_num, OY, TK2, DR2, HSZ.out, HK, BE⟩
        | false =>
          have TK2 : Shut ((ys.set i x).take (i + 1) = (zs.take (j + 1)).filter (fun x => !p x)) := ⟨by
            rw [KT.out, if_neg (by rw [hb]; simp), ← TK.out, List.take_succ_eq_append_getElem (by simp; omega), List.take_set_of_le (Nat.le_refl _)]
            simp⟩
          have DR3 : Shut ((ys.set i x).drop (j + 1) = zs.drop (j + 1)) := ⟨by rw [List.drop_set_of_lt (by omega)]; exact DR2.out⟩
          have OY2 : Shut _ := ⟨Own.set_ OY.out i x⟩
          have BE2 : Shut _ := ⟨Below.setCell BE.out (p := ⟨r, i, none⟩) hr1 (.int .i64 x)⟩
          have HK2 : Shut (∀ b, b < w.heap.size → b ≠ r → (wr.setCell ⟨r, i, none⟩ (.int .i64 x)).heap[b]? = w.heap[b]?) := ⟨fun b h1 h2 => by rw [Below.heap_setCell wr ⟨r, i, none⟩ _ b h2]; exact HK.out b h1 h2⟩
          have hin : (i : Int) < (n : Int) := by omega
          have SZ2 : Shut ((wr.setCell ⟨r, i, none⟩ (.int .i64 x)).heap.size = w.heap.size) := ⟨by have := HSZ.out; simpa [World.setCell] using this⟩
          rw [hb] at CX
          clear hb hx hyl
          go_wp2_with fail
          refine CX.out.mono ?_
          rintro e w2 ⟨rfl, rfl⟩
          go_wp2_with fail
          go_roundg (n - j)
          case measure => omega
          case rel => exact ⟨i + 1, j + 1, ys.set i x, by omega, by omega, by omega, by go_num, by go_num, OY2, TK2, DR3, SZ2.out, HK2, BE2⟩
      · obtain rfl : j = n := by omega
        have hRy : R = ys.take i := by rw [TK.out, ← HR.out, List.take_of_length_le (by rw [HLEN.out]; exact Nat.le_refl _)]
        have HRY : Shut _ := ⟨hRy⟩
        have ht := fun W => tail_run r j c i hij hle W
        have hh := fun W => head_run r j c i (by omega) (by omega) hle W
        have hcl : ∀ ty, (Builtin.clear_ #[25] ty #[.slice (some ⟨r, i, none⟩) (j - i) (c - i)]).run Tryd.prog wr = .ok (.tuple #[]) (wr.setCells r i (List.replicate (j - i) (.int .i64 0))) :=
          fun ty => Lib.run_clear_slice wr 25 3 ty (.int .i64 0) Tryd.underlying25 zero_int rfl rfl r i (j - i) (c - i) (by omega) (fun t ht => by rw [own_cellN OY.out (by omega)]; rfl) (fun t ht => OwnV.frozenAt OY.out _)
        obtain ⟨zs2, o2, hz2⟩ := Own.setMany 0 (j - i) i wr ys OY.out
        have OZ : Shut _ := ⟨Own.cutTo o2 (m := i) (by omega)⟩
        have BZ : Shut (Below B w (wr.setCells r i (List.replicate (j - i) (.int .i64 0)))) := ⟨Go.below_setCells hr1 _ _ _ BE.out⟩
        have HZ2 : Shut _ := ⟨hz2⟩
        have hlen2 : i = R.length := by rw [hRy, List.length_take, Own.len OY.out]; omega
        have HL2 : Shut _ := ⟨hlen2⟩
        clear hRy o2 hz2 hlen2 CT
        go_wp2_with fail
        go_ret
        refine ⟨some ⟨r, 0, none⟩, c, by rw [← HL2.out]; rfl, ?_, BZ.out⟩
        rw [← HL2.out, HRY.out, ← HZ2.out]
        exact OZ.out
  · have E := (HR.out.symm.trans (filter_none hall)).symm
    subst E
    have hz : DelPost w B zs (.returned (.slice A zs.length c)) w := ⟨A, c, rfl, by rw [HLEN.out]; exact HO.out, Below.refl _ _⟩
    rw [HLEN.out] at hz
    have HZ : Shut _ := ⟨hz⟩
    clear hz hall CI HT
    go_wp2_with fail
    go_ret
    exact HZ.out
end Go.Proofs.YtgianjnccpbnaaaDoor
