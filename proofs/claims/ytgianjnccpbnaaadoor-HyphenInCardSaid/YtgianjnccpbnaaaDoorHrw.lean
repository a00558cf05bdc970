/- Chapter 20: the reference's reading of UTF-8: long, second, Stands, rune1, Decode. -/
import Derived.Test.YtgianjnccpbnaaaDoorRows
import Derived.Test.YtgianjnccpbnaaaDoorHlaw
import Derived.Test.YtgianjnccpbnaaaDoorHit
import Derived.Test.YtgianjnccpbnaaaDoorCut
import Derived.Deep.DeepCutAuto
import Derived.Deep.CutBlock
import Derived.Lib.ConvBytes
namespace Go.Proofs.YtgianjnccpbnaaaDoor
open Go.ChangeShapes Go.WideShapes Go.ChangeAt Go.RowKit
set_option maxRecDepth 100000
set_option linter.unusedSimpArgs false

theorem TU8h : SliceOf Tryd.prog 75 5 1 1 := sliceOf_mk Tryd.underlying75 (z := .int .u8 0) (by kernel_rfl) rfl (by omega) (by omega)
theorem st_le4 (s : ByteArray) (pos : Nat) : (st s pos).1 ≤ 4 := by
  rw [st_eq]
  unfold stN
  repeat' split
  all_goals decide
/-- a text's bytes as numbers -/
def nums (s : ByteArray) : List Int := s.data.toList.map fun b => (b.toNat : Int)
theorem nums_len (s : ByteArray) : (nums s).length = s.size := by unfold nums; rw [List.length_map]; rfl
theorem nums_at {s : ByteArray} {i : Nat} (h : i < s.size) : nth (nums s) i = (bt s i : Int) := by
  obtain ⟨d⟩ := s
  obtain ⟨l⟩ := d
  have hl : i < l.length := h
  rw [show bt ⟨⟨l⟩⟩ i = (l.getD i 0).toNat from bt_mk l i]
  unfold nth nums
  simp [hl]

theorem cut_nth {xs : List Int} {p n i : Nat} (hi : i < n) : nth ((xs.take (p + n)).drop p) i = nth xs (p + i) := by
  unfold nth
  simp only [List.getD_eq_getElem?_getD, List.getElem?_drop, List.getElem?_take]
  rw [if_pos (by omega)]
theorem cut_out {xs : List Int} {p n i : Nat} (hi : n ≤ i) : nth ((xs.take (p + n)).drop p) i = 0 := by
  unfold nth
  simp only [List.getD_eq_getElem?_getD, List.getElem?_drop, List.getElem?_take]
  rw [if_neg (by omega)]
  rfl
set_option maxHeartbeats 1000000 in
theorem long_any (c : Nat) (h : c < 256) (w : World) : Calls Tryd.prog 68 #[.int .i64 (c : Int)] w fun e w' => e = .returned (.int .i64 (longN c : Nat)) ∧ w = w' := by
  go_enter Tryd.func68, Tryd.ntmps68
  go_wp2
  all_goals go_ret
  all_goals refine ⟨reti ?_, rfl⟩
  all_goals (unfold longN; (repeat' split) <;> omega)
set_option maxHeartbeats 1000000 in
theorem second_any (a b : Nat) (h : a < 256) (hb : b < 256) (w : World) : Calls Tryd.prog 81 #[.int .i64 (a : Int), .int .i64 (b : Int)] w fun e w' => e = .returned (.bool (secB a b)) ∧ w = w' := by
  have hc : a = 224 ∨ a = 237 ∨ a = 240 ∨ a = 244 ∨ ((((a : Int) == 224) = false ∧ ((a : Int) == 237) = false ∧ ((a : Int) == 240) = false ∧ ((a : Int) == 244) = false) ∧ secB a b = decide (128 ≤ b ∧ b ≤ 191)) := by
    by_cases h1 : a = 224
    · exact .inl h1
    · by_cases h2 : a = 237
      · exact .inr (.inl h2)
      · by_cases h3 : a = 240
        · exact .inr (.inr (.inl h3))
        · by_cases h4 : a = 244
          · exact .inr (.inr (.inr (.inl h4)))
          · refine .inr (.inr (.inr (.inr ⟨⟨by simp; omega, by simp; omega, by simp; omega, by simp; omega⟩, ?_⟩)))
            unfold secB secLo secHi
            rw [if_neg h1, if_neg h3, if_neg h2, if_neg h4]
  rcases hc with rfl | rfl | rfl | rfl | ⟨⟨h1, h2, h3, h4⟩, h5⟩
  · have e : secB 224 b = decide (160 ≤ b ∧ b ≤ 191) := rfl
    rw [e]
    clear e
    go_enter Tryd.func81, Tryd.ntmps81
    go_wp2
    all_goals go_ret
    all_goals exact ⟨retb (by rw [Bool.eq_iff_iff]; simp <;> omega), rfl⟩
  · have e : secB 237 b = decide (128 ≤ b ∧ b ≤ 159) := rfl
    rw [e]
    clear e
    go_enter Tryd.func81, Tryd.ntmps81
    go_wp2
    all_goals go_ret
    all_goals exact ⟨retb (by rw [Bool.eq_iff_iff]; simp <;> omega), rfl⟩
  · have e : secB 240 b = decide (144 ≤ b ∧ b ≤ 191) := rfl
    rw [e]
    clear e
    go_enter Tryd.func81, Tryd.ntmps81
    go_wp2
    all_goals go_ret
    all_goals exact ⟨retb (by rw [Bool.eq_iff_iff]; simp <;> omega), rfl⟩
  · have e : secB 244 b = decide (128 ≤ b ∧ b ≤ 143) := rfl
    rw [e]
    clear e
    go_enter Tryd.func81, Tryd.ntmps81
    go_wp2
    all_goals go_ret
    all_goals exact ⟨retb (by rw [Bool.eq_iff_iff]; simp <;> omega), rfl⟩
  · rw [h5]
    clear h5
    go_enter Tryd.func81, Tryd.ntmps81
    go_wp2
    all_goals go_ret
    all_goals exact ⟨retb (by rw [Bool.eq_iff_iff]; simp <;> omega), rfl⟩

def StandsPost (w : World) (q : Nat × Bool) (e : Ending) (w' : World) : Prop := e = .returned (.tuple #[.int .i64 (q.1 : Int), .bool q.2]) ∧ w = w'
set_option maxHeartbeats 2000000 in
theorem stands_any (A : Option Addr) (c : Nat) (s : ByteArray) (pos : Nat) (hp : pos < s.size) (hs : s.size ≤ 1000000) (w : World) (hx : IntsAt w w.heap.size .u8 A s.size (nums s)) :
    Calls Tryd.prog 67 #[.slice A s.size c, .int .i64 (pos : Int)] w (StandsPost w (st s pos)) := by
  have HX := Lib.hid hx
  obtain ⟨ad, rfl, hab, hcx⟩ := hx.2 (by omega)
  have HC : Shut (∀ j, j < s.size → w.cell? (ad.add j) = some (.int .u8 (bt s j))) := ⟨fun j hj => by rw [hcx j hj, nums_at hj]⟩
  have hc0 := HC.out pos hp
  obtain ⟨b0, hb0⟩ : ∃ b0, bt s pos = b0 := ⟨_, rfl⟩
  have hb256 := bt_lt s pos
  obtain ⟨N, hN⟩ : ∃ N, longN b0 = N := ⟨_, rfl⟩
  have hN4 := longN_le b0
  have CL := fun W => long_any b0 (by omega) W
  rw [hN] at CL hN4
  rw [hb0] at hc0 hb256
  have CL := Lib.hid CL
  have ST : Shut (st s pos = if N = 0 then (1, false) else stF s pos N (N - 1) 1) := ⟨by unfold st; rw [hb0, hN]⟩
  have HB0 : Shut (bt s pos = b0) := ⟨hb0⟩
  generalize st s pos = q at *
  clear hx hcx hN hb0
  by_cases h0 : N = 0
  · subst h0
    have E := ST.out
    rw [if_pos rfl] at E
    subst E
    go_enter Tryd.func67, Tryd.ntmps67
    go_wp2_with fail
    refine (CL.out _).mono ?_
    rintro e w' ⟨rfl, rfl⟩
    go_wp2_with fail
    go_ret2
    exact ⟨rfl, rfl⟩
  · have hn0 : ((N : Int) == 0) = false := by simp; omega
    have ST : Shut (stF s pos N (N - 1) 1 = q) := ⟨by rw [ST.out, if_neg h0]⟩
    clear h0
    go_enter Tryd.func67, Tryd.ntmps67
    go_wp2_with fail
    refine (CL.out _).mono ?_
    rintro e w' ⟨rfl, rfl⟩
    go_wp2_with fail
    clear hc0
    go_loopg [7] 5 (fun g v wr => ∃ k : Nat, 1 ≤ k ∧ k ≤ N ∧ N < k + g ∧ v = .int .i64 k ∧ Shut (stF s pos N (N - k) k = q) ∧ wr = w)
    case atStart => exact ⟨1, by omega, by simp at hn0; omega, by omega, rfl, ST, rfl⟩
    case round =>
      obtain ⟨k, hk1, hk2, hkg, rfl, SK, rfl⟩ := hrel
      by_cases hin : k < N ∧ pos + k < s.size
      · obtain ⟨hkN, hks⟩ := hin
        have hc := HC.out (pos + k) hks
        have hc0 := HC.out pos hp
        rw [HB0.out] at hc0
        have hck := bt_lt s (pos + k)
        have KB : Shut (badC s pos k = ((decide (k = 1) && !secB b0 (bt s (pos + 1))) || decide (bt s (pos + k) < 128 ∨ 191 < bt s (pos + k)))) := ⟨by unfold badC; rw [HB0.out]⟩
        have SN : Shut (badC s pos k = true → q = (k, false)) := ⟨fun h => by
          have := SK.out
          rw [show N - k = (N - (k + 1)) + 1 by omega] at this
          unfold stF at this
          rw [if_pos hks, if_pos h] at this
          exact this.symm⟩
        have SY : Shut (badC s pos k = false → stF s pos N (N - (k + 1)) (k + 1) = q) := ⟨fun h => by
          have := SK.out
          rw [show N - k = (N - (k + 1)) + 1 by omega] at this
          conv at this => lhs; unfold stF
          rw [if_pos hks, if_neg (by rw [h]; simp)] at this
          exact this⟩
        have i1 : (pos : Int) + (k : Int) < (s.size : Int) := by omega
        have i2 : (k : Int) < (N : Int) := by omega
        clear SK HX
        go_upto_region 7 with fail
        go_cut [54] (fun v wx => v = .bool (badC s pos k) ∧ wx = wr)
        case first =>
          clear SN SY
          generalize badC s pos k = bd at *
          by_cases h1 : k = 1
          · subst h1
            have CS := fun W => second_any b0 (bt s (pos + 1)) (by omega) hck W
            generalize secB b0 (bt s (pos + 1)) = sb at *
            generalize bt s (pos + 1) = ck at *
            have CS := Lib.hid CS
            cases sb
            · go_wp2_with fail
              refine (CS.out _).mono ?_
              rintro e w' ⟨rfl, rfl⟩
              go_wp2_with fail
              go_meet
              exact ⟨by rw [KB.out]; simp, rfl⟩
            · go_wp2_with fail
              refine (CS.out _).mono ?_
              rintro e w' ⟨rfl, rfl⟩
              by_cases hl : ck < 128
              · go_wp2_with fail
                go_meet
                exact ⟨by rw [KB.out]; simp [hl], rfl⟩
              · have hl2 : ¬ ((ck : Int) < 128) := by omega
                go_wp2_with fail
                go_meet
                exact ⟨by rw [KB.out]; congr 1; rw [Bool.eq_iff_iff]; simp <;> omega, rfl⟩
          · have h1b : ((k : Int) == 1) = false := by simp; omega
            have h1c : decide (k = 1) = false := by simp [h1]
            have KB2 := KB.out
            rw [h1c] at KB2
            have KB : Shut _ := ⟨KB2⟩
            clear KB2
            generalize bt s (pos + k) = ck at *
            clear h1 h1c
            by_cases hl : ck < 128
            · go_wp2_with fail
              go_meet
              exact ⟨by rw [KB.out]; simp [hl], rfl⟩
            · have hl2 : ¬ ((ck : Int) < 128) := by omega
              go_wp2_with fail
              go_meet
              exact ⟨by rw [KB.out]; congr 1; rw [Bool.eq_iff_iff]; simp <;> omega, rfl⟩
        case rest =>
          obtain ⟨rfl, rfl⟩ := hcut
          cases hb : badC s pos k with
          | true =>
            have E := SN.out hb
            subst E
            clear hb
            go_wp2_with fail
            go_ret2
            exact ⟨rfl, rfl⟩
          | false =>
            have E : Shut _ := ⟨SY.out hb⟩
            clear hb
            go_wp2_with fail
            go_roundg (gk - 1)
            case measure => omega
            case rel => exact ⟨k + 1, by omega, by omega, by omega, by go_num, E, rfl⟩
      · have E : q = (k, k == N) := by
          have := SK.out
          rcases Nat.eq_or_lt_of_le hk2 with h | h
          · subst h
            rw [Nat.sub_self] at this
            exact this.symm
          · rw [show N - k = (N - (k + 1)) + 1 by omega] at this
            unfold stF at this
            rw [if_neg (by omega)] at this
            exact this.symm
        have hq : ((k : Int) == (N : Int)) = (k == N) := by rw [Bool.eq_iff_iff]; simp; omega
        have HQ := Lib.hid hq
        subst E
        have hcs : N ≤ k ∨ (k < N ∧ s.size ≤ pos + k) := by omega
        clear hin hq
        rcases hcs with h1 | ⟨h1, h2⟩
        · have h3 : decide (k < N) = false := by simp; omega
          go_wp2_with fail
          go_ret2
          exact ⟨congrArg (fun b => Ending.returned (.tuple #[.int .i64 (k : Int), .bool b])) HQ.out, rfl⟩
        · have h3 : decide ((pos : Int) + (k : Int) < (s.size : Int)) = false := by simp; omega
          go_wp2_with fail
          go_ret2
          exact ⟨congrArg (fun b => Ending.returned (.tuple #[.int .i64 (k : Int), .bool b])) HQ.out, rfl⟩

/-- the rune of a form, byte by byte -/
def rvx (xs : List Int) (n : Nat) : Nat → Int
  | 0 => nth xs 0 - (if n = 2 then 192 else if n = 3 then 224 else if n = 4 then 240 else 0)
  | i + 1 => rvx xs n i * 64 + nth xs (i + 1) - 128
theorem rvx_bd {xs : List Int} {n : Nat} (h : ∀ j, 0 ≤ nth xs j ∧ nth xs j ≤ 255) : (-240 ≤ rvx xs n 0 ∧ rvx xs n 0 ≤ 255) ∧ (-20000 ≤ rvx xs n 1 ∧ rvx xs n 1 ≤ 20000) ∧ (-2000000 ≤ rvx xs n 2 ∧ rvx xs n 2 ≤ 2000000) ∧ (-200000000 ≤ rvx xs n 3 ∧ rvx xs n 3 ≤ 200000000) := by
  have h0 := h 0
  have h1 := h 1
  have h2 := h 2
  have h3 := h 3
  have e0 : -240 ≤ rvx xs n 0 ∧ rvx xs n 0 ≤ 255 := by unfold rvx; (repeat' split) <;> omega
  have e1 : rvx xs n 1 = rvx xs n 0 * 64 + nth xs 1 - 128 := rfl
  have e2 : rvx xs n 2 = rvx xs n 1 * 64 + nth xs 2 - 128 := rfl
  have e3 : rvx xs n 3 = rvx xs n 2 * 64 + nth xs 3 - 128 := rfl
  generalize rvx xs n 0 = a at *
  generalize rvx xs n 1 = b at *
  generalize rvx xs n 2 = c at *
  generalize rvx xs n 3 = d at *
  omega
theorem rvx_bound {xs : List Int} {n i : Nat} (h : ∀ j, 0 ≤ nth xs j ∧ nth xs j ≤ 255) (hi : i ≤ 3) : -200000000 ≤ rvx xs n i ∧ rvx xs n i ≤ 200000000 := by
  obtain ⟨h0, h1, h2, h3⟩ := rvx_bd (n := n) h
  have : i = 0 ∨ i = 1 ∨ i = 2 ∨ i = 3 := by omega
  rcases this with rfl | rfl | rfl | rfl
  all_goals omega

set_option maxHeartbeats 2000000 in
theorem rune1_any (A : Option Addr) (n c : Nat) (xs : List Int) (hn1 : 1 ≤ n) (hn4 : n ≤ 4) (w : World) (hx : IntsAt w w.heap.size .u8 A n xs) (hb : ∀ j, 0 ≤ nth xs j ∧ nth xs j ≤ 255) :
    Calls Tryd.prog 69 #[.slice A n c] w fun e w' => e = .returned (.int .i32 (rvx xs n (n - 1))) ∧ w = w' := by
  obtain ⟨ad, rfl, hab, hcx⟩ := hx.2 (by omega)
  have HC : Shut (∀ j, j < n → w.cell? (ad.add j) = some (.int .u8 (nth xs j))) := ⟨hcx⟩
  have HB : Shut (∀ j, 0 ≤ nth xs j ∧ nth xs j ≤ 255) := ⟨hb⟩
  have hc0 : w.cell? ad = some (.int .u8 (nth xs 0)) := by have := hcx 0 (by omega); simpa [Addr.add] using this
  obtain ⟨g1, g2⟩ := hb 0
  have hr0 : Shut (rvx xs n 0 = nth xs 0 - (if n = 2 then 192 else if n = 3 then 224 else if n = 4 then 240 else 0)) := ⟨rfl⟩
  generalize nth xs 0 = x0 at hc0 g1 g2 hr0
  clear hx hcx hb
  have hcs : n = 1 ∨ n = 2 ∨ n = 3 ∨ n = 4 := by omega
  rcases hcs with rfl | rfl | rfl | rfl
  · go_enter Tryd.func69, Tryd.ntmps69
    go_wp2_with fail
    go_loopg [3, 4] 5 (fun g u v wr => ∃ k : Nat, k + 1 ≤ 1 ∧ 1 < k + 1 + g ∧ v = .int .i64 ((k : Int) + 1) ∧ u = .int .i64 (rvx xs 1 k) ∧ wr = w)
    case atStart => exact ⟨0, by omega, by omega, rfl, by rw [hr0.out]; simp, rfl⟩
    case round =>
      obtain ⟨k, hk, hkg, rfl, rfl, rfl⟩ := hrel
      obtain ⟨y1, y2⟩ := rvx_bound (n := 1) (i := k) HB.out (by omega)
      by_cases hlt : k + 1 < 1
      · have hc := HC.out (k + 1) hlt
        rw [add_succ] at hc
        obtain ⟨z1, z2⟩ := HB.out (k + 1)
        have RS : Shut (rvx xs 1 (k + 1) = rvx xs 1 k * 64 + nth xs (k + 1) - 128) := ⟨rfl⟩
        generalize rvx xs 1 k = a at *
        generalize nth xs (k + 1) = b at *
        have i0 : (k : Int) + 1 < 1 := by omega
        have i3 : (0 : Int) ≤ (k : Int) + 1 := by omega
        go_wp2_with fail
        go_roundg (gk - 1)
        case measure => omega
        case rel => exact ⟨k + 1, by omega, by omega, by go_num, by rw [RS.out], rfl⟩
      · obtain rfl : k = 0 := by omega
        generalize ha : rvx xs 1 0 = a at *
        have HA : Shut (rvx xs 1 0 = a) := ⟨ha⟩
        clear ha
        go_wp2_with fail
        go_ret
        exact ⟨by rw [HA.out]; rfl, rfl⟩
  · go_enter Tryd.func69, Tryd.ntmps69
    go_wp2_with fail
    go_loopg [3, 4] 5 (fun g u v wr => ∃ k : Nat, k + 1 ≤ 2 ∧ 2 < k + 1 + g ∧ v = .int .i64 ((k : Int) + 1) ∧ u = .int .i64 (rvx xs 2 k) ∧ wr = w)
    case atStart => exact ⟨0, by omega, by omega, rfl, by rw [hr0.out]; simp, rfl⟩
    case round =>
      obtain ⟨k, hk, hkg, rfl, rfl, rfl⟩ := hrel
      obtain ⟨y1, y2⟩ := rvx_bound (n := 2) (i := k) HB.out (by omega)
      by_cases hlt : k + 1 < 2
      · have hc := HC.out (k + 1) hlt
        rw [add_succ] at hc
        obtain ⟨z1, z2⟩ := HB.out (k + 1)
        have RS : Shut (rvx xs 2 (k + 1) = rvx xs 2 k * 64 + nth xs (k + 1) - 128) := ⟨rfl⟩
        generalize rvx xs 2 k = a at *
        generalize nth xs (k + 1) = b at *
        have i0 : (k : Int) + 1 < 2 := by omega
        have i3 : (0 : Int) ≤ (k : Int) + 1 := by omega
        go_wp2_with fail
        go_roundg (gk - 1)
        case measure => omega
        case rel => exact ⟨k + 1, by omega, by omega, by go_num, by rw [RS.out], rfl⟩
      · obtain rfl : k = 1 := by omega
        generalize ha : rvx xs 2 1 = a at *
        have HA : Shut (rvx xs 2 1 = a) := ⟨ha⟩
        clear ha
        go_wp2_with fail
        go_ret
        exact ⟨by rw [HA.out]; rfl, rfl⟩
  · go_enter Tryd.func69, Tryd.ntmps69
    go_wp2_with fail
    go_loopg [3, 4] 5 (fun g u v wr => ∃ k : Nat, k + 1 ≤ 3 ∧ 3 < k + 1 + g ∧ v = .int .i64 ((k : Int) + 1) ∧ u = .int .i64 (rvx xs 3 k) ∧ wr = w)
    case atStart => exact ⟨0, by omega, by omega, rfl, by rw [hr0.out]; simp, rfl⟩
    case round =>
      obtain ⟨k, hk, hkg, rfl, rfl, rfl⟩ := hrel
      obtain ⟨y1, y2⟩ := rvx_bound (n := 3) (i := k) HB.out (by omega)
      by_cases hlt : k + 1 < 3
      · have hc := HC.out (k + 1) hlt
        rw [add_succ] at hc
        obtain ⟨z1, z2⟩ := HB.out (k + 1)
        have RS : Shut (rvx xs 3 (k + 1) = rvx xs 3 k * 64 + nth xs (k + 1) - 128) := ⟨rfl⟩
        generalize rvx xs 3 k = a at *
        generalize nth xs (k + 1) = b at *
        have i0 : (k : Int) + 1 < 3 := by omega
        have i3 : (0 : Int) ≤ (k : Int) + 1 := by omega
        go_wp2_with fail
        go_roundg (gk - 1)
        case measure => omega
        case rel => exact ⟨k + 1, by omega, by omega, by go_num, by rw [RS.out], rfl⟩
      · obtain rfl : k = 2 := by omega
        generalize ha : rvx xs 3 2 = a at *
        have HA : Shut (rvx xs 3 2 = a) := ⟨ha⟩
        clear ha
        go_wp2_with fail
        go_ret
        exact ⟨by rw [HA.out]; rfl, rfl⟩
  · go_enter Tryd.func69, Tryd.ntmps69
    go_wp2_with fail
    go_loopg [3, 4] 5 (fun g u v wr => ∃ k : Nat, k + 1 ≤ 4 ∧ 4 < k + 1 + g ∧ v = .int .i64 ((k : Int) + 1) ∧ u = .int .i64 (rvx xs 4 k) ∧ wr = w)
    case atStart => exact ⟨0, by omega, by omega, rfl, by rw [hr0.out]; simp, rfl⟩
    case round =>
      obtain ⟨k, hk, hkg, rfl, rfl, rfl⟩ := hrel
      obtain ⟨y1, y2⟩ := rvx_bound (n := 4) (i := k) HB.out (by omega)
      by_cases hlt : k + 1 < 4
      · have hc := HC.out (k + 1) hlt
        rw [add_succ] at hc
        obtain ⟨z1, z2⟩ := HB.out (k + 1)
        have RS : Shut (rvx xs 4 (k + 1) = rvx xs 4 k * 64 + nth xs (k + 1) - 128) := ⟨rfl⟩
        generalize rvx xs 4 k = a at *
        generalize nth xs (k + 1) = b at *
        have i0 : (k : Int) + 1 < 4 := by omega
        have i3 : (0 : Int) ≤ (k : Int) + 1 := by omega
        go_wp2_with fail
        go_roundg (gk - 1)
        case measure => omega
        case rel => exact ⟨k + 1, by omega, by omega, by go_num, by rw [RS.out], rfl⟩
      · obtain rfl : k = 3 := by omega
        generalize ha : rvx xs 4 3 = a at *
        have HA : Shut (rvx xs 4 3 = a) := ⟨ha⟩
        clear ha
        go_wp2_with fail
        go_ret
        exact ⟨by rw [HA.out]; rfl, rfl⟩

theorem TI32r : SliceOf Tryd.prog 22 21 1 4 := sliceOf_mk Tryd.underlying22 (z := .int .i32 0) (by kernel_rfl) rfl (by omega) (by omega)
def DecPost (w : World) (n : Nat) (r : Option (List Int)) (e : Ending) (w' : World) : Prop :=
  match r with
  | none => ∃ t x : Int, x ≠ 0 ∧ e = .returned (.tuple #[.slice none 0 0, .int .i64 t, .int .i64 x]) ∧ Below w.heap.size w w'
  | some l => ∃ (A : Option Addr) (c : Nat), e = .returned (.tuple #[.slice A l.length c, .int .i64 n, .int .i64 0]) ∧ Own w' w.heap.size 21 .i32 A l.length c l ∧ Below w.heap.size w w'
theorem dec_bad {s : ByteArray} {f pos : Nat} (h : pos < s.size) (ho : okU s pos = false) : decF s (f + 1) pos = none := by
  unfold decF; rw [if_pos h, if_neg (by rw [ho]; simp)]
theorem dec_go {s : ByteArray} {f pos : Nat} (h : pos < s.size) (ho : okU s pos = true) : decF s (f + 1) pos = (decF s f (pos + wd s pos)).map (ru s pos :: ·) := by
  conv => lhs; unfold decF
  rw [if_pos h, if_pos ho]
theorem dec_end {s : ByteArray} {f pos : Nat} (h : ¬ pos < s.size) : decF s f pos = some [] := by
  cases f with
  | zero => rfl
  | succ f => unfold decF; rw [if_neg h]
theorem rvx_rv (s : ByteArray) (pos n : Nat) (h : pos + n ≤ s.size) : ∀ i, i < n → rvx (((nums s).take (pos + n)).drop pos) n i = rv s pos n i
  | 0, hi => by
    unfold rvx rv lead
    rw [cut_nth hi, Nat.add_zero, nums_at (by omega)]
  | i + 1, hi => by
    unfold rvx rv
    rw [rvx_rv s pos n h i (by omega), cut_nth hi, nums_at (by omega)]
end Go.Proofs.YtgianjnccpbnaaaDoor
