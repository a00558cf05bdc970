/- Chapter 7: classes, pictures, regionals, and what hangs together, both ways. -/
import Derived.Test.YtmbgeeiidpllcaaDoorGlaw2
import Derived.Test.YtmbgeeiidpllcaaDoorOfs
import Derived.Test.YtmbgeeiidpllcaaDoorCut
namespace Go.Proofs.YtmbgeeiidpllcaaDoor
open Go.ChangeShapes Go.WideShapes Go.ChangeAt Go.RowKit
set_option maxRecDepth 100000
set_option linter.unusedSimpArgs false

def clu (r : Int) : Int := (propOf r).cluster
/-- the classes of a text -/
def ks (xs : List Int) : List Int := xs.map clu
theorem ks_len (xs : List Int) : (ks xs).length = xs.length := by simp [ks]
theorem ks_at {xs : List Int} {i : Nat} (h : i < xs.length) : nth (ks xs) i = clu (nth xs i) := by
  unfold nth ks
  simp [h]

theorem pclass_any (r : Int) (h1 : -2147483648 ≤ r) (h2 : r ≤ 2147483647) (w : World) (hl : Laid w) :
    Calls Tryd.prog 32 #[.int .i32 r] w fun e w' => e = .returned (.int .i64 (clu r)) ∧ Below w.heap.size w w' := by
  have O := Lib.hid (pOf_lit r h1 h2 w hl)
  clear h1 h2 hl 
  go_enter Tryd.func32, Tryd.ntmps32
  go_wp2_with fail
  refine O.out.mono ?_
  rintro e w1 ⟨rfl, hb1⟩
  go_wp2_with fail
  go_ret
  exact ⟨rfl, hb1⟩
theorem phard_any (c : Int) (w : World) : Calls Tryd.prog 33 #[.int .i64 c] w fun e w' => e = .returned (.bool (hardB c)) ∧ Below w.heap.size w w' := by
  go_enter Tryd.func33, Tryd.ntmps33
  go_wp2
  all_goals go_ret
  all_goals refine ⟨retb ?_, Below.refl _ _⟩
  all_goals try simp only [beq_iff_eq, beq_eq_false_iff_ne] at *
  all_goals simp_all [hardB]
set_option maxHeartbeats 1000000 in
theorem phgl_any (a b : Int) (w : World) : Calls Tryd.prog 34 #[.int .i64 a, .int .i64 b] w fun e w' => e = .returned (.bool (hglB a b)) ∧ Below w.heap.size w w' := by
  go_enter Tryd.func34, Tryd.ntmps34
  go_wp2
  all_goals go_ret
  all_goals refine ⟨retb ?_, Below.refl _ _⟩
  all_goals try simp only [beq_iff_eq, beq_eq_false_iff_ne] at *
  all_goals simp_all [hglB]

set_option maxHeartbeats 2000000 in
theorem ppic_any (A : Option Addr) (n c : Nat) (xs : List Int) (m : Nat) (hm : m < n) (w : World) (hx : SliceIn .i32 w A n c xs) (hl : Laid w) (hn : n ≤ 140737488355328) :
    Calls Tryd.prog 35 #[.slice A n c, .int .i64 ((m : Int) + 1)] w fun e w' => e = .returned (.bool (clu (nth xs m) == 5 && picAt (ks xs) m)) ∧ Below w.heap.size w w' := by
  have HX := Lib.hid hx
  have HL := Lib.hid hl
  have HLEN := Lib.hid hx.at_.len
  obtain ⟨ad, rfl, hab0, hcx0⟩ := hx.at_.2 (by omega)
  have hc0 := hcx0 m hm
  obtain ⟨g1, g2⟩ := bounds_i32 (hx.nth_wf hm)
  have C0 := Lib.hid (pclass_any (nth xs m) g1 g2 w hl)
  clear hx hl hcx0 g1 g2
  by_cases h5 : clu (nth xs m) = 5
  · rw [h5] at C0 ⊢
    clear h5
    go_enter Tryd.func35, Tryd.ntmps35
    go_wp2_with fail
    refine C0.out.mono ?_
    rintro e w1 ⟨rfl, x1⟩
    have XS := Lib.hid x1
    clear x1 C0 hc0
    go_wp2_with fail
    go_loopw [5] (fun v wr => ∃ j : Nat, j ≤ m ∧ ((j = 0 ∧ v = .int .i64 (-1)) ∨ (0 < j ∧ v = .int .i64 ((j - 1 : Nat) : Int))) ∧ picAt (ks xs) j = picAt (ks xs) m ∧ Below w.heap.size w wr) (fun v _ => (intOf v + 1).toNat)
    case atStart =>
      refine ⟨m, Nat.le_refl _, ?_, rfl, XS.out⟩
      rcases Nat.eq_zero_or_pos m with h0 | h0
      · subst h0; exact .inl ⟨rfl, by go_num⟩
      · exact .inr ⟨h0, by congr 1; omega⟩
    case round =>
      obtain ⟨j, hj, hv, hpic, hb⟩ := hrel
      have PIC := Lib.hid hpic
      have HB := Lib.hid hb
      clear hpic
      rcases hv with ⟨rfl, rfl⟩ | ⟨hj0, rfl⟩
      · go_wp2_with fail
        go_ret
        refine ⟨retb ?_, HB.out⟩
        rw [← PIC.out]
        simp [picAt]
      · obtain ⟨q, rfl⟩ : ∃ q, j = q + 1 := ⟨j - 1, by omega⟩
        simp only [Nat.add_sub_cancel]
        have hlt : q < n := by omega
        obtain ⟨h1, h2⟩ := bounds_i32 (HX.out.nth_wf hlt)
        obtain ⟨ad2, he2, hab, hcx⟩ := (HX.out.at_.below hb).2 (by omega)
        have hc := hcx q hlt
        have CC := Lib.hid (fun w' (hb : Below w.heap.size w w') => pclass_any (nth xs q) h1 h2 w' (HL.out.pass hb))
        have kq := ks_at (xs := xs) (i := q) (by rw [HLEN.out]; exact hlt)
        have hp1 : picAt (ks xs) (q + 1) = if nth (ks xs) q == 4 then picAt (ks xs) q else nth (ks xs) q == 14 := rfl
        rw [kq] at hp1
        rw [hp1] at PIC
        generalize clu (nth xs q) = cq at *
        generalize nth xs q = rq at *
        clear hcx h1 h2 kq hp1 hb
        obtain rfl : ad = ad2 := Option.some.inj he2
        by_cases h4 : cq = 4
        · subst h4
          go_wp2_with fail
          refine (CC.out _ HB.out).mono ?_
          rintro e w2 ⟨rfl, hv⟩
          have HB2 := Lib.hid (HB.out.trans (hv.mono HB.out.size))
          clear hv
          go_wp2_with fail
          go_roundw
          case rel =>
            refine ⟨q, by omega, ?_, by have := PIC.out; simpa using this, HB2.out⟩
            rcases Nat.eq_zero_or_pos q with h0 | h0
            · subst h0; exact .inl ⟨rfl, by go_num⟩
            · exact .inr ⟨h0, by congr 1; omega⟩
          case measure => simp [intOf] <;> omega
        · have n4 : ((cq : Int) == 4) = false := by simpa using h4
          clear h4
          go_wp2_with fail
          refine (CC.out _ HB.out).mono ?_
          rintro e w2 ⟨rfl, hv⟩
          have HB2 := Lib.hid (HB.out.trans (hv.mono HB.out.size))
          have hc2 := cell_pass hc hv
          clear hv
          go_wp2_with fail
          refine (CC.out _ HB2.out).mono ?_
          rintro e w3 ⟨rfl, hv⟩
          have HB3 := Lib.hid (HB2.out.trans (hv.mono HB2.out.size))
          clear hv
          go_wp2_with fail
          go_ret
          refine ⟨retb ?_, HB3.out⟩
          rw [← PIC.out, n4]
          simp
  · have n5 : ((clu (nth xs m) : Int) == 5) = false := by simpa using h5
    rw [n5]
    clear h5
    generalize clu (nth xs m) = cm at *
    go_enter Tryd.func35, Tryd.ntmps35
    go_wp2_with fail
    refine C0.out.mono ?_
    rintro e w1 ⟨rfl, x1⟩
    go_wp2_with fail
    go_ret
    exact ⟨rfl, x1⟩

set_option maxHeartbeats 2000000 in
theorem preg_any (A : Option Addr) (n c : Nat) (xs : List Int) (i : Nat) (hi : i ≤ n) (w : World) (hx : SliceIn .i32 w A n c xs) (hl : Laid w) (hn : n ≤ 140737488355328) :
    Calls Tryd.prog 36 #[.slice A n c, .int .i64 (i : Int)] w fun e w' => e = .returned (.bool (regs (ks xs) i % 2 == 1)) ∧ Below w.heap.size w w' := by
  have HX := Lib.hid hx
  have HL := Lib.hid hl
  have HLEN := Lib.hid hx.at_.len
  clear hx hl 
  go_enter Tryd.func36, Tryd.ntmps36
  go_wp2_with fail
  go_loopw [5] (fun v wr => ∃ q : Nat, q ≤ i ∧ v = .int .i64 q ∧ regs (ks xs) i = q + regs (ks xs) (i - q) ∧ Below w.heap.size w wr) (fun v _ => i - (intOf v).toNat)
  case atStart => exact ⟨0, Nat.zero_le _, rfl, by simp, Below.refl _ _⟩
  case round =>
    obtain ⟨q, hqi, rfl, hreg, hb⟩ := hrel
    by_cases hlt : q < i
    · obtain ⟨r, hr⟩ : ∃ r, i - q = r + 1 := ⟨i - q - 1, by omega⟩
      rw [hr] at hreg
      have hrn : r < n := by omega
      have hE : (i : Int) - 1 - (q : Int) = (r : Int) := by omega
      have hq : (q : Int) < (i : Int) := by omega
      obtain ⟨h1, h2⟩ := bounds_i32 (HX.out.nth_wf hrn)
      obtain ⟨ad, rfl, hab, hcx⟩ := (HX.out.at_.below hb).2 (by omega)
      have hc := hcx r hrn
      have CC := Lib.hid (pclass_any (nth xs r) h1 h2 wr (HL.out.pass hb))
      have kq := ks_at (xs := xs) (i := r) (by rw [HLEN.out]; exact hrn)
      have hp1 : regs (ks xs) (r + 1) = if nth (ks xs) r == 6 then regs (ks xs) r + 1 else 0 := rfl
      rw [kq] at hp1
      rw [hp1] at hreg
      have HR := Lib.hid hr
      generalize clu (nth xs r) = cq at *
      generalize nth xs r = rq at *
      have HB := Lib.hid hb
      clear hcx h1 h2 kq hp1 hb hr
      by_cases h4 : cq = 6
      · subst h4
        simp only [beq_self_eq_true, if_true] at hreg
        have REG := Lib.hid hreg
        clear hreg
        go_wp2_with fail
        refine CC.out.mono ?_
        rintro e w2 ⟨rfl, hv⟩
        have HB2 := Lib.hid (HB.out.trans (hv.mono HB.out.size))
        clear hv
        go_wp2_with fail
        go_roundw
        case rel => exact ⟨q + 1, by omega, by go_num, by rw [REG.out, show i - (q + 1) = r by omega]; omega, HB2.out⟩
        case measure => simp [intOf] <;> omega
      · have n4 : ((cq : Int) == 6) = false := by simpa using h4
        rw [n4] at hreg
        simp only [Bool.false_eq_true, if_false] at hreg
        have REG := Lib.hid hreg
        clear h4 hreg
        go_wp2_with fail
        refine CC.out.mono ?_
        rintro e w2 ⟨rfl, hv⟩
        have HB2 := Lib.hid (HB.out.trans (hv.mono HB.out.size))
        clear hv
        go_wp2_with fail
        go_ret
        refine ⟨retb ?_, HB2.out⟩
        rw [REG.out, Bool.eq_iff_iff]
        simp
        omega
    · obtain rfl : q = i := by omega
      rw [Nat.sub_self] at hreg
      have e0 : regs (ks xs) 0 = 0 := rfl
      rw [e0] at hreg
      have REG := Lib.hid hreg
      have HB := Lib.hid hb
      skip
      clear hreg e0 hb
      go_wp2_with fail
      go_ret
      refine ⟨retb ?_, HB.out⟩
      rw [REG.out, Bool.eq_iff_iff]
      simp
      omega

theorem rclass_any (r : Int) (h1 : -2147483648 ≤ r) (h2 : r ≤ 2147483647) (w : World) :
    Calls Tryd.prog 87 #[.int .i32 r] w fun e w' => e = .returned (.int .i64 (clu r)) ∧ Below w.heap.size w w' := by
  have O := Lib.hid (rOf_lit r h1 h2 w)
  clear h1 h2 
  go_enter Tryd.func87, Tryd.ntmps87
  go_wp2_with fail
  refine O.out.mono ?_
  rintro e w1 ⟨rfl, hb1⟩
  go_wp2_with fail
  go_ret
  exact ⟨rfl, hb1⟩
theorem rhard_any (c : Int) (w : World) : Calls Tryd.prog 89 #[.int .i64 c] w fun e w' => e = .returned (.bool (hardB c)) ∧ Below w.heap.size w w' := by
  go_enter Tryd.func89, Tryd.ntmps89
  go_wp2
  all_goals go_ret
  all_goals refine ⟨retb ?_, Below.refl _ _⟩
  all_goals try simp only [beq_iff_eq, beq_eq_false_iff_ne] at *
  all_goals simp_all [hardB]
set_option maxHeartbeats 1000000 in
theorem rhgl_any (a b : Int) (w : World) : Calls Tryd.prog 88 #[.int .i64 a, .int .i64 b] w fun e w' => e = .returned (.bool (hglB a b)) ∧ Below w.heap.size w w' := by
  go_enter Tryd.func88, Tryd.ntmps88
  go_wp2
  all_goals go_ret
  all_goals refine ⟨retb ?_, Below.refl _ _⟩
  all_goals try simp only [beq_iff_eq, beq_eq_false_iff_ne] at *
  all_goals simp_all [hglB]

set_option maxHeartbeats 2000000 in
theorem rpic_any (A : Option Addr) (n c : Nat) (xs : List Int) (m : Nat) (hm : m ≤ n) (w : World) (hx : SliceIn .i32 w A n c xs) (hn : n ≤ 140737488355328) :
    Calls Tryd.prog 90 #[.slice A n c, .int .i64 (m : Int)] w fun e w' => e = .returned (.bool (picAt (ks xs) m)) ∧ Below w.heap.size w w' := by
  have HX := Lib.hid hx
  have HLEN := Lib.hid hx.at_.len
  have XS := Lib.hid (Below.refl w.heap.size w)
  clear hx
  go_enter Tryd.func90, Tryd.ntmps90
  go_wp2_with fail
  go_loopw [1] (fun v wr => ∃ j : Nat, j ≤ m ∧ ((j = 0 ∧ v = .int .i64 (-1)) ∨ (0 < j ∧ v = .int .i64 ((j - 1 : Nat) : Int))) ∧ picAt (ks xs) j = picAt (ks xs) m ∧ Below w.heap.size w wr) (fun v _ => (intOf v + 1).toNat)
  case atStart =>
    refine ⟨m, Nat.le_refl _, ?_, rfl, XS.out⟩
    rcases Nat.eq_zero_or_pos m with h0 | h0
    · subst h0; exact .inl ⟨rfl, by go_num⟩
    · exact .inr ⟨h0, by congr 1; omega⟩
  case round =>
    obtain ⟨j, hj, hv, hpic, hb⟩ := hrel
    have PIC := Lib.hid hpic
    have HB := Lib.hid hb
    clear hpic
    rcases hv with ⟨rfl, rfl⟩ | ⟨hj0, rfl⟩
    · go_wp2_with fail
      go_ret
      refine ⟨retb ?_, HB.out⟩
      rw [← PIC.out]
      simp [picAt]
    · obtain ⟨q, rfl⟩ : ∃ q, j = q + 1 := ⟨j - 1, by omega⟩
      simp only [Nat.add_sub_cancel]
      have hlt : q < n := by omega
      obtain ⟨h1, h2⟩ := bounds_i32 (HX.out.nth_wf hlt)
      obtain ⟨ad2, he2, hab, hcx⟩ := (HX.out.at_.below hb).2 (by omega)
      have hc := hcx q hlt
      have CC := Lib.hid (fun w' (hb : Below w.heap.size w w') => rclass_any (nth xs q) h1 h2 w')
      have kq := ks_at (xs := xs) (i := q) (by rw [HLEN.out]; exact hlt)
      have hp1 : picAt (ks xs) (q + 1) = if nth (ks xs) q == 4 then picAt (ks xs) q else nth (ks xs) q == 14 := rfl
      rw [kq] at hp1
      rw [hp1] at PIC
      generalize clu (nth xs q) = cq at *
      generalize nth xs q = rq at *
      clear hcx h1 h2 kq hp1 hb
      subst he2
      by_cases h4 : cq = 4
      · subst h4
        go_wp2_with fail
        refine (CC.out _ HB.out).mono ?_
        rintro e w2 ⟨rfl, hv⟩
        have HB2 := Lib.hid (HB.out.trans (hv.mono HB.out.size))
        clear hv
        go_wp2_with fail
        go_roundw
        case rel =>
          refine ⟨q, by omega, ?_, by have := PIC.out; simpa using this, HB2.out⟩
          rcases Nat.eq_zero_or_pos q with h0 | h0
          · subst h0; exact .inl ⟨rfl, by go_num⟩
          · exact .inr ⟨h0, by congr 1; omega⟩
        case measure => simp [intOf] <;> omega
      · have n4 : ((cq : Int) == 4) = false := by simpa using h4
        clear h4
        go_wp2_with fail
        refine (CC.out _ HB.out).mono ?_
        rintro e w2 ⟨rfl, hv⟩
        have HB2 := Lib.hid (HB.out.trans (hv.mono HB.out.size))
        have hc2 := cell_pass hc hv
        clear hv
        go_wp2_with fail
        refine (CC.out _ HB2.out).mono ?_
        rintro e w3 ⟨rfl, hv⟩
        have HB3 := Lib.hid (HB2.out.trans (hv.mono HB2.out.size))
        clear hv
        go_wp2_with fail
        go_ret
        refine ⟨retb ?_, HB3.out⟩
        rw [← PIC.out, n4]
        simp

set_option maxHeartbeats 2000000 in
theorem rreg_any (A : Option Addr) (n c : Nat) (xs : List Int) (i : Nat) (hi : i ≤ n) (w : World) (hx : SliceIn .i32 w A n c xs) (hn : n ≤ 140737488355328) :
    Calls Tryd.prog 91 #[.slice A n c, .int .i64 (i : Int)] w fun e w' => e = .returned (.int .i64 ((regs (ks xs) i : Nat) : Int)) ∧ Below w.heap.size w w' := by
  have HX := Lib.hid hx
  have HLEN := Lib.hid hx.at_.len
  clear hx 
  go_enter Tryd.func91, Tryd.ntmps91
  go_wp2_with fail
  go_loopw [5] (fun v wr => ∃ q : Nat, q ≤ i ∧ v = .int .i64 q ∧ regs (ks xs) i = q + regs (ks xs) (i - q) ∧ Below w.heap.size w wr) (fun v _ => i - (intOf v).toNat)
  case atStart => exact ⟨0, Nat.zero_le _, rfl, by simp, Below.refl _ _⟩
  case round =>
    obtain ⟨q, hqi, rfl, hreg, hb⟩ := hrel
    by_cases hlt : q < i
    · obtain ⟨r, hr⟩ : ∃ r, i - q = r + 1 := ⟨i - q - 1, by omega⟩
      rw [hr] at hreg
      have hrn : r < n := by omega
      have hE : (i : Int) - (q : Int) = (r : Int) + 1 := by omega
      have hq : (0 : Int) < (r : Int) + 1 := by omega
      obtain ⟨h1, h2⟩ := bounds_i32 (HX.out.nth_wf hrn)
      obtain ⟨ad, rfl, hab, hcx⟩ := (HX.out.at_.below hb).2 (by omega)
      have hc := hcx r hrn
      have CC := Lib.hid (rclass_any (nth xs r) h1 h2 wr)
      have kq := ks_at (xs := xs) (i := r) (by rw [HLEN.out]; exact hrn)
      have hp1 : regs (ks xs) (r + 1) = if nth (ks xs) r == 6 then regs (ks xs) r + 1 else 0 := rfl
      rw [kq] at hp1
      rw [hp1] at hreg
      have HR := Lib.hid hr
      generalize clu (nth xs r) = cq at *
      generalize nth xs r = rq at *
      have HB := Lib.hid hb
      clear hcx h1 h2 kq hp1 hb hr
      by_cases h4 : cq = 6
      · subst h4
        simp only [beq_self_eq_true, if_true] at hreg
        have REG := Lib.hid hreg
        clear hreg
        go_wp2_with fail
        refine CC.out.mono ?_
        rintro e w2 ⟨rfl, hv⟩
        have HB2 := Lib.hid (HB.out.trans (hv.mono HB.out.size))
        clear hv
        go_wp2_with fail
        go_roundw
        case rel => exact ⟨q + 1, by omega, by go_num, by rw [REG.out, show i - (q + 1) = r by omega]; omega, HB2.out⟩
        case measure => simp [intOf] <;> omega
      · have n4 : ((cq : Int) == 6) = false := by simpa using h4
        rw [n4] at hreg
        simp only [Bool.false_eq_true, if_false] at hreg
        have REG := Lib.hid hreg
        clear h4 hreg
        go_wp2_with fail
        refine CC.out.mono ?_
        rintro e w2 ⟨rfl, hv⟩
        have HB2 := Lib.hid (HB.out.trans (hv.mono HB.out.size))
        clear hv
        go_wp2_with fail
        go_ret
        refine ⟨reti ?_, HB2.out⟩
        rw [REG.out]
        simp
    · obtain rfl : q = i := by omega
      rw [Nat.sub_self] at hreg
      have e0 : regs (ks xs) 0 = 0 := rfl
      rw [e0] at hreg
      have REG := Lib.hid hreg
      have HB := Lib.hid hb
      have hq0 : (q : Int) - (q : Int) = 0 := by omega
      clear hreg e0 hb
      go_wp2_with fail
      go_ret
      refine ⟨reti ?_, HB.out⟩
      rw [REG.out]
      simp
end Go.Proofs.YtmbgeeiidpllcaaDoor
