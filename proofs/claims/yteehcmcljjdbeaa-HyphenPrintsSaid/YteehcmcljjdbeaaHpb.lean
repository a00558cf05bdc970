/- Chapter 20: the program's Print. -/
import Derived.Test.YteehcmcljjdbeaaHbw
import Derived.Test.YteehcmcljjdbeaaHsh
import Derived.Test.YteehcmcljjdbeaaHpl
import Derived.Test.YteehcmcljjdbeaaHpw
import Derived.Deep.DeepCutAuto
import Derived.Deep.CutBlock
namespace Go.Proofs.Yteehcmcljjdbeaa
open Go.ChangeShapes Go.WideShapes Go.ChangeAt Go.RowKit
set_option maxRecDepth 100000
set_option linter.unusedSimpArgs false

set_option maxHeartbeats 2000000 in
theorem wrune_any (B b : Nat) (bs : List Value) (r : Int) (hs : scalar r = true) (w : World) (h : Lib.IsBuilder 66 5 B b bs w) (hlen : bs.length + 4 ≤ 140737488355328) (hBw : B ≤ w.heap.size) :
    Calls Try.prog 40 #[.pointer (some ⟨b, 0, none⟩), .int .i32 r] w fun e w' => (∃ v, e = .returned v) ∧ (Bld B b (bs ++ Lib.runeCells r) w' ∧ Below B w w') := by
  have CC := Lib.hid (check_any B b bs w h)
  have CA : Shut (∀ (W : World) (v : Value), W.ownsRow B 5 1 v bs.length bs → B ≤ W.heap.size → _) := ⟨fun W v ho hz => appendrune_any B v bs.length bs r hs W ho hlen hz⟩
  clear h hs
  go_enter Try.func40, Try.ntmps40
  go_wp2_with fail
  refine CC.out.mono ?_
  rintro e w1 ⟨rfl, h1, hb1⟩
  obtain ⟨hB, v, hbk, hown, hne⟩ := h1
  have c0 : w1.cell? ⟨b, 0, none⟩ = some (.pointer (some ⟨b, 0, none⟩)) := by rw [Lib.cell_of_heap hbk]; rfl
  obtain ⟨A, n, c, rfl⟩ : ∃ A n c, v = .slice A n c := by
    rcases hown.2 with ⟨hv, _⟩ | ⟨g, cap, cur, hv, _⟩
    · exact ⟨_, _, _, hv⟩
    · exact ⟨_, _, _, hv⟩
  have c1 : w1.cell? ⟨b, 1, none⟩ = some (.slice A n c) := by rw [Lib.cell_of_heap hbk]; rfl
  have hz1 : B ≤ w1.heap.size := Nat.le_trans hBw hb1.size
  have CR : Shut _ := ⟨CA.out w1 _ hown hz1⟩
  have HBK : Shut _ := ⟨hbk⟩
  have HOWN : Shut _ := ⟨hown⟩
  have HNE : Shut _ := ⟨hne⟩
  have HB1 : Shut _ := ⟨hb1⟩
  have hlt : b < w1.heap.size := by
    rcases Nat.lt_or_ge b w1.heap.size with h' | h'
    · exact h'
    · simp [Array.getElem?_eq_none h'] at hbk
  clear hbk hown hne hb1 CA CC
  go_wp2_with fail
  refine CR.out.mono ?_
  rintro e w2 ⟨v', rfl, hown', o, hgrow⟩
  have hb2 : w2.heap[b]? = some (.cells #[.pointer (some ⟨b, 0, none⟩), .slice A n c] 66 (0, 0)) := by
    rw [hgrow.block b (by simp; omega) (fun e => HNE.out e.symm), Lib.alloc_old w1 _ b hlt]
    exact HBK.out
  have d0 : w2.cell? ⟨b, 0, none⟩ = some (.pointer (some ⟨b, 0, none⟩)) := by rw [Lib.cell_of_heap hb2]; rfl
  have d1 : w2.cell? ⟨b, 1, none⟩ = some (.slice A n c) := by rw [Lib.cell_of_heap hb2]; rfl
  have f1 : w2.frozen? ⟨b, 1, none⟩ = false := Lib.frozen_of_heap hb2 1
  obtain ⟨A2, n2, c2, rfl⟩ : ∃ A n c, v' = .slice A n c := by
    rcases hown'.2 with ⟨hv, _⟩ | ⟨g, cap, cur, hv, _⟩
    · exact ⟨_, _, _, hv⟩
    · exact ⟨_, _, _, hv⟩
  have RB : Shut (Lib.BuilderAt 66 5 B b (.pointer (some ⟨b, 0, none⟩)) (bs ++ Lib.runeCells r) (w2.setCell ⟨b, 1, none⟩ (.slice A2 n2 c2))) :=
    ⟨Lib.BuilderAt.put (T := 66) (e := 5) hB hb2 (bs' := bs ++ Lib.runeCells r) (by simpa using hown') (by decide)⟩
  have RW : Shut (Below B w (w2.setCell ⟨b, 1, none⟩ (.slice A2 n2 c2))) :=
    ⟨((HB1.out.alloc hz1 o).grown hgrow (by simp; omega) (fun k hk => (HOWN.out.lt k hk).1)).setCell (p := ⟨b, 1, none⟩) hB _⟩
  clear hgrow hown' hb2
  go_wp2_with fail
  go_ret2
  exact ⟨⟨_, rfl⟩, RB.out, RW.out⟩

theorem _root_.Go.Proofs.Yteehcmcljjdbeaa.SliceIn.passP {k : IntKind} {w w1 : World} {A : Option Addr} {n c : Nat} {xs : List Int} (h : SliceIn k w A n c xs) (hb : Below w.heap.size w w1) : SliceIn k w1 A n c xs :=
  ⟨h.at_.later hb, h.le, h.cap, h.wf⟩
theorem byteCells_enc (t : List Int) : Lib.byteCells (encL t) = (encZ t).map (Value.int .u8) := by
  unfold Lib.byteCells encL
  rw [List.map_map]
  apply List.map_congr_left
  intro x hx
  obtain ⟨h0, h1⟩ := encZ_byte t x hx
  simp [Function.comp]
  omega
/-- what the builder holds -/
def cellsK (ls ds : List Int) (k : Nat) : List Value := (encZ (outK ls ds k)).map (Value.int .u8)
theorem cellsK_zero (ls ds : List Int) : cellsK ls ds 0 = [] := by unfold cellsK; rw [outK_zero]; rfl
def dgV (d : Int) : List Value := if 0 < d then [.int .u8 (48 + d)] else []
theorem dgV_enc {d : Int} (h9 : d ≤ 9) : (encZ (dg d)).map (Value.int .u8) = dgV d := by
  unfold dg dgV
  split
  · rw [encZ_dg (by omega) h9]; rfl
  · rfl
theorem cellsK_letter {ls ds : List Int} {k : Nat} (h1 : k < ds.length) (h2 : k < ls.length) (h9 : nth ds k ≤ 9) : cellsK ls ds (k + 1) = (cellsK ls ds k ++ dgV (nth ds k)) ++ Lib.runeCells (nth ls k) := by
  unfold cellsK
  rw [outK_letter h1 h2, encZ_app, encZ_app, List.map_append, List.map_append, dgV_enc h9, encZ_one, List.append_assoc]
  rfl
theorem cellsK_last {ls ds : List Int} {k : Nat} (h1 : k < ds.length) (h2 : ls.length = k) (h9 : nth ds k ≤ 9) : cellsK ls ds (k + 1) = cellsK ls ds k ++ dgV (nth ds k) := by
  unfold cellsK
  rw [outK_last h1 h2, encZ_app, List.map_append, dgV_enc h9]
theorem cellsK_len (ls ds : List Int) (k : Nat) : (cellsK ls ds k).length ≤ 4 * (k + k) := by
  unfold cellsK
  rw [List.length_map]
  have h1 := encZ_len (outK ls ds k)
  have h2 : ∀ (a b : List Int), (outR a b).length ≤ a.length + b.length := by
    intro a b
    induction b generalizing a with
    | nil => rw [outR_nil]; simp
    | cons d b ih =>
      cases a with
      | nil =>
        have := ih []
        unfold outR dg
        split
        · simp at this ⊢; omega
        · simp at this ⊢; omega
      | cons x a =>
        have := ih a
        unfold outR dg
        split
        · simp; omega
        · simp; omega
  have h3 := h2 (ls.take k) (ds.take k)
  have h4 : (ls.take k).length ≤ k := List.length_take_le _ _
  have h5 : (ds.take k).length ≤ k := List.length_take_le _ _
  unfold outK at h1 ⊢
  omega

set_option maxHeartbeats 4000000 in
theorem pprint_any (A : Option Addr) (n c : Nat) (ls : List Int) (A2 : Option Addr) (m c2 : Nat) (ds : List Int) (w : World) (hx : SliceIn .i32 w A n c ls) (hy : SliceIn .i64 w A2 m c2 ds) (hn : n ≤ 1000) (hm : m ≤ 1001) :
    Calls Try.prog 12 #[.slice A n c, .slice A2 m c2] w fun e w' => e = .returned (.string (printed ls ds)) ∧ Below w.heap.size w w' := by
  have HX : Shut _ := ⟨hx⟩
  have HY : Shut _ := ⟨hy⟩
  have LX : Shut (ls.length = n) := ⟨hx.at_.len⟩
  have LY : Shut (ds.length = m) := ⟨hy.at_.len⟩
  have CR : Shut _ := ⟨right_any A n c ls w hx.at_ (by omega)⟩
  have CS : Shut _ := ⟨some_any A2 m c2 ds w hy.at_ (by omega)⟩
  have OK : Shut (okP ls ds = (m == n + 1 && (rightB ls && someB ds))) := ⟨by unfold okP; rw [hx.at_.len, hy.at_.len]⟩
  have PV : Shut (printed ls ds = if okP ls ds = true then txt (encZ (outR ls ds)) else ⟨#[]⟩) := ⟨rfl⟩
  have OF : Shut (okP ls ds = true → _) := ⟨fun h => okP_facts h⟩
  generalize printed ls ds = V at *
  clear hx hy
  go_enter Try.func12, Try.ntmps12
  go_upto_region 1 with fail
  go_cut [23] (fun v wx => v = .bool (!okP ls ds) ∧ wx = w)
  case first =>
    generalize okP ls ds = ok at *
    generalize rightB ls = b1 at *
    generalize someB ds = b2 at *
    by_cases hmn : m = n + 1
    · have h1 : ((m : Int) != (n : Int) + 1) = false := by simp; omega
      have h2 : (m == n + 1) = true := by simpa using hmn
      have E : Shut _ := ⟨OK.out⟩
      rw [h2] at E
      clear hmn h2
      cases b1
      · go_wp2_with fail
        refine CR.out.mono ?_
        rintro e w1 ⟨rfl, rfl⟩
        go_wp2_with fail
        go_meet
        exact ⟨by rw [E.out]; rfl, rfl⟩
      · go_wp2_with fail
        refine CR.out.mono ?_
        rintro e w1 ⟨rfl, rfl⟩
        go_wp2_with fail
        refine CS.out.mono ?_
        rintro e w1 ⟨rfl, rfl⟩
        go_wp2_with fail
        go_meet
        exact ⟨by rw [E.out]; cases b2 <;> rfl, rfl⟩
    · have h1 : ((m : Int) != (n : Int) + 1) = true := by simp; omega
      have h2 : (m == n + 1) = false := by simpa using hmn
      have E : Shut _ := ⟨OK.out⟩
      rw [h2] at E
      clear hmn h2
      go_wp2_with fail
      go_meet
      exact ⟨by rw [E.out]; rfl, rfl⟩
  case rest =>
    obtain ⟨rfl, rfl⟩ := hcut
    cases hok : okP ls ds with
    | false =>
      rw [hok] at PV
      clear hok
      go_wp2_with fail
      go_ret
      exact ⟨by rw [PV.out]; rfl, Below.refl _ _⟩
    | true =>
      have OF2 := OF.out hok
      rw [hok] at PV
      have E1 : Shut (∀ j, j < n → scalar (nth ls j) = true) := ⟨fun j hj => (OF2.2.1 _ (by rw [nth_eq (by rw [LX.out]; exact hj)]; exact List.getElem_mem ..)).2⟩
      have E2 : Shut (∀ j, j < m → 0 ≤ nth ds j ∧ nth ds j ≤ 9) := ⟨fun j hj => OF2.2.2.1 _ (by rw [nth_eq (by rw [LY.out]; exact hj)]; exact List.getElem_mem ..)⟩
      have hmn : m = n + 1 := by have := OF2.1; rw [LX.out, LY.out] at this; exact this
      subst hmn
      clear OF2 hok CR CS OK OF
      go_wp2_with fail
      obtain ⟨w, rfl⟩ : ∃ w : World, w = wc := ⟨_, rfl⟩
      go_loopg [26] (n + 2) (fun g v wr => ∃ k : Nat, n + 1 - k < g ∧ k ≤ n + 1 ∧ v = .int .i64 (k : Int) ∧ Shut (Lib.IsBuilder 66 5 w.heap.size w.heap.size (cellsK ls ds k) wr) ∧ Shut (Below w.heap.size w wr))
      case atStart => exact ⟨0, by omega, by omega, rfl, ⟨by rw [cellsK_zero]; exact Lib.fresh_isBuilder _ _ w⟩, ⟨(Below.refl w.heap.size w).alloc (Nat.le_refl _) _⟩⟩
      case round =>
        obtain ⟨k, hg, hk, rfl, IB, BE⟩ := hrel
        have hwz : w.heap.size ≤ wr.heap.size := BE.out.size
        have hcl := cellsK_len ls ds k
        by_cases hlt : k < n + 1
        · obtain ⟨ad, hA2, hab, hcx⟩ := (HY.out.passP BE.out).at_.2 (by omega)
          subst hA2
          have hc := hcx k hlt
          obtain ⟨d0, d9⟩ := E2.out k hlt
          have KL : Shut (k < n → cellsK ls ds (k + 1) = (cellsK ls ds k ++ dgV (nth ds k)) ++ Lib.runeCells (nth ls k)) := ⟨fun h => cellsK_letter (by rw [LY.out]; exact hlt) (by rw [LX.out]; exact h) d9⟩
          have KE : Shut (k = n → cellsK ls ds (k + 1) = cellsK ls ds k ++ dgV (nth ds k)) := ⟨fun h => cellsK_last (by rw [LY.out]; exact hlt) (by rw [LX.out]; exact h.symm) d9⟩
          obtain ⟨d, hd⟩ : ∃ d, nth ds k = d := ⟨_, rfl⟩
          rw [hd] at hc d0 d9 KL KE
          obtain ⟨L, hL⟩ : ∃ L, (cellsK ls ds k).length = L := ⟨_, rfl⟩
          have i1 : (k : Int) < (n : Int) + 1 := by omega
          clear hcx hd
          go_upto_if 32 with fail
          go_cut [] (fun wx => Shut (Lib.IsBuilder 66 5 w.heap.size w.heap.size (cellsK ls ds k ++ dgV d) wx) ∧ Shut (Below w.heap.size w wx))
          case first =>
            by_cases hd : 0 < d
            · have e : dgV d = [.int .u8 (48 + d)] := by unfold dgV; rw [if_pos hd]
              have EV : Shut _ := ⟨e⟩
              have CW : Shut _ := ⟨wbyte_any w.heap.size w.heap.size (cellsK ls ds k) (48 + d) wr IB.out (by omega) hwz⟩
              clear e
              go_wp2_with fail
              refine CW.out.mono ?_
              rintro e w2 ⟨rfl, i2, b2⟩
              have I2 : Shut _ := ⟨i2⟩
              have B2 : Shut _ := ⟨BE.out.trans b2⟩
              clear i2 b2
              go_wp2_with fail
              go_meet
              exact ⟨⟨by rw [EV.out]; exact .inr I2.out⟩, B2⟩
            · have e : dgV d = [] := by unfold dgV; rw [if_neg hd]
              have EV : Shut _ := ⟨e⟩
              have hd2 : ¬ (0 < d) := hd
              clear e hd
              go_wp2_with fail
              go_meet
              exact ⟨⟨by rw [EV.out, List.append_nil]; exact IB.out⟩, BE⟩
          case rest =>
            obtain ⟨IB2, BE2⟩ := hcut
            have hwz2 : w.heap.size ≤ wc.heap.size := BE2.out.size
            have hdl : (cellsK ls ds k ++ dgV d).length ≤ L + 1 := by
              rw [List.length_append, hL]
              unfold dgV
              split <;> simp
            by_cases hkn : k < n
            · obtain ⟨ad3, hA3, hab3, hcx3⟩ := (HX.out.passP BE2.out).at_.2 (by omega)
              subst hA3
              have hc3 := hcx3 k hkn
              have CW : Shut _ := ⟨wrune_any w.heap.size w.heap.size (cellsK ls ds k ++ dgV d) (nth ls k) (E1.out k hkn) wc IB2.out (by omega) hwz2⟩
              have KL2 : Shut _ := ⟨KL.out hkn⟩
              generalize nth ls k = r at *
              have i2 : (k : Int) < (n : Int) := by omega
              clear hcx3 KL KE hL hdl
              go_wp2_with fail
              refine CW.out.mono ?_
              rintro e w2 ⟨⟨v, rfl⟩, i2, b2⟩
              have I2 : Shut _ := ⟨i2⟩
              have B2 : Shut _ := ⟨BE2.out.trans b2⟩
              clear i2 b2
              go_wp2_with fail
              go_roundg (n + 1 - k)
              case measure => omega
              case rel => exact ⟨k + 1, by omega, by omega, by go_num, ⟨by rw [KL2.out]; exact .inr I2.out⟩, B2⟩
            · have hkn2 : k = n := by omega
              have KE2 : Shut _ := ⟨KE.out hkn2⟩
              have i2 : decide (k < n) = false := by simp; omega
              clear hL hdl KL KE hkn2
              go_wp2_with fail
              go_roundg (n + 1 - k)
              case measure => omega
              case rel => exact ⟨k + 1, by omega, by omega, by go_num, ⟨by rw [KE2.out]; exact IB2.out⟩, BE2⟩
        · obtain rfl : k = n + 1 := by omega
          have hfin : cellsK ls ds (n + 1) = Lib.byteCells (encL (outR ls ds)) := by
            unfold cellsK
            rw [byteCells_enc]
            have := outK_full (ls := ls) (ds := ds) (by rw [LX.out, LY.out]; omega)
            rw [LY.out] at this
            rw [this]
          rw [hfin] at IB
          have CS : Shut _ := ⟨bstring_any w.heap.size w.heap.size (encL (outR ls ds)) wr IB.out hwz⟩
          clear hfin
          go_wp2_with fail
          refine CS.out.mono ?_
          rintro e w3 ⟨rfl, b3⟩
          have B3 : Shut _ := ⟨BE.out.trans b3⟩
          clear b3
          go_wp2_with fail
          go_ret
          exact ⟨by rw [PV.out]; rfl, B3.out⟩
end Go.Proofs.Yteehcmcljjdbeaa
