/- Chapter 45: the program's Put. -/
import Derived.Test.YteedngkbcbojjaaBg
namespace Go.Proofs.Yteedngkbcbojjaa
open Go.ChangeShapes Go.WideShapes Go.ChangeAt Go.RowKit
set_option maxRecDepth 100000
set_option linter.unusedSimpArgs false

theorem OwnB.weakB {w : World} {B B' c : Nat} {A : Option Addr} {ps : List BoxM} (h : OwnB w B A c ps) (hb : B' ≤ B) : OwnB w B' A c ps :=
  ⟨OwnV.weakB h.row hb, fun p hp => OwnV.weakB (h.gl p hp) hb⟩
theorem shiftP_in {bs : List BoxD} {o : List Int} {tail n : Nat} (hn : bs.length = n) (hn2 : n ≤ 40) (ht : tail ≤ n) (hw : WdIn bs) (od : Bool) {x : Int} (h1 : -1073741824 ≤ x) (h2 : x ≤ 1073741824) :
    -137438953472 ≤ shiftP bs o tail od x ∧ shiftP bs o tail od x ≤ 137438953472 := by
  have a := wideN_in hw tail
  have b := sides_in (o := o) (tail := tail) hw n
  unfold shiftP
  rw [hn]
  split <;> omega
set_option maxHeartbeats 16000000 in
theorem put_any (A : Option Addr) (n c : Nat) (bs : List BoxD) (tail : Nat) (base x : Int) (w : World) (hx : BoxesAt w w.heap.size A n bs) (hn : n ≤ 40) (ht : tail ≤ n) (hc : n ≤ c) (hw : WdIn bs) (hg : ∀ j, GxIn (bnth bs j).gs) (hx1 : -1073741824 ≤ x) (hx2 : x ≤ 1073741824) :
    Calls Try.prog 6 #[.slice A n c, .int .i64 (tail : Int), .int .i64 base, .int .i64 x] w fun e w' =>
      ∃ (A2 : Option Addr) (c2 : Nat) (ps : List BoxM), e = .returned (.slice A2 n c2) ∧ OwnB w' w.heap.size A2 c2 ps ∧ ps.map (·.1) = putL bs (ordB bs) (shiftP bs (ordB bs) tail (oddB base) x) n ∧ Below w.heap.size w w' := by
  have HX : Shut _ := ⟨hx⟩
  have HW : Shut _ := ⟨hw⟩
  have HGX : Shut _ := ⟨hg⟩
  have OR : Shut (IsOrd (ordB bs) n) := ⟨ordB_ord hx.1⟩
  have OC : Shut _ := ⟨order_any A n c bs w hx (by omega)⟩
  have SI : Shut _ := ⟨shiftP_in (o := ordB bs) hx.1 hn ht hw (oddB base) hx1 hx2⟩
  have SC : Shut (∀ (W : World) (O : Option Addr) (oc : Nat), Below w.heap.size w W → IntsAt W W.heap.size .i64 O n (ordB bs) → _) := ⟨fun W O oc hW ho => shift_any A n c bs O oc (ordB bs) tail base x W (hx.later hW) ho (ordB_ord hx.1) hn ht hc hw hx1 hx2⟩
  generalize ordB bs = o at *
  clear hx hw hg
  go_enter Try.func6, Try.ntmps6
  go_wp2_with fail
  refine OC.out.mono ?_
  rintro e w1 ⟨O, oc, rfl, o1, b1⟩
  have B1 : Shut (Below w.heap.size w w1) := ⟨b1⟩
  have SC1 : Shut _ := ⟨SC.out w1 O oc b1 o1.ints⟩
  have O1 : Shut _ := ⟨o1⟩
  clear o1 b1 OC SC
  go_wp2_with fail
  refine SC1.out.mono ?_
  rintro e w2 ⟨rfl, b2⟩
  have O2 : Shut (IntsAt w2 w2.heap.size .i64 O n o) := ⟨(O1.out.pass b2).ints⟩
  have B2 : Shut (Below w.heap.size w w2) := ⟨B1.out.trans (b2.mono B1.out.size)⟩
  have hSH := SI.out
  generalize hE : shiftP bs o tail (oddB base) x = SH at *
  have SHE : Shut (shiftP bs o tail (oddB base) x = SH) := ⟨hE⟩
  clear hE
  have SIN : Shut _ := ⟨hSH⟩
  have hs2 := B2.out.size
  clear b2 SC1 O1 B1 SI hSH
  go_wp2_with fail
  go_loopg [10, 11, 13, 14, 16, 27] (n + 1) (fun gg v10 v11 _ _ _ v27 wr => ∃ (j : Nat) (A' : Option Addr) (c' : Nat) (ps : List BoxM), n - j < gg ∧ j ≤ n ∧ v10 = .int .i64 (SH + preS bs o j) ∧ v11 = .slice A' j c' ∧ v27 = .int .i64 (j : Int) ∧ Shut (OwnB wr w2.heap.size A' c' ps) ∧ Shut (ps.map (·.1) = putL bs o SH j) ∧ Shut (Below w2.heap.size w2 wr))
  case atStart => exact ⟨0, none, 0, [], by omega, by omega, iv (by simp [preS]), rfl, rfl, ⟨OwnB.nil _ _⟩, ⟨rfl⟩, ⟨Below.refl _ _⟩⟩
  case round =>
    obtain ⟨j, A', c', ps, hgg, hj, rfl, rfl, rfl, OB, PE, BE⟩ := hrel
    obtain ⟨wo, rfl⟩ : ∃ wo : World, wo = wr := ⟨_, rfl⟩
    have BW : Shut (Below w.heap.size w wo) := ⟨B2.out.trans (BE.out.mono hs2)⟩
    have hlen : ps.length = j := by have := congrArg List.length PE.out; simpa [putL_len] using this
    by_cases hlt : j < n
    · have HG : Shut (n - j < gk) := ⟨hgg⟩
      obtain ⟨ao, rfl, _, hco⟩ := (O2.out.later BE.out).2 (by omega)
      obtain ⟨y, hy⟩ : ∃ y : Nat, nth o j = (y : Int) := ⟨(nth o j).toNat, by have := OR.out.ge j hlt; omega⟩
      have hyn : y < n := by have := OR.out.lt j hlt; omega
      have eo : ordN o j = y := by unfold ordN; omega
      have k1 := hco j hlt
      rw [hy] at k1
      obtain ⟨ad, rfl, _, hcb⟩ := (HX.out.later BW.out).2 (by omega)
      obtain ⟨G, gc, ⟨a0, a1, a2, a3, a4, a5⟩, hP⟩ := bdx (hcb y hyn)
      have HP : Shut _ := ⟨hP⟩
      have h3 := HW.out y
      have HGY : Shut _ := ⟨HGX.out y⟩
      have hg20 := HGY.out.1
      have EP : Shut (preS bs o (j + 1) = preS bs o j + (bnth bs y).wd) := ⟨by show _ + _ = _; rw [eo]⟩
      have EL : Shut (putL bs o SH (j + 1) = putL bs o SH j ++ [putB (bnth bs y) (SH + preS bs o j)]) := ⟨by rw [putL_succ, eo]⟩
      have h1 := preS_in (o := o) HW.out j
      have hSH := SIN.out
      obtain ⟨P, hP2⟩ : ∃ P, SH + preS bs o j = P := ⟨_, rfl⟩
      have hp1 : -274877906944 ≤ P := by omega
      have hp2 : P ≤ 274877906944 := by omega
      have EPP : Shut (SH + preS bs o (j + 1) = P + (bnth bs y).wd) := ⟨by rw [EP.out]; omega⟩
      rw [hP2] at EL
      rw [hP2]
      generalize bnth bs y = b at *
      obtain ⟨gn, hgn⟩ : ∃ gn, b.gs.length = gn := ⟨_, rfl⟩
      have HGN : Shut (b.gs.length = gn) := ⟨hgn⟩
      rw [hgn] at a5 HP hg20
      have j1 : (j : Int) < (n : Int) := by omega
      have y0 : (0 : Int) ≤ (y : Int) := by omega
      have y1 : (y : Int) < (n : Int) := by omega
      have I0 : Shut (GI wo wo.heap.size b.f b.t b.lv P b.wd b.gs P 0 none 0 (wo.alloc (.cells #[.int .i64 b.f, .int .i64 b.t, .int .i64 b.lv, .int .i64 P, .int .i64 b.wd, .slice none 0 0] 37))) := ⟨⟨six_newN _ _ _ _ _ _ _ _ rfl, OwnV.nil _ _ _ _, below_alloc _ _⟩⟩
      have C5 := cell_alloc a5 (.cells #[.int .i64 b.f, .int .i64 b.t, .int .i64 b.lv, .int .i64 P, .int .i64 b.wd, .slice none 0 0] 37)
      have hsw := BE.out.size
      have OBL : Shut _ := ⟨OB.out.row⟩
      rw [hlen] at OBL
      clear hcb hco hy hgg hP2 eo hP hgn hSH h1 EP hlt
      go_wp2_with fail
      go_loopg [16, 44] (gn + 1) (fun gg _ v44 wr => ∃ (k : Nat) (G2 : Option Addr) (c2 : Nat), gn - k < gg ∧ k ≤ gn ∧ v44 = .int .i64 (k : Int) ∧ Shut (GI wo wo.heap.size b.f b.t b.lv P b.wd b.gs P k G2 c2 wr))
      case atStart => exact ⟨0, none, 0, by omega, by omega, rfl, I0⟩
      case round =>
        obtain ⟨k, G2, c2, hg2, hk, rfl, I⟩ := hrel
        clear I0 a0 a1 a2 a3 a4 a5 C5 k1
        have BV : Shut (Below wo.heap.size wo wr) := ⟨I.out.be⟩
        by_cases hkn : k < gn
        · obtain ⟨ag, rfl, _, hcg⟩ := (HP.out.later BV.out BV.out.size).2 (by omega)
          obtain ⟨z0, z1, z2, z3⟩ := pdx (hcg k hkn)
          have h5 := HGY.out.2 k
          have hkl : k < b.gs.length := by rw [HGN.out]; exact hkn
          have PM : Shut (putC (moveG P (pnth b.gs k)) = [.int .i64 (pnth b.gs k).font, .int .i64 (pnth b.gs k).id, .int .i64 ((pnth b.gs k).x + P), .int .i64 (pnth b.gs k).y]) := ⟨rfl⟩
          obtain ⟨g, hgk⟩ : ∃ g, pnth b.gs k = g := ⟨_, rfl⟩
          have HGK : Shut (pnth b.gs k = g) := ⟨hgk⟩
          rw [hgk] at z0 z1 z2 z3 h5 PM
          obtain ⟨wq, hwq⟩ : ∃ wq, wq = wr.alloc (.cells #[.int .i64 g.font, .int .i64 g.id, .int .i64 (g.x + P), .int .i64 g.y] 39) := ⟨_, rfl⟩
          have IQ : Shut (GI wo wo.heap.size b.f b.t b.lv P b.wd b.gs P k G2 c2 wq) := ⟨by rw [hwq]; exact I.out.pass (below_alloc _ _)⟩
          have y5 := (hwq ▸ IQ.out.six).cs.2.2.2.2.2
          have i1 : (k : Int) < (gn : Int) := by omega
          have hsz : wo.heap.size < wr.heap.size := I.out.six.lt
          clear hcg hgk
          go_wp2_with (at_builtin; refine wpList_pushVAt TPut rfl (.tmp 54) (.tmp 56) rfl rfl (OwnV.alloc (hwq ▸ IQ.out.own) _) rfl (news := [.int .i64 g.font, .int .i64 g.id, .int .i64 (g.x + P), .int .i64 g.y]) rfl (cells4_new _ _ _ _ _ _ _ (by simp)) (by rw [← PM.out]; exact putC_one _) (by omega) (by simp; omega) ?_; intro G4 c4 w4 o4 b4 _ _; have s4 := (Six.alloc (hwq ▸ IQ.out.six) _).pass b4 (by omega); have y6 := s4.cs.2.2.2.2.2; have f6 := s4.f 5; have O4 : Shut _ := ⟨o4⟩; have B4 : Shut _ := ⟨b4⟩; clear o4 b4 s4)
          have I5 : Shut (GI wo wo.heap.size b.f b.t b.lv P b.wd b.gs P (k + 1) G4 c4 (w4.setCell ⟨wo.heap.size, 5, none⟩ (.slice G4 (k + 1) c4))) := ⟨(hwq ▸ IQ.out.pass (below_alloc _ _)).push (by rw [HGK.out, PM.out]; exact O4.out) B4.out hkl⟩
          go_roundg (gn - k)
          case measure => omega
          case rel => exact ⟨k + 1, G4, c4, by omega, by omega, by go_num, I5⟩
        · obtain rfl : k = gn := by omega
          have OG : Shut (OwnG wr (wo.heap.size + 1) G2 c2 (b.gs.map (moveG P))) := ⟨(HGN.out ▸ I.out).ownG⟩
          obtain ⟨q0, q1, q2, q3, q4, q5⟩ := I.out.six.cs
          have OB3 : Shut (OwnB wr w2.heap.size A' c' ps) := ⟨OB.out.pass BV.out⟩
          have OR3 : Shut (OwnV wr w2.heap.size 37 6 A' j c' (ps.flatMap boxC)) := ⟨OwnV.pass OBL.out BV.out⟩
          have PC : Shut (boxC (putB b P, G2, c2) = [.int .i64 b.f, .int .i64 b.t, .int .i64 b.lv, .int .i64 P, .int .i64 b.wd, .slice G2 k c2]) := ⟨by unfold boxC putB; simp [HGN.out]⟩
          have PG : Shut (OwnG (wr.alloc (.cells #[.int .i64 b.f, .int .i64 b.t, .int .i64 b.lv, .int .i64 P, .int .i64 b.wd, .slice G2 k c2] 37)) w2.heap.size G2 c2 (putB b P).gs) := ⟨OwnV.alloc (OwnV.weakB OG.out (by omega)) _⟩
          have hvs := BV.out.size
          clear hkn hg2 hk I
          go_wp2_with (at_builtin; refine wpList_pushVAt TBox rfl (.tmp 64) (.tmp 66) rfl rfl (OwnV.alloc OR3.out _) rfl (news := [.int .i64 b.f, .int .i64 b.t, .int .i64 b.lv, .int .i64 P, .int .i64 b.wd, .slice G2 k c2]) rfl (cells6_new _ _ _ _ _ _ _ _ _ (by simp)) (by rw [← PC.out]; exact boxC_one _) (by omega) (by simp; omega) ?_; intro A4 c4 w4 o4 b4 g4 _; have O4 : Shut _ := ⟨o4⟩; have B4 : Shut _ := ⟨b4⟩; have G4 : Shut _ := ⟨g4⟩; clear o4 b4 g4)
          have OBN : Shut (OwnB w4 w2.heap.size A4 c4 (ps ++ [(putB b P, G2, c2)])) := ⟨(OB3.out.pass (below_alloc _ _)).push (by rw [hlen, PC.out]; exact O4.out) (by rw [hlen]; exact G4.out) PG.out⟩
          have PEN : Shut ((ps ++ [(putB b P, G2, c2)]).map (·.1) = putL bs o SH (j + 1)) := ⟨by rw [EL.out, ← PE.out, List.map_append]; rfl⟩
          have BEN : Shut (Below w2.heap.size w2 w4) := ⟨((BE.out.trans (BV.out.mono hsw)).alloc (by omega) _).trans B4.out⟩
          go_roundg (n - j)
          case measure => exact HG.out
          case rel => exact ⟨j + 1, A4, c4, _, by omega, by omega, iv EPP.out.symm, rfl, by go_num, OBN, PEN, BEN⟩
    · obtain rfl : j = n := by omega
      clear hlt hgg hj
      go_wp2_with fail
      go_ret
      exact ⟨A', c', ps, rfl, OB.out.weakB hs2, by rw [SHE.out]; exact PE.out, BW.out⟩
end Go.Proofs.Yteedngkbcbojjaa
