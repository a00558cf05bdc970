/- Chapter 20: the program's step from a knot to the next. -/
import Derived.Test.YtgianjnccpbnaaaDoorHtm
import Derived.Test.YtgianjnccpbnaaaDoorHpp
import Derived.Deep.DeepCutAuto
import Derived.WalkSpells
import Derived.Deep.CutBlock
namespace Go.Proofs.YtgianjnccpbnaaaDoor
open Go.ChangeShapes Go.WideShapes Go.ChangeAt Go.RowKit
open Go.Maps (Keyed)
set_option maxRecDepth 100000
set_option linter.unusedSimpArgs false

theorem mapTy : Tryd.prog.underlying 51 = some (.map 21 58) := Tryd.underlying51
theorem runeKeys : Keyed Tryd.prog 21 := Go.Maps.int_keyed Tryd.underlying21
theorem zeroKnotP (w : World) : (zeroValue 58).run Tryd.prog w = .ok (.pointer none) w := by kernel_rfl
theorem MapAt.look {w : World} {m N : Nat} {ch : Int → Option Nat} (h : MapAt Tryd.prog w m N ch) {r : Int} (hr : (Lit.int .i32 r).wf = true) :
    (Instr.lookup 51 (.map (some m)) (.int .i32 r) false).run Tryd.prog w = .ok (pv (ch r)) w := by
  obtain ⟨D, h1, h2⟩ := h
  obtain ⟨v, ps, hrun, hv⟩ := h1.lookup runeKeys mapTy (zeroKnotP w) (zd := .nil) (zp := []) rfl (Go.Maps.keyOf_int_mk Tryd.underlying21 hr)
  obtain ⟨o, rfl, ho⟩ := ptrElem_inv hv
  rw [h2 r hr] at ho
  simp only [Prod.mk.injEq] at ho
  rw [hrun, pd_inj ho.1]
theorem look_nilmap {w : World} {r : Int} (hr : (Lit.int .i32 r).wf = true) : (Instr.lookup 51 (.map none) (.int .i32 r) false).run Tryd.prog w = .ok (.pointer none) w := by
  have := Go.Maps.look_nil (P := Tryd.prog) (w := w) false runeKeys mapTy (zeroKnotP w) (Go.Maps.keyOf_int_mk Tryd.underlying21 hr)
  simpa using this
theorem mapEqNil (km : Option Nat) (w : World) : (binOp .eql 51 (.map km) (.map none)).run Tryd.prog w = .ok (.bool km.isNone) w :=
  run_eql_map_nil w _ _ _ km mapTy
/-- what step leaves -/
def StepPost (w : World) (B b0 N : Nat) (dg : List Int → Option (List Int)) (p : List Int) (r : Int) (e : Ending) (w' : World) : Prop :=
  ∃ g' node' kids', e = .returned (.pointer (some ⟨g', 0, none⟩)) ∧ TrieAt Tryd.prog w' B b0 (N + 1) dg node' kids' ∧ node' (p ++ [r]) = some g' ∧ Spares w w' ∧ Below B w w'
structure Mid (w wx : World) (B b0 N : Nat) (dg : List Int → Option (List Int)) (p : List Int) (g m : Nat) (node kids' : List Int → Option Nat) : Prop where
  trie : TrieAt Tryd.prog wx B b0 N dg node kids'
  kid : kids' p = some m
  sp : Spares w wx
  be : Below B w wx
set_option maxHeartbeats 2000000 in
theorem step_any (w : World) (B b0 N : Nat) (dg : List Int → Option (List Int)) (node kids : List Int → Option Nat) (h : TrieAt Tryd.prog w B b0 N dg node kids) (hB : B ≤ w.heap.size) (hN : N ≤ 1000000000) (p : List Int) (g : Nat) (r : Int) (hp : node p = some g) (hr : (Lit.int .i32 r).wf = true) :
    Calls Tryd.prog 25 #[.pointer (some ⟨g, 0, none⟩), .int .i32 r] w (StepPost w B b0 N dg p r) := by
  have H : Shut _ := ⟨h⟩
  have HP : Shut _ := ⟨hp⟩
  obtain ⟨hBg, A0, n0, c0, kn0, dg0⟩ := h.knot p g hp
  have K0 : Shut _ := ⟨kn0⟩
  have HR : Shut _ := ⟨hr⟩
  have hgl := kn0.lt
  clear h hp dg0 hr
  have hmm := @run_makeMap Tryd.prog
  go_enter Tryd.func25, Tryd.ntmps25
  have x0 := K0.out.c0
  have me := mapEqNil (kids p)
  go_upto_if 10 with fail
  go_cut [] (fun wx => ∃ kids' m, Shut (Mid w wx B b0 N dg p g m node kids'))
  case first =>
    cases hk : kids p with
    | none =>
      have f0 := K0.out.f 0
      rw [hk] at x0
      have T1 := H.out.mkmap hB HP.out hk
      have SP : Shut (Mid w ((w.alloc (.map #[] 0)).setCell ⟨g, 0, none⟩ (.map (some w.heap.size))) B b0 N dg p g w.heap.size node (upd kids p w.heap.size)) := ⟨⟨T1, upd_same _ _ _, ?_, ?_⟩⟩
      · rw [World.setCell_alloc_past _ _ _ _ hgl] at SP
        clear T1 hk
        go_wp2_with fail
        go_meet
        exact ⟨_, _, SP⟩
      · intro b cur t fr hb h1 h2
        rw [setCell_heap _ _ _ _ (K0.out.noInt hb h1 h2)]
        exact heap_alloc_old w _ (lt_of_block hb)
      · exact ((Below.refl _ _).alloc hB _).setCell (p := ⟨g, 0, none⟩) hBg _
    | some m =>
      rw [hk] at x0
      have SP : Shut (Mid w w B b0 N dg p g m node kids) := ⟨⟨H.out, hk, Spares.refl _, Below.refl _ _⟩⟩
      clear hk
      go_wp2_with fail
      go_meet
      exact ⟨_, _, SP⟩
  case rest =>
    obtain ⟨kids', m, M⟩ := hcut
    obtain ⟨_, A1, n1, c1, kn1, _⟩ := M.out.trie.knot p g HP.out
    have x0 := kn1.c0
    rw [M.out.kid] at x0
    have hBm := M.out.be.size
    have hgl1 := kn1.lt
    have LK : (Instr.lookup 51 (.map (some m)) (.int .i32 r) false).run Tryd.prog wc = .ok (pv (node (p ++ [r]))) wc := (M.out.trie.kid p g m HP.out M.out.kid).2.look HR.out
    cases hn : node (p ++ [r]) with
    | some g' =>
      rw [hn] at LK
      simp only [pv] at LK
      have HN : Shut _ := ⟨hn⟩
      clear hn
      go_wp2_with fail
      go_ret
      exact ⟨g', node, kids', rfl, M.out.trie.more (Nat.le_succ _), HN.out, M.out.sp, M.out.be⟩
    | none =>
      rw [hn] at LK
      simp only [pv] at LK
      have HN : Shut _ := ⟨hn⟩
      obtain ⟨hBm2, D, hown, hD⟩ := M.out.trie.kid p g m HP.out M.out.kid
      have HO : Shut _ := ⟨hown⟩
      have HD : Shut _ := ⟨hD⟩
      have hNm : N < maxLen := by unfold maxLen; omega
      have HNM : Shut _ := ⟨hNm⟩
      have hkey := Go.Maps.keyOf_int_mk Tryd.underlying21 HR.out
      clear hn hown hD hNm
      go_wp2_with (at_mapUpdate; refine wpList_mapUpdate_own _ rfl _ _ _ 51 rfl 21 58 runeKeys mapTy ptrElem m N D rfl (HO.out.alloc _) HNM.out _ _ (.int .i32 r) rfl rfl hkey (.lit (.int .i64 (wc.heap.size : Int))) [] rfl ?_; intro w1 hown1 hgrow1)
      go_ret
      have hIs := HO.out.isMap
      have TA := M.out.trie.addknot (w' := w1) (r := r) (by omega) HP.out M.out.kid HN.out hgrow1 ⟨_, hown1, fun s hs => by
        by_cases e : s = r
        · subst e
          show DataW.atKey _ _ _ = pd (if s = s then some wc.heap.size else node (p ++ [s]))
          rw [if_pos rfl, Go.Maps.atKey_put_same (k := Lit.int .i32 s) hIs (by trivial)]
          rfl
        · show DataW.atKey _ _ _ = pd (if s = r then some wc.heap.size else node (p ++ [s]))
          rw [if_neg e, Go.Maps.atKey_put_other (by simpa using e)]
          exact HD.out s hs⟩
      refine ⟨wc.heap.size, _, kids', rfl, TA, upd_same _ _ _, M.out.sp.trans (fun b cur t fr hb _ _ => ?_), M.out.be.trans (((Below.refl _ _).alloc (by omega) _).grown hgrow1 (by simp; omega) (fun k hk => by cases hk; omega))⟩
      rw [hgrow1.block b (by have := lt_of_block hb; simp; omega) (by have := (M.out.trie.kid p g m HP.out M.out.kid).2.noCells hb; simpa using this)]
      exact heap_alloc_old wc _ (lt_of_block hb)
end Go.Proofs.YtgianjnccpbnaaaDoor
