/- Chapter 20: the program lays the digits of the patterns that begin at a place of a word. -/
import Derived.Test.YtgianjnccpbnaaaDoorHnp
import Derived.BigQuiet
namespace Go.Proofs.YtgianjnccpbnaaaDoor
open Go.ChangeShapes Go.WideShapes Go.ChangeAt Go.RowKit
set_option maxRecDepth 100000
set_option linter.unusedSimpArgs false

section
variable {P : Program} {w : World} {B b0 N : Nat} {dg : List Int → Option (List Int)} {node kids : List Int → Option Nat}
theorem seg_full {t : List Int} {a q : Nat} (h : t.length ≤ a + q) : seg t a (q + 1) = seg t a q := by
  unfold seg
  rw [List.take_of_length_le (by rw [List.length_drop]; omega), List.take_of_length_le (by rw [List.length_drop]; omega)]
theorem TrieAt.deadSeg (h : TrieAt P w B b0 N dg node kids) {t : List Int} {a j : Nat} (hn : node (seg t a (j + 1)) = none) : ∀ q, j + 1 ≤ q → node (seg t a q) = none := by
  intro q hq
  induction q with
  | zero => omega
  | succ q ih =>
    rcases Nat.lt_or_ge q (j + 1) with h1 | h1
    · obtain rfl : q = j := by omega
      exact hn
    · rcases Nat.lt_or_ge (a + q) t.length with h2 | h2
      · rw [seg_succ h2]; exact (h.dead _ (ih h1)).2.2 _
      · rw [seg_full h2]; exact ih h1
/-- the map of a knot, asked -/
theorem TrieAt.look (h : TrieAt Tryd.prog w B b0 N dg node kids) {p : List Int} {g : Nat} (hp : node p = some g) {r : Int} (hr : (Lit.int .i32 r).wf = true) :
    (Instr.lookup 51 (.map (kids p)) (.int .i32 r) false).run Tryd.prog w = .ok (pv (node (p ++ [r]))) w := by
  cases hk : kids p with
  | none => rw [look_nilmap hr, h.nokid p g hp hk r]; rfl
  | some m => exact (h.kid p g m hp hk).2.look hr
end
theorem own_apart {w : World} {B B' n n' c c' s s' : Nat} {e e' : TypeId} {A A' : Option Addr} {vs vs' : List Value} (h : OwnV w B e s A n c vs) (h' : OwnV w B' e' s' A' n' c' vs') (hn : 0 < n') (hne : e ≠ e') : Apart A A' := by
  intro g h1 h2
  subst h1; subst h2
  rcases h.2 with ⟨hv, _⟩ | ⟨g1, cap, cur, hv, _, hb, _⟩
  · cases hv
  · rcases h'.2 with ⟨_, h0⟩ | ⟨g2, cap2, cur2, hv2, _, hb2, _⟩
    · omega
    · injection hv with hv
      injection hv with hv
      injection hv with hv
      injection hv2 with hv2
      injection hv2 with hv2
      injection hv2 with hv2
      subst hv; subst hv2
      rw [hb] at hb2
      injection hb2 with hb2
      injection hb2 with _ hb2
      exact hne hb2
theorem i32_int : (21 : TypeId) ≠ 3 := by decide

/-- what is known while digits are laid -/
structure WRel (w0 wr : World) (At : Option Addr) (n ct : Nat) (t : List Int) (gm nm cm : Nat) (ms : List Int) (R : Nat → Int → Prop) : Prop where
  ot : Own wr w0.heap.size 21 .i32 At n ct t
  om : Own wr w0.heap.size 3 .i64 (some ⟨gm, 0, none⟩) nm cm ms
  best : IsBest R ms
  be : Below w0.heap.size w0 wr
section
variable {w0 wr w' : World} {At : Option Addr} {n ct : Nat} {t : List Int} {gm nm cm : Nat} {ms : List Int} {R : Nat → Int → Prop}
theorem WRel.pass (h : WRel w0 wr At n ct t gm nm cm ms R) (hb : Below wr.heap.size wr w') : WRel w0 w' At n ct t gm nm cm ms R :=
  ⟨h.ot.pass hb, h.om.pass hb, h.best, h.be.trans (hb.mono h.be.size)⟩
theorem WRel.iff (h : WRel w0 wr At n ct t gm nm cm ms R) {R' : Nat → Int → Prop} (e : ∀ j v, R j v ↔ R' j v) : WRel w0 wr At n ct t gm nm cm ms R' := ⟨h.ot, h.om, h.best.iff e, h.be⟩
theorem WRel.lay (h : WRel w0 wr At n ct t gm nm cm ms R) {k : Nat} (hk : k < nm) (x : Int) :
    WRel w0 (wr.setCell ⟨gm, k, none⟩ (.int .i64 (max (nth ms k) x))) At n ct t gm nm cm (ms.set k (max (nth ms k) x)) (fun j v => R j v ∨ (j = k ∧ v = x)) :=
  ⟨OwnV.far h.ot (own_apart h.ot h.om (by omega) i32_int) _, h.om.set_ k _, h.best.lay (by rw [h.om.len]; exact hk) x, h.be.setCell (p := ⟨gm, k, none⟩) (OwnV.ltH h.om).1 _⟩
end
def WPost (w0 : World) (At : Option Addr) (n ct : Nat) (t : List Int) (gm nm cm : Nat) (R : Nat → Int → Prop) (e : Ending) (w' : World) : Prop :=
  ∃ ms, e = .returned (.tuple #[]) ∧ WRel w0 w' At n ct t gm nm cm ms R
/-- the digits of a knot, as a list -/
theorem dig_list {w0 : World} {B : Nat} {A : Option Addr} {n c : Nat} {L : List Pat} (hL : PatsOk L) {t : List Int} {a j : Nat} (haj : a + j < t.length) (h : DigAt w0 B A n c (lookP L (seg t a (j + 1)))) :
    ∃ ds, n = ds.length ∧ Own w0 B 3 .i64 A n c ds ∧ ds.length ≤ j + 2 ∧ (∀ d ∈ ds, 0 ≤ d ∧ d ≤ 9) ∧ ∀ x v, LaysTo L t a (j + 1) x v ↔ LaysTo L t a j x v ∨ ∃ i, i < ds.length ∧ x = a + i ∧ v = nth ds i := by
  cases hl : lookP L (seg t a (j + 1)) with
  | none =>
    rw [hl] at h
    obtain ⟨rfl, rfl, rfl⟩ := h
    refine ⟨[], rfl, Own.nil _ _ _ _, by simp, fun d hd => (by cases hd), fun x v => ?_⟩
    rw [laysTo_succ, hl]
    simp
  | some ds =>
    rw [hl] at h
    obtain ⟨h1, h2, h3⟩ := h
    have hok := hL.ok _ (lookP_mem hl)
    have hlen : (seg t a (j + 1)).length = j + 1 := seg_len (by omega)
    refine ⟨ds, h1, h3, ?_, hok.2.2.2, fun x v => ?_⟩
    · have := hok.2.1
      simp only [hlen] at this
      omega
    · rw [laysTo_succ, hl]
      simp
theorem laysI_succ {ds : List Int} {a i x : Nat} {v : Int} : (∃ k, k < i + 1 ∧ x = a + k ∧ v = nth ds k) ↔ (∃ k, k < i ∧ x = a + k ∧ v = nth ds k) ∨ (x = a + i ∧ v = nth ds i) := by
  constructor
  · rintro ⟨k, h1, h2, h3⟩
    rcases Nat.lt_or_ge k i with h4 | h4
    · exact .inl ⟨k, h4, h2, h3⟩
    · obtain rfl : k = i := by omega
      exact .inr ⟨h2, h3⟩
  · rintro (⟨k, h1, h2, h3⟩ | ⟨h2, h3⟩)
    · exact ⟨k, by omega, h2, h3⟩
    · exact ⟨i, by omega, h2, h3⟩

set_option maxHeartbeats 4000000 in
theorem weigh_any (w0 w : World) (B b0 N : Nat) (L : List Pat) (hL : PatsOk L) (node kids : List Int → Option Nat) (hT : TrieAt Tryd.prog w0 B b0 N (lookP L) node kids)
    (At : Option Addr) (n ct : Nat) (t : List Int) (a gm nm cm : Nat) (ms : List Int) (R : Nat → Int → Prop) (h : WRel w0 w At n ct t gm nm cm ms R) (hn : n ≤ 1000000) (hnm : n < nm) (ha : a ≤ n) (hw : ∀ r ∈ t, (Lit.int .i32 r).wf = true) :
    Calls Tryd.prog 23 #[.pointer (some ⟨b0, 0, none⟩), .slice At n ct, .int .i64 (a : Int), .slice (some ⟨gm, 0, none⟩) nm cm] w (WPost w0 At n ct t gm nm cm (fun j v => R j v ∨ LaysAt L t a j v)) := by
  have HT : Shut _ := ⟨hT⟩
  have HL : Shut _ := ⟨hL⟩
  have HW : Shut _ := ⟨hw⟩
  have H0 : Shut (WRel w0 w At n ct t gm nm cm ms (fun j v => R j v ∨ LaysTo L t a 0 j v)) := ⟨h.iff fun j v => ⟨.inl, fun h => h.elim id fun k => absurd k LaysTo.zero⟩⟩
  have HLEN : Shut _ := ⟨h.ot.len⟩
  have hroot := hT.root
  have HR : Shut _ := ⟨hroot⟩
  clear hT hL hw h hroot
  go_enter Tryd.func23, Tryd.ntmps23
  go_wp2_with fail
  go_loopg [8, 9] (n + 1) (fun gg v8 v9 wr => ∃ (j g : Nat) (ms : List Int), n - (a + j) < gg ∧ a + j ≤ n ∧ v8 = .pointer (some ⟨g, 0, none⟩) ∧ v9 = .int .i64 ((a + j : Nat) : Int) ∧ Shut (node (seg t a j) = some g) ∧ Shut (WRel w0 wr At n ct t gm nm cm ms (fun x v => R x v ∨ LaysTo L t a j x v)))
  case atStart => exact ⟨0, b0, ms, by omega, by omega, rfl, rfl, HR, H0⟩
  case round =>
    obtain ⟨j, g, ms, hg, haj, rfl, rfl, NJ, W⟩ := hrel
    by_cases hlt : a + j < n
    · obtain ⟨q, hq⟩ : ∃ q, a + j = q := ⟨_, rfl⟩
      have HQ : Shut (a + j = q) := ⟨hq⟩
      have HG : Shut (n - (a + j) < gk) := ⟨hg⟩
      have hql : q < n := by omega
      have htl : a + j < t.length := by rw [HLEN.out]; exact hlt
      have HTL : Shut _ := ⟨htl⟩
      have hr : (Lit.int .i32 (nth t (a + j))).wf = true := HW.out _ (by rw [nth_eq htl]; exact List.getElem_mem ..)
      have SS : Shut _ := ⟨seg_succ htl⟩
      have TW : Shut (∀ N' : Later wr, _) := ⟨fun N' : Later wr => HT.out.pass (W.out.be.trans (N'.2.mono W.out.be.size))⟩
      have LK : ∀ N' : Later wr, _ := fun N' => (TW.out N').look NJ.out hr
      rw [← SS.out] at LK
      obtain ⟨hBg, A0, n0, c0, kn, dg0⟩ := HT.out.knot _ _ NJ.out
      have k0 := later_cell ((W.out.be.cell (p := ⟨g, 0, none⟩) kn.lt).trans kn.c0)
      obtain ⟨gt, rfl, _⟩ := OwnV.form W.out.ot (by omega)
      have d0 := later_cell (own_cellH W.out.ot hlt)
      have hgm := (OwnV.ltH W.out.om).1
      rw [hq] at LK d0
      rw [hq]
      clear hr kn dg0 htl hlt haj hg hq
      have hqi : (q : Int) < (n : Int) := by omega
      cases hnx : node (seg t a (j + 1)) with
      | none =>
        rw [hnx] at LK
        simp only [pv] at LK
        have HN : Shut _ := ⟨hnx⟩
        clear hnx
        go_wp2_with fail
        refine wp_region_later (by kernel_rfl) (by kernel_rfl) ?_
        repeat (go_big_quiet_step (fail))
        refine wpQuiet_nil ?_
        intro _ hw'
        obtain ⟨nqq, hw''⟩ := hw'
        subst hw''
        clear LK
        go_wp2_with fail
        first | go_end0 | (simp only [Exit.inBlock, Exit.then]; refine bodyPost_ret (results_none rfl _ _ _) rfl ?_) | refine bodyPost_ret (results_none rfl _ _ _) rfl ?_
        refine ⟨ms, rfl, (W.out.pass nqq.2).iff fun x v => ?_⟩
        have hds : ∀ q', j < q' → lookP L (seg t a q') = none := fun q' hq' => (HT.out.dead _ (HT.out.deadSeg HN.out q' hq')).2.1
        have h1 := HTL.out
        rw [← laysAt_to HL.out (by omega), laysTo_none (m := j) hds (k := t.length - a) (by omega)]
      | some g' =>
        rw [hnx] at LK
        simp only [pv] at LK
        have HN : Shut _ := ⟨hnx⟩
        clear hnx
        go_wp2_with fail
        refine wp_region_later (by kernel_rfl) (by kernel_rfl) ?_
        repeat (go_big_quiet_step (fail))
        refine wpQuiet_nil ?_
        intro _ hw'
        obtain ⟨nqq, hw''⟩ := hw'
        subst hw''
        clear LK
        obtain ⟨_, A1, n1, c1, kn1, dg1⟩ := HT.out.knot _ _ HN.out
        obtain ⟨ds, rfl, od, hdl, hd9, hlay⟩ := dig_list HL.out HTL.out dg1
        have WQ := W.out.pass nqq.2
        have k1 := (WQ.be.cell (p := ⟨g', 1, none⟩) kn1.lt).trans kn1.c1
        have OD : Shut _ := ⟨od⟩
        have HLY : Shut _ := ⟨hlay⟩
        have W0 : Shut (WRel w0 nqq.1 (some ⟨gt, 0, none⟩) n ct t gm nm cm ms (fun x v => (R x v ∨ LaysTo L t a j x v) ∨ ∃ k, k < 0 ∧ x = a + k ∧ v = nth ds k)) := ⟨WQ.iff fun x v => ⟨.inl, fun h => h.elim id fun ⟨k, hk, _⟩ => by omega⟩⟩
        obtain ⟨wo, hwo⟩ : ∃ wo : World, wo = nqq.1 := ⟨_, rfl⟩
        rw [← hwo] at k1 W0 ⊢
        have hds2 : a + ds.length ≤ n + 1 := by have := HQ.out; omega
        have hdn : ds.length ≤ 1000002 := by omega
        clear kn1 dg1 od hlay WQ k0 d0 hwo hd9
        go_wp2_with fail
        go_loopg [10, 11, 42] (ds.length + 1) (fun gg v10 v11 v42 wr => ∃ (i : Nat) (ms : List Int), ds.length - i < gg ∧ i ≤ ds.length ∧ v42 = .int .i64 (i : Int) ∧ Shut (WRel w0 wr (some ⟨gt, 0, none⟩) n ct t gm nm cm ms (fun x v => (R x v ∨ LaysTo L t a j x v) ∨ ∃ k, k < i ∧ x = a + k ∧ v = nth ds k)))
        case atStart => exact ⟨0, ms, by omega, by omega, rfl, W0⟩
        case round =>
          obtain ⟨i, ms', hg2, hil, rfl, WI⟩ := hrel
          by_cases hi : i < ds.length
          · have od := OD.out.pass (w' := wr) WI.out.be
            obtain ⟨gd, rfl, _⟩ := OwnV.form od (by omega)
            have e1 := own_cellH od hi
            obtain ⟨q2, hq2⟩ : ∃ q2, a + i = q2 := ⟨_, rfl⟩
            have hq2n : q2 < nm := by omega
            have e2 := own_cellH WI.out.om hq2n
            have f2 := OwnV.frozenAt WI.out.om q2
            have es : (a : Int) + (i : Int) = (q2 : Int) := by omega
            have WN : Shut (WRel w0 (wr.setCell ⟨gm, q2, none⟩ (.int .i64 (max (nth ms' q2) (nth ds i)))) (some ⟨gt, 0, none⟩) n ct t gm nm cm (ms'.set q2 (max (nth ms' q2) (nth ds i))) (fun x v => (R x v ∨ LaysTo L t a j x v) ∨ ∃ k, k < i + 1 ∧ x = a + k ∧ v = nth ds k)) :=
              ⟨(WI.out.lay hq2n (nth ds i)).iff fun x v => by rw [laysI_succ, hq2]; exact or_assoc⟩
            generalize nth ms' q2 = mx at e2 WN
            generalize nth ds i = dx at e1 WN
            have hgl := (OwnV.ltH WI.out.om).2
            clear od hq2
            by_cases hm : mx < dx
            · rw [show max mx dx = dx by omega] at WN
              go_wp2_with fail
              go_roundg (ds.length - i)
              case measure => omega
              case rel => exact ⟨i + 1, _, by omega, by omega, by go_num, WN⟩
            · rw [show max mx dx = mx by omega] at WN
              go_wp2_with fail
              go_roundg (ds.length - i)
              case measure => omega
              case rel => exact ⟨i + 1, _, by omega, by omega, by go_num, WN⟩
          · obtain rfl : i = ds.length := by omega
            have WE : Shut (WRel w0 wr (some ⟨gt, 0, none⟩) n ct t gm nm cm ms' (fun x v => R x v ∨ LaysTo L t a (j + 1) x v)) := ⟨WI.out.iff fun x v => by rw [HLY.out x v, or_assoc]⟩
            clear hi hil
            go_wp2_with fail
            go_roundg (n - q)
            case measure => have h1 := HG.out; have h2 := HQ.out; omega
            case rel => exact ⟨j + 1, g', ms', by have := HQ.out; omega, by have := HQ.out; omega, rfl, by have := HQ.out; congr 1; omega, HN, WE⟩
    · have hj : a + j = n := by omega
      have hf : Shut (t.length - a = j) := ⟨by rw [HLEN.out]; omega⟩
      have hta : Shut (a ≤ t.length) := ⟨by rw [HLEN.out]; omega⟩
      have hnn : ¬ ((a + j : Nat) : Int) < (n : Int) := by omega
      have hdd : decide (((a + j : Nat) : Int) < (n : Int)) = false := by simp; omega
      clear hlt hg haj
      rw [hj] at hnn hdd ⊢
      have h1 : ¬ (n : Int) < (n : Int) := by omega
      clear hj
      go_wp2_with fail
      first | go_end0 | (simp only [Exit.inBlock, Exit.then]; refine bodyPost_ret (results_none rfl _ _ _) rfl ?_) | refine bodyPost_ret (results_none rfl _ _ _) rfl ?_
      refine ⟨ms, rfl, W.out.iff fun x v => ?_⟩
      rw [← laysAt_to HL.out hta.out, hf.out]
end Go.Proofs.YtgianjnccpbnaaaDoor
