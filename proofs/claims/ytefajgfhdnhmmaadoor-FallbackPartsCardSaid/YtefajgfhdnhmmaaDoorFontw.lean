/- Chapters 22, 23: a font's glyph of a code point, and what it has, both ways; the walk of FallbackHas. -/
import Derived.Test.YtefajgfhdnhmmaaDoorFontl
import Derived.Test.YtefajgfhdnhmmaaDoorNeedf
namespace Go.Proofs.YtefajgfhdnhmmaaDoor
open Go.ChangeShapes Go.WideShapes Go.ChangeAt Go.RowKit
set_option maxRecDepth 100000
set_option linter.unusedSimpArgs false

theorem box_keepF {w w1 : World} {cs : Array Value} {t : TypeId} (h : Below (w.heap.size + 1) (w.alloc (.cells cs t)) w1) (o : Nat) : w1.cell? ⟨w.heap.size, o, none⟩ = cs[o]? :=
  (h.cell (p := ⟨w.heap.size, o, none⟩) (Nat.lt_succ_self _)).trans (by rw [cell_of_row _ _ _ _ _ _ (heap_alloc_new w _)])
theorem box_belowF {w w1 : World} {o : Obj} (h : Below (w.heap.size + 1) (w.alloc o) w1) : Below w.heap.size w w1 := ((Below.refl w.heap.size w).alloc (Nat.le_refl _) o).trans (h.mono (Nat.le_succ _))
theorem box_stepF {w w1 w2 : World} {o : Obj} (h : Below (w.heap.size + 1) (w.alloc o) w1) (h2 : Below w1.heap.size w1 w2) : Below (w.heap.size + 1) (w.alloc o) w2 := h.trans (h2.mono (by have := h.size; simpa using this))
theorem add_two (a : Addr) (j : Nat) : (a.add (j * 2)).add 1 = a.add (j * 2 + 1) := add_of_add a _ _

set_option maxHeartbeats 2000000 in
theorem pglyph_any (em : Int) (G : Option Addr) (gn gc : Nat) (M : Option Addr) (mn mc : Nat) (ms : List (Int × Int)) (L : Option Addr) (ln lc : Nat) (F : Option Addr) (fn fc : Nat) (S : Option Addr) (sn sc : Nat) (r : Int) (w : World) (hM : MapsAt w w.heap.size M mn ms) (hn : mn ≤ 140737488355328) :
    Calls Tryd.prog 99 #[.agg #[.int .i64 em, .slice G gn gc, .slice M mn mc, .slice L ln lc, .slice F fn fc, .slice S sn sc], .int .i32 r] w fun e w' => e = .returned (.int .i64 (glyphOf ms r 0)) ∧ Below w.heap.size w w' := by
  have HM := Lib.hid hM
  have HN := Lib.hid hM.1
  clear hM
  go_enter Tryd.func99, Tryd.ntmps99
  go_wp2_with fail
  go_loopw [10] (fun v wr => ∃ j : Nat, j ≤ mn ∧ v = .int .i64 j ∧ glyphOf ms r j = glyphOf ms r 0 ∧ Below w.heap.size w wr) (fun v _ => mn - (intOf v).toNat)
  case atStart => exact ⟨0, Nat.zero_le _, rfl, rfl, (Below.refl w.heap.size w).alloc (Nat.le_refl _) _⟩
  case round =>
    obtain ⟨j, hj, rfl, hg, hb⟩ := hrel
    have GG := Lib.hid hg
    have HB := Lib.hid hb
    clear hg
    by_cases hlt : j < mn
    · obtain ⟨ad, rfl, hab, hcx⟩ := (HM.out.below hb).2 (by omega)
      obtain ⟨c0, c1⟩ := hcx j hlt
      rw [← add_two] at c1
      have jl : j < ms.length := by rw [HN.out]; exact hlt
      have GY := Lib.hid (glyphOf_yes (ms := ms) (r := r) jl)
      have GN := Lib.hid (glyphOf_no (ms := ms) (r := r) jl)
      obtain ⟨cd, hcd⟩ : ∃ cd, (mnth ms j).1 = cd := ⟨_, rfl⟩
      obtain ⟨gl, hgl⟩ : ∃ gl, (mnth ms j).2 = gl := ⟨_, rfl⟩
      rw [hcd] at c0 GY GN
      rw [hgl] at c1 GY
      have c1x : wr.cell? { block := (ad.add (j * 2)).block, off := (ad.add (j * 2)).off + 1 } = some (.int .i64 gl) := c1
      clear hcx hcd hgl hb jl
      by_cases he : cd = r
      · have E := Lib.hid (GY.out he)
        subst he
        go_wp2_with fail
        go_ret
        exact ⟨reti (by rw [← GG.out, E.out]), HB.out.alloc HB.out.size _⟩
      · have E := Lib.hid (GN.out he)
        have ne : ((cd : Int) == r) = false := by simpa using he
        clear he
        go_wp2_with fail
        go_roundw
        case rel => exact ⟨j + 1, by omega, by go_num, by rw [← E.out]; exact GG.out, HB.out.alloc HB.out.size _⟩
        case measure => simp [intOf] <;> omega
    · have E := Lib.hid (glyphOf_end (ms := ms) (r := r) (j := j) (by rw [HN.out]; omega))
      go_wp2_with fail
      go_ret
      exact ⟨reti (by rw [← GG.out, E.out]), HB.out⟩
theorem shows_any (em : Int) (G : Option Addr) (gn gc : Nat) (M : Option Addr) (mn mc : Nat) (ms : List (Int × Int)) (L : Option Addr) (ln lc : Nat) (F : Option Addr) (fn fc : Nat) (S : Option Addr) (sn sc : Nat) (r : Int) (w : World) (hM : MapsAt w w.heap.size M mn ms) (hn : mn ≤ 140737488355328) :
    Calls Tryd.prog 72 #[.agg #[.int .i64 em, .slice G gn gc, .slice M mn mc, .slice L ln lc, .slice F fn fc, .slice S sn sc], .int .i32 r] w fun e w' => e = .returned (.bool (glyphOf ms r 0 != 0)) ∧ Below w.heap.size w w' := by
  have PG := Lib.hid (fun w' (hb : Below w.heap.size w w') => pglyph_any em G gn gc M mn mc ms L ln lc F fn fc S sn sc r w' (hM.later hb) hn)
  clear hM
  generalize glyphOf ms r 0 = g at *
  go_enter Tryd.func72, Tryd.ntmps72
  go_wp2_with fail
  refine (PG.out _ ((Below.refl w.heap.size w).alloc (Nat.le_refl _) _)).mono ?_
  rintro e w1 ⟨rfl, hb1⟩
  have x1 := ((Below.refl w.heap.size w).alloc (Nat.le_refl _) (.cells #[.int .i64 em, .slice G gn gc, .slice M mn mc, .slice L ln lc, .slice F fn fc, .slice S sn sc] 52)).trans (hb1.mono (by simp))
  go_wp2_with fail
  go_ret
  exact ⟨rfl, x1⟩
def AtV (ms : List (Int × Int)) (r v : Int) : Prop := (v = -1 ∧ ∀ j, j < ms.length → (mnth ms j).1 ≠ r) ∨ ∃ i : Nat, i < ms.length ∧ v = i ∧ (mnth ms i).1 = r ∧ ∀ j, j < i → (mnth ms j).1 ≠ r
def AtIs (ms : List (Int × Int)) (r : Int) (w : World) (e : Ending) (w' : World) : Prop := ∃ v : Int, e = .returned (.int .i64 v) ∧ AtV ms r v ∧ Below w.heap.size w w'
theorem glyph_upto {ms : List (Int × Int)} {r : Int} : ∀ i, i ≤ ms.length → (∀ j, j < i → (mnth ms j).1 ≠ r) → glyphOf ms r 0 = glyphOf ms r i
  | 0, _, _ => rfl
  | i + 1, hi, h => by rw [glyph_upto i (by omega) fun j hj => h j (by omega), glyphOf_no (by omega) (h i (by omega))]
theorem AtV.glyph {ms : List (Int × Int)} {r v : Int} (h : AtV ms r v) : (v = -1 ∧ glyphOf ms r 0 = 0) ∨ ∃ i : Nat, i < ms.length ∧ v = i ∧ glyphOf ms r 0 = (mnth ms i).2 := by
  rcases h with ⟨h1, h2⟩ | ⟨i, h1, h2, h3, h4⟩
  · exact .inl ⟨h1, by rw [glyph_upto _ (Nat.le_refl _) h2, glyphOf_end (Nat.le_refl _)]⟩
  · exact .inr ⟨i, h1, h2, by rw [glyph_upto i (by omega) h4, glyphOf_yes h1 h3]⟩
set_option maxHeartbeats 2000000 in
theorem rat_any (em : Int) (G : Option Addr) (gn gc : Nat) (M : Option Addr) (mn mc : Nat) (ms : List (Int × Int)) (L : Option Addr) (ln lc : Nat) (F : Option Addr) (fn fc : Nat) (S : Option Addr) (sn sc : Nat) (r : Int) (w : World) (hM : MapsAt w w.heap.size M mn ms) (hn : mn ≤ 140737488355328) :
    Calls Tryd.prog 112 #[.agg #[.int .i64 em, .slice G gn gc, .slice M mn mc, .slice L ln lc, .slice F fn fc, .slice S sn sc], .int .i32 r] w (AtIs ms r w) := by
  have HM := Lib.hid (hM.later ((Below.refl w.heap.size w).alloc (Nat.le_refl _) (.cells #[.int .i64 em, .slice G gn gc, .slice M mn mc, .slice L ln lc, .slice F fn fc, .slice S sn sc] 52)))
  have HN := Lib.hid hM.1
  clear hM
  go_enter Tryd.func112, Tryd.ntmps112
  go_wp2_with fail
  go_loop [5] (fun v => ∃ j : Nat, j ≤ mn ∧ v = .int .i64 j ∧ ∀ i, i < j → (mnth ms i).1 ≠ r) (fun v => mn - (intOf v).toNat)
  case atStart => exact ⟨0, Nat.zero_le _, rfl, fun i h => by omega⟩
  case round =>
    obtain ⟨j, hj, rfl, hall⟩ := hrel
    have ALL := Lib.hid hall
    clear hall
    by_cases hlt : j < mn
    · obtain ⟨ad, rfl, hab, hcx⟩ := HM.out.2 (by omega)
      obtain ⟨c0, c1⟩ := hcx j hlt
      obtain ⟨cd, hcd⟩ : ∃ cd, (mnth ms j).1 = cd := ⟨_, rfl⟩
      have CD := Lib.hid hcd
      rw [hcd] at c0
      clear hcx hcd c1
      by_cases he : cd = r
      · subst he
        go_wp2_with fail
        go_ret
        exact ⟨_, rfl, .inr ⟨j, by rw [HN.out]; exact hlt, rfl, CD.out, ALL.out⟩, (Below.refl w.heap.size w).alloc (Nat.le_refl _) _⟩
      · have ne : ((cd : Int) == r) = false := by simpa using he
        have HE := Lib.hid he
        clear he
        go_wp2_with fail
        go_round
        case rel => exact ⟨j + 1, by omega, by go_num, fun i hi => by
          rcases Nat.lt_or_ge i j with h | h
          · exact ALL.out i h
          · rw [show i = j by omega, CD.out]; exact HE.out⟩
        case measure => simp [intOf] <;> omega
    · go_wp2_with fail
      go_ret
      exact ⟨_, rfl, .inl ⟨rfl, fun i hi => ALL.out i (by rw [HN.out] at hi; omega)⟩, (Below.refl w.heap.size w).alloc (Nat.le_refl _) _⟩
set_option maxHeartbeats 2000000 in
theorem rglyph_any (em : Int) (G : Option Addr) (gn gc : Nat) (M : Option Addr) (mn mc : Nat) (ms : List (Int × Int)) (L : Option Addr) (ln lc : Nat) (F : Option Addr) (fn fc : Nat) (S : Option Addr) (sn sc : Nat) (r : Int) (w : World) (hM : MapsAt w w.heap.size M mn ms) (hn : mn ≤ 140737488355328) :
    Calls Tryd.prog 98 #[.agg #[.int .i64 em, .slice G gn gc, .slice M mn mc, .slice L ln lc, .slice F fn fc, .slice S sn sc], .int .i32 r] w fun e w' => e = .returned (.int .i64 (glyphOf ms r 0)) ∧ Below w.heap.size w w' := by
  have PA := Lib.hid (fun w' (hb : Below w.heap.size w w') => rat_any em G gn gc M mn mc ms L ln lc F fn fc S sn sc r w' (hM.later hb) hn)
  have HM := Lib.hid hM
  have HN := Lib.hid hM.1
  clear hM
  go_enter Tryd.func98, Tryd.ntmps98
  go_wp2_with fail
  refine (PA.out _ ((Below.refl w.heap.size w).alloc (Nat.le_refl _) _)).mono ?_
  rintro e w1 ⟨v, rfl, hv, hb1⟩
  have hb2 : Below (w.heap.size + 1) (w.alloc (.cells #[.int .i64 em, .slice G gn gc, .slice M mn mc, .slice L ln lc, .slice F fn fc, .slice S sn sc] 52)) w1 := by simpa using hb1
  have X1 := Lib.hid (box_belowF hb2)
  have b2 := box_keepF hb2 2
  rcases hv.glyph with ⟨h1, h2⟩ | ⟨i, h1, h2, h3⟩
  · subst h1
    have E := Lib.hid h2
    clear hv hb1 hb2 h2
    go_wp2_with fail
    go_ret
    exact ⟨reti E.out.symm, X1.out⟩
  · subst h2
    have E := Lib.hid h3
    rw [HN.out] at h1
    obtain ⟨ad, rfl, hab, hcx⟩ := (HM.out.below X1.out).2 (by omega)
    obtain ⟨c0, c1⟩ := hcx i h1
    obtain ⟨gl, hgl⟩ : ∃ gl, (mnth ms i).2 = gl := ⟨_, rfl⟩
    have GL := Lib.hid hgl
    rw [hgl] at c1
    have c1y := c1
    rw [← add_two] at c1
    have c1x : w1.cell? { block := (ad.add (i * 2)).block, off := (ad.add (i * 2)).off + 1 } = some (.int .i64 gl) := c1
    have p0 : ¬ (i : Int) < 0 := by omega
    clear hv hb1 hb2 h3 hcx c0 hgl
    go_wp2_with fail
    go_ret
    exact ⟨reti (by rw [E.out, GL.out]), X1.out⟩

def goodB (ms : List (Int × Int)) (r : Int) : Bool := !(needsB r) || glyphOf ms r 0 != 0
def hasB (ms : List (Int × Int)) (cl : List Int) : Bool := cl.all (goodB ms)
theorem hasB_no {ms : List (Int × Int)} {cl : List Int} {k : Nat} (hk : k < cl.length) (h : goodB ms (nth cl k) = false) : hasB ms cl = false := by
  unfold hasB
  rw [List.all_eq_false]
  refine ⟨nth cl k, ?_, by simp [h]⟩
  rw [nth_eq hk]
  exact List.getElem_mem hk
theorem hasB_yes {ms : List (Int × Int)} {cl : List Int} (h : ∀ k, k < cl.length → goodB ms (nth cl k) = true) : hasB ms cl = true := by
  unfold hasB
  rw [List.all_eq_true]
  intro x hx
  obtain ⟨k, hk, rfl⟩ := List.getElem_of_mem hx
  have := h k hk
  rwa [nth_eq hk] at this

set_option maxHeartbeats 4000000 in
theorem phas_any (em : Int) (G : Option Addr) (gn gc : Nat) (M : Option Addr) (mn mc : Nat) (ms : List (Int × Int)) (L : Option Addr) (ln lc : Nat) (F : Option Addr) (fn fc : Nat) (S : Option Addr) (sn sc : Nat) (A : Option Addr) (n c : Nat) (xs : List Int) (w : World) (hM : MapsAt w w.heap.size M mn ms) (hx : SliceIn .i32 w A n c xs) (hl : Laid w) (hn : mn ≤ 140737488355328) (hn2 : n ≤ 140737488355328) :
    Calls Tryd.prog 40 #[.agg #[.int .i64 em, .slice G gn gc, .slice M mn mc, .slice L ln lc, .slice F fn fc, .slice S sn sc], .slice A n c] w fun e w' => e = .returned (.bool (hasB ms xs)) ∧ Below w.heap.size w w' := by
  have HM := Lib.hid hM
  have HX := Lib.hid hx
  have HL := Lib.hid hl
  have HLEN := Lib.hid hx.at_.len
  clear hM hx hl
  go_enter Tryd.func40, Tryd.ntmps40
  go_wp2_with fail
  go_loopw [9] (fun v wr => ∃ k : Nat, k ≤ n ∧ v = .int .i64 k ∧ (∀ i, i < k → goodB ms (nth xs i) = true) ∧ Below (w.heap.size + 1) (w.alloc (.cells #[.int .i64 em, .slice G gn gc, .slice M mn mc, .slice L ln lc, .slice F fn fc, .slice S sn sc] 52)) wr) (fun v _ => n - (intOf v).toNat)
  case atStart => exact ⟨0, Nat.zero_le _, rfl, fun i h => by omega, Below.refl _ _⟩
  case round =>
    obtain ⟨k, hk, rfl, hall, hb⟩ := hrel
    have ALL := Lib.hid hall
    have HB := Lib.hid hb
    clear hall
    by_cases hlt : k < n
    · obtain ⟨h1, h2⟩ := bounds_i32 (HX.out.nth_wf hlt)
      obtain ⟨ad, rfl, hab, hcx⟩ := (HX.out.at_.below (box_belowF hb)).2 (by omega)
      have hc := hcx k hlt
      obtain ⟨r, hr⟩ : ∃ r, nth xs k = r := ⟨_, rfl⟩
      have RE := Lib.hid hr
      rw [hr] at hc h1 h2
      clear hr
      have NE := Lib.hid (fun w' (hb : Below w.heap.size w w') => pNeeds_any r h1 h2 w' (HL.out.pass hb))
      have SH := Lib.hid (fun w' (hb : Below w.heap.size w w') => shows_any em G gn gc M mn mc ms L ln lc F fn fc S sn sc r w' (HM.out.later hb) hn)
      clear h1 h2 hcx
      have gd : goodB ms r = (!(needsB r) || glyphOf ms r 0 != 0) := rfl
      have GD := Lib.hid gd
      clear gd
      cases hne : needsB r
      · rw [hne] at NE GD
        have G2 := Lib.hid (show goodB ms r = true by rw [GD.out]; rfl)
        clear hne hb
        go_wp2_with fail
        refine (NE.out _ (box_belowF HB.out)).mono ?_
        rintro e w2 ⟨rfl, hv⟩
        have HB2 := Lib.hid (box_stepF HB.out hv)
        clear hv
        go_wp2_with fail
        go_roundw
        case rel => exact ⟨k + 1, by omega, by go_num, fun i hi => (Nat.lt_or_ge i k).elim (fun h => ALL.out i h) (fun h => by rw [show i = k by omega, RE.out]; exact G2.out), HB2.out⟩
        case measure => simp [intOf] <;> omega
      · rw [hne] at NE GD
        cases hsh : (glyphOf ms r 0 != 0)
        · rw [hsh] at SH GD
          have G2 := Lib.hid (show goodB ms r = false by rw [GD.out]; rfl)
          clear hne hsh hb
          go_wp2_with fail
          refine (NE.out _ (box_belowF HB.out)).mono ?_
          rintro e w2 ⟨rfl, hv⟩
          have hb2 := box_stepF HB.out hv
          have HB2 := Lib.hid hb2
          have q0 := box_keepF hb2 0
          have q1 := box_keepF hb2 1
          have q2 := box_keepF hb2 2
          have q3 := box_keepF hb2 3
          have q4 := box_keepF hb2 4
          have q5 := box_keepF hb2 5
          clear hv hb2
          go_wp2_with fail
          refine (SH.out _ (box_belowF HB2.out)).mono ?_
          rintro e w3 ⟨rfl, hv⟩
          have HB3 := Lib.hid (box_stepF HB2.out hv)
          clear hv
          go_wp2_with fail
          go_ret
          exact ⟨retb (hasB_no (by rw [HLEN.out]; exact hlt) (by rw [RE.out]; exact G2.out)).symm, box_belowF HB3.out⟩
        · rw [hsh] at SH GD
          have G2 := Lib.hid (show goodB ms r = true by rw [GD.out]; rfl)
          clear hne hsh hb
          go_wp2_with fail
          refine (NE.out _ (box_belowF HB.out)).mono ?_
          rintro e w2 ⟨rfl, hv⟩
          have hb2 := box_stepF HB.out hv
          have HB2 := Lib.hid hb2
          have q0 := box_keepF hb2 0
          have q1 := box_keepF hb2 1
          have q2 := box_keepF hb2 2
          have q3 := box_keepF hb2 3
          have q4 := box_keepF hb2 4
          have q5 := box_keepF hb2 5
          clear hv hb2
          go_wp2_with fail
          refine (SH.out _ (box_belowF HB2.out)).mono ?_
          rintro e w3 ⟨rfl, hv⟩
          have HB3 := Lib.hid (box_stepF HB2.out hv)
          clear hv
          go_wp2_with fail
          go_roundw
          case rel => exact ⟨k + 1, by omega, by go_num, fun i hi => (Nat.lt_or_ge i k).elim (fun h => ALL.out i h) (fun h => by rw [show i = k by omega, RE.out]; exact G2.out), HB3.out⟩
          case measure => simp [intOf] <;> omega
    · have E := Lib.hid (hasB_yes (ms := ms) (cl := xs) (fun i hi => ALL.out i (by rw [HLEN.out] at hi; omega)))
      go_wp2_with fail
      go_ret
      exact ⟨retb E.out.symm, box_belowF HB.out⟩

set_option maxHeartbeats 4000000 in
theorem rhas_any (em : Int) (G : Option Addr) (gn gc : Nat) (M : Option Addr) (mn mc : Nat) (ms : List (Int × Int)) (L : Option Addr) (ln lc : Nat) (F : Option Addr) (fn fc : Nat) (S : Option Addr) (sn sc : Nat) (A : Option Addr) (n c : Nat) (xs : List Int) (w : World) (hM : MapsAt w w.heap.size M mn ms) (hx : SliceIn .i32 w A n c xs) (hn : mn ≤ 140737488355328) (hn2 : n ≤ 140737488355328) :
    Calls Tryd.prog 97 #[.agg #[.int .i64 em, .slice G gn gc, .slice M mn mc, .slice L ln lc, .slice F fn fc, .slice S sn sc], .slice A n c] w fun e w' => e = .returned (.bool (hasB ms xs)) ∧ Below w.heap.size w w' := by
  have HM := Lib.hid hM
  have HX := Lib.hid hx
  have HLEN := Lib.hid hx.at_.len
  clear hM hx
  go_enter Tryd.func97, Tryd.ntmps97
  go_wp2_with fail
  go_loopw [5] (fun v wr => ∃ k : Nat, k ≤ n ∧ v = .int .i64 k ∧ (∀ i, i < k → goodB ms (nth xs i) = true) ∧ Below (w.heap.size + 1) (w.alloc (.cells #[.int .i64 em, .slice G gn gc, .slice M mn mc, .slice L ln lc, .slice F fn fc, .slice S sn sc] 52)) wr) (fun v _ => n - (intOf v).toNat)
  case atStart => exact ⟨0, Nat.zero_le _, rfl, fun i h => by omega, Below.refl _ _⟩
  case round =>
    obtain ⟨k, hk, rfl, hall, hb⟩ := hrel
    have ALL := Lib.hid hall
    have HB := Lib.hid hb
    clear hall
    by_cases hlt : k < n
    · obtain ⟨h1, h2⟩ := bounds_i32 (HX.out.nth_wf hlt)
      obtain ⟨ad, rfl, hab, hcx⟩ := (HX.out.at_.below (box_belowF hb)).2 (by omega)
      have hc := hcx k hlt
      obtain ⟨r, hr⟩ : ∃ r, nth xs k = r := ⟨_, rfl⟩
      have RE := Lib.hid hr
      rw [hr] at hc h1 h2
      clear hr
      have NE := Lib.hid (fun N : Later wr => rNeeds_any r h1 h2 N.1)
      have SH := Lib.hid (fun N : Later wr => rglyph_any em G gn gc M mn mc ms L ln lc F fn fc S sn sc r N.1 ((HM.out.later (box_belowF HB.out)).later N.2) hn)
      clear h1 h2 hcx
      have gd : goodB ms r = (!(needsB r) || glyphOf ms r 0 != 0) := rfl
      have GD := Lib.hid gd
      have q0 := later_cell hc
      have d0 := later_cell (box_keepF hb 0)
      have d1 := later_cell (box_keepF hb 1)
      have d2 := later_cell (box_keepF hb 2)
      have d3 := later_cell (box_keepF hb 3)
      have d4 := later_cell (box_keepF hb 4)
      have d5 := later_cell (box_keepF hb 5)
      clear gd hb
      cases hne : needsB r
      · rw [hne] at NE GD
        have G2 := Lib.hid (show goodB ms r = true by rw [GD.out]; rfl)
        clear hne
        go_wp2_with fail
        refine wp_region_later (by kernel_rfl) (by kernel_rfl) ?_
        repeat (go_big_quiet_step ((first | (go_at_call 111; with_reducible exact quiet_later (NE.out _)) | (go_at_call 98; with_reducible exact quiet_later (SH.out _)))))
        refine wpQuiet_nil ?_
        intro _ hw'
        obtain ⟨nq, hw''⟩ := hw'
        subst hw''
        have HB2 := Lib.hid (box_stepF HB.out nq.2)
        go_wp2_with fail
        go_roundw
        case rel => exact ⟨k + 1, by omega, by go_num, fun i hi => (Nat.lt_or_ge i k).elim (fun h => ALL.out i h) (fun h => by rw [show i = k by omega, RE.out]; exact G2.out), HB2.out⟩
        case measure => simp [intOf] <;> omega
      · rw [hne] at NE GD
        clear hne
        obtain ⟨g, hg⟩ : ∃ g, glyphOf ms r 0 = g := ⟨_, rfl⟩
        rw [hg] at SH GD
        clear hg
        by_cases hg0 : g = 0
        · subst hg0
          have G2 := Lib.hid (show goodB ms r = false by rw [GD.out]; rfl)
          go_wp2_with fail
          refine wp_region_later (by kernel_rfl) (by kernel_rfl) ?_
          repeat (go_big_quiet_step ((first | (go_at_call 111; with_reducible exact quiet_later (NE.out _)) | (go_at_call 98; with_reducible exact quiet_later (SH.out _)))))
          refine wpQuiet_nil ?_
          intro _ hw'
          obtain ⟨nq, hw''⟩ := hw'
          subst hw''
          have HB2 := Lib.hid (box_stepF HB.out nq.2)
          go_wp2_with fail
          go_ret
          exact ⟨retb (hasB_no (by rw [HLEN.out]; exact hlt) (by rw [RE.out]; exact G2.out)).symm, box_belowF HB2.out⟩
        · have n0 : ((g : Int) == 0) = false := by simpa using hg0
          have G2 := Lib.hid (show goodB ms r = true by rw [GD.out]; simpa using hg0)
          clear hg0
          go_wp2_with fail
          refine wp_region_later (by kernel_rfl) (by kernel_rfl) ?_
          repeat (go_big_quiet_step ((first | (go_at_call 111; with_reducible exact quiet_later (NE.out _)) | (go_at_call 98; with_reducible exact quiet_later (SH.out _)))))
          refine wpQuiet_nil ?_
          intro _ hw'
          obtain ⟨nq, hw''⟩ := hw'
          subst hw''
          have HB2 := Lib.hid (box_stepF HB.out nq.2)
          go_wp2_with fail
          go_roundw
          case rel => exact ⟨k + 1, by omega, by go_num, fun i hi => (Nat.lt_or_ge i k).elim (fun h => ALL.out i h) (fun h => by rw [show i = k by omega, RE.out]; exact G2.out), HB2.out⟩
          case measure => simp [intOf] <;> omega
    · have E := Lib.hid (hasB_yes (ms := ms) (cl := xs) (fun i hi => ALL.out i (by rw [HLEN.out] at hi; omega)))
      go_wp2_with fail
      go_ret
      exact ⟨retb E.out.symm, box_belowF HB.out⟩

end Go.Proofs.YtefajgfhdnhmmaaDoor
