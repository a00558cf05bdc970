/- Chapter 52: windows hold the edit; outside of a window places are alike; an edit of nothing leaves a window of nothing. Plain. -/
import Derived.Test.YtmbgeeiidpllcaaDoorKam
import Derived.Test.YtmbgeeiidpllcaaDoorDfr
import Derived.Test.YtmbgeeiidpllcaaDoorDfit
import Derived.BigQuiet
import Derived.Test.YtmbgeeiidpllcaaDoorCards
import Derived.Test.YtmbgeeiidpllcaaDoorTie
import Derived.Deep.DeepHandedRow
import Derived.Lib.LaidTab
import Derived.Test.YtmbgeeiidpllcaaDoorLib
import Derived.ShutString
import Derived.ChangeOld
import Derived.Below
import Derived.Lib.SmallJoins
namespace Go.Proofs.YtmbgeeiidpllcaaDoor
set_option linter.unusedSimpArgs false

theorem stopAt_all {p : Nat → Bool} {N : Nat} (h : ∀ j, j < N → p j = true) : ∀ (d i : Nat), N - i = d → i ≤ N → stopAt p N i = N
  | 0, i, hd, hi => by
    rw [stopAt_end (by omega)]
    omega
  | d + 1, i, hd, hi => by
    rw [stopAt_step (by omega) (h i (by omega))]
    exact stopAt_all h d (i + 1) (by omega) (by omega)
theorem win_in (same : Nat → Nat → Bool) {n p g : Nat} (m : Nat) (hpg : p + g ≤ n) : plF same p - 1 ≤ p ∧ p + g ≤ min n (n + 1 - plT same n p g m) ∧ min n (n + 1 - plT same n p g m) ≤ n := by
  have h1 := plF_le same p
  have h2 := plT_le same n p g m
  omega
theorem win_lo {same : Nat → Nat → Bool} {p i : Nat} (h0 : 0 < i) (h : i ≤ plF same p - 1) : same i i = true :=
  (stopAt_spec (fun j => same j j) (p + 1) _ 0 rfl (Nat.zero_le _)).2.2 i (Nat.zero_le _) (by unfold plF at h; omega)
theorem win_hi {same : Nat → Nat → Bool} {n p g m i : Nat} (hi : i < n) (h : min n (n + 1 - plT same n p g m) ≤ i) : same i (i + m - g) = true := by
  have h2 := plT_le same n p g m
  have := (stopAt_spec (plB same n g m) (n + 1 - (p + g)) _ 0 rfl (Nat.zero_le _)).2.2 (n - i) (Nat.zero_le _) (by unfold plT at h h2; omega)
  unfold plB at this
  rw [show n - (n - i) = i by omega] at this
  exact this
theorem win_none {same : Nat → Nat → Bool} {n p : Nat} (hs : ∀ i, same i i = true) (hp : p ≤ n) : plcV same n p 0 0 = .agg #[.int .i64 (p : Int), .int .i64 (p : Int)] := by
  have h1 : plF same p = p + 1 := stopAt_all (fun j _ => hs j) _ 0 rfl (Nat.zero_le _)
  have h2 : plT same n p 0 0 = n + 1 - p := stopAt_all (p := plB same n 0 0) (N := n + 1 - (p + 0)) (fun j _ => by unfold plB; simpa using hs _) _ 0 rfl (Nat.zero_le _)
  unfold plcV
  rw [h1, h2, show p + 1 - 1 = p by omega, show min n (n + 1 - (n + 1 - p)) = p by omega]
theorem sig_none {same : Nat → Nat → Bool} {n p : Nat} (hs : ∀ i, same i i = true) (hp : p ≤ n) : sgF same p = p ∧ n - sgT same n p 0 0 = p := by
  have h1 : sgF same p = p := stopAt_all (fun j _ => hs j) _ 0 rfl (Nat.zero_le _)
  have h2 : sgT same n p 0 0 = n - p := stopAt_all (p := sgB same n 0 0) (N := n - (p + 0)) (fun j _ => by unfold sgB; simpa using hs _) _ 0 rfl (Nat.zero_le _)
  exact ⟨h1, by omega⟩
theorem behind_none (xs : List Int) (p : Nat) : behind xs [] p 0 = xs := by
  unfold behind
  simp
theorem sameL_self (K : List Int) (i : Nat) : sameL K K i i = true := by simp [sameL]
theorem sameM_self (K : List Int) (i : Nat) : sameM K K i i = true := by simp [sameM]
/-- the three windows of an edit of nothing -/
theorem clusters_none {xs : List Int} {p : Nat} (hp : p ≤ xs.length) : clustersV xs [] p 0 = .agg #[.int .i64 (p : Int), .int .i64 (p : Int)] := by
  unfold clustersV
  rw [behind_none]
  exact win_none (fun i => sameM_self _ i) hp
theorem breaks_none {xs : List Int} {p : Nat} (hp : p ≤ xs.length) : breaksV xs [] p 0 = .agg #[.int .i64 (p : Int), .int .i64 (p : Int)] := by
  unfold breaksV
  rw [behind_none]
  exact win_none (fun i => sameL_self _ i) hp
theorem forms_none {xs : List Int} {p : Nat} (hp : p ≤ xs.length) : formsV xs [] p 0 = .agg #[.int .i64 (p : Int), .int .i64 (p : Int)] := by
  unfold formsV
  rw [behind_none]
  have h := sig_none (same := sameL (forms xs) (forms xs)) (fun i => sameL_self _ i) hp
  rw [h.1, List.length_nil, h.2]
/-- a window that holds the edit -/
def HoldsW (n p g : Nat) (v : Value) : Prop := ∃ F T : Nat, v = .agg #[.int .i64 (F : Int), .int .i64 (T : Int)] ∧ F ≤ p ∧ p + g ≤ T ∧ T ≤ n
theorem breaks_hold {xs ys : List Int} {p g : Nat} (h : p + g ≤ xs.length) : HoldsW xs.length p g (breaksV xs ys p g) := ⟨_, _, rfl, win_in _ _ h⟩
theorem forms_hold {xs ys : List Int} {p g : Nat} (h : p + g ≤ xs.length) : HoldsW xs.length p g (formsV xs ys p g) := by
  have h1 := sgF_le (sameL (forms xs) (forms (behind xs ys p g))) p
  have h2 := sgT_le (sameL (forms xs) (forms (behind xs ys p g))) xs.length p g ys.length
  exact ⟨_, _, rfl, h1, by omega, by omega⟩
/-- the window of clusters holds the edit, and outside of it boundaries are what they were -/
theorem clusters_hold {xs ys : List Int} {p g : Nat} (h : p + g ≤ xs.length) : ∃ F T : Nat, clustersV xs ys p g = .agg #[.int .i64 (F : Int), .int .i64 (T : Int)] ∧ F ≤ p ∧ p + g ≤ T ∧ T ≤ xs.length ∧
    (∀ i, 0 < i → i ≤ F → isN (ks (behind xs ys p g)) i = isN (ks xs) i) ∧ ∀ i, i < xs.length → T ≤ i → isN (ks (behind xs ys p g)) (i + ys.length - g) = isN (ks xs) i := by
  obtain ⟨h1, h2, h3⟩ := win_in (sameM (ks xs) (ks (behind xs ys p g))) ys.length h
  refine ⟨_, _, rfl, h1, h2, h3, fun i h0 hi => ?_, fun i hn hi => ?_⟩
  · have := win_lo h0 hi
    unfold sameM at this
    exact (beq_iff_eq.1 this).symm
  · have := win_hi hn hi
    unfold sameM at this
    exact (beq_iff_eq.1 this).symm
end Go.Proofs.YtmbgeeiidpllcaaDoor
/- Chapter 52: the law DirtyHolds: windows hold the edit; outside of them clusters are unchanged; an edit of nothing leaves windows of nothing. -/
namespace Go.Proofs.YtmbgeeiidpllcaaDoor
open Go.ChangeShapes Go.WideShapes Go.ChangeAt Go.RowKit
set_option maxRecDepth 100000
set_option linter.unusedSimpArgs false

theorem editSize52 : (Tryd.prog.info? 24).map (·.size) = some 4 := by kernel_rfl
theorem four_all52 (a b x : Int) (D : Option Addr) (m d : Nat) : (#[Value.int .i64 a, Value.int .i64 b, Value.slice D m d, Value.int .i64 x] : Array Value).all (·.oneCell') = true := by simp [Value.oneCell']
set_option maxHeartbeats 2000000 in
theorem holds_any (F T n p g : Nat) (hF : F ≤ p) (hT : p + g ≤ T) (hTn : T ≤ n) (hn : n ≤ 1000) (D : Option Addr) (m d : Nat) (st : Int) (w : World) :
    Calls Tryd.prog 10 #[.agg #[.int .i64 (F : Int), .int .i64 (T : Int)], .int .i64 (n : Int), .agg #[.int .i64 (p : Int), .int .i64 (g : Int), .slice D m d, .int .i64 st]] w fun e w' => e = .returned (.bool true) ∧ Below w.heap.size w w' := by
  have W2 : Shut (Below w.heap.size w ((w.alloc (.cells #[.int .i64 (F : Int), .int .i64 (T : Int)] 27)).alloc (.cells #[.int .i64 (p : Int), .int .i64 (g : Int), .slice D m d, .int .i64 st] 24))) := ⟨(below_alloc w _).alloc (by simp) _⟩
  have q1 := (Two.newN w 27 (.int .i64 (F : Int)) (.int .i64 (T : Int)) _ rfl).alloc (.cells #[.int .i64 (p : Int), .int .i64 (g : Int), .slice D m d, .int .i64 st] 24)
  have q2 := Four.new (w.alloc (.cells #[.int .i64 (F : Int), .int .i64 (T : Int)] 27)) 24 (.int .i64 (p : Int)) (.int .i64 (g : Int)) (.slice D m d) (.int .i64 st) (w.heap.size + 1) (by simp)
  have a0 := q1.c0
  have a1 := q1.c1
  have b0 := q2.c0
  have b1 := q2.c1
  have i1 : (0 : Int) ≤ (F : Int) := by omega
  have i2 : (F : Int) ≤ (p : Int) := by omega
  have i3 : (p : Int) + (g : Int) ≤ (T : Int) := by omega
  have i4 : (T : Int) ≤ (n : Int) := by omega
  have hp : p ≤ 1000 := by omega
  have hg : g ≤ 1000 := by omega
  clear q1 q2 hF hT hTn hn
  go_enter Tryd.func10, Tryd.ntmps10
  go_wp2_with fail
  go_ret
  exact ⟨rfl, W2.out⟩

set_option maxHeartbeats 8000000 in
theorem holdsMain_any (A : Option Addr) (n c : Nat) (xs : List Int) (p g : Nat) (D : Option Addr) (m d : Nat) (ys : List Int) (st : Int) (w : World) (hx : SliceIn .i32 w A n c xs) (hy : SliceIn .i32 w D m d ys) (hl : Laid w) (hn : n ≤ 40) (hm : m ≤ 20) (hf : fitsB n m p g = true) :
    Calls Tryd.prog 4 #[.slice A n c, .agg #[.int .i64 (p : Int), .int .i64 (g : Int), .slice D m d, .int .i64 st]] w fun e w' => e = .returned (.bool true) ∧ Below w.heap.size w w' := by
  have hpg : p + g ≤ n := by unfold fitsB at hf; simp at hf; omega
  have hlen : xs.length = n := hx.at_.len
  have hym : ys.length = m := hy.at_.len
  have LG : Shut (∀ W, _) := ⟨fun W => long52_any A n c p g D m d st W⟩
  rw [show (decide (40 < n) || decide (20 < m)) = false by simp; omega] at LG
  have FT : Shut (∀ W, _) := ⟨fun W => rfits_any A n c (by omega) (p : Int) (g : Int) D m d st (by omega) W⟩
  rw [hf] at FT
  obtain ⟨F, T, eC, hF, hT, hTn, LO, HI⟩ := clusters_hold (xs := xs) (ys := ys) (p := p) (g := g) (by omega)
  obtain ⟨Fb, Tb, eB, hFb, hTb, hTbn⟩ := breaks_hold (xs := xs) (ys := ys) (p := p) (g := g) (by omega)
  obtain ⟨Ff, Tf, eF, hFf, hTf, hTfn⟩ := forms_hold (xs := xs) (ys := ys) (p := p) (g := g) (by omega)
  rw [hlen] at hTn hTbn hTfn HI
  rw [hym] at HI
  have LO : Shut _ := ⟨LO⟩
  have HI : Shut _ := ⟨HI⟩
  have C1 : Shut (∀ W, Below w.heap.size w W → Calls Tryd.prog 9 #[.slice A n c, .agg #[.int .i64 (p : Int), .int .i64 (g : Int), .slice D m d, .int .i64 st]] W fun e w' => e = .returned (.agg #[.int .i64 (F : Int), .int .i64 (T : Int)]) ∧ Below W.heap.size W w') := ⟨fun W hW => by rw [← eC]; exact pclusters_any A n c xs p g D m d st ys W (hx.pass hW) (hy.pass hW) (hl.pass hW) (by omega) (by omega) hf⟩
  have C2 : Shut (∀ W, Below w.heap.size w W → Calls Tryd.prog 6 #[.slice A n c, .agg #[.int .i64 (p : Int), .int .i64 (g : Int), .slice D m d, .int .i64 st]] W fun e w' => e = .returned (.agg #[.int .i64 (Fb : Int), .int .i64 (Tb : Int)]) ∧ Below W.heap.size W w') := ⟨fun W hW => by rw [← eB]; exact pbreaks_any A n c xs p g D m d st ys W (hx.pass hW) (hy.pass hW) (hl.pass hW) (by omega) (by omega) hf⟩
  have C3 : Shut (∀ W, Below w.heap.size w W → Calls Tryd.prog 11 #[.slice A n c, .agg #[.int .i64 (p : Int), .int .i64 (g : Int), .slice D m d, .int .i64 st]] W fun e w' => e = .returned (.agg #[.int .i64 (Ff : Int), .int .i64 (Tf : Int)]) ∧ Below W.heap.size W w') := ⟨fun W hW => by rw [← eF]; exact pforms_any A n c xs p g D m d st ys W (hx.pass hW) (hy.pass hW) (hl.pass hW) (by omega) (by omega) hf⟩
  have hf0 : fitsB n 0 (p : Int) ((0 : Nat) : Int) = true := by unfold fitsB; simp; omega
  have N1 : Shut (∀ W, Below w.heap.size w W → Calls Tryd.prog 9 #[.slice A n c, .agg #[.int .i64 (p : Int), .int .i64 0, .slice none 0 0, .int .i64 0]] W fun e w' => e = .returned (.agg #[.int .i64 (p : Int), .int .i64 (p : Int)]) ∧ Below W.heap.size W w') := ⟨fun W hW => by rw [← clusters_none (xs := xs) (by omega)]; exact pclusters_any A n c xs p 0 none 0 0 0 [] W (hx.pass hW) (sliceIn_of_nil _ _) (hl.pass hW) (by omega) (by omega) hf0⟩
  have N2 : Shut (∀ W, Below w.heap.size w W → Calls Tryd.prog 6 #[.slice A n c, .agg #[.int .i64 (p : Int), .int .i64 0, .slice none 0 0, .int .i64 0]] W fun e w' => e = .returned (.agg #[.int .i64 (p : Int), .int .i64 (p : Int)]) ∧ Below W.heap.size W w') := ⟨fun W hW => by rw [← breaks_none (xs := xs) (by omega)]; exact pbreaks_any A n c xs p 0 none 0 0 0 [] W (hx.pass hW) (sliceIn_of_nil _ _) (hl.pass hW) (by omega) (by omega) hf0⟩
  have N3 : Shut (∀ W, Below w.heap.size w W → Calls Tryd.prog 11 #[.slice A n c, .agg #[.int .i64 (p : Int), .int .i64 0, .slice none 0 0, .int .i64 0]] W fun e w' => e = .returned (.agg #[.int .i64 (p : Int), .int .i64 (p : Int)]) ∧ Below W.heap.size W w') := ⟨fun W hW => by rw [← forms_none (xs := xs) (by omega)]; exact pforms_any A n c xs p 0 none 0 0 0 [] W (hx.pass hW) (sliceIn_of_nil _ _) (hl.pass hW) (by omega) (by omega) hf0⟩
  have H1 : Shut (∀ W, _) := ⟨fun W => holds_any F T n p g hF hT hTn (by omega) D m d st W⟩
  have H2 : Shut (∀ W, _) := ⟨fun W => holds_any Fb Tb n p g hFb hTb hTbn (by omega) D m d st W⟩
  have H3 : Shut (∀ W, _) := ⟨fun W => holds_any Ff Tf n p g hFf hTf hTfn (by omega) D m d st W⟩
  have BH : Shut (∀ W, Below w.heap.size w W → _) := ⟨fun W hW => rbehind_any A n c xs p g hpg D m d st ys W (hx.pass hW) (hy.pass hW) (by omega)⟩
  obtain ⟨nb, hnb⟩ : ∃ nb, n - g + m = nb := ⟨_, rfl⟩
  rw [hnb] at BH
  have I1 : Shut (∀ (k : Nat) W, Below w.heap.size w W → _) := ⟨fun k W hW => pisn_any A n c xs k W (hx.pass hW) (hl.pass hW) (by omega)⟩
  have I2 : Shut (∀ (k : Nat) (A2 : Option Addr) (c2 : Nat) (W : World), Below w.heap.size w W → SliceIn .i32 W A2 nb c2 (behind xs ys p g) → _) := ⟨fun k A2 c2 W hW h2 => pisn_any A2 nb c2 (behind xs ys p g) k W h2 (hl.pass hW) (by omega)⟩
  generalize behind xs ys p g = bs at *
  clear hx hy hl hlen hym eC eB eF hFb hTb hTbn hFf hTf hTfn hf hf0
  go_enter Tryd.func4, Tryd.ntmps4
  go_wp2_with fail
  refine (LG.out _).mono ?_
  rintro e w1 ⟨rfl, b1⟩
  have Q1 := (Four.new w 24 (.int .i64 (p : Int)) (.int .i64 (g : Int)) (.slice D m d) (.int .i64 st) _ rfl).pass b1 (by simp)
  have B1 : Shut (Below w.heap.size w w1) := ⟨(below_alloc w _).trans (b1.mono (by simp))⟩
  have d0 := Q1.c0
  have d1 := Q1.c1
  have d2 := Q1.c2
  have d3 := Q1.c3
  clear b1
  go_wp2_with fail
  refine (FT.out _).mono ?_
  rintro e w2 ⟨rfl, b2⟩
  have Q2 := Q1.pass b2 Q1.lt
  have B2 : Shut (Below w.heap.size w w2) := ⟨B1.out.trans (b2.mono B1.out.size)⟩
  clear b2 d0 d1 d2 d3 Q1 LG FT B1
  have d0 := Q2.c0
  have d1 := Q2.c1
  have d2 := Q2.c2
  have d3 := Q2.c3
  go_wp2_with fail
  refine (C1.out _ B2.out).mono ?_
  rintro e w3 ⟨rfl, b3⟩
  have Q3 := Q2.pass b3 Q2.lt
  have B3 : Shut (Below w.heap.size w w3) := ⟨B2.out.trans (b3.mono B2.out.size)⟩
  clear b3 d0 d1 d2 d3 Q2 B2 C1
  have RA : Two (w3.alloc (.cells #[.int .i64 0, .int .i64 0] 27)) w3.heap.size 27 (.int .i64 0) (.int .i64 0) := Two.newN _ _ _ _ _ rfl
  obtain ⟨w4, hw4⟩ : ∃ w4, w4 = (w3.alloc (.cells #[.int .i64 0, .int .i64 0] 27)).setRow w3.heap.size #[.int .i64 (F : Int), .int .i64 (T : Int)] := ⟨_, rfl⟩
  have X4 : Below w3.heap.size w3 w4 := by rw [hw4]; exact below_setRow (below_alloc w3 _) (Nat.le_refl _) _
  have P4 : Shut (Two w4 w3.heap.size 27 (.int .i64 (F : Int)) (.int .i64 (T : Int))) := ⟨by rw [hw4]; exact setRow_heap _ _ _ _ _ _ RA⟩
  have Q4 : Shut (Four w4 w.heap.size 24 (.int .i64 (p : Int)) (.int .i64 (g : Int)) (.slice D m d) (.int .i64 st)) := ⟨Q3.pass X4 Q3.lt⟩
  have B4 : Shut (Below w.heap.size w w4) := ⟨B3.out.trans (X4.mono B3.out.size)⟩
  clear X4 Q3
  go_wp2_with (refine wpList_store_row rfl 27 (.tmp 6) (.tmp 25) rfl w3.heap.size _ rfl rfl 27 _ RA cutSize52 (by rfl) (two_all52 _ _) ?_; rw [← hw4]; clear hw4 RA)
  simp only [Act.put]
  have d0 := later_cell Q4.out.c0
  have d1 := later_cell Q4.out.c1
  have d2 := later_cell Q4.out.c2
  have d3 := later_cell Q4.out.c3
  have e0 := later_cell P4.out.c0
  have e1 := later_cell P4.out.c1
  have K1 := Lib.hid (fun N : Later w4 => H1.out N.1)
  have K2 := Lib.hid (fun N : Later w4 => C2.out N.1 (B4.out.trans (N.2.mono B4.out.size)))
  have K3 := Lib.hid (fun N : Later w4 => H2.out N.1)
  have K4 := Lib.hid (fun N : Later w4 => C3.out N.1 (B4.out.trans (N.2.mono B4.out.size)))
  have K5 := Lib.hid (fun N : Later w4 => H3.out N.1)
  refine wp_region_later (by kernel_rfl) (by kernel_rfl) ?_
  repeat (go_big_quiet_step ((first | (go_at_call 10; first | with_reducible exact quiet_later (K1.out _) | with_reducible exact quiet_later (K3.out _) | with_reducible exact quiet_later (K5.out _)) | (go_at_call 6; with_reducible exact quiet_later (K2.out _)) | (go_at_call 11; with_reducible exact quiet_later (K4.out _)))))
  refine wpQuiet_nil ?_
  intro _ hw'
  obtain ⟨nq, hw''⟩ := hw'
  subst hw''
  obtain ⟨w5, hw5⟩ : ∃ w5, w5 = nq.1 := ⟨_, rfl⟩
  have b5 := nq.2
  rw [← hw5] at b5 ⊢
  clear hw5 nq
  have Q5 : Shut _ := ⟨Q4.out.pass b5 Q4.out.lt⟩
  have P5 : Shut _ := ⟨P4.out.pass b5 P4.out.lt⟩
  have B5 : Shut (Below w.heap.size w w5) := ⟨B4.out.trans (b5.mono B4.out.size)⟩
  clear d0 d1 d2 d3 e0 e1 K1 K2 K3 K4 K5 Q4 P4 B4 b5 C2 C3 H1 H2 H3
  have d0 := Q5.out.c0
  have d1 := Q5.out.c1
  have d2 := Q5.out.c2
  have d3 := Q5.out.c3
  go_wp2_with fail
  refine (BH.out _ B5.out).mono ?_
  rintro e w6 ⟨A3, c3, rfl, o6, b6⟩
  have O6 : Shut _ := ⟨o6⟩
  have Q6 : Shut _ := ⟨Q5.out.pass b6 Q5.out.lt⟩
  have P6 : Shut _ := ⟨P5.out.pass b6 P5.out.lt⟩
  have B6 : Shut (Below w.heap.size w w6) := ⟨B5.out.trans (b6.mono B5.out.size)⟩
  clear d0 d1 d2 d3 o6 b6 Q5 P5 B5 BH
  have d1 := Q6.out.c1
  have d2 := Q6.out.c2
  go_wp2_with fail
  go_loopg [9] (n + 1) (fun gg v wr => ∃ i : Nat, n - i < gg ∧ 1 ≤ i ∧ v = .int .i64 (i : Int) ∧ Shut (Below w6.heap.size w6 wr))
  case atStart => exact ⟨1, by omega, by omega, rfl, ⟨Below.refl _ _⟩⟩
  case round =>
    obtain ⟨i, hg, hi1, rfl, R⟩ := hrel
    clear d1 d2
    have p6 := P6.out.pass R.out P6.out.lt
    have e0 := p6.c0
    have e1 := p6.c1
    have BW : Shut (Below w.heap.size w wr) := ⟨B6.out.trans (R.out.mono B6.out.size)⟩
    by_cases hlt : i < n
    · have j1 : (i : Int) < (n : Int) := by omega
      have Rwr : Shut (Below w6.heap.size w6 wr) := R
      have BWwr : Shut (Below w.heap.size w wr) := BW
      clear p6
      obtain ⟨x, hx⟩ : ∃ x, isN (ks xs) i = x := ⟨_, rfl⟩
      have I1i : Shut _ := ⟨fun W hW => I1.out i W hW⟩
      rcases Nat.lt_or_ge F i with hFi | hFi
      · rcases Nat.lt_or_ge i T with hTi | hTi
        · have h1 : decide ((i : Int) ≤ (F : Int)) = false := by simp; omega
          have h1b : decide (i ≤ F) = false := by simp; omega
          have h2 : decide ((T : Int) ≤ (i : Int)) = false := by simp; omega
          have h2b : decide (T ≤ i) = false := by simp; omega
          go_wp2_with fail
          go_roundg (n - i)
          case measure => omega
          case rel => exact ⟨i + 1, by omega, by omega, by go_num, Rwr⟩
        · have h1 : decide ((i : Int) ≤ (F : Int)) = false := by simp; omega
          have h1b : decide (i ≤ F) = false := by simp; omega
          have h2 : (T : Int) ≤ (i : Int) := by omega
          obtain ⟨k, hk⟩ : ∃ k, i + m - g = k := ⟨_, rfl⟩
          have EH : isN (ks bs) k = isN (ks xs) i := by rw [← hk]; exact HI.out i hlt (by omega)
          have e2 : (i : Int) + ((m : Int) - (g : Int)) = (k : Int) := by omega
          have hkk : k ≤ 1000 := by omega
          clear hk
          go_wp2_with fail
          refine (I1.out i wr BWwr.out).mono ?_
          rintro e u1 ⟨rfl, bx⟩
          have Ru1 : Shut (Below w6.heap.size w6 u1) := ⟨Rwr.out.trans (bx.mono Rwr.out.size)⟩
          have BWu1 : Shut (Below w.heap.size w u1) := ⟨B6.out.trans (Ru1.out.mono B6.out.size)⟩
          have pu1 := P6.out.pass Ru1.out P6.out.lt
          have e0u1 := pu1.c0
          have e1u1 := pu1.c1
          clear bx pu1
          rw [hx]
          go_wp2_with fail
          refine (I2.out k A3 c3 u1 BWu1.out (O6.out.pass Ru1.out)).mono ?_
          rintro e u2 ⟨rfl, bx⟩
          have Ru2 : Shut (Below w6.heap.size w6 u2) := ⟨Ru1.out.trans (bx.mono Ru1.out.size)⟩
          have BWu2 : Shut (Below w.heap.size w u2) := ⟨B6.out.trans (Ru2.out.mono B6.out.size)⟩
          have pu2 := P6.out.pass Ru2.out P6.out.lt
          have e0u2 := pu2.c0
          have e1u2 := pu2.c1
          clear bx pu2
          rw [EH]
          rw [hx]
          cases x with
          | true =>
            go_wp2_with fail
            go_roundg (n - i)
            case measure => omega
            case rel => exact ⟨i + 1, by omega, by omega, by go_num, Ru2⟩
          | false =>
            go_wp2_with fail
            go_roundg (n - i)
            case measure => omega
            case rel => exact ⟨i + 1, by omega, by omega, by go_num, Ru2⟩
      · rcases Nat.lt_or_ge i T with hTi | hTi
        · have h1 : (i : Int) ≤ (F : Int) := by omega
          have EL : isN (ks bs) i = isN (ks xs) i := LO.out i (by omega) (by omega)
          have h2 : decide ((T : Int) ≤ (i : Int)) = false := by simp; omega
          have h2b : decide (T ≤ i) = false := by simp; omega
          go_wp2_with fail
          refine (I1.out i wr BWwr.out).mono ?_
          rintro e u1 ⟨rfl, bx⟩
          have Ru1 : Shut (Below w6.heap.size w6 u1) := ⟨Rwr.out.trans (bx.mono Rwr.out.size)⟩
          have BWu1 : Shut (Below w.heap.size w u1) := ⟨B6.out.trans (Ru1.out.mono B6.out.size)⟩
          have pu1 := P6.out.pass Ru1.out P6.out.lt
          have e0u1 := pu1.c0
          have e1u1 := pu1.c1
          clear bx pu1
          rw [hx]
          go_wp2_with fail
          refine (I2.out i A3 c3 u1 BWu1.out (O6.out.pass Ru1.out)).mono ?_
          rintro e u2 ⟨rfl, bx⟩
          have Ru2 : Shut (Below w6.heap.size w6 u2) := ⟨Ru1.out.trans (bx.mono Ru1.out.size)⟩
          have BWu2 : Shut (Below w.heap.size w u2) := ⟨B6.out.trans (Ru2.out.mono B6.out.size)⟩
          have pu2 := P6.out.pass Ru2.out P6.out.lt
          have e0u2 := pu2.c0
          have e1u2 := pu2.c1
          clear bx pu2
          rw [EL]
          rw [hx]
          cases x with
          | true =>
            go_wp2_with fail
            go_roundg (n - i)
            case measure => omega
            case rel => exact ⟨i + 1, by omega, by omega, by go_num, Ru2⟩
          | false =>
            go_wp2_with fail
            go_roundg (n - i)
            case measure => omega
            case rel => exact ⟨i + 1, by omega, by omega, by go_num, Ru2⟩
        · have h1 : (i : Int) ≤ (F : Int) := by omega
          have EL : isN (ks bs) i = isN (ks xs) i := LO.out i (by omega) (by omega)
          have h2 : (T : Int) ≤ (i : Int) := by omega
          obtain ⟨k, hk⟩ : ∃ k, i + m - g = k := ⟨_, rfl⟩
          have EH : isN (ks bs) k = isN (ks xs) i := by rw [← hk]; exact HI.out i hlt (by omega)
          have e2 : (i : Int) + ((m : Int) - (g : Int)) = (k : Int) := by omega
          have hkk : k ≤ 1000 := by omega
          clear hk
          go_wp2_with fail
          refine (I1.out i wr BWwr.out).mono ?_
          rintro e u1 ⟨rfl, bx⟩
          have Ru1 : Shut (Below w6.heap.size w6 u1) := ⟨Rwr.out.trans (bx.mono Rwr.out.size)⟩
          have BWu1 : Shut (Below w.heap.size w u1) := ⟨B6.out.trans (Ru1.out.mono B6.out.size)⟩
          have pu1 := P6.out.pass Ru1.out P6.out.lt
          have e0u1 := pu1.c0
          have e1u1 := pu1.c1
          clear bx pu1
          rw [hx]
          go_wp2_with fail
          refine (I2.out i A3 c3 u1 BWu1.out (O6.out.pass Ru1.out)).mono ?_
          rintro e u2 ⟨rfl, bx⟩
          have Ru2 : Shut (Below w6.heap.size w6 u2) := ⟨Ru1.out.trans (bx.mono Ru1.out.size)⟩
          have BWu2 : Shut (Below w.heap.size w u2) := ⟨B6.out.trans (Ru2.out.mono B6.out.size)⟩
          have pu2 := P6.out.pass Ru2.out P6.out.lt
          have e0u2 := pu2.c0
          have e1u2 := pu2.c1
          clear bx pu2
          rw [EL]
          rw [hx]
          go_wp2_with fail
          refine (I1.out i u2 BWu2.out).mono ?_
          rintro e u3 ⟨rfl, bx⟩
          have Ru3 : Shut (Below w6.heap.size w6 u3) := ⟨Ru2.out.trans (bx.mono Ru2.out.size)⟩
          have BWu3 : Shut (Below w.heap.size w u3) := ⟨B6.out.trans (Ru3.out.mono B6.out.size)⟩
          have pu3 := P6.out.pass Ru3.out P6.out.lt
          have e0u3 := pu3.c0
          have e1u3 := pu3.c1
          clear bx pu3
          rw [hx]
          go_wp2_with fail
          refine (I2.out k A3 c3 u3 BWu3.out (O6.out.pass Ru3.out)).mono ?_
          rintro e u4 ⟨rfl, bx⟩
          have Ru4 : Shut (Below w6.heap.size w6 u4) := ⟨Ru3.out.trans (bx.mono Ru3.out.size)⟩
          have BWu4 : Shut (Below w.heap.size w u4) := ⟨B6.out.trans (Ru4.out.mono B6.out.size)⟩
          have pu4 := P6.out.pass Ru4.out P6.out.lt
          have e0u4 := pu4.c0
          have e1u4 := pu4.c1
          clear bx pu4
          rw [EH]
          rw [hx]
          cases x with
          | true =>
            go_wp2_with fail
            go_roundg (n - i)
            case measure => omega
            case rel => exact ⟨i + 1, by omega, by omega, by go_num, Ru4⟩
          | false =>
            go_wp2_with fail
            go_roundg (n - i)
            case measure => omega
            case rel => exact ⟨i + 1, by omega, by omega, by go_num, Ru4⟩
    · have j1 : decide ((i : Int) < (n : Int)) = false := by simp; omega
      have j2 : decide (i < n) = false := by simp; omega
      have q6 := Q6.out.pass R.out Q6.out.lt
      have d0 := q6.c0
      clear p6 e0 e1 hlt I1 I2 LO HI
      have RA : Four (wr.alloc (.cells #[.int .i64 0, .int .i64 0, .slice none 0 0, .int .i64 0] 24)) wr.heap.size 24 (.int .i64 0) (.int .i64 0) (.slice none 0 0) (.int .i64 0) := Four.new _ _ _ _ _ _ _ rfl
      obtain ⟨w7, hw7⟩ : ∃ w7, w7 = (wr.alloc (.cells #[.int .i64 0, .int .i64 0, .slice none 0 0, .int .i64 0] 24)).setRow wr.heap.size #[.int .i64 (p : Int), .int .i64 0, .slice none 0 0, .int .i64 0] := ⟨_, rfl⟩
      have X7 : Below wr.heap.size wr w7 := by rw [hw7]; exact below_setRow (below_alloc wr _) (Nat.le_refl _) _
      have Q7 : Shut (Four w7 wr.heap.size 24 (.int .i64 (p : Int)) (.int .i64 0) (.slice none 0 0) (.int .i64 0)) := ⟨by rw [hw7]; exact setRow_heap _ _ _ _ _ _ RA⟩
      have E7 := q6.pass X7 q6.lt
      have d7 := E7.c0
      have B7 : Shut (Below w.heap.size w w7) := ⟨BW.out.trans (X7.mono BW.out.size)⟩
      clear X7 q6 E7 BW
      have RB : Two (w7.alloc (.cells #[.int .i64 0, .int .i64 0] 27)) w7.heap.size 27 (.int .i64 0) (.int .i64 0) := Two.newN _ _ _ _ _ rfl
      obtain ⟨w8, hw8⟩ : ∃ w8, w8 = (w7.alloc (.cells #[.int .i64 0, .int .i64 0] 27)).setRow w7.heap.size #[.int .i64 (p : Int), .int .i64 (p : Int)] := ⟨_, rfl⟩
      have X8 : Below w7.heap.size w7 w8 := by rw [hw8]; exact below_setRow (below_alloc w7 _) (Nat.le_refl _) _
      have P8 : Shut (Two w8 w7.heap.size 27 (.int .i64 (p : Int)) (.int .i64 (p : Int))) := ⟨by rw [hw8]; exact setRow_heap _ _ _ _ _ _ RB⟩
      have Q8 : Shut _ := ⟨Q7.out.pass X8 Q7.out.lt⟩
      have B8 : Shut (Below w.heap.size w w8) := ⟨B7.out.trans (X8.mono B7.out.size)⟩
      clear X8 B7 Q7
      go_wp2_with (first
        | (refine wpList_store_row rfl 24 (.tmp 10) (.tmp 95) rfl wr.heap.size _ rfl rfl 24 _ RA editSize52 (by rfl) (four_all52 _ _ _ _ _ _) ?_; rw [← hw7]; clear hw7 RA)
        | (refine wpList_store_row rfl 27 (.tmp 11) (.tmp 100) rfl w7.heap.size _ rfl rfl 27 _ RB cutSize52 (by rfl) (two_all52 _ _) ?_; rw [← hw8]; clear hw8 RB))
      simp only [Act.put]
      clear d0 d7
      have d0 := later_cell Q8.out.c0
      have d1 := later_cell Q8.out.c1
      have d2 := later_cell Q8.out.c2
      have d3 := later_cell Q8.out.c3
      have e0 := later_cell P8.out.c0
      have e1 := later_cell P8.out.c1
      have K1 := Lib.hid (fun N : Later w8 => N1.out N.1 (B8.out.trans (N.2.mono B8.out.size)))
      have K2 := Lib.hid (fun N : Later w8 => N2.out N.1 (B8.out.trans (N.2.mono B8.out.size)))
      have K3 := Lib.hid (fun N : Later w8 => N3.out N.1 (B8.out.trans (N.2.mono B8.out.size)))
      clear N1 N2 N3
      refine wp_region_later (by kernel_rfl) (by kernel_rfl) ?_
      repeat (go_big_quiet_step ((first | (go_at_call 9; with_reducible exact quiet_later (K1.out _)) | (go_at_call 6; with_reducible exact quiet_later (K2.out _)) | (go_at_call 11; with_reducible exact quiet_later (K3.out _)))))
      refine wpQuiet_nil ?_
      intro _ hw'
      obtain ⟨nq, hw''⟩ := hw'
      subst hw''
      go_wp2_with fail
      go_ret
      exact ⟨retb (by simp), B8.out.trans (nq.2.mono B8.out.size)⟩

set_option maxHeartbeats 4000000 in
theorem DirtyHolds_walk (A : Option Addr) (n c : Nat) (xs : List Int) (p : Int) (_ : (Lit.int .i64 p).wf = true) (g : Int) (_ : (Lit.int .i64 g).wf = true) (D : Option Addr) (m d : Nat) (ys : List Int) (st : Int) (_ : (Lit.int .i64 st).wf = true) (w : World)
    (hx : SliceIn .i32 w A n c xs) (hy : SliceIn .i32 w D m d ys) (hl : Laid w) :
    Calls Tryd.prog 4 #[.slice A n c, .agg #[.int .i64 p, .int .i64 g, .slice D m d, .int .i64 st]] w fun e w' => e = .returned (.bool true) ∧ Below w.heap.size w w' := by
  have LG : Shut (∀ W, _) := ⟨fun W => long52_any A n c p g D m d st W⟩
  cases hlong : (decide (40 < n) || decide (20 < m)) with
  | true =>
    rw [hlong] at LG
    clear hlong hx hy hl
    go_enter Tryd.func4, Tryd.ntmps4
    go_wp2_with fail
    refine (LG.out _).mono ?_
    rintro e w1 ⟨rfl, b1⟩
    go_wp2_with fail
    go_ret
    exact ⟨rfl, (below_alloc w _).trans (b1.mono (by simp))⟩
  | false =>
    rw [hlong] at LG
    simp only [Bool.or_eq_false_iff, decide_eq_false_iff_not] at hlong
    cases hf : fitsB n m p g with
    | true =>
      have h0 : 0 ≤ p ∧ 0 ≤ g := by unfold fitsB at hf; simp at hf; omega
      obtain ⟨p, rfl⟩ := Int.eq_ofNat_of_zero_le h0.1
      obtain ⟨g, rfl⟩ := Int.eq_ofNat_of_zero_le h0.2
      exact holdsMain_any A n c xs p g D m d ys st w hx hy hl (by omega) (by omega) hf
    | false =>
      have FT : Shut (∀ W, _) := ⟨fun W => rfits_any A n c (by omega) p g D m d st (by omega) W⟩
      rw [hf] at FT
      clear hlong hx hy hl hf
      go_enter Tryd.func4, Tryd.ntmps4
      go_wp2_with fail
      refine (LG.out _).mono ?_
      rintro e w1 ⟨rfl, b1⟩
      have Q1 := (Four.new w 24 (.int .i64 p) (.int .i64 g) (.slice D m d) (.int .i64 st) _ rfl).pass b1 (by simp)
      have B1 : Shut (Below w.heap.size w w1) := ⟨(below_alloc w _).trans (b1.mono (by simp))⟩
      have d0 := Q1.c0
      have d1 := Q1.c1
      have d2 := Q1.c2
      have d3 := Q1.c3
      clear b1
      go_wp2_with fail
      refine (FT.out _).mono ?_
      rintro e w2 ⟨rfl, b2⟩
      have B2 : Shut (Below w.heap.size w w2) := ⟨B1.out.trans (b2.mono B1.out.size)⟩
      clear b2 d0 d1 d2 d3 Q1
      go_wp2_with fail
      go_ret
      exact ⟨rfl, B2.out⟩
end Go.Proofs.YtmbgeeiidpllcaaDoor
/- The frame of the proof of DirtyHolds: from the walk to the given statement and its tied card. -/
namespace Go.Proofs.YtmbgeeiidpllcaaDoor.dirtyHoldsDone
open Go.ChangeShapes Go.WideShapes Go.ChangeAt Go.RowKit
open Go.ChangeMaps (open_string shut_string)
set_option linter.unusedVariables false
set_option maxRecDepth 100000
theorem own : ownKnob Tryd.prog.godebug = none := by kernel_rfl
theorem laidOut : laidOutB Tryd.prog = true := by kernel_rfl
theorem gTab : Tryd.prog.globalNamed "typecase/props.lasts" = some 0 := by kernel_rfl
theorem gTabType : (Tryd.prog.globals[0]?).map (·.type) = some 70 := by kernel_rfl
theorem cellsT : Tryd.prog.cellsOf 70 = 13 := by kernel_rfl
theorem cellsE : Tryd.prog.cellsOf 21 = 1 := by kernel_rfl
/-- what the row's list gives -/
theorem table {W : World} (h : laidMetH Tryd.prog Rows.dirtyHoldsRow.laid W) : Laid W := by
  have ht : Lib.TabIs Tryd.prog W "typecase/props.lasts" .i32 lastsL := Lib.tabIs_of_head (rest := []) gTab gTabType Tryd.underlying70 Tryd.underlying21 cellsE cellsT h
  have hc : ∀ i, i < 13 → W.cell? ⟨0, i, none⟩ = some (.int .i32 (lastN i)) := fun i hi => ht.cell gTab i hi
  exact ⟨block_lt_of_cell (hc 0 (by omega)), hc⟩

theorem contract (H : Type) (enc : TypeId × Value → H) (W : World) (base : Nat) (args : Array Value) (ds gs : List (DataW H)) (before : List MemPlace)
    (hval : ∀ (j : Nat) t v, Tryd.f4.params[j]? = some t → args[j]? = some v → Value.okWide Tryd.prog W .any base t v)
    (hW : DataW.Whole enc Tryd.prog Tryd.f4.params.toList Rows.dirtyHoldsSpec.vars false W args.toList ds gs before) (hL : laidMetH Tryd.prog Rows.dirtyHoldsRow.laid W) :
    Calls Tryd.prog 4 args W fun e W' => ∃ v, e = .returned v ∧ Rows.dirtyHoldsSpec.post enc Tryd.prog Tryd.f4 false true false false W args v W' := by
  have hW' := hW
  obtain ⟨p, q, hA0, hV, rfl, hfz, hnd⟩ := hW
  have hA : DataW.TrodAll enc Tryd.prog W 0 (fun _ => true) true Tryd.f4.params.toList args.toList ds p := hA0
  rw [Tryd.params4] at hA hval
  obtain ⟨v0, vs0, d0, ds0, p0, q0, hargs, rfl, rfl, h0, r0⟩ := trodAll_cons hA
  obtain ⟨v1, vs1, d1, ds1, p1, q1, rfl, rfl, rfl, h1, r1⟩ := trodAll_cons r0
  obtain ⟨rfl, rfl, rfl⟩ := trodAll_nil r1
  obtain rfl : args = #[v0, v1] := Array.ext' hargs
  obtain ⟨rfl, rfl⟩ := trodVars_none hV
  obtain ⟨A0, n0, c0, rfl⟩ := okWide_slice Tryd.underlying22 (hval 0 22 v0 (by rfl) (by rfl))
  have k0 := h0
  have lt0 : ∀ x ∈ p0, x.block < W.heap.size := by obtain ⟨m, hm⟩ := k0; exact DataW.trod_lt m _ _ _ hm
  obtain ⟨x0, w0⟩ : ∃ xs, SliceIn .i32 W A0 n0 c0 xs := by
    obtain ⟨fuel, hf⟩ := h0
    rcases open_ints Tryd.underlying22 Tryd.underlying21 (by kernel_rfl) hf with ⟨hcs, _⟩ | ⟨x, l, c, zs, hcs, _, hl, hm, hz, hxx, hcell, hwz⟩
    · simp [Value.cells] at hcs
      obtain ⟨rfl, rfl, rfl⟩ := hcs
      exact ⟨[], sliceIn_of_nil _ _⟩
    · simp [Value.cells] at hcs
      obtain ⟨rfl, rfl, rfl⟩ := hcs
      exact ⟨_, sliceIn_of_row hl hm (by simpa using hz) hcell hwz⟩
  have k1 := h1
  have lt1 : ∀ x ∈ p1, x.block < W.heap.size := by obtain ⟨m, hm⟩ := k1; exact DataW.trod_lt m _ _ _ hm
  obtain ⟨ea1, eb1, ec1, es1, ya1, yb1, yc1, ys1, ne1, rfl, _, _, ta1, tb1, tc1, ts1⟩ := Joins.open_agg4 Tryd.underlying24 (by kernel_rfl) (by kernel_rfl) (hval 1 24 v1 (by rfl) (by rfl)) h1
  obtain ⟨a1, hza1, _, wa1⟩ := DataW.trod_int Tryd.underlying3 ta1
  obtain rfl : ea1 = .int .i64 a1 := by simpa using hza1
  obtain ⟨b1, hzb1, _, wb1⟩ := DataW.trod_int Tryd.underlying3 tb1
  obtain rfl : eb1 = .int .i64 b1 := by simpa using hzb1
  obtain ⟨s1, hzs1, _, ws1⟩ := DataW.trod_int Tryd.underlying3 ts1
  obtain rfl : es1 = .int .i64 s1 := by simpa using hzs1
  obtain ⟨A1, n1, c1, x1, hzc1, w1⟩ : ∃ A n c xs, ec1 = .slice A n c ∧ SliceIn .i32 W A n c xs := by
    rcases open_ints Tryd.underlying22 Tryd.underlying21 (by kernel_rfl) tc1 with ⟨hcs, _⟩ | ⟨x, l, c, zs, hcs, _, hl, hm, hz, _, hcell, hwz⟩
    · exact ⟨none, 0, 0, [], by simpa using hcs, sliceIn_of_nil _ _⟩
    · exact ⟨some x, l, c, _, by simpa using hcs, sliceIn_of_row hl hm (by simpa using hz) hcell hwz⟩
  subst hzc1
  refine (DirtyHolds_walk A0 n0 c0 x0 a1 wa1 b1 wb1 A1 n1 c1 x1 s1 ws1 W w0 w1 (table hL)).mono fun e W' ⟨he, bel⟩ => ?_
  subst he
  exact ⟨_, rfl, _, _, _, [], _, [], hW', trodAll_mk1 (shut_bool Tryd.underlying4 _), (trodAll_cons_mk (Below.trod laidOut (by kernel_rfl) (of_decide_eq_true (by kernel_rfl)) k0 bel lt0) (trodAll_cons_mk (Below.trod laidOut (by kernel_rfl) (of_decide_eq_true (by kernel_rfl)) k1 bel lt1) trodAll_mk0)), rfl, bel.frame _, fun h => by cases h⟩

noncomputable def laidWorld (os : Os) : World :=
  { World.holding Tryd.prog os ⟨#[], #[], []⟩ with heap := (World.holding Tryd.prog os ⟨#[], #[], []⟩).heap.modify 0 fun
      | .cells _ t frozen => .cells (lastsL.map (Value.int .i32)).toArray t frozen
      | o => o }
theorem laid_met (os : Os) : laidMet Tryd.prog Rows.dirtyHoldsRow.laid ((laidWorld os).forCall (fun _ _ => 0) ⟨#[], #[.slice none 0 0, .agg #[.int .i64 0, .int .i64 0, .slice none 0 0, .int .i64 0]], []⟩).memory :=
  laidMet_of_run' 8 (by kernel_rfl) (by kernel_rfl)
theorem reads (os : Os) {H : Type} (enc : TypeId × Value → H) : ∃ places, DataW.whole enc Tryd.prog ((laidWorld os).forCall (fun _ _ => 0) ⟨#[], #[.slice none 0 0, .agg #[.int .i64 0, .int .i64 0, .slice none 0 0, .int .i64 0]], []⟩).memory Tryd.f4.params.toList Rows.dirtyHoldsSpec.vars false #[.slice none 0 0, .agg #[.int .i64 0, .int .i64 0, .slice none 0 0, .int .i64 0]].toList 8 = some ([.nil, .agg [.lit (.int .i64 0), .lit (.int .i64 0), .nil, .lit (.int .i64 0)]], [], places) :=
  ⟨[], by kernel_rfl⟩
set_option maxRecDepth 100000 in
theorem lifted (os : Os) (started : os.Started) (H : Type) (enc : TypeId × Value → H) (F : Stop.Interp) :
    ReturnsInHanded {} Tryd.checked os 4 .any ((OpenSpec.ofChange Rows.dirtyHoldsSpec).preRow enc Tryd.prog Tryd.f4 Rows.dirtyHoldsRow.domain false Rows.dirtyHoldsRow.laid) (((OpenSpec.ofChange Rows.dirtyHoldsSpec).at F).post enc Tryd.prog Tryd.f4 false true false false) := by
  obtain ⟨places, hx⟩ := reads os enc
  refine returnsInHanded_of_row (C := Tryd.checked) (s := OpenSpec.ofChange Rows.dirtyHoldsSpec) own started (by kernel_rfl) Tryd.func4
    (witness_row_at (enc := enc) (C := Tryd.checked) false (laidWorld os) #[.slice none 0 0, .agg #[.int .i64 0, .int .i64 0, .slice none 0 0, .int .i64 0]] rfl (by kernel_rfl) (by kernel_rfl) (by kernel_rfl)
      (OpenSpec.preRow_of_cond 8 hx (by kernel_rfl) (fun k hk => by cases hk) (by kernel_rfl) (laid_met os))) ?_
  intro W base args ds gs before hval hW _ _ _ hL _ _
  exact contract H enc W base args ds gs before hval hW hL
theorem said : Rows.DirtyHoldsSaid :=
  OpenClaim.holds_of_cond 4 Tryd.f4 rfl rfl rfl rfl rfl rfl rfl ⟨rfl, rfl, rfl, rfl, rfl⟩ rfl rfl rfl rfl rfl (by kernel_rfl) Tryd.func4 (by kernel_rfl)
    (of_decide_eq_true (by kernel_rfl)) (by unfold Func.isWrapper; first | (rw [if_pos (by decide +kernel)]; kernel_rfl) | (rw [if_neg (by decide +kernel)]; exact ⟨rfl, rfl⟩))
    (fun os started H enc _ F => by rw [OpenClaim.pre_eq_preRow]; exact lifted os started H enc F)
theorem plain (f : FuncId) (fn : Func) (hf : Tryd.pinned.checked.prog.funcNamed "typecase/typecaselaw52.DirtyHolds" = some f) (hfn : Tryd.pinned.checked.prog.funcs[f]? = some fn) :
    false = Tryd.pinned.checked.prog.looks [] ∧ ∀ (j : Nat) t, fn.params[j]? = some t → Tryd.pinned.checked.prog.wantsStandIn t = false := by
  obtain rfl : f = 4 := Option.some.inj ((show Tryd.prog.funcNamed "typecase/typecaselaw52.DirtyHolds" = some 4 by kernel_rfl).symm.trans hf) |>.symm
  obtain rfl : fn = Tryd.f4 := (Option.some.inj (Tryd.func4.symm.trans hfn)).symm
  refine ⟨by kernel_rfl, fun j t ht => ?_⟩
  rw [Tryd.params4] at ht
  have ht := Array.mem_of_getElem? ht
  simp only [List.mem_toArray, List.mem_cons, List.not_mem_nil, or_false] at ht
  rcases ht with rfl | rfl
  · exact (show Tryd.prog.wantsStandIn 22 = false by kernel_rfl)
  · exact (show Tryd.prog.wantsStandIn 24 = false by kernel_rfl)
theorem card : Rows.DirtyHoldsCardSaid :=
  Claim7.holds_tied_plain_at .later [] _ _ _ _ said (fun _ h => by cases h) (by kernel_rfl) (fun _ h => by cases h) dirtyHolds_row_tie rfl ⟨rfl, rfl⟩ (by kernel_rfl) rfl plain (by kernel_rfl)
#print axioms card
end Go.Proofs.YtmbgeeiidpllcaaDoor.dirtyHoldsDone
