/- Chapter 10: matches of isolates, both ways. -/
import Derived.Test.YtanfcfppmpabpaaDoorBlaw
import Derived.Test.YtanfcfppmpabpaaDoorOwn2
import Derived.Test.YtanfcfppmpabpaaDoorOfs
import Derived.Deep.RegionLaw
namespace Go.Proofs.YtanfcfppmpabpaaDoor
open Go.ChangeShapes Go.WideShapes Go.ChangeAt Go.RowKit
set_option maxRecDepth 100000
set_option linter.unusedSimpArgs false

theorem TIb : SliceOf Tryd.prog 29 3 1 8 := sliceOf_mk Tryd.underlying29 (z := .int .i64 0) (by kernel_rfl) rfl (by omega) (by omega)
theorem zeroIb : (Tryd.prog.info? 3).map (·.zero) = some (some (.int .i64 0)) := by kernel_rfl

theorem popens_any (c : Int) (w : World) : Calls Tryd.prog 32 #[.int .i64 c] w fun e w' => e = .returned (.bool (opnB c)) ∧ Below w.heap.size w w' := by
  go_enter Tryd.func32, Tryd.ntmps32
  go_wp2
  all_goals go_ret
  all_goals refine ⟨retb ?_, Below.refl _ _⟩
  all_goals try simp only [beq_iff_eq, beq_eq_false_iff_ne] at *
  all_goals simp_all [opnB]
theorem ropens_any (c : Int) (w : World) : Calls Tryd.prog 33 #[.int .i64 c] w fun e w' => e = .returned (.bool (opnB c)) ∧ Below w.heap.size w w' := by
  go_enter Tryd.func33, Tryd.ntmps33
  go_wp2
  all_goals go_ret
  all_goals refine ⟨retb ?_, Below.refl _ _⟩
  all_goals try simp only [beq_iff_eq, beq_eq_false_iff_ne] at *
  all_goals simp_all [opnB]

/-- the initiators still open, as the program keeps them -/
def stkL (s : List Nat) : List Int := s.reverse.map Int.ofNat
theorem stkL_len (s : List Nat) : (stkL s).length = s.length := by simp [stkL]
theorem stkL_push (k : Nat) (s : List Nat) : stkL (k :: s) = stkL s ++ [(k : Int)] := by simp [stkL]
theorem stkL_nil : stkL [] = [] := rfl
/-- the matches told so far, in a list that was made whole -/
def outL (o : List Int) (n k : Nat) : List Int := o ++ List.replicate (n - k) 0
theorem outL_put {o : List Int} {n k : Nat} (hl : o.length = k) (hk : k < n) (v : Int) : (outL o n k).set k v = outL (o ++ [v]) n (k + 1) := by
  unfold outL
  rw [List.set_append_right _ _ (by omega), hl, Nat.sub_self, List.append_assoc]
  obtain ⟨m, hm⟩ : ∃ m, n - k = m + 1 := ⟨n - k - 1, by omega⟩
  rw [hm, show n - (k + 1) = m by omega]
  rfl
theorem outL_set {o : List Int} {n k j : Nat} (hj : j < o.length) (v : Int) : (outL o n k).set j v = outL (o.set j v) n k := by
  unfold outL
  rw [List.set_append_left _ _ hj]
theorem outL_re {o : List Int} {n k : Nat} (hl : o.length = k) (u v : Int) : (outL (o ++ [u]) n (k + 1)).set k v = outL (o ++ [v]) n (k + 1) := by
  rw [outL_set (by simp; omega)]
  congr 1
  rw [List.set_append_right _ _ (by omega), hl, Nat.sub_self]
  rfl
theorem own_cell {w : World} {B n c : Nat} {e : TypeId} {g : Nat} {k : IntKind} {xs : List Int} (h : Own w B e k (some ⟨g, 0, none⟩) n c xs) {j : Nat} (hj : j < n) : w.cell? ⟨g, j, none⟩ = some (.int k (nth xs j)) := by
  rw [OwnV.cellAt h j (by omega)]
  have : j < xs.length := by rw [h.len]; exact hj
  rw [List.getElem?_map, List.getElem?_eq_getElem this, nth_eq this]
  rfl

theorem mlen {cs : List Int} {k : Nat} (h : k ≤ cs.length) : (mst cs k).1.length = k := (minv cs k h).len
theorem own_congr {w : World} {B n n' c : Nat} {e : TypeId} {k : IntKind} {A : Option Addr} {xs ys : List Int} (h : Own w B e k A n c xs) (hx : xs = ys) (hn : n = n') : Own w B e k A n' c ys := by subst hx; subst hn; exact h

set_option maxHeartbeats 600000 in
theorem pMatch_any (A : Option Addr) (n c : Nat) (xs : List Int) (w : World) (hx : IntsAt w w.heap.size .i64 A n xs) (hn : n * 8 ≤ 140737488355328) :
    Calls Tryd.prog 15 #[.slice A n c] w (NewInts w 3 .i64 n (matches_ xs)) := by
  have HX := Lib.hid hx
  have HLEN := Lib.hid hx.len
  clear hx
  go_enter Tryd.func15, Tryd.ntmps15
  go_wp2_with (at_make; refine wpList_makeInts TIb zeroIb rfl _ _ rfl n rfl rfl rfl rfl hn w.heap.size (Nat.le_refl _) ?_; intro g0 w0 hown0 hb0)
  obtain ⟨HG1, HG2⟩ := OwnV.ltH hown0
  go_loopw [4, 13] (fun v i wr => ∃ (k : Nat) (A' : Option Addr) (c' : Nat), k ≤ n ∧ i = .int .i64 k ∧ v = .slice A' (mst xs k).2.length c' ∧ Own wr w.heap.size 3 .i64 (some ⟨g0, 0, none⟩) n n (outL (mst xs k).1 n k) ∧ Own wr w0.heap.size 3 .i64 A' (mst xs k).2.length c' (stkL (mst xs k).2) ∧ Below w.heap.size w wr ∧ w0.heap.size ≤ wr.heap.size) (fun _ i _ => n - (intOf i).toNat)
  case atStart => exact ⟨0, none, 0, Nat.zero_le _, rfl, rfl, hown0, Own.nil _ _ _ _, hb0, Nat.le_refl _⟩
  case round =>
    obtain ⟨k, A', c', hk, rfl, rfl, ho, hs, hb, hz⟩ := hrel
    by_cases hlt : k < n
    · obtain ⟨ad, rfl, hab, hcx⟩ := (HX.out.below hb).2 (by omega)
      have hc := hcx k hlt
      clear hcx
      have hkl : k ≤ xs.length := by rw [HLEN.out]; exact hk
      have MI := Lib.hid (minv xs k hkl)
      obtain ⟨x, hxk⟩ : ∃ x, nth xs k = x := ⟨_, rfl⟩
      have XK := Lib.hid hxk
      rw [hxk] at hc
      have ho0 := own_cell ho hlt
      have hf0 := OwnV.frozenAt ho k
      have ap := OwnV.apartB hs HG2
      have AP := Lib.hid ap
      have HO := Lib.hid ho
      have HS := Lib.hid hs
      have HB := Lib.hid hb
      have PO := Lib.hid (popens_any x)
      have hle := OwnV.le hs
      clear hxk ho hs hb hkl
      cases hop : opnB x
      · rw [hop] at PO
        by_cases h11 : x = 11
        · subst h11
          have E := Lib.hid (mst_B XK.out)
          clear hop
          go_wp2_with fail
          refine (PO.out _).mono ?_
          rintro e w1 ⟨rfl, hb1⟩
          have x1 : Below w.heap.size w w1 := (HB.out.setCell (p := ⟨g0, k, none⟩) HG1 _).trans (hb1.mono (by simpa using HB.out.size))
          have z1 : w0.heap.size ≤ w1.heap.size := by have := hb1.size; simp at this; omega
          have O1 := Lib.hid ((Own.set_ HO.out k (-1)).pass hb1)
          have S1 := Lib.hid ((Own.far (j := k) HS.out ap (.int .i64 (-1))).pass hb1)
          rw [outL_put MI.out.len hlt] at O1
          clear hb1
          go_wp2_with fail
          go_roundw
          case rel =>
            refine ⟨k + 1, none, 0, by omega, by go_num, ?_, ?_, ?_, x1, z1⟩
            · rw [E.out]; rfl
            · rw [E.out]; exact O1.out
            · rw [E.out]; exact Own.nil _ _ _ _
          case measure => simp [intOf]; omega
        · by_cases h23 : x = 23
          · subst h23
            have b1 : ((23 : Int) == 11) = false := by decide
            clear hop
            cases hst : (mst xs k).2 with
            | nil =>
              have E := Lib.hid (mst_pdi0 XK.out hst)
              rw [hst] at HS hle
              have d0 : ¬ (0 : Int) < ((List.length ([] : List Nat) : Nat) : Int) := by simp
              simp only [List.length_nil] at HS hle d0 ⊢
              clear hst
              go_wp2_with fail
              refine (PO.out _).mono ?_
              rintro e w1 ⟨rfl, hb1⟩
              have x1 : Below w.heap.size w w1 := (HB.out.setCell (p := ⟨g0, k, none⟩) HG1 _).trans (hb1.mono (by simpa using HB.out.size))
              have z1 : w0.heap.size ≤ w1.heap.size := by have := hb1.size; simp at this; omega
              have O1 := Lib.hid ((Own.set_ HO.out k (-1)).pass hb1)
              have S1 := Lib.hid ((Own.far (j := k) HS.out ap (.int .i64 (-1))).pass hb1)
              rw [outL_put MI.out.len hlt] at O1
              clear hb1
              go_wp2_with fail
              go_roundw
              case rel =>
                refine ⟨k + 1, A', c', by omega, by go_num, ?_, ?_, ?_, x1, z1⟩
                · rw [E.out]; rfl
                · rw [E.out]; exact O1.out
                · rw [E.out]; exact S1.out
              case measure => simp [intOf]; omega
            | cons j s =>
              have E := Lib.hid (mst_pdi XK.out hst)
              have hj : j < k := (MI.out.st j (by rw [hst]; exact List.mem_cons_self ..)).1
              rw [hst] at HS hle
              obtain ⟨m, hm⟩ : ∃ m, s.length = m := ⟨_, rfl⟩
              have HM := Lib.hid hm
              simp only [List.length_cons, hm] at HS hle ⊢
              have hst2 := stkL_push j s
              have mk : m + 1 ≤ k := by have h9 := MI.out.stk_le; rw [hst] at h9; simp only [List.length_cons, hm] at h9; exact h9
              rw [hst2] at HS
              clear hst hm hst2
              have d0 : (0 : Int) < (m : Int) + 1 := by omega
              go_wp2_with fail
              refine (PO.out _).mono ?_
              rintro e w1 ⟨rfl, hb1⟩
              have x1 : Below w.heap.size w w1 := (HB.out.setCell (p := ⟨g0, k, none⟩) HG1 _).trans (hb1.mono (by simpa using HB.out.size))
              have z1 : w0.heap.size ≤ w1.heap.size := by have := hb1.size; simp at this; omega
              have O1 := Lib.hid ((Own.set_ HO.out k (-1)).pass hb1)
              have S1 := Lib.hid ((Own.far (j := k) HS.out ap (.int .i64 (-1))).pass hb1)
              rw [outL_put MI.out.len hlt] at O1
              clear hb1
              obtain ⟨gs, rfl, hgs1, hgs2⟩ := OwnV.form S1.out (by omega)
              have lm : (stkL s).length = m := by rw [stkL_len]; exact HM.out
              have cj : w1.cell? ⟨gs, m, none⟩ = some (.int .i64 j) := by
                have := own_cell S1.out (j := m) (by omega)
                rwa [nth_app_at lm] at this
              obtain ⟨rp, hpop⟩ := own_pop TIb S1.out (m : Int) rfl
              have HP := Lib.hid hpop
              have ck := own_cell O1.out (j := k) hlt
              have fk := OwnV.frozenAt O1.out k
              have fj := OwnV.frozenAt O1.out j
              have O2 := Lib.hid (Own.set_ O1.out k j)
              have cj2 := own_cell O2.out (j := j) (by omega)
              clear hpop lm
              go_wp2_with fail
              go_roundw
              case rel =>
                refine ⟨k + 1, some ⟨gs, 0, none⟩, c', by omega, by go_num, ?_, ?_, ?_, ?_, ?_⟩
                · rw [E.out]; simp [HM.out]
                · rw [E.out]
                  have h7 := Own.set_ O2.out j (k : Int)
                  rw [outL_re MI.out.len, outL_set (by simp [MI.out.len]; omega)] at h7
                  exact h7
                · rw [E.out]
                  have h7 := Own.far (j := j) (Own.far (j := k) HP.out AP.out (.int .i64 j)) AP.out (.int .i64 k)
                  exact own_congr h7 rfl HM.out.symm
                · exact (x1.setCell (p := ⟨g0, k, none⟩) HG1 _).setCell (p := ⟨g0, j, none⟩) HG1 _
                · simpa using z1
              case measure => simp [intOf]; omega
          · have b1 : ((x : Int) == 11) = false := by simpa using h11
            have b2 : ((x : Int) == 23) = false := by simpa using h23
            have E := Lib.hid (mst_else (by rw [XK.out]; exact hop) (by rw [XK.out]; exact h11) (by rw [XK.out]; exact h23))
            clear hop h11 h23
            go_wp2_with fail
            refine (PO.out _).mono ?_
            rintro e w1 ⟨rfl, hb1⟩
            have x1 : Below w.heap.size w w1 := (HB.out.setCell (p := ⟨g0, k, none⟩) HG1 _).trans (hb1.mono (by simpa using HB.out.size))
            have z1 : w0.heap.size ≤ w1.heap.size := by have := hb1.size; simp at this; omega
            have O1 := Lib.hid ((Own.set_ HO.out k (-1)).pass hb1)
            have S1 := Lib.hid ((Own.far (j := k) HS.out ap (.int .i64 (-1))).pass hb1)
            rw [outL_put MI.out.len hlt] at O1
            clear hb1
            go_wp2_with fail
            go_roundw
            case rel =>
              refine ⟨k + 1, A', c', by omega, by go_num, ?_, ?_, ?_, x1, z1⟩
              · rw [E.out]
              · rw [E.out]; exact O1.out
              · rw [E.out]; exact S1.out
            case measure => simp [intOf]; omega
      · rw [hop] at PO
        have E := Lib.hid (mst_open (by rw [XK.out]; exact hop))
        obtain ⟨m, hm⟩ : ∃ m, (mst xs k).2.length = m := ⟨_, rfl⟩
        have HM := Lib.hid hm
        rw [hm] at HS hle
        simp only [hm]
        clear hop hm
        go_wp2_with fail
        refine (PO.out _).mono ?_
        rintro e w1 ⟨rfl, hb1⟩
        have x1 : Below w.heap.size w w1 := (HB.out.setCell (p := ⟨g0, k, none⟩) HG1 _).trans (hb1.mono (by simpa using HB.out.size))
        have z1 : w0.heap.size ≤ w1.heap.size := by have := hb1.size; simp at this; omega
        have O1 := Lib.hid ((Own.set_ HO.out k (-1)).pass hb1)
        have S1 := Lib.hid ((Own.far (j := k) HS.out ap (.int .i64 (-1))).pass hb1)
        rw [outL_put MI.out.len hlt] at O1
        clear hb1
        go_wp2_with (at_builtin; refine wpList_push TIb rfl (.tmp 24) (.tmp 26) rfl rfl (S1.out.alloc _) rfl (y := (k : Int)) (cell_new _ _ _) (by have := MI.out.stk_le; rw [HM.out] at this; omega) (by simp; omega) ?_; intro A2 c2 w2 hown2 hb2)
        have x2 : Below w.heap.size w w2 := (x1.alloc (by have := x1.size; omega) _).trans (hb2.mono (by omega))
        have z2 : w0.heap.size ≤ w2.heap.size := by have := hb2.size; simp at this; omega
        go_roundw
        case rel =>
          refine ⟨k + 1, A2, c2, by omega, by go_num, ?_, ?_, ?_, x2, z2⟩
          · rw [E.out]; simp [HM.out]
          · rw [E.out]; exact (O1.out.alloc _).passB HG2 hb2
          · rw [E.out]; exact own_congr hown2 (stkL_push _ _).symm (by simp [HM.out])
        case measure => simp [intOf]; omega
    · obtain rfl : k = n := by omega
      go_wp2
      go_ret
      refine ⟨_, _, rfl, ?_, hb⟩
      refine own_congr ho ?_ rfl
      unfold outL matches_
      rw [HLEN.out]
      simp

theorem set_end {o : List Int} {k : Nat} (hl : o.length = k) (u v : Int) : (o ++ [u]).set k v = o ++ [v] := by
  rw [List.set_append_right _ _ (by omega), hl, Nat.sub_self]; rfl
theorem apart_grow {A1 A2 A3 : Option Addr} {w : World} {B n c : Nat} {e : TypeId} {k : IntKind} {xs : List Int} (h : Apart A2 A1) (hat : ∀ g, A3 = some ⟨g, 0, none⟩ → A1 = some ⟨g, 0, none⟩ ∨ w.heap.size ≤ g) (h2 : Own w B e k A2 n c xs) : Apart A2 A3 := by
  intro g h3 h4
  rcases hat g h4 with h5 | h5
  · exact h g h3 h5
  · exact OwnV.new_apart h2 h5 g h3 rfl

set_option maxHeartbeats 1000000 in
theorem rMatch_any (A : Option Addr) (n c : Nat) (xs : List Int) (w : World) (hx : IntsAt w w.heap.size .i64 A n xs) (hn : n * 8 ≤ 140737488355328) :
    Calls Tryd.prog 16 #[.slice A n c] w (NewInts w 3 .i64 n (matches_ xs)) := by
  have HX := Lib.hid hx
  have HLEN := Lib.hid hx.len
  clear hx
  go_enter Tryd.func16, Tryd.ntmps16
  go_wp2
  go_loopw [3, 4, 5] (fun u v i wr => ∃ (k : Nat) (A1 A2 : Option Addr) (c1 c2 : Nat), k ≤ n ∧ i = .int .i64 k ∧ u = .slice A1 k c1 ∧ v = .slice A2 (mst xs k).2.length c2 ∧ Own wr w.heap.size 3 .i64 A1 k c1 (mst xs k).1 ∧ Own wr w.heap.size 3 .i64 A2 (mst xs k).2.length c2 (stkL (mst xs k).2) ∧ Apart A2 A1 ∧ Below w.heap.size w wr) (fun _ _ i _ => n - (intOf i).toNat)
  case atStart => exact ⟨0, none, none, 0, 0, Nat.zero_le _, rfl, rfl, rfl, Own.nil _ _ _ _, Own.nil _ _ _ _, apart_none _, Below.refl _ _⟩
  case round =>
    obtain ⟨k, A1, A2, c1, c2, hk, rfl, rfl, rfl, ho, hs, ap, hb⟩ := hrel
    by_cases hlt : k < n
    · obtain ⟨ad, rfl, hab, hcx⟩ := (HX.out.below hb).2 (by omega)
      have hc := hcx k hlt
      clear hcx
      have hkl : k ≤ xs.length := by rw [HLEN.out]; exact hk
      have MI := Lib.hid (minv xs k hkl)
      obtain ⟨x, hxk⟩ : ∃ x, nth xs k = x := ⟨_, rfl⟩
      have XK := Lib.hid hxk
      rw [hxk] at hc
      have AP := Lib.hid ap
      have HO := Lib.hid ho
      have HS := Lib.hid hs
      have HB := Lib.hid hb
      have PO := Lib.hid (ropens_any x)
      clear hxk ho hs hb ap hkl
      cases hop : opnB x
      · rw [hop] at PO
        by_cases h11 : x = 11
        · subst h11
          have E := Lib.hid (mst_B XK.out)
          clear hop
          go_wp2_with (at_builtin; refine wpList_pushAt TIb rfl (.tmp 13) (.tmp 14) rfl rfl (HO.out.alloc _) rfl (y := (-1 : Int)) (cell_new _ _ _) (by omega) (by have := HB.out.size; simp; omega) ?_; intro A3 c3 w1 o1 b1 g1 at1; have y1 : Below w.heap.size w w1 := (HB.out.alloc (by have := HB.out.size; omega) _).trans b1; have s1 := (HS.out.alloc (.cells #[.int .i64 (-1)] 3)).kept g1 AP.out (OwnV.headC HO.out); have hc1 := (b1.cell (p := ad.add k) (by rw [block_of_add]; exact hab)).trans (cell_alloc hc (.cells #[.int .i64 (-1)] 3)); have ap1 := apart_grow AP.out at1 (HS.out.alloc (.cells #[.int .i64 (-1)] 3)); have Y1 := Lib.hid y1; have O1 := Lib.hid o1; have S1 := Lib.hid s1; have AP1 := Lib.hid ap1; clear hc o1 s1 ap1 at1 g1 b1)
          refine (PO.out _).mono ?_
          rintro e w2 ⟨rfl, hb2⟩
          have hc2 := cell_pass hc1 hb2
          have O2 := Lib.hid (O1.out.pass hb2)
          have S2 := Lib.hid (S1.out.pass hb2)
          have y2 := Y1.out.trans (hb2.mono Y1.out.size)
          have Y2 := Lib.hid y2
          clear hb2 hc1 y1 y2
          go_wp2_with fail
          go_roundw
          case rel =>
            refine ⟨k + 1, A3, none, c3, 0, by omega, by go_num, rfl, ?_, ?_, ?_, none_apart _, Y2.out⟩
            · rw [E.out]; rfl
            · rw [E.out]; exact O2.out
            · rw [E.out]; exact Own.nil _ _ _ _
          case measure => simp [intOf]; omega
        · by_cases h23 : x = 23
          · subst h23
            have b1 : ((23 : Int) == 11) = false := by decide
            clear hop
            cases hst : (mst xs k).2 with
            | nil =>
              have E := Lib.hid (mst_pdi0 XK.out hst)
              rw [hst] at HS
              have d0 : ¬ (0 : Int) < ((List.length ([] : List Nat) : Nat) : Int) := by simp
              simp only [List.length_nil] at HS d0 ⊢
              clear hst
              go_wp2_with (at_builtin; refine wpList_pushAt TIb rfl (.tmp 13) (.tmp 14) rfl rfl (HO.out.alloc _) rfl (y := (-1 : Int)) (cell_new _ _ _) (by omega) (by have := HB.out.size; simp; omega) ?_; intro A3 c3 w1 o1 b1 g1 at1; have y1 : Below w.heap.size w w1 := (HB.out.alloc (by have := HB.out.size; omega) _).trans b1; have s1 := (HS.out.alloc (.cells #[.int .i64 (-1)] 3)).kept g1 AP.out (OwnV.headC HO.out); have hc1 := (b1.cell (p := ad.add k) (by rw [block_of_add]; exact hab)).trans (cell_alloc hc (.cells #[.int .i64 (-1)] 3)); have ap1 := apart_grow AP.out at1 (HS.out.alloc (.cells #[.int .i64 (-1)] 3)); have Y1 := Lib.hid y1; have O1 := Lib.hid o1; have S1 := Lib.hid s1; have AP1 := Lib.hid ap1; clear hc o1 s1 ap1 at1 g1 b1)
              refine (PO.out _).mono ?_
              rintro e w2 ⟨rfl, hb2⟩
              have hc2 := cell_pass hc1 hb2
              have O2 := Lib.hid (O1.out.pass hb2)
              have S2 := Lib.hid (S1.out.pass hb2)
              have y2 := Y1.out.trans (hb2.mono Y1.out.size)
              have Y2 := Lib.hid y2
              clear hb2 hc1 y1 y2
              go_wp2_with fail
              go_roundw
              case rel =>
                refine ⟨k + 1, A3, A2, c3, c2, by omega, by go_num, rfl, ?_, ?_, ?_, AP1.out, Y2.out⟩
                · rw [E.out]; rfl
                · rw [E.out]; exact O2.out
                · rw [E.out]; exact S2.out
              case measure => simp [intOf]; omega
            | cons j s =>
              have E := Lib.hid (mst_pdi XK.out hst)
              have hj : j < k := (MI.out.st j (by rw [hst]; exact List.mem_cons_self ..)).1
              rw [hst] at HS
              obtain ⟨m, hm⟩ : ∃ m, s.length = m := ⟨_, rfl⟩
              have HM := Lib.hid hm
              simp only [List.length_cons, hm] at HS ⊢
              have hst2 := stkL_push j s
              have mk : m + 1 ≤ k := by have h9 := MI.out.stk_le; rw [hst] at h9; simp only [List.length_cons, hm] at h9; exact h9
              rw [hst2] at HS
              clear hst hm hst2
              have d0 : (0 : Int) < (m : Int) + 1 := by omega
              go_wp2_with (at_builtin; refine wpList_pushAt TIb rfl (.tmp 13) (.tmp 14) rfl rfl (HO.out.alloc _) rfl (y := (-1 : Int)) (cell_new _ _ _) (by omega) (by have := HB.out.size; simp; omega) ?_; intro A3 c3 w1 o1 b1 g1 at1; have y1 : Below w.heap.size w w1 := (HB.out.alloc (by have := HB.out.size; omega) _).trans b1; have s1 := (HS.out.alloc (.cells #[.int .i64 (-1)] 3)).kept g1 AP.out (OwnV.headC HO.out); have hc1 := (b1.cell (p := ad.add k) (by rw [block_of_add]; exact hab)).trans (cell_alloc hc (.cells #[.int .i64 (-1)] 3)); have ap1 := apart_grow AP.out at1 (HS.out.alloc (.cells #[.int .i64 (-1)] 3)); have Y1 := Lib.hid y1; have O1 := Lib.hid o1; have S1 := Lib.hid s1; have AP1 := Lib.hid ap1; clear hc o1 s1 ap1 at1 g1 b1)
              refine (PO.out _).mono ?_
              rintro e w2 ⟨rfl, hb2⟩
              have hc2 := cell_pass hc1 hb2
              have O2 := Lib.hid (O1.out.pass hb2)
              have S2 := Lib.hid (S1.out.pass hb2)
              have y2 := Y1.out.trans (hb2.mono Y1.out.size)
              have Y2 := Lib.hid y2
              clear hb2 hc1 y1 y2
              obtain ⟨gs, rfl, hgs1, hgs2⟩ := OwnV.form S2.out (by omega)
              obtain ⟨gt, rfl, hgt1, hgt2⟩ := OwnV.form O2.out (by omega)
              have hne : gs ≠ gt := fun e => AP1.out gs rfl (by rw [e])
              have hne2 : gt ≠ gs := fun e => hne e.symm
              have lm : (stkL s).length = m := by rw [stkL_len]; exact HM.out
              have cj : w2.cell? ⟨gs, m, none⟩ = some (.int .i64 j) := by
                have := own_cell S2.out (j := m) (by omega)
                rwa [nth_app_at lm] at this
              obtain ⟨rp, hpop⟩ := own_pop TIb S2.out (m : Int) rfl
              have HP := Lib.hid hpop
              have ck := own_cell O2.out (j := k) (by omega)
              have fk := OwnV.frozenAt O2.out k
              have fj := OwnV.frozenAt O2.out j
              have O4 := Lib.hid (Own.set_ O2.out k j)
              have cj2 := own_cell O4.out (j := j) (by omega)
              clear hpop lm
              go_wp2_with fail
              go_roundw
              case rel =>
                refine ⟨k + 1, some ⟨gt, 0, none⟩, some ⟨gs, 0, none⟩, c3, c2, by omega, by go_num, by simp, ?_, ?_, ?_, AP1.out, ?_⟩
                · rw [E.out]; simp [HM.out]
                · rw [E.out]
                  have h7 := Own.set_ O4.out j (k : Int)
                  rw [set_end MI.out.len] at h7
                  exact h7
                · rw [E.out]
                  have h7 := Own.far (j := j) (Own.far (j := k) HP.out AP1.out (.int .i64 j)) AP1.out (.int .i64 k)
                  exact own_congr h7 rfl HM.out.symm
                · exact (Y2.out.setCell (p := ⟨gt, k, none⟩) hgt1 _).setCell (p := ⟨gt, j, none⟩) hgt1 _
              case measure => simp [intOf]; omega
          · have b1 : ((x : Int) == 11) = false := by simpa using h11
            have b2 : ((x : Int) == 23) = false := by simpa using h23
            have E := Lib.hid (mst_else (by rw [XK.out]; exact hop) (by rw [XK.out]; exact h11) (by rw [XK.out]; exact h23))
            clear hop h11 h23
            go_wp2_with (at_builtin; refine wpList_pushAt TIb rfl (.tmp 13) (.tmp 14) rfl rfl (HO.out.alloc _) rfl (y := (-1 : Int)) (cell_new _ _ _) (by omega) (by have := HB.out.size; simp; omega) ?_; intro A3 c3 w1 o1 b1 g1 at1; have y1 : Below w.heap.size w w1 := (HB.out.alloc (by have := HB.out.size; omega) _).trans b1; have s1 := (HS.out.alloc (.cells #[.int .i64 (-1)] 3)).kept g1 AP.out (OwnV.headC HO.out); have hc1 := (b1.cell (p := ad.add k) (by rw [block_of_add]; exact hab)).trans (cell_alloc hc (.cells #[.int .i64 (-1)] 3)); have ap1 := apart_grow AP.out at1 (HS.out.alloc (.cells #[.int .i64 (-1)] 3)); have Y1 := Lib.hid y1; have O1 := Lib.hid o1; have S1 := Lib.hid s1; have AP1 := Lib.hid ap1; clear hc o1 s1 ap1 at1 g1 b1)
            refine (PO.out _).mono ?_
            rintro e w2 ⟨rfl, hb2⟩
            have hc2 := cell_pass hc1 hb2
            have O2 := Lib.hid (O1.out.pass hb2)
            have S2 := Lib.hid (S1.out.pass hb2)
            have y2 := Y1.out.trans (hb2.mono Y1.out.size)
            have Y2 := Lib.hid y2
            clear hb2 hc1 y1 y2
            go_wp2_with fail
            go_roundw
            case rel =>
              refine ⟨k + 1, A3, A2, c3, c2, by omega, by go_num, rfl, ?_, ?_, ?_, AP1.out, Y2.out⟩
              · rw [E.out]
              · rw [E.out]; exact O2.out
              · rw [E.out]; exact S2.out
            case measure => simp [intOf]; omega
      · rw [hop] at PO
        have E := Lib.hid (mst_open (by rw [XK.out]; exact hop))
        obtain ⟨m, hm⟩ : ∃ m, (mst xs k).2.length = m := ⟨_, rfl⟩
        have HM := Lib.hid hm
        have mk : m ≤ k := by have h9 := MI.out.stk_le; rw [hm] at h9; exact h9
        rw [hm] at HS
        simp only [hm]
        clear hop hm
        go_wp2_with (at_builtin; refine wpList_pushAt TIb rfl (.tmp 13) (.tmp 14) rfl rfl (HO.out.alloc _) rfl (y := (-1 : Int)) (cell_new _ _ _) (by omega) (by have := HB.out.size; simp; omega) ?_; intro A3 c3 w1 o1 b1 g1 at1; have y1 : Below w.heap.size w w1 := (HB.out.alloc (by have := HB.out.size; omega) _).trans b1; have s1 := (HS.out.alloc (.cells #[.int .i64 (-1)] 3)).kept g1 AP.out (OwnV.headC HO.out); have hc1 := (b1.cell (p := ad.add k) (by rw [block_of_add]; exact hab)).trans (cell_alloc hc (.cells #[.int .i64 (-1)] 3)); have ap1 := apart_grow AP.out at1 (HS.out.alloc (.cells #[.int .i64 (-1)] 3)); have Y1 := Lib.hid y1; have O1 := Lib.hid o1; have S1 := Lib.hid s1; have AP1 := Lib.hid ap1; clear hc o1 s1 ap1 at1 g1 b1)
        refine (PO.out _).mono ?_
        rintro e w2 ⟨rfl, hb2⟩
        have hc2 := cell_pass hc1 hb2
        have O2 := Lib.hid (O1.out.pass hb2)
        have S2 := Lib.hid (S1.out.pass hb2)
        have y2 := Y1.out.trans (hb2.mono Y1.out.size)
        have Y2 := Lib.hid y2
        clear hb2 hc1 y1 y2
        go_wp2_with (at_builtin; refine wpList_pushAt TIb rfl (.tmp 24) (.tmp 26) rfl rfl (S2.out.alloc _) rfl (y := (k : Int)) (cell_new _ _ _) (by omega) (by have := Y2.out.size; simp; omega) ?_; intro A4 c4 w3 o3 b3 g3 at3; have o4 := (O2.out.alloc (.cells #[.int .i64 (k : Int)] 3)).kept g3 AP1.out.symm (OwnV.headC S2.out); have y3 : Below w.heap.size w w3 := (Y2.out.alloc (by have := Y2.out.size; omega) _).trans b3; have ap3 := apart_grow AP1.out.symm at3 (O2.out.alloc (.cells #[.int .i64 (k : Int)] 3)))
        go_roundw
        case rel =>
          refine ⟨k + 1, A3, A4, c3, c4, by omega, by go_num, rfl, ?_, ?_, ?_, ap3.symm, y3⟩
          · rw [E.out]; simp [HM.out]
          · rw [E.out]; exact o4
          · rw [E.out]; exact own_congr o3 (stkL_push _ _).symm (by simp [HM.out])
        case measure => simp [intOf]; omega
    · obtain rfl : k = n := by omega
      go_wp2
      go_ret
      refine ⟨_, _, rfl, ?_, hb⟩
      refine own_congr ho ?_ rfl
      unfold matches_
      rw [HLEN.out]
end Go.Proofs.YtanfcfppmpabpaaDoor
