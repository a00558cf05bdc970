/- Chapter 10: the walk of BaseHides. -/
import Derived.Test.YtanfcfppmpabpaaDoorBal
import Derived.Deep.RegionLaw
namespace Go.Proofs.YtanfcfppmpabpaaDoor
open Go.ChangeShapes Go.WideShapes Go.ChangeAt Go.RowKit
set_option maxRecDepth 100000
set_option linter.unusedSimpArgs false

/-- what the law puts between: the classes that are no B, initiator or PDI -/
def kept (ys : List Int) : List Int := ys.filter fun c => !spec c
theorem kept_spec (ys : List Int) : ∀ c ∈ kept ys, spec c = false := by
  intro c h
  have := (List.mem_filter.1 h).2
  simpa using this
theorem kept_yes {ys : List Int} {k : Nat} (h : k < ys.length) (hs : spec (nth ys k) = false) : kept (ys.take (k + 1)) = kept (ys.take k) ++ [nth ys k] := by
  unfold kept
  rw [List.take_succ_eq_append_getElem h, List.filter_append, ← nth_eq h]
  simp [hs]
theorem kept_no {ys : List Int} {k : Nat} (h : k < ys.length) (hs : spec (nth ys k) = true) : kept (ys.take (k + 1)) = kept (ys.take k) := by
  unfold kept
  rw [List.take_succ_eq_append_getElem h, List.filter_append, ← nth_eq h]
  simp [hs]
theorem kept_len (ys : List Int) (k : Nat) : (kept (ys.take k)).length ≤ k := by
  have h1 := List.length_filter_le (fun c => !spec c) (ys.take k)
  have h2 := List.length_take_le k ys
  unfold kept
  omega

set_option maxHeartbeats 4000000 in
theorem BaseHides_walk (A : Option Addr) (n c : Nat) (xs : List Int) (q : Int) (hq : (Lit.int .u64 q).wf = true) (B : Option Addr) (m d : Nat) (ys : List Int) (w : World) (hx : SliceIn .i64 w A n c xs) (hy : SliceIn .i64 w B m d ys) (hr : n * 8 ≤ 140737488351232) (hl : Laid w) :
    Calls Tryd.prog 8 #[.slice A n c, .int .u64 q, .slice B m d] w fun e w' => e = .returned (.bool true) ∧ Below w.heap.size w w' := by
  obtain ⟨q1, q2⟩ := bounds_u64 hq
  have HX := Lib.hid hx
  have HY := Lib.hid hy
  have HL := Lib.hid hl
  have HLEN := Lib.hid hx.at_.len
  have HLENY := Lib.hid hy.at_.len
  have hlc := hx.le
  clear hx hy hl hq
  have P1 := Lib.hid (rMatch_any A n c xs w HX.out.at_ (by omega))
  by_cases hout : 200 < n ∨ 50 < m ∨ n = 0
  · have hcase : 200 < n ∨ (¬ 200 < n ∧ 50 < m) ∨ (n = 0 ∧ ¬ 50 < m) := by omega
    clear hout
    rcases hcase with h | ⟨h, h2⟩ | ⟨h, h2⟩
    all_goals
      try subst h
      go_enter Tryd.func8, Tryd.ntmps8
      go_wp2_with fail
      refine P1.out.mono ?_
      rintro e w1 ⟨A1, c1, rfl, o1, x1⟩
      go_wp2_with fail
      refine (alive10_any _ (HL.out.pass x1)).mono ?_
      rintro e w2 ⟨rfl, hb2⟩
      go_wp2_with fail
      go_ret
      exact ⟨rfl, x1.trans (hb2.mono x1.size)⟩
  · have hn : n ≤ 200 := by omega
    have hm : m ≤ 50 := by omega
    have hn0 : 0 < n := by omega
    clear hout
    have hp : (0 : Int) < (n : Int) := by omega
    have nz : ((n : Int) == 0) = false := by simp; omega
    have nz2 : ¬ (n : Int) = 0 := by omega
    have hem := Int.emod_nonneg q (b := (n : Int)) (by omega)
    have hem2 := Int.emod_lt_of_pos q hp
    obtain ⟨i, hi⟩ : ∃ i : Nat, q % (n : Int) = i := ⟨(q % (n : Int)).toNat, by omega⟩
    have hin : i < n := by omega
    clear hem hem2
    go_enter Tryd.func8, Tryd.ntmps8
    go_wp2_with fail
    refine P1.out.mono ?_
    rintro e w1 ⟨A1, c1, rfl, o1, x1⟩
    have X1 := Lib.hid x1
    have OI := Lib.hid o1.ints
    have XI := Lib.hid (HX.out.pass x1)
    have YI := Lib.hid (HY.out.pass x1)
    obtain ⟨am, rfl, hbm, hcm⟩ := OI.out.2 (by omega)
    have hmi := hcm i hin
    obtain ⟨z, hz⟩ : ∃ z, nth (matches_ xs) i = z := ⟨_, rfl⟩
    have ZE := Lib.hid hz
    rw [hz] at hmi
    clear o1 x1 P1 hz hcm
    have A10 := Lib.hid (fun w' (hb : Below w1.heap.size w1 w') => alive10_any w' ((HL.out.pass X1.out).pass hb))
    by_cases hzi : z ≤ (i : Int)
    · go_wp2_with fail
      refine (A10.out _ (Below.refl _ _)).mono ?_
      rintro e w2 ⟨rfl, hb2⟩
      go_wp2_with fail
      go_ret
      exact ⟨rfl, X1.out.trans (hb2.mono X1.out.size)⟩
    · obtain ⟨k0, rfl⟩ : ∃ k0 : Nat, z = k0 := ⟨z.toNat, by omega⟩
      have hi0 : i < k0 := by omega
      have HOP : opnB (nth xs i) = true ∧ k0 < n := by
        rcases matches_nest (cs := xs) (i := i) (by rw [HLEN.out]; exact hin) with h1 | ⟨q', h1, h2, h3, h4, h5⟩
        · rw [ZE.out] at h1; omega
        · rw [ZE.out] at h2
          obtain rfl : q' = k0 := by omega
          exact ⟨(h5 hi0).1, by rw [← HLEN.out]; exact h1⟩
      obtain ⟨hop, hk0⟩ := HOP
      have HIDE := Lib.hid (hides (cs := xs) (more := kept ys) (by rw [HLEN.out]; exact hin) hop ZE.out (kept_spec ys))
      obtain ⟨Aa, ca, CA⟩ := cut_h TIb A n c (i + 1) (by omega) hlc ((i : Int) + 1) (by omega)
      obtain ⟨Ab, cb, CB⟩ := cut_l TIb A n c k0 (by omega) hlc (k0 : Int) rfl
      have ra := CA.run
      have rb := CB.run
      have SA := Lib.hid (CA.sliceIn XI.out)
      have SB := Lib.hid (CB.sliceIn XI.out)
      clear CA CB hop hzi
      go_wp2_with (at_builtin; refine wpList_appendN TIb rfl (.tmp 45) (.tmp 49) rfl rfl (own_empty _ _ .i64 w1.heap.size (by simp)) rfl (SA.out.at_.later (below_alloc w1 _)) (i + 1) (by omega) (by omega) (by simp) ?_; intro A3 c3 w3 o3 b3; have x3 := (below_alloc w1 _).trans b3; have O3 := Lib.hid o3; have X3 := Lib.hid x3; clear o3 b3 x3)
      rw [List.drop_zero] at O3
      go_loopw [9, 53] (fun l v wr => ∃ (k : Nat) (A' : Option Addr) (c' : Nat), k ≤ m ∧ v = .int .i64 k ∧ l = .slice A' (i + 1 + (kept (ys.take k)).length) c' ∧ Own wr w1.heap.size 3 .i64 A' (i + 1 + (kept (ys.take k)).length) c' (xs.take (i + 1) ++ kept (ys.take k)) ∧ Below w1.heap.size w1 wr) (fun _ v _ => m - (intOf v).toNat)
      case atStart => exact ⟨0, A3, c3, Nat.zero_le _, rfl, rfl, by have := O3.out; simpa [kept] using this, X3.out⟩
      case round =>
        obtain ⟨k, A', c', hk, rfl, rfl, ho, hb⟩ := hrel
        have HO := Lib.hid ho
        have HB := Lib.hid hb
        have hkl := kept_len ys k
        by_cases hlt : k < m
        · obtain ⟨ad, rfl, hab, hcx⟩ := (YI.out.at_.below hb).2 (by omega)
          have hc := hcx k hlt
          have hky : k < ys.length := by rw [HLENY.out]; exact hlt
          obtain ⟨x, hx⟩ : ∃ x, nth ys k = x := ⟨_, rfl⟩
          have XE := Lib.hid hx
          rw [hx] at hc
          clear hcx ho hb hx
          cases hs : spec x
          · have KY := Lib.hid (kept_yes hky (by rw [XE.out]; exact hs))
            simp only [spec, opnB, Bool.or_eq_false_iff, beq_eq_false_iff_ne] at hs
            obtain ⟨⟨g1, ⟨g2, g3⟩, g4⟩, g5⟩ := hs
            have n1 : ((x : Int) == 11) = false := by simpa using g1
            have n2 : ((x : Int) == 20) = false := by simpa using g2
            have n3 : ((x : Int) == 21) = false := by simpa using g3
            have n4 : ((x : Int) == 22) = false := by simpa using g4
            have n5 : ((x : Int) == 23) = false := by simpa using g5
            have m1 : ((x : Int) != 11) = true := by simpa using g1
            have m2 : ((x : Int) != 20) = true := by simpa using g2
            have m3 : ((x : Int) != 21) = true := by simpa using g3
            have m4 : ((x : Int) != 22) = true := by simpa using g4
            have m5 : ((x : Int) != 23) = true := by simpa using g5
            clear g1 g2 g3 g4 g5
            go_wp2_with (at_builtin; refine wpList_push TIb rfl (.tmp 75) (.tmp 77) rfl rfl (HO.out.alloc _) rfl (y := x) (cell_new _ _ _) (by omega) (by have := HB.out.size; simp; omega) ?_; intro A4 c4 w4 o4 b4; have hbA := HB.out.alloc (by have := HB.out.size; omega) (.cells #[.int .i64 x] 3))
            have hbw := hbA.trans b4
            go_roundw
            case rel =>
              refine ⟨k + 1, A4, c4, by omega, by go_num, ?_, ?_, hbw⟩
              · rw [KY.out]; simp [Nat.add_assoc]
              · rw [KY.out, XE.out, ← List.append_assoc]; exact own_congr o4 rfl (by simp [Nat.add_assoc])
            case measure => simp [intOf] <;> omega
          · have KN := Lib.hid (kept_no hky (by rw [XE.out]; exact hs))
            have hs5 : x = 11 ∨ x = 20 ∨ x = 21 ∨ x = 22 ∨ x = 23 := by simp [spec, opnB] at hs; omega
            clear hs
            rcases hs5 with rfl | rfl | rfl | rfl | rfl
            all_goals
              go_wp2_with fail
              go_roundw
              case rel =>
                refine ⟨k + 1, A', c', by omega, by go_num, ?_, ?_, HB.out⟩
                · rw [KN.out]
                · rw [KN.out]; exact HO.out
              case measure => simp [intOf] <;> omega
        · obtain rfl : k = m := by omega
          have ek : ys.take k = ys := List.take_of_length_le (by rw [HLENY.out]; exact Nat.le_refl _)
          rw [ek] at HO hkl ⊢
          obtain ⟨mm, hmm⟩ : ∃ mm, (kept ys).length = mm := ⟨_, rfl⟩
          rw [hmm] at HO hkl ⊢
          have hmi2 := (hb.cell (p := am.add i) (by rw [block_of_add]; exact hbm)).trans hmi
          clear ek hmm ho hmi
          go_wp2_with (at_builtin; refine wpList_appendN TIb rfl (.tmp 80) (.tmp 86) rfl rfl HO.out rfl (SB.out.pass HB.out).at_ (i + 1 + mm + (n - k0)) rfl (by omega) (by have := HB.out.size; omega) ?_; intro A5 c5 w5 o5 b5; have x5 := HB.out.trans b5; have O5 := Lib.hid o5; have X5 := Lib.hid x5; clear o5 b5 x5)
          have el : xs.take (i + 1) ++ kept ys ++ (xs.take n).drop k0 = xs.take (i + 1) ++ kept ys ++ xs.drop k0 := by
            have et : xs.take n = xs := List.take_of_length_le (by rw [HLEN.out]; exact Nat.le_refl _)
            rw [et]
          rw [el] at O5
          obtain ⟨zs, hzs⟩ : ∃ zs, xs.take (i + 1) ++ kept ys ++ xs.drop k0 = zs := ⟨_, rfl⟩
          have hide := HIDE.out
          rw [hzs] at hide O5
          obtain ⟨N, hN⟩ : ∃ N, i + 1 + mm + (n - k0) = N := ⟨_, rfl⟩
          rw [hN] at O5 ⊢
          have hNb : N ≤ 500 := by omega
          have hle5 := OwnV.le O5.out
          have F1 := firstOf_all xs
          have F2 := firstOf_all zs
          rw [HLEN.out] at F1
          rw [O5.out.len, hide] at F2
          have L1 := Lib.hid (fun w' (hb : Below w1.heap.size w1 w') => pLevel_any A n c xs w' (XI.out.pass hb).at_ hlc (by omega))
          have G1 := Lib.hid (fun w' (hb : Below w1.heap.size w1 w') => pFirst_any A n c xs 0 n w' (XI.out.pass hb).at_ hlc (by omega))
          have L2 := Lib.hid (fun w' (hb : Below w5.heap.size w5 w') => pLevel_any A5 N c5 zs w' (O5.out.ints.later hb) hle5 (by omega))
          have G2 := Lib.hid (fun w' (hb : Below w5.heap.size w5 w') => pFirst_any A5 N c5 zs 0 N w' (O5.out.ints.later hb) hle5 (by omega))
          rw [F1] at G1
          rw [hide] at L2
          rw [F2] at G2
          clear el hzs hide hN F1 F2 hmi2
          generalize levelOf (scn xs 0) = lv at *
          generalize levelOk (scn xs 0) = lk at *
          generalize scn xs 0 = sc at *
          go_wp2_with fail
          refine (L1.out _ X5.out).mono ?_
          rintro e v1 ⟨rfl, u1⟩
          have Y1 := Lib.hid u1
          clear u1
          go_wp2_with fail
          refine (L2.out _ Y1.out).mono ?_
          rintro e v2 ⟨rfl, u2⟩
          have Y2 := Lib.hid (Y1.out.trans (u2.mono Y1.out.size))
          clear u2
          go_wp2_with fail
          refine (G1.out _ (X5.out.trans (Y2.out.mono X5.out.size))).mono ?_
          rintro e v3 ⟨rfl, u3⟩
          have Y3 := Lib.hid (Y2.out.trans (u3.mono Y2.out.size))
          clear u3
          go_wp2_with fail
          refine (G2.out _ Y3.out).mono ?_
          rintro e v4 ⟨rfl, u4⟩
          have Y4 := Lib.hid (X5.out.trans ((Y3.out.trans (u4.mono Y3.out.size)).mono X5.out.size))
          clear u4
          go_wp2_with fail
          refine (A10.out _ Y4.out).mono ?_
          rintro e v5 ⟨rfl, u5⟩
          have Y5 := Lib.hid (X1.out.trans ((Y4.out.trans (u5.mono Y4.out.size)).mono X1.out.size))
          clear u5
          go_wp2_with fail
          go_ret
          exact ⟨rfl, Y5.out⟩
end Go.Proofs.YtanfcfppmpabpaaDoor
