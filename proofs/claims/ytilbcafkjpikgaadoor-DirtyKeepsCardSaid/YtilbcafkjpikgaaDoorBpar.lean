/- Chapter 10: the paragraphs of a text, both ways. -/
import Derived.Test.YtilbcafkjpikgaaDoorParl
import Derived.Test.YtilbcafkjpikgaaDoorBid
import Derived.Test.YtilbcafkjpikgaaDoorOwn2
namespace Go.Proofs.YtilbcafkjpikgaaDoor
open Go.ChangeShapes Go.WideShapes Go.ChangeAt Go.RowKit
set_option maxRecDepth 100000
set_option linter.unusedSimpArgs false

theorem TC : SliceOf Tryd.prog 32 35 2 16 := sliceOf_mk Tryd.underlying32 (z := .agg #[.int .i64 0, .int .i64 0]) (by kernel_rfl) rfl (by omega) (by omega)
/-- a call that hands back new ranges -/
def NewCuts (w : World) (ps : List (Nat × Nat)) (r : Ending) (w' : World) : Prop :=
  ∃ (A : Option Addr) (c : Nat), r = .returned (.slice A ps.length c) ∧ OwnV w' w.heap.size 35 2 A ps.length c (cutsV ps) ∧ Below w.heap.size w w'
theorem cells_new2 (w : World) (a b : Value) (t : TypeId) : ∀ j u, [a, b][j]? = some u → (w.alloc (.cells #[a, b] t)).cell? ⟨w.heap.size, j, none⟩ = some u := by
  intro j u h
  rw [cell_of_row _ _ _ _ _ _ (heap_alloc_new w _)]
  simpa using h
theorem two_one (a b : Int) : ∀ u ∈ [Value.int .i64 a, Value.int .i64 b], u.oneCell' = true := by
  intro u hu
  simp at hu
  rcases hu with rfl | rfl <;> rfl
theorem bidi_at {xs : List Int} {k : Nat} (h : k < xs.length) : nth (xs.map bidiOf) k = bidiAt xs k := by
  unfold nth bidiAt bidiOf nth
  simp [h]
theorem cutsV_push (ps : List (Nat × Nat)) (f k : Nat) : cutsV ps ++ [.int .i64 f, .int .i64 ((k : Int) + 1)] = cutsV (ps ++ [(f, k + 1)]) := by
  rw [cutsV_app, cutsV_one]
  congr 3
theorem ownV_congr {w : World} {B n n' c size : Nat} {e : TypeId} {A : Option Addr} {xs ys : List Value} (h : OwnV w B e size A n c xs) (hx : xs = ys) (hn : n = n') : OwnV w B e size A n' c ys := by subst hx; subst hn; exact h
theorem OwnV.moreB {w : World} {B B' n c size : Nat} {e : TypeId} {A : Option Addr} {vs : List Value} (h : OwnV w B e size A n c vs) (hb : B' ≤ B) : OwnV w B' e size A n c vs := by
  refine ⟨h.1, ?_⟩
  rcases h.2 with h2 | ⟨g, cap, cur, hv, hg, r⟩
  · exact .inl h2
  · exact .inr ⟨g, cap, cur, hv, by omega, r⟩

set_option maxHeartbeats 4000000 in
theorem pParas_any (A : Option Addr) (n c : Nat) (xs : List Int) (w : World) (hl : Laid w) (hx : SliceIn .i32 w A n c xs) (hn : n * 16 ≤ 140737488355328) :
    Calls Tryd.prog 32 #[.slice A n c] w (NewCuts w (paras xs)) := by
  have PB := Lib.hid (pBidi_any A n c xs w hl hx (by omega))
  have HX := Lib.hid hx.at_
  have HLEN := Lib.hid hx.at_.len
  clear hx hl
  go_enter Tryd.func32, Tryd.ntmps32
  go_wp2_with fail
  refine PB.out.mono ?_
  rintro e w1 ⟨Ab, cb, rfl, hob, hb1⟩
  have OB := Lib.hid hob.ints
  have HX1 := Lib.hid (HX.out.later hb1)
  have hsz1 := hb1.size
  have HB1 := Lib.hid hb1
  clear hob hb1 PB
  go_wp2_with fail
  go_loopw [2, 3, 10] (fun u v i wr => ∃ (k : Nat) (A1 : Option Addr) (d1 : Nat), k ≤ n ∧ i = .int .i64 k ∧ u = .slice A1 (par xs k).length d1 ∧ v = .int .i64 ((frm xs k : Nat) : Int) ∧ OwnV wr w1.heap.size 35 2 A1 (par xs k).length d1 (cutsV (par xs k)) ∧ Below w1.heap.size w1 wr) (fun _ _ i _ => n - (intOf i).toNat)
  case atStart => exact ⟨0, none, 0, Nat.zero_le _, rfl, rfl, rfl, OwnV.nil _ _ _ _, Below.refl _ _⟩
  case round =>
    obtain ⟨k, A1, d1, hk, rfl, rfl, rfl, ho, hb⟩ := hrel
    have HO := Lib.hid ho
    have HB := Lib.hid hb
    have HBB := Lib.hid hb
    by_cases hlt : k < n
    · obtain ⟨ad, rfl, hab, hcx⟩ := (HX1.out.below (hb.mono (Nat.le_refl _))).2 (by omega)
      have hc := hcx k hlt
      obtain ⟨ab, rfl, hbb, hcb⟩ := (OB.out.below hb).2 (by omega)
      have hd := hcb k hlt
      rw [bidi_at (by rw [HLEN.out]; exact hlt)] at hd
      obtain ⟨x, hx⟩ : ∃ x, bidiAt xs k = x := ⟨_, rfl⟩
      have XE := Lib.hid hx
      obtain ⟨r, hr⟩ : ∃ r, nth xs k = r := ⟨_, rfl⟩
      have RE := Lib.hid hr
      obtain ⟨s, hs⟩ : ∃ s, nth xs (k + 1) = s := ⟨_, rfl⟩
      have SE := Lib.hid hs
      have hc2 : k + 1 < n → wr.cell? ⟨ad.block, ad.off + (k + 1), none⟩ = some (.int .i32 s) := fun h => by rw [← hs, ← add_succ]; exact hcx (k + 1) h
      rw [hx] at hd
      rw [hr] at hc
      have hpl := par_len xs k
      clear hcx hcb hx hr hs ho hb
      have hfl := frm_le xs k
      by_cases h13 : r = 13
      · subst h13
        by_cases hn1 : k + 1 < n
        · have hc3 := hc2 hn1
          clear hc2
          have l1 : (k : Int) + 1 < n := by omega
          have l2 : ((k : Int) == (n : Int) - 1) = false := by simp; omega
          have l3 : ((k : Int) + 1 == (n : Int)) = false := by simp; omega
          by_cases h10 : s = 10
          · subst h10
            by_cases h11 : x = 11
            · subst h11
              have EB : endB xs k = false := by first | (unfold endB crlfB; rw [XE.out, RE.out, SE.out, HLEN.out]; simp; omega) | (unfold endB crlfB; rw [XE.out, RE.out, SE.out, HLEN.out]; simp [hn1])
              go_wp2_with fail
              have PY := par_no EB
              have FY := frm_no EB
              clear EB
              go_roundw
              case rel =>
                refine ⟨k + 1, A1, d1, by omega, by go_num, ?_, ?_, ?_, HB.out⟩
                · rw [PY]
                · rw [FY]
                · rw [PY]; exact HO.out
              case measure => simp [intOf] <;> omega
            · have n11 : ((x : Int) == 11) = false := by simpa using h11
              have EB : endB xs k = false := by first | (unfold endB crlfB; rw [XE.out, RE.out, SE.out, HLEN.out]; simp; omega) | (unfold endB crlfB; rw [XE.out, RE.out, SE.out, HLEN.out]; simp [hn1, h11])
              go_wp2_with fail
              have PY := par_no EB
              have FY := frm_no EB
              clear EB
              go_roundw
              case rel =>
                refine ⟨k + 1, A1, d1, by omega, by go_num, ?_, ?_, ?_, HB.out⟩
                · rw [PY]
                · rw [FY]
                · rw [PY]; exact HO.out
              case measure => simp [intOf] <;> omega
          · have n10 : ((s : Int) == 10) = false := by simpa using h10
            by_cases h11 : x = 11
            · subst h11
              have EB : endB xs k = true := by first | (unfold endB crlfB; rw [XE.out, RE.out, SE.out, HLEN.out]; simp; omega) | (unfold endB crlfB; rw [XE.out, RE.out, SE.out, HLEN.out]; simp [hn1, h10])
              go_wp2_with (at_builtin; refine wpList_pushV TC rfl (.tmp 48) (.tmp 53) rfl rfl (HO.out.alloc _) rfl (news := [.int .i64 ((frm xs k : Nat) : Int), .int .i64 ((k : Int) + 1)]) rfl (cells_new2 _ _ _ _) (two_one _ _) (by have := par_len xs k; omega) (by have := HB.out.size; simp; omega) ?_; intro A2 d2 w9 hown2 hb2; have hbA := HB.out.alloc (by have := HB.out.size; omega) (.cells #[.int .i64 ((frm xs k : Nat) : Int), .int .i64 ((k : Int) + 1)] 35))
              have hbw := hbA.trans hb2
              have PY := par_yes EB
              have FY := frm_yes EB
              clear EB
              go_roundw
              case rel =>
                refine ⟨k + 1, A2, d2, by omega, by go_num, ?_, ?_, ?_, hbw⟩
                · rw [PY]; simp
                · rw [FY]; first | rfl | go_num
                · rw [PY, ← cutsV_push]; exact ownV_congr hown2 rfl (by simp)
              case measure => simp [intOf] <;> omega
            · have n11 : ((x : Int) == 11) = false := by simpa using h11
              have EB : endB xs k = false := by first | (unfold endB crlfB; rw [XE.out, RE.out, SE.out, HLEN.out]; simp; omega) | (unfold endB crlfB; rw [XE.out, RE.out, SE.out, HLEN.out]; simp [hn1, h11, h10])
              go_wp2_with fail
              have PY := par_no EB
              have FY := frm_no EB
              clear EB
              go_roundw
              case rel =>
                refine ⟨k + 1, A1, d1, by omega, by go_num, ?_, ?_, ?_, HB.out⟩
                · rw [PY]
                · rw [FY]
                · rw [PY]; exact HO.out
              case measure => simp [intOf] <;> omega
        · have l1 : ¬ (k : Int) + 1 < n := by omega
          have l2 : ((k : Int) == (n : Int) - 1) = true := by simp; omega
          have l3 : ((k : Int) + 1 == (n : Int)) = true := by simp; omega
          have hkn : k + 1 = n := by omega
          have HKN := Lib.hid hkn
          clear hc2
          by_cases h11 : x = 11
          · subst h11
            clear hkn
            have EB : endB xs k = true := by first | (unfold endB crlfB; rw [XE.out, RE.out, SE.out, HLEN.out]; simp; omega) | (unfold endB crlfB; rw [XE.out, RE.out, SE.out, HLEN.out]; simp [HKN.out])
            go_wp2_with (at_builtin; refine wpList_pushV TC rfl (.tmp 48) (.tmp 53) rfl rfl (HO.out.alloc _) rfl (news := [.int .i64 ((frm xs k : Nat) : Int), .int .i64 ((k : Int) + 1)]) rfl (cells_new2 _ _ _ _) (two_one _ _) (by have := par_len xs k; omega) (by have := HB.out.size; simp; omega) ?_; intro A2 d2 w9 hown2 hb2; have hbA := HB.out.alloc (by have := HB.out.size; omega) (.cells #[.int .i64 ((frm xs k : Nat) : Int), .int .i64 ((k : Int) + 1)] 35))
            have hbw := hbA.trans hb2
            have PY := par_yes EB
            have FY := frm_yes EB
            clear EB
            go_roundw
            case rel =>
              refine ⟨k + 1, A2, d2, by omega, by go_num, ?_, ?_, ?_, hbw⟩
              · rw [PY]; simp
              · rw [FY]; first | rfl | go_num
              · rw [PY, ← cutsV_push]; exact ownV_congr hown2 rfl (by simp)
            case measure => simp [intOf] <;> omega
          · have n11 : ((x : Int) == 11) = false := by simpa using h11
            clear hkn
            have EB : endB xs k = true := by first | (unfold endB crlfB; rw [XE.out, RE.out, SE.out, HLEN.out]; simp; omega) | (unfold endB crlfB; rw [XE.out, RE.out, SE.out, HLEN.out]; simp [HKN.out])
            go_wp2_with (at_builtin; refine wpList_pushV TC rfl (.tmp 48) (.tmp 53) rfl rfl (HO.out.alloc _) rfl (news := [.int .i64 ((frm xs k : Nat) : Int), .int .i64 ((k : Int) + 1)]) rfl (cells_new2 _ _ _ _) (two_one _ _) (by have := par_len xs k; omega) (by have := HB.out.size; simp; omega) ?_; intro A2 d2 w9 hown2 hb2; have hbA := HB.out.alloc (by have := HB.out.size; omega) (.cells #[.int .i64 ((frm xs k : Nat) : Int), .int .i64 ((k : Int) + 1)] 35))
            have hbw := hbA.trans hb2
            have PY := par_yes EB
            have FY := frm_yes EB
            clear EB
            go_roundw
            case rel =>
              refine ⟨k + 1, A2, d2, by omega, by go_num, ?_, ?_, ?_, hbw⟩
              · rw [PY]; simp
              · rw [FY]; first | rfl | go_num
              · rw [PY, ← cutsV_push]; exact ownV_congr hown2 rfl (by simp)
            case measure => simp [intOf] <;> omega
      · have n13 : ((r : Int) == 13) = false := by simpa using h13
        clear hc2
        by_cases h11 : x = 11
        · subst h11
          have EB : endB xs k = true := by first | (unfold endB crlfB; rw [XE.out, RE.out, SE.out, HLEN.out]; simp; omega) | (unfold endB crlfB; rw [XE.out, RE.out, SE.out, HLEN.out]; simp [h13])
          go_wp2_with (at_builtin; refine wpList_pushV TC rfl (.tmp 48) (.tmp 53) rfl rfl (HO.out.alloc _) rfl (news := [.int .i64 ((frm xs k : Nat) : Int), .int .i64 ((k : Int) + 1)]) rfl (cells_new2 _ _ _ _) (two_one _ _) (by have := par_len xs k; omega) (by have := HB.out.size; simp; omega) ?_; intro A2 d2 w9 hown2 hb2; have hbA := HB.out.alloc (by have := HB.out.size; omega) (.cells #[.int .i64 ((frm xs k : Nat) : Int), .int .i64 ((k : Int) + 1)] 35))
          have hbw := hbA.trans hb2
          have PY := par_yes EB
          have FY := frm_yes EB
          clear EB
          go_roundw
          case rel =>
            refine ⟨k + 1, A2, d2, by omega, by go_num, ?_, ?_, ?_, hbw⟩
            · rw [PY]; simp
            · rw [FY]; first | rfl | go_num
            · rw [PY, ← cutsV_push]; exact ownV_congr hown2 rfl (by simp)
          case measure => simp [intOf] <;> omega
        · have n11 : ((x : Int) == 11) = false := by simpa using h11
          by_cases hkn : k + 1 = n
          · have l2 : ((k : Int) == (n : Int) - 1) = true := by simp; omega
            have l3 : ((k : Int) + 1 == (n : Int)) = true := by simp; omega
            have HKN := Lib.hid hkn
            clear hkn
            have EB : endB xs k = true := by first | (unfold endB crlfB; rw [XE.out, RE.out, SE.out, HLEN.out]; simp; omega) | (unfold endB crlfB; rw [XE.out, RE.out, SE.out, HLEN.out]; simp [HKN.out])
            go_wp2_with (at_builtin; refine wpList_pushV TC rfl (.tmp 48) (.tmp 53) rfl rfl (HO.out.alloc _) rfl (news := [.int .i64 ((frm xs k : Nat) : Int), .int .i64 ((k : Int) + 1)]) rfl (cells_new2 _ _ _ _) (two_one _ _) (by have := par_len xs k; omega) (by have := HB.out.size; simp; omega) ?_; intro A2 d2 w9 hown2 hb2; have hbA := HB.out.alloc (by have := HB.out.size; omega) (.cells #[.int .i64 ((frm xs k : Nat) : Int), .int .i64 ((k : Int) + 1)] 35))
            have hbw := hbA.trans hb2
            have PY := par_yes EB
            have FY := frm_yes EB
            clear EB
            go_roundw
            case rel =>
              refine ⟨k + 1, A2, d2, by omega, by go_num, ?_, ?_, ?_, hbw⟩
              · rw [PY]; simp
              · rw [FY]; first | rfl | go_num
              · rw [PY, ← cutsV_push]; exact ownV_congr hown2 rfl (by simp)
            case measure => simp [intOf] <;> omega
          · have l2 : ((k : Int) == (n : Int) - 1) = false := by simp; omega
            have l3 : ((k : Int) + 1 == (n : Int)) = false := by simp; omega
            have EB : endB xs k = false := by first | (unfold endB crlfB; rw [XE.out, RE.out, SE.out, HLEN.out]; simp; omega) | (unfold endB crlfB; rw [XE.out, RE.out, SE.out, HLEN.out]; simp [h11, hkn])
            go_wp2_with fail
            have PY := par_no EB
            have FY := frm_no EB
            clear EB
            go_roundw
            case rel =>
              refine ⟨k + 1, A1, d1, by omega, by go_num, ?_, ?_, ?_, HB.out⟩
              · rw [PY]
              · rw [FY]
              · rw [PY]; exact HO.out
            case measure => simp [intOf] <;> omega
    · obtain rfl : k = n := by omega
      have hxk : paras xs = par xs k := by unfold paras; rw [HLEN.out]
      go_wp2_with fail
      go_ret
      exact ⟨A1, d1, by rw [hxk]; rfl, by rw [hxk]; exact HO.out.moreB hsz1, HB1.out.trans (HBB.out.mono hsz1)⟩

set_option maxHeartbeats 4000000 in
theorem rParas_any (A : Option Addr) (n c : Nat) (xs : List Int) (w : World) (hx : SliceIn .i32 w A n c xs) (hn : n * 16 ≤ 140737488355328) :
    Calls Tryd.prog 19 #[.slice A n c] w (NewCuts w (paras xs)) := by
  have PB := Lib.hid (rBidi_any A n c xs w hx (by omega))
  have HX := Lib.hid hx.at_
  have HLEN := Lib.hid hx.at_.len
  clear hx
  go_enter Tryd.func19, Tryd.ntmps19
  go_wp2_with fail
  refine PB.out.mono ?_
  rintro e w1 ⟨Ab, cb, rfl, hob, hb1⟩
  have OB := Lib.hid hob.ints
  have HX1 := Lib.hid (HX.out.later hb1)
  have hsz1 := hb1.size
  have HB1 := Lib.hid hb1
  clear hob hb1 PB
  go_wp2_with fail
  go_loopw [3, 5, 6] (fun u v i wr => ∃ (k : Nat) (A1 : Option Addr) (d1 : Nat), k ≤ n ∧ i = .int .i64 k ∧ u = .slice A1 (par xs k).length d1 ∧ v = .int .i64 ((frm xs k : Nat) : Int) ∧ OwnV wr w1.heap.size 35 2 A1 (par xs k).length d1 (cutsV (par xs k)) ∧ Below w1.heap.size w1 wr) (fun _ _ i _ => n - (intOf i).toNat)
  case atStart => exact ⟨0, none, 0, Nat.zero_le _, rfl, rfl, rfl, OwnV.nil _ _ _ _, Below.refl _ _⟩
  case round =>
    obtain ⟨k, A1, d1, hk, rfl, rfl, rfl, ho, hb⟩ := hrel
    have HO := Lib.hid ho
    have HB := Lib.hid hb
    have HBB := Lib.hid hb
    by_cases hlt : k < n
    · obtain ⟨ad, rfl, hab, hcx⟩ := (HX1.out.below (hb.mono (Nat.le_refl _))).2 (by omega)
      have hc := hcx k hlt
      obtain ⟨ab, rfl, hbb, hcb⟩ := (OB.out.below hb).2 (by omega)
      have hd := hcb k hlt
      rw [bidi_at (by rw [HLEN.out]; exact hlt)] at hd
      obtain ⟨x, hx⟩ : ∃ x, bidiAt xs k = x := ⟨_, rfl⟩
      have XE := Lib.hid hx
      obtain ⟨r, hr⟩ : ∃ r, nth xs k = r := ⟨_, rfl⟩
      have RE := Lib.hid hr
      obtain ⟨s, hs⟩ : ∃ s, nth xs (k + 1) = s := ⟨_, rfl⟩
      have SE := Lib.hid hs
      have hc2 : k + 1 < n → wr.cell? ⟨ad.block, ad.off + (k + 1), none⟩ = some (.int .i32 s) := fun h => by rw [← hs, ← add_succ]; exact hcx (k + 1) h
      rw [hx] at hd
      rw [hr] at hc
      have hpl := par_len xs k
      clear hcx hcb hx hr hs ho hb
      have hfl := frm_le xs k
      by_cases h13 : r = 13
      · subst h13
        by_cases hn1 : k + 1 < n
        · have hc3 := hc2 hn1
          clear hc2
          have l1 : (k : Int) + 1 < n := by omega
          have l2 : ((k : Int) == (n : Int) - 1) = false := by simp; omega
          have l3 : ((k : Int) + 1 == (n : Int)) = false := by simp; omega
          by_cases h10 : s = 10
          · subst h10
            by_cases h11 : x = 11
            · subst h11
              have EB : endB xs k = false := by first | (unfold endB crlfB; rw [XE.out, RE.out, SE.out, HLEN.out]; simp; omega) | (unfold endB crlfB; rw [XE.out, RE.out, SE.out, HLEN.out]; simp [hn1])
              go_wp2_with fail
              have PY := par_no EB
              have FY := frm_no EB
              clear EB
              go_roundw
              case rel =>
                refine ⟨k + 1, A1, d1, by omega, by go_num, ?_, ?_, ?_, HB.out⟩
                · rw [PY]
                · rw [FY]
                · rw [PY]; exact HO.out
              case measure => simp [intOf] <;> omega
            · have n11 : ((x : Int) == 11) = false := by simpa using h11
              have EB : endB xs k = false := by first | (unfold endB crlfB; rw [XE.out, RE.out, SE.out, HLEN.out]; simp; omega) | (unfold endB crlfB; rw [XE.out, RE.out, SE.out, HLEN.out]; simp [hn1, h11])
              go_wp2_with fail
              have PY := par_no EB
              have FY := frm_no EB
              clear EB
              go_roundw
              case rel =>
                refine ⟨k + 1, A1, d1, by omega, by go_num, ?_, ?_, ?_, HB.out⟩
                · rw [PY]
                · rw [FY]
                · rw [PY]; exact HO.out
              case measure => simp [intOf] <;> omega
          · have n10 : ((s : Int) == 10) = false := by simpa using h10
            by_cases h11 : x = 11
            · subst h11
              have EB : endB xs k = true := by first | (unfold endB crlfB; rw [XE.out, RE.out, SE.out, HLEN.out]; simp; omega) | (unfold endB crlfB; rw [XE.out, RE.out, SE.out, HLEN.out]; simp [hn1, h10])
              go_wp2_with (at_builtin; refine wpList_pushV TC rfl (.tmp 50) (.tmp 55) rfl rfl (HO.out.alloc _) rfl (news := [.int .i64 ((frm xs k : Nat) : Int), .int .i64 ((k : Int) + 1)]) rfl (cells_new2 _ _ _ _) (two_one _ _) (by have := par_len xs k; omega) (by have := HB.out.size; simp; omega) ?_; intro A2 d2 w9 hown2 hb2; have hbA := HB.out.alloc (by have := HB.out.size; omega) (.cells #[.int .i64 ((frm xs k : Nat) : Int), .int .i64 ((k : Int) + 1)] 35))
              have hbw := hbA.trans hb2
              have PY := par_yes EB
              have FY := frm_yes EB
              clear EB
              go_roundw
              case rel =>
                refine ⟨k + 1, A2, d2, by omega, by go_num, ?_, ?_, ?_, hbw⟩
                · rw [PY]; simp
                · rw [FY]; first | rfl | go_num
                · rw [PY, ← cutsV_push]; exact ownV_congr hown2 rfl (by simp)
              case measure => simp [intOf] <;> omega
            · have n11 : ((x : Int) == 11) = false := by simpa using h11
              have EB : endB xs k = false := by first | (unfold endB crlfB; rw [XE.out, RE.out, SE.out, HLEN.out]; simp; omega) | (unfold endB crlfB; rw [XE.out, RE.out, SE.out, HLEN.out]; simp [hn1, h11, h10])
              go_wp2_with fail
              have PY := par_no EB
              have FY := frm_no EB
              clear EB
              go_roundw
              case rel =>
                refine ⟨k + 1, A1, d1, by omega, by go_num, ?_, ?_, ?_, HB.out⟩
                · rw [PY]
                · rw [FY]
                · rw [PY]; exact HO.out
              case measure => simp [intOf] <;> omega
        · have l1 : ¬ (k : Int) + 1 < n := by omega
          have l2 : ((k : Int) == (n : Int) - 1) = true := by simp; omega
          have l3 : ((k : Int) + 1 == (n : Int)) = true := by simp; omega
          have hkn : k + 1 = n := by omega
          have HKN := Lib.hid hkn
          clear hc2
          by_cases h11 : x = 11
          · subst h11
            clear hkn
            have EB : endB xs k = true := by first | (unfold endB crlfB; rw [XE.out, RE.out, SE.out, HLEN.out]; simp; omega) | (unfold endB crlfB; rw [XE.out, RE.out, SE.out, HLEN.out]; simp [HKN.out])
            go_wp2_with (at_builtin; refine wpList_pushV TC rfl (.tmp 50) (.tmp 55) rfl rfl (HO.out.alloc _) rfl (news := [.int .i64 ((frm xs k : Nat) : Int), .int .i64 ((k : Int) + 1)]) rfl (cells_new2 _ _ _ _) (two_one _ _) (by have := par_len xs k; omega) (by have := HB.out.size; simp; omega) ?_; intro A2 d2 w9 hown2 hb2; have hbA := HB.out.alloc (by have := HB.out.size; omega) (.cells #[.int .i64 ((frm xs k : Nat) : Int), .int .i64 ((k : Int) + 1)] 35))
            have hbw := hbA.trans hb2
            have PY := par_yes EB
            have FY := frm_yes EB
            clear EB
            go_roundw
            case rel =>
              refine ⟨k + 1, A2, d2, by omega, by go_num, ?_, ?_, ?_, hbw⟩
              · rw [PY]; simp
              · rw [FY]; first | rfl | go_num
              · rw [PY, ← cutsV_push]; exact ownV_congr hown2 rfl (by simp)
            case measure => simp [intOf] <;> omega
          · have n11 : ((x : Int) == 11) = false := by simpa using h11
            clear hkn
            have EB : endB xs k = true := by first | (unfold endB crlfB; rw [XE.out, RE.out, SE.out, HLEN.out]; simp; omega) | (unfold endB crlfB; rw [XE.out, RE.out, SE.out, HLEN.out]; simp [HKN.out])
            go_wp2_with (at_builtin; refine wpList_pushV TC rfl (.tmp 50) (.tmp 55) rfl rfl (HO.out.alloc _) rfl (news := [.int .i64 ((frm xs k : Nat) : Int), .int .i64 ((k : Int) + 1)]) rfl (cells_new2 _ _ _ _) (two_one _ _) (by have := par_len xs k; omega) (by have := HB.out.size; simp; omega) ?_; intro A2 d2 w9 hown2 hb2; have hbA := HB.out.alloc (by have := HB.out.size; omega) (.cells #[.int .i64 ((frm xs k : Nat) : Int), .int .i64 ((k : Int) + 1)] 35))
            have hbw := hbA.trans hb2
            have PY := par_yes EB
            have FY := frm_yes EB
            clear EB
            go_roundw
            case rel =>
              refine ⟨k + 1, A2, d2, by omega, by go_num, ?_, ?_, ?_, hbw⟩
              · rw [PY]; simp
              · rw [FY]; first | rfl | go_num
              · rw [PY, ← cutsV_push]; exact ownV_congr hown2 rfl (by simp)
            case measure => simp [intOf] <;> omega
      · have n13 : ((r : Int) == 13) = false := by simpa using h13
        clear hc2
        by_cases h11 : x = 11
        · subst h11
          have EB : endB xs k = true := by first | (unfold endB crlfB; rw [XE.out, RE.out, SE.out, HLEN.out]; simp; omega) | (unfold endB crlfB; rw [XE.out, RE.out, SE.out, HLEN.out]; simp [h13])
          go_wp2_with (at_builtin; refine wpList_pushV TC rfl (.tmp 50) (.tmp 55) rfl rfl (HO.out.alloc _) rfl (news := [.int .i64 ((frm xs k : Nat) : Int), .int .i64 ((k : Int) + 1)]) rfl (cells_new2 _ _ _ _) (two_one _ _) (by have := par_len xs k; omega) (by have := HB.out.size; simp; omega) ?_; intro A2 d2 w9 hown2 hb2; have hbA := HB.out.alloc (by have := HB.out.size; omega) (.cells #[.int .i64 ((frm xs k : Nat) : Int), .int .i64 ((k : Int) + 1)] 35))
          have hbw := hbA.trans hb2
          have PY := par_yes EB
          have FY := frm_yes EB
          clear EB
          go_roundw
          case rel =>
            refine ⟨k + 1, A2, d2, by omega, by go_num, ?_, ?_, ?_, hbw⟩
            · rw [PY]; simp
            · rw [FY]; first | rfl | go_num
            · rw [PY, ← cutsV_push]; exact ownV_congr hown2 rfl (by simp)
          case measure => simp [intOf] <;> omega
        · have n11 : ((x : Int) == 11) = false := by simpa using h11
          by_cases hkn : k + 1 = n
          · have l2 : ((k : Int) == (n : Int) - 1) = true := by simp; omega
            have l3 : ((k : Int) + 1 == (n : Int)) = true := by simp; omega
            have HKN := Lib.hid hkn
            clear hkn
            have EB : endB xs k = true := by first | (unfold endB crlfB; rw [XE.out, RE.out, SE.out, HLEN.out]; simp; omega) | (unfold endB crlfB; rw [XE.out, RE.out, SE.out, HLEN.out]; simp [HKN.out])
            go_wp2_with (at_builtin; refine wpList_pushV TC rfl (.tmp 50) (.tmp 55) rfl rfl (HO.out.alloc _) rfl (news := [.int .i64 ((frm xs k : Nat) : Int), .int .i64 ((k : Int) + 1)]) rfl (cells_new2 _ _ _ _) (two_one _ _) (by have := par_len xs k; omega) (by have := HB.out.size; simp; omega) ?_; intro A2 d2 w9 hown2 hb2; have hbA := HB.out.alloc (by have := HB.out.size; omega) (.cells #[.int .i64 ((frm xs k : Nat) : Int), .int .i64 ((k : Int) + 1)] 35))
            have hbw := hbA.trans hb2
            have PY := par_yes EB
            have FY := frm_yes EB
            clear EB
            go_roundw
            case rel =>
              refine ⟨k + 1, A2, d2, by omega, by go_num, ?_, ?_, ?_, hbw⟩
              · rw [PY]; simp
              · rw [FY]; first | rfl | go_num
              · rw [PY, ← cutsV_push]; exact ownV_congr hown2 rfl (by simp)
            case measure => simp [intOf] <;> omega
          · have l2 : ((k : Int) == (n : Int) - 1) = false := by simp; omega
            have l3 : ((k : Int) + 1 == (n : Int)) = false := by simp; omega
            have EB : endB xs k = false := by first | (unfold endB crlfB; rw [XE.out, RE.out, SE.out, HLEN.out]; simp; omega) | (unfold endB crlfB; rw [XE.out, RE.out, SE.out, HLEN.out]; simp [h11, hkn])
            go_wp2_with fail
            have PY := par_no EB
            have FY := frm_no EB
            clear EB
            go_roundw
            case rel =>
              refine ⟨k + 1, A1, d1, by omega, by go_num, ?_, ?_, ?_, HB.out⟩
              · rw [PY]
              · rw [FY]
              · rw [PY]; exact HO.out
            case measure => simp [intOf] <;> omega
    · obtain rfl : k = n := by omega
      have hxk : paras xs = par xs k := by unfold paras; rw [HLEN.out]
      go_wp2_with fail
      go_ret
      exact ⟨A1, d1, by rw [hxk]; rfl, by rw [hxk]; exact HO.out.moreB hsz1, HB1.out.trans (HBB.out.mono hsz1)⟩
end Go.Proofs.YtilbcafkjpikgaaDoor
