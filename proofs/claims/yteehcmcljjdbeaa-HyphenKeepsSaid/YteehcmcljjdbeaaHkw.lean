/- Chapter 20: capital letters, even digits, the example, texts appended. -/
import Derived.Test.YteehcmcljjdbeaaHplw
import Derived.Test.YteehcmcljjdbeaaHkl
namespace Go.Proofs.Yteehcmcljjdbeaa
open Go.ChangeShapes Go.WideShapes Go.ChangeAt Go.RowKit
set_option maxRecDepth 100000
set_option linter.unusedSimpArgs false

theorem great20_wf {r : Int} (h : (Lit.int .i32 r).wf = true) : (Lit.int .i32 (great20 r)).wf = true := by
  obtain ⟨h1, h2⟩ := bounds_i32 h
  have h8 : IntKind.i32.min ≤ great20 r ∧ great20 r ≤ IntKind.i32.max := by
    show (-2147483648 : Int) ≤ _ ∧ _ ≤ (2147483647 : Int)
    unfold great20
    split <;> omega
  simpa [Lit.wf] using h8
theorem great_succ {xs : List Int} {k : Nat} (h : k < xs.length) : (xs.take (k + 1)).map great20 = (xs.take k).map great20 ++ [great20 (nth xs k)] := by
  rw [List.take_succ_eq_append_getElem h, List.map_append, nth_eq h]; rfl
set_option maxHeartbeats 2000000 in
theorem great_any (A : Option Addr) (n c : Nat) (xs : List Int) (w : World) (hx : SliceIn .i32 w A n c xs) (hn : n ≤ 1000) :
    Calls Try.prog 21 #[.slice A n c] w (NewInts w 21 .i32 n (xs.map great20)) := by
  have HX : Shut _ := ⟨hx⟩
  have HLEN : Shut _ := ⟨hx.at_.len⟩
  clear hx
  go_enter Try.func21, Try.ntmps21
  go_wp2_with fail
  go_loopg [3, 4, 5] (n + 1) (fun gg v3 v4 v5 wr => ∃ (k : Nat) (A1 : Option Addr) (c1 : Nat), n - k < gg ∧ k ≤ n ∧ v3 = .slice A1 k c1 ∧ v4 = .int .i64 (k : Int) ∧ Shut (Own wr w.heap.size 21 .i32 A1 k c1 ((xs.take k).map great20)) ∧ Shut (Below w.heap.size w wr))
  case atStart => exact ⟨0, none, 0, by omega, by omega, rfl, rfl, ⟨Own.nil _ _ _ _⟩, ⟨Below.refl _ _⟩⟩
  case round =>
    obtain ⟨k, A1, c1, hg, hk, rfl, rfl, O1, B1⟩ := hrel
    by_cases hlt : k < n
    · obtain ⟨ad, rfl, hab, hcx⟩ := (HX.out.passT B1.out).at_.2 (by omega)
      have hc := hcx k hlt
      obtain ⟨r1, r2⟩ := bounds_i32 (HX.out.nth_wf hlt)
      have DS : Shut _ := ⟨great_succ (xs := xs) (k := k) (by rw [HLEN.out]; exact hlt)⟩
      have hz := B1.out.size
      generalize nth xs k = r at *
      clear hcx hab
      have G : Shut (great20 r = if 97 ≤ r ∧ r ≤ 122 then r - 32 else r) := ⟨rfl⟩
      by_cases h1 : 97 ≤ r
      · by_cases h2 : r ≤ 122
        · have G2 : Shut (great20 r = r - 97 + 65) := ⟨by rw [G.out, if_pos ⟨h1, h2⟩]; omega⟩
          rw [G2.out] at DS
          go_wp2_with (at_builtin; refine wpList_push TI32h rfl (.tmp 25) (.tmp 27) rfl rfl (Own.alloc O1.out _) rfl (cell_new _ _ _) (by omega) (by simp; omega) ?_; intro A2 c2 w3 o3 b3)
          rw [← DS.out] at o3
          have O3 : Shut _ := ⟨o3⟩
          have B3 : Shut (Below w.heap.size w w3) := ⟨(B1.out.alloc hz _).trans b3⟩
          clear o3 b3
          go_roundg (n - k)
          case measure => omega
          case rel => exact ⟨k + 1, A2, c2, by omega, by omega, rfl, by go_num, O3, B3⟩
        · have G2 : Shut (great20 r = r) := ⟨by rw [G.out, if_neg (fun h => h2 h.2)]⟩
          rw [G2.out] at DS
          go_wp2_with (at_builtin; refine wpList_push TI32h rfl (.tmp 25) (.tmp 27) rfl rfl (Own.alloc O1.out _) rfl (cell_new _ _ _) (by omega) (by simp; omega) ?_; intro A2 c2 w3 o3 b3)
          rw [← DS.out] at o3
          have O3 : Shut _ := ⟨o3⟩
          have B3 : Shut (Below w.heap.size w w3) := ⟨(B1.out.alloc hz _).trans b3⟩
          clear o3 b3
          go_roundg (n - k)
          case measure => omega
          case rel => exact ⟨k + 1, A2, c2, by omega, by omega, rfl, by go_num, O3, B3⟩
      · have G2 : Shut (great20 r = r) := ⟨by rw [G.out, if_neg (fun h => h1 h.1)]⟩
        rw [G2.out] at DS
        go_wp2_with (at_builtin; refine wpList_push TI32h rfl (.tmp 25) (.tmp 27) rfl rfl (Own.alloc O1.out _) rfl (cell_new _ _ _) (by omega) (by simp; omega) ?_; intro A2 c2 w3 o3 b3)
        rw [← DS.out] at o3
        have O3 : Shut _ := ⟨o3⟩
        have B3 : Shut (Below w.heap.size w w3) := ⟨(B1.out.alloc hz _).trans b3⟩
        clear o3 b3
        go_roundg (n - k)
        case measure => omega
        case rel => exact ⟨k + 1, A2, c2, by omega, by omega, rfl, by go_num, O3, B3⟩
    · obtain rfl : k = n := by omega
      have hO := O1.out
      rw [List.take_of_length_le (by rw [HLEN.out]; exact Nat.le_refl _)] at hO
      have O2 : Shut _ := ⟨hO⟩
      clear hO hlt
      go_wp2_with fail
      go_ret
      exact ⟨A1, c1, rfl, O2.out, B1.out⟩

theorem even_true {ds : List Int} (h : ∀ j, j < ds.length → nth ds j % 2 = 0) : evenB ds = true := by
  unfold evenB
  rw [List.all_eq_true]
  intro d hd
  obtain ⟨j, hj, rfl⟩ := List.getElem_of_mem hd
  have := h j hj
  rw [nth_eq hj] at this
  simp [this]
theorem even_false {ds : List Int} {j : Nat} (hj : j < ds.length) (h : nth ds j % 2 ≠ 0) : evenB ds = false := by
  unfold evenB
  rw [Bool.eq_false_iff]
  intro h2
  have := List.all_eq_true.1 h2 (nth ds j) (by rw [nth_eq hj]; exact List.getElem_mem ..)
  exact h (by simpa using this)
set_option maxHeartbeats 1000000 in
theorem even_any (A : Option Addr) (n c : Nat) (ds : List Int) (w : World) (hx : IntsAt w w.heap.size .i64 A n ds) (hn : n ≤ 100000) (hd : ∀ d ∈ ds, 0 ≤ d ∧ d ≤ 9) :
    Calls Try.prog 22 #[.slice A n c] w fun e w' => e = .returned (.bool (evenB ds)) ∧ w = w' := by
  have HX : Shut _ := ⟨hx⟩
  have HLEN : Shut _ := ⟨hx.len⟩
  have HD : Shut _ := ⟨hd⟩
  clear hx hd
  go_enter Try.func22, Try.ntmps22
  go_wp2_with fail
  go_loopg [3] (n + 1) (fun gg v wr => ∃ i : Nat, n - i < gg ∧ i ≤ n ∧ v = .int .i64 (i : Int) ∧ Shut (∀ j, j < i → nth ds j % 2 = 0) ∧ wr = w)
  case atStart => exact ⟨0, by omega, by omega, rfl, ⟨fun j h => by omega⟩, rfl⟩
  case round =>
    obtain ⟨i, hg, hi, rfl, ALL, rfl⟩ := hrel
    by_cases hlt : i < n
    · obtain ⟨ad, rfl, hab, hcx⟩ := HX.out.2 (by omega)
      have hc := hcx i hlt
      have hil : i < ds.length := by rw [HLEN.out]; exact hlt
      obtain ⟨d0, d9⟩ := HD.out (nth ds i) (by rw [nth_eq hil]; exact List.getElem_mem ..)
      have NX : Shut (nth ds i % 2 = 0 → ∀ j, j < i + 1 → nth ds j % 2 = 0) := ⟨fun h j hj => by
        rcases Nat.lt_or_ge j i with h3 | h3
        · exact ALL.out j h3
        · obtain rfl : j = i := by omega
          exact h⟩
      have NO : Shut (nth ds i % 2 ≠ 0 → evenB ds = false) := ⟨fun h => even_false hil h⟩
      generalize nth ds i = x at *
      clear hcx hab hil
      cases hb : (x % 2 != 0) with
      | true =>
        have E : Shut _ := ⟨NO.out (by simpa using hb)⟩
        go_wp2_with fail
        go_ret
        exact ⟨retb E.out.symm, rfl⟩
      | false =>
        have E : Shut _ := ⟨NX.out (by simpa using hb)⟩
        go_wp2_with fail
        go_roundg (n - i)
        case measure => omega
        case rel => exact ⟨i + 1, by omega, by omega, by go_num, E, rfl⟩
    · obtain rfl : i = n := by omega
      have E : Shut (evenB ds = true) := ⟨even_true fun j hj => ALL.out j (by rw [← HLEN.out]; exact hj)⟩
      go_wp2_with fail
      go_ret
      exact ⟨retb E.out.symm, rfl⟩

/-- the texts of a slice that the call made -/
theorem strsIn_own {w : World} {B n c : Nat} {A : Option Addr} {ss : List ByteArray} (h : OwnV w B 9 1 A n c (ss.map Value.string)) : StrsIn w A n c ss := by
  have hl : ss.length = n := by have := h.1; simpa using this
  refine ⟨hl, OwnV.le h, fun hn => ?_⟩
  obtain ⟨g, rfl, _, hlt⟩ := OwnV.form h hn
  refine ⟨_, rfl, hlt, fun j hj => ?_⟩
  rw [add_zero_at, OwnV.cellAt h j (by omega)]
  have : j < ss.length := by omega
  simp [List.getElem?_map, this]
/-- append of texts that came in to nothing -/
theorem wpList_appendS {w : World} {ops : Array Oper} {rest : List Oper} {o : Oper} {a : Act} {Q : Exit → Act → World → Prop} (hgd : o.guard = none) (s x : Operand)
    (ho : o.op = .call { callee := .builtin .append, args := #[s, x], argTypes := #[31, 31] }) (hs : a.eval s = .slice none 0 0)
    {C : Option Addr} {m d : Nat} {ss : List ByteArray} (hx : a.eval x = .slice C m d) (hy : StrsIn w C m d ss) (hn : m ≤ 1000000)
    (h : ∀ A' c' w', OwnV w' w.heap.size 9 1 A' m c' (ss.map Value.string) → Below w.heap.size w w' → wpList Try.prog ops Q rest (a.put o.dst (.slice A' m c')) w') : wpList Try.prog ops Q (o :: rest) a w := by
  obtain ⟨i, z, hi, hz, hsz, hby, hzs⟩ := TS.info
  cases C with
  | none =>
    obtain rfl : m = 0 := by
      rcases Nat.eq_zero_or_pos m with h0 | h0
      · exact h0
      · obtain ⟨_, he, _⟩ := hy.at_ h0; cases he
    obtain rfl : ss = [] := List.eq_nil_of_length_eq_zero hy.len
    refine wpList_plain hgd fun K hK => ?_
    have hrun := run_append_nothing (P := Try.prog) w 31 31 o.type 9 i TS.ht hi none 0 0 (Nat.le_refl _) (.slice none 0 d) (Src.ofNil (size := i.size) (w := w) TS.ht d)
    unfold Oper.wp execOp
    simp only [ho, resolve, invoke, builtin, Sem.run_bind, Sem.run_pure, Result.andThen_ok, List.map_toArray, List.map_cons, List.map_nil, hs, hx, hrun]
    exact hK _ _ (h none 0 w (OwnV.nil _ _ _ _) (Below.refl _ _))
  | some ad =>
    refine wpList_append_own w hgd s x _ ho w.heap.size 9 i z 1 16 TS.ht hi hz hsz hby hzs TS.pos (.slice none 0 0) 0 [] hs (OwnV.nil w w.heap.size 9 1) ad m d (ss.map Value.string) hx (by simp [hy.len]) (fun j u hu => ?_) (fun u hu => ?_) (by unfold maxLen; omega) (by omega) (Nat.le_refl _) ?_
    · have hj : j < ss.length := by
        have := (List.getElem?_eq_some_iff.1 hu).1
        simpa using this
      obtain ⟨ad', he, _, hc⟩ := hy.at_ (by rw [← hy.len]; omega)
      obtain rfl : ad = ad' := Option.some.inj he
      rw [hc j (by rw [← hy.len]; exact hj), ← hu, List.getElem?_map, List.getElem?_eq_getElem hj, List.getD_eq_getElem?_getD, List.getElem?_eq_getElem hj]
      rfl
    · obtain ⟨y, _, rfl⟩ := List.mem_map.1 hu
      rfl
    · intro v' w' h1 h2 _
      obtain ⟨A', c', rfl⟩ : ∃ A' c', v' = .slice A' m c' := by
        rcases h1.2 with ⟨hv, h0⟩ | ⟨g, cap, cur, hv, _⟩
        · exact ⟨none, 0, by rw [hv]; congr 1; omega⟩
        · exact ⟨_, _, by rw [hv]; congr 1; omega⟩
      refine h A' c' w' ?_ (OwnV.below_of_grown (OwnV.nil w w.heap.size 9 1) h2 (Nat.le_refl _))
      have h3 := h1
      rw [Nat.zero_add, List.nil_append] at h3
      exact h3

set_option maxHeartbeats 2000000 in
theorem alive20_any (w : World) : Calls Try.prog 20 #[] w fun e w' => e = .returned (.bool true) ∧ Below w.heap.size w w' := by
  have S0 : Shut (StrsIn (w.alloc (.cells #[.string ⟨#[49, 98]⟩] 9)) (some ⟨w.heap.size, 0, none⟩) 1 1 [exS]) := ⟨⟨rfl, Nat.le_refl _, fun _ => ⟨_, rfl, by simp, fun j hj => by
    obtain rfl : j = 0 := by omega
    exact cell_new _ _ _⟩⟩⟩
  have PN : Shut _ := ⟨pnew_any (some ⟨w.heap.size, 0, none⟩) 1 1 [exS] _ S0.out (by omega) (fun s h => by obtain rfl := List.mem_singleton.1 h; decide)⟩
  rw [ex_new] at PN
  unfold NewPost at PN
  have EL : Shut (PatsOk [([98], [1, 0])]) := ⟨(newF_ok _ _ _ _ ex_new PatsOk.nil).1⟩
  go_enter Try.func20, Try.ntmps20
  go_wp2_with fail
  refine PN.out.mono ?_
  rintro e w1 ⟨b0, N, node, kids, rfl, t1, b1⟩
  have B1 : Shut (Below w.heap.size w w1) := ⟨(below_alloc w _).trans (b1.mono (by simp))⟩
  have T1 : Shut _ := ⟨t1⟩
  clear b1 t1 PN S0
  go_wp2_with fail
  refine (num20_any _ _).mono ?_
  rintro e w2 ⟨rfl, b2⟩
  have B2 : Shut (Below w.heap.size w w2) := ⟨B1.out.trans (b2.mono B1.out.size)⟩
  have T2 : Shut _ := ⟨T1.out.pass b2⟩
  clear b2 T1 B1
  have SI : Shut (SliceIn .i32 (w2.alloc (.cells #[.int .i32 97, .int .i32 97, .int .i32 98, .int .i32 97, .int .i32 97] 21)) (some ⟨w2.heap.size, 0, none⟩) 5 5 [97, 97, 98, 97, 97]) := ⟨lit_in [97, 97, 98, 97, 97] 5 rfl (by omega) (by decide) _ rfl⟩
  have T3 : Shut _ := ⟨T2.out.pass (below_alloc w2 (.cells #[.int .i32 97, .int .i32 97, .int .i32 98, .int .i32 97, .int .i32 97] 21))⟩
  have hz2 := B2.out.size
  have B3 : Shut (Below w.heap.size w (w2.alloc (.cells #[.int .i32 97, .int .i32 97, .int .i32 98, .int .i32 97, .int .i32 97] 21))) := ⟨B2.out.alloc hz2 _⟩
  go_wp2_with fail
  refine (ppoints_any _ _ b0 N _ EL.out node kids T3.out _ 5 5 _ SI.out (by omega)).mono ?_
  rintro e w4 ⟨out, hp, ho, A4, c4, rfl, own4, b4⟩
  obtain rfl := ex_points hp
  have B4 : Shut (Below w.heap.size w w4) := ⟨B3.out.trans (b4.mono B3.out.size)⟩
  have hz4 := B4.out.size
  have B5 : Shut (Below w.heap.size w (w4.alloc (.cells #[.int .i64 2] 3))) := ⟨B4.out.alloc hz4 _⟩
  have O5 : Shut _ := ⟨(Own.alloc own4 (.cells #[.int .i64 2] 3)).ints⟩
  have I5 : Shut _ := ⟨(own_one w4 3 .i64 w4.heap.size (Nat.le_refl _) 2).ints⟩
  have SM : Shut _ := ⟨same01_any A4 (some ⟨w4.heap.size, 0, none⟩) 1 1 c4 1 [2] [2] _ O5.out I5.out (by omega) (by omega)⟩
  rw [show (([2] : List Int) == [2]) = true from rfl] at SM
  clear own4 b4 hp ho T2 T3 SI EL O5 I5 B2 B3 B4
  go_wp2_with fail
  refine SM.out.mono ?_
  rintro e w6 ⟨rfl, b6⟩
  have B6 : Shut _ := ⟨B5.out.trans (b6.mono B5.out.size)⟩
  clear b6
  go_wp2_with fail
  go_ret
  exact ⟨rfl, B6.out⟩
end Go.Proofs.Yteehcmcljjdbeaa
