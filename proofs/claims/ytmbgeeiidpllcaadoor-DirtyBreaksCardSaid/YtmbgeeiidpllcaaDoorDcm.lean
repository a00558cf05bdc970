/- Chapter 52: the boundaries of clusters, marked at each place, both ways. -/
import Derived.Test.YtmbgeeiidpllcaaDoorGi
import Derived.Test.YtmbgeeiidpllcaaDoorDs
import Derived.Test.YtmbgeeiidpllcaaDoorForms
namespace Go.Proofs.YtmbgeeiidpllcaaDoor
open Go.ChangeShapes Go.WideShapes Go.ChangeAt Go.RowKit
set_option maxRecDepth 100000
set_option linter.unusedSimpArgs false

/-- make([]T, n) of elements of one cell -/
theorem wpList_makeVs {P : Program} {w : World} {ops : Array Oper} {rest : List Oper} {o : Oper} {a : Act} {Q : Exit → Act → World → Prop} {t e : TypeId} {bytes : Nat} {z0 : Value} (T : SliceOf P t e 1 bytes) (hz0 : (P.info? e).map (·.zero) = some (some z0)) (hc0 : z0.cells = #[z0]) (hgd : o.guard = none) (l c : Operand)
    (ho : o.op = .makeSlice t l c) {kl kc : IntKind} {L C : Int} (n : Nat) (hl : a.eval l = .int kl L) (hc : a.eval c = .int kc C) (hL : L = (n : Int)) (hC : C = (n : Int)) (hn : n * bytes ≤ 140737488355328) (B : Nat) (hB : B ≤ w.heap.size)
    (h : ∀ g w', OwnV w' B e 1 (some ⟨g, 0, none⟩) n n (List.replicate n z0) → Below B w w' → wpList P ops Q rest (a.put o.dst (.slice (some ⟨g, 0, none⟩) n n)) w') : wpList P ops Q (o :: rest) a w := by
  obtain ⟨i, z, hi, hz, hsz, hby, hzs⟩ := T.info
  have hpb := T.posb
  have hn1 : n ≤ 140737488355328 := by
    have h2 : n * 1 ≤ n * bytes := Nat.mul_le_mul_left _ hpb
    omega
  have hzz : z = z0 := by
    rw [hi] at hz0
    simp [hz] at hz0
    exact hz0
  refine wpList_make_full w hgd l c t ho B e i z 1 T.ht hi hz hsz kl kc L C n hl hc hL hC (by rw [hby, Nat.mul_comm]; omega) (by unfold maxLen; omega) hB fun w' h1 h2 =>
    h _ w' ?_ ((Below.refl B w).grown h2 hB (fun k hk => by cases hk))
  subst hzz
  unfold OwnV
  have e1 : (madeCells z.cells (n * 1)).toList = List.replicate n z := by
    rw [Nat.mul_one, hc0]
    exact toList_madeCells_one _ _
  rw [e1] at h1
  exact h1
theorem TBm : SliceOf Tryd.prog 38 4 1 1 := sliceOf_mk Tryd.underlying38 (z := .bool false) (by kernel_rfl) rfl (by omega) (by omega)
theorem OwnV.setV {w : World} {B n c : Nat} {e : TypeId} {g : Nat} {vs : List Value} (h : OwnV w B e 1 (some ⟨g, 0, none⟩) n c vs) (j : Nat) (u : Value) : OwnV (w.setCell ⟨g, j, none⟩ u) B e 1 (some ⟨g, 0, none⟩) n c (vs.set j u) :=
  (World.ownsRow.stored (cap := c) h j u).1
/-- the first j boundaries marked -/
def mkK (f : Bool → Value) (bs : List Nat) (j N : Nat) : List Value := (List.range N).map fun i => f ((bs.take j).contains i)
theorem mkK_zero (f : Bool → Value) (bs : List Nat) (N : Nat) : mkK f bs 0 N = List.replicate N (f false) := by
  apply List.ext_getElem
  · simp [mkK]
  · intro i h1 h2
    simp [mkK]
theorem mkK_set (f : Bool → Value) {bs : List Nat} {j v : Nat} (h : bs[j]? = some v) (N : Nat) : (mkK f bs j N).set v (f true) = mkK f bs (j + 1) N := by
  have hj := (List.getElem?_eq_some_iff.1 h).1
  have hv := (List.getElem?_eq_some_iff.1 h).2
  apply List.ext_getElem
  · simp [mkK]
  · intro i h1 h2
    rw [List.getElem_set]
    by_cases e : v = i
    · subst e
      simp [mkK, List.take_succ_eq_append_getElem hj, hv]
    · have e2 : ¬ i = v := fun h => e h.symm
      simp [mkK, List.take_succ_eq_append_getElem hj, hv, e, e2]
/-- each place marked -/
def mkV (f : Bool → Value) (ks : List Int) : List Value := (List.range (ks.length + 1)).map fun i => f (isN ks i)
theorem mkV_at (f : Bool → Value) {ks : List Int} {i : Nat} (h : i < ks.length + 1) : (mkV f ks)[i]? = some (f (isN ks i)) := by
  unfold mkV
  rw [List.getElem?_map, List.getElem?_range h]
  rfl
theorem mkK_full (f : Bool → Value) (ks : List Int) : mkK f (bndA ks) (bndA ks).length (ks.length + 1) = mkV f ks := by
  unfold mkK mkV
  apply List.map_congr_left
  intro i hi
  rw [List.take_of_length_le (Nat.le_refl _)]
  congr 1
  rw [List.mem_range] at hi
  cases h : isN ks i with
  | true => simp [bndA, bndN, h]; omega
  | false => simp [bndA, bndN, h]
theorem bndA_le {ks : List Int} {j b : Nat} (h : (bndA ks)[j]? = some b) : b < ks.length + 1 := by
  have := List.mem_of_getElem? h
  simp [bndA, bndN] at this
  omega
theorem bndA_length (ks : List Int) : (bndA ks).length ≤ ks.length + 1 := by
  have := List.length_filter_le (isN ks) (List.range (ks.length + 1))
  simpa [bndA, bndN] using this
def intB (b : Bool) : Value := .int .i64 (if b = true then 1 else 0)

set_option maxHeartbeats 2000000 in
theorem pmarks_any (A : Option Addr) (n c : Nat) (xs : List Int) (w : World) (hx : SliceIn .i32 w A n c xs) (hl : Laid w) (hn : n ≤ 2000) :
    Calls Tryd.prog 21 #[.slice A n c] w fun e w' => ∃ (g2 c2 : Nat), e = .returned (.slice (some ⟨g2, 0, none⟩) (n + 1) c2) ∧ OwnV w' w.heap.size 4 1 (some ⟨g2, 0, none⟩) (n + 1) c2 (mkV .bool (ks xs)) ∧ Below w.heap.size w w' := by
  have KL : Shut ((ks xs).length = n) := ⟨(ks_len xs).trans hx.at_.len⟩
  have CB : Shut (∀ W, Below w.heap.size w W → _) := ⟨fun W hW => pbounds_any A n c xs W (hx.pass hW) (hl.pass hW) (by omega)⟩
  have BL : Shut (∀ j b, (bndA (ks xs))[j]? = some b → b < n + 1) := ⟨fun j b h => by have := bndA_le h; rw [KL.out] at this; exact this⟩
  have BM : Shut (bounds (ks xs) = (bndA (ks xs)).map Int.ofNat) := ⟨rfl⟩
  have FU : Shut (mkK .bool (bndA (ks xs)) (bndA (ks xs)).length (n + 1) = mkV .bool (ks xs)) := ⟨by rw [← KL.out]; exact mkK_full _ _⟩
  have LB : Shut ((bndA (ks xs)).length ≤ 2001) := ⟨by have h := bndA_length (ks xs); rw [KL.out] at h; omega⟩
  have zz : Shut ((Tryd.prog.info? 4).map (·.zero) = some (some (.bool false))) := ⟨by kernel_rfl⟩
  obtain ⟨N, hN⟩ : ∃ N, n + 1 = N := ⟨_, rfl⟩
  rw [hN] at BL FU ⊢
  clear hx hl KL
  generalize mkV .bool (ks xs) = MV at *
  generalize bounds (ks xs) = bz at *
  generalize bndA (ks xs) = bs at *
  have NI : Shut ((n : Int) + 1 = (N : Int) ∧ N ≤ 2001) := ⟨by omega, by omega⟩
  clear hN
  go_enter Tryd.func21, Tryd.ntmps21
  go_wp2_with (refine wpList_makeVs TBm zz.out rfl rfl (.tmp 8) (.tmp 8) rfl N rfl rfl NI.out.1 NI.out.1 (by have := NI.out.2; omega) w.heap.size (Nat.le_refl _) ?_; intro gh w1 o1 b1; have O1 : Shut _ := ⟨o1⟩; have B1 : Shut _ := ⟨b1⟩; clear o1 b1)
  refine (CB.out _ B1.out).mono ?_
  rintro e w2 ⟨Ab, cb, rfl, ob, b2⟩
  have O2 : Shut _ := ⟨OwnV.pass O1.out b2⟩
  have B2 : Shut (Below w.heap.size w w2) := ⟨B1.out.trans (b2.mono B1.out.size)⟩
  have OB : Shut (Own w2 w1.heap.size 3 .i64 Ab bs.length cb bz) := ⟨ob⟩
  have AP : Shut (Apart Ab (some ⟨gh, 0, none⟩)) := ⟨OwnV.apartB ob (OwnV.ltH O1.out).2⟩
  clear b2 ob O1 CB zz
  obtain ⟨L, hL⟩ : ∃ L, bs.length = L := ⟨_, rfl⟩
  rw [hL] at FU OB LB ⊢
  go_wp2_with fail
  go_loopg [13] (L + 1) (fun gg v wr => ∃ j : Nat, L - j < gg ∧ j ≤ L ∧ v = .int .i64 (j : Int) ∧ Shut (OwnV wr w.heap.size 4 1 (some ⟨gh, 0, none⟩) N N (mkK .bool bs j N)) ∧ Shut (Own wr w1.heap.size 3 .i64 Ab L cb bz) ∧ Shut (Below w.heap.size w wr))
  case atStart => exact ⟨0, by omega, by omega, rfl, ⟨by rw [mkK_zero]; exact O2.out⟩, OB, B2⟩
  case round =>
    obtain ⟨j, hg, hj, rfl, OM, OB3, BE⟩ := hrel
    by_cases hlt : j < L
    · obtain ⟨gb, rfl, _, _⟩ := OwnV.form OB3.out (by omega)
      obtain ⟨b, hb⟩ : ∃ b, bs[j]? = some b := ⟨_, List.getElem?_eq_getElem (by omega)⟩
      have hbN := BL.out j b hb
      have c1 := OwnV.cellAt OB3.out j (by omega)
      rw [BM.out, List.getElem?_map, List.getElem?_map, hb] at c1
      simp only [Option.map_some] at c1
      have c1 : wr.cell? ⟨gb, j, none⟩ = some (.int .i64 (b : Int)) := c1
      obtain ⟨u, hu⟩ : ∃ u, (mkK .bool bs j N)[b]? = some u := ⟨_, List.getElem?_eq_getElem (by simpa [mkK] using hbN)⟩
      have c2 := (OwnV.cellAt OM.out b (by omega)).trans hu
      have f2 := OwnV.frozenAt OM.out b
      have i1 : (j : Int) < (L : Int) := by omega
      have i2 : (b : Int) < (N : Int) := by omega
      have i3 : (0 : Int) ≤ (j : Int) := by omega
      have i4 : (0 : Int) ≤ (b : Int) := by omega
      have hL2 : L ≤ 2001 := LB.out
      have S : Shut _ := ⟨OwnV.setV OM.out b (.bool true)⟩
      have SB : Shut (Own (wr.setCell ⟨gh, b, none⟩ (.bool true)) w1.heap.size 3 .i64 (some ⟨gb, 0, none⟩) L cb bz) := ⟨OB3.out.far AP.out _⟩
      have SE : Shut (Below w.heap.size w (wr.setCell ⟨gh, b, none⟩ (.bool true))) := ⟨Below.setCell BE.out (p := ⟨gh, b, none⟩) (OwnV.ltH OM.out).1 _⟩
      have E : Shut ((mkK .bool bs j N).set b (.bool true) = mkK .bool bs (j + 1) N) := ⟨mkK_set .bool hb N⟩
      clear hu hb hbN
      go_wp2_with fail
      go_roundg (L - j)
      case measure => omega
      case rel => exact ⟨j + 1, by omega, by omega, by go_num, ⟨by rw [← E.out]; exact S.out⟩, SB, SE⟩
    · obtain rfl : j = L := by omega
      go_wp2_with fail
      go_ret
      exact ⟨_, _, rfl, by rw [← FU.out]; exact OM.out, BE.out⟩
end Go.Proofs.YtmbgeeiidpllcaaDoor
