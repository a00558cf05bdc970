/- Spans (From, To, Val): how a slice of them lies in memory, how it is read off the datum; the value at a place. No program in sight. -/
import Derived.Test.YtefajgfhdnhmmaaDoorFopen
namespace Go.Proofs.YtefajgfhdnhmmaaDoor
open Go.Joins Go.ChangeShapes Go.WideShapes Go.RowKit Go.Deep

structure Sp where
  f : Int
  t : Int
  v : Int
deriving DecidableEq, Inhabited
def snth (l : List Sp) (j : Nat) : Sp := l.getD j ⟨0, 0, 0⟩
theorem snth_lo {l m : List Sp} {j : Nat} (h : j < l.length) : snth (l ++ m) j = snth l j := by simp [snth, List.getElem?_append_left h]
theorem snth_at {l : List Sp} {s : Sp} : snth (l ++ [s]) l.length = s := by simp [snth]
/-- the slice value '.slice A n c' reads as the spans l -/
def SpansAt (w : World) (B : Nat) (A : Option Addr) (n : Nat) (l : List Sp) : Prop :=
  l.length = n ∧ (0 < n → ∃ ad, A = some ad ∧ ad.block < B ∧ ∀ j, j < n → w.cell? (ad.add (j * 3)) = some (.int .i64 (snth l j).f) ∧ w.cell? (ad.add (j * 3 + 1)) = some (.int .i64 (snth l j).t) ∧ w.cell? (ad.add (j * 3 + 2)) = some (.int .i64 (snth l j).v))
section
variable {w w' : World} {B n : Nat} {A : Option Addr} {l : List Sp}
theorem SpansAt.below (h : SpansAt w B A n l) (hb : Below B w w') : SpansAt w' B A n l :=
  ⟨h.1, fun hn => by
    obtain ⟨ad, e, hB, hc⟩ := h.2 hn
    have go : ∀ k v, w.cell? (ad.add k) = some v → w'.cell? (ad.add k) = some v := fun k v h => (hb.cell (by rw [block_of_add]; exact hB)).trans h
    exact ⟨ad, e, hB, fun j hj => ⟨go _ _ (hc j hj).1, go _ _ (hc j hj).2.1, go _ _ (hc j hj).2.2⟩⟩⟩
theorem SpansAt.later (h : SpansAt w w.heap.size A n l) (hb : Below w.heap.size w w') : SpansAt w' w'.heap.size A n l :=
  ⟨h.1, fun hn => by
    obtain ⟨ad, e, h1, hc⟩ := (h.below hb).2 hn
    exact ⟨ad, e, Nat.lt_of_lt_of_le h1 hb.size, hc⟩⟩
/-- the cells of one of them -/
theorem SpansAt.at_ (h : SpansAt w B A n l) {j : Nat} (hj : j < n) : ∃ ad, A = some ad ∧ w.cell? (ad.add (j * 3)) = some (.int .i64 (snth l j).f) ∧ w.cell? (ad.add (j * 3 + 1)) = some (.int .i64 (snth l j).t) ∧ w.cell? (ad.add (j * 3 + 2)) = some (.int .i64 (snth l j).v) := by
  obtain ⟨ad, e, _, hc⟩ := h.2 (by omega)
  exact ⟨ad, e, hc j hj⟩
end
section
variable {H : Type} {enc : TypeId × Value → H} {P : Program} {w : World} {base : Nat} {held : Bool}
theorem spans_open {t e : TypeId} {f0 f1 f2 : Field} {fuel : Nat} {v : Value} (ht : P.underlying t = some (.slice e)) (hs : P.underlying e = some (.struct #[f0, f1, f2])) (hone : oneCellFields P #[f0, f1, f2] = true) (hC : P.cellsOf e = 3)
    (u0 : P.underlying f0.type = some (.int .i64)) (u1 : P.underlying f1.type = some (.int .i64)) (u2 : P.underlying f2.type = some (.int .i64))
    (h : ∃ y, DataW.trod enc P w base (fun _ => true) held fuel t [v] = some y) : ∃ A n c l, v = .slice A n c ∧ n ≤ 9223372036854775807 ∧ SpansAt w w.heap.size A n l := by
  obtain ⟨y, h⟩ := h
  rcases open_slice ht h with ⟨h1, _⟩ | ⟨a, len, cap, m, n, D, Pl, h1, _, hl, hm, hmm, _, hall⟩
  · exact ⟨none, 0, 0, [], by simpa using h1, by omega, ⟨rfl, fun h => absurd h (by omega)⟩⟩
  · simp only [if_true] at hmm
    have each : ∀ j, j < len → ∃ s : Sp, w.cell? (a.add (j * 3)) = some (.int .i64 s.f) ∧ w.cell? (a.add (j * 3 + 1)) = some (.int .i64 s.t) ∧ w.cell? (a.add (j * 3 + 2)) = some (.int .i64 s.v) := by
      intro j hj
      obtain ⟨cs', h2, h3⟩ := hall j (by omega)
      rw [hC] at h2
      obtain ⟨_, hlen, hcell⟩ := World.cells?_some h2
      obtain ⟨xs, n', _, _, _, hxl, hg⟩ := DataW.trod_struct hs h3
      match cs', hlen with
      | [v0, v1, v2], _ =>
        have at_ : ∀ j, j < 3 → ∃ y, xs[j]? = some y := fun j hj => ⟨xs[j]'(by simpa [hxl] using hj), List.getElem?_eq_getElem _⟩
        obtain ⟨p0, k0⟩ := hone_of hone 0 f0 rfl
        obtain ⟨p1, k1⟩ := hone_of hone 1 f1 rfl
        obtain ⟨p2, k2⟩ := hone_of hone 2 f2 rfl
        obtain ⟨y0, q0⟩ := at_ 0 (by omega)
        obtain ⟨y1, q1⟩ := at_ 1 (by omega)
        obtain ⟨y2, q2⟩ := at_ 2 (by omega)
        have g0 := hg 0 f0 rfl
        have g1 := hg 1 f1 rfl
        have g2 := hg 2 f2 rfl
        rw [q0] at g0
        rw [q1] at g1
        rw [q2] at g2
        obtain ⟨i0, rfl, _⟩ := int_form u0 ⟨y0, by simpa [Value.cells, p0, k0] using g0⟩
        obtain ⟨i1, rfl, _⟩ := int_form u1 ⟨y1, by simpa [Value.cells, p1, k1] using g1⟩
        obtain ⟨i2, rfl, _⟩ := int_form u2 ⟨y2, by simpa [Value.cells, p2, k2] using g2⟩
        refine ⟨⟨i0, i1, i2⟩, ?_, ?_, ?_⟩
        · have h9 := hcell 0 (by omega)
          rw [add_of_add] at h9
          simpa using h9
        · have h9 := hcell 1 (by omega)
          rw [add_of_add] at h9
          simpa using h9
        · have h9 := hcell 2 (by omega)
          rw [add_of_add] at h9
          simpa using h9
    obtain ⟨q, hq⟩ := choose_lt each
    have hn : ∀ j, j < len → snth ((List.range len).map q) j = q j := by
      intro j hj
      unfold snth
      simp [hj]
    refine ⟨some a, len, _, (List.range len).map q, by simpa using h1, by unfold maxLen at hm; omega, ⟨by simp, fun h0 => ⟨a, rfl, ?_, fun j hj => ?_⟩⟩⟩
    · have := block_lt_of_cell (hq 0 h0).1
      rwa [block_of_add] at this
    · rw [hn j hj]; exact hq j hj
end

/-- the value at a place: the first span that has it -/
def spF (l : List Sp) (i : Int) : Nat → Nat → Int
  | 0, _ => 0
  | d + 1, j => if (snth l j).f ≤ i ∧ i < (snth l j).t then (snth l j).v else spF l i d (j + 1)
def spAt (l : List Sp) (i : Int) : Int := spF l i l.length 0
theorem spF_yes {l : List Sp} {i : Int} {d j : Nat} (h : (snth l j).f ≤ i ∧ i < (snth l j).t) : spF l i (d + 1) j = (snth l j).v := by simp [spF, h]
theorem spF_no {l : List Sp} {i : Int} {d j : Nat} (h : ¬ ((snth l j).f ≤ i ∧ i < (snth l j).t)) : spF l i (d + 1) j = spF l i d (j + 1) := by
  simp only [spF, if_neg h]

/-! ### values, place by place, and the spans that they make -/
/-- one more place of value a: the last span goes on, or a new one begins -/
def addSp (S : List Sp) (f t a : Int) : List Sp :=
  match S.getLast? with
  | some s => if s.v = a then S.dropLast ++ [⟨s.f, t, a⟩] else S ++ [⟨f, t, a⟩]
  | none => [⟨f, t, a⟩]
theorem addSp_nil (f t a : Int) : addSp [] f t a = [⟨f, t, a⟩] := rfl
theorem addSp_eq (S : List Sp) (s : Sp) (f t : Int) : addSp (S ++ [s]) f t s.v = S ++ [⟨s.f, t, s.v⟩] := by
  unfold addSp
  simp
theorem addSp_ne (S : List Sp) (s : Sp) (f t a : Int) (h : s.v ≠ a) : addSp (S ++ [s]) f t a = S ++ [s] ++ [⟨f, t, a⟩] := by
  unfold addSp
  simp [h]
theorem nil_or_snoc (S : List Sp) : S = [] ∨ ∃ S0 s, S = S0 ++ [s] := by
  rcases List.eq_nil_or_concat S with h | ⟨S0, s, h⟩
  · exact .inl h
  · exact .inr ⟨S0, s, by rw [h]; simp⟩
/-- so many places of one value -/
theorem addSp_twice (S : List Sp) (f t u a : Int) : addSp (addSp S f t a) t u a = addSp S f u a := by
  rcases nil_or_snoc S with rfl | ⟨S0, s, rfl⟩
  · exact addSp_eq [] ⟨f, t, a⟩ t u
  · by_cases h : s.v = a
    · subst h
      rw [addSp_eq S0 s f t, addSp_eq S0 s f u]
      exact addSp_eq S0 ⟨s.f, t, s.v⟩ t u
    · rw [addSp_ne S0 s f t a h, addSp_ne S0 s f u a h]
      exact addSp_eq (S0 ++ [s]) ⟨f, t, a⟩ t u
/-- the spans of the first k of some values -/
def valN (v : List Int) : Nat → List Sp
  | 0 => []
  | k + 1 => addSp (valN v k) k ((k : Int) + 1) (nth v k)
theorem valN_lo (v u : List Int) : ∀ k, k ≤ v.length → valN (v ++ u) k = valN v k
  | 0, _ => rfl
  | k + 1, h => by
    have e : nth (v ++ u) k = nth v k := by unfold nth; rw [List.getD_eq_getElem?_getD, List.getD_eq_getElem?_getD, List.getElem?_append_left (by omega)]
    simp only [valN]
    rw [valN_lo v u k (by omega), e]
theorem nth_rep (v : List Int) (d : Nat) (a : Int) (j : Nat) (h : j < d) : nth (v ++ List.replicate d a) (v.length + j) = a := by
  unfold nth
  rw [List.getD_eq_getElem?_getD, List.getElem?_append_right (by omega), List.getElem?_replicate, if_pos (by omega)]
  rfl
theorem valN_rep (v : List Int) (D : Nat) (a : Int) : ∀ d, d + 1 ≤ D → valN (v ++ List.replicate D a) (v.length + (d + 1)) = addSp (valN v v.length) v.length ((v.length + (d + 1) : Nat) : Int) a
  | 0, h => by
    have e : valN (v ++ List.replicate D a) (v.length + (0 + 1)) = addSp (valN (v ++ List.replicate D a) v.length) v.length ((v.length : Int) + 1) (nth (v ++ List.replicate D a) v.length) := rfl
    have e2 := nth_rep v D a 0 (by omega)
    rw [Nat.add_zero] at e2
    rw [e, valN_lo v _ _ (Nat.le_refl _), e2]
    congr 1
  | d + 1, h => by
    have e : valN (v ++ List.replicate D a) (v.length + (d + 1 + 1)) = addSp (valN (v ++ List.replicate D a) (v.length + (d + 1))) ((v.length + (d + 1) : Nat) : Int) (((v.length + (d + 1) : Nat) : Int) + 1) (nth (v ++ List.replicate D a) (v.length + (d + 1))) := rfl
    rw [e, nth_rep v D a (d + 1) (by omega), valN_rep v D a d (by omega), addSp_twice]
    congr 1
theorem addSp_last (S : List Sp) (f t a : Int) : ∃ S0 s, addSp S f t a = S0 ++ [s] ∧ s.v = a ∧ s.t = t := by
  rcases nil_or_snoc S with rfl | ⟨S0, s, rfl⟩
  · exact ⟨[], ⟨f, t, a⟩, rfl, rfl, rfl⟩
  · by_cases h : s.v = a
    · subst h
      exact ⟨S0, ⟨s.f, t, s.v⟩, addSp_eq S0 s f t, rfl, rfl⟩
    · exact ⟨S0 ++ [s], ⟨f, t, a⟩, addSp_ne S0 s f t a h, rfl, rfl⟩
theorem addSp_len (S : List Sp) (f t a : Int) : (addSp S f t a).length ≤ S.length + 1 := by
  rcases nil_or_snoc S with rfl | ⟨S0, s, rfl⟩
  · simp [addSp_nil]
  · by_cases h : s.v = a
    · subst h
      rw [addSp_eq S0 s f t]
      simp
    · rw [addSp_ne S0 s f t a h]
      simp
theorem valN_len (v : List Int) : ∀ k, (valN v k).length ≤ k
  | 0 => Nat.le_refl _
  | k + 1 => by
    have h1 := valN_len v k
    have h2 := addSp_len (valN v k) k ((k : Int) + 1) (nth v k)
    simp only [valN]
    omega
/-- the cells of spans -/
def spV (s : Sp) : List Value := [.int .i64 s.f, .int .i64 s.t, .int .i64 s.v]
def spsV (l : List Sp) : List Value := l.flatMap spV
theorem spsV_app (l m : List Sp) : spsV (l ++ m) = spsV l ++ spsV m := by simp [spsV]
theorem spsV_one (s : Sp) : spsV [s] = [.int .i64 s.f, .int .i64 s.t, .int .i64 s.v] := by simp [spsV, spV]
theorem spsV_len (l : List Sp) : (spsV l).length = l.length * 3 := by
  induction l with
  | nil => rfl
  | cons p l ih => simp [spsV, spV] at ih ⊢; omega
theorem spsV_at : ∀ (l : List Sp) (j : Nat), j < l.length → (spsV l)[j * 3]? = some (.int .i64 (snth l j).f) ∧ (spsV l)[j * 3 + 1]? = some (.int .i64 (snth l j).t) ∧ (spsV l)[j * 3 + 2]? = some (.int .i64 (snth l j).v)
  | [], j, h => by simp at h
  | p :: l, 0, _ => by simp [spsV, spV, snth]
  | p :: l, j + 1, h => by
    have ih := spsV_at l j (by simpa using h)
    have e1 : spsV (p :: l) = .int .i64 p.f :: .int .i64 p.t :: .int .i64 p.v :: spsV l := by simp [spsV, spV]
    have e2 : snth (p :: l) (j + 1) = snth l j := by simp [snth]
    rw [e1, e2, show (j + 1) * 3 = j * 3 + 1 + 1 + 1 by omega]
    simp only [List.getElem?_cons_succ]
    exact ih
theorem spsV_set (l : List Sp) (s : Sp) (t : Int) : (spsV (l ++ [s])).set (l.length * 3 + 1) (.int .i64 t) = spsV (l ++ [⟨s.f, t, s.v⟩]) := by
  rw [spsV_app, spsV_app, List.set_append_right _ _ (by rw [spsV_len]; omega), spsV_len, show l.length * 3 + 1 - l.length * 3 = 1 by omega, spsV_one, spsV_one]
  rfl
end Go.Proofs.YtefajgfhdnhmmaaDoor
