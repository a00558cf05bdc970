/- Chapter 45: boxes that a call made: how they lie, and what an append of one leaves. -/
import Derived.Test.YteedngkbcbojjaaBox
import Derived.Test.YteedngkbcbojjaaOwn2
namespace Go.Proofs.Yteedngkbcbojjaa
open Go.ChangeShapes Go.WideShapes Go.ChangeAt Go.RowKit
set_option linter.unusedSimpArgs false

theorem flat_at {α β : Type} {k : Nat} (F : α → List β) (hF : ∀ x, (F x).length = k) : ∀ (l : List α) (q i : Nat) (x : α), l[q]? = some x → i < k → (l.flatMap F)[q * k + i]? = (F x)[i]?
  | [], q, i, x, h, _ => by simp at h
  | y :: l, 0, i, x, h, hi => by
    simp at h
    subst h
    rw [List.flatMap_cons, List.getElem?_append_left (by rw [hF]; omega)]
    simp
  | y :: l, q + 1, i, x, h, hi => by
    simp at h
    rw [List.flatMap_cons, List.getElem?_append_right (by rw [hF, Nat.add_mul]; omega), hF, show (q + 1) * k + i - k = q * k + i by rw [Nat.add_mul]; omega]
    exact flat_at F hF l q i x h hi
theorem flat_len {α β : Type} {k : Nat} (F : α → List β) (hF : ∀ x, (F x).length = k) (l : List α) : (l.flatMap F).length = l.length * k := by
  induction l with
  | nil => simp
  | cons y l ih => rw [List.flatMap_cons, List.length_append, hF, ih, List.length_cons, Nat.add_mul]; omega
def putC (g : PutD) : List Value := [.int .i64 g.font, .int .i64 g.id, .int .i64 g.x, .int .i64 g.y]
theorem putC_len (g : PutD) : (putC g).length = 4 := rfl
/-- the glyphs gs, made by the call -/
def OwnG (w : World) (B : Nat) (G : Option Addr) (gc : Nat) (gs : List PutD) : Prop := OwnV w B 39 4 G gs.length gc (gs.flatMap putC)
abbrev BoxM := BoxD × Option Addr × Nat
def boxC (p : BoxM) : List Value := [.int .i64 p.1.f, .int .i64 p.1.t, .int .i64 p.1.lv, .int .i64 p.1.x, .int .i64 p.1.wd, .slice p.2.1 p.1.gs.length p.2.2]
theorem boxC_len (p : BoxM) : (boxC p).length = 6 := rfl
/-- the boxes of ps, made by the call, and their glyphs -/
structure OwnB (w : World) (B : Nat) (A : Option Addr) (c : Nat) (ps : List BoxM) : Prop where
  row : OwnV w B 37 6 A ps.length c (ps.flatMap boxC)
  gl : ∀ p ∈ ps, OwnG w B p.2.1 p.2.2 p.1.gs
section
variable {w w' : World} {B n c gc : Nat} {A G : Option Addr} {ps : List BoxM} {gs : List PutD}
theorem OwnG.pass (h : OwnG w B G gc gs) (hb : Below w.heap.size w w') : OwnG w' B G gc gs := OwnV.pass h hb
theorem OwnB.pass (h : OwnB w B A c ps) (hb : Below w.heap.size w w') : OwnB w' B A c ps := ⟨OwnV.pass h.row hb, fun p hp => (h.gl p hp).pass hb⟩
theorem OwnB.nil (w : World) (B : Nat) : OwnB w B none 0 [] := ⟨OwnV.nil _ _ _ _, fun p hp => by cases hp⟩
theorem OwnG.nil (w : World) (B : Nat) : OwnG w B none 0 [] := OwnV.nil _ _ _ _
/-- own rows of elements of other types are apart -/
theorem own_types {B2 n2 c2 s1 s2 : Nat} {e1 e2 : TypeId} {vs us : List Value} (h : OwnV w B e1 s1 A n c vs) (k : OwnV w B2 e2 s2 G n2 c2 us) (hne : e1 ≠ e2) : Apart A G := by
  intro g hA hG
  subst hA
  subst hG
  rcases h.2 with ⟨hv, _⟩ | ⟨g1, cap1, cur1, hv, _, hh, _⟩
  · cases hv
  · rcases k.2 with ⟨kv, _⟩ | ⟨g2, cap2, cur2, kv, _, kh, _⟩
    · cases kv
    · injection hv with hv
      injection hv with hv
      injection hv with hv
      injection kv with kv
      injection kv with kv
      injection kv with kv
      subst hv
      subst kv
      rw [hh] at kh
      injection kh with kh
      injection kh with _ kh
      exact hne kh
theorem OwnB.push (h : OwnB w B A c ps) {A' : Option Addr} {c' : Nat} {p : BoxM} (hr : OwnV w' B 37 6 A' (ps.length + 1) c' (ps.flatMap boxC ++ boxC p)) (hg : w.grownBy w' (Value.slice A ps.length c).ownBlock)
    (hp : OwnG w B p.2.1 p.2.2 p.1.gs) : OwnB w' B A' c' (ps ++ [p]) := by
  refine ⟨?_, fun q hq => ?_⟩
  · rw [List.length_append, List.flatMap_append]
    simpa using hr
  · have go : ∀ q : BoxM, OwnG w B q.2.1 q.2.2 q.1.gs → OwnG w' B q.2.1 q.2.2 q.1.gs := fun q k => OwnV.kept k hg (own_types k h.row (by decide)) (OwnV.headC h.row)
    rw [List.mem_append] at hq
    rcases hq with hq | hq
    · exact go q (h.gl q hq)
    · simp at hq
      subst hq
      exact go _ hp
/-- boxes that the call made, read -/
theorem OwnG.puts (h : OwnG w B G gc gs) : PutsAt w w.heap.size G gs.length gs := by
  refine ⟨rfl, fun hn => ?_⟩
  obtain ⟨g, rfl, _, hlt⟩ := OwnV.form h hn
  refine ⟨_, rfl, hlt, fun j hj => ?_⟩
  have e : gs[j]? = some (pnth gs j) := by rw [pnth_eq hj, List.getElem?_eq_getElem hj]
  have go : ∀ i v, i < 4 → (putC (pnth gs j))[i]? = some v → w.cell? ⟨g, j * 4 + i, none⟩ = some v := by
    intro i v hi hv
    rw [OwnV.cellAt h (j * 4 + i) (by omega), flat_at putC putC_len gs j i _ e hi]
    exact hv
  have ga : ∀ i v, i < 4 → (putC (pnth gs j))[i]? = some v → w.cell? (((⟨g, 0, none⟩ : Addr).add (j * 4)).add i) = some v := by
    intro i v hi hv
    rw [add_of_add, add_zero_at]
    exact go i v hi hv
  refine ⟨?_, ga 1 _ (by omega) rfl, ga 2 _ (by omega) rfl, ga 3 _ (by omega) rfl⟩
  rw [add_zero_at]
  exact go 0 _ (by omega) rfl
theorem OwnB.boxes (h : OwnB w B A c ps) : BoxesAt w w.heap.size A ps.length (ps.map (·.1)) := by
  refine ⟨by simp, fun hn => ?_⟩
  obtain ⟨g, rfl, _, hlt⟩ := OwnV.form h.row hn
  refine ⟨_, rfl, hlt, fun j hj => ?_⟩
  have e : ps[j]? = some ps[j] := List.getElem?_eq_getElem hj
  have eb : bnth (ps.map (·.1)) j = ps[j].1 := by rw [bnth_eq (by simpa using hj)]; simp
  have hG := (h.gl _ (List.getElem_mem hj)).puts
  rw [eb]
  generalize ps[j] = p at *
  have ga : ∀ i v, i < 6 → (boxC p)[i]? = some v → w.cell? (((⟨g, 0, none⟩ : Addr).add (j * 6)).add i) = some v := by
    intro i v hi hv
    rw [add_of_add, add_zero_at, OwnV.cellAt h.row (j * 6 + i) (by omega), flat_at boxC boxC_len ps j i _ e hi]
    exact hv
  refine ⟨?_, ga 1 _ (by omega) rfl, ga 2 _ (by omega) rfl, ga 3 _ (by omega) rfl, ga 4 _ (by omega) rfl, p.2.1, p.2.2, ga 5 _ (by omega) rfl, hG⟩
  have := ga 0 _ (by omega) rfl
  rwa [add_of_add, Nat.add_zero] at this
end
end Go.Proofs.Yteedngkbcbojjaa
