/- Chapter 20: the program's trie as it lies in memory: knots, their maps, their digits. -/
import Derived.Test.YtgianjnccpbnaaaDoorHtl
import Derived.Test.YtgianjnccpbnaaaDoorOwn2
import Derived.Maps.OwnSet
namespace Go.Proofs.YtgianjnccpbnaaaDoor
open Go.ChangeShapes Go.WideShapes Go.ChangeAt Go.RowKit
open Go.Maps (Keyed)
set_option linter.unusedSimpArgs false

/-- a pointer to a knot, or nil -/
def pv : Option Nat → Value
  | none => .pointer none
  | some g => .pointer (some ⟨g, 0, none⟩)
def pd : Option Nat → DataW Unit
  | none => .nil
  | some g => .lit (.int .i64 (g : Int))
theorem pd_inj {a b : Option Nat} (h : pd a = pd b) : a = b := by
  cases a <;> cases b <;> simp [pd] at h ⊢
  omega
/-- how a pointer to a knot reads -/
def ptrElem : Value → Option (DataW Unit × List MemPlace)
  | .pointer none => some (.nil, [])
  | .pointer (some ⟨g, 0, none⟩) => some (.lit (.int .i64 (g : Int)), [])
  | _ => none
theorem ptrElem_pv (o : Option Nat) : ptrElem (pv o) = some (pd o, []) := by cases o <;> rfl
theorem ptrElem_inv {v : Value} {z : DataW Unit × List MemPlace} (h : ptrElem v = some z) : ∃ o, v = pv o ∧ z = (pd o, []) := by
  unfold ptrElem at h
  split at h
  · injection h with h; exact ⟨none, rfl, h.symm⟩
  · rename_i g; injection h with h; exact ⟨some g, rfl, h.symm⟩
  · cases h

/-- the map in block b leads from a letter on as ch says -/
def MapAt (P : Program) (w : World) (b N : Nat) (ch : Int → Option Nat) : Prop :=
  ∃ D, w.ownsMap P 21 ptrElem b N D ∧ ∀ r, (Lit.int .i32 r).wf = true → D.atKey (.int .i32 r) .nil = pd (ch r)
/-- two cells at the head of a block, of a knot's or a trie's type -/
def KnotAt (w : World) (g : Nat) (x y : Value) : Prop := ∃ (t : TypeId) (tl : List Value), (t = 53 ∨ t = 55) ∧ w.heap[g]? = some (.cells (x :: y :: tl).toArray t (0, 0))
section
variable {P : Program} {w w' : World} {b g N : Nat} {x y : Value} {ch : Int → Option Nat}
theorem MapAt.lt (h : MapAt P w b N ch) : b < w.heap.size := by obtain ⟨D, h1, _⟩ := h; exact h1.lt
theorem MapAt.keep (h : MapAt P w b N ch) (hh : w'.heap[b]? = w.heap[b]?) : MapAt P w' b N ch := by
  obtain ⟨D, ⟨es, clock, hb, r⟩, h2⟩ := h
  exact ⟨D, ⟨es, clock, hh.trans hb, r⟩, h2⟩
theorem MapAt.more (h : MapAt P w b N ch) {M : Nat} (hM : N ≤ M) : MapAt P w b M ch := by
  obtain ⟨D, h1, h2⟩ := h
  exact ⟨D, h1.mono hM, h2⟩
theorem MapAt.congr (h : MapAt P w b N ch) {ch' : Int → Option Nat} (e : ∀ r, (Lit.int .i32 r).wf = true → ch r = ch' r) : MapAt P w b N ch' := by
  obtain ⟨D, h1, h2⟩ := h
  exact ⟨D, h1, fun r hr => by rw [h2 r hr, e r hr]⟩
theorem KnotAt.lt (h : KnotAt w g x y) : g < w.heap.size := by obtain ⟨t, tl, _, h⟩ := h; exact lt_of_block h
theorem KnotAt.keep (h : KnotAt w g x y) (hh : w'.heap[g]? = w.heap[g]?) : KnotAt w' g x y := by
  obtain ⟨t, tl, h1, h2⟩ := h
  exact ⟨t, tl, h1, hh.trans h2⟩
theorem KnotAt.c0 (h : KnotAt w g x y) : w.cell? ⟨g, 0, none⟩ = some x := by obtain ⟨t, tl, _, h⟩ := h; rw [cell_of_row _ _ _ _ _ _ h]; rfl
theorem KnotAt.c1 (h : KnotAt w g x y) : w.cell? ⟨g, 1, none⟩ = some y := by obtain ⟨t, tl, _, h⟩ := h; rw [cell_of_row _ _ _ _ _ _ h]; rfl
theorem KnotAt.f (h : KnotAt w g x y) (j : Nat) : w.frozen? ⟨g, j, none⟩ = false := by obtain ⟨t, tl, _, h⟩ := h; exact frozen_of_row _ _ _ _ _ h
theorem KnotAt.set0 (h : KnotAt w g x y) (u : Value) : KnotAt (w.setCell ⟨g, 0, none⟩ u) g u y := by
  obtain ⟨t, tl, ht, h⟩ := h
  refine ⟨t, tl, ht, ?_⟩
  have hlt := lt_of_block h
  have h' : w.heap[g] = .cells (x :: y :: tl).toArray t (0, 0) := by simpa [Array.getElem?_eq_getElem hlt] using h
  show (w.heap.modify g _)[g]? = _
  rw [Array.getElem?_eq_getElem (by simpa using hlt), Array.getElem_modify_self, h']
  simp
theorem KnotAt.set1 (h : KnotAt w g x y) (u : Value) : KnotAt (w.setCell ⟨g, 1, none⟩ u) g x u := by
  obtain ⟨t, tl, ht, h⟩ := h
  refine ⟨t, tl, ht, ?_⟩
  have hlt := lt_of_block h
  have h' : w.heap[g] = .cells (x :: y :: tl).toArray t (0, 0) := by simpa [Array.getElem?_eq_getElem hlt] using h
  show (w.heap.modify g _)[g]? = _
  rw [Array.getElem?_eq_getElem (by simpa using hlt), Array.getElem_modify_self, h']
  simp
theorem KnotAt.uniq {x' y' : Value} (h : KnotAt w g x y) (h' : KnotAt w g x' y') : x = x' ∧ y = y' := by
  have a := h.c0.symm.trans h'.c0
  have b := h.c1.symm.trans h'.c1
  exact ⟨by simpa using a, by simpa using b⟩
end

/-- the digits at a knot: nil, or a slice that the call made -/
def DigAt (w : World) (B : Nat) (A : Option Addr) (n c : Nat) : Option (List Int) → Prop
  | none => A = none ∧ n = 0 ∧ c = 0
  | some ds => n = ds.length ∧ 0 < n ∧ Own w B 3 .i64 A n c ds
theorem DigAt.keep {w w' : World} {B : Nat} {A : Option Addr} {n c : Nat} {o : Option (List Int)} (h : DigAt w B A n c o) (hh : ∀ (g : Nat) (cur : Array Value), w.heap[g]? = some (.cells cur 3 (0, 0)) → w'.heap[g]? = w.heap[g]?) : DigAt w' B A n c o := by
  cases o with
  | none => exact h
  | some ds =>
    obtain ⟨h1, h2, h3⟩ := h
    refine ⟨h1, h2, h3.1, ?_⟩
    rcases h3.2 with h4 | ⟨g, cap, cur, hv, hg, hb, r⟩
    · exact .inl h4
    · exact .inr ⟨g, cap, cur, hv, hg, (hh g cur hb).trans hb, r⟩

/-- the trie whose root lies in block b0: node leads from letters to a knot's block, kids to that of its map -/
structure TrieAt (P : Program) (w : World) (B b0 N : Nat) (dg : List Int → Option (List Int)) (node kids : List Int → Option Nat) : Prop where
  root : node [] = some b0
  knot : ∀ p g, node p = some g → B ≤ g ∧ ∃ A n c, KnotAt w g (.map (kids p)) (.slice A n c) ∧ DigAt w B A n c (dg p)
  kid : ∀ p g m, node p = some g → kids p = some m → B ≤ m ∧ MapAt P w m N (fun r => node (p ++ [r]))
  nokid : ∀ p g, node p = some g → kids p = none → ∀ r, node (p ++ [r]) = none
  dead : ∀ p, node p = none → kids p = none ∧ dg p = none ∧ ∀ r, node (p ++ [r]) = none
  inj : ∀ p q g, node p = some g → node q = some g → p = q
  kinj : ∀ p q m, kids p = some m → kids q = some m → p = q

/-- blocks of cells of another type than a knot's or a trie's are as they were -/
def Spares (w w' : World) : Prop := ∀ (b : Nat) (cur : Array Value) (t : TypeId) (fr : Nat × Nat), w.heap[b]? = some (.cells cur t fr) → t ≠ 53 → t ≠ 55 → w'.heap[b]? = w.heap[b]?
theorem Spares.refl (w : World) : Spares w w := fun _ _ _ _ _ _ _ => rfl
theorem Spares.trans {a b c : World} (h : Spares a b) (k : Spares b c) : Spares a c := fun g cur t fr hb h1 h2 => by
  have e := h g cur t fr hb h1 h2
  exact (k g cur t fr (e.trans hb) h1 h2).trans e
theorem Spares.below {w w' : World} (hb : Below w.heap.size w w') : Spares w w' := fun b _ _ _ h _ _ => hb.block b (lt_of_block h)
theorem OwnV.spare {w w' : World} {B n c size : Nat} {e : TypeId} {A : Option Addr} {vs : List Value} (h : OwnV w B e size A n c vs) (hs : Spares w w') (h1 : e ≠ 53) (h2 : e ≠ 55) : OwnV w' B e size A n c vs := by
  refine ⟨h.1, ?_⟩
  rcases h.2 with h3 | ⟨g, cap, cur, hv, hg, hb, r⟩
  · exact .inl h3
  · exact .inr ⟨g, cap, cur, hv, hg, (hs g cur e _ hb h1 h2).trans hb, r⟩
theorem Own.spare {w w' : World} {B n c : Nat} {e : TypeId} {k : IntKind} {A : Option Addr} {xs : List Int} (h : Own w B e k A n c xs) (hs : Spares w w') (h1 : e ≠ 53) (h2 : e ≠ 55) : Own w' B e k A n c xs := OwnV.spare h hs h1 h2

def upd {α : Type} (f : List Int → Option α) (p : List Int) (x : α) : List Int → Option α := fun q => if q = p then some x else f q
theorem upd_same {α : Type} (f : List Int → Option α) (p : List Int) (x : α) : upd f p x p = some x := if_pos rfl
theorem upd_other {α : Type} (f : List Int → Option α) {p q : List Int} (x : α) (h : q ≠ p) : upd f p x q = f q := if_neg h

theorem snoc_inj {p q : List Int} {r s : Int} (h : p ++ [r] = q ++ [s]) : p = q ∧ r = s := by
  have := List.append_inj' h rfl
  exact ⟨this.1, by simpa using this.2⟩
theorem ne_snoc (p : List Int) (r : Int) : p ≠ p ++ [r] := fun h => by have := congrArg List.length h; simp at this

section
variable {P : Program} {w w' : World} {B b0 N : Nat} {dg : List Int → Option (List Int)} {node kids : List Int → Option Nat}
theorem TrieAt.lowB (h : TrieAt P w B b0 N dg node kids) {p : List Int} {g : Nat} (hp : node p = some g) : B ≤ g ∧ g < w.heap.size := by
  obtain ⟨h1, A, n, c, h2, _⟩ := h.knot p g hp
  exact ⟨h1, h2.lt⟩
theorem TrieAt.alive (h : TrieAt P w B b0 N dg node kids) {p : List Int} {m : Nat} (hp : kids p = some m) : ∃ g, node p = some g := by
  cases hn : node p with
  | some g => exact ⟨g, rfl⟩
  | none => rw [(h.dead p hn).1] at hp; cases hp
theorem TrieAt.kidLt (h : TrieAt P w B b0 N dg node kids) {p : List Int} {m : Nat} (hp : kids p = some m) : B ≤ m ∧ m < w.heap.size := by
  obtain ⟨g, hg⟩ := h.alive hp
  obtain ⟨h1, h2⟩ := h.kid p g m hg hp
  exact ⟨h1, h2.lt⟩
theorem TrieAt.pass (h : TrieAt P w B b0 N dg node kids) (hb : Below w.heap.size w w') : TrieAt P w' B b0 N dg node kids :=
  { h with
    knot := fun p g hp => by
      obtain ⟨h1, A, n, c, h2, h3⟩ := h.knot p g hp
      exact ⟨h1, A, n, c, h2.keep (hb.block g h2.lt), h3.keep fun g' cur hg => hb.block g' (lt_of_block hg)⟩
    kid := fun p g m hp hm => by
      obtain ⟨h1, h2⟩ := h.kid p g m hp hm
      exact ⟨h1, h2.keep (hb.block m h2.lt)⟩ }
theorem TrieAt.more (h : TrieAt P w B b0 N dg node kids) {M : Nat} (hM : N ≤ M) : TrieAt P w B b0 M dg node kids :=
  { h with
    kid := fun p g m hp hm => by
      obtain ⟨h1, h2⟩ := h.kid p g m hp hm
      exact ⟨h1, h2.more hM⟩ }
/-- no letters, no map, one knot -/
theorem TrieAt.start (P : Program) (w : World) (B : Nat) (hB : B ≤ w.heap.size) (u : Value) :
    TrieAt P (w.alloc (.cells #[.map none, .slice none 0 0, u] 55)) B w.heap.size 0 (lookP []) (fun p => if p = [] then some w.heap.size else none) (fun _ => none) where
  root := if_pos rfl
  knot := fun p g hp => by
    have hp' : p = [] ∧ w.heap.size = g := by
      by_cases h : p = []
      · rw [if_pos h] at hp; exact ⟨h, Option.some.inj hp⟩
      · rw [if_neg h] at hp; cases hp
    obtain ⟨rfl, rfl⟩ := hp'
    exact ⟨hB, none, 0, 0, ⟨55, [u], .inr rfl, heap_alloc_new w _⟩, rfl, rfl, rfl⟩
  kid := fun p g m _ h => by cases h
  nokid := fun p g _ _ r => if_neg (by simp)
  dead := fun p _ => ⟨rfl, rfl, fun r => if_neg (by simp)⟩
  inj := fun p q g hp hq => by
    have k : ∀ p : List Int, (if p = [] then some w.heap.size else none) = some g → p = [] := fun p hp => by
      by_cases h : p = []
      · exact h
      · rw [if_neg h] at hp; cases hp
    rw [k p hp, k q hq]
  kinj := fun p q m h => by cases h
theorem setCell_heap (w : World) (g j : Nat) (u : Value) {b : Nat} (h : b ≠ g) : (w.setCell ⟨g, j, none⟩ u).heap[b]? = w.heap[b]? := Below.heap_setCell w ⟨g, j, none⟩ u b h
theorem KnotAt.noInt {g : Nat} {x y : Value} (h : KnotAt w g x y) {b : Nat} {cur : Array Value} {t : TypeId} {fr : Nat × Nat} (hb : w.heap[b]? = some (.cells cur t fr)) (h1 : t ≠ 53) (h2 : t ≠ 55) : b ≠ g := by
  rintro rfl
  obtain ⟨t', tl, ht, h'⟩ := h
  rw [hb] at h'
  injection h' with h'
  injection h' with _ h' _
  subst h'
  rcases ht with rfl | rfl
  · exact h1 rfl
  · exact h2 rfl
theorem MapAt.noCells {m M : Nat} {ch : Int → Option Nat} (h : MapAt P w m M ch) {b : Nat} {cur : Array Value} {t : TypeId} {fr : Nat × Nat} (hb : w.heap[b]? = some (.cells cur t fr)) : b ≠ m := by
  rintro rfl
  obtain ⟨D, ⟨es, clock, h', _⟩, _⟩ := h
  rw [hb] at h'
  cases h'
theorem MapAt.noKnot {m M g : Nat} {ch : Int → Option Nat} {x y : Value} (h : MapAt P w m M ch) (hk : KnotAt w g x y) : g ≠ m := by
  obtain ⟨t, tl, _, hk⟩ := hk
  exact h.noCells hk
theorem int_ne1 : (3 : TypeId) ≠ 53 := by decide
theorem int_ne2 : (3 : TypeId) ≠ 55 := by decide

/-- a map made for a knot that has none -/
theorem TrieAt.mkmap (h : TrieAt P w B b0 N dg node kids) (hB : B ≤ w.heap.size) {p : List Int} {g : Nat} (hp : node p = some g) (hk : kids p = none) :
    TrieAt P ((w.alloc (.map #[] 0)).setCell ⟨g, 0, none⟩ (.map (some w.heap.size))) B b0 N dg node (upd kids p w.heap.size) := by
  have hold : ∀ b, b < w.heap.size → b ≠ g → ((w.alloc (.map #[] 0)).setCell ⟨g, 0, none⟩ (.map (some w.heap.size))).heap[b]? = w.heap[b]? := fun b hb hg => by
    rw [setCell_heap _ _ _ _ hg]; exact heap_alloc_old w _ hb
  obtain ⟨_, A0, n0, c0, kn0, _⟩ := h.knot p g hp
  have hgl := kn0.lt
  have hint : ∀ (b : Nat) (cur : Array Value), w.heap[b]? = some (.cells cur 3 (0, 0)) → ((w.alloc (.map #[] 0)).setCell ⟨g, 0, none⟩ (.map (some w.heap.size))).heap[b]? = w.heap[b]? := fun b cur hb =>
    hold b (lt_of_block hb) (kn0.noInt hb int_ne1 int_ne2)
  refine ⟨h.root, fun q g' hq => ?_, fun q g' m hq hm => ?_, fun q g' hq hm r => ?_, fun q hq => ?_, h.inj, fun q1 q2 m h1 h2 => ?_⟩
  · obtain ⟨h1, A, n, c, h2, h3⟩ := h.knot q g' hq
    refine ⟨h1, A, n, c, ?_, h3.keep hint⟩
    by_cases hqp : q = p
    · subst hqp
      obtain rfl : g' = g := Option.some.inj (hq.symm.trans hp)
      rw [upd_same]
      exact (h2.keep (heap_alloc_old w _ h2.lt)).set0 _
    · rw [upd_other _ _ hqp]
      exact h2.keep (hold g' h2.lt (fun e => hqp (h.inj q p g (by rw [← e]; exact hq) hp)))
  · by_cases hqp : q = p
    · subst hqp
      rw [upd_same] at hm
      obtain rfl := Option.some.inj hm
      refine ⟨hB, MapAt.keep (w := w.alloc (.map #[] 0)) ?_ (setCell_heap _ _ _ _ (by omega))⟩
      exact ⟨.map [], (World.ownsMap_made w P 21 ptrElem).mono (Nat.zero_le _), fun r _ => by show DataW.atKey (.map []) _ _ = pd (node (q ++ [r])); rw [h.nokid q _ hp hk r]; rfl⟩
    · rw [upd_other _ _ hqp] at hm
      obtain ⟨h1, h2⟩ := h.kid q g' m hq hm
      exact ⟨h1, h2.keep (hold m h2.lt (Ne.symm (h2.noKnot kn0)))⟩
  · by_cases hqp : q = p
    · subst hqp; rw [upd_same] at hm; cases hm
    · rw [upd_other _ _ hqp] at hm; exact h.nokid q g' hq hm r
  · obtain ⟨h1, h2⟩ := h.dead q hq
    refine ⟨?_, h2⟩
    rw [upd_other _ _ (by rintro rfl; rw [hp] at hq; cases hq)]
    exact h1
  · by_cases e1 : q1 = p
    · by_cases e2 : q2 = p
      · rw [e1, e2]
      · rw [e1, upd_same] at h1
        rw [upd_other _ _ e2] at h2
        obtain rfl := Option.some.inj h1
        have := (h.kidLt h2).2
        omega
    · rw [upd_other _ _ e1] at h1
      by_cases e2 : q2 = p
      · rw [e2, upd_same] at h2
        obtain rfl := Option.some.inj h2
        have := (h.kidLt h1).2
        omega
      · rw [upd_other _ _ e2] at h2
        exact h.kinj q1 q2 m h1 h2
/-- a knot made, and entered into the map -/
theorem TrieAt.addknot (h : TrieAt P w B b0 N dg node kids) (hB : B ≤ w.heap.size) {p : List Int} {g m : Nat} {r : Int} (hp : node p = some g) (hk : kids p = some m) (hn : node (p ++ [r]) = none)
    (hg : (w.alloc (.cells #[.map none, .slice none 0 0] 53)).grownBy w' (some m)) (hm : MapAt P w' m (N + 1) (fun s => if s = r then some w.heap.size else node (p ++ [s]))) :
    TrieAt P w' B b0 (N + 1) dg (upd node (p ++ [r]) w.heap.size) kids := by
  have hml := (h.kidLt hk).2
  have hold : ∀ b, b < w.heap.size → b ≠ m → w'.heap[b]? = w.heap[b]? := fun b hb hbm => by
    rw [hg.block b (by simp; omega) (by simpa using hbm)]; exact heap_alloc_old w _ hb
  have hnew : w'.heap[w.heap.size]? = some (.cells #[.map none, .slice none 0 0] 53 (0, 0)) := by
    rw [hg.block _ (by simp) (by simp; omega)]; exact heap_alloc_new w _
  obtain ⟨hBm, hmm⟩ := h.kid p g m hp hk
  have hint : ∀ (b : Nat) (cur : Array Value), w.heap[b]? = some (.cells cur 3 (0, 0)) → w'.heap[b]? = w.heap[b]? := fun b cur hb => hold b (lt_of_block hb) (hmm.noCells hb)
  obtain ⟨d1, d2, d3⟩ := h.dead _ hn
  refine ⟨?_, fun q g' hq => ?_, fun q g' m' hq hm' => ?_, fun q g' hq hm' s => ?_, fun q hq => ?_, fun q1 q2 g' h1 h2 => ?_, h.kinj⟩
  · rw [upd_other _ _ (by simp)]; exact h.root
  · by_cases hqp : q = p ++ [r]
    · subst hqp
      rw [upd_same] at hq
      obtain rfl := Option.some.inj hq
      rw [d1, d2]
      exact ⟨hB, none, 0, 0, ⟨53, [], .inl rfl, hnew⟩, rfl, rfl, rfl⟩
    · rw [upd_other _ _ hqp] at hq
      obtain ⟨h1, A, n, c, h2, h3⟩ := h.knot q g' hq
      exact ⟨h1, A, n, c, h2.keep (hold g' h2.lt (hmm.noKnot h2)), h3.keep hint⟩
  · have hqp : q ≠ p ++ [r] := by rintro rfl; rw [d1] at hm'; cases hm'
    rw [upd_other _ _ hqp] at hq
    by_cases hqq : q = p
    · subst hqq
      obtain rfl : m' = m := Option.some.inj (hm'.symm.trans hk)
      refine ⟨hBm, hm.congr fun s _ => ?_⟩
      by_cases hs : s = r
      · subst hs; rw [if_pos rfl, upd_same]
      · rw [if_neg hs, upd_other _ _ (fun e => hs (snoc_inj e).2)]
    · obtain ⟨h1, h2⟩ := h.kid q g' m' hq hm'
      have hne : m' ≠ m := by rintro rfl; exact hqq (h.kinj q p _ hm' hk)
      exact ⟨h1, ((h2.keep (hold m' h2.lt hne)).more (Nat.le_succ _)).congr fun s _ => (upd_other _ _ (fun e => hqq (snoc_inj e).1)).symm⟩
  · by_cases hqp : q = p ++ [r]
    · subst hqp
      rw [upd_other _ _ (Ne.symm (ne_snoc _ _))]
      exact d3 s
    · rw [upd_other _ _ hqp] at hq
      rw [upd_other _ _ (fun e => by rw [(snoc_inj e).1, hk] at hm'; cases hm')]
      exact h.nokid q g' hq hm' s
  · have hqp : q ≠ p ++ [r] := by rintro rfl; rw [upd_same] at hq; cases hq
    rw [upd_other _ _ hqp] at hq
    obtain ⟨h1, h2, h3⟩ := h.dead q hq
    exact ⟨h1, h2, fun s => by rw [upd_other _ _ (fun e => by rw [(snoc_inj e).1, hp] at hq; cases hq)]; exact h3 s⟩
  · by_cases e1 : q1 = p ++ [r]
    · by_cases e2 : q2 = p ++ [r]
      · rw [e1, e2]
      · rw [e1, upd_same] at h1
        rw [upd_other _ _ e2] at h2
        obtain rfl := Option.some.inj h1
        have := (h.lowB h2).2
        omega
    · rw [upd_other _ _ e1] at h1
      by_cases e2 : q2 = p ++ [r]
      · rw [e2, upd_same] at h2
        obtain rfl := Option.some.inj h2
        have := (h.lowB h1).2
        omega
      · rw [upd_other _ _ e2] at h2
        exact h.inj q1 q2 g' h1 h2
/-- digits laid at a knot that has none -/
theorem TrieAt.setdig (h : TrieAt P w B b0 N dg node kids) {p : List Int} {g : Nat} (hp : node p = some g) {A : Option Addr} {n c : Nat} {ds : List Int} (hd : DigAt w B A n c (some ds)) :
    TrieAt P (w.setCell ⟨g, 1, none⟩ (.slice A n c)) B b0 N (upd dg p ds) node kids := by
  obtain ⟨_, A0, n0, c0, kn0, _⟩ := h.knot p g hp
  have hint : ∀ (b : Nat) (cur : Array Value), w.heap[b]? = some (.cells cur 3 (0, 0)) → (w.setCell ⟨g, 1, none⟩ (.slice A n c)).heap[b]? = w.heap[b]? := fun b cur hb => setCell_heap _ _ _ _ (kn0.noInt hb int_ne1 int_ne2)
  refine ⟨h.root, fun q g' hq => ?_, fun q g' m hq hm => ?_, h.nokid, fun q hq => ?_, h.inj, h.kinj⟩
  · obtain ⟨h1, A', n', c', h2, h3⟩ := h.knot q g' hq
    by_cases hqp : q = p
    · subst hqp
      obtain rfl : g' = g := Option.some.inj (hq.symm.trans hp)
      refine ⟨h1, A, n, c, h2.set1 _, ?_⟩
      rw [upd_same]
      exact hd.keep hint
    · refine ⟨h1, A', n', c', h2.keep (setCell_heap _ _ _ _ (fun e => hqp (h.inj q p g (by rw [← e]; exact hq) hp))), ?_⟩
      rw [upd_other _ _ hqp]
      exact h3.keep hint
  · obtain ⟨h1, h2⟩ := h.kid q g' m hq hm
    exact ⟨h1, h2.keep (setCell_heap _ _ _ _ (Ne.symm (h2.noKnot kn0)))⟩
  · obtain ⟨h1, h2, h3⟩ := h.dead q hq
    refine ⟨h1, ?_, h3⟩
    rw [upd_other _ _ (by rintro rfl; rw [hp] at hq; cases hq)]
    exact h2
theorem TrieAt.dgEq (h : TrieAt P w B b0 N dg node kids) {dg' : List Int → Option (List Int)} (e : ∀ q, dg q = dg' q) : TrieAt P w B b0 N dg' node kids := by
  obtain rfl : dg = dg' := funext e
  exact h
end
end Go.Proofs.YtgianjnccpbnaaaDoor
