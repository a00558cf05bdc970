/- Chapter 20: the program's New: a trie of patterns. -/
import Derived.Test.YtgianjnccpbnaaaDoorHst
import Derived.Test.YtgianjnccpbnaaaDoorHtp
namespace Go.Proofs.YtgianjnccpbnaaaDoor
open Go.ChangeShapes Go.WideShapes Go.ChangeAt Go.RowKit
set_option maxRecDepth 100000
set_option linter.unusedSimpArgs false

/-- a slice of texts -/
structure StrsIn (w : World) (A : Option Addr) (n c : Nat) (ss : List ByteArray) : Prop where
  len : ss.length = n
  le : n ≤ c
  at_ : 0 < n → ∃ ad, A = some ad ∧ ad.block < w.heap.size ∧ ∀ j, j < n → w.cell? (ad.add j) = some (.string (ss.getD j ⟨#[]⟩))
theorem StrsIn.pass {w w' : World} {A : Option Addr} {n c : Nat} {ss : List ByteArray} (h : StrsIn w A n c ss) (hb : Below w.heap.size w w') : StrsIn w' A n c ss :=
  ⟨h.len, h.le, fun h0 => by
    obtain ⟨ad, e, h1, h2⟩ := h.at_ h0
    exact ⟨ad, e, Nat.lt_of_lt_of_le h1 hb.size, fun j hj => (hb.cell (by rw [block_of_add]; exact h1)).trans (h2 j hj)⟩⟩
theorem drop_getD {ss : List ByteArray} {k : Nat} (h : k < ss.length) : ss.drop k = ss.getD k ⟨#[]⟩ :: ss.drop (k + 1) := by
  rw [List.drop_eq_getElem_cons h]; simp [h]
theorem OwnV.lowT {w : World} {B B' n c size : Nat} {e : TypeId} {A : Option Addr} {vs : List Value} (h : OwnV w B e size A n c vs) (hb : B' ≤ B) : OwnV w B' e size A n c vs := by
  refine ⟨h.1, ?_⟩
  rcases h.2 with h2 | ⟨g, cap, cur, hv, hg, r⟩
  · exact .inl h2
  · exact .inr ⟨g, cap, cur, hv, Nat.le_trans hb hg, r⟩
theorem wfRune {r : Int} (h : scalar r = true) : (Lit.int .i32 r).wf = true := by
  have h8 : IntKind.i32.min ≤ r ∧ r ≤ IntKind.i32.max := by
    show (-2147483648 : Int) ≤ _ ∧ _ ≤ (2147483647 : Int)
    simp [scalar] at h
    omega
  simpa [Lit.wf] using h8
/-- what New leaves -/
def NewPost (w : World) (R : List Pat ⊕ (Nat × Int)) (e : Ending) (w' : World) : Prop :=
  match R with
  | .inr q => e = .returned (.tuple #[.pointer none, .int .i64 (q.1 : Int), .int .i64 q.2]) ∧ Below w.heap.size w w'
  | .inl L => ∃ b0 N node kids, e = .returned (.tuple #[.pointer (some ⟨b0, 0, none⟩), .int .i64 0, .int .i64 0]) ∧ TrieAt Tryd.prog w' w.heap.size b0 N (lookP L) node kids ∧ Below w.heap.size w w'
/-- what is known at the head of the loop over texts -/
structure NwRel (w wr : World) (R : List Pat ⊕ (Nat × Int)) (ss : List ByteArray) (i : Nat) (L : List Pat) (N : Nat) (node kids : List Int → Option Nat) : Prop where
  trie : TrieAt Tryd.prog wr w.heap.size w.heap.size N (lookP L) node kids
  cnt : N ≤ i * 1000
  res : newF (ss.drop i) i L = R
  be : Below w.heap.size w wr
/-- .. over the letters of one -/
structure LtRel (w wr : World) (L : List Pat) (p : Pat) (A1 : Option Addr) (c1 : Nat) (A2 : Option Addr) (c2 : Nat) (M j : Nat) (g : Nat) (node kids : List Int → Option Nat) : Prop where
  trie : TrieAt Tryd.prog wr w.heap.size w.heap.size M (lookP L) node kids
  cnt : M ≤ 1000000 + j
  at_ : node (p.1.take j) = some g
  oL : Own wr w.heap.size 21 .i32 A1 p.1.length c1 p.1
  oD : Own wr w.heap.size 3 .i64 A2 p.2.length c2 p.2
  be : Below w.heap.size w wr
theorem sliceNeqNil (A : Option Addr) (n c : Nat) (w : World) : (binOp .neq 25 (.slice A n c) (.slice none 0 0)).run Tryd.prog w = .ok (.bool (!A.isNone)) w :=
  run_neq_slice_nil_any w _ _ A n c 0 0 Tryd.underlying25
theorem i32_ne1 : (21 : TypeId) ≠ 53 := by decide
theorem i32_ne2 : (21 : TypeId) ≠ 55 := by decide

set_option maxHeartbeats 4000000 in
theorem pnew_any (A : Option Addr) (n c : Nat) (ss : List ByteArray) (w : World) (hx : StrsIn w A n c ss) (hn : n ≤ 512) (hs : ∀ s ∈ ss, s.size ≤ 1000) :
    Calls Tryd.prog 11 #[.slice A n c] w (NewPost w (newF ss 0 [])) := by
  obtain ⟨R, hR⟩ : ∃ R, newF ss 0 [] = R := ⟨_, rfl⟩
  rw [hR]
  have HX : Shut _ := ⟨hx⟩
  have HS : Shut _ := ⟨hs⟩
  have HLEN : Shut _ := ⟨hx.len⟩
  have R0 : Shut (NwRel w (w.alloc (.cells #[.map none, .slice none 0 0, .int .i64 (n : Int)] 55)) R ss 0 [] 0 (fun p => if p = [] then some w.heap.size else none) (fun _ => none)) :=
    ⟨⟨TrieAt.start _ w w.heap.size (Nat.le_refl _) _, by omega, hR, below_alloc w _⟩⟩
  clear hx hs hR
  go_enter Tryd.func11, Tryd.ntmps11
  go_wp2_with fail
  go_loopg [23] (n + 1) (fun gg v wr => ∃ (i : Nat) (L : List Pat) (N : Nat) (node kids : List Int → Option Nat), n - i < gg ∧ i ≤ n ∧ v = .int .i64 (i : Int) ∧ Shut (NwRel w wr R ss i L N node kids))
  case atStart => exact ⟨0, [], 0, _, _, by omega, by omega, rfl, R0⟩
  case round =>
    obtain ⟨i, L, N, node, kids, hg, hin, rfl, RL⟩ := hrel
    by_cases hlt : i < n
    · obtain ⟨ad, rfl, hab, hcx⟩ := (HX.out.pass RL.out.be).at_ (by omega)
      have hc := hcx i hlt
      have hi : i < ss.length := by rw [HLEN.out]; exact hlt
      have hsz : (ss.getD i ⟨#[]⟩).size ≤ 1000 := HS.out _ (by rw [List.getD_eq_getElem?_getD, List.getElem?_eq_getElem hi]; exact List.getElem_mem ..)
      have RES : Shut (newF (ss.getD i ⟨#[]⟩ :: ss.drop (i + 1)) i L = R) := ⟨by rw [← drop_getD hi]; exact RL.out.res⟩
      generalize ss.getD i ⟨#[]⟩ = s at *
      have PC : Shut (∀ W, Calls Tryd.prog 24 #[.string s] W (ParsePost W (parsed s))) := ⟨fun W => pparse_any s (by omega) W⟩
      clear hcx hab hi
      cases hp : parsed s with
      | none =>
        rw [hp] at PC
        have E : Shut (_ = R) := ⟨(newF_none hp).symm.trans RES.out⟩
        clear hp
        go_wp2_with fail
        refine (PC.out _).mono ?_
        rintro e w1 ⟨rfl, b1⟩
        have B1 : Shut _ := ⟨RL.out.be.trans (b1.mono RL.out.be.size)⟩
        clear b1
        go_wp2_with fail
        go_ret3
        rw [← E.out]
        exact ⟨rfl, B1.out⟩
      | some p =>
        rw [hp] at PC
        have HP : Shut _ := ⟨hp⟩
        have OK : Shut (PatOk p) := ⟨parsed_ok hp⟩
        have hpl : p.1.length ≤ 1000 := Nat.le_trans (parsed_len20 hp) hsz
        have hpd : p.2.length ≤ 1001 := by have := OK.out.2.1; omega
        obtain ⟨wo, rfl⟩ : ∃ wo : World, wo = wr := ⟨_, rfl⟩
        clear hp
        go_wp2_with fail
        refine (PC.out _).mono ?_
        rintro e w1 ⟨A1, A2, c1, c2, rfl, o1, o2, b1⟩
        have hwz := RL.out.be.size
        have S1 : Shut (LtRel w w1 L p A1 c1 A2 c2 N 0 w.heap.size node kids) :=
          ⟨⟨RL.out.trie.pass b1, by have := RL.out.cnt; omega, RL.out.trie.root, OwnV.lowT o1 hwz, OwnV.lowT o2 hwz, RL.out.be.trans (b1.mono hwz)⟩⟩
        clear o1 o2 b1 hwz
        go_wp2_with fail
        go_loopg [11, 13, 42] (p.1.length + 1) (fun gg v11 v13 v42 wr => ∃ (j M g : Nat) (node' kids' : List Int → Option Nat), p.1.length - j < gg ∧ j ≤ p.1.length ∧ v11 = .pointer (some ⟨g, 0, none⟩) ∧ v42 = .int .i64 (j : Int) ∧ Shut (LtRel w wr L p A1 c1 A2 c2 M j g node' kids') ∧ M ≤ N + j)
        case atStart => exact ⟨0, N, w.heap.size, node, kids, by omega, by omega, rfl, rfl, S1, by omega⟩
        case round =>
          obtain ⟨j, M, g, node', kids', hg2, hjl, rfl, rfl, S, hM⟩ := hrel
          by_cases hj : j < p.1.length
          · obtain ⟨gl, rfl, _⟩ := OwnV.form S.out.oL (by omega)
            have hcl := own_cellH S.out.oL hj
            have hrw : (Lit.int .i32 (nth p.1 j)).wf = true := wfRune (OK.out.2.2.1 (nth p.1 j) (by rw [nth_eq hj]; exact List.getElem_mem ..)).2
            have ST : Shut _ := ⟨step_any _ w.heap.size w.heap.size M (lookP L) node' kids' S.out.trie S.out.be.size (by have := S.out.cnt; omega) _ g (nth p.1 j) S.out.at_ hrw⟩
            have TK : Shut (p.1.take j ++ [nth p.1 j] = p.1.take (j + 1)) := ⟨by rw [List.take_succ_eq_append_getElem hj, nth_eq hj]⟩
            generalize nth p.1 j = r at *
            clear hrw
            go_wp2_with fail
            refine ST.out.mono ?_
            rintro e w2 ⟨g', node2, kids2, rfl, t2, n2, s2, b2⟩
            rw [TK.out] at n2
            have S2 : Shut (LtRel w w2 L p (some ⟨gl, 0, none⟩) c1 A2 c2 (M + 1) (j + 1) g' node2 kids2) :=
              ⟨⟨t2, by have := S.out.cnt; omega, n2, Own.spare S.out.oL s2 i32_ne1 i32_ne2, Own.spare S.out.oD s2 int_ne1 int_ne2, S.out.be.trans b2⟩⟩
            clear t2 n2 s2 b2
            go_wp2_with fail
            go_roundg (p.1.length - j)
            case measure => omega
            case rel => exact ⟨j + 1, M + 1, g', node2, kids2, by omega, by omega, rfl, by go_num, S2, by omega⟩
          · obtain rfl : j = p.1.length := by omega
            have hat := S.out.at_
            rw [List.take_length] at hat
            obtain ⟨hBg, A0, n0, c0, kn, dg⟩ := S.out.trie.knot _ _ hat
            have K : Shut _ := ⟨kn⟩
            have HAT : Shut _ := ⟨hat⟩
            have k1 := kn.c1
            have hgl := kn.lt
            have nn := sliceNeqNil A0 n0 c0
            clear kn hat
            cases hl : lookP L p.1 with
            | some d0 =>
              rw [hl] at dg
              obtain ⟨rfl, hn0, od⟩ := dg
              obtain ⟨gd, rfl, _⟩ := OwnV.form od hn0
              have E : Shut (_ = R) := ⟨(newF_twice HP.out (by rw [hl]; rfl)).symm.trans RES.out⟩
              clear hl od
              go_wp2_with fail
              go_ret3
              rw [← E.out]
              exact ⟨rfl, S.out.be⟩
            | none =>
              rw [hl] at dg
              obtain ⟨rfl, rfl, rfl⟩ := dg
              have E : Shut (_ = R) := ⟨(newF_next HP.out hl).symm.trans RES.out⟩
              have hdp : 0 < p.2.length := by have := OK.out.2.1; omega
              have T3 := S.out.trie.setdig (A := A2) (n := p.2.length) (c := c2) (ds := p.2) HAT.out ⟨rfl, hdp, S.out.oD⟩
              have T3 := T3.dgEq (fun q => (look_snoc (L := L) (d := p.2) hl).symm)
              have S3 : Shut (NwRel w (wr.setCell ⟨g, 1, none⟩ (.slice A2 p.2.length c2)) R ss (i + 1) (L ++ [p]) M node' kids') :=
                ⟨⟨T3, by have := RL.out.cnt; omega, E.out, S.out.be.setCell (p := ⟨g, 1, none⟩) hBg _⟩⟩
              have f1 := K.out.f 1
              clear T3 hl
              go_wp2_with fail
              go_roundg (n - i)
              case measure => omega
              case rel => exact ⟨i + 1, L ++ [p], M, node', kids', by omega, by omega, by go_num, S3⟩
    · obtain rfl : i = n := by omega
      have E := RL.out.res
      rw [List.drop_eq_nil_of_le (by rw [HLEN.out]; exact Nat.le_refl _)] at E
      have E : Shut (_ = R) := ⟨E⟩
      clear hlt
      go_wp2_with fail
      go_ret3
      rw [← E.out]
      exact ⟨_, N, node, kids, rfl, RL.out.trie, RL.out.be⟩
end Go.Proofs.YtgianjnccpbnaaaDoor
