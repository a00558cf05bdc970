/- Chapter 20: the reference's New: patterns in a list. -/
import Derived.Test.YtgianjnccpbnaaaDoorHpts
import Derived.Test.YtgianjnccpbnaaaDoorHrp
import Derived.Test.YtgianjnccpbnaaaDoorHsame
namespace Go.Proofs.YtgianjnccpbnaaaDoor
open Go.ChangeShapes Go.WideShapes Go.ChangeAt Go.RowKit
set_option maxRecDepth 100000
set_option linter.unusedSimpArgs false

theorem TP20 : SliceOf Tryd.prog 35 62 2 48 := sliceOf_mk Tryd.underlying35 (z := .agg #[.slice none 0 0, .slice none 0 0]) (by kernel_rfl) rfl (by omega) (by omega)
theorem own_apartN {w : World} {B B' n n' c c' s s' : Nat} {e e' : TypeId} {A A' : Option Addr} {vs vs' : List Value} (h : OwnV w B e s A n c vs) (h' : OwnV w B' e' s' A' n' c' vs') (hne : e ≠ e') : Apart A A' := by
  intro g h1 h2
  subst h1; subst h2
  rcases h.2 with ⟨hv, _⟩ | ⟨g1, cap, cur, hv, _, hb, _⟩
  · cases hv
  · rcases h'.2 with ⟨hv2, _⟩ | ⟨g2, cap2, cur2, hv2, _, hb2, _⟩
    · cases hv2
    · injection hv with hv
      injection hv with hv
      injection hv with hv
      injection hv2 with hv2
      injection hv2 with hv2
      injection hv2 with hv2
      subst hv; subst hv2
      rw [hb] at hb2
      injection hb2 with hb2
      injection hb2 with _ hb2
      exact hne hb2
theorem cells_newT (w : World) (a b : Value) (t : TypeId) : ∀ j u, [a, b][j]? = some u → (w.alloc (.cells #[a, b] t)).cell? ⟨w.heap.size, j, none⟩ = some u := by
  intro j u h
  rw [cell_of_row _ _ _ _ _ _ (heap_alloc_new w _)]
  simpa using h
theorem pat_ne1 : (21 : TypeId) ≠ 62 := by decide
theorem pat_ne2 : (3 : TypeId) ≠ 62 := by decide
/-- the cells of pairs -/
def prV (rs : List (Value × Value)) : List Value := rs.flatMap fun r => [r.1, r.2]
theorem prV_app (rs qs : List (Value × Value)) : prV (rs ++ qs) = prV rs ++ prV qs := by simp [prV]
theorem prV_at : ∀ (rs : List (Value × Value)) (j : Nat) (h : j < rs.length), (prV rs)[j * 2]? = some (rs[j]).1 ∧ (prV rs)[j * 2 + 1]? = some (rs[j]).2
  | [], j, h => by simp at h
  | r :: rs, 0, _ => by simp [prV]
  | r :: rs, j + 1, h => by
    have ih := prV_at rs j (by simpa using h)
    have e1 : prV (r :: rs) = r.1 :: r.2 :: prV rs := by simp [prV]
    rw [e1, show (j + 1) * 2 = j * 2 + 1 + 1 by omega]
    simp only [List.getElem?_cons_succ, List.getElem_cons_succ]
    exact ih
/-- a pattern's letters and digits, as two slices that the call made -/
def PatV (w : World) (B : Nat) (r : Value × Value) (p : Pat) : Prop :=
  ∃ (A1 A2 : Option Addr) (c1 c2 : Nat), r = (.slice A1 p.1.length c1, .slice A2 p.2.length c2) ∧ Own w B 21 .i32 A1 p.1.length c1 p.1 ∧ Own w B 3 .i64 A2 p.2.length c2 p.2
/-- patterns in a list -/
structure PatsAt (w : World) (B : Nat) (A : Option Addr) (c : Nat) (L : List Pat) (rs : List (Value × Value)) : Prop where
  len : rs.length = L.length
  own : OwnV w B 62 2 A L.length c (prV rs)
  each : ∀ k (h1 : k < rs.length) (h2 : k < L.length), PatV w B rs[k] L[k]
theorem PatV.pass {w w' : World} {B : Nat} {r : Value × Value} {p : Pat} (h : PatV w B r p) (hb : Below w.heap.size w w') : PatV w' B r p := by
  obtain ⟨A1, A2, c1, c2, e, h1, h2⟩ := h
  exact ⟨A1, A2, c1, c2, e, h1.pass hb, h2.pass hb⟩
theorem PatV.kept {w w' : World} {B B' n c d : Nat} {vs : List Value} {r : Value × Value} {p : Pat} {C : Option Addr} (h : PatV w B r p) (hC : OwnV w B' 62 2 C n d vs) (hg : w.grownBy w' (Value.slice C n d).ownBlock) (_ : c = c) : PatV w' B r p := by
  obtain ⟨A1, A2, c1, c2, e, h1, h2⟩ := h
  exact ⟨A1, A2, c1, c2, e, OwnV.kept h1 hg (own_apartN h1 hC pat_ne1) (OwnV.headC hC), OwnV.kept h2 hg (own_apartN h2 hC pat_ne2) (OwnV.headC hC)⟩
theorem PatsAt.pass {w w' : World} {B : Nat} {A : Option Addr} {c : Nat} {L : List Pat} {rs : List (Value × Value)} (h : PatsAt w B A c L rs) (hb : Below w.heap.size w w') : PatsAt w' B A c L rs :=
  ⟨h.len, h.own.pass hb, fun k h1 h2 => (h.each k h1 h2).pass hb⟩
theorem PatsAt.nil (w : World) (B : Nat) : PatsAt w B none 0 [] [] := ⟨rfl, OwnV.nil _ _ _ _, fun k h1 => by cases h1⟩
theorem PatsAt.push {w w' : World} {B : Nat} {A A' : Option Addr} {c c' : Nat} {L : List Pat} {rs : List (Value × Value)} {r : Value × Value} {p : Pat} (h : PatsAt w B A c L rs) (hp : PatV w B r p)
    (ho : OwnV w' B 62 2 A' (L.length + 1) c' (prV rs ++ [r.1, r.2])) (hg : w.grownBy w' (Value.slice A L.length c).ownBlock) : PatsAt w' B A' c' (L ++ [p]) (rs ++ [r]) := by
  refine ⟨by simp [h.len], ?_, fun k h1 h2 => ?_⟩
  · rw [prV_app, List.length_append]
    exact ho
  · rcases Nat.lt_or_ge k rs.length with h3 | h3
    · have h4 : k < L.length := by rw [← h.len]; exact h3
      rw [List.getElem_append_left h3, List.getElem_append_left h4]
      exact (h.each k h3 h4).kept (c := 0) h.own hg rfl
    · have e1 : k = rs.length := by simp at h1; omega
      subst e1
      have e2 : rs.length = L.length := h.len
      rw [List.getElem_append_right (Nat.le_refl _), List.getElem_append_right (by omega)]
      simp only [e2, Nat.sub_self, List.getElem_cons_zero]
      exact hp.kept (c := 0) h.own hg rfl
/-- what New leaves -/
def NewRPost (w : World) (R : List Pat ⊕ (Nat × Int)) (e : Ending) (w' : World) : Prop :=
  match R with
  | .inr q => e = .returned (.tuple #[.slice none 0 0, .int .i64 (q.1 : Int), .int .i64 q.2]) ∧ Below w.heap.size w w'
  | .inl L => ∃ (A : Option Addr) (c : Nat) (rs : List (Value × Value)), e = .returned (.tuple #[.slice A L.length c, .int .i64 0, .int .i64 0]) ∧ PatsAt w' w.heap.size A c L rs ∧ Below w.heap.size w w'
structure NrRel (w wr : World) (R : List Pat ⊕ (Nat × Int)) (ss : List ByteArray) (i : Nat) (L : List Pat) (A : Option Addr) (c : Nat) (rs : List (Value × Value)) : Prop where
  pats : PatsAt wr w.heap.size A c L rs
  small : ∀ p ∈ L, p.1.length ≤ 1000
  res : newF (ss.drop i) i L = R
  be : Below w.heap.size w wr
/-- while a pattern is held against those ahead of it -/
structure NkRel (w wr : World) (L : List Pat) (A : Option Addr) (c : Nat) (rs : List (Value × Value)) (p : Pat) (A1 : Option Addr) (c1 : Nat) (A2 : Option Addr) (c2 k : Nat) : Prop where
  pats : PatsAt wr w.heap.size A c L rs
  oL : Own wr w.heap.size 21 .i32 A1 p.1.length c1 p.1
  oD : Own wr w.heap.size 3 .i64 A2 p.2.length c2 p.2
  no : ∀ j (h : j < L.length), j < k → (L[j]).1 ≠ p.1
  be : Below w.heap.size w wr

set_option maxHeartbeats 4000000 in
theorem rnew_any (A : Option Addr) (n c : Nat) (ss : List ByteArray) (w : World) (hx : StrsIn w A n c ss) (hn : n ≤ 512) (hs : ∀ s ∈ ss, s.size ≤ 1000) :
    Calls Tryd.prog 12 #[.slice A n c] w (NewRPost w (newF ss 0 [])) := by
  obtain ⟨R, hR⟩ : ∃ R, newF ss 0 [] = R := ⟨_, rfl⟩
  rw [hR]
  have HX : Shut _ := ⟨hx⟩
  have HS : Shut _ := ⟨hs⟩
  have HLEN : Shut _ := ⟨hx.len⟩
  have R0 : Shut (NrRel w w R ss 0 [] none 0 []) := ⟨⟨PatsAt.nil _ _, fun p h => (by cases h), hR, Below.refl _ _⟩⟩
  clear hx hs hR
  go_enter Tryd.func12, Tryd.ntmps12
  go_wp2_with fail
  go_loopg [5, 6] (n + 1) (fun gg v5 v6 wr => ∃ (i : Nat) (L : List Pat) (Ap : Option Addr) (cp : Nat) (rs : List (Value × Value)), n - i < gg ∧ i ≤ n ∧ L.length ≤ i ∧ v5 = .slice Ap L.length cp ∧ v6 = .int .i64 (i : Int) ∧ Shut (NrRel w wr R ss i L Ap cp rs))
  case atStart => exact ⟨0, [], none, 0, [], by omega, by omega, by simp, rfl, rfl, R0⟩
  case round =>
    obtain ⟨i, L, Ap, cp, rs, hg, hin, hLi, rfl, rfl, RL⟩ := hrel
    by_cases hlt : i < n
    · obtain ⟨ad, rfl, hab, hcx⟩ := (HX.out.pass RL.out.be).at_ (by omega)
      have hc := hcx i hlt
      have hi : i < ss.length := by rw [HLEN.out]; exact hlt
      have hsz : (ss.getD i ⟨#[]⟩).size ≤ 1000 := HS.out _ (by rw [List.getD_eq_getElem?_getD, List.getElem?_eq_getElem hi]; exact List.getElem_mem ..)
      have RES : Shut (newF (ss.getD i ⟨#[]⟩ :: ss.drop (i + 1)) i L = R) := ⟨by rw [← drop_getD hi]; exact RL.out.res⟩
      generalize ss.getD i ⟨#[]⟩ = s at *
      have PC : Shut (∀ W, Calls Tryd.prog 26 #[.string s] W (ParsePost W (parsed s))) := ⟨fun W => rparse_any s (by omega) W⟩
      clear hcx hab hi
      cases hp : parsed s with
      | none =>
        rw [hp] at PC
        have E : Shut (_ = R) := ⟨(newF_none hp).symm.trans RES.out⟩
        clear hp
        go_wp2_with fail
        refine (PC.out _).mono ?_
        rintro e w1 ⟨rfl, b1⟩
        have B1 : Shut _ := ⟨RL.out.be.trans (b1.mono RL.out.be.size)⟩
        clear b1
        go_wp2_with fail
        go_ret3
        rw [← E.out]
        exact ⟨rfl, B1.out⟩
      | some p =>
        rw [hp] at PC
        have HP : Shut _ := ⟨hp⟩
        have OK : Shut (PatOk p) := ⟨parsed_ok hp⟩
        have hpl : p.1.length ≤ 1000 := Nat.le_trans (parsed_len20 hp) hsz
        have hpd : p.2.length ≤ 1001 := by have := OK.out.2.1; omega
        obtain ⟨wo, rfl⟩ : ∃ wo : World, wo = wr := ⟨_, rfl⟩
        have HG : Shut (n - i < gk) := ⟨hg⟩
        clear hp hg
        go_wp2_with fail
        refine (PC.out _).mono ?_
        rintro e w1 ⟨A1, A2, c1, c2, rfl, o1, o2, b1⟩
        have hwz := RL.out.be.size
        have S1 : Shut (NkRel w w1 L Ap cp rs p A1 c1 A2 c2 0) :=
          ⟨⟨RL.out.pats.pass b1, OwnV.lowT o1 hwz, OwnV.lowT o2 hwz, fun j h h2 => by omega, RL.out.be.trans (b1.mono hwz)⟩⟩
        clear o1 o2 b1 hwz
        go_wp2_with fail
        go_loopg [10] (L.length + 1) (fun gg v10 wr => ∃ (k : Nat), L.length - k < gg ∧ k ≤ L.length ∧ v10 = .int .i64 (k : Int) ∧ Shut (NkRel w wr L Ap cp rs p A1 c1 A2 c2 k))
        case atStart => exact ⟨0, by omega, by omega, rfl, S1⟩
        case round =>
          obtain ⟨k, hg2, hk, rfl, S⟩ := hrel
          by_cases hkl : k < L.length
          · have hkr : k < rs.length := by rw [S.out.pats.len]; exact hkl
            obtain ⟨v1, v2⟩ := prV_at rs k hkr
            obtain ⟨ga, rfl, _⟩ := OwnV.form S.out.pats.own (by omega)
            obtain ⟨Al, Ad, cl, cd, er, ol, od⟩ := S.out.pats.each k hkr hkl
            rw [er] at v1
            have d1 := (OwnV.cellAt S.out.pats.own (k * 2) (by omega)).trans v1
            have hll : (L[k]).1.length ≤ 1000 := RL.out.small _ (List.getElem_mem ..)
            have SM : Shut _ := ⟨same02_any Al A1 (L[k]).1.length p.1.length cl c1 (L[k]).1 p.1 wr ol.ints S.out.oL.ints (by omega) (by omega)⟩
            have HEQ : Shut (((L[k]).1 == p.1) = decide ((L[k]).1 = p.1)) := ⟨by rw [Bool.eq_iff_iff]; simp⟩
            have HMEM : Shut (L[k] ∈ L) := ⟨List.getElem_mem ..⟩
            have NO : Shut (∀ (b : Bool), b = false → ((L[k]).1 == p.1) = b → ∀ j (h : j < L.length), j < k + 1 → (L[j]).1 ≠ p.1) := ⟨fun b hb h j hj hjk => by
              rcases Nat.lt_or_ge j k with h3 | h3
              · exact S.out.no j hj h3
              · obtain rfl : j = k := by omega
                subst hb
                simpa using h⟩
            have YES : Shut (((L[k]).1 == p.1) = true → (lookP L p.1).isSome = true) := ⟨fun h => by
              cases hl : lookP L p.1 with
              | some d => rfl
              | none => exact absurd (by simpa using h) (look_none.1 hl _ HMEM.out)⟩
            clear v1 v2 er ol od hkr
            generalize (L[k]).1 = lk at *
            cases hb : (lk == p.1) with
            | true =>
              rw [hb] at SM
              have E : Shut (_ = R) := ⟨(newF_twice HP.out (YES.out hb)).symm.trans RES.out⟩
              clear hb
              go_wp2_with fail
              refine SM.out.mono ?_
              rintro e w3 ⟨rfl, b3⟩
              have B3 : Shut _ := ⟨S.out.be.trans (b3.mono S.out.be.size)⟩
              clear b3
              go_wp2_with fail
              go_ret3
              rw [← E.out]
              exact ⟨rfl, B3.out⟩
            | false =>
              rw [hb] at SM
              have N2 : Shut _ := ⟨NO.out _ rfl hb⟩
              clear hb
              go_wp2_with fail
              refine SM.out.mono ?_
              rintro e w3 ⟨rfl, b3⟩
              have S3 : Shut (NkRel w w3 L (some ⟨ga, 0, none⟩) cp rs p A1 c1 A2 c2 (k + 1)) :=
                ⟨⟨S.out.pats.pass b3, Own.pass S.out.oL b3, Own.pass S.out.oD b3, N2.out, S.out.be.trans (b3.mono S.out.be.size)⟩⟩
              clear b3
              go_wp2_with fail
              go_roundg (L.length - k)
              case measure => omega
              case rel => exact ⟨k + 1, by omega, by omega, by go_num, S3⟩
          · obtain rfl : k = L.length := by omega
            have hl : lookP L p.1 = none := look_none.2 fun q hq => by
              obtain ⟨j, hj, e⟩ := List.getElem_of_mem hq
              rw [← e]
              exact S.out.no j hj hj
            have E : Shut (_ = R) := ⟨(newF_next HP.out hl).symm.trans RES.out⟩
            have hwz := S.out.be.size
            have SA : Shut (PatsAt (wr.alloc (.cells #[.slice A1 p.1.length c1, .slice A2 p.2.length c2] 62)) w.heap.size Ap cp L rs) := ⟨S.out.pats.pass (below_alloc wr _)⟩
            have PV : Shut (PatV (wr.alloc (.cells #[.slice A1 p.1.length c1, .slice A2 p.2.length c2] 62)) w.heap.size (.slice A1 p.1.length c1, .slice A2 p.2.length c2) p) := ⟨⟨A1, A2, c1, c2, rfl, Own.alloc S.out.oL _, Own.alloc S.out.oD _⟩⟩
            clear hl hkl
            go_wp2_with (at_builtin; refine wpList_pushVAt TP20 rfl (.tmp 46) (.tmp 50) rfl rfl SA.out.own rfl (news := [.slice A1 p.1.length c1, .slice A2 p.2.length c2]) rfl (cells_newT _ _ _ _) (fun u hu => by simp at hu; rcases hu with rfl | rfl <;> rfl) (by omega) (by simp; omega) ?_; intro A5 c5 w5 o5 b5 g5 _)
            have S5 : Shut (NrRel w w5 R ss (i + 1) (L ++ [p]) A5 c5 (rs ++ [(.slice A1 p.1.length c1, .slice A2 p.2.length c2)])) :=
              ⟨⟨SA.out.push PV.out o5 g5, fun q hq => by
                rcases List.mem_append.1 hq with h1 | h1
                · exact RL.out.small q h1
                · obtain rfl := List.mem_singleton.1 h1; exact hpl, E.out, (S.out.be.alloc hwz _).trans b5⟩⟩
            clear o5 b5 g5
            go_roundg (n - i)
            case measure => have := HG.out; omega
            case rel => exact ⟨i + 1, L ++ [p], A5, c5, _, by omega, by omega, by simp; omega, by simp, by go_num, S5⟩
    · obtain rfl : i = n := by omega
      have E := RL.out.res
      rw [List.drop_eq_nil_of_le (by rw [HLEN.out]; exact Nat.le_refl _)] at E
      have E : Shut (_ = R) := ⟨E⟩
      clear hlt
      go_wp2_with fail
      go_ret3
      rw [← E.out]
      exact ⟨Ap, cp, rs, rfl, RL.out.pats, RL.out.be⟩
end Go.Proofs.YtgianjnccpbnaaaDoor
