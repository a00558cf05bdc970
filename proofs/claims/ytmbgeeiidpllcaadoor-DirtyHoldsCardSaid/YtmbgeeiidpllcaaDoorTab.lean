/- Table functions: an if-chain over one rune that hands back a struct and a bool; a list of calls on known values. General laws, no program in sight. -/
import Derived.WalkKit
import Derived.ProofKit
import Derived.Laws.CopyOwn
namespace Go.Proofs.YtmbgeeiidpllcaaDoor
set_option linter.unusedSimpArgs false
open Go.ChangeShapes Go.WideShapes Go.ChangeAt Go.RowKit

def EntersIt (P : Program) (f : FuncId) : Prop := ∀ (args : Array Value) (w : World), (callFunc f args).run P w = .ok (.enter f args) w

/-- what a known function answers, whatever the world; it makes new memory alone -/
def Answers (P : Program) (S : FuncId → Array Value → Option Value) : Prop :=
  ∀ f xs v, S f xs = some v → EntersIt P f ∧ ∀ w, Calls P f xs w fun e w' => e = .returned v ∧ Below w.heap.size w w'

section
variable {P : Program} {a : Act} {w : World}

theorem get_put_same {d : Nat} (v : Value) (h : d < a.tmps.size) : (a.put (some d) v).tmps.getD d undef = v := by
  simp [Act.put, h]
theorem get_put_other {d e : Nat} (v : Value) (h : e ≠ d) : (a.put (some d) v).tmps.getD e undef = a.tmps.getD e undef := by
  simp [Act.put, Array.getElem?_setIfInBounds, Ne.symm h]
theorem size_put (d : Option Nat) (v : Value) : (a.put d v).tmps.size = a.tmps.size := by
  cases d <;> simp [Act.put]
theorem defers_put (d : Option Nat) (v : Value) : (a.put d v).defers = a.defers := by
  cases d <;> simp [Act.put]

theorem wp_move_go {o : Oper} {K : Act → World → Prop} {Q : Exit → Act → World → Prop} (x : Operand) (ho : o.op = .move x ∨ o.op = .assign x) (h : K (a.put o.dst (a.eval x)) w) : o.wp P a w K Q := by
  unfold Oper.wp execOp
  rcases ho with ho | ho <;> simp only [ho] <;> exact h

theorem wp_call_go {o : Oper} {K : Act → World → Prop} {Q : Exit → Act → World → Prop} (f : FuncId) (xs : Array Operand) (ats : Array TypeId)
    (ho : o.op = .call { callee := .value (.func f), args := xs, argTypes := ats }) (he : EntersIt P f) {v : Value}
    (hc : Calls P f (xs.map a.eval) w fun e w' => e = .returned v ∧ Below w.heap.size w w')
    (hk : ∀ w', Below w.heap.size w w' → K (a.put o.dst v) w') : o.wp P a w K Q := by
  obtain ⟨dst, op, ty, pos, after, g⟩ := o
  simp only at ho
  subst ho
  unfold Oper.wp
  rw [execOp_call_go]
  have e1 : #[] ++ Array.map a.eval xs ++ #[] = Array.map a.eval xs := by simp
  rw [e1, he, Oper.upon_enter]
  exact hc.mono fun e w' ⟨h1, h2⟩ => by subst h1; exact hk w' h2

theorem wpList_store_row {ops : Array Oper} {rest : List Oper} {o : Oper} {Q : Exit → Act → World → Prop} (hgd : o.guard = none) (ty : TypeId) (x y : Operand) (ho : o.op = .store ty x y)
    (g : Nat) (cells : Array Value) (hx : a.eval x = .pointer (some ⟨g, 0, none⟩)) (hy : a.eval y = .agg cells)
    (t : TypeId) (old : Array Value) (hg : w.heap[g]? = some (.cells old t (0, 0))) (hi : (P.info? ty).map (·.size) = some cells.size)
    (hold : old.size = cells.size) (h1 : cells.all (·.oneCell') = true)
    (h : wpList P ops Q rest (a.put o.dst undef) (w.setRow g cells)) : wpList P ops Q (o :: rest) a w :=
  wpList_plain hgd fun _ hK => wp_store_row ty x y ho g cells hx hy t old hg hi hold h1 (hK _ _ h)

/-! ### the if-chain -/

def parseCond (n c : Nat) : List Oper → Option (Int × Int)
  | [⟨some d1, .move (.tmp 0), _, _, _, none⟩, ⟨some d2, .binOp .geq _ (.tmp e1) (.const (.int .i32 lo)) _, _, _, _, none⟩, ⟨some d3, .move (.tmp e2), _, _, _, none⟩,
     ⟨some d4, .move (.tmp 0), _, _, _, some (2, true)⟩, ⟨some d5, .binOp .leq _ (.tmp e4) (.const (.int .i32 hi)) _, _, _, _, some (2, true)⟩,
     ⟨some d6, .pick (.tmp e3) (.tmp e5) (.const (.bool false)), _, _, _, none⟩] =>
    if e1 = d1 ∧ e2 = d2 ∧ e3 = d3 ∧ e4 = d4 ∧ e5 = d5 ∧ c = d6 ∧ 4 ≤ d1 ∧ d1 < d2 ∧ d2 < d3 ∧ d3 < d4 ∧ d4 < d5 ∧ d5 < d6 ∧ d6 < n then some (lo, hi) else none
  | _ => none

structure Fr (n : Nat) (r : Int) (g : Nat) (a : Act) : Prop where
  size : a.tmps.size = n
  s0 : a.tmps.getD 0 undef = .int .i32 r
  s2 : a.tmps.getD 2 undef = .pointer (some ⟨g, 0, none⟩)
  df : a.defers = []

theorem Fr.put {n : Nat} {r : Int} {g d : Nat} {v : Value} (h : Fr n r g a) (h0 : 4 ≤ d) : Fr n r g (a.put (some d) v) :=
  ⟨by rw [size_put]; exact h.size, by rw [get_put_other _ (by omega)]; exact h.s0, by rw [get_put_other _ (by omega)]; exact h.s2, by rw [defers_put]; exact h.df⟩

theorem geq_go {o : Oper} {K : Act → World → Prop} {Q : Exit → Act → World → Prop} {t t' : TypeId} {x y : Operand} {r c : Int}
    (ho : o.op = .binOp .geq t x y t') (hx : a.eval x = .int .i32 r) (hy : a.eval y = .int .i32 c) (h : K (a.put o.dst (.bool (decide (c ≤ r)))) w) : o.wp P a w K Q := by
  have e : (execOp a.eval o).run P w = .ok (.value (.bool (decide (c ≤ r)))) w := by
    unfold execOp; simp only [ho, hx, hy]; simp [go_sem]
  unfold Oper.wp; rw [e]; exact h
theorem leq_go {o : Oper} {K : Act → World → Prop} {Q : Exit → Act → World → Prop} {t t' : TypeId} {x y : Operand} {r c : Int}
    (ho : o.op = .binOp .leq t x y t') (hx : a.eval x = .int .i32 r) (hy : a.eval y = .int .i32 c) (h : K (a.put o.dst (.bool (decide (r ≤ c)))) w) : o.wp P a w K Q := by
  have e : (execOp a.eval o).run P w = .ok (.value (.bool (decide (r ≤ c)))) w := by
    unfold execOp; simp only [ho, hx, hy]; simp [go_sem]
  unfold Oper.wp; rw [e]; exact h
theorem pick_go {o : Oper} {K : Act → World → Prop} {Q : Exit → Act → World → Prop} {c x y : Operand} {b : Bool}
    (ho : o.op = .pick c x y) (hc : a.eval c = .bool b) (h : K (a.put o.dst (if b then a.eval x else a.eval y)) w) : o.wp P a w K Q := by
  have e : (execOp a.eval o).run P w = .ok (.value (if b then a.eval x else a.eval y)) w := by
    unfold execOp; simp only [ho, hc]; cases b <;> simp [go_sem]
  unfold Oper.wp; rw [e]; exact h

theorem getElem_of_getD {d : Nat} {v : Value} (h : a.tmps.getD d undef = v) (hd : d < a.tmps.size) : a.tmps[d]? = some v := by
  rw [← h]; simp [hd]

theorem want_of {ops : Array Oper} {o : Oper} {j d : Nat} {b c : Bool} (hg : o.guard = some (j, c)) (hj : (ops[j]?).bind (·.dst) = some d) (hv : a.tmps[d]? = some (.bool b)) :
    Region.wanted o (yielded ops a.tmps) = (b == c) := by
  simp [Region.wanted, hg, yielded, hj, hv]

theorem wp_condRegion {n c : Nat} {lo hi r : Int} {g id : Nat} {ops : Array Oper} {Q : Exit → Act → World → Prop} (h : parseCond n c ops.toList = some (lo, hi)) (hf : Fr n r g a)
    (hQ : ∀ a', Fr n r g a' → a'.tmps.getD c undef = .bool (decide (lo ≤ r ∧ r ≤ hi)) → Q .normal a' w) : (Code.region id ops false).wp P Q a w := by
  refine wp_region_list ?_
  obtain ⟨l⟩ := ops
  simp only at h
  unfold parseCond at h
  split at h
  case h_2 => cases h
  case h_1 l d1 t1 p1 f1 d2 t2 e1 lo' t2' u2 p2 f2 d3 e2 u3 p3 f3 d4 u4 p4 f4 d5 t5 e4 hi' t5' u5 p5 f5 d6 e3 e5 u6 p6 f6 =>
    split at h
    case isFalse => cases h
    case isTrue hd =>
      injection h with h
      injection h with h1 h2
      subst h1 h2
      obtain ⟨rfl, rfl, rfl, rfl, rfl, rfl, q1, q2, q3, q4, q5, q6, q7⟩ := hd
      replace q1 : @LE.le Nat _ 4 e1 := q1
      replace q2 : @LT.lt Nat _ e1 e2 := q2
      replace q3 : @LT.lt Nat _ e2 e3 := q3
      replace q4 : @LT.lt Nat _ e3 e4 := q4
      replace q5 : @LT.lt Nat _ e4 e5 := q5
      replace q6 : @LT.lt Nat _ e5 c := q6
      replace q7 : @LT.lt Nat _ c n := q7
      have sz := hf.size
      -- 1
      refine wpList_plain rfl fun K1 hK1 => wp_move_go (.tmp 0) (.inl rfl) (hK1 _ _ ?_)
      have f1 := hf.put (d := e1) (v := a.eval (.tmp 0)) q1
      have v1 : (a.put (some e1) (a.eval (.tmp 0))).tmps.getD e1 undef = .int .i32 r := by rw [get_put_same _ (by omega)]; exact hf.s0
      simp only
      generalize a.put (some e1) (a.eval (.tmp 0)) = a1 at *
      have sz1 := f1.size
      -- 2
      refine wpList_plain rfl fun K2 hK2 => geq_go (r := r) (c := lo') rfl v1 rfl (hK2 _ _ ?_)
      have f2 := f1.put (d := e2) (v := .bool (decide (lo' ≤ r))) (by omega)
      have v2 : (a1.put (some e2) (.bool (decide (lo' ≤ r)))).tmps.getD e2 undef = .bool (decide (lo' ≤ r)) := get_put_same _ (by omega)
      simp only
      generalize a1.put (some e2) (.bool (decide (lo' ≤ r))) = a2 at *
      have sz2 := f2.size
      -- 3
      refine wpList_plain rfl fun K3 hK3 => wp_move_go (.tmp e2) (.inl rfl) (hK3 _ _ ?_)
      have ev : a2.eval (.tmp e2) = .bool (decide (lo' ≤ r)) := v2
      rw [ev]
      have f3 := f2.put (d := e3) (v := .bool (decide (lo' ≤ r))) (by omega)
      have v3 : (a2.put (some e3) (.bool (decide (lo' ≤ r)))).tmps.getD e3 undef = .bool (decide (lo' ≤ r)) := get_put_same _ (by omega)
      simp only
      generalize a2.put (some e3) (.bool (decide (lo' ≤ r))) = a3 at *
      have sz3 := f3.size
      by_cases hlo : lo' ≤ r
      · simp only [hlo, decide_true] at v3
        -- 4
        refine wpList_step fun K4 hK4 => ?_
        rw [want_of (d := e3) (b := true) rfl rfl (getElem_of_getD v3 (by omega))]
        refine wp_move_go (.tmp 0) (.inl rfl) (hK4 _ _ ?_)
        have ev4 : a3.eval (.tmp 0) = .int .i32 r := f3.s0
        rw [ev4]
        have f4 := f3.put (d := e4) (v := .int .i32 r) (by omega)
        have v43 : (a3.put (some e4) (.int .i32 r)).tmps.getD e3 undef = .bool true := by rw [get_put_other _ (by omega)]; exact v3
        have v44 : (a3.put (some e4) (.int .i32 r)).tmps.getD e4 undef = .int .i32 r := get_put_same _ (by omega)
        simp only
        generalize a3.put (some e4) (.int .i32 r) = a4 at *
        have sz4 := f4.size
        -- 5
        refine wpList_step fun K5 hK5 => ?_
        rw [want_of (d := e3) (b := true) rfl rfl (getElem_of_getD v43 (by omega))]
        refine leq_go (r := r) (c := hi') rfl v44 rfl (hK5 _ _ ?_)
        have f5 := f4.put (d := e5) (v := .bool (decide (r ≤ hi'))) (by omega)
        have v53 : (a4.put (some e5) (.bool (decide (r ≤ hi')))).tmps.getD e3 undef = .bool true := by rw [get_put_other _ (by omega)]; exact v43
        have v55 : (a4.put (some e5) (.bool (decide (r ≤ hi')))).tmps.getD e5 undef = .bool (decide (r ≤ hi')) := get_put_same _ (by omega)
        simp only
        generalize a4.put (some e5) (.bool (decide (r ≤ hi'))) = a5 at *
        have sz5 := f5.size
        -- 6
        refine wpList_plain rfl fun K6 hK6 => pick_go (b := true) rfl v53 (hK6 _ _ ?_)
        have ev6 : a5.eval (.tmp e5) = .bool (decide (r ≤ hi')) := v55
        rw [ev6]
        refine wpList_nil (hQ _ (f5.put (by omega)) ?_)
        rw [if_pos rfl, get_put_same _ (by omega)]
        simp [hlo]
      · simp only [hlo, decide_false] at v3
        refine wpList_step fun K4 hK4 => ?_
        rw [want_of (d := e3) (b := false) rfl rfl (getElem_of_getD v3 (by omega))]
        refine hK4 _ _ ?_
        have f4 := f3.put (d := e4) (v := undef) (by omega)
        have v43 : (a3.put (some e4) undef).tmps.getD e3 undef = .bool false := by rw [get_put_other _ (by omega)]; exact v3
        simp only
        generalize a3.put (some e4) undef = a4 at *
        have sz4 := f4.size
        refine wpList_step fun K5 hK5 => ?_
        rw [want_of (d := e3) (b := false) rfl rfl (getElem_of_getD v43 (by omega))]
        refine hK5 _ _ ?_
        have f5 := f4.put (d := e5) (v := undef) (by omega)
        have v53 : (a4.put (some e5) undef).tmps.getD e3 undef = .bool false := by rw [get_put_other _ (by omega)]; exact v43
        simp only
        generalize a4.put (some e5) undef = a5 at *
        have sz5 := f5.size
        refine wpList_plain rfl fun K6 hK6 => pick_go (b := false) rfl v53 (hK6 _ _ ?_)
        have ev6 : a5.eval (.const (.bool false)) = .bool false := rfl
        rw [ev6]
        refine wpList_nil (hQ _ (f5.put (by omega)) ?_)
        rw [if_neg (by simp), get_put_same _ (by omega)]
        simp [hlo]

/-- the returning branch: a call on constants, the struct stored, the bool assigned -/
def opC : Operand → Option Value
  | .const v => some v
  | _ => none
def constsOf : List Operand → Option (List Value)
  | [] => some []
  | x :: xs => match opC x, constsOf xs with
    | some v, some vs => some (v :: vs)
    | _, _ => none
theorem constsOf_eval : ∀ {xs : List Operand} {vs : List Value}, constsOf xs = some vs → xs.map a.eval = vs
  | [], vs, h => by simp [constsOf] at h; simp [h]
  | x :: xs, vs, h => by
    unfold constsOf at h
    split at h
    · rename_i v vs' h1 h2
      injection h with h
      subst h
      rw [List.map_cons, constsOf_eval h2]
      cases x <;> simp [opC] at h1
      subst h1; rfl
    · cases h

def parseRet (S : FuncId → Array Value → Option Value) (n m : Nat) (T : TypeId) : List Oper → Option (Array Value × Bool)
  | [⟨some d1, .call ⟨.value (.func f), xs, _⟩, _, _, _, none⟩, ⟨none, .store T' (.tmp 2) (.tmp e1), _, _, _, none⟩, ⟨some 3, .assign (.const (.bool b)), _, _, _, none⟩] =>
    match constsOf xs.toList with
    | some vs => match S f vs.toArray with
      | some (.agg cs) => if e1 = d1 ∧ T' = T ∧ 4 ≤ d1 ∧ d1 < n ∧ cs.size = m ∧ cs.all (·.oneCell') = true then some (cs, b) else none
      | _ => none
    | none => none
  | _ => none

theorem wp_retRegion {S : FuncId → Array Value → Option Value} (hS : Answers P S) {n m : Nat} {T : TypeId} {ops : Array Oper} {cs : Array Value} {b : Bool} {g id : Nat} {r : Int} {Q : Exit → Act → World → Prop}
    (h : parseRet S n m T ops.toList = some (cs, b)) (hf : Fr n r g a) {old : Array Value} (hold : old.size = m) (hg : w.heap[g]? = some (.cells old T (0, 0))) (hT : (P.info? T).map (·.size) = some m)
    (hQ : ∀ a' w', Fr n r g a' → a'.tmps.getD 3 undef = .bool b → Below g w w' → w'.heap[g]? = some (.cells cs T (0, 0)) → Q .normal a' w') : (Code.region id ops false).wp P Q a w := by
  refine wp_region_list ?_
  obtain ⟨l⟩ := ops
  simp only at h
  unfold parseRet at h
  split at h
  case h_2 => cases h
  case h_1 l d1 f xs ats t1 p1 f1 T' e1 u2 p2 f2 b' u3 p3 f3 =>
    split at h
    case h_2 => cases h
    case h_1 _ vs hvs =>
      split at h
      case h_2 => cases h
      case h_1 _ cs' hcs =>
        split at h
        case isFalse => cases h
        case isTrue hd =>
          injection h with h
          injection h with h1 h2
          subst h1 h2
          obtain ⟨rfl, rfl, q1, q2, q3, q4⟩ := hd
          replace q1 : @LE.le Nat _ 4 e1 := q1
          replace q2 : @LT.lt Nat _ e1 n := q2
          obtain ⟨he, hc⟩ := hS _ _ _ hcs
          have sz := hf.size
          have hlt : g < w.heap.size := (Array.getElem?_eq_some_iff.1 hg).1
          have hxs : xs.map a.eval = vs.toArray := by
            have := constsOf_eval (a := a) hvs
            apply Array.ext'
            simpa using this
          refine wpList_plain rfl fun K1 hK1 => wp_call_go f xs ats rfl he (v := .agg cs') (by rw [hxs]; exact hc w) (fun w1 hb1 => hK1 _ _ ?_)
          have f1 := hf.put (d := e1) (v := .agg cs') q1
          have v1 : (a.put (some e1) (.agg cs')).tmps.getD e1 undef = .agg cs' := get_put_same _ (by omega)
          simp only
          generalize a.put (some e1) (.agg cs') = a1 at *
          have sz1 := f1.size
          have hg1 : w1.heap[g]? = some (.cells old T' (0, 0)) := (hb1.block g hlt).trans hg
          refine wpList_plain rfl fun K2 hK2 => wp_store_row T' (.tmp 2) (.tmp e1) rfl g cs' f1.s2 v1 T' old hg1 (by rw [hT, q3]) (by omega) q4 (hK2 _ _ ?_)
          refine wpList_plain rfl fun K3 hK3 => wp_move_go (.const (.bool b')) (.inr rfl) (hK3 _ _ ?_)
          have e2 : (a1.put none undef) = a1 := rfl
          simp only [e2]
          refine wpList_nil (hQ _ _ ⟨by rw [size_put]; exact sz1, ?_, ?_, by rw [defers_put]; exact f1.df⟩ ?_ ?_ ?_)
          · rw [get_put_other _ (by omega)]; exact f1.s0
          · rw [get_put_other _ (by omega)]; exact f1.s2
          · exact get_put_same _ (by omega)
          · exact below_setRow (hb1.mono (by omega)) (Nat.le_refl _) _
          · exact setRow_heap _ _ _ _ _ _ hg1

def chainVal (rest : Array Value) : List (Int × Int × Array Value) → Int → Array Value × Bool
  | [], _ => (rest, false)
  | (lo, hi, c) :: l, r => if lo ≤ r ∧ r ≤ hi then (c, true) else chainVal rest l r

def chain (S : FuncId → Array Value → Option Value) (n m : Nat) (T : TypeId) : Code → Option (List (Int × Int × Array Value) × Array Value)
  | .seq (.seq (.region _ ops1 false) (.cond (.tmp c) (.seq (.region _ ops2 false) .ret) .skip)) rest =>
    match parseCond n c ops1.toList, parseRet S n m T ops2.toList, chain S n m T rest with
    | some (lo, hi), some (cs, true), some (l, fin) => some ((lo, hi, cs) :: l, fin)
    | _, _, _ => none
  | .seq (.region _ ops false) .ret =>
    match parseRet S n m T ops.toList with
    | some (cs, false) => some ([], cs)
    | _ => none
  | _ => none

theorem wp_chain {S : FuncId → Array Value → Option Value} (hS : Answers P S) {n m : Nat} {T : TypeId} (hT : (P.info? T).map (·.size) = some m) {g : Nat} {r : Int} {old : Array Value} (hold : old.size = m)
    (hg : w.heap[g]? = some (.cells old T (0, 0))) {Q : Exit → Act → World → Prop} : ∀ (c : Code) (l : List (Int × Int × Array Value)) (fin : Array Value) (a : Act), chain S n m T c = some (l, fin) → Fr n r g a →
    (∀ a' w', Fr n r g a' → a'.tmps.getD 3 undef = .bool (chainVal fin l r).2 → Below g w w' → w'.heap[g]? = some (.cells (chainVal fin l r).1 T (0, 0)) → Q .ret a' w') → c.wp P Q a w := by
  intro c
  induction c with
  | seq x y ihx ihy =>
    intro l fin a h hf hQ
    unfold chain at h
    split at h
    case h_1 _ id1 ops1 c1 id2 ops2 rest hc =>
      cases hc
      split at h
      case h_2 => cases h
      case h_1 lo hi cs l' fin' h1 h2 h3 =>
        injection h with h
        injection h with e1 e2
        subst e1 e2
        refine wp_seq_k fun K hK => ?_
        refine wp_seq (wp_condRegion h1 hf fun a1 hf1 hv1 => ?_)
        refine wp_cond_split (t := decide (lo ≤ r ∧ r ≤ hi)) hv1 (fun ht => ?_) (fun ht => ?_)
        · have hin := of_decide_eq_true ht
          simp only [ht] at hv1
          refine wp_seq (wp_retRegion hS h2 hf1 hold hg hT fun a2 w2 hf2 hv2 hb2 hg2 => ?_)
          refine wp_ret (hQ a2 w2 hf2 ?_ hb2 ?_)
          · simp only [chainVal, if_pos hin]; exact hv2
          · simp only [chainVal, if_pos hin]; exact hg2
        · have hout := of_decide_eq_false ht
          refine wp_skip (hK _ _ (ihy l' fin' a1 h3 hf1 fun a2 w2 hf2 hv2 hb2 hg2 => ?_))
          refine hQ a2 w2 hf2 ?_ hb2 ?_
          · simp only [chainVal, if_neg hout]; exact hv2
          · simp only [chainVal, if_neg hout]; exact hg2
    case h_2 _ id ops hc =>
      cases hc
      split at h
      case h_2 => cases h
      case h_1 cs h1 =>
        injection h with h
        injection h with e1 e2
        subst e1 e2
        refine wp_seq (wp_retRegion hS h1 hf hold hg hT fun a2 w2 hf2 hv2 hb2 hg2 => ?_)
        exact wp_ret (hQ a2 w2 hf2 hv2 hb2 hg2)
    case h_3 => cases h
  | _ => intro l fin a h; simp [chain] at h

/-! ### a list of calls on known values, put together and stored -/

def opV (t : List Value) : Operand → Value
  | .tmp i => t.getD i undef
  | .const v => v
  | .global g => .pointer (some ⟨g, 0, none⟩)
  | .func f => .func (.func f) #[] #[]
theorem opV_eval (t : List Value) (ds : List Deferred) (x : Operand) : (Act.mk t.toArray ds).eval x = opV t x := by
  cases x <;> simp [Act.eval, opV]

def runCalls (S : FuncId → Array Value → Option Value) : List Oper → List Value → Option (List Oper × List Value)
  | [], t => some ([], t)
  | o :: rest, t =>
    match o with
    | ⟨some d, .call ⟨.value (.func f), xs, _⟩, _, _, _, none⟩ =>
      match S f (xs.toList.map (opV t)).toArray with
      | some v => runCalls S rest (t.set d v)
      | none => none
    | _ => some (o :: rest, t)

theorem wp_runCalls {S : FuncId → Array Value → Option Value} (hS : Answers P S) {ops : Array Oper} {Q : Exit → Act → World → Prop} {l' : List Oper} {t' : List Value} {ds : List Deferred} {B : Nat} : ∀ (l : List Oper) (t : List Value) (w : World),
    runCalls S l t = some (l', t') → B ≤ w.heap.size → (∀ w', Below B w w' → wpList P ops Q l' ⟨t'.toArray, ds⟩ w') → wpList P ops Q l ⟨t.toArray, ds⟩ w
  | [], t, w, h, _, hk => by
    simp [runCalls] at h
    obtain ⟨rfl, rfl⟩ := h
    exact hk w (Below.refl _ _)
  | o :: rest, t, w, h, hB, hk => by
    unfold runCalls at h
    split at h
    case h_1 d f xs ats ty p af =>
      split at h
      case h_2 => cases h
      case h_1 v hv =>
        obtain ⟨he, hc⟩ := hS _ _ _ hv
        have hxs : xs.map (Act.mk t.toArray ds).eval = (xs.toList.map (opV t)).toArray := by
          apply Array.ext'
          simp [funext (opV_eval t ds)]
        refine wpList_plain rfl fun K hK => wp_call_go f xs ats rfl he (v := v) (by rw [hxs]; exact hc w) (fun w1 hb1 => hK _ _ ?_)
        have hp : (Act.put ⟨t.toArray, ds⟩ (some d) v) = ⟨(t.set d v).toArray, ds⟩ := by simp [Act.put]
        simp only [hp]
        exact wp_runCalls hS rest _ w1 h (Nat.le_trans hB hb1.size) fun w' hb' => hk w' ((hb1.mono hB).trans hb')
    case h_2 =>
      injection h with h
      injection h with h1 h2
      subst h1 h2
      exact hk w (Below.refl _ _)

def chunkOf (P : Program) (S : FuncId → Array Value → Option Value) (n m : Nat) (T : TypeId) (v0 : Value) : Code → Option (Array Value)
  | .seq (.region _ ops0 false) (.seq (.region _ ops false) .ret) =>
    match ops0.toList with
    | [⟨some 0, .alloc T0, _, _, _, none⟩] =>
      match runCalls S ops.toList (v0 :: List.replicate (n - 1) undef) with
      | some ([⟨some d, .build T1 parts, _, _, _, none⟩, ⟨none, .store T2 (.tmp 0) (.tmp e), _, _, _, none⟩], t) =>
        match P.built T1 (parts.toList.map fun (i, x) => (i, opV t x)) with
        | some cs => if T0 = T ∧ T1 = T ∧ T2 = T ∧ e = d ∧ 0 < d ∧ d < n ∧ t.length = n ∧ cs.size = m ∧ cs.all (·.oneCell') = true then some cs else none
        | none => none
      | _ => none
    | _ => none
  | _ => none

theorem wp_alloc_go {o : Oper} {K : Act → World → Prop} {Q : Exit → Act → World → Prop} (T : TypeId) (ho : o.op = .alloc T) {i : TypeInfo} {z : Value} (hi : P.info? T = some i) (hz : i.zero = some z)
    (h : K (a.put o.dst (.pointer (some ⟨w.heap.size, 0, none⟩))) (w.alloc (.cells z.cells T))) : o.wp P a w K Q := by
  have e : (execOp a.eval o).run P w = .ok (.value (.pointer (some ⟨w.heap.size, 0, none⟩))) (w.alloc (.cells z.cells T)) := by
    unfold execOp; simp only [ho]; simp [Instr.alloc, zeroValue, typeInfo, hi, hz, newVar, newRow, go_sem]
  unfold Oper.wp; rw [e]; exact h

theorem runCalls_get0 {S : FuncId → Array Value → Option Value} : ∀ (l : List Oper) (t : List Value) (l' : List Oper) (t' : List Value), runCalls S l t = some (l', t') → (∀ o ∈ l, o.dst ≠ some 0) → t'.getD 0 undef = t.getD 0 undef ∧ t'.length = t.length
  | [], t, l', t', h, _ => by simp [runCalls] at h; simp [h]
  | o :: rest, t, l', t', h, h0 => by
    unfold runCalls at h
    split at h
    case h_1 d f xs ats ty p af =>
      split at h
      case h_2 => cases h
      case h_1 v hv =>
        have hd : d ≠ 0 := fun e => h0 _ (List.mem_cons_self ..) (by simp [e])
        obtain ⟨h1, h2⟩ := runCalls_get0 rest _ _ _ h fun o ho => h0 o (List.mem_cons_of_mem _ ho)
        refine ⟨?_, by rw [h2]; simp⟩
        rw [h1]
        simp [List.getElem?_set, hd]
    case h_2 =>
      injection h with h
      injection h with h1 h2
      subst h1 h2
      exact ⟨rfl, rfl⟩

def noDst0 : Code → Bool
  | .seq _ (.seq (.region _ ops _) _) => ops.toList.all (fun o => o.dst != some 0)
  | _ => false

/-- a function without parameters that puts a struct or an array together out of known calls -/
theorem chunk_calls {S : FuncId → Array Value → Option Value} (hS : Answers P S) {f : FuncId} {fn : Func} {c : Code} {n m : Nat} {T : TypeId} {cs : Array Value} {i : TypeInfo} {z : Value}
    (hf : P.funcs[f]? = some fn) (hb : fn.body = some c) (hn : fn.ntmps = n) (hn0 : 0 < n) (hr : fn.results = #[.cell 0 T]) (hi : P.info? T = some i) (hz : i.zero = some z) (hzs : z.cells.size = m) (hsz : i.size = m)
    {d : TypeDesc} (hu : P.underlying T = some d) (hd : (match d with | .struct _ | .array _ _ => true | _ => false) = true)
    (hc : ∀ v0, chunkOf P S n m T v0 c = some cs)
    (hc0 : noDst0 c = true) (w : World) :
    Calls P f #[] w fun e w' => e = .returned (.agg cs) ∧ Below w.heap.size w w' := by
  refine calls_of_wp hf hb ?_
  have hc' := hc (.pointer (some ⟨w.heap.size, 0, none⟩))
  unfold chunkOf at hc'
  split at hc'
  case h_2 => cases hc'
  case h_1 id0 ops0 id1 ops =>
    split at hc'
    case h_2 => cases hc'
    case h_1 T0 ty0 p0 af0 hops0 =>
      split at hc'
      case h_2 => cases hc'
      case h_1 d1 T1 parts ty1 p1 af1 T2 e1 ty2 p2 af2 t hrun =>
        split at hc'
        case h_2 => cases hc'
        case h_1 cs' hbuilt =>
          split at hc'
          case isFalse => cases hc'
          case isTrue hd' =>
            injection hc' with hcs
            subst hcs
            obtain ⟨rfl, rfl, rfl, rfl, q1, q2, q3, q4, q5⟩ := hd'
            replace q1 : @LT.lt Nat _ 0 e1 := q1
            replace q2 : @LT.lt Nat _ e1 n := q2
            have hfr : (#[] ++ Array.replicate (fn.ntmps - (#[] : Array Value).size) undef) = (List.replicate n undef).toArray := by simp [hn]
            rw [hfr]
            refine wp_seq (wp_region_list ?_)
            rw [hops0]
            refine wpList_plain rfl fun K hK => wp_alloc_go _ rfl hi hz (hK _ _ (wpList_nil ?_))
            have hp : (Act.put ⟨(List.replicate n undef).toArray, []⟩ (some 0) (.pointer (some ⟨w.heap.size, 0, none⟩))) = ⟨(Value.pointer (some ⟨w.heap.size, 0, none⟩) :: List.replicate (n - 1) undef).toArray, []⟩ := by
              obtain ⟨k, rfl⟩ : ∃ k, n = k + 1 := ⟨n - 1, by omega⟩
              simp [Act.put, List.replicate_succ]
            simp only [hp]
            have h0 : ∀ o ∈ ops.toList, o.dst ≠ some 0 := fun o ho => by
              have := List.all_eq_true.1 hc0 o ho
              simpa using this
            obtain ⟨hg0, hlen⟩ := runCalls_get0 _ _ _ _ hrun h0
            have hnew : (w.alloc (.cells z.cells T2)).heap[w.heap.size]? = some (.cells z.cells T2 (0, 0)) := heap_alloc_new w _
            refine wp_seq (wp_region_list (wp_runCalls hS (B := w.heap.size + 1) _ _ _ hrun (by simp) fun w1 hb1 => ?_))
            have hlt : e1 < t.length := by rw [q3]; exact q2
            have hg1 : w1.heap[w.heap.size]? = some (.cells z.cells T2 (0, 0)) := (hb1.block _ (by omega)).trans hnew
            have hparts : (Array.map (fun (x : Nat × Operand) => (x.1, (Act.mk t.toArray []).eval x.2)) parts).toList = parts.toList.map fun (x : Nat × Operand) => (x.1, opV t x.2) := by
              simp [funext (opV_eval t [])]
            refine wpList_build rfl T2 parts rfl (by rw [hparts]; rw [hbuilt]; rfl) ?_
            rw [hparts, hbuilt]
            have v1 : (Act.put ⟨t.toArray, []⟩ (some e1) (.agg cs')).eval (.tmp e1) = .agg cs' := get_put_same _ (by simpa using hlt)
            have v0 : (Act.put ⟨t.toArray, []⟩ (some e1) (.agg cs')).eval (.tmp 0) = .pointer (some ⟨w.heap.size, 0, none⟩) := by
              show Array.getD _ _ _ = _
              rw [get_put_other _ (by omega)]
              simpa using hg0
            refine wpList_plain rfl fun K1 hK1 => wp_store_row _ (.tmp 0) (.tmp e1) rfl w.heap.size cs' v0 v1 T2 z.cells hg1 (by rw [hi]; simp [hsz, q4]) (by omega) q5 (hK1 _ _ (wpList_nil (wp_ret ?_)))
            have hg2 : (w1.setRow w.heap.size cs').heap[w.heap.size]? = some (.cells cs' T2 (0, 0)) := setRow_heap _ _ _ _ _ _ hg1
            refine bodyPost_ret (v := .agg cs') (results_cell_row hr _ _ w.heap.size T2 cs' (0, 0) d v0 hg2 hu hd (by rw [hi]; simp [hsz, q4])) rfl ⟨rfl, ?_⟩
            exact below_setRow (((Below.refl _ _).alloc (Nat.le_refl _) _).trans (hb1.mono (by omega))) (Nat.le_refl _) _

/-- the if-chain function, whole -/
def starts (T : TypeId) : Code → Bool
  | .seq (.region _ ops false) _ => match ops.toList with
    | [⟨some 2, .alloc T0, _, _, _, none⟩, ⟨some 3, .assign (.const (.bool false)), _, _, _, none⟩] => decide (T0 = T)
    | _ => false
  | _ => false
def tailOf : Code → Code
  | .seq _ c => c
  | c => c

theorem chain_calls {S : FuncId → Array Value → Option Value} (hS : Answers P S) {f : FuncId} {fn : Func} {c0 : Code} {n m : Nat} {T : TypeId} {l : List (Int × Int × Array Value)} {fin : Array Value} {i : TypeInfo} {z : Value}
    (hf : P.funcs[f]? = some fn) (hb : fn.body = some c0) (hn : fn.ntmps = n) (hn0 : 4 ≤ n) (hr : fn.results = #[.cell 2 T, .tmp 3]) (hi : P.info? T = some i) (hz : i.zero = some z) (hzs : z.cells.size = m) (hsz : i.size = m)
    {d : TypeDesc} (hu : P.underlying T = some d) (hd : (match d with | .struct _ | .array _ _ => true | _ => false) = true)
    (hc0 : starts T c0 = true) (hc : chain S n m T (tailOf c0) = some (l, fin)) (hms : ∀ r, (chainVal fin l r).1.size = m) (r : Int) (w : World) :
    Calls P f #[.int .i32 r] w fun e w' => e = .returned (.tuple #[.agg (chainVal fin l r).1, .bool (chainVal fin l r).2]) ∧ Below w.heap.size w w' := by
  unfold starts at hc0
  split at hc0
  case h_2 => cases hc0
  case h_1 id ops c =>
    split at hc0
    case h_2 => cases hc0
    case h_1 T0 t0 p0 f0 t1 p1 f1 hops =>
      obtain rfl := of_decide_eq_true hc0
      refine calls_of_wp hf hb ?_
      refine wp_seq (wp_region_list ?_)
      rw [hops]
      obtain ⟨k, rfl⟩ : ∃ k, n = k + 4 := ⟨n - 4, by omega⟩
      have hfr : (#[Value.int .i32 r] ++ Array.replicate (fn.ntmps - (#[Value.int .i32 r] : Array Value).size) undef) = (Value.int .i32 r :: undef :: undef :: undef :: List.replicate k undef).toArray := by
        rw [hn]; simp [List.replicate_succ]
      rw [hfr]
      refine wpList_plain rfl fun K hK => wp_alloc_go _ rfl hi hz (hK _ _ ?_)
      refine wpList_plain rfl fun K1 hK1 => wp_move_go (.const (.bool false)) (.inr rfl) (hK1 _ _ (wpList_nil ?_))
      have hnew : (w.alloc (.cells z.cells T0)).heap[w.heap.size]? = some (.cells z.cells T0 (0, 0)) := heap_alloc_new w _
      have hT : (P.info? T0).map (·.size) = some m := by rw [hi]; simp [hsz]
      refine wp_chain hS hT hzs hnew c l fin _ hc (r := r) ⟨by simp [Act.put], by simp [Act.put], by simp [Act.put], rfl⟩ fun a' w' hf' hv3 hb' hg' => ?_
      have hload := run_loadVar_row (P := P) w' w.heap.size T0 T0 _ (0, 0) d hg' hu hd (by rw [hT, hms r])
      refine bodyPost_ret (v := .tuple #[.agg (chainVal fin l r).1, .bool (chainVal fin l r).2]) ?_ hf'.df ⟨rfl, ?_⟩
      · rw [results_cell_tmp hr, hf'.s2, hv3]
        simp [asAddr, hload, Result.andThen]
      · exact ((Below.refl _ _).alloc (Nat.le_refl _) _).trans hb'

/-! ### a chain of calls that each may answer -/

def parseAsk (n : Nat) (T : TypeId) : List Oper → Option (FuncId × Nat × Nat)
  | [⟨some d1, .move (.tmp 0), _, _, _, none⟩, ⟨some d2, .call ⟨.value (.func f), xs, _⟩, _, _, _, none⟩, ⟨some d3, .move (.tmp e2), _, _, _, none⟩,
     ⟨some d4, .extract (.tmp e3) 0, _, _, _, none⟩, ⟨some d5, .extract (.tmp e3') 1, _, _, _, none⟩, ⟨some v, .alloc T1, _, _, _, none⟩,
     ⟨none, .store T2 (.tmp v') (.tmp e4), _, _, _, none⟩, ⟨some b, .assign (.tmp e5), _, _, _, none⟩] =>
    match xs.toList with
    | [.tmp e1] =>
      if e1 = d1 ∧ e2 = d2 ∧ e3 = d3 ∧ e3' = d3 ∧ e4 = d4 ∧ e5 = d5 ∧ v' = v ∧ T1 = T ∧ T2 = T ∧ Nat.ble 4 d1 = true ∧ Nat.ble 4 d2 = true ∧ Nat.ble 4 d3 = true ∧ Nat.ble 4 d4 = true ∧ Nat.ble 4 d5 = true ∧ Nat.ble 4 v = true ∧ Nat.ble 4 b = true ∧
        Nat.blt d1 n = true ∧ Nat.blt d2 n = true ∧ Nat.blt d3 n = true ∧ Nat.blt d4 n = true ∧ Nat.blt d5 n = true ∧ Nat.blt v n = true ∧ Nat.blt b n = true ∧
        d4 ≠ d3 ∧ d5 ≠ d4 ∧ v ≠ d4 ∧ v ≠ d5 ∧ b ≠ v then some (f, v, b) else none
    | _ => none
  | _ => none

theorem extract_go {o : Oper} {K : Act → World → Prop} {Q : Exit → Act → World → Prop} {t : Operand} {i : Nat} {vs : Array Value} {v : Value}
    (ho : o.op = .extract t i) (ht : a.eval t = .tuple vs) (hv : vs[i]? = some v) (h : K (a.put o.dst v) w) : o.wp P a w K Q := by
  have e : (execOp a.eval o).run P w = .ok (.value v) w := by
    unfold execOp; simp only [ho, ht]; simp [Instr.extract, hv, go_sem]
  unfold Oper.wp; rw [e]; exact h

theorem wp_askRegion {n m : Nat} {T : TypeId} {ops : Array Oper} {f : FuncId} {v b : Nat} {g id : Nat} {r : Int} {c : Array Value} {t : Bool} {Q : Exit → Act → World → Prop}
    (h : parseAsk n T ops.toList = some (f, v, b)) (he : EntersIt P f) (hc : ∀ w, Calls P f #[.int .i32 r] w fun e w' => e = .returned (.tuple #[.agg c, .bool t]) ∧ Below w.heap.size w w')
    (hcs : c.size = m) (hc1 : c.all (·.oneCell') = true) (hf : Fr n r g a) {i : TypeInfo} {z : Value} (hi : P.info? T = some i) (hz : i.zero = some z) (hzs : z.cells.size = m) (hsz : i.size = m)
    (hQ : ∀ a' w' k, Fr n r g a' → a'.tmps.getD v undef = .pointer (some ⟨k, 0, none⟩) → a'.tmps.getD b undef = .bool t → w.heap.size ≤ k → Below w.heap.size w w' → w'.heap[k]? = some (.cells c T (0, 0)) → Q .normal a' w') :
    (Code.region id ops false).wp P Q a w := by
  refine wp_region_list ?_
  obtain ⟨l⟩ := ops
  simp only at h
  unfold parseAsk at h
  split at h
  case h_2 => cases h
  case h_1 l d1 t1 p1 f1 d2 f' xs ats t2 p2 f2 d3 e2 t3 p3 f3 d4 e3 t4 p4 f4 d5 e3' t5 p5 f5 v' T1 t6 p6 f6 T2 v'' e4 t7 p7 f7 b' e5 t8 p8 f8 =>
    split at h
    case h_2 => cases h
    case h_1 _ e1 hxs =>
      split at h
      case isFalse => cases h
      case isTrue hd =>
        injection h with h
        injection h with h1 h
        injection h with h2 h3
        subst h1 h2 h3
        obtain ⟨rfl, rfl, rfl, rfl, rfl, rfl, rfl, rfl, rfl, q1, q2, q3, q4, q5, q6, q7, s1, s2, s3, s4, s5, s6, s7, n1, n2, n3, n4, n5⟩ := hd
        replace q1 := Nat.le_of_ble_eq_true q1
        replace q2 := Nat.le_of_ble_eq_true q2
        replace q3 := Nat.le_of_ble_eq_true q3
        replace q4 := Nat.le_of_ble_eq_true q4
        replace q5 := Nat.le_of_ble_eq_true q5
        replace q6 := Nat.le_of_ble_eq_true q6
        replace q7 := Nat.le_of_ble_eq_true q7
        replace s1 := Nat.le_of_ble_eq_true s1
        replace s2 := Nat.le_of_ble_eq_true s2
        replace s3 := Nat.le_of_ble_eq_true s3
        replace s4 := Nat.le_of_ble_eq_true s4
        replace s5 := Nat.le_of_ble_eq_true s5
        replace s6 := Nat.le_of_ble_eq_true s6
        replace s7 := Nat.le_of_ble_eq_true s7
        obtain ⟨xl⟩ := xs
        simp only at hxs
        subst hxs
        have sz := hf.size
        refine wpList_plain rfl fun K1 hK1 => wp_move_go (.tmp 0) (.inl rfl) (hK1 _ _ ?_)
        have ev1 : a.eval (.tmp 0) = .int .i32 r := hf.s0
        rw [ev1]
        have g1 := hf.put (d := e1) (v := .int .i32 r) q1
        have v1 : (a.put (some e1) (.int .i32 r)).tmps.getD e1 undef = .int .i32 r := get_put_same _ (by rw [sz]; exact s1)
        simp only
        generalize a.put (some e1) (.int .i32 r) = a1 at *
        have sz1 := g1.size
        have hxs : (#[Operand.tmp e1]).map a1.eval = #[.int .i32 r] := by
          have : a1.eval (.tmp e1) = .int .i32 r := v1
          simp [this]
        refine wpList_plain rfl fun K2 hK2 => wp_call_go f' _ ats rfl he (v := .tuple #[.agg c, .bool t]) (by rw [hxs]; exact hc w) (fun w1 hb1 => hK2 _ _ ?_)
        have g2 := g1.put (d := e2) (v := .tuple #[.agg c, .bool t]) q2
        have v2 : (a1.put (some e2) (.tuple #[.agg c, .bool t])).tmps.getD e2 undef = .tuple #[.agg c, .bool t] := get_put_same _ (by rw [sz1]; exact s2)
        simp only
        generalize a1.put (some e2) (.tuple #[.agg c, .bool t]) = a2 at *
        have sz2 := g2.size
        refine wpList_plain rfl fun K3 hK3 => wp_move_go (.tmp e2) (.inl rfl) (hK3 _ _ ?_)
        have ev3 : a2.eval (.tmp e2) = .tuple #[.agg c, .bool t] := v2
        rw [ev3]
        have g3 := g2.put (d := e3') (v := .tuple #[.agg c, .bool t]) q3
        have v3 : (a2.put (some e3') (.tuple #[.agg c, .bool t])).tmps.getD e3' undef = .tuple #[.agg c, .bool t] := get_put_same _ (by rw [sz2]; exact s3)
        simp only
        generalize a2.put (some e3') (.tuple #[.agg c, .bool t]) = a3 at *
        have sz3 := g3.size
        refine wpList_plain rfl fun K4 hK4 => extract_go (v := .agg c) rfl v3 rfl (hK4 _ _ ?_)
        have g4 := g3.put (d := e4) (v := .agg c) q4
        have v43 : (a3.put (some e4) (.agg c)).tmps.getD e3' undef = .tuple #[.agg c, .bool t] := by rw [get_put_other _ (Ne.symm n1)]; exact v3
        have v44 : (a3.put (some e4) (.agg c)).tmps.getD e4 undef = .agg c := get_put_same _ (by rw [sz3]; exact s4)
        simp only
        generalize a3.put (some e4) (.agg c) = a4 at *
        have sz4 := g4.size
        refine wpList_plain rfl fun K5 hK5 => extract_go (v := .bool t) rfl v43 rfl (hK5 _ _ ?_)
        have g5 := g4.put (d := e5) (v := .bool t) q5
        have v54 : (a4.put (some e5) (.bool t)).tmps.getD e4 undef = .agg c := by rw [get_put_other _ (Ne.symm n2)]; exact v44
        have v55 : (a4.put (some e5) (.bool t)).tmps.getD e5 undef = .bool t := get_put_same _ (by rw [sz4]; exact s5)
        simp only
        generalize a4.put (some e5) (.bool t) = a5 at *
        have sz5 := g5.size
        refine wpList_plain rfl fun K6 hK6 => wp_alloc_go _ rfl hi hz (hK6 _ _ ?_)
        have g6 := g5.put (d := v'') (v := .pointer (some ⟨w1.heap.size, 0, none⟩)) q6
        have v64 : (a5.put (some v'') (.pointer (some ⟨w1.heap.size, 0, none⟩))).tmps.getD e4 undef = .agg c := by rw [get_put_other _ (Ne.symm n3)]; exact v54
        have v65 : (a5.put (some v'') (.pointer (some ⟨w1.heap.size, 0, none⟩))).tmps.getD e5 undef = .bool t := by rw [get_put_other _ (Ne.symm n4)]; exact v55
        have v66 : (a5.put (some v'') (.pointer (some ⟨w1.heap.size, 0, none⟩))).tmps.getD v'' undef = .pointer (some ⟨w1.heap.size, 0, none⟩) := get_put_same _ (by rw [sz5]; exact s6)
        simp only
        generalize a5.put (some v'') (.pointer (some ⟨w1.heap.size, 0, none⟩)) = a6 at *
        have sz6 := g6.size
        have hnew : (w1.alloc (.cells z.cells T2)).heap[w1.heap.size]? = some (.cells z.cells T2 (0, 0)) := heap_alloc_new w1 _
        refine wpList_plain rfl fun K7 hK7 => wp_store_row T2 (.tmp v'') (.tmp e4) rfl w1.heap.size c v66 v64 T2 z.cells hnew (by rw [hi]; simp [hsz, hcs]) (by omega) hc1 (hK7 _ _ ?_)
        refine wpList_plain rfl fun K8 hK8 => wp_move_go (.tmp e5) (.inr rfl) (hK8 _ _ (wpList_nil ?_))
        have e7 : (a6.put none undef) = a6 := rfl
        simp only [e7]
        have ev8 : a6.eval (.tmp e5) = .bool t := v65
        rw [ev8]
        refine hQ _ _ w1.heap.size (g6.put q7) ?_ ?_ hb1.size ?_ (setRow_heap _ _ _ _ _ _ hnew)
        · rw [get_put_other _ (Ne.symm n5)]; exact v66
        · exact get_put_same _ (by rw [sz6]; exact s7)
        · exact below_setRow (hb1.alloc hb1.size _) hb1.size _

def parseTake (n : Nat) (T : TypeId) (v : Nat) : List Oper → Bool
  | [⟨some d, .load T1 (.tmp v'), _, _, _, none⟩, ⟨none, .store T2 (.tmp 2) (.tmp d'), _, _, _, none⟩, ⟨some 3, .assign (.const (.bool true)), _, _, _, none⟩] =>
    decide (v' = v ∧ d' = d ∧ T1 = T ∧ T2 = T ∧ Nat.ble 4 d = true ∧ Nat.blt d n = true)
  | _ => false
def parseTest (n b : Nat) (c : Nat) : List Oper → Bool
  | [⟨some c', .move (.tmp b'), _, _, _, none⟩] => decide (c' = c ∧ b' = b ∧ Nat.ble 4 c = true ∧ Nat.blt c n = true ∧ c ≠ b)
  | _ => false

def partVal (fin : Array Value) (A : FuncId → Int → Array Value × Bool) : List FuncId → Int → Array Value × Bool
  | [], _ => (fin, false)
  | f :: fs, r => if (A f r).2 then ((A f r).1, true) else partVal fin A fs r

def pchain (S : FuncId → Array Value → Option Value) (n m : Nat) (T : TypeId) : Code → Option (List FuncId × Array Value)
  | .seq (.region _ ops1 false) (.seq (.seq (.region _ ops2 false) (.cond (.tmp c) (.seq (.region _ ops3 false) .ret) .skip)) rest) =>
    match parseAsk n T ops1.toList, pchain S n m T rest with
    | some (f, v, b), some (fs, fin) => if parseTest n b c ops2.toList = true ∧ parseTake n T v ops3.toList = true ∧ c ≠ v then some (f :: fs, fin) else none
    | _, _ => none
  | .seq (.region _ ops false) .ret =>
    match parseRet S n m T ops.toList with
    | some (cs, false) => some ([], cs)
    | _ => none
  | _ => none

theorem wp_pchain {S : FuncId → Array Value → Option Value} (hS : Answers P S) {n m : Nat} (hn : 4 ≤ n) {T : TypeId} {i : TypeInfo} {z : Value} (hi : P.info? T = some i) (hz : i.zero = some z) (hzs : z.cells.size = m) (hsz : i.size = m)
    {d : TypeDesc} (hu : P.underlying T = some d) (hd : (match d with | .struct _ | .array _ _ => true | _ => false) = true)
    {A : FuncId → Int → Array Value × Bool} {g : Nat} {r : Int} {w0 : World} {Q : Exit → Act → World → Prop} (hA1 : ∀ f, (A f r).1.size = m ∧ (A f r).1.all (·.oneCell') = true) :
    ∀ (k : Nat) (c : Code) (fs : List FuncId) (fin : Array Value) (a : Act) (w : World) (old : Array Value), fs.length = k → pchain S n m T c = some (fs, fin) →
    (∀ f ∈ fs, EntersIt P f ∧ ∀ w, Calls P f #[.int .i32 r] w fun e w' => e = .returned (.tuple #[.agg (A f r).1, .bool (A f r).2]) ∧ Below w.heap.size w w') →
    Fr n r g a → old.size = m → w.heap[g]? = some (.cells old T (0, 0)) → Below g w0 w →
    (∀ a' w', Fr n r g a' → a'.tmps.getD 3 undef = .bool (partVal fin A fs r).2 → Below g w0 w' → w'.heap[g]? = some (.cells (partVal fin A fs r).1 T (0, 0)) → Q .ret a' w') → c.wp P Q a w := by
  have hT : (P.info? T).map (·.size) = some m := by rw [hi]; simp [hsz]
  intro k
  induction k with
  | zero =>
    intro c fs fin a w old hk h _ hf hold hg hb0 hQ
    obtain rfl := List.eq_nil_of_length_eq_zero hk
    unfold pchain at h
    split at h
    case h_1 =>
      split at h
      · split at h
        · injection h with h; injection h with h1 h2; cases h1
        · cases h
      · cases h
    case h_2 id ops =>
      split at h
      case h_2 => cases h
      case h_1 cs h1 =>
        injection h with h
        injection h with _ e2
        subst e2
        refine wp_seq (wp_retRegion hS h1 hf hold hg hT fun a2 w2 hf2 hv2 hb2 hg2 => ?_)
        exact wp_ret (hQ a2 w2 hf2 hv2 (hb0.trans hb2) hg2)
    case h_3 => cases h
  | succ k ih =>
    intro c fs fin a w old hk h hfs hf hold hg hb0 hQ
    unfold pchain at h
    split at h
    case h_2 =>
      split at h
      · injection h with h; injection h with h1 h2; subst h1; cases hk
      · cases h
    case h_3 => cases h
    case h_1 id1 ops1 id2 ops2 c1 id3 ops3 rest =>
      split at h
      case h_2 => cases h
      case h_1 f v b fs' fin' h1 h2 =>
        split at h
        case isFalse => cases h
        case isTrue hh =>
          obtain ⟨h3, h4, hcv⟩ := hh
          injection h with h
          injection h with e1 e2
          subst e1 e2
          obtain ⟨he, hc⟩ := hfs f (List.mem_cons_self ..)
          have hglt : g < w.heap.size := (Array.getElem?_eq_some_iff.1 hg).1
          refine wp_seq (wp_askRegion h1 he hc (hA1 f).1 (hA1 f).2 hf hi hz hzs hsz fun a1 w1 kb hf1 hv1 hb1 hk1 hbw1 hg1 => ?_)
          have hg01 : w1.heap[g]? = some (.cells old T (0, 0)) := (hbw1.block _ hglt).trans hg
          have hb01 : Below g w0 w1 := hb0.trans (hbw1.mono (by omega))
          refine wp_seq_k fun K hK => ?_
          refine wp_seq (wp_region_list ?_)
          obtain ⟨l2⟩ := ops2
          simp only at h3
          unfold parseTest at h3
          split at h3
          case h_2 => cases h3
          case h_1 l2 c' b' t2 p2 f2 =>
            obtain ⟨rfl, rfl, u1, u2, u3⟩ := of_decide_eq_true h3
            replace u1 := Nat.le_of_ble_eq_true u1
            replace u2 := Nat.le_of_ble_eq_true u2
            refine wpList_plain rfl fun K1 hK1 => wp_move_go (.tmp b') (.inl rfl) (hK1 _ _ (wpList_nil ?_))
            have ev : a1.eval (.tmp b') = .bool (A f r).2 := hb1
            rw [ev]
            have hf2 := hf1.put (d := c') (v := .bool (A f r).2) u1
            have hc2 : (a1.put (some c') (.bool (A f r).2)).tmps.getD c' undef = .bool (A f r).2 := get_put_same _ (by rw [hf1.size]; exact u2)
            have hv2 : (a1.put (some c') (.bool (A f r).2)).tmps.getD v undef = .pointer (some ⟨kb, 0, none⟩) := by rw [get_put_other _ (Ne.symm hcv)]; exact hv1
            simp only [Exit.then]
            generalize a1.put (some c') (.bool (A f r).2) = a2 at *
            refine wp_cond_split (t := (A f r).2) hc2 (fun ht => ?_) (fun ht => ?_)
            · obtain ⟨l3⟩ := ops3
              simp only at h4
              unfold parseTake at h4
              split at h4
              case h_2 => cases h4
              case h_1 l3 d1 T1 v' t3 p3 f3 T2 d1' t4 p4 f4 t5 p5 f5 =>
                obtain ⟨rfl, rfl, rfl, rfl, y1, y2⟩ := of_decide_eq_true h4
                replace y1 := Nat.le_of_ble_eq_true y1
                replace y2 := Nat.le_of_ble_eq_true y2
                refine wp_seq (wp_region_list ?_)
                have hne : kb ≠ g := by omega
                refine wpList_load_row rfl _ (.tmp v') rfl kb hv2 _ _ (0, 0) d hg1 hu hd (by rw [hT, (hA1 f).1]) ?_
                have hf3 := hf2.put (d := d1') (v := .agg (A f r).1) y1
                have hv3 : (a2.put (some d1') (.agg (A f r).1)).tmps.getD d1' undef = .agg (A f r).1 := get_put_same _ (by rw [hf2.size]; exact y2)
                simp only
                generalize a2.put (some d1') (.agg (A f r).1) = a3 at *
                refine wpList_plain rfl fun K3 hK3 => wp_store_row _ (.tmp 2) (.tmp d1') rfl g (A f r).1 hf3.s2 hv3 _ old hg01 (by rw [hT, (hA1 f).1]) (by rw [hold, (hA1 f).1]) (hA1 f).2 (hK3 _ _ ?_)
                refine wpList_plain rfl fun K4 hK4 => wp_move_go (.const (.bool true)) (.inr rfl) (hK4 _ _ (wpList_nil (wp_ret ?_)))
                have e7 : (a3.put none undef) = a3 := rfl
                simp only [e7]
                have ev8 : a3.eval (.const (.bool true)) = .bool true := rfl
                rw [ev8]
                refine hQ _ _ ⟨by rw [size_put]; exact hf3.size, by rw [get_put_other _ (by omega)]; exact hf3.s0, by rw [get_put_other _ (by omega)]; exact hf3.s2, by rw [defers_put]; exact hf3.df⟩ ?_ ?_ ?_
                · rw [get_put_same _ (by rw [hf3.size]; omega)]
                  simp only [partVal, ht, if_true]
                · exact below_setRow hb01 (Nat.le_refl _) _
                · simp only [partVal, ht, if_true]
                  exact setRow_heap _ _ _ _ _ _ hg01
            · refine wp_skip (hK _ _ (ih rest fs' fin' a2 w1 old (by simpa using hk) h2 (fun f' hf' => hfs f' (List.mem_cons_of_mem _ hf')) hf2 hold hg01 hb01 fun a' w' x1 x2 x3 x4 => ?_))
              refine hQ a' w' x1 ?_ x3 ?_
              · simp only [partVal, ht]; exact x2
              · simp only [partVal, ht]; exact x4

theorem part_calls {S : FuncId → Array Value → Option Value} (hS : Answers P S) {f : FuncId} {fn : Func} {c0 : Code} {n m : Nat} {T : TypeId} {fs : List FuncId} {fin : Array Value} {i : TypeInfo} {z : Value}
    (hf : P.funcs[f]? = some fn) (hb : fn.body = some c0) (hn : fn.ntmps = n) (hn0 : 4 ≤ n) (hr : fn.results = #[.cell 2 T, .tmp 3]) (hi : P.info? T = some i) (hz : i.zero = some z) (hzs : z.cells.size = m) (hsz : i.size = m)
    {d : TypeDesc} (hu : P.underlying T = some d) (hd : (match d with | .struct _ | .array _ _ => true | _ => false) = true)
    (hc0 : starts T c0 = true) (hc : pchain S n m T (tailOf c0) = some (fs, fin)) {A : FuncId → Int → Array Value × Bool} (r : Int) (hA1 : ∀ f, (A f r).1.size = m ∧ (A f r).1.all (·.oneCell') = true) (hfin : fin.size = m)
    (hfs : ∀ f ∈ fs, EntersIt P f ∧ ∀ w, Calls P f #[.int .i32 r] w fun e w' => e = .returned (.tuple #[.agg (A f r).1, .bool (A f r).2]) ∧ Below w.heap.size w w') (w : World) :
    Calls P f #[.int .i32 r] w fun e w' => e = .returned (.tuple #[.agg (partVal fin A fs r).1, .bool (partVal fin A fs r).2]) ∧ Below w.heap.size w w' := by
  have hps : (partVal fin A fs r).1.size = m := by
    clear hfs hc
    induction fs with
    | nil => exact hfin
    | cons f fs ih =>
      simp only [partVal]
      split
      · exact (hA1 f).1
      · exact ih
  unfold starts at hc0
  split at hc0
  case h_2 => cases hc0
  case h_1 id ops c =>
    split at hc0
    case h_2 => cases hc0
    case h_1 T0 t0 p0 f0 t1 p1 f1 hops =>
      obtain rfl := of_decide_eq_true hc0
      refine calls_of_wp hf hb ?_
      refine wp_seq (wp_region_list ?_)
      rw [hops]
      obtain ⟨k, rfl⟩ : ∃ k, n = k + 4 := ⟨n - 4, by omega⟩
      have hfr : (#[Value.int .i32 r] ++ Array.replicate (fn.ntmps - (#[Value.int .i32 r] : Array Value).size) undef) = (Value.int .i32 r :: undef :: undef :: undef :: List.replicate k undef).toArray := by
        rw [hn]; simp [List.replicate_succ]
      rw [hfr]
      refine wpList_plain rfl fun K hK => wp_alloc_go _ rfl hi hz (hK _ _ ?_)
      refine wpList_plain rfl fun K1 hK1 => wp_move_go (.const (.bool false)) (.inr rfl) (hK1 _ _ (wpList_nil ?_))
      have hnew : (w.alloc (.cells z.cells T0)).heap[w.heap.size]? = some (.cells z.cells T0 (0, 0)) := heap_alloc_new w _
      have hT : (P.info? T0).map (·.size) = some m := by rw [hi]; simp [hsz]
      refine wp_pchain hS hn0 hi hz hzs hsz hu hd (w0 := w) (g := w.heap.size) (r := r) hA1 fs.length c fs fin _ _ z.cells rfl hc hfs ⟨by simp [Act.put], by simp [Act.put], by simp [Act.put], rfl⟩ hzs hnew ((Below.refl _ _).alloc (Nat.le_refl _) _) fun a' w' hf' hv3 hb' hg' => ?_
      have hload := run_loadVar_row (P := P) w' w.heap.size T0 T0 _ (0, 0) d hg' hu hd (by rw [hT, hps])
      refine bodyPost_ret (v := .tuple #[.agg (partVal fin A fs r).1, .bool (partVal fin A fs r).2]) ?_ hf'.df ⟨rfl, hb'⟩
      · rw [results_cell_tmp hr, hf'.s2, hv3]
        simp [asAddr, hload, Result.andThen]
end
end Go.Proofs.YtmbgeeiidpllcaaDoor
