/- The reference's table functions: row, rest, of0 .. of14. -/
import Derived.Test.YtjbhckbneonfeaaDoorRows
import Derived.Test.YtjbhckbneonfeaaDoorTab
import Derived.Test.YtjbhckbneonfeaaDoorPtab
import Derived.Lib.Hide
namespace Go.Proofs.YtjbhckbneonfeaaDoor
open Go.ChangeShapes Go.WideShapes Go.ChangeAt Go.RowKit
set_option maxRecDepth 100000

def Pr.cells (p : Pr) : Array Value := #[.int .i64 p.bidi, .int .i64 p.cluster, .int .i64 p.brk, .int .i64 p.script, .int .i64 p.join, .int .i64 p.word, .int .i32 p.mirror, .int .i32 p.pair, .bool p.opens]

theorem row_any (a b c d e f g h : Int) (o : Bool) (w : World) :
    Calls Tryd.prog 41 #[.int .i64 a, .int .i64 b, .int .i64 c, .int .i64 d, .int .i64 e, .int .i64 f, .int .i32 g, .int .i32 h, .bool o] w fun e' w' =>
      e' = .returned (.agg #[.int .i64 a, .int .i64 b, .int .i64 c, .int .i64 d, .int .i64 e, .int .i64 f, .int .i32 g, .int .i32 h, .bool o]) ∧ Below w.heap.size w w' := by
  go_enter Tryd.func41, Tryd.ntmps41
  go_wp2
  refine bodyPost_ret (v := .agg #[.int .i64 a, .int .i64 b, .int .i64 c, .int .i64 d, .int .i64 e, .int .i64 f, .int .i32 g, .int .i32 h, .bool o]) (by simp [results, Tryd.results41, go_sem]) rfl ⟨rfl, (Below.refl _ _).alloc (Nat.le_refl _) _⟩

theorem bcell {B : Nat} {W w1 : World} (hb : Below B W w1) : (∀ b o, b < B → w1.cell? ⟨b, o, none⟩ = W.cell? ⟨b, o, none⟩) ∧ (∀ b o, b < B → w1.frozen? ⟨b, o, none⟩ = W.frozen? ⟨b, o, none⟩) :=
  ⟨fun b o h => hb.cell (p := ⟨b, o, none⟩) h, fun b o h => hb.frozen (p := ⟨b, o, none⟩) h⟩

theorem Pr.cells_size (p : Pr) : p.cells.size = 9 := rfl
theorem Pr.cells_one (p : Pr) : p.cells.all (·.oneCell') = true := by simp [Pr.cells, Value.oneCell']
theorem propInfo : (Tryd.prog.info? 42).map (fun i => (i.zero, i.size, i.bytes)) = some (some (.agg #[.int .i64 0, .int .i64 0, .int .i64 0, .int .i64 0, .int .i64 0, .int .i64 0, .int .i32 0, .int .i32 0, .bool false]), 9, 64) := by kernel_rfl
theorem propSize : (Tryd.prog.info? 42).map (·.size) = some 9 := by kernel_rfl

theorem rrest_any (w : World) :
    Calls Tryd.prog 24 #[] w fun e' w' => e' = .returned (.agg Pr.rest.cells) ∧ Below w.heap.size w w' := by
  go_enter Tryd.func24, Tryd.ntmps24
  go_wp2_with (first
    | (go_at_call 41; refine (row_any 1 0 0 0 0 0 0 0 false _).mono ?_; rintro e w' ⟨rfl, hb⟩)
    | (refine wpList_store_row rfl 42 (.tmp 0) (.tmp 1) rfl w.heap.size Pr.rest.cells rfl rfl 42 _ ((hb.block _ (by simp)).trans (heap_alloc_new w _)) propSize (by rfl) (Pr.cells_one _) ?_))
  refine bodyPost_ret (v := .agg Pr.rest.cells) (results_cell_row Tryd.results24 _ _ w.heap.size 42 _ (0, 0) _ rfl (setRow_heap _ _ _ _ _ _ ((hb.block _ (by simp)).trans (heap_alloc_new w _))) Tryd.underlying42 rfl propSize) rfl ⟨rfl, ?_⟩
  exact below_setRow (((Below.refl _ _).alloc (Nat.le_refl _) _).trans (hb.mono (by simp))) (Nat.le_refl _) _

def Sref (f : FuncId) (xs : Array Value) : Option Value :=
  if f = 41 then
    match xs.toList with
    | [.int .i64 a, .int .i64 b, .int .i64 c, .int .i64 d, .int .i64 e, .int .i64 f, .int .i32 g, .int .i32 h, .bool o] => some (.agg #[.int .i64 a, .int .i64 b, .int .i64 c, .int .i64 d, .int .i64 e, .int .i64 f, .int .i32 g, .int .i32 h, .bool o])
    | _ => none
  else if f = 24 then
    match xs.toList with
    | [] => some (.agg Pr.rest.cells)
    | _ => none
  else none

theorem enters_row : EntersIt Tryd.prog 41 := fun _ _ => by kernel_rfl
theorem enters_rest : EntersIt Tryd.prog 24 := fun _ _ => by kernel_rfl

theorem Sref_answers : Answers Tryd.prog Sref := by
  intro f xs v h
  obtain ⟨l⟩ := xs
  unfold Sref at h
  split at h
  case isTrue hf =>
    subst hf
    simp only at h
    split at h
    case h_1 =>
      injection h with h
      subst h
      exact ⟨enters_row, fun w => row_any _ _ _ _ _ _ _ _ _ w⟩
    case h_2 => cases h
  case isFalse =>
    split at h
    case isTrue hf =>
      subst hf
      simp only at h
      split at h
      case h_1 =>
        injection h with h
        subst h
        exact ⟨enters_rest, fun w => rrest_any w⟩
      case h_2 => cases h
    case isFalse => cases h

/-- a table's rows as the chain hands them out -/
def rowsOf (l : List (Int × Int × Pr)) : List (Int × Int × Array Value) := l.map fun (lo, hi, p) => (lo, hi, p.cells)
theorem chainVal_rowsOf : ∀ (l : List (Int × Int × Pr)) (r : Int), chainVal Pr.rest.cells (rowsOf l) r = (((look l r).getD Pr.rest).cells, (look l r).isSome)
  | [], r => rfl
  | (lo, hi, p) :: l, r => by
    simp only [rowsOf, List.map_cons, chainVal, look]
    split
    · rfl
    · exact chainVal_rowsOf l r

theorem of_any {f : FuncId} {fn : Func} {c0 : Code} {n : Nat} {l : List (Int × Int × Pr)} (hf : Tryd.prog.funcs[f]? = some fn) (hb : fn.body = some c0) (hn : fn.ntmps = n) (hn0 : 4 ≤ n)
    (hr : fn.results = #[.cell 2 42, .tmp 3]) (hs : starts 42 c0 = true) (hc : chain Sref n 9 42 (tailOf c0) = some (rowsOf l, Pr.rest.cells)) (r : Int) (w : World) :
    Calls Tryd.prog f #[.int .i32 r] w fun e w' => e = .returned (.tuple #[.agg ((look l r).getD Pr.rest).cells, .bool (look l r).isSome]) ∧ Below w.heap.size w w' := by
  obtain ⟨i0, hi, hz0, hz1, hz2⟩ := info_parts propInfo
  have := chain_calls Sref_answers hf hb hn hn0 hr hi hz0 rfl hz1 Tryd.underlying42 rfl hs hc (fun r => by rw [chainVal_rowsOf]; rfl) r w
  rw [chainVal_rowsOf] at this
  exact this

theorem of0_any (r : Int) (w : World) : Calls Tryd.prog 26 #[.int .i32 r] w fun e w' => e = .returned (.tuple #[.agg ((look tab0 r).getD Pr.rest).cells, .bool (look tab0 r).isSome]) ∧ Below w.heap.size w w' :=
  of_any Tryd.func26 (c0 := (Tryd.f26.body).getD .skip) (n := Tryd.f26.ntmps) (by kernel_rfl) rfl (of_decide_eq_true (by kernel_rfl)) (by kernel_rfl) (by kernel_rfl) (by kernel_rfl) r w
theorem of1_any (r : Int) (w : World) : Calls Tryd.prog 27 #[.int .i32 r] w fun e w' => e = .returned (.tuple #[.agg ((look tab1 r).getD Pr.rest).cells, .bool (look tab1 r).isSome]) ∧ Below w.heap.size w w' :=
  of_any Tryd.func27 (c0 := (Tryd.f27.body).getD .skip) (n := Tryd.f27.ntmps) (by kernel_rfl) rfl (of_decide_eq_true (by kernel_rfl)) (by kernel_rfl) (by kernel_rfl) (by kernel_rfl) r w
theorem of2_any (r : Int) (w : World) : Calls Tryd.prog 28 #[.int .i32 r] w fun e w' => e = .returned (.tuple #[.agg ((look tab2 r).getD Pr.rest).cells, .bool (look tab2 r).isSome]) ∧ Below w.heap.size w w' :=
  of_any Tryd.func28 (c0 := (Tryd.f28.body).getD .skip) (n := Tryd.f28.ntmps) (by kernel_rfl) rfl (of_decide_eq_true (by kernel_rfl)) (by kernel_rfl) (by kernel_rfl) (by kernel_rfl) r w
theorem of3_any (r : Int) (w : World) : Calls Tryd.prog 29 #[.int .i32 r] w fun e w' => e = .returned (.tuple #[.agg ((look tab3 r).getD Pr.rest).cells, .bool (look tab3 r).isSome]) ∧ Below w.heap.size w w' :=
  of_any Tryd.func29 (c0 := (Tryd.f29.body).getD .skip) (n := Tryd.f29.ntmps) (by kernel_rfl) rfl (of_decide_eq_true (by kernel_rfl)) (by kernel_rfl) (by kernel_rfl) (by kernel_rfl) r w
theorem of4_any (r : Int) (w : World) : Calls Tryd.prog 30 #[.int .i32 r] w fun e w' => e = .returned (.tuple #[.agg ((look tab4 r).getD Pr.rest).cells, .bool (look tab4 r).isSome]) ∧ Below w.heap.size w w' :=
  of_any Tryd.func30 (c0 := (Tryd.f30.body).getD .skip) (n := Tryd.f30.ntmps) (by kernel_rfl) rfl (of_decide_eq_true (by kernel_rfl)) (by kernel_rfl) (by kernel_rfl) (by kernel_rfl) r w
theorem of5_any (r : Int) (w : World) : Calls Tryd.prog 31 #[.int .i32 r] w fun e w' => e = .returned (.tuple #[.agg ((look tab5 r).getD Pr.rest).cells, .bool (look tab5 r).isSome]) ∧ Below w.heap.size w w' :=
  of_any Tryd.func31 (c0 := (Tryd.f31.body).getD .skip) (n := Tryd.f31.ntmps) (by kernel_rfl) rfl (of_decide_eq_true (by kernel_rfl)) (by kernel_rfl) (by kernel_rfl) (by kernel_rfl) r w
theorem of6_any (r : Int) (w : World) : Calls Tryd.prog 32 #[.int .i32 r] w fun e w' => e = .returned (.tuple #[.agg ((look tab6 r).getD Pr.rest).cells, .bool (look tab6 r).isSome]) ∧ Below w.heap.size w w' :=
  of_any Tryd.func32 (c0 := (Tryd.f32.body).getD .skip) (n := Tryd.f32.ntmps) (by kernel_rfl) rfl (of_decide_eq_true (by kernel_rfl)) (by kernel_rfl) (by kernel_rfl) (by kernel_rfl) r w
theorem of7_any (r : Int) (w : World) : Calls Tryd.prog 33 #[.int .i32 r] w fun e w' => e = .returned (.tuple #[.agg ((look tab7 r).getD Pr.rest).cells, .bool (look tab7 r).isSome]) ∧ Below w.heap.size w w' :=
  of_any Tryd.func33 (c0 := (Tryd.f33.body).getD .skip) (n := Tryd.f33.ntmps) (by kernel_rfl) rfl (of_decide_eq_true (by kernel_rfl)) (by kernel_rfl) (by kernel_rfl) (by kernel_rfl) r w
theorem of8_any (r : Int) (w : World) : Calls Tryd.prog 34 #[.int .i32 r] w fun e w' => e = .returned (.tuple #[.agg ((look tab8 r).getD Pr.rest).cells, .bool (look tab8 r).isSome]) ∧ Below w.heap.size w w' :=
  of_any Tryd.func34 (c0 := (Tryd.f34.body).getD .skip) (n := Tryd.f34.ntmps) (by kernel_rfl) rfl (of_decide_eq_true (by kernel_rfl)) (by kernel_rfl) (by kernel_rfl) (by kernel_rfl) r w
theorem of9_any (r : Int) (w : World) : Calls Tryd.prog 35 #[.int .i32 r] w fun e w' => e = .returned (.tuple #[.agg ((look tab9 r).getD Pr.rest).cells, .bool (look tab9 r).isSome]) ∧ Below w.heap.size w w' :=
  of_any Tryd.func35 (c0 := (Tryd.f35.body).getD .skip) (n := Tryd.f35.ntmps) (by kernel_rfl) rfl (of_decide_eq_true (by kernel_rfl)) (by kernel_rfl) (by kernel_rfl) (by kernel_rfl) r w
theorem of10_any (r : Int) (w : World) : Calls Tryd.prog 36 #[.int .i32 r] w fun e w' => e = .returned (.tuple #[.agg ((look tab10 r).getD Pr.rest).cells, .bool (look tab10 r).isSome]) ∧ Below w.heap.size w w' :=
  of_any Tryd.func36 (c0 := (Tryd.f36.body).getD .skip) (n := Tryd.f36.ntmps) (by kernel_rfl) rfl (of_decide_eq_true (by kernel_rfl)) (by kernel_rfl) (by kernel_rfl) (by kernel_rfl) r w
theorem of11_any (r : Int) (w : World) : Calls Tryd.prog 37 #[.int .i32 r] w fun e w' => e = .returned (.tuple #[.agg ((look tab11 r).getD Pr.rest).cells, .bool (look tab11 r).isSome]) ∧ Below w.heap.size w w' :=
  of_any Tryd.func37 (c0 := (Tryd.f37.body).getD .skip) (n := Tryd.f37.ntmps) (by kernel_rfl) rfl (of_decide_eq_true (by kernel_rfl)) (by kernel_rfl) (by kernel_rfl) (by kernel_rfl) r w
theorem of12_any (r : Int) (w : World) : Calls Tryd.prog 38 #[.int .i32 r] w fun e w' => e = .returned (.tuple #[.agg ((look tab12 r).getD Pr.rest).cells, .bool (look tab12 r).isSome]) ∧ Below w.heap.size w w' :=
  of_any Tryd.func38 (c0 := (Tryd.f38.body).getD .skip) (n := Tryd.f38.ntmps) (by kernel_rfl) rfl (of_decide_eq_true (by kernel_rfl)) (by kernel_rfl) (by kernel_rfl) (by kernel_rfl) r w
theorem of13_any (r : Int) (w : World) : Calls Tryd.prog 39 #[.int .i32 r] w fun e w' => e = .returned (.tuple #[.agg ((look tab13 r).getD Pr.rest).cells, .bool (look tab13 r).isSome]) ∧ Below w.heap.size w w' :=
  of_any Tryd.func39 (c0 := (Tryd.f39.body).getD .skip) (n := Tryd.f39.ntmps) (by kernel_rfl) rfl (of_decide_eq_true (by kernel_rfl)) (by kernel_rfl) (by kernel_rfl) (by kernel_rfl) r w
theorem of14_any (r : Int) (w : World) : Calls Tryd.prog 40 #[.int .i32 r] w fun e w' => e = .returned (.tuple #[.agg ((look tab14 r).getD Pr.rest).cells, .bool (look tab14 r).isSome]) ∧ Below w.heap.size w w' :=
  of_any Tryd.func40 (c0 := (Tryd.f40.body).getD .skip) (n := Tryd.f40.ntmps) (by kernel_rfl) rfl (of_decide_eq_true (by kernel_rfl)) (by kernel_rfl) (by kernel_rfl) (by kernel_rfl) r w
def tabAt (f : FuncId) : List (Int × Int × Pr) :=
  if f = 26 then tab0
  else if f = 27 then tab1
  else if f = 28 then tab2
  else if f = 29 then tab3
  else if f = 30 then tab4
  else if f = 31 then tab5
  else if f = 32 then tab6
  else if f = 33 then tab7
  else if f = 34 then tab8
  else if f = 35 then tab9
  else if f = 36 then tab10
  else if f = 37 then tab11
  else if f = 38 then tab12
  else if f = 39 then tab13
  else if f = 40 then tab14
  else []
def Aref (f : FuncId) (r : Int) : Array Value × Bool := (((look (tabAt f) r).getD Pr.rest).cells, (look (tabAt f) r).isSome)
theorem partVal_look : ∀ (fs : List FuncId) (r : Int), partVal Pr.rest.cells Aref fs r = (((look (fs.flatMap tabAt) r).getD Pr.rest).cells, (look (fs.flatMap tabAt) r).isSome)
  | [], r => rfl
  | f :: fs, r => by
    have ih := partVal_look fs r
    have e2 : (Aref f r).2 = (look (tabAt f) r).isSome := rfl
    have e1 : (Aref f r).1 = ((look (tabAt f) r).getD Pr.rest).cells := rfl
    rw [partVal, List.flatMap_cons, look_append]
    by_cases hs : (Aref f r).2 = true
    · rw [if_pos hs, e1]
      rw [e2] at hs
      obtain ⟨p, hp⟩ := Option.isSome_iff_exists.1 hs
      simp [hp]
    · rw [if_neg hs, ih]
      rw [e2] at hs
      have hn : look (tabAt f) r = none := by simpa using hs
      simp [hn]
theorem Aref_ok (r : Int) (f : FuncId) : (Aref f r).1.size = 9 ∧ (Aref f r).1.all (·.oneCell') = true := ⟨rfl, Pr.cells_one _⟩

theorem part_any {f : FuncId} {fn : Func} {fs : List FuncId} (hf : Tryd.prog.funcs[f]? = some fn) {c0 : Code} (hb : fn.body = some c0) (hn0 : 4 ≤ fn.ntmps) (hr : fn.results = #[.cell 2 42, .tmp 3])
    (hs : starts 42 c0 = true) (hc : pchain Sref fn.ntmps 9 42 (tailOf c0) = some (fs, Pr.rest.cells)) (r : Int)
    (hfs : ∀ f ∈ fs, EntersIt Tryd.prog f ∧ ∀ w, Calls Tryd.prog f #[.int .i32 r] w fun e w' => e = .returned (.tuple #[.agg (Aref f r).1, .bool (Aref f r).2]) ∧ Below w.heap.size w w') (w : World) :
    Calls Tryd.prog f #[.int .i32 r] w fun e w' => e = .returned (.tuple #[.agg ((look (fs.flatMap tabAt) r).getD Pr.rest).cells, .bool (look (fs.flatMap tabAt) r).isSome]) ∧ Below w.heap.size w w' := by
  obtain ⟨i0, hi, hz0, hz1, hz2⟩ := info_parts propInfo
  have := part_calls Sref_answers hf hb rfl hn0 hr hi hz0 rfl hz1 Tryd.underlying42 rfl hs hc r (Aref_ok r) rfl hfs w
  rw [partVal_look] at this
  exact this
def fs0 : List FuncId := [26, 27, 28, 29, 30, 31, 32, 33]
theorem part0_any (r : Int) (w : World) :
    Calls Tryd.prog 22 #[.int .i32 r] w fun e w' => e = .returned (.tuple #[.agg ((look (fs0.flatMap tabAt) r).getD Pr.rest).cells, .bool (look (fs0.flatMap tabAt) r).isSome]) ∧ Below w.heap.size w w' := by
  refine part_any Tryd.func22 (c0 := (Tryd.f22.body).getD .skip) (by kernel_rfl) (of_decide_eq_true (by kernel_rfl)) (by kernel_rfl) (by kernel_rfl) (by kernel_rfl) r (fun f hf => ?_) w
  simp only [fs0, List.mem_cons, List.not_mem_nil, or_false] at hf
  rcases hf with rfl | rfl | rfl | rfl | rfl | rfl | rfl | rfl
  · exact ⟨fun _ _ => by kernel_rfl, of0_any r⟩
  · exact ⟨fun _ _ => by kernel_rfl, of1_any r⟩
  · exact ⟨fun _ _ => by kernel_rfl, of2_any r⟩
  · exact ⟨fun _ _ => by kernel_rfl, of3_any r⟩
  · exact ⟨fun _ _ => by kernel_rfl, of4_any r⟩
  · exact ⟨fun _ _ => by kernel_rfl, of5_any r⟩
  · exact ⟨fun _ _ => by kernel_rfl, of6_any r⟩
  · exact ⟨fun _ _ => by kernel_rfl, of7_any r⟩
def fs1 : List FuncId := [34, 35, 36, 37, 38, 39, 40]
theorem part1_any (r : Int) (w : World) :
    Calls Tryd.prog 23 #[.int .i32 r] w fun e w' => e = .returned (.tuple #[.agg ((look (fs1.flatMap tabAt) r).getD Pr.rest).cells, .bool (look (fs1.flatMap tabAt) r).isSome]) ∧ Below w.heap.size w w' := by
  refine part_any Tryd.func23 (c0 := (Tryd.f23.body).getD .skip) (by kernel_rfl) (of_decide_eq_true (by kernel_rfl)) (by kernel_rfl) (by kernel_rfl) (by kernel_rfl) r (fun f hf => ?_) w
  simp only [fs1, List.mem_cons, List.not_mem_nil, or_false] at hf
  rcases hf with rfl | rfl | rfl | rfl | rfl | rfl | rfl
  · exact ⟨fun _ _ => by kernel_rfl, of8_any r⟩
  · exact ⟨fun _ _ => by kernel_rfl, of9_any r⟩
  · exact ⟨fun _ _ => by kernel_rfl, of10_any r⟩
  · exact ⟨fun _ _ => by kernel_rfl, of11_any r⟩
  · exact ⟨fun _ _ => by kernel_rfl, of12_any r⟩
  · exact ⟨fun _ _ => by kernel_rfl, of13_any r⟩
  · exact ⟨fun _ _ => by kernel_rfl, of14_any r⟩
end Go.Proofs.YtjbhckbneonfeaaDoor
