/- The reference's table functions: row, rest, of0 .. of14. -/
import Derived.Test.YtmbgeeiidpllcaaDoorRows
import Derived.Test.YtmbgeeiidpllcaaDoorTab
import Derived.Test.YtmbgeeiidpllcaaDoorPtab
import Derived.Lib.Hide
namespace Go.Proofs.YtmbgeeiidpllcaaDoor
open Go.ChangeShapes Go.WideShapes Go.ChangeAt Go.RowKit
set_option maxRecDepth 100000

def Pr.cells (p : Pr) : Array Value := #[.int .i64 p.bidi, .int .i64 p.cluster, .int .i64 p.brk, .int .i64 p.script, .int .i64 p.join, .int .i64 p.word, .int .i32 p.mirror, .int .i32 p.pair, .bool p.opens]

theorem row_any (a b c d e f g h : Int) (o : Bool) (w : World) :
    Calls Tryd.prog 110 #[.int .i64 a, .int .i64 b, .int .i64 c, .int .i64 d, .int .i64 e, .int .i64 f, .int .i32 g, .int .i32 h, .bool o] w fun e' w' =>
      e' = .returned (.agg #[.int .i64 a, .int .i64 b, .int .i64 c, .int .i64 d, .int .i64 e, .int .i64 f, .int .i32 g, .int .i32 h, .bool o]) ∧ Below w.heap.size w w' := by
  go_enter Tryd.func110, Tryd.ntmps110
  go_wp2
  refine bodyPost_ret (v := .agg #[.int .i64 a, .int .i64 b, .int .i64 c, .int .i64 d, .int .i64 e, .int .i64 f, .int .i32 g, .int .i32 h, .bool o]) (by simp [results, Tryd.results110, go_sem]) rfl ⟨rfl, (Below.refl _ _).alloc (Nat.le_refl _) _⟩

theorem bcell {B : Nat} {W w1 : World} (hb : Below B W w1) : (∀ b o, b < B → w1.cell? ⟨b, o, none⟩ = W.cell? ⟨b, o, none⟩) ∧ (∀ b o, b < B → w1.frozen? ⟨b, o, none⟩ = W.frozen? ⟨b, o, none⟩) :=
  ⟨fun b o h => hb.cell (p := ⟨b, o, none⟩) h, fun b o h => hb.frozen (p := ⟨b, o, none⟩) h⟩

theorem Pr.cells_size (p : Pr) : p.cells.size = 9 := rfl
theorem Pr.cells_one (p : Pr) : p.cells.all (·.oneCell') = true := by simp [Pr.cells, Value.oneCell']
theorem propInfo : (Tryd.prog.info? 41).map (fun i => (i.zero, i.size, i.bytes)) = some (some (.agg #[.int .i64 0, .int .i64 0, .int .i64 0, .int .i64 0, .int .i64 0, .int .i64 0, .int .i32 0, .int .i32 0, .bool false]), 9, 64) := by kernel_rfl
theorem propSize : (Tryd.prog.info? 41).map (·.size) = some 9 := by kernel_rfl

theorem rrest_any (w : World) :
    Calls Tryd.prog 86 #[] w fun e' w' => e' = .returned (.agg Pr.rest.cells) ∧ Below w.heap.size w w' := by
  go_enter Tryd.func86, Tryd.ntmps86
  go_wp2_with (first
    | (go_at_call 110; refine (row_any 1 0 0 0 0 0 0 0 false _).mono ?_; rintro e w' ⟨rfl, hb⟩)
    | (refine wpList_store_row rfl 41 (.tmp 0) (.tmp 1) rfl w.heap.size Pr.rest.cells rfl rfl 41 _ ((hb.block _ (by simp)).trans (heap_alloc_new w _)) propSize (by rfl) (Pr.cells_one _) ?_))
  refine bodyPost_ret (v := .agg Pr.rest.cells) (results_cell_row Tryd.results86 _ _ w.heap.size 41 _ (0, 0) _ rfl (setRow_heap _ _ _ _ _ _ ((hb.block _ (by simp)).trans (heap_alloc_new w _))) Tryd.underlying41 rfl propSize) rfl ⟨rfl, ?_⟩
  exact below_setRow (((Below.refl _ _).alloc (Nat.le_refl _) _).trans (hb.mono (by simp))) (Nat.le_refl _) _

def Sref (f : FuncId) (xs : Array Value) : Option Value :=
  if f = 110 then
    match xs.toList with
    | [.int .i64 a, .int .i64 b, .int .i64 c, .int .i64 d, .int .i64 e, .int .i64 f, .int .i32 g, .int .i32 h, .bool o] => some (.agg #[.int .i64 a, .int .i64 b, .int .i64 c, .int .i64 d, .int .i64 e, .int .i64 f, .int .i32 g, .int .i32 h, .bool o])
    | _ => none
  else if f = 86 then
    match xs.toList with
    | [] => some (.agg Pr.rest.cells)
    | _ => none
  else none

theorem enters_row : EntersIt Tryd.prog 110 := fun _ _ => by kernel_rfl
theorem enters_rest : EntersIt Tryd.prog 86 := fun _ _ => by kernel_rfl

theorem Sref_answers : Answers Tryd.prog Sref := by
  intro f xs v h
  obtain ⟨l⟩ := xs
  unfold Sref at h
  split at h
  case isTrue hf =>
    subst hf
    simp only at h
    split at h
    case h_1 =>
      injection h with h
      subst h
      exact ⟨enters_row, fun w => row_any _ _ _ _ _ _ _ _ _ w⟩
    case h_2 => cases h
  case isFalse =>
    split at h
    case isTrue hf =>
      subst hf
      simp only at h
      split at h
      case h_1 =>
        injection h with h
        subst h
        exact ⟨enters_rest, fun w => rrest_any w⟩
      case h_2 => cases h
    case isFalse => cases h

/-- a table's rows as the chain hands them out -/
def rowsOf (l : List (Int × Int × Pr)) : List (Int × Int × Array Value) := l.map fun (lo, hi, p) => (lo, hi, p.cells)
theorem chainVal_rowsOf : ∀ (l : List (Int × Int × Pr)) (r : Int), chainVal Pr.rest.cells (rowsOf l) r = (((look l r).getD Pr.rest).cells, (look l r).isSome)
  | [], r => rfl
  | (lo, hi, p) :: l, r => by
    simp only [rowsOf, List.map_cons, chainVal, look]
    split
    · rfl
    · exact chainVal_rowsOf l r

theorem of_any {f : FuncId} {fn : Func} {c0 : Code} {n : Nat} {l : List (Int × Int × Pr)} (hf : Tryd.prog.funcs[f]? = some fn) (hb : fn.body = some c0) (hn : fn.ntmps = n) (hn0 : 4 ≤ n)
    (hr : fn.results = #[.cell 2 41, .tmp 3]) (hs : starts 41 c0 = true) (hc : chain Sref n 9 41 (tailOf c0) = some (rowsOf l, Pr.rest.cells)) (r : Int) (w : World) :
    Calls Tryd.prog f #[.int .i32 r] w fun e w' => e = .returned (.tuple #[.agg ((look l r).getD Pr.rest).cells, .bool (look l r).isSome]) ∧ Below w.heap.size w w' := by
  obtain ⟨i0, hi, hz0, hz1, hz2⟩ := info_parts propInfo
  have := chain_calls Sref_answers hf hb hn hn0 hr hi hz0 rfl hz1 Tryd.underlying41 rfl hs hc (fun r => by rw [chainVal_rowsOf]; rfl) r w
  rw [chainVal_rowsOf] at this
  exact this

theorem of0_any (r : Int) (w : World) : Calls Tryd.prog 95 #[.int .i32 r] w fun e w' => e = .returned (.tuple #[.agg ((look tab0 r).getD Pr.rest).cells, .bool (look tab0 r).isSome]) ∧ Below w.heap.size w w' :=
  of_any Tryd.func95 (c0 := (Tryd.f95.body).getD .skip) (n := Tryd.f95.ntmps) (by kernel_rfl) rfl (of_decide_eq_true (by kernel_rfl)) (by kernel_rfl) (by kernel_rfl) (by kernel_rfl) r w
theorem of1_any (r : Int) (w : World) : Calls Tryd.prog 96 #[.int .i32 r] w fun e w' => e = .returned (.tuple #[.agg ((look tab1 r).getD Pr.rest).cells, .bool (look tab1 r).isSome]) ∧ Below w.heap.size w w' :=
  of_any Tryd.func96 (c0 := (Tryd.f96.body).getD .skip) (n := Tryd.f96.ntmps) (by kernel_rfl) rfl (of_decide_eq_true (by kernel_rfl)) (by kernel_rfl) (by kernel_rfl) (by kernel_rfl) r w
theorem of2_any (r : Int) (w : World) : Calls Tryd.prog 97 #[.int .i32 r] w fun e w' => e = .returned (.tuple #[.agg ((look tab2 r).getD Pr.rest).cells, .bool (look tab2 r).isSome]) ∧ Below w.heap.size w w' :=
  of_any Tryd.func97 (c0 := (Tryd.f97.body).getD .skip) (n := Tryd.f97.ntmps) (by kernel_rfl) rfl (of_decide_eq_true (by kernel_rfl)) (by kernel_rfl) (by kernel_rfl) (by kernel_rfl) r w
theorem of3_any (r : Int) (w : World) : Calls Tryd.prog 98 #[.int .i32 r] w fun e w' => e = .returned (.tuple #[.agg ((look tab3 r).getD Pr.rest).cells, .bool (look tab3 r).isSome]) ∧ Below w.heap.size w w' :=
  of_any Tryd.func98 (c0 := (Tryd.f98.body).getD .skip) (n := Tryd.f98.ntmps) (by kernel_rfl) rfl (of_decide_eq_true (by kernel_rfl)) (by kernel_rfl) (by kernel_rfl) (by kernel_rfl) r w
theorem of4_any (r : Int) (w : World) : Calls Tryd.prog 99 #[.int .i32 r] w fun e w' => e = .returned (.tuple #[.agg ((look tab4 r).getD Pr.rest).cells, .bool (look tab4 r).isSome]) ∧ Below w.heap.size w w' :=
  of_any Tryd.func99 (c0 := (Tryd.f99.body).getD .skip) (n := Tryd.f99.ntmps) (by kernel_rfl) rfl (of_decide_eq_true (by kernel_rfl)) (by kernel_rfl) (by kernel_rfl) (by kernel_rfl) r w
theorem of5_any (r : Int) (w : World) : Calls Tryd.prog 100 #[.int .i32 r] w fun e w' => e = .returned (.tuple #[.agg ((look tab5 r).getD Pr.rest).cells, .bool (look tab5 r).isSome]) ∧ Below w.heap.size w w' :=
  of_any Tryd.func100 (c0 := (Tryd.f100.body).getD .skip) (n := Tryd.f100.ntmps) (by kernel_rfl) rfl (of_decide_eq_true (by kernel_rfl)) (by kernel_rfl) (by kernel_rfl) (by kernel_rfl) r w
theorem of6_any (r : Int) (w : World) : Calls Tryd.prog 101 #[.int .i32 r] w fun e w' => e = .returned (.tuple #[.agg ((look tab6 r).getD Pr.rest).cells, .bool (look tab6 r).isSome]) ∧ Below w.heap.size w w' :=
  of_any Tryd.func101 (c0 := (Tryd.f101.body).getD .skip) (n := Tryd.f101.ntmps) (by kernel_rfl) rfl (of_decide_eq_true (by kernel_rfl)) (by kernel_rfl) (by kernel_rfl) (by kernel_rfl) r w
theorem of7_any (r : Int) (w : World) : Calls Tryd.prog 102 #[.int .i32 r] w fun e w' => e = .returned (.tuple #[.agg ((look tab7 r).getD Pr.rest).cells, .bool (look tab7 r).isSome]) ∧ Below w.heap.size w w' :=
  of_any Tryd.func102 (c0 := (Tryd.f102.body).getD .skip) (n := Tryd.f102.ntmps) (by kernel_rfl) rfl (of_decide_eq_true (by kernel_rfl)) (by kernel_rfl) (by kernel_rfl) (by kernel_rfl) r w
theorem of8_any (r : Int) (w : World) : Calls Tryd.prog 103 #[.int .i32 r] w fun e w' => e = .returned (.tuple #[.agg ((look tab8 r).getD Pr.rest).cells, .bool (look tab8 r).isSome]) ∧ Below w.heap.size w w' :=
  of_any Tryd.func103 (c0 := (Tryd.f103.body).getD .skip) (n := Tryd.f103.ntmps) (by kernel_rfl) rfl (of_decide_eq_true (by kernel_rfl)) (by kernel_rfl) (by kernel_rfl) (by kernel_rfl) r w
theorem of9_any (r : Int) (w : World) : Calls Tryd.prog 104 #[.int .i32 r] w fun e w' => e = .returned (.tuple #[.agg ((look tab9 r).getD Pr.rest).cells, .bool (look tab9 r).isSome]) ∧ Below w.heap.size w w' :=
  of_any Tryd.func104 (c0 := (Tryd.f104.body).getD .skip) (n := Tryd.f104.ntmps) (by kernel_rfl) rfl (of_decide_eq_true (by kernel_rfl)) (by kernel_rfl) (by kernel_rfl) (by kernel_rfl) r w
theorem of10_any (r : Int) (w : World) : Calls Tryd.prog 105 #[.int .i32 r] w fun e w' => e = .returned (.tuple #[.agg ((look tab10 r).getD Pr.rest).cells, .bool (look tab10 r).isSome]) ∧ Below w.heap.size w w' :=
  of_any Tryd.func105 (c0 := (Tryd.f105.body).getD .skip) (n := Tryd.f105.ntmps) (by kernel_rfl) rfl (of_decide_eq_true (by kernel_rfl)) (by kernel_rfl) (by kernel_rfl) (by kernel_rfl) r w
theorem of11_any (r : Int) (w : World) : Calls Tryd.prog 106 #[.int .i32 r] w fun e w' => e = .returned (.tuple #[.agg ((look tab11 r).getD Pr.rest).cells, .bool (look tab11 r).isSome]) ∧ Below w.heap.size w w' :=
  of_any Tryd.func106 (c0 := (Tryd.f106.body).getD .skip) (n := Tryd.f106.ntmps) (by kernel_rfl) rfl (of_decide_eq_true (by kernel_rfl)) (by kernel_rfl) (by kernel_rfl) (by kernel_rfl) r w
theorem of12_any (r : Int) (w : World) : Calls Tryd.prog 107 #[.int .i32 r] w fun e w' => e = .returned (.tuple #[.agg ((look tab12 r).getD Pr.rest).cells, .bool (look tab12 r).isSome]) ∧ Below w.heap.size w w' :=
  of_any Tryd.func107 (c0 := (Tryd.f107.body).getD .skip) (n := Tryd.f107.ntmps) (by kernel_rfl) rfl (of_decide_eq_true (by kernel_rfl)) (by kernel_rfl) (by kernel_rfl) (by kernel_rfl) r w
theorem of13_any (r : Int) (w : World) : Calls Tryd.prog 108 #[.int .i32 r] w fun e w' => e = .returned (.tuple #[.agg ((look tab13 r).getD Pr.rest).cells, .bool (look tab13 r).isSome]) ∧ Below w.heap.size w w' :=
  of_any Tryd.func108 (c0 := (Tryd.f108.body).getD .skip) (n := Tryd.f108.ntmps) (by kernel_rfl) rfl (of_decide_eq_true (by kernel_rfl)) (by kernel_rfl) (by kernel_rfl) (by kernel_rfl) r w
theorem of14_any (r : Int) (w : World) : Calls Tryd.prog 109 #[.int .i32 r] w fun e w' => e = .returned (.tuple #[.agg ((look tab14 r).getD Pr.rest).cells, .bool (look tab14 r).isSome]) ∧ Below w.heap.size w w' :=
  of_any Tryd.func109 (c0 := (Tryd.f109.body).getD .skip) (n := Tryd.f109.ntmps) (by kernel_rfl) rfl (of_decide_eq_true (by kernel_rfl)) (by kernel_rfl) (by kernel_rfl) (by kernel_rfl) r w
def tabAt (f : FuncId) : List (Int × Int × Pr) :=
  if f = 95 then tab0
  else if f = 96 then tab1
  else if f = 97 then tab2
  else if f = 98 then tab3
  else if f = 99 then tab4
  else if f = 100 then tab5
  else if f = 101 then tab6
  else if f = 102 then tab7
  else if f = 103 then tab8
  else if f = 104 then tab9
  else if f = 105 then tab10
  else if f = 106 then tab11
  else if f = 107 then tab12
  else if f = 108 then tab13
  else if f = 109 then tab14
  else []
def Aref (f : FuncId) (r : Int) : Array Value × Bool := (((look (tabAt f) r).getD Pr.rest).cells, (look (tabAt f) r).isSome)
theorem partVal_look : ∀ (fs : List FuncId) (r : Int), partVal Pr.rest.cells Aref fs r = (((look (fs.flatMap tabAt) r).getD Pr.rest).cells, (look (fs.flatMap tabAt) r).isSome)
  | [], r => rfl
  | f :: fs, r => by
    have ih := partVal_look fs r
    have e2 : (Aref f r).2 = (look (tabAt f) r).isSome := rfl
    have e1 : (Aref f r).1 = ((look (tabAt f) r).getD Pr.rest).cells := rfl
    rw [partVal, List.flatMap_cons, look_append]
    by_cases hs : (Aref f r).2 = true
    · rw [if_pos hs, e1]
      rw [e2] at hs
      obtain ⟨p, hp⟩ := Option.isSome_iff_exists.1 hs
      simp [hp]
    · rw [if_neg hs, ih]
      rw [e2] at hs
      have hn : look (tabAt f) r = none := by simpa using hs
      simp [hn]
theorem Aref_ok (r : Int) (f : FuncId) : (Aref f r).1.size = 9 ∧ (Aref f r).1.all (·.oneCell') = true := ⟨rfl, Pr.cells_one _⟩

theorem part_any {f : FuncId} {fn : Func} {fs : List FuncId} (hf : Tryd.prog.funcs[f]? = some fn) {c0 : Code} (hb : fn.body = some c0) (hn0 : 4 ≤ fn.ntmps) (hr : fn.results = #[.cell 2 41, .tmp 3])
    (hs : starts 41 c0 = true) (hc : pchain Sref fn.ntmps 9 41 (tailOf c0) = some (fs, Pr.rest.cells)) (r : Int)
    (hfs : ∀ f ∈ fs, EntersIt Tryd.prog f ∧ ∀ w, Calls Tryd.prog f #[.int .i32 r] w fun e w' => e = .returned (.tuple #[.agg (Aref f r).1, .bool (Aref f r).2]) ∧ Below w.heap.size w w') (w : World) :
    Calls Tryd.prog f #[.int .i32 r] w fun e w' => e = .returned (.tuple #[.agg ((look (fs.flatMap tabAt) r).getD Pr.rest).cells, .bool (look (fs.flatMap tabAt) r).isSome]) ∧ Below w.heap.size w w' := by
  obtain ⟨i0, hi, hz0, hz1, hz2⟩ := info_parts propInfo
  have := part_calls Sref_answers hf hb rfl hn0 hr hi hz0 rfl hz1 Tryd.underlying41 rfl hs hc r (Aref_ok r) rfl hfs w
  rw [partVal_look] at this
  exact this
def fs0 : List FuncId := [95, 96, 97, 98, 99, 100, 101, 102]
theorem part0_any (r : Int) (w : World) :
    Calls Tryd.prog 84 #[.int .i32 r] w fun e w' => e = .returned (.tuple #[.agg ((look (fs0.flatMap tabAt) r).getD Pr.rest).cells, .bool (look (fs0.flatMap tabAt) r).isSome]) ∧ Below w.heap.size w w' := by
  refine part_any Tryd.func84 (c0 := (Tryd.f84.body).getD .skip) (by kernel_rfl) (of_decide_eq_true (by kernel_rfl)) (by kernel_rfl) (by kernel_rfl) (by kernel_rfl) r (fun f hf => ?_) w
  simp only [fs0, List.mem_cons, List.not_mem_nil, or_false] at hf
  rcases hf with rfl | rfl | rfl | rfl | rfl | rfl | rfl | rfl
  · exact ⟨fun _ _ => by kernel_rfl, of0_any r⟩
  · exact ⟨fun _ _ => by kernel_rfl, of1_any r⟩
  · exact ⟨fun _ _ => by kernel_rfl, of2_any r⟩
  · exact ⟨fun _ _ => by kernel_rfl, of3_any r⟩
  · exact ⟨fun _ _ => by kernel_rfl, of4_any r⟩
  · exact ⟨fun _ _ => by kernel_rfl, of5_any r⟩
  · exact ⟨fun _ _ => by kernel_rfl, of6_any r⟩
  · exact ⟨fun _ _ => by kernel_rfl, of7_any r⟩
def fs1 : List FuncId := [103, 104, 105, 106, 107, 108, 109]
theorem part1_any (r : Int) (w : World) :
    Calls Tryd.prog 85 #[.int .i32 r] w fun e w' => e = .returned (.tuple #[.agg ((look (fs1.flatMap tabAt) r).getD Pr.rest).cells, .bool (look (fs1.flatMap tabAt) r).isSome]) ∧ Below w.heap.size w w' := by
  refine part_any Tryd.func85 (c0 := (Tryd.f85.body).getD .skip) (by kernel_rfl) (of_decide_eq_true (by kernel_rfl)) (by kernel_rfl) (by kernel_rfl) (by kernel_rfl) r (fun f hf => ?_) w
  simp only [fs1, List.mem_cons, List.not_mem_nil, or_false] at hf
  rcases hf with rfl | rfl | rfl | rfl | rfl | rfl | rfl
  · exact ⟨fun _ _ => by kernel_rfl, of8_any r⟩
  · exact ⟨fun _ _ => by kernel_rfl, of9_any r⟩
  · exact ⟨fun _ _ => by kernel_rfl, of10_any r⟩
  · exact ⟨fun _ _ => by kernel_rfl, of11_any r⟩
  · exact ⟨fun _ _ => by kernel_rfl, of12_any r⟩
  · exact ⟨fun _ _ => by kernel_rfl, of13_any r⟩
  · exact ⟨fun _ _ => by kernel_rfl, of14_any r⟩
end Go.Proofs.YtmbgeeiidpllcaaDoor
