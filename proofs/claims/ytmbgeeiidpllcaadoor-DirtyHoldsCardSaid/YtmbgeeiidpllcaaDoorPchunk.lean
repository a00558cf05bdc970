/- The program's table functions: laid, paired, mirrored, the chunks, and the choice of a chunk. -/
import Derived.Test.YtmbgeeiidpllcaaDoorRefp
namespace Go.Proofs.YtmbgeeiidpllcaaDoor
open Go.ChangeShapes Go.WideShapes Go.ChangeAt Go.RowKit
set_option maxRecDepth 100000

theorem laid_any (lo hi a b c d e f : Int) (w : World) :
    Calls Tryd.prog 92 #[.int .i32 lo, .int .i32 hi, .int .i64 a, .int .i64 b, .int .i64 c, .int .i64 d, .int .i64 e, .int .i64 f] w fun e' w' =>
      e' = .returned (.agg #[.int .i32 lo, .int .i32 hi, .int .i64 a, .int .i64 b, .int .i64 c, .int .i64 d, .int .i64 e, .int .i64 f, .int .i32 0, .int .i32 0, .bool false]) ∧ Below w.heap.size w w' := by
  go_enter Tryd.func92, Tryd.ntmps92
  go_wp2
  refine bodyPost_ret (v := .agg #[.int .i32 lo, .int .i32 hi, .int .i64 a, .int .i64 b, .int .i64 c, .int .i64 d, .int .i64 e, .int .i64 f, .int .i32 0, .int .i32 0, .bool false]) (by simp [results, Tryd.results92, go_sem]) rfl ⟨rfl, (Below.refl _ _).alloc (Nat.le_refl _) _⟩

theorem mirrored_any (lo hi a b c d e f g h m : Int) (o : Bool) (w : World) :
    Calls Tryd.prog 94 #[.agg #[.int .i32 lo, .int .i32 hi, .int .i64 a, .int .i64 b, .int .i64 c, .int .i64 d, .int .i64 e, .int .i64 f, .int .i32 g, .int .i32 h, .bool o], .int .i32 m] w fun e' w' =>
      e' = .returned (.agg #[.int .i32 lo, .int .i32 hi, .int .i64 a, .int .i64 b, .int .i64 c, .int .i64 d, .int .i64 e, .int .i64 f, .int .i32 m, .int .i32 h, .bool o]) ∧ Below w.heap.size w w' := by
  go_enter Tryd.func94, Tryd.ntmps94
  go_wp2
  refine bodyPost_ret (v := .agg #[.int .i32 lo, .int .i32 hi, .int .i64 a, .int .i64 b, .int .i64 c, .int .i64 d, .int .i64 e, .int .i64 f, .int .i32 m, .int .i32 h, .bool o]) (by simp [results, Tryd.results94, go_sem]) rfl ⟨rfl, ?_⟩
  exact ((Below.refl _ _).alloc (Nat.le_refl _) _).alloc (by simp) _

theorem paired_any (lo hi a b c d e f g h m : Int) (o o' : Bool) (w : World) :
    Calls Tryd.prog 93 #[.agg #[.int .i32 lo, .int .i32 hi, .int .i64 a, .int .i64 b, .int .i64 c, .int .i64 d, .int .i64 e, .int .i64 f, .int .i32 g, .int .i32 h, .bool o], .int .i32 m, .bool o'] w fun e' w' =>
      e' = .returned (.agg #[.int .i32 lo, .int .i32 hi, .int .i64 a, .int .i64 b, .int .i64 c, .int .i64 d, .int .i64 e, .int .i64 f, .int .i32 m, .int .i32 m, .bool o']) ∧ Below w.heap.size w w' := by
  go_enter Tryd.func93, Tryd.ntmps93
  go_wp2
  refine bodyPost_ret (v := .agg #[.int .i32 lo, .int .i32 hi, .int .i64 a, .int .i64 b, .int .i64 c, .int .i64 d, .int .i64 e, .int .i64 f, .int .i32 m, .int .i32 m, .bool o']) (by simp [results, Tryd.results93, go_sem]) rfl ⟨rfl, ?_⟩
  exact ((Below.refl _ _).alloc (Nat.le_refl _) _).alloc (by simp) _

def Sprog (f : FuncId) (xs : Array Value) : Option Value :=
  if f = 92 then
    match xs.toList with
    | [.int .i32 lo, .int .i32 hi, .int .i64 a, .int .i64 b, .int .i64 c, .int .i64 d, .int .i64 e, .int .i64 f] => some (.agg #[.int .i32 lo, .int .i32 hi, .int .i64 a, .int .i64 b, .int .i64 c, .int .i64 d, .int .i64 e, .int .i64 f, .int .i32 0, .int .i32 0, .bool false])
    | _ => none
  else if f = 94 then
    match xs.toList with
    | [.agg cs, .int .i32 m] => match cs.toList with
      | [.int .i32 lo, .int .i32 hi, .int .i64 a, .int .i64 b, .int .i64 c, .int .i64 d, .int .i64 e, .int .i64 f, .int .i32 _, .int .i32 h, .bool o] => some (.agg #[.int .i32 lo, .int .i32 hi, .int .i64 a, .int .i64 b, .int .i64 c, .int .i64 d, .int .i64 e, .int .i64 f, .int .i32 m, .int .i32 h, .bool o])
      | _ => none
    | _ => none
  else if f = 93 then
    match xs.toList with
    | [.agg cs, .int .i32 m, .bool o'] => match cs.toList with
      | [.int .i32 lo, .int .i32 hi, .int .i64 a, .int .i64 b, .int .i64 c, .int .i64 d, .int .i64 e, .int .i64 f, .int .i32 _, .int .i32 _, .bool _] => some (.agg #[.int .i32 lo, .int .i32 hi, .int .i64 a, .int .i64 b, .int .i64 c, .int .i64 d, .int .i64 e, .int .i64 f, .int .i32 m, .int .i32 m, .bool o'])
      | _ => none
    | _ => none
  else none

theorem Sprog_answers : Answers Tryd.prog Sprog := by
  intro f xs v h
  obtain ⟨l⟩ := xs
  unfold Sprog at h
  split at h
  case isTrue hf =>
    subst hf
    simp only at h
    split at h
    case h_1 =>
      injection h with h
      subst h
      exact ⟨fun _ _ => by kernel_rfl, fun w => laid_any _ _ _ _ _ _ _ _ w⟩
    case h_2 => cases h
  case isFalse =>
    split at h
    case isTrue hf =>
      subst hf
      simp only at h
      split at h
      case h_2 => cases h
      case h_1 cs m =>
        obtain ⟨cl⟩ := cs
        simp only at h
        split at h
        case h_2 => cases h
        case h_1 =>
          injection h with h
          subst h
          exact ⟨fun _ _ => by kernel_rfl, fun w => mirrored_any _ _ _ _ _ _ _ _ _ _ _ _ w⟩
    case isFalse =>
      split at h
      case isTrue hf =>
        subst hf
        simp only at h
        split at h
        case h_2 => cases h
        case h_1 cs m o' =>
          obtain ⟨cl⟩ := cs
          simp only at h
          split at h
          case h_2 => cases h
          case h_1 =>
            injection h with h
            subst h
            exact ⟨fun _ _ => by kernel_rfl, fun w => paired_any _ _ _ _ _ _ _ _ _ _ _ _ _ w⟩
      case isFalse => cases h

/-- a row of the program's table, as cells -/
def rowCells (x : Int × Int × Pr) : List Value := [.int .i32 x.1, .int .i32 x.2.1, .int .i64 x.2.2.bidi, .int .i64 x.2.2.cluster, .int .i64 x.2.2.brk, .int .i64 x.2.2.script, .int .i64 x.2.2.join, .int .i64 x.2.2.word, .int .i32 x.2.2.mirror, .int .i32 x.2.2.pair, .bool x.2.2.opens]
def chunkRows (k : Nat) : List (Int × Int × Pr) := (tab.drop (20 * k)).take 20
def chunkCells (k : Nat) : Array Value := ((chunkRows k).flatMap rowCells).toArray

theorem chunkInfo : (Tryd.prog.info? 72).map (fun i => (i.zero, i.size, i.bytes)) = some (some (.agg ((List.replicate 20 (rowCells (0, 0, ⟨0, 0, 0, 0, 0, 0, 0, 0, false⟩))).flatten.toArray)), 220, 1440) := by kernel_rfl
theorem chunkSize : (Tryd.prog.info? 72).map (·.size) = some 220 := by kernel_rfl

theorem chunk_any {f : FuncId} {fn : Func} {c : Code} {k : Nat} (hf : Tryd.prog.funcs[f]? = some fn) (hb : fn.body = some c) (hn0 : 0 < fn.ntmps) (hr : fn.results = #[.cell 0 72])
    (hc : ∀ v0, chunkOf Tryd.prog Sprog fn.ntmps 220 72 v0 c = some (chunkCells k))
    (hc0 : noDst0 c = true) (w : World) :
    Calls Tryd.prog f #[] w fun e w' => e = .returned (.agg (chunkCells k)) ∧ Below w.heap.size w w' := by
  obtain ⟨i0, hi, hz0, hz1, hz2⟩ := info_parts chunkInfo
  exact chunk_calls Sprog_answers hf hb rfl hn0 hr hi hz0 (by rfl) hz1 Tryd.underlying72 rfl hc hc0 w
theorem chunk0_any (w : World) : Calls Tryd.prog 70 #[] w fun e w' => e = .returned (.agg (chunkCells 0)) ∧ Below w.heap.size w w' :=
  chunk_any Tryd.func70 (c := (Tryd.f70.body).getD .skip) (by kernel_rfl) (of_decide_eq_true (by kernel_rfl)) (by kernel_rfl) (fun _ => by kernel_rfl) (by kernel_rfl) w
theorem chunk1_any (w : World) : Calls Tryd.prog 71 #[] w fun e w' => e = .returned (.agg (chunkCells 1)) ∧ Below w.heap.size w w' :=
  chunk_any Tryd.func71 (c := (Tryd.f71.body).getD .skip) (by kernel_rfl) (of_decide_eq_true (by kernel_rfl)) (by kernel_rfl) (fun _ => by kernel_rfl) (by kernel_rfl) w
theorem chunk2_any (w : World) : Calls Tryd.prog 72 #[] w fun e w' => e = .returned (.agg (chunkCells 2)) ∧ Below w.heap.size w w' :=
  chunk_any Tryd.func72 (c := (Tryd.f72.body).getD .skip) (by kernel_rfl) (of_decide_eq_true (by kernel_rfl)) (by kernel_rfl) (fun _ => by kernel_rfl) (by kernel_rfl) w
theorem chunk3_any (w : World) : Calls Tryd.prog 73 #[] w fun e w' => e = .returned (.agg (chunkCells 3)) ∧ Below w.heap.size w w' :=
  chunk_any Tryd.func73 (c := (Tryd.f73.body).getD .skip) (by kernel_rfl) (of_decide_eq_true (by kernel_rfl)) (by kernel_rfl) (fun _ => by kernel_rfl) (by kernel_rfl) w
theorem chunk4_any (w : World) : Calls Tryd.prog 74 #[] w fun e w' => e = .returned (.agg (chunkCells 4)) ∧ Below w.heap.size w w' :=
  chunk_any Tryd.func74 (c := (Tryd.f74.body).getD .skip) (by kernel_rfl) (of_decide_eq_true (by kernel_rfl)) (by kernel_rfl) (fun _ => by kernel_rfl) (by kernel_rfl) w
theorem chunk5_any (w : World) : Calls Tryd.prog 75 #[] w fun e w' => e = .returned (.agg (chunkCells 5)) ∧ Below w.heap.size w w' :=
  chunk_any Tryd.func75 (c := (Tryd.f75.body).getD .skip) (by kernel_rfl) (of_decide_eq_true (by kernel_rfl)) (by kernel_rfl) (fun _ => by kernel_rfl) (by kernel_rfl) w
theorem chunk6_any (w : World) : Calls Tryd.prog 76 #[] w fun e w' => e = .returned (.agg (chunkCells 6)) ∧ Below w.heap.size w w' :=
  chunk_any Tryd.func76 (c := (Tryd.f76.body).getD .skip) (by kernel_rfl) (of_decide_eq_true (by kernel_rfl)) (by kernel_rfl) (fun _ => by kernel_rfl) (by kernel_rfl) w
theorem chunk7_any (w : World) : Calls Tryd.prog 77 #[] w fun e w' => e = .returned (.agg (chunkCells 7)) ∧ Below w.heap.size w w' :=
  chunk_any Tryd.func77 (c := (Tryd.f77.body).getD .skip) (by kernel_rfl) (of_decide_eq_true (by kernel_rfl)) (by kernel_rfl) (fun _ => by kernel_rfl) (by kernel_rfl) w
theorem chunk8_any (w : World) : Calls Tryd.prog 78 #[] w fun e w' => e = .returned (.agg (chunkCells 8)) ∧ Below w.heap.size w w' :=
  chunk_any Tryd.func78 (c := (Tryd.f78.body).getD .skip) (by kernel_rfl) (of_decide_eq_true (by kernel_rfl)) (by kernel_rfl) (fun _ => by kernel_rfl) (by kernel_rfl) w
theorem chunk9_any (w : World) : Calls Tryd.prog 79 #[] w fun e w' => e = .returned (.agg (chunkCells 9)) ∧ Below w.heap.size w w' :=
  chunk_any Tryd.func79 (c := (Tryd.f79.body).getD .skip) (by kernel_rfl) (of_decide_eq_true (by kernel_rfl)) (by kernel_rfl) (fun _ => by kernel_rfl) (by kernel_rfl) w
theorem chunk10_any (w : World) : Calls Tryd.prog 80 #[] w fun e w' => e = .returned (.agg (chunkCells 10)) ∧ Below w.heap.size w w' :=
  chunk_any Tryd.func80 (c := (Tryd.f80.body).getD .skip) (by kernel_rfl) (of_decide_eq_true (by kernel_rfl)) (by kernel_rfl) (fun _ => by kernel_rfl) (by kernel_rfl) w
theorem chunk11_any (w : World) : Calls Tryd.prog 81 #[] w fun e w' => e = .returned (.agg (chunkCells 11)) ∧ Below w.heap.size w w' :=
  chunk_any Tryd.func81 (c := (Tryd.f81.body).getD .skip) (by kernel_rfl) (of_decide_eq_true (by kernel_rfl)) (by kernel_rfl) (fun _ => by kernel_rfl) (by kernel_rfl) w
theorem chunk12_any (w : World) : Calls Tryd.prog 82 #[] w fun e w' => e = .returned (.agg (chunkCells 12)) ∧ Below w.heap.size w w' :=
  chunk_any Tryd.func82 (c := (Tryd.f82.body).getD .skip) (by kernel_rfl) (of_decide_eq_true (by kernel_rfl)) (by kernel_rfl) (fun _ => by kernel_rfl) (by kernel_rfl) w
end Go.Proofs.YtmbgeeiidpllcaaDoor
