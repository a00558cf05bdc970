/- What a code point is, both ways, field by field; facts carried on. -/
import Derived.Test.YtmbgeeiidpllcaaDoorPof
import Derived.Test.YtmbgeeiidpllcaaDoorLib
namespace Go.Proofs.YtmbgeeiidpllcaaDoor
open Go.ChangeShapes Go.WideShapes Go.ChangeAt Go.RowKit
set_option maxRecDepth 100000

theorem pOf_lit (r : Int) (hlo : -2147483648 ≤ r) (hhi : r ≤ 2147483647) (w : World) (hl : Laid w) :
    Calls Tryd.prog 30 #[.int .i32 r] w fun e w' => e = .returned (.agg #[.int .i64 (propOf r).bidi, .int .i64 (propOf r).cluster, .int .i64 (propOf r).brk, .int .i64 (propOf r).script, .int .i64 (propOf r).join, .int .i64 (propOf r).word, .int .i32 (propOf r).mirror, .int .i32 (propOf r).pair, .bool (propOf r).opens]) ∧ Below w.heap.size w w' :=
  pOf_any r hlo hhi w hl
theorem rOf_lit (r : Int) (hlo : -2147483648 ≤ r) (hhi : r ≤ 2147483647) (w : World) :
    Calls Tryd.prog 66 #[.int .i32 r] w fun e w' => e = .returned (.agg #[.int .i64 (propOf r).bidi, .int .i64 (propOf r).cluster, .int .i64 (propOf r).brk, .int .i64 (propOf r).script, .int .i64 (propOf r).join, .int .i64 (propOf r).word, .int .i32 (propOf r).mirror, .int .i32 (propOf r).pair, .bool (propOf r).opens]) ∧ Below w.heap.size w w' :=
  rOf_any r hlo hhi w

theorem bidi_le (r : Int) : (propOf r).bidi ≤ 23 := by
  have h : tab.all (fun x => decide (x.2.2.bidi ≤ 23)) = true := by decide +kernel
  cases hl : look tab r with
  | none => rw [propOf_none hl]; decide
  | some p =>
    obtain ⟨lo, hi, h1, _, _⟩ := look_mem _ _ _ hl
    have := of_decide_eq_true (List.all_eq_true.1 h _ h1)
    rw [propOf_some hl]
    split <;> exact this

/-- a field of a struct by value -/
@[go_sem] theorem fld_bidi (a b c d e f g h : Int) (o : Bool) (w : World) : (Instr.field 41 (.agg #[.int .i64 a, .int .i64 b, .int .i64 c, .int .i64 d, .int .i64 e, .int .i64 f, .int .i32 g, .int .i32 h, .bool o]) 0).run Tryd.prog w = .ok (.int .i64 a) w := by kernel_rfl
@[go_sem] theorem fld_cluster (a b c d e f g h : Int) (o : Bool) (w : World) : (Instr.field 41 (.agg #[.int .i64 a, .int .i64 b, .int .i64 c, .int .i64 d, .int .i64 e, .int .i64 f, .int .i32 g, .int .i32 h, .bool o]) 1).run Tryd.prog w = .ok (.int .i64 b) w := by kernel_rfl
@[go_sem] theorem fld_brk (a b c d e f g h : Int) (o : Bool) (w : World) : (Instr.field 41 (.agg #[.int .i64 a, .int .i64 b, .int .i64 c, .int .i64 d, .int .i64 e, .int .i64 f, .int .i32 g, .int .i32 h, .bool o]) 2).run Tryd.prog w = .ok (.int .i64 c) w := by kernel_rfl
@[go_sem] theorem fld_script (a b c d e f g h : Int) (o : Bool) (w : World) : (Instr.field 41 (.agg #[.int .i64 a, .int .i64 b, .int .i64 c, .int .i64 d, .int .i64 e, .int .i64 f, .int .i32 g, .int .i32 h, .bool o]) 3).run Tryd.prog w = .ok (.int .i64 d) w := by kernel_rfl
@[go_sem] theorem fld_join (a b c d e f g h : Int) (o : Bool) (w : World) : (Instr.field 41 (.agg #[.int .i64 a, .int .i64 b, .int .i64 c, .int .i64 d, .int .i64 e, .int .i64 f, .int .i32 g, .int .i32 h, .bool o]) 4).run Tryd.prog w = .ok (.int .i64 e) w := by kernel_rfl
@[go_sem] theorem fld_word (a b c d e f g h : Int) (o : Bool) (w : World) : (Instr.field 41 (.agg #[.int .i64 a, .int .i64 b, .int .i64 c, .int .i64 d, .int .i64 e, .int .i64 f, .int .i32 g, .int .i32 h, .bool o]) 5).run Tryd.prog w = .ok (.int .i64 f) w := by kernel_rfl
@[go_sem] theorem fld_mirror (a b c d e f g h : Int) (o : Bool) (w : World) : (Instr.field 41 (.agg #[.int .i64 a, .int .i64 b, .int .i64 c, .int .i64 d, .int .i64 e, .int .i64 f, .int .i32 g, .int .i32 h, .bool o]) 6).run Tryd.prog w = .ok (.int .i32 g) w := by kernel_rfl
@[go_sem] theorem fld_pair (a b c d e f g h : Int) (o : Bool) (w : World) : (Instr.field 41 (.agg #[.int .i64 a, .int .i64 b, .int .i64 c, .int .i64 d, .int .i64 e, .int .i64 f, .int .i32 g, .int .i32 h, .bool o]) 7).run Tryd.prog w = .ok (.int .i32 h) w := by kernel_rfl
@[go_sem] theorem fld_opens (a b c d e f g h : Int) (o : Bool) (w : World) : (Instr.field 41 (.agg #[.int .i64 a, .int .i64 b, .int .i64 c, .int .i64 d, .int .i64 e, .int .i64 f, .int .i32 g, .int .i32 h, .bool o]) 8).run Tryd.prog w = .ok (.bool o) w := by kernel_rfl

theorem Laid.pass {w w1 : World} (h : Laid w) (hb : Below w.heap.size w w1) : Laid w1 := h.below hb h.1
theorem SliceIn.pass {k : IntKind} {w w1 : World} {A : Option Addr} {n c : Nat} {xs : List Int} (h : SliceIn k w A n c xs) (hb : Below w.heap.size w w1) : SliceIn k w1 A n c xs :=
  ⟨h.at_.later hb, h.le, h.cap, h.wf⟩
end Go.Proofs.YtmbgeeiidpllcaaDoor
