/-
  NARROWER THAN 'FOR EVERY INPUT', by the rows' own cells (each row's printed sentence says how): HyphenNil: laid · HyphenIn: laid.
  DERIVED. THE GIVEN ROWS OF THIS SEAT. 2 by the template 'for every input the law returns true; each argument reads behind the call as it read before'; 0 by the template 'total and deterministic' (their statements: YtgianjnccpbnaaaDoorTotals.lean).
  GIVEN WITH THE SEED: the statements are not yours to turn. If you find one false, say at which input.
  Laid BY PROGRAM, IN A SANDBOX (cutbox-rows.mjs): the forced cells as the released guide's own fill.sh prints them over the translation 494351fc49a146a2… (all of the seat's roots in one cut). By AI agents, Wed Nov 11 2026. No macro, syntax, notation, axiom, sorry.
-/
import Derived.Test.YtgianjnccpbnaaaDoorChecked
import GoSem.Claim
import GoSem.ClaimJoined
import GoSem.ClaimMapViews
import Derived.JoinedTies
import Derived.KernelRfl
namespace Go.Proofs.YtgianjnccpbnaaaDoor
/- THE CELL 'sum', in the pinned program and in every row, IS THE sha256 OF THE DUMP (.gsa) THAT YtgianjnccpbnaaaDoorProg.lean LOADS. Nothing in Lean hashes anything: it is a label: what it is worth is what the hold of that sum in a sandbox is worth. -/
noncomputable def Tryd.pinned : Pinned := { name := "ytgianjnccpbnaaadoor", sum := "494351fc49a146a2f133e8d9206e50cbd2974e019514fe35c91f14d1692c5f04", checked := Tryd.checked }
namespace Rows
def none {H : Type} : Left H := { results := [], args := [] }

/- WHAT THE LISTED PACKAGE-LEVEL VARIABLES READ AS WHEN THE CALL BEGINS. Each datum BY PROGRAM (the guide's laid-datum.mjs) off the statement by which the dump's own 'gosem.cut.vars' lays the variable. In a bare row this is a premise. The card (YtgianjnccpbnaaaDoorCards.lean) ties it to the program's text. -/
def laid_typecase_props_lasts {H : Type} : DataW H := .agg [.lit (.int .i32 42), .lit (.int .i32 96), .lit (.int .i32 180), .lit (.int .i32 1023), .lit (.int .i32 1563), .lit (.int .i32 1644), .lit (.int .i32 1749), .lit (.int .i32 3654), .lit (.int .i32 8232), .lit (.int .i32 8383), .lit (.int .i32 12298), .lit (.int .i32 64335), .lit (.int .i32 917999)]

/-- 'typecaselaw20.HyphenNil': WHATEVER THE INPUT: true; the input reads as it did. -/
def hyphenNilSpec : ChangeSpec := { name := "hyphenNil", fn := fun _ => fun
  | [d] => { results := [.lit (.bool true)], args := [d] }
  | _ => none }
def hyphenNilRow : OpenClaim := { program := "ytgianjnccpbnaaadoor", sum := "494351fc49a146a2f133e8d9206e50cbd2974e019514fe35c91f14d1692c5f04", func := "typecase/typecaselaw20.HyphenNil", spec := "hyphenNil", unfollowed := true, recurses := true, named := ["typecase/props.lasts"], apart := false, laid := [("typecase/props.lasts", laid_typecase_props_lasts)] }
def HyphenNilSaid : Prop := hyphenNilRow.holds Tryd.pinned (OpenSpec.ofChange hyphenNilSpec)

/-- ITS FALSE NEIGHBOUR: 'it returns false'. Refute it at one input. -/
def hyphenNilWrong : ChangeSpec := { name := "hyphenNil", fn := fun _ => fun
  | [d] => { results := [.lit (.bool false)], args := [d] }
  | _ => none }
def HyphenNilWrongFalsely : Prop := hyphenNilRow.holds Tryd.pinned (OpenSpec.ofChange hyphenNilWrong)

/-- 'typecaselaw20.HyphenIn': WHATEVER THE INPUT: true; the input reads as it did. -/
def hyphenInSpec : ChangeSpec := { name := "hyphenIn", fn := fun _ => fun
  | [d1, d2] => { results := [.lit (.bool true)], args := [d1, d2] }
  | _ => none }
def hyphenInRow : OpenClaim := { program := "ytgianjnccpbnaaadoor", sum := "494351fc49a146a2f133e8d9206e50cbd2974e019514fe35c91f14d1692c5f04", func := "typecase/typecaselaw20.HyphenIn", spec := "hyphenIn", unfollowed := true, recurses := true, named := ["typecase/props.lasts"], apart := false, laid := [("typecase/props.lasts", laid_typecase_props_lasts)] }
def HyphenInSaid : Prop := hyphenInRow.holds Tryd.pinned (OpenSpec.ofChange hyphenInSpec)

/-- ITS FALSE NEIGHBOUR: 'it returns false'. Refute it at one input. -/
def hyphenInWrong : ChangeSpec := { name := "hyphenIn", fn := fun _ => fun
  | [d1, d2] => { results := [.lit (.bool false)], args := [d1, d2] }
  | _ => none }
def HyphenInWrongFalsely : Prop := hyphenInRow.holds Tryd.pinned (OpenSpec.ofChange hyphenInWrong)

/- THE SECOND FORM. 'bulk': how many values and letters a reading holds, each counted each time it is reached (what is shared counts as often as it is met; a slice's spare places count too). A statement '..UptoSaid' is the law's where the arguments, and the package variables that the reading takes, are together of bulk at most 1048576: NARROWER than '..Said'. Prove '..Said' where nothing that the law and all that it calls make is longer than what came in: it says more and counts as full. Else prove '..UptoSaid'. A law counts once. -/
mutual
def uptoBulk {H : Type} : DataW H → Nat
  | .lit (.string bytes) => bytes.length + 1
  | .lit _ => 1
  | .nil => 1
  | .ptr d => uptoBulk d + 1
  | .slice elems spare => uptoBulkAll elems + uptoBulkAll spare + 1
  | .agg parts => uptoBulkAll parts + 1
  | .iface _ d => uptoBulk d + 1
  | .map entries => uptoBulkEntries entries + 1
  | .held _ => 1
def uptoBulkAll {H : Type} : List (DataW H) → Nat
  | [] => 0
  | d :: r => uptoBulk d + uptoBulkAll r
def uptoBulkEntries {H : Type} : List (Lit × DataW H) → Nat
  | [] => 0
  | x :: r => uptoBulkEntry x + uptoBulkEntries r
def uptoBulkEntry {H : Type} : Lit × DataW H → Nat
  | (.string bytes, d) => bytes.length + uptoBulk d + 1
  | (_, d) => uptoBulk d + 1
 end
def uptoSmall : (H : Type) → List (DataW H) → Bool := fun _ ds => decide (uptoBulkAll ds ≤ 1048576)
def OpenSpec.upto (s : _root_.Go.ChangeSpec) : _root_.Go.OpenSpec := { _root_.Go.OpenSpec.ofChange s with cond := some uptoSmall }

/-- 'typecaselaw20.HyphenNil', WHERE WHAT IT READS IS OF BULK AT MOST 1048576: true; the input reads as it did. -/
def hyphenNilUptoRow : OpenClaim := { program := "ytgianjnccpbnaaadoor", sum := "494351fc49a146a2f133e8d9206e50cbd2974e019514fe35c91f14d1692c5f04", func := "typecase/typecaselaw20.HyphenNil", spec := "hyphenNil", unfollowed := true, recurses := true, named := ["typecase/props.lasts"], apart := false, laid := [("typecase/props.lasts", laid_typecase_props_lasts)], narrowed := true }
def HyphenNilUptoSaid : Prop := hyphenNilUptoRow.holds Tryd.pinned (OpenSpec.upto hyphenNilSpec)

/-- 'typecaselaw20.HyphenIn', WHERE WHAT IT READS IS OF BULK AT MOST 1048576: true; the input reads as it did. -/
def hyphenInUptoRow : OpenClaim := { program := "ytgianjnccpbnaaadoor", sum := "494351fc49a146a2f133e8d9206e50cbd2974e019514fe35c91f14d1692c5f04", func := "typecase/typecaselaw20.HyphenIn", spec := "hyphenIn", unfollowed := true, recurses := true, named := ["typecase/props.lasts"], apart := false, laid := [("typecase/props.lasts", laid_typecase_props_lasts)], narrowed := true }
def HyphenInUptoSaid : Prop := hyphenInUptoRow.holds Tryd.pinned (OpenSpec.upto hyphenInSpec)

end Rows
end Go.Proofs.YtgianjnccpbnaaaDoor
