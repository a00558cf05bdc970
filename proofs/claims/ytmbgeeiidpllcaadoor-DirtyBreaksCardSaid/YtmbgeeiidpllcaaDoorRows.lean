/-
  NARROWER THAN 'FOR EVERY INPUT', by the rows' own cells (each row's printed sentence says how): DirtyBreaks: laid · DirtyHolds: laid.
  DERIVED. THE GIVEN ROWS OF THIS SEAT. 2 by the template 'for every input the law returns true; each argument reads behind the call as it read before'; 0 by the template 'total and deterministic' (their statements: YtmbgeeiidpllcaaDoorTotals.lean).
  GIVEN WITH THE SEED: the statements are not yours to turn. If you find one false, say at which input.
  Laid BY PROGRAM, IN A SANDBOX (cutbox-rows.mjs): the forced cells as the released guide's own fill.sh prints them over the translation c4acefc293b77b09… (all of the seat's roots in one cut). By AI agents, Wed Nov 11 2026. No macro, syntax, notation, axiom, sorry.
-/
import Derived.Test.YtmbgeeiidpllcaaDoorChecked
import GoSem.Claim
import GoSem.ClaimJoined
import GoSem.ClaimMapViews
import Derived.JoinedTies
import Derived.KernelRfl
namespace Go.Proofs.YtmbgeeiidpllcaaDoor
/- THE CELL 'sum', in the pinned program and in every row, IS THE sha256 OF THE DUMP (.gsa) THAT YtmbgeeiidpllcaaDoorProg.lean LOADS. Nothing in Lean hashes anything: it is a label: what it is worth is what the hold of that sum in a sandbox is worth. -/
noncomputable def Tryd.pinned : Pinned := { name := "ytmbgeeiidpllcaadoor", sum := "c4acefc293b77b09f06eaf3a8edd321161d1d8089a511571cc00851142a801cb", checked := Tryd.checked }
namespace Rows
def none {H : Type} : Left H := { results := [], args := [] }

/- WHAT THE LISTED PACKAGE-LEVEL VARIABLES READ AS WHEN THE CALL BEGINS. Each datum BY PROGRAM (the guide's laid-datum.mjs) off the statement by which the dump's own 'gosem.cut.vars' lays the variable. In a bare row this is a premise. The card (YtmbgeeiidpllcaaDoorCards.lean) ties it to the program's text. -/
def laid_typecase_props_lasts {H : Type} : DataW H := .agg [.lit (.int .i32 42), .lit (.int .i32 96), .lit (.int .i32 180), .lit (.int .i32 1023), .lit (.int .i32 1563), .lit (.int .i32 1644), .lit (.int .i32 1749), .lit (.int .i32 3654), .lit (.int .i32 8232), .lit (.int .i32 8383), .lit (.int .i32 12298), .lit (.int .i32 64335), .lit (.int .i32 917999)]

/-- 'typecaselaw52.DirtyBreaks': WHATEVER THE INPUT: true; the input reads as it did. -/
def dirtyBreaksSpec : ChangeSpec := { name := "dirtyBreaks", fn := fun _ => fun
  | [d1, d2] => { results := [.lit (.bool true)], args := [d1, d2] }
  | _ => none }
def dirtyBreaksRow : OpenClaim := { program := "ytmbgeeiidpllcaadoor", sum := "c4acefc293b77b09f06eaf3a8edd321161d1d8089a511571cc00851142a801cb", func := "typecase/typecaselaw52.DirtyBreaks", spec := "dirtyBreaks", unfollowed := true, recurses := true, named := ["typecase/props.lasts"], apart := false, laid := [("typecase/props.lasts", laid_typecase_props_lasts)] }
def DirtyBreaksSaid : Prop := dirtyBreaksRow.holds Tryd.pinned (OpenSpec.ofChange dirtyBreaksSpec)

/-- ITS FALSE NEIGHBOUR: 'it returns false'. Refute it at one input. -/
def dirtyBreaksWrong : ChangeSpec := { name := "dirtyBreaks", fn := fun _ => fun
  | [d1, d2] => { results := [.lit (.bool false)], args := [d1, d2] }
  | _ => none }
def DirtyBreaksWrongFalsely : Prop := dirtyBreaksRow.holds Tryd.pinned (OpenSpec.ofChange dirtyBreaksWrong)

/-- 'typecaselaw52.DirtyHolds': WHATEVER THE INPUT: true; the input reads as it did. -/
def dirtyHoldsSpec : ChangeSpec := { name := "dirtyHolds", fn := fun _ => fun
  | [d1, d2] => { results := [.lit (.bool true)], args := [d1, d2] }
  | _ => none }
def dirtyHoldsRow : OpenClaim := { program := "ytmbgeeiidpllcaadoor", sum := "c4acefc293b77b09f06eaf3a8edd321161d1d8089a511571cc00851142a801cb", func := "typecase/typecaselaw52.DirtyHolds", spec := "dirtyHolds", unfollowed := true, recurses := true, named := ["typecase/props.lasts"], apart := false, laid := [("typecase/props.lasts", laid_typecase_props_lasts)] }
def DirtyHoldsSaid : Prop := dirtyHoldsRow.holds Tryd.pinned (OpenSpec.ofChange dirtyHoldsSpec)

/-- ITS FALSE NEIGHBOUR: 'it returns false'. Refute it at one input. -/
def dirtyHoldsWrong : ChangeSpec := { name := "dirtyHolds", fn := fun _ => fun
  | [d1, d2] => { results := [.lit (.bool false)], args := [d1, d2] }
  | _ => none }
def DirtyHoldsWrongFalsely : Prop := dirtyHoldsRow.holds Tryd.pinned (OpenSpec.ofChange dirtyHoldsWrong)

/- THE SECOND FORM. 'bulk': how many values and letters a reading holds, each counted each time it is reached (what is shared counts as often as it is met; a slice's spare places count too). A statement '..UptoSaid' is the law's where the arguments, and the package variables that the reading takes, are together of bulk at most 1048576: NARROWER than '..Said'. Prove '..Said' where nothing that the law and all that it calls make is longer than what came in: it says more and counts as full. Else prove '..UptoSaid'. A law counts once. -/
mutual
def uptoBulk {H : Type} : DataW H → Nat
  | .lit (.string bytes) => bytes.length + 1
  | .lit _ => 1
  | .nil => 1
  | .ptr d => uptoBulk d + 1
  | .slice elems spare => uptoBulkAll elems + uptoBulkAll spare + 1
  | .agg parts => uptoBulkAll parts + 1
  | .iface _ d => uptoBulk d + 1
  | .map entries => uptoBulkEntries entries + 1
  | .held _ => 1
def uptoBulkAll {H : Type} : List (DataW H) → Nat
  | [] => 0
  | d :: r => uptoBulk d + uptoBulkAll r
def uptoBulkEntries {H : Type} : List (Lit × DataW H) → Nat
  | [] => 0
  | x :: r => uptoBulkEntry x + uptoBulkEntries r
def uptoBulkEntry {H : Type} : Lit × DataW H → Nat
  | (.string bytes, d) => bytes.length + uptoBulk d + 1
  | (_, d) => uptoBulk d + 1
 end
def uptoSmall : (H : Type) → List (DataW H) → Bool := fun _ ds => decide (uptoBulkAll ds ≤ 1048576)
def OpenSpec.upto (s : _root_.Go.ChangeSpec) : _root_.Go.OpenSpec := { _root_.Go.OpenSpec.ofChange s with cond := some uptoSmall }

/-- 'typecaselaw52.DirtyBreaks', WHERE WHAT IT READS IS OF BULK AT MOST 1048576: true; the input reads as it did. -/
def dirtyBreaksUptoRow : OpenClaim := { program := "ytmbgeeiidpllcaadoor", sum := "c4acefc293b77b09f06eaf3a8edd321161d1d8089a511571cc00851142a801cb", func := "typecase/typecaselaw52.DirtyBreaks", spec := "dirtyBreaks", unfollowed := true, recurses := true, named := ["typecase/props.lasts"], apart := false, laid := [("typecase/props.lasts", laid_typecase_props_lasts)], narrowed := true }
def DirtyBreaksUptoSaid : Prop := dirtyBreaksUptoRow.holds Tryd.pinned (OpenSpec.upto dirtyBreaksSpec)

/-- 'typecaselaw52.DirtyHolds', WHERE WHAT IT READS IS OF BULK AT MOST 1048576: true; the input reads as it did. -/
def dirtyHoldsUptoRow : OpenClaim := { program := "ytmbgeeiidpllcaadoor", sum := "c4acefc293b77b09f06eaf3a8edd321161d1d8089a511571cc00851142a801cb", func := "typecase/typecaselaw52.DirtyHolds", spec := "dirtyHolds", unfollowed := true, recurses := true, named := ["typecase/props.lasts"], apart := false, laid := [("typecase/props.lasts", laid_typecase_props_lasts)], narrowed := true }
def DirtyHoldsUptoSaid : Prop := dirtyHoldsUptoRow.holds Tryd.pinned (OpenSpec.upto dirtyHoldsSpec)

end Rows
end Go.Proofs.YtmbgeeiidpllcaaDoor
