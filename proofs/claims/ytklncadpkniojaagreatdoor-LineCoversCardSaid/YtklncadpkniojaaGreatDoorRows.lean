/-
  NARROWER THAN 'FOR EVERY INPUT', by the rows' own cells (each row's printed sentence says how): LineCovers: laid.
  DERIVED. THE GIVEN ROWS OF THIS SEAT. 1 by the template 'for every input the law returns true; each argument reads behind the call as it read before'; 0 by the template 'total and deterministic' (their statements: YtklncadpkniojaaGreatDoorTotals.lean).
  GIVEN WITH THE SEED: the statements are not yours to turn. If you find one false, say at which input.
  Laid BY PROGRAM, IN A SANDBOX (cutbox-rows.mjs): the forced cells as the released guide's own fill.sh prints them over the translation 5a576e772b95928f… (all of the seat's roots in one cut). By AI agents, Wed Nov 11 2026. No macro, syntax, notation, axiom, sorry.
-/
import Derived.Test.YtklncadpkniojaaGreatDoorChecked
import GoSem.Claim
import GoSem.ClaimJoined
import GoSem.ClaimMapViews
import Derived.JoinedTies
import Derived.KernelRfl
namespace Go.Proofs.YtklncadpkniojaaGreatDoor
/- THE CELL 'sum', in the pinned program and in every row, IS THE sha256 OF THE DUMP (.gsa) THAT YtklncadpkniojaaGreatDoorProg.lean LOADS. Nothing in Lean hashes anything: it is a label: what it is worth is what the hold of that sum in a sandbox is worth. -/
noncomputable def Tryz.pinned : Pinned := { name := "ytklncadpkniojaagreatdoor", sum := "5a576e772b95928fa6bfdfaf9530b081a7969c010c5f85adb81e9e061c1109a2", checked := Tryz.checked }
namespace Rows
def none {H : Type} : Left H := { results := [], args := [] }

/- WHAT THE LISTED PACKAGE-LEVEL VARIABLES READ AS WHEN THE CALL BEGINS. Each datum BY PROGRAM (the guide's laid-datum.mjs) off the statement by which the dump's own 'gosem.cut.vars' lays the variable. In a bare row this is a premise. The card (YtklncadpkniojaaGreatDoorCards.lean) ties it to the program's text. -/
def laid_typecase_props_lasts {H : Type} : DataW H := .agg [.lit (.int .i32 42), .lit (.int .i32 96), .lit (.int .i32 180), .lit (.int .i32 1023), .lit (.int .i32 1563), .lit (.int .i32 1644), .lit (.int .i32 1749), .lit (.int .i32 3654), .lit (.int .i32 8232), .lit (.int .i32 8383), .lit (.int .i32 12298), .lit (.int .i32 64335), .lit (.int .i32 917999)]

/-- 'typecaselaw45.LineCovers': WHATEVER THE INPUT: true; the input reads as it did. -/
def lineCoversSpec : ChangeSpec := { name := "lineCovers", fn := fun _ => fun
  | [d1, d2, d3, d4, d5] => { results := [.lit (.bool true)], args := [d1, d2, d3, d4, d5] }
  | _ => none }
def lineCoversRow : OpenClaim := { program := "ytklncadpkniojaagreatdoor", sum := "5a576e772b95928fa6bfdfaf9530b081a7969c010c5f85adb81e9e061c1109a2", func := "typecase/typecaselaw45.LineCovers", spec := "lineCovers", unfollowed := true, recurses := true, named := ["typecase/props.lasts", "math/bits.divideError", "math/bits.overflowError"], apart := false, laid := [("typecase/props.lasts", laid_typecase_props_lasts)] }
def LineCoversSaid : Prop := lineCoversRow.holds Tryz.pinned (OpenSpec.ofChange lineCoversSpec)

/-- ITS FALSE NEIGHBOUR: 'it returns false'. Refute it at one input. -/
def lineCoversWrong : ChangeSpec := { name := "lineCovers", fn := fun _ => fun
  | [d1, d2, d3, d4, d5] => { results := [.lit (.bool false)], args := [d1, d2, d3, d4, d5] }
  | _ => none }
def LineCoversWrongFalsely : Prop := lineCoversRow.holds Tryz.pinned (OpenSpec.ofChange lineCoversWrong)

/- THE SECOND FORM. 'bulk': how many values and letters a reading holds, each counted each time it is reached (what is shared counts as often as it is met; a slice's spare places count too). A statement '..UptoSaid' is the law's where the arguments, and the package variables that the reading takes, are together of bulk at most 1048576: NARROWER than '..Said'. Prove '..Said' where nothing that the law and all that it calls make is longer than what came in: it says more and counts as full. Else prove '..UptoSaid'. A law counts once. -/
mutual
def uptoBulk {H : Type} : DataW H → Nat
  | .lit (.string bytes) => bytes.length + 1
  | .lit _ => 1
  | .nil => 1
  | .ptr d => uptoBulk d + 1
  | .slice elems spare => uptoBulkAll elems + uptoBulkAll spare + 1
  | .agg parts => uptoBulkAll parts + 1
  | .iface _ d => uptoBulk d + 1
  | .map entries => uptoBulkEntries entries + 1
  | .held _ => 1
def uptoBulkAll {H : Type} : List (DataW H) → Nat
  | [] => 0
  | d :: r => uptoBulk d + uptoBulkAll r
def uptoBulkEntries {H : Type} : List (Lit × DataW H) → Nat
  | [] => 0
  | x :: r => uptoBulkEntry x + uptoBulkEntries r
def uptoBulkEntry {H : Type} : Lit × DataW H → Nat
  | (.string bytes, d) => bytes.length + uptoBulk d + 1
  | (_, d) => uptoBulk d + 1
 end
def uptoSmall : (H : Type) → List (DataW H) → Bool := fun _ ds => decide (uptoBulkAll ds ≤ 1048576)
def OpenSpec.upto (s : _root_.Go.ChangeSpec) : _root_.Go.OpenSpec := { _root_.Go.OpenSpec.ofChange s with cond := some uptoSmall }

/-- 'typecaselaw45.LineCovers', WHERE WHAT IT READS IS OF BULK AT MOST 1048576: true; the input reads as it did. -/
def lineCoversUptoRow : OpenClaim := { program := "ytklncadpkniojaagreatdoor", sum := "5a576e772b95928fa6bfdfaf9530b081a7969c010c5f85adb81e9e061c1109a2", func := "typecase/typecaselaw45.LineCovers", spec := "lineCovers", unfollowed := true, recurses := true, named := ["typecase/props.lasts", "math/bits.divideError", "math/bits.overflowError"], apart := false, laid := [("typecase/props.lasts", laid_typecase_props_lasts)], narrowed := true }
def LineCoversUptoSaid : Prop := lineCoversUptoRow.holds Tryz.pinned (OpenSpec.upto lineCoversSpec)

end Rows
end Go.Proofs.YtklncadpkniojaaGreatDoor
