/-
  NARROWER THAN 'FOR EVERY INPUT', by the rows' own cells (each row's printed sentence says how): FallbackHas: laid · FallbackPick: laid.
  DERIVED. THE GIVEN ROWS OF THIS SEAT. 2 by the template 'for every input the law returns true; each argument reads behind the call as it read before'; 0 by the template 'total and deterministic' (their statements: YtjbhckbneonfeaaDoorTotals.lean).
  GIVEN WITH THE SEED: the statements are not yours to turn. If you find one false, say at which input.
  Laid BY PROGRAM, IN A SANDBOX (cutbox-rows.mjs): the forced cells as the released guide's own fill.sh prints them over the translation 09e3ffce3a032567… (all of the seat's roots in one cut). By AI agents, Wed Nov 11 2026. No macro, syntax, notation, axiom, sorry.
-/
import Derived.Test.YtjbhckbneonfeaaDoorChecked
import GoSem.Claim
import GoSem.ClaimJoined
import GoSem.ClaimMapViews
import Derived.JoinedTies
import Derived.KernelRfl
namespace Go.Proofs.YtjbhckbneonfeaaDoor
/- THE CELL 'sum', in the pinned program and in every row, IS THE sha256 OF THE DUMP (.gsa) THAT YtjbhckbneonfeaaDoorProg.lean LOADS. Nothing in Lean hashes anything: it is a label: what it is worth is what the hold of that sum in a sandbox is worth. -/
noncomputable def Tryd.pinned : Pinned := { name := "ytjbhckbneonfeaadoor", sum := "09e3ffce3a0325672a428be68af662b3b61043b759d88e8dcd167632ac7614d9", checked := Tryd.checked }
namespace Rows
def none {H : Type} : Left H := { results := [], args := [] }

/- WHAT THE LISTED PACKAGE-LEVEL VARIABLES READ AS WHEN THE CALL BEGINS. Each datum BY PROGRAM (the guide's laid-datum.mjs) off the statement by which the dump's own 'gosem.cut.vars' lays the variable. In a bare row this is a premise. The card (YtjbhckbneonfeaaDoorCards.lean) ties it to the program's text. -/
def laid_typecase_props_lasts {H : Type} : DataW H := .agg [.lit (.int .i32 42), .lit (.int .i32 96), .lit (.int .i32 180), .lit (.int .i32 1023), .lit (.int .i32 1563), .lit (.int .i32 1644), .lit (.int .i32 1749), .lit (.int .i32 3654), .lit (.int .i32 8232), .lit (.int .i32 8383), .lit (.int .i32 12298), .lit (.int .i32 64335), .lit (.int .i32 917999)]

/-- 'typecaselaw23.FallbackHas': WHATEVER THE INPUT: true; the input reads as it did. -/
def fallbackHasSpec : ChangeSpec := { name := "fallbackHas", fn := fun _ => fun
  | [d1, d2] => { results := [.lit (.bool true)], args := [d1, d2] }
  | _ => none }
def fallbackHasRow : OpenClaim := { program := "ytjbhckbneonfeaadoor", sum := "09e3ffce3a0325672a428be68af662b3b61043b759d88e8dcd167632ac7614d9", func := "typecase/typecaselaw23.FallbackHas", spec := "fallbackHas", named := ["typecase/props.lasts"], apart := false, laid := [("typecase/props.lasts", laid_typecase_props_lasts)] }
def FallbackHasSaid : Prop := fallbackHasRow.holds Tryd.pinned (OpenSpec.ofChange fallbackHasSpec)

/-- ITS FALSE NEIGHBOUR: 'it returns false'. Refute it at one input. -/
def fallbackHasWrong : ChangeSpec := { name := "fallbackHas", fn := fun _ => fun
  | [d1, d2] => { results := [.lit (.bool false)], args := [d1, d2] }
  | _ => none }
def FallbackHasWrongFalsely : Prop := fallbackHasRow.holds Tryd.pinned (OpenSpec.ofChange fallbackHasWrong)

/-- 'typecaselaw23.FallbackPick': WHATEVER THE INPUT: true; the input reads as it did. -/
def fallbackPickSpec : ChangeSpec := { name := "fallbackPick", fn := fun _ => fun
  | [d1, d2, d3] => { results := [.lit (.bool true)], args := [d1, d2, d3] }
  | _ => none }
def fallbackPickRow : OpenClaim := { program := "ytjbhckbneonfeaadoor", sum := "09e3ffce3a0325672a428be68af662b3b61043b759d88e8dcd167632ac7614d9", func := "typecase/typecaselaw23.FallbackPick", spec := "fallbackPick", unfollowed := true, recurses := true, named := ["typecase/props.lasts"], apart := false, laid := [("typecase/props.lasts", laid_typecase_props_lasts)] }
def FallbackPickSaid : Prop := fallbackPickRow.holds Tryd.pinned (OpenSpec.ofChange fallbackPickSpec)

/-- ITS FALSE NEIGHBOUR: 'it returns false'. Refute it at one input. -/
def fallbackPickWrong : ChangeSpec := { name := "fallbackPick", fn := fun _ => fun
  | [d1, d2, d3] => { results := [.lit (.bool false)], args := [d1, d2, d3] }
  | _ => none }
def FallbackPickWrongFalsely : Prop := fallbackPickRow.holds Tryd.pinned (OpenSpec.ofChange fallbackPickWrong)

/- THE SECOND FORM. 'bulk': how many values and letters a reading holds, each counted each time it is reached (what is shared counts as often as it is met; a slice's spare places count too). A statement '..UptoSaid' is the law's where the arguments, and the package variables that the reading takes, are together of bulk at most 1048576: NARROWER than '..Said'. Prove '..Said' where nothing that the law and all that it calls make is longer than what came in: it says more and counts as full. Else prove '..UptoSaid'. A law counts once. -/
mutual
def uptoBulk {H : Type} : DataW H → Nat
  | .lit (.string bytes) => bytes.length + 1
  | .lit _ => 1
  | .nil => 1
  | .ptr d => uptoBulk d + 1
  | .slice elems spare => uptoBulkAll elems + uptoBulkAll spare + 1
  | .agg parts => uptoBulkAll parts + 1
  | .iface _ d => uptoBulk d + 1
  | .map entries => uptoBulkEntries entries + 1
  | .held _ => 1
def uptoBulkAll {H : Type} : List (DataW H) → Nat
  | [] => 0
  | d :: r => uptoBulk d + uptoBulkAll r
def uptoBulkEntries {H : Type} : List (Lit × DataW H) → Nat
  | [] => 0
  | x :: r => uptoBulkEntry x + uptoBulkEntries r
def uptoBulkEntry {H : Type} : Lit × DataW H → Nat
  | (.string bytes, d) => bytes.length + uptoBulk d + 1
  | (_, d) => uptoBulk d + 1
 end
def uptoSmall : (H : Type) → List (DataW H) → Bool := fun _ ds => decide (uptoBulkAll ds ≤ 1048576)
def OpenSpec.upto (s : _root_.Go.ChangeSpec) : _root_.Go.OpenSpec := { _root_.Go.OpenSpec.ofChange s with cond := some uptoSmall }

/-- 'typecaselaw23.FallbackHas', WHERE WHAT IT READS IS OF BULK AT MOST 1048576: true; the input reads as it did. -/
def fallbackHasUptoRow : OpenClaim := { program := "ytjbhckbneonfeaadoor", sum := "09e3ffce3a0325672a428be68af662b3b61043b759d88e8dcd167632ac7614d9", func := "typecase/typecaselaw23.FallbackHas", spec := "fallbackHas", named := ["typecase/props.lasts"], apart := false, laid := [("typecase/props.lasts", laid_typecase_props_lasts)], narrowed := true }
def FallbackHasUptoSaid : Prop := fallbackHasUptoRow.holds Tryd.pinned (OpenSpec.upto fallbackHasSpec)

/-- 'typecaselaw23.FallbackPick', WHERE WHAT IT READS IS OF BULK AT MOST 1048576: true; the input reads as it did. -/
def fallbackPickUptoRow : OpenClaim := { program := "ytjbhckbneonfeaadoor", sum := "09e3ffce3a0325672a428be68af662b3b61043b759d88e8dcd167632ac7614d9", func := "typecase/typecaselaw23.FallbackPick", spec := "fallbackPick", unfollowed := true, recurses := true, named := ["typecase/props.lasts"], apart := false, laid := [("typecase/props.lasts", laid_typecase_props_lasts)], narrowed := true }
def FallbackPickUptoSaid : Prop := fallbackPickUptoRow.holds Tryd.pinned (OpenSpec.upto fallbackPickSpec)

end Rows
end Go.Proofs.YtjbhckbneonfeaaDoor
