/-
  NARROWER THAN 'FOR EVERY INPUT', by the rows' own cells (each row's printed sentence says how): PropsMirrors: laid · PropsTells: laid · PropsBidi: laid · PropsRows: laid · JoiningTells: laid · JoiningWindows: laid · JoiningLocal: laid · JoiningBoth: laid · FallbackNeeds: laid.
  DERIVED. THE GIVEN ROWS OF THIS SEAT. 9 by the template 'for every input the law returns true; each argument reads behind the call as it read before'; 0 by the template 'total and deterministic' (their statements: YtajippjknikciaaDoorTotals.lean).
  GIVEN WITH THE SEED: the statements are not yours to turn. If you find one false, say at which input.
  Laid BY PROGRAM, IN A SANDBOX (cutbox-rows.mjs): the forced cells as the released guide's own fill.sh prints them over the translation 763163e94ffe5728… (all of the seat's roots in one cut). By AI agents, Wed Nov 11 2026. No macro, syntax, notation, axiom, sorry.
-/
import Derived.Test.YtajippjknikciaaDoorChecked
import GoSem.Claim
import GoSem.ClaimJoined
import GoSem.ClaimMapViews
import Derived.JoinedTies
import Derived.KernelRfl
namespace Go.Proofs.YtajippjknikciaaDoor
/- THE CELL 'sum', in the pinned program and in every row, IS THE sha256 OF THE DUMP (.gsa) THAT YtajippjknikciaaDoorProg.lean LOADS. Nothing in Lean hashes anything: it is a label: what it is worth is what the hold of that sum in a sandbox is worth. -/
noncomputable def Tryd.pinned : Pinned := { name := "ytajippjknikciaadoor", sum := "763163e94ffe57284fe7f3fa1bfabfbba605b8a67ae4817054c687957a04004e", checked := Tryd.checked }
namespace Rows
def none {H : Type} : Left H := { results := [], args := [] }

/- WHAT THE LISTED PACKAGE-LEVEL VARIABLES READ AS WHEN THE CALL BEGINS. Each datum BY PROGRAM (the guide's laid-datum.mjs) off the statement by which the dump's own 'gosem.cut.vars' lays the variable. In a bare row this is a premise. The card (YtajippjknikciaaDoorCards.lean) ties it to the program's text. -/
def laid_typecase_props_lasts {H : Type} : DataW H := .agg [.lit (.int .i32 42), .lit (.int .i32 96), .lit (.int .i32 180), .lit (.int .i32 1023), .lit (.int .i32 1563), .lit (.int .i32 1644), .lit (.int .i32 1749), .lit (.int .i32 3654), .lit (.int .i32 8232), .lit (.int .i32 8383), .lit (.int .i32 12298), .lit (.int .i32 64335), .lit (.int .i32 917999)]

/-- 'typecaselaw04.PropsMirrors': WHATEVER THE INPUT: true; the input reads as it did. -/
def propsMirrorsSpec : ChangeSpec := { name := "propsMirrors", fn := fun _ => fun
  | [d] => { results := [.lit (.bool true)], args := [d] }
  | _ => none }
def propsMirrorsRow : OpenClaim := { program := "ytajippjknikciaadoor", sum := "763163e94ffe57284fe7f3fa1bfabfbba605b8a67ae4817054c687957a04004e", func := "typecase/typecaselaw04.PropsMirrors", spec := "propsMirrors", named := ["typecase/props.lasts"], apart := false, laid := [("typecase/props.lasts", laid_typecase_props_lasts)] }
def PropsMirrorsSaid : Prop := propsMirrorsRow.holds Tryd.pinned (OpenSpec.ofChange propsMirrorsSpec)

/-- ITS FALSE NEIGHBOUR: 'it returns false'. Refute it at one input. -/
def propsMirrorsWrong : ChangeSpec := { name := "propsMirrors", fn := fun _ => fun
  | [d] => { results := [.lit (.bool false)], args := [d] }
  | _ => none }
def PropsMirrorsWrongFalsely : Prop := propsMirrorsRow.holds Tryd.pinned (OpenSpec.ofChange propsMirrorsWrong)

/-- 'typecaselaw04.PropsTells': WHATEVER THE INPUT: true; the input reads as it did. -/
def propsTellsSpec : ChangeSpec := { name := "propsTells", fn := fun _ => fun
  | [d1, d2] => { results := [.lit (.bool true)], args := [d1, d2] }
  | _ => none }
def propsTellsRow : OpenClaim := { program := "ytajippjknikciaadoor", sum := "763163e94ffe57284fe7f3fa1bfabfbba605b8a67ae4817054c687957a04004e", func := "typecase/typecaselaw04.PropsTells", spec := "propsTells", named := ["typecase/props.lasts"], apart := false, laid := [("typecase/props.lasts", laid_typecase_props_lasts)] }
def PropsTellsSaid : Prop := propsTellsRow.holds Tryd.pinned (OpenSpec.ofChange propsTellsSpec)

/-- ITS FALSE NEIGHBOUR: 'it returns false'. Refute it at one input. -/
def propsTellsWrong : ChangeSpec := { name := "propsTells", fn := fun _ => fun
  | [d1, d2] => { results := [.lit (.bool false)], args := [d1, d2] }
  | _ => none }
def PropsTellsWrongFalsely : Prop := propsTellsRow.holds Tryd.pinned (OpenSpec.ofChange propsTellsWrong)

/-- 'typecaselaw04.PropsBidi': WHATEVER THE INPUT: true; the input reads as it did. -/
def propsBidiSpec : ChangeSpec := { name := "propsBidi", fn := fun _ => fun
  | [d] => { results := [.lit (.bool true)], args := [d] }
  | _ => none }
def propsBidiRow : OpenClaim := { program := "ytajippjknikciaadoor", sum := "763163e94ffe57284fe7f3fa1bfabfbba605b8a67ae4817054c687957a04004e", func := "typecase/typecaselaw04.PropsBidi", spec := "propsBidi", named := ["typecase/props.lasts"], apart := false, laid := [("typecase/props.lasts", laid_typecase_props_lasts)] }
def PropsBidiSaid : Prop := propsBidiRow.holds Tryd.pinned (OpenSpec.ofChange propsBidiSpec)

/-- ITS FALSE NEIGHBOUR: 'it returns false'. Refute it at one input. -/
def propsBidiWrong : ChangeSpec := { name := "propsBidi", fn := fun _ => fun
  | [d] => { results := [.lit (.bool false)], args := [d] }
  | _ => none }
def PropsBidiWrongFalsely : Prop := propsBidiRow.holds Tryd.pinned (OpenSpec.ofChange propsBidiWrong)

/-- 'typecaselaw04.PropsRows': WHATEVER THE INPUT: true; the input reads as it did. -/
def propsRowsSpec : ChangeSpec := { name := "propsRows", fn := fun _ => fun
  | [d] => { results := [.lit (.bool true)], args := [d] }
  | _ => none }
def propsRowsRow : OpenClaim := { program := "ytajippjknikciaadoor", sum := "763163e94ffe57284fe7f3fa1bfabfbba605b8a67ae4817054c687957a04004e", func := "typecase/typecaselaw04.PropsRows", spec := "propsRows", named := ["typecase/props.lasts"], apart := false, laid := [("typecase/props.lasts", laid_typecase_props_lasts)] }
def PropsRowsSaid : Prop := propsRowsRow.holds Tryd.pinned (OpenSpec.ofChange propsRowsSpec)

/-- ITS FALSE NEIGHBOUR: 'it returns false'. Refute it at one input. -/
def propsRowsWrong : ChangeSpec := { name := "propsRows", fn := fun _ => fun
  | [d] => { results := [.lit (.bool false)], args := [d] }
  | _ => none }
def PropsRowsWrongFalsely : Prop := propsRowsRow.holds Tryd.pinned (OpenSpec.ofChange propsRowsWrong)

/-- 'typecaselaw36.JoiningTells': WHATEVER THE INPUT: true; the input reads as it did. -/
def joiningTellsSpec : ChangeSpec := { name := "joiningTells", fn := fun _ => fun
  | [d1, d2] => { results := [.lit (.bool true)], args := [d1, d2] }
  | _ => none }
def joiningTellsRow : OpenClaim := { program := "ytajippjknikciaadoor", sum := "763163e94ffe57284fe7f3fa1bfabfbba605b8a67ae4817054c687957a04004e", func := "typecase/typecaselaw36.JoiningTells", spec := "joiningTells", named := ["typecase/props.lasts"], apart := false, laid := [("typecase/props.lasts", laid_typecase_props_lasts)] }
def JoiningTellsSaid : Prop := joiningTellsRow.holds Tryd.pinned (OpenSpec.ofChange joiningTellsSpec)

/-- ITS FALSE NEIGHBOUR: 'it returns false'. Refute it at one input. -/
def joiningTellsWrong : ChangeSpec := { name := "joiningTells", fn := fun _ => fun
  | [d1, d2] => { results := [.lit (.bool false)], args := [d1, d2] }
  | _ => none }
def JoiningTellsWrongFalsely : Prop := joiningTellsRow.holds Tryd.pinned (OpenSpec.ofChange joiningTellsWrong)

/-- 'typecaselaw36.JoiningWindows': WHATEVER THE INPUT: true; the input reads as it did. -/
def joiningWindowsSpec : ChangeSpec := { name := "joiningWindows", fn := fun _ => fun
  | [d1, d2, d3] => { results := [.lit (.bool true)], args := [d1, d2, d3] }
  | _ => none }
def joiningWindowsRow : OpenClaim := { program := "ytajippjknikciaadoor", sum := "763163e94ffe57284fe7f3fa1bfabfbba605b8a67ae4817054c687957a04004e", func := "typecase/typecaselaw36.JoiningWindows", spec := "joiningWindows", named := ["typecase/props.lasts"], apart := false, laid := [("typecase/props.lasts", laid_typecase_props_lasts)] }
def JoiningWindowsSaid : Prop := joiningWindowsRow.holds Tryd.pinned (OpenSpec.ofChange joiningWindowsSpec)

/-- ITS FALSE NEIGHBOUR: 'it returns false'. Refute it at one input. -/
def joiningWindowsWrong : ChangeSpec := { name := "joiningWindows", fn := fun _ => fun
  | [d1, d2, d3] => { results := [.lit (.bool false)], args := [d1, d2, d3] }
  | _ => none }
def JoiningWindowsWrongFalsely : Prop := joiningWindowsRow.holds Tryd.pinned (OpenSpec.ofChange joiningWindowsWrong)

/-- 'typecaselaw36.JoiningLocal': WHATEVER THE INPUT: true; the input reads as it did. -/
def joiningLocalSpec : ChangeSpec := { name := "joiningLocal", fn := fun _ => fun
  | [d1, d2, d3] => { results := [.lit (.bool true)], args := [d1, d2, d3] }
  | _ => none }
def joiningLocalRow : OpenClaim := { program := "ytajippjknikciaadoor", sum := "763163e94ffe57284fe7f3fa1bfabfbba605b8a67ae4817054c687957a04004e", func := "typecase/typecaselaw36.JoiningLocal", spec := "joiningLocal", named := ["typecase/props.lasts"], apart := false, laid := [("typecase/props.lasts", laid_typecase_props_lasts)] }
def JoiningLocalSaid : Prop := joiningLocalRow.holds Tryd.pinned (OpenSpec.ofChange joiningLocalSpec)

/-- ITS FALSE NEIGHBOUR: 'it returns false'. Refute it at one input. -/
def joiningLocalWrong : ChangeSpec := { name := "joiningLocal", fn := fun _ => fun
  | [d1, d2, d3] => { results := [.lit (.bool false)], args := [d1, d2, d3] }
  | _ => none }
def JoiningLocalWrongFalsely : Prop := joiningLocalRow.holds Tryd.pinned (OpenSpec.ofChange joiningLocalWrong)

/-- 'typecaselaw36.JoiningBoth': WHATEVER THE INPUT: true; the input reads as it did. -/
def joiningBothSpec : ChangeSpec := { name := "joiningBoth", fn := fun _ => fun
  | [d] => { results := [.lit (.bool true)], args := [d] }
  | _ => none }
def joiningBothRow : OpenClaim := { program := "ytajippjknikciaadoor", sum := "763163e94ffe57284fe7f3fa1bfabfbba605b8a67ae4817054c687957a04004e", func := "typecase/typecaselaw36.JoiningBoth", spec := "joiningBoth", named := ["typecase/props.lasts"], apart := false, laid := [("typecase/props.lasts", laid_typecase_props_lasts)] }
def JoiningBothSaid : Prop := joiningBothRow.holds Tryd.pinned (OpenSpec.ofChange joiningBothSpec)

/-- ITS FALSE NEIGHBOUR: 'it returns false'. Refute it at one input. -/
def joiningBothWrong : ChangeSpec := { name := "joiningBoth", fn := fun _ => fun
  | [d] => { results := [.lit (.bool false)], args := [d] }
  | _ => none }
def JoiningBothWrongFalsely : Prop := joiningBothRow.holds Tryd.pinned (OpenSpec.ofChange joiningBothWrong)

/-- 'typecaselaw23.FallbackNeeds': WHATEVER THE INPUT: true; the input reads as it did. -/
def fallbackNeedsSpec : ChangeSpec := { name := "fallbackNeeds", fn := fun _ => fun
  | [d] => { results := [.lit (.bool true)], args := [d] }
  | _ => none }
def fallbackNeedsRow : OpenClaim := { program := "ytajippjknikciaadoor", sum := "763163e94ffe57284fe7f3fa1bfabfbba605b8a67ae4817054c687957a04004e", func := "typecase/typecaselaw23.FallbackNeeds", spec := "fallbackNeeds", named := ["typecase/props.lasts"], apart := false, laid := [("typecase/props.lasts", laid_typecase_props_lasts)] }
def FallbackNeedsSaid : Prop := fallbackNeedsRow.holds Tryd.pinned (OpenSpec.ofChange fallbackNeedsSpec)

/-- ITS FALSE NEIGHBOUR: 'it returns false'. Refute it at one input. -/
def fallbackNeedsWrong : ChangeSpec := { name := "fallbackNeeds", fn := fun _ => fun
  | [d] => { results := [.lit (.bool false)], args := [d] }
  | _ => none }
def FallbackNeedsWrongFalsely : Prop := fallbackNeedsRow.holds Tryd.pinned (OpenSpec.ofChange fallbackNeedsWrong)

/- THE SECOND FORM. 'bulk': how many values and letters a reading holds, each counted each time it is reached (what is shared counts as often as it is met; a slice's spare places count too). A statement '..UptoSaid' is the law's where the arguments, and the package variables that the reading takes, are together of bulk at most 1048576: NARROWER than '..Said'. Prove '..Said' where nothing that the law and all that it calls make is longer than what came in: it says more and counts as full. Else prove '..UptoSaid'. A law counts once. -/
mutual
def uptoBulk {H : Type} : DataW H → Nat
  | .lit (.string bytes) => bytes.length + 1
  | .lit _ => 1
  | .nil => 1
  | .ptr d => uptoBulk d + 1
  | .slice elems spare => uptoBulkAll elems + uptoBulkAll spare + 1
  | .agg parts => uptoBulkAll parts + 1
  | .iface _ d => uptoBulk d + 1
  | .map entries => uptoBulkEntries entries + 1
  | .held _ => 1
def uptoBulkAll {H : Type} : List (DataW H) → Nat
  | [] => 0
  | d :: r => uptoBulk d + uptoBulkAll r
def uptoBulkEntries {H : Type} : List (Lit × DataW H) → Nat
  | [] => 0
  | x :: r => uptoBulkEntry x + uptoBulkEntries r
def uptoBulkEntry {H : Type} : Lit × DataW H → Nat
  | (.string bytes, d) => bytes.length + uptoBulk d + 1
  | (_, d) => uptoBulk d + 1
 end
def uptoSmall : (H : Type) → List (DataW H) → Bool := fun _ ds => decide (uptoBulkAll ds ≤ 1048576)
def OpenSpec.upto (s : _root_.Go.ChangeSpec) : _root_.Go.OpenSpec := { _root_.Go.OpenSpec.ofChange s with cond := some uptoSmall }

/-- 'typecaselaw04.PropsMirrors', WHERE WHAT IT READS IS OF BULK AT MOST 1048576: true; the input reads as it did. -/
def propsMirrorsUptoRow : OpenClaim := { program := "ytajippjknikciaadoor", sum := "763163e94ffe57284fe7f3fa1bfabfbba605b8a67ae4817054c687957a04004e", func := "typecase/typecaselaw04.PropsMirrors", spec := "propsMirrors", named := ["typecase/props.lasts"], apart := false, laid := [("typecase/props.lasts", laid_typecase_props_lasts)], narrowed := true }
def PropsMirrorsUptoSaid : Prop := propsMirrorsUptoRow.holds Tryd.pinned (OpenSpec.upto propsMirrorsSpec)

/-- 'typecaselaw04.PropsTells', WHERE WHAT IT READS IS OF BULK AT MOST 1048576: true; the input reads as it did. -/
def propsTellsUptoRow : OpenClaim := { program := "ytajippjknikciaadoor", sum := "763163e94ffe57284fe7f3fa1bfabfbba605b8a67ae4817054c687957a04004e", func := "typecase/typecaselaw04.PropsTells", spec := "propsTells", named := ["typecase/props.lasts"], apart := false, laid := [("typecase/props.lasts", laid_typecase_props_lasts)], narrowed := true }
def PropsTellsUptoSaid : Prop := propsTellsUptoRow.holds Tryd.pinned (OpenSpec.upto propsTellsSpec)

/-- 'typecaselaw04.PropsBidi', WHERE WHAT IT READS IS OF BULK AT MOST 1048576: true; the input reads as it did. -/
def propsBidiUptoRow : OpenClaim := { program := "ytajippjknikciaadoor", sum := "763163e94ffe57284fe7f3fa1bfabfbba605b8a67ae4817054c687957a04004e", func := "typecase/typecaselaw04.PropsBidi", spec := "propsBidi", named := ["typecase/props.lasts"], apart := false, laid := [("typecase/props.lasts", laid_typecase_props_lasts)], narrowed := true }
def PropsBidiUptoSaid : Prop := propsBidiUptoRow.holds Tryd.pinned (OpenSpec.upto propsBidiSpec)

/-- 'typecaselaw04.PropsRows', WHERE WHAT IT READS IS OF BULK AT MOST 1048576: true; the input reads as it did. -/
def propsRowsUptoRow : OpenClaim := { program := "ytajippjknikciaadoor", sum := "763163e94ffe57284fe7f3fa1bfabfbba605b8a67ae4817054c687957a04004e", func := "typecase/typecaselaw04.PropsRows", spec := "propsRows", named := ["typecase/props.lasts"], apart := false, laid := [("typecase/props.lasts", laid_typecase_props_lasts)], narrowed := true }
def PropsRowsUptoSaid : Prop := propsRowsUptoRow.holds Tryd.pinned (OpenSpec.upto propsRowsSpec)

/-- 'typecaselaw36.JoiningTells', WHERE WHAT IT READS IS OF BULK AT MOST 1048576: true; the input reads as it did. -/
def joiningTellsUptoRow : OpenClaim := { program := "ytajippjknikciaadoor", sum := "763163e94ffe57284fe7f3fa1bfabfbba605b8a67ae4817054c687957a04004e", func := "typecase/typecaselaw36.JoiningTells", spec := "joiningTells", named := ["typecase/props.lasts"], apart := false, laid := [("typecase/props.lasts", laid_typecase_props_lasts)], narrowed := true }
def JoiningTellsUptoSaid : Prop := joiningTellsUptoRow.holds Tryd.pinned (OpenSpec.upto joiningTellsSpec)

/-- 'typecaselaw36.JoiningWindows', WHERE WHAT IT READS IS OF BULK AT MOST 1048576: true; the input reads as it did. -/
def joiningWindowsUptoRow : OpenClaim := { program := "ytajippjknikciaadoor", sum := "763163e94ffe57284fe7f3fa1bfabfbba605b8a67ae4817054c687957a04004e", func := "typecase/typecaselaw36.JoiningWindows", spec := "joiningWindows", named := ["typecase/props.lasts"], apart := false, laid := [("typecase/props.lasts", laid_typecase_props_lasts)], narrowed := true }
def JoiningWindowsUptoSaid : Prop := joiningWindowsUptoRow.holds Tryd.pinned (OpenSpec.upto joiningWindowsSpec)

/-- 'typecaselaw36.JoiningLocal', WHERE WHAT IT READS IS OF BULK AT MOST 1048576: true; the input reads as it did. -/
def joiningLocalUptoRow : OpenClaim := { program := "ytajippjknikciaadoor", sum := "763163e94ffe57284fe7f3fa1bfabfbba605b8a67ae4817054c687957a04004e", func := "typecase/typecaselaw36.JoiningLocal", spec := "joiningLocal", named := ["typecase/props.lasts"], apart := false, laid := [("typecase/props.lasts", laid_typecase_props_lasts)], narrowed := true }
def JoiningLocalUptoSaid : Prop := joiningLocalUptoRow.holds Tryd.pinned (OpenSpec.upto joiningLocalSpec)

/-- 'typecaselaw36.JoiningBoth', WHERE WHAT IT READS IS OF BULK AT MOST 1048576: true; the input reads as it did. -/
def joiningBothUptoRow : OpenClaim := { program := "ytajippjknikciaadoor", sum := "763163e94ffe57284fe7f3fa1bfabfbba605b8a67ae4817054c687957a04004e", func := "typecase/typecaselaw36.JoiningBoth", spec := "joiningBoth", named := ["typecase/props.lasts"], apart := false, laid := [("typecase/props.lasts", laid_typecase_props_lasts)], narrowed := true }
def JoiningBothUptoSaid : Prop := joiningBothUptoRow.holds Tryd.pinned (OpenSpec.upto joiningBothSpec)

/-- 'typecaselaw23.FallbackNeeds', WHERE WHAT IT READS IS OF BULK AT MOST 1048576: true; the input reads as it did. -/
def fallbackNeedsUptoRow : OpenClaim := { program := "ytajippjknikciaadoor", sum := "763163e94ffe57284fe7f3fa1bfabfbba605b8a67ae4817054c687957a04004e", func := "typecase/typecaselaw23.FallbackNeeds", spec := "fallbackNeeds", named := ["typecase/props.lasts"], apart := false, laid := [("typecase/props.lasts", laid_typecase_props_lasts)], narrowed := true }
def FallbackNeedsUptoSaid : Prop := fallbackNeedsUptoRow.holds Tryd.pinned (OpenSpec.upto fallbackNeedsSpec)

end Rows
end Go.Proofs.YtajippjknikciaaDoor
