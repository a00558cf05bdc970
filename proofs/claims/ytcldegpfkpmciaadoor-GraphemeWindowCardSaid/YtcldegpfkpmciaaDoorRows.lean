/-
  NARROWER THAN 'FOR EVERY INPUT', by the rows' own cells (each row's printed sentence says how): GraphemeCuts: laid · GraphemeWindow: laid · GraphemeAlone: laid · GraphemeSteps: laid · GraphemeCovers: laid · WordsKinds: laid · WordsWhole: laid · WordsBounds: laid · WordsAround: laid · WordsCover: laid · DirtyClusters: laid.
  DERIVED. THE GIVEN ROWS OF THIS SEAT. 11 by the template 'for every input the law returns true; each argument reads behind the call as it read before'; 0 by the template 'total and deterministic' (their statements: YtcldegpfkpmciaaDoorTotals.lean).
  GIVEN WITH THE SEED: the statements are not yours to turn. If you find one false, say at which input.
  Laid BY PROGRAM, IN A SANDBOX (cutbox-rows.mjs): the forced cells as the released guide's own fill.sh prints them over the translation 1616fdc763a7284a… (all of the seat's roots in one cut). By AI agents, Wed Nov 11 2026. No macro, syntax, notation, axiom, sorry.
-/
import Derived.Test.YtcldegpfkpmciaaDoorChecked
import GoSem.Claim
import GoSem.ClaimJoined
import GoSem.ClaimMapViews
import Derived.JoinedTies
import Derived.KernelRfl
namespace Go.Proofs.YtcldegpfkpmciaaDoor
/- THE CELL 'sum', in the pinned program and in every row, IS THE sha256 OF THE DUMP (.gsa) THAT YtcldegpfkpmciaaDoorProg.lean LOADS. Nothing in Lean hashes anything: it is a label: what it is worth is what the hold of that sum in a sandbox is worth. -/
noncomputable def Tryd.pinned : Pinned := { name := "ytcldegpfkpmciaadoor", sum := "1616fdc763a7284aacb40374b47622f34c5608a86fcc7a5645ae94905a7fd1a8", checked := Tryd.checked }
namespace Rows
def none {H : Type} : Left H := { results := [], args := [] }

/- WHAT THE LISTED PACKAGE-LEVEL VARIABLES READ AS WHEN THE CALL BEGINS. Each datum BY PROGRAM (the guide's laid-datum.mjs) off the statement by which the dump's own 'gosem.cut.vars' lays the variable. In a bare row this is a premise. The card (YtcldegpfkpmciaaDoorCards.lean) ties it to the program's text. -/
def laid_typecase_props_lasts {H : Type} : DataW H := .agg [.lit (.int .i32 42), .lit (.int .i32 96), .lit (.int .i32 180), .lit (.int .i32 1023), .lit (.int .i32 1563), .lit (.int .i32 1644), .lit (.int .i32 1749), .lit (.int .i32 3654), .lit (.int .i32 8232), .lit (.int .i32 8383), .lit (.int .i32 12298), .lit (.int .i32 64335), .lit (.int .i32 917999)]

/-- 'typecaselaw07.GraphemeCuts': WHATEVER THE INPUT: true; the input reads as it did. -/
def graphemeCutsSpec : ChangeSpec := { name := "graphemeCuts", fn := fun _ => fun
  | [d] => { results := [.lit (.bool true)], args := [d] }
  | _ => none }
def graphemeCutsRow : OpenClaim := { program := "ytcldegpfkpmciaadoor", sum := "1616fdc763a7284aacb40374b47622f34c5608a86fcc7a5645ae94905a7fd1a8", func := "typecase/typecaselaw07.GraphemeCuts", spec := "graphemeCuts", named := ["typecase/props.lasts"], apart := false, laid := [("typecase/props.lasts", laid_typecase_props_lasts)] }
def GraphemeCutsSaid : Prop := graphemeCutsRow.holds Tryd.pinned (OpenSpec.ofChange graphemeCutsSpec)

/-- ITS FALSE NEIGHBOUR: 'it returns false'. Refute it at one input. -/
def graphemeCutsWrong : ChangeSpec := { name := "graphemeCuts", fn := fun _ => fun
  | [d] => { results := [.lit (.bool false)], args := [d] }
  | _ => none }
def GraphemeCutsWrongFalsely : Prop := graphemeCutsRow.holds Tryd.pinned (OpenSpec.ofChange graphemeCutsWrong)

/-- 'typecaselaw07.GraphemeWindow': WHATEVER THE INPUT: true; the input reads as it did. -/
def graphemeWindowSpec : ChangeSpec := { name := "graphemeWindow", fn := fun _ => fun
  | [d1, d2, d3, d4] => { results := [.lit (.bool true)], args := [d1, d2, d3, d4] }
  | _ => none }
def graphemeWindowRow : OpenClaim := { program := "ytcldegpfkpmciaadoor", sum := "1616fdc763a7284aacb40374b47622f34c5608a86fcc7a5645ae94905a7fd1a8", func := "typecase/typecaselaw07.GraphemeWindow", spec := "graphemeWindow", named := ["typecase/props.lasts"], apart := false, laid := [("typecase/props.lasts", laid_typecase_props_lasts)] }
def GraphemeWindowSaid : Prop := graphemeWindowRow.holds Tryd.pinned (OpenSpec.ofChange graphemeWindowSpec)

/-- ITS FALSE NEIGHBOUR: 'it returns false'. Refute it at one input. -/
def graphemeWindowWrong : ChangeSpec := { name := "graphemeWindow", fn := fun _ => fun
  | [d1, d2, d3, d4] => { results := [.lit (.bool false)], args := [d1, d2, d3, d4] }
  | _ => none }
def GraphemeWindowWrongFalsely : Prop := graphemeWindowRow.holds Tryd.pinned (OpenSpec.ofChange graphemeWindowWrong)

/-- 'typecaselaw07.GraphemeAlone': WHATEVER THE INPUT: true; the input reads as it did. -/
def graphemeAloneSpec : ChangeSpec := { name := "graphemeAlone", fn := fun _ => fun
  | [d] => { results := [.lit (.bool true)], args := [d] }
  | _ => none }
def graphemeAloneRow : OpenClaim := { program := "ytcldegpfkpmciaadoor", sum := "1616fdc763a7284aacb40374b47622f34c5608a86fcc7a5645ae94905a7fd1a8", func := "typecase/typecaselaw07.GraphemeAlone", spec := "graphemeAlone", named := ["typecase/props.lasts"], apart := false, laid := [("typecase/props.lasts", laid_typecase_props_lasts)] }
def GraphemeAloneSaid : Prop := graphemeAloneRow.holds Tryd.pinned (OpenSpec.ofChange graphemeAloneSpec)

/-- ITS FALSE NEIGHBOUR: 'it returns false'. Refute it at one input. -/
def graphemeAloneWrong : ChangeSpec := { name := "graphemeAlone", fn := fun _ => fun
  | [d] => { results := [.lit (.bool false)], args := [d] }
  | _ => none }
def GraphemeAloneWrongFalsely : Prop := graphemeAloneRow.holds Tryd.pinned (OpenSpec.ofChange graphemeAloneWrong)

/-- 'typecaselaw07.GraphemeSteps': WHATEVER THE INPUT: true; the input reads as it did. -/
def graphemeStepsSpec : ChangeSpec := { name := "graphemeSteps", fn := fun _ => fun
  | [d1, d2] => { results := [.lit (.bool true)], args := [d1, d2] }
  | _ => none }
def graphemeStepsRow : OpenClaim := { program := "ytcldegpfkpmciaadoor", sum := "1616fdc763a7284aacb40374b47622f34c5608a86fcc7a5645ae94905a7fd1a8", func := "typecase/typecaselaw07.GraphemeSteps", spec := "graphemeSteps", named := ["typecase/props.lasts"], apart := false, laid := [("typecase/props.lasts", laid_typecase_props_lasts)] }
def GraphemeStepsSaid : Prop := graphemeStepsRow.holds Tryd.pinned (OpenSpec.ofChange graphemeStepsSpec)

/-- ITS FALSE NEIGHBOUR: 'it returns false'. Refute it at one input. -/
def graphemeStepsWrong : ChangeSpec := { name := "graphemeSteps", fn := fun _ => fun
  | [d1, d2] => { results := [.lit (.bool false)], args := [d1, d2] }
  | _ => none }
def GraphemeStepsWrongFalsely : Prop := graphemeStepsRow.holds Tryd.pinned (OpenSpec.ofChange graphemeStepsWrong)

/-- 'typecaselaw07.GraphemeCovers': WHATEVER THE INPUT: true; the input reads as it did. -/
def graphemeCoversSpec : ChangeSpec := { name := "graphemeCovers", fn := fun _ => fun
  | [d] => { results := [.lit (.bool true)], args := [d] }
  | _ => none }
def graphemeCoversRow : OpenClaim := { program := "ytcldegpfkpmciaadoor", sum := "1616fdc763a7284aacb40374b47622f34c5608a86fcc7a5645ae94905a7fd1a8", func := "typecase/typecaselaw07.GraphemeCovers", spec := "graphemeCovers", named := ["typecase/props.lasts"], apart := false, laid := [("typecase/props.lasts", laid_typecase_props_lasts)] }
def GraphemeCoversSaid : Prop := graphemeCoversRow.holds Tryd.pinned (OpenSpec.ofChange graphemeCoversSpec)

/-- ITS FALSE NEIGHBOUR: 'it returns false'. Refute it at one input. -/
def graphemeCoversWrong : ChangeSpec := { name := "graphemeCovers", fn := fun _ => fun
  | [d] => { results := [.lit (.bool false)], args := [d] }
  | _ => none }
def GraphemeCoversWrongFalsely : Prop := graphemeCoversRow.holds Tryd.pinned (OpenSpec.ofChange graphemeCoversWrong)

/-- 'typecaselaw08.WordsKinds': WHATEVER THE INPUT: true; the input reads as it did. -/
def wordsKindsSpec : ChangeSpec := { name := "wordsKinds", fn := fun _ => fun
  | [d1, d2] => { results := [.lit (.bool true)], args := [d1, d2] }
  | _ => none }
def wordsKindsRow : OpenClaim := { program := "ytcldegpfkpmciaadoor", sum := "1616fdc763a7284aacb40374b47622f34c5608a86fcc7a5645ae94905a7fd1a8", func := "typecase/typecaselaw08.WordsKinds", spec := "wordsKinds", named := ["typecase/props.lasts"], apart := false, laid := [("typecase/props.lasts", laid_typecase_props_lasts)] }
def WordsKindsSaid : Prop := wordsKindsRow.holds Tryd.pinned (OpenSpec.ofChange wordsKindsSpec)

/-- ITS FALSE NEIGHBOUR: 'it returns false'. Refute it at one input. -/
def wordsKindsWrong : ChangeSpec := { name := "wordsKinds", fn := fun _ => fun
  | [d1, d2] => { results := [.lit (.bool false)], args := [d1, d2] }
  | _ => none }
def WordsKindsWrongFalsely : Prop := wordsKindsRow.holds Tryd.pinned (OpenSpec.ofChange wordsKindsWrong)

/-- 'typecaselaw08.WordsWhole': WHATEVER THE INPUT: true; the input reads as it did. -/
def wordsWholeSpec : ChangeSpec := { name := "wordsWhole", fn := fun _ => fun
  | [d1, d2] => { results := [.lit (.bool true)], args := [d1, d2] }
  | _ => none }
def wordsWholeRow : OpenClaim := { program := "ytcldegpfkpmciaadoor", sum := "1616fdc763a7284aacb40374b47622f34c5608a86fcc7a5645ae94905a7fd1a8", func := "typecase/typecaselaw08.WordsWhole", spec := "wordsWhole", named := ["typecase/props.lasts"], apart := false, laid := [("typecase/props.lasts", laid_typecase_props_lasts)] }
def WordsWholeSaid : Prop := wordsWholeRow.holds Tryd.pinned (OpenSpec.ofChange wordsWholeSpec)

/-- ITS FALSE NEIGHBOUR: 'it returns false'. Refute it at one input. -/
def wordsWholeWrong : ChangeSpec := { name := "wordsWhole", fn := fun _ => fun
  | [d1, d2] => { results := [.lit (.bool false)], args := [d1, d2] }
  | _ => none }
def WordsWholeWrongFalsely : Prop := wordsWholeRow.holds Tryd.pinned (OpenSpec.ofChange wordsWholeWrong)

/-- 'typecaselaw08.WordsBounds': WHATEVER THE INPUT: true; the input reads as it did. -/
def wordsBoundsSpec : ChangeSpec := { name := "wordsBounds", fn := fun _ => fun
  | [d1, d2] => { results := [.lit (.bool true)], args := [d1, d2] }
  | _ => none }
def wordsBoundsRow : OpenClaim := { program := "ytcldegpfkpmciaadoor", sum := "1616fdc763a7284aacb40374b47622f34c5608a86fcc7a5645ae94905a7fd1a8", func := "typecase/typecaselaw08.WordsBounds", spec := "wordsBounds", named := ["typecase/props.lasts"], apart := false, laid := [("typecase/props.lasts", laid_typecase_props_lasts)] }
def WordsBoundsSaid : Prop := wordsBoundsRow.holds Tryd.pinned (OpenSpec.ofChange wordsBoundsSpec)

/-- ITS FALSE NEIGHBOUR: 'it returns false'. Refute it at one input. -/
def wordsBoundsWrong : ChangeSpec := { name := "wordsBounds", fn := fun _ => fun
  | [d1, d2] => { results := [.lit (.bool false)], args := [d1, d2] }
  | _ => none }
def WordsBoundsWrongFalsely : Prop := wordsBoundsRow.holds Tryd.pinned (OpenSpec.ofChange wordsBoundsWrong)

/-- 'typecaselaw08.WordsAround': WHATEVER THE INPUT: true; the input reads as it did. -/
def wordsAroundSpec : ChangeSpec := { name := "wordsAround", fn := fun _ => fun
  | [d1, d2] => { results := [.lit (.bool true)], args := [d1, d2] }
  | _ => none }
def wordsAroundRow : OpenClaim := { program := "ytcldegpfkpmciaadoor", sum := "1616fdc763a7284aacb40374b47622f34c5608a86fcc7a5645ae94905a7fd1a8", func := "typecase/typecaselaw08.WordsAround", spec := "wordsAround", named := ["typecase/props.lasts"], apart := false, laid := [("typecase/props.lasts", laid_typecase_props_lasts)] }
def WordsAroundSaid : Prop := wordsAroundRow.holds Tryd.pinned (OpenSpec.ofChange wordsAroundSpec)

/-- ITS FALSE NEIGHBOUR: 'it returns false'. Refute it at one input. -/
def wordsAroundWrong : ChangeSpec := { name := "wordsAround", fn := fun _ => fun
  | [d1, d2] => { results := [.lit (.bool false)], args := [d1, d2] }
  | _ => none }
def WordsAroundWrongFalsely : Prop := wordsAroundRow.holds Tryd.pinned (OpenSpec.ofChange wordsAroundWrong)

/-- 'typecaselaw08.WordsCover': WHATEVER THE INPUT: true; the input reads as it did. -/
def wordsCoverSpec : ChangeSpec := { name := "wordsCover", fn := fun _ => fun
  | [d] => { results := [.lit (.bool true)], args := [d] }
  | _ => none }
def wordsCoverRow : OpenClaim := { program := "ytcldegpfkpmciaadoor", sum := "1616fdc763a7284aacb40374b47622f34c5608a86fcc7a5645ae94905a7fd1a8", func := "typecase/typecaselaw08.WordsCover", spec := "wordsCover", named := ["typecase/props.lasts"], apart := false, laid := [("typecase/props.lasts", laid_typecase_props_lasts)] }
def WordsCoverSaid : Prop := wordsCoverRow.holds Tryd.pinned (OpenSpec.ofChange wordsCoverSpec)

/-- ITS FALSE NEIGHBOUR: 'it returns false'. Refute it at one input. -/
def wordsCoverWrong : ChangeSpec := { name := "wordsCover", fn := fun _ => fun
  | [d] => { results := [.lit (.bool false)], args := [d] }
  | _ => none }
def WordsCoverWrongFalsely : Prop := wordsCoverRow.holds Tryd.pinned (OpenSpec.ofChange wordsCoverWrong)

/-- 'typecaselaw52.DirtyClusters': WHATEVER THE INPUT: true; the input reads as it did. -/
def dirtyClustersSpec : ChangeSpec := { name := "dirtyClusters", fn := fun _ => fun
  | [d1, d2] => { results := [.lit (.bool true)], args := [d1, d2] }
  | _ => none }
def dirtyClustersRow : OpenClaim := { program := "ytcldegpfkpmciaadoor", sum := "1616fdc763a7284aacb40374b47622f34c5608a86fcc7a5645ae94905a7fd1a8", func := "typecase/typecaselaw52.DirtyClusters", spec := "dirtyClusters", unfollowed := true, recurses := true, named := ["typecase/props.lasts"], apart := false, laid := [("typecase/props.lasts", laid_typecase_props_lasts)] }
def DirtyClustersSaid : Prop := dirtyClustersRow.holds Tryd.pinned (OpenSpec.ofChange dirtyClustersSpec)

/-- ITS FALSE NEIGHBOUR: 'it returns false'. Refute it at one input. -/
def dirtyClustersWrong : ChangeSpec := { name := "dirtyClusters", fn := fun _ => fun
  | [d1, d2] => { results := [.lit (.bool false)], args := [d1, d2] }
  | _ => none }
def DirtyClustersWrongFalsely : Prop := dirtyClustersRow.holds Tryd.pinned (OpenSpec.ofChange dirtyClustersWrong)

/- THE SECOND FORM. 'bulk': how many values and letters a reading holds, each counted each time it is reached (what is shared counts as often as it is met; a slice's spare places count too). A statement '..UptoSaid' is the law's where the arguments, and the package variables that the reading takes, are together of bulk at most 1048576: NARROWER than '..Said'. Prove '..Said' where nothing that the law and all that it calls make is longer than what came in: it says more and counts as full. Else prove '..UptoSaid'. A law counts once. -/
mutual
def uptoBulk {H : Type} : DataW H → Nat
  | .lit (.string bytes) => bytes.length + 1
  | .lit _ => 1
  | .nil => 1
  | .ptr d => uptoBulk d + 1
  | .slice elems spare => uptoBulkAll elems + uptoBulkAll spare + 1
  | .agg parts => uptoBulkAll parts + 1
  | .iface _ d => uptoBulk d + 1
  | .map entries => uptoBulkEntries entries + 1
  | .held _ => 1
def uptoBulkAll {H : Type} : List (DataW H) → Nat
  | [] => 0
  | d :: r => uptoBulk d + uptoBulkAll r
def uptoBulkEntries {H : Type} : List (Lit × DataW H) → Nat
  | [] => 0
  | x :: r => uptoBulkEntry x + uptoBulkEntries r
def uptoBulkEntry {H : Type} : Lit × DataW H → Nat
  | (.string bytes, d) => bytes.length + uptoBulk d + 1
  | (_, d) => uptoBulk d + 1
 end
def uptoSmall : (H : Type) → List (DataW H) → Bool := fun _ ds => decide (uptoBulkAll ds ≤ 1048576)
def OpenSpec.upto (s : _root_.Go.ChangeSpec) : _root_.Go.OpenSpec := { _root_.Go.OpenSpec.ofChange s with cond := some uptoSmall }

/-- 'typecaselaw07.GraphemeCuts', WHERE WHAT IT READS IS OF BULK AT MOST 1048576: true; the input reads as it did. -/
def graphemeCutsUptoRow : OpenClaim := { program := "ytcldegpfkpmciaadoor", sum := "1616fdc763a7284aacb40374b47622f34c5608a86fcc7a5645ae94905a7fd1a8", func := "typecase/typecaselaw07.GraphemeCuts", spec := "graphemeCuts", named := ["typecase/props.lasts"], apart := false, laid := [("typecase/props.lasts", laid_typecase_props_lasts)], narrowed := true }
def GraphemeCutsUptoSaid : Prop := graphemeCutsUptoRow.holds Tryd.pinned (OpenSpec.upto graphemeCutsSpec)

/-- 'typecaselaw07.GraphemeWindow', WHERE WHAT IT READS IS OF BULK AT MOST 1048576: true; the input reads as it did. -/
def graphemeWindowUptoRow : OpenClaim := { program := "ytcldegpfkpmciaadoor", sum := "1616fdc763a7284aacb40374b47622f34c5608a86fcc7a5645ae94905a7fd1a8", func := "typecase/typecaselaw07.GraphemeWindow", spec := "graphemeWindow", named := ["typecase/props.lasts"], apart := false, laid := [("typecase/props.lasts", laid_typecase_props_lasts)], narrowed := true }
def GraphemeWindowUptoSaid : Prop := graphemeWindowUptoRow.holds Tryd.pinned (OpenSpec.upto graphemeWindowSpec)

/-- 'typecaselaw07.GraphemeAlone', WHERE WHAT IT READS IS OF BULK AT MOST 1048576: true; the input reads as it did. -/
def graphemeAloneUptoRow : OpenClaim := { program := "ytcldegpfkpmciaadoor", sum := "1616fdc763a7284aacb40374b47622f34c5608a86fcc7a5645ae94905a7fd1a8", func := "typecase/typecaselaw07.GraphemeAlone", spec := "graphemeAlone", named := ["typecase/props.lasts"], apart := false, laid := [("typecase/props.lasts", laid_typecase_props_lasts)], narrowed := true }
def GraphemeAloneUptoSaid : Prop := graphemeAloneUptoRow.holds Tryd.pinned (OpenSpec.upto graphemeAloneSpec)

/-- 'typecaselaw07.GraphemeSteps', WHERE WHAT IT READS IS OF BULK AT MOST 1048576: true; the input reads as it did. -/
def graphemeStepsUptoRow : OpenClaim := { program := "ytcldegpfkpmciaadoor", sum := "1616fdc763a7284aacb40374b47622f34c5608a86fcc7a5645ae94905a7fd1a8", func := "typecase/typecaselaw07.GraphemeSteps", spec := "graphemeSteps", named := ["typecase/props.lasts"], apart := false, laid := [("typecase/props.lasts", laid_typecase_props_lasts)], narrowed := true }
def GraphemeStepsUptoSaid : Prop := graphemeStepsUptoRow.holds Tryd.pinned (OpenSpec.upto graphemeStepsSpec)

/-- 'typecaselaw07.GraphemeCovers', WHERE WHAT IT READS IS OF BULK AT MOST 1048576: true; the input reads as it did. -/
def graphemeCoversUptoRow : OpenClaim := { program := "ytcldegpfkpmciaadoor", sum := "1616fdc763a7284aacb40374b47622f34c5608a86fcc7a5645ae94905a7fd1a8", func := "typecase/typecaselaw07.GraphemeCovers", spec := "graphemeCovers", named := ["typecase/props.lasts"], apart := false, laid := [("typecase/props.lasts", laid_typecase_props_lasts)], narrowed := true }
def GraphemeCoversUptoSaid : Prop := graphemeCoversUptoRow.holds Tryd.pinned (OpenSpec.upto graphemeCoversSpec)

/-- 'typecaselaw08.WordsKinds', WHERE WHAT IT READS IS OF BULK AT MOST 1048576: true; the input reads as it did. -/
def wordsKindsUptoRow : OpenClaim := { program := "ytcldegpfkpmciaadoor", sum := "1616fdc763a7284aacb40374b47622f34c5608a86fcc7a5645ae94905a7fd1a8", func := "typecase/typecaselaw08.WordsKinds", spec := "wordsKinds", named := ["typecase/props.lasts"], apart := false, laid := [("typecase/props.lasts", laid_typecase_props_lasts)], narrowed := true }
def WordsKindsUptoSaid : Prop := wordsKindsUptoRow.holds Tryd.pinned (OpenSpec.upto wordsKindsSpec)

/-- 'typecaselaw08.WordsWhole', WHERE WHAT IT READS IS OF BULK AT MOST 1048576: true; the input reads as it did. -/
def wordsWholeUptoRow : OpenClaim := { program := "ytcldegpfkpmciaadoor", sum := "1616fdc763a7284aacb40374b47622f34c5608a86fcc7a5645ae94905a7fd1a8", func := "typecase/typecaselaw08.WordsWhole", spec := "wordsWhole", named := ["typecase/props.lasts"], apart := false, laid := [("typecase/props.lasts", laid_typecase_props_lasts)], narrowed := true }
def WordsWholeUptoSaid : Prop := wordsWholeUptoRow.holds Tryd.pinned (OpenSpec.upto wordsWholeSpec)

/-- 'typecaselaw08.WordsBounds', WHERE WHAT IT READS IS OF BULK AT MOST 1048576: true; the input reads as it did. -/
def wordsBoundsUptoRow : OpenClaim := { program := "ytcldegpfkpmciaadoor", sum := "1616fdc763a7284aacb40374b47622f34c5608a86fcc7a5645ae94905a7fd1a8", func := "typecase/typecaselaw08.WordsBounds", spec := "wordsBounds", named := ["typecase/props.lasts"], apart := false, laid := [("typecase/props.lasts", laid_typecase_props_lasts)], narrowed := true }
def WordsBoundsUptoSaid : Prop := wordsBoundsUptoRow.holds Tryd.pinned (OpenSpec.upto wordsBoundsSpec)

/-- 'typecaselaw08.WordsAround', WHERE WHAT IT READS IS OF BULK AT MOST 1048576: true; the input reads as it did. -/
def wordsAroundUptoRow : OpenClaim := { program := "ytcldegpfkpmciaadoor", sum := "1616fdc763a7284aacb40374b47622f34c5608a86fcc7a5645ae94905a7fd1a8", func := "typecase/typecaselaw08.WordsAround", spec := "wordsAround", named := ["typecase/props.lasts"], apart := false, laid := [("typecase/props.lasts", laid_typecase_props_lasts)], narrowed := true }
def WordsAroundUptoSaid : Prop := wordsAroundUptoRow.holds Tryd.pinned (OpenSpec.upto wordsAroundSpec)

/-- 'typecaselaw08.WordsCover', WHERE WHAT IT READS IS OF BULK AT MOST 1048576: true; the input reads as it did. -/
def wordsCoverUptoRow : OpenClaim := { program := "ytcldegpfkpmciaadoor", sum := "1616fdc763a7284aacb40374b47622f34c5608a86fcc7a5645ae94905a7fd1a8", func := "typecase/typecaselaw08.WordsCover", spec := "wordsCover", named := ["typecase/props.lasts"], apart := false, laid := [("typecase/props.lasts", laid_typecase_props_lasts)], narrowed := true }
def WordsCoverUptoSaid : Prop := wordsCoverUptoRow.holds Tryd.pinned (OpenSpec.upto wordsCoverSpec)

/-- 'typecaselaw52.DirtyClusters', WHERE WHAT IT READS IS OF BULK AT MOST 1048576: true; the input reads as it did. -/
def dirtyClustersUptoRow : OpenClaim := { program := "ytcldegpfkpmciaadoor", sum := "1616fdc763a7284aacb40374b47622f34c5608a86fcc7a5645ae94905a7fd1a8", func := "typecase/typecaselaw52.DirtyClusters", spec := "dirtyClusters", unfollowed := true, recurses := true, named := ["typecase/props.lasts"], apart := false, laid := [("typecase/props.lasts", laid_typecase_props_lasts)], narrowed := true }
def DirtyClustersUptoSaid : Prop := dirtyClustersUptoRow.holds Tryd.pinned (OpenSpec.upto dirtyClustersSpec)

end Rows
end Go.Proofs.YtcldegpfkpmciaaDoor
