/-
  NARROWER THAN 'FOR EVERY INPUT', by the rows' own cells (each row's printed sentence says how): WordsKinds: laid · WordsWhole: laid · WordsBounds: laid · WordsAround: laid · WordsCover: laid · DirtyClusters: laid · FallbackOf: laid · FallbackOne: laid · FallbackParts: laid · DirtyParas: laid · DirtyKeeps: laid · DirtyForms: laid.
  DERIVED. THE GIVEN ROWS OF THIS SEAT. 12 by the template 'for every input the law returns true; each argument reads behind the call as it read before'; 0 by the template 'total and deterministic' (their statements: YtefajgfhdnhmmaaDoorTotals.lean).
  GIVEN WITH THE SEED: the statements are not yours to turn. If you find one false, say at which input.
  Laid BY PROGRAM, IN A SANDBOX (cutbox-rows.mjs): the forced cells as the released guide's own fill.sh prints them over the translation 64c1af27a0f0e2e1… (all of the seat's roots in one cut). By AI agents, Wed Nov 11 2026. No macro, syntax, notation, axiom, sorry.
-/
import Derived.Test.YtefajgfhdnhmmaaDoorChecked
import GoSem.Claim
import GoSem.ClaimJoined
import GoSem.ClaimMapViews
import Derived.JoinedTies
import Derived.KernelRfl
namespace Go.Proofs.YtefajgfhdnhmmaaDoor
/- THE CELL 'sum', in the pinned program and in every row, IS THE sha256 OF THE DUMP (.gsa) THAT YtefajgfhdnhmmaaDoorProg.lean LOADS. Nothing in Lean hashes anything: it is a label: what it is worth is what the hold of that sum in a sandbox is worth. -/
noncomputable def Tryd.pinned : Pinned := { name := "ytefajgfhdnhmmaadoor", sum := "64c1af27a0f0e2e199f6dbf732eacac21c133eb8eaeec984ae508644edcd5809", checked := Tryd.checked }
namespace Rows
def none {H : Type} : Left H := { results := [], args := [] }

/- WHAT THE LISTED PACKAGE-LEVEL VARIABLES READ AS WHEN THE CALL BEGINS. Each datum BY PROGRAM (the guide's laid-datum.mjs) off the statement by which the dump's own 'gosem.cut.vars' lays the variable. In a bare row this is a premise. The card (YtefajgfhdnhmmaaDoorCards.lean) ties it to the program's text. -/
def laid_typecase_props_lasts {H : Type} : DataW H := .agg [.lit (.int .i32 42), .lit (.int .i32 96), .lit (.int .i32 180), .lit (.int .i32 1023), .lit (.int .i32 1563), .lit (.int .i32 1644), .lit (.int .i32 1749), .lit (.int .i32 3654), .lit (.int .i32 8232), .lit (.int .i32 8383), .lit (.int .i32 12298), .lit (.int .i32 64335), .lit (.int .i32 917999)]

/-- 'typecaselaw08.WordsKinds': WHATEVER THE INPUT: true; the input reads as it did. -/
def wordsKindsSpec : ChangeSpec := { name := "wordsKinds", fn := fun _ => fun
  | [d1, d2] => { results := [.lit (.bool true)], args := [d1, d2] }
  | _ => none }
def wordsKindsRow : OpenClaim := { program := "ytefajgfhdnhmmaadoor", sum := "64c1af27a0f0e2e199f6dbf732eacac21c133eb8eaeec984ae508644edcd5809", func := "typecase/typecaselaw08.WordsKinds", spec := "wordsKinds", named := ["typecase/props.lasts"], apart := false, laid := [("typecase/props.lasts", laid_typecase_props_lasts)] }
def WordsKindsSaid : Prop := wordsKindsRow.holds Tryd.pinned (OpenSpec.ofChange wordsKindsSpec)

/-- ITS FALSE NEIGHBOUR: 'it returns false'. Refute it at one input. -/
def wordsKindsWrong : ChangeSpec := { name := "wordsKinds", fn := fun _ => fun
  | [d1, d2] => { results := [.lit (.bool false)], args := [d1, d2] }
  | _ => none }
def WordsKindsWrongFalsely : Prop := wordsKindsRow.holds Tryd.pinned (OpenSpec.ofChange wordsKindsWrong)

/-- 'typecaselaw08.WordsWhole': WHATEVER THE INPUT: true; the input reads as it did. -/
def wordsWholeSpec : ChangeSpec := { name := "wordsWhole", fn := fun _ => fun
  | [d1, d2] => { results := [.lit (.bool true)], args := [d1, d2] }
  | _ => none }
def wordsWholeRow : OpenClaim := { program := "ytefajgfhdnhmmaadoor", sum := "64c1af27a0f0e2e199f6dbf732eacac21c133eb8eaeec984ae508644edcd5809", func := "typecase/typecaselaw08.WordsWhole", spec := "wordsWhole", named := ["typecase/props.lasts"], apart := false, laid := [("typecase/props.lasts", laid_typecase_props_lasts)] }
def WordsWholeSaid : Prop := wordsWholeRow.holds Tryd.pinned (OpenSpec.ofChange wordsWholeSpec)

/-- ITS FALSE NEIGHBOUR: 'it returns false'. Refute it at one input. -/
def wordsWholeWrong : ChangeSpec := { name := "wordsWhole", fn := fun _ => fun
  | [d1, d2] => { results := [.lit (.bool false)], args := [d1, d2] }
  | _ => none }
def WordsWholeWrongFalsely : Prop := wordsWholeRow.holds Tryd.pinned (OpenSpec.ofChange wordsWholeWrong)

/-- 'typecaselaw08.WordsBounds': WHATEVER THE INPUT: true; the input reads as it did. -/
def wordsBoundsSpec : ChangeSpec := { name := "wordsBounds", fn := fun _ => fun
  | [d1, d2] => { results := [.lit (.bool true)], args := [d1, d2] }
  | _ => none }
def wordsBoundsRow : OpenClaim := { program := "ytefajgfhdnhmmaadoor", sum := "64c1af27a0f0e2e199f6dbf732eacac21c133eb8eaeec984ae508644edcd5809", func := "typecase/typecaselaw08.WordsBounds", spec := "wordsBounds", named := ["typecase/props.lasts"], apart := false, laid := [("typecase/props.lasts", laid_typecase_props_lasts)] }
def WordsBoundsSaid : Prop := wordsBoundsRow.holds Tryd.pinned (OpenSpec.ofChange wordsBoundsSpec)

/-- ITS FALSE NEIGHBOUR: 'it returns false'. Refute it at one input. -/
def wordsBoundsWrong : ChangeSpec := { name := "wordsBounds", fn := fun _ => fun
  | [d1, d2] => { results := [.lit (.bool false)], args := [d1, d2] }
  | _ => none }
def WordsBoundsWrongFalsely : Prop := wordsBoundsRow.holds Tryd.pinned (OpenSpec.ofChange wordsBoundsWrong)

/-- 'typecaselaw08.WordsAround': WHATEVER THE INPUT: true; the input reads as it did. -/
def wordsAroundSpec : ChangeSpec := { name := "wordsAround", fn := fun _ => fun
  | [d1, d2] => { results := [.lit (.bool true)], args := [d1, d2] }
  | _ => none }
def wordsAroundRow : OpenClaim := { program := "ytefajgfhdnhmmaadoor", sum := "64c1af27a0f0e2e199f6dbf732eacac21c133eb8eaeec984ae508644edcd5809", func := "typecase/typecaselaw08.WordsAround", spec := "wordsAround", named := ["typecase/props.lasts"], apart := false, laid := [("typecase/props.lasts", laid_typecase_props_lasts)] }
def WordsAroundSaid : Prop := wordsAroundRow.holds Tryd.pinned (OpenSpec.ofChange wordsAroundSpec)

/-- ITS FALSE NEIGHBOUR: 'it returns false'. Refute it at one input. -/
def wordsAroundWrong : ChangeSpec := { name := "wordsAround", fn := fun _ => fun
  | [d1, d2] => { results := [.lit (.bool false)], args := [d1, d2] }
  | _ => none }
def WordsAroundWrongFalsely : Prop := wordsAroundRow.holds Tryd.pinned (OpenSpec.ofChange wordsAroundWrong)

/-- 'typecaselaw08.WordsCover': WHATEVER THE INPUT: true; the input reads as it did. -/
def wordsCoverSpec : ChangeSpec := { name := "wordsCover", fn := fun _ => fun
  | [d] => { results := [.lit (.bool true)], args := [d] }
  | _ => none }
def wordsCoverRow : OpenClaim := { program := "ytefajgfhdnhmmaadoor", sum := "64c1af27a0f0e2e199f6dbf732eacac21c133eb8eaeec984ae508644edcd5809", func := "typecase/typecaselaw08.WordsCover", spec := "wordsCover", named := ["typecase/props.lasts"], apart := false, laid := [("typecase/props.lasts", laid_typecase_props_lasts)] }
def WordsCoverSaid : Prop := wordsCoverRow.holds Tryd.pinned (OpenSpec.ofChange wordsCoverSpec)

/-- ITS FALSE NEIGHBOUR: 'it returns false'. Refute it at one input. -/
def wordsCoverWrong : ChangeSpec := { name := "wordsCover", fn := fun _ => fun
  | [d] => { results := [.lit (.bool false)], args := [d] }
  | _ => none }
def WordsCoverWrongFalsely : Prop := wordsCoverRow.holds Tryd.pinned (OpenSpec.ofChange wordsCoverWrong)

/-- 'typecaselaw52.DirtyClusters': WHATEVER THE INPUT: true; the input reads as it did. -/
def dirtyClustersSpec : ChangeSpec := { name := "dirtyClusters", fn := fun _ => fun
  | [d1, d2] => { results := [.lit (.bool true)], args := [d1, d2] }
  | _ => none }
def dirtyClustersRow : OpenClaim := { program := "ytefajgfhdnhmmaadoor", sum := "64c1af27a0f0e2e199f6dbf732eacac21c133eb8eaeec984ae508644edcd5809", func := "typecase/typecaselaw52.DirtyClusters", spec := "dirtyClusters", unfollowed := true, recurses := true, named := ["typecase/props.lasts"], apart := false, laid := [("typecase/props.lasts", laid_typecase_props_lasts)] }
def DirtyClustersSaid : Prop := dirtyClustersRow.holds Tryd.pinned (OpenSpec.ofChange dirtyClustersSpec)

/-- ITS FALSE NEIGHBOUR: 'it returns false'. Refute it at one input. -/
def dirtyClustersWrong : ChangeSpec := { name := "dirtyClusters", fn := fun _ => fun
  | [d1, d2] => { results := [.lit (.bool false)], args := [d1, d2] }
  | _ => none }
def DirtyClustersWrongFalsely : Prop := dirtyClustersRow.holds Tryd.pinned (OpenSpec.ofChange dirtyClustersWrong)

/-- 'typecaselaw23.FallbackOf': WHATEVER THE INPUT: true; the input reads as it did. -/
def fallbackOfSpec : ChangeSpec := { name := "fallbackOf", fn := fun _ => fun
  | [d1, d2, d3] => { results := [.lit (.bool true)], args := [d1, d2, d3] }
  | _ => none }
def fallbackOfRow : OpenClaim := { program := "ytefajgfhdnhmmaadoor", sum := "64c1af27a0f0e2e199f6dbf732eacac21c133eb8eaeec984ae508644edcd5809", func := "typecase/typecaselaw23.FallbackOf", spec := "fallbackOf", unfollowed := true, recurses := true, named := ["typecase/props.lasts"], apart := false, laid := [("typecase/props.lasts", laid_typecase_props_lasts)] }
def FallbackOfSaid : Prop := fallbackOfRow.holds Tryd.pinned (OpenSpec.ofChange fallbackOfSpec)

/-- ITS FALSE NEIGHBOUR: 'it returns false'. Refute it at one input. -/
def fallbackOfWrong : ChangeSpec := { name := "fallbackOf", fn := fun _ => fun
  | [d1, d2, d3] => { results := [.lit (.bool false)], args := [d1, d2, d3] }
  | _ => none }
def FallbackOfWrongFalsely : Prop := fallbackOfRow.holds Tryd.pinned (OpenSpec.ofChange fallbackOfWrong)

/-- 'typecaselaw23.FallbackOne': WHATEVER THE INPUT: true; the input reads as it did. -/
def fallbackOneSpec : ChangeSpec := { name := "fallbackOne", fn := fun _ => fun
  | [d1, d2, d3] => { results := [.lit (.bool true)], args := [d1, d2, d3] }
  | _ => none }
def fallbackOneRow : OpenClaim := { program := "ytefajgfhdnhmmaadoor", sum := "64c1af27a0f0e2e199f6dbf732eacac21c133eb8eaeec984ae508644edcd5809", func := "typecase/typecaselaw23.FallbackOne", spec := "fallbackOne", unfollowed := true, recurses := true, named := ["typecase/props.lasts"], apart := false, laid := [("typecase/props.lasts", laid_typecase_props_lasts)] }
def FallbackOneSaid : Prop := fallbackOneRow.holds Tryd.pinned (OpenSpec.ofChange fallbackOneSpec)

/-- ITS FALSE NEIGHBOUR: 'it returns false'. Refute it at one input. -/
def fallbackOneWrong : ChangeSpec := { name := "fallbackOne", fn := fun _ => fun
  | [d1, d2, d3] => { results := [.lit (.bool false)], args := [d1, d2, d3] }
  | _ => none }
def FallbackOneWrongFalsely : Prop := fallbackOneRow.holds Tryd.pinned (OpenSpec.ofChange fallbackOneWrong)

/-- 'typecaselaw23.FallbackParts': WHATEVER THE INPUT: true; the input reads as it did. -/
def fallbackPartsSpec : ChangeSpec := { name := "fallbackParts", fn := fun _ => fun
  | [d1, d2, d3] => { results := [.lit (.bool true)], args := [d1, d2, d3] }
  | _ => none }
def fallbackPartsRow : OpenClaim := { program := "ytefajgfhdnhmmaadoor", sum := "64c1af27a0f0e2e199f6dbf732eacac21c133eb8eaeec984ae508644edcd5809", func := "typecase/typecaselaw23.FallbackParts", spec := "fallbackParts", unfollowed := true, recurses := true, named := ["typecase/props.lasts"], apart := false, laid := [("typecase/props.lasts", laid_typecase_props_lasts)] }
def FallbackPartsSaid : Prop := fallbackPartsRow.holds Tryd.pinned (OpenSpec.ofChange fallbackPartsSpec)

/-- ITS FALSE NEIGHBOUR: 'it returns false'. Refute it at one input. -/
def fallbackPartsWrong : ChangeSpec := { name := "fallbackParts", fn := fun _ => fun
  | [d1, d2, d3] => { results := [.lit (.bool false)], args := [d1, d2, d3] }
  | _ => none }
def FallbackPartsWrongFalsely : Prop := fallbackPartsRow.holds Tryd.pinned (OpenSpec.ofChange fallbackPartsWrong)

/-- 'typecaselaw52.DirtyParas': WHATEVER THE INPUT: true; the input reads as it did. -/
def dirtyParasSpec : ChangeSpec := { name := "dirtyParas", fn := fun _ => fun
  | [d1, d2] => { results := [.lit (.bool true)], args := [d1, d2] }
  | _ => none }
def dirtyParasRow : OpenClaim := { program := "ytefajgfhdnhmmaadoor", sum := "64c1af27a0f0e2e199f6dbf732eacac21c133eb8eaeec984ae508644edcd5809", func := "typecase/typecaselaw52.DirtyParas", spec := "dirtyParas", named := ["typecase/props.lasts"], apart := false, laid := [("typecase/props.lasts", laid_typecase_props_lasts)] }
def DirtyParasSaid : Prop := dirtyParasRow.holds Tryd.pinned (OpenSpec.ofChange dirtyParasSpec)

/-- ITS FALSE NEIGHBOUR: 'it returns false'. Refute it at one input. -/
def dirtyParasWrong : ChangeSpec := { name := "dirtyParas", fn := fun _ => fun
  | [d1, d2] => { results := [.lit (.bool false)], args := [d1, d2] }
  | _ => none }
def DirtyParasWrongFalsely : Prop := dirtyParasRow.holds Tryd.pinned (OpenSpec.ofChange dirtyParasWrong)

/-- 'typecaselaw52.DirtyKeeps': WHATEVER THE INPUT: true; the input reads as it did. -/
def dirtyKeepsSpec : ChangeSpec := { name := "dirtyKeeps", fn := fun _ => fun
  | [d1, d2] => { results := [.lit (.bool true)], args := [d1, d2] }
  | _ => none }
def dirtyKeepsRow : OpenClaim := { program := "ytefajgfhdnhmmaadoor", sum := "64c1af27a0f0e2e199f6dbf732eacac21c133eb8eaeec984ae508644edcd5809", func := "typecase/typecaselaw52.DirtyKeeps", spec := "dirtyKeeps", named := ["typecase/props.lasts"], apart := false, laid := [("typecase/props.lasts", laid_typecase_props_lasts)] }
def DirtyKeepsSaid : Prop := dirtyKeepsRow.holds Tryd.pinned (OpenSpec.ofChange dirtyKeepsSpec)

/-- ITS FALSE NEIGHBOUR: 'it returns false'. Refute it at one input. -/
def dirtyKeepsWrong : ChangeSpec := { name := "dirtyKeeps", fn := fun _ => fun
  | [d1, d2] => { results := [.lit (.bool false)], args := [d1, d2] }
  | _ => none }
def DirtyKeepsWrongFalsely : Prop := dirtyKeepsRow.holds Tryd.pinned (OpenSpec.ofChange dirtyKeepsWrong)

/-- 'typecaselaw52.DirtyForms': WHATEVER THE INPUT: true; the input reads as it did. -/
def dirtyFormsSpec : ChangeSpec := { name := "dirtyForms", fn := fun _ => fun
  | [d1, d2] => { results := [.lit (.bool true)], args := [d1, d2] }
  | _ => none }
def dirtyFormsRow : OpenClaim := { program := "ytefajgfhdnhmmaadoor", sum := "64c1af27a0f0e2e199f6dbf732eacac21c133eb8eaeec984ae508644edcd5809", func := "typecase/typecaselaw52.DirtyForms", spec := "dirtyForms", unfollowed := true, recurses := true, named := ["typecase/props.lasts"], apart := false, laid := [("typecase/props.lasts", laid_typecase_props_lasts)] }
def DirtyFormsSaid : Prop := dirtyFormsRow.holds Tryd.pinned (OpenSpec.ofChange dirtyFormsSpec)

/-- ITS FALSE NEIGHBOUR: 'it returns false'. Refute it at one input. -/
def dirtyFormsWrong : ChangeSpec := { name := "dirtyForms", fn := fun _ => fun
  | [d1, d2] => { results := [.lit (.bool false)], args := [d1, d2] }
  | _ => none }
def DirtyFormsWrongFalsely : Prop := dirtyFormsRow.holds Tryd.pinned (OpenSpec.ofChange dirtyFormsWrong)

/- THE SECOND FORM. 'bulk': how many values and letters a reading holds, each counted each time it is reached (what is shared counts as often as it is met; a slice's spare places count too). A statement '..UptoSaid' is the law's where the arguments, and the package variables that the reading takes, are together of bulk at most 1048576: NARROWER than '..Said'. Prove '..Said' where nothing that the law and all that it calls make is longer than what came in: it says more and counts as full. Else prove '..UptoSaid'. A law counts once. -/
mutual
def uptoBulk {H : Type} : DataW H → Nat
  | .lit (.string bytes) => bytes.length + 1
  | .lit _ => 1
  | .nil => 1
  | .ptr d => uptoBulk d + 1
  | .slice elems spare => uptoBulkAll elems + uptoBulkAll spare + 1
  | .agg parts => uptoBulkAll parts + 1
  | .iface _ d => uptoBulk d + 1
  | .map entries => uptoBulkEntries entries + 1
  | .held _ => 1
def uptoBulkAll {H : Type} : List (DataW H) → Nat
  | [] => 0
  | d :: r => uptoBulk d + uptoBulkAll r
def uptoBulkEntries {H : Type} : List (Lit × DataW H) → Nat
  | [] => 0
  | x :: r => uptoBulkEntry x + uptoBulkEntries r
def uptoBulkEntry {H : Type} : Lit × DataW H → Nat
  | (.string bytes, d) => bytes.length + uptoBulk d + 1
  | (_, d) => uptoBulk d + 1
 end
def uptoSmall : (H : Type) → List (DataW H) → Bool := fun _ ds => decide (uptoBulkAll ds ≤ 1048576)
def OpenSpec.upto (s : _root_.Go.ChangeSpec) : _root_.Go.OpenSpec := { _root_.Go.OpenSpec.ofChange s with cond := some uptoSmall }

/-- 'typecaselaw08.WordsKinds', WHERE WHAT IT READS IS OF BULK AT MOST 1048576: true; the input reads as it did. -/
def wordsKindsUptoRow : OpenClaim := { program := "ytefajgfhdnhmmaadoor", sum := "64c1af27a0f0e2e199f6dbf732eacac21c133eb8eaeec984ae508644edcd5809", func := "typecase/typecaselaw08.WordsKinds", spec := "wordsKinds", named := ["typecase/props.lasts"], apart := false, laid := [("typecase/props.lasts", laid_typecase_props_lasts)], narrowed := true }
def WordsKindsUptoSaid : Prop := wordsKindsUptoRow.holds Tryd.pinned (OpenSpec.upto wordsKindsSpec)

/-- 'typecaselaw08.WordsWhole', WHERE WHAT IT READS IS OF BULK AT MOST 1048576: true; the input reads as it did. -/
def wordsWholeUptoRow : OpenClaim := { program := "ytefajgfhdnhmmaadoor", sum := "64c1af27a0f0e2e199f6dbf732eacac21c133eb8eaeec984ae508644edcd5809", func := "typecase/typecaselaw08.WordsWhole", spec := "wordsWhole", named := ["typecase/props.lasts"], apart := false, laid := [("typecase/props.lasts", laid_typecase_props_lasts)], narrowed := true }
def WordsWholeUptoSaid : Prop := wordsWholeUptoRow.holds Tryd.pinned (OpenSpec.upto wordsWholeSpec)

/-- 'typecaselaw08.WordsBounds', WHERE WHAT IT READS IS OF BULK AT MOST 1048576: true; the input reads as it did. -/
def wordsBoundsUptoRow : OpenClaim := { program := "ytefajgfhdnhmmaadoor", sum := "64c1af27a0f0e2e199f6dbf732eacac21c133eb8eaeec984ae508644edcd5809", func := "typecase/typecaselaw08.WordsBounds", spec := "wordsBounds", named := ["typecase/props.lasts"], apart := false, laid := [("typecase/props.lasts", laid_typecase_props_lasts)], narrowed := true }
def WordsBoundsUptoSaid : Prop := wordsBoundsUptoRow.holds Tryd.pinned (OpenSpec.upto wordsBoundsSpec)

/-- 'typecaselaw08.WordsAround', WHERE WHAT IT READS IS OF BULK AT MOST 1048576: true; the input reads as it did. -/
def wordsAroundUptoRow : OpenClaim := { program := "ytefajgfhdnhmmaadoor", sum := "64c1af27a0f0e2e199f6dbf732eacac21c133eb8eaeec984ae508644edcd5809", func := "typecase/typecaselaw08.WordsAround", spec := "wordsAround", named := ["typecase/props.lasts"], apart := false, laid := [("typecase/props.lasts", laid_typecase_props_lasts)], narrowed := true }
def WordsAroundUptoSaid : Prop := wordsAroundUptoRow.holds Tryd.pinned (OpenSpec.upto wordsAroundSpec)

/-- 'typecaselaw08.WordsCover', WHERE WHAT IT READS IS OF BULK AT MOST 1048576: true; the input reads as it did. -/
def wordsCoverUptoRow : OpenClaim := { program := "ytefajgfhdnhmmaadoor", sum := "64c1af27a0f0e2e199f6dbf732eacac21c133eb8eaeec984ae508644edcd5809", func := "typecase/typecaselaw08.WordsCover", spec := "wordsCover", named := ["typecase/props.lasts"], apart := false, laid := [("typecase/props.lasts", laid_typecase_props_lasts)], narrowed := true }
def WordsCoverUptoSaid : Prop := wordsCoverUptoRow.holds Tryd.pinned (OpenSpec.upto wordsCoverSpec)

/-- 'typecaselaw52.DirtyClusters', WHERE WHAT IT READS IS OF BULK AT MOST 1048576: true; the input reads as it did. -/
def dirtyClustersUptoRow : OpenClaim := { program := "ytefajgfhdnhmmaadoor", sum := "64c1af27a0f0e2e199f6dbf732eacac21c133eb8eaeec984ae508644edcd5809", func := "typecase/typecaselaw52.DirtyClusters", spec := "dirtyClusters", unfollowed := true, recurses := true, named := ["typecase/props.lasts"], apart := false, laid := [("typecase/props.lasts", laid_typecase_props_lasts)], narrowed := true }
def DirtyClustersUptoSaid : Prop := dirtyClustersUptoRow.holds Tryd.pinned (OpenSpec.upto dirtyClustersSpec)

/-- 'typecaselaw23.FallbackOf', WHERE WHAT IT READS IS OF BULK AT MOST 1048576: true; the input reads as it did. -/
def fallbackOfUptoRow : OpenClaim := { program := "ytefajgfhdnhmmaadoor", sum := "64c1af27a0f0e2e199f6dbf732eacac21c133eb8eaeec984ae508644edcd5809", func := "typecase/typecaselaw23.FallbackOf", spec := "fallbackOf", unfollowed := true, recurses := true, named := ["typecase/props.lasts"], apart := false, laid := [("typecase/props.lasts", laid_typecase_props_lasts)], narrowed := true }
def FallbackOfUptoSaid : Prop := fallbackOfUptoRow.holds Tryd.pinned (OpenSpec.upto fallbackOfSpec)

/-- 'typecaselaw23.FallbackOne', WHERE WHAT IT READS IS OF BULK AT MOST 1048576: true; the input reads as it did. -/
def fallbackOneUptoRow : OpenClaim := { program := "ytefajgfhdnhmmaadoor", sum := "64c1af27a0f0e2e199f6dbf732eacac21c133eb8eaeec984ae508644edcd5809", func := "typecase/typecaselaw23.FallbackOne", spec := "fallbackOne", unfollowed := true, recurses := true, named := ["typecase/props.lasts"], apart := false, laid := [("typecase/props.lasts", laid_typecase_props_lasts)], narrowed := true }
def FallbackOneUptoSaid : Prop := fallbackOneUptoRow.holds Tryd.pinned (OpenSpec.upto fallbackOneSpec)

/-- 'typecaselaw23.FallbackParts', WHERE WHAT IT READS IS OF BULK AT MOST 1048576: true; the input reads as it did. -/
def fallbackPartsUptoRow : OpenClaim := { program := "ytefajgfhdnhmmaadoor", sum := "64c1af27a0f0e2e199f6dbf732eacac21c133eb8eaeec984ae508644edcd5809", func := "typecase/typecaselaw23.FallbackParts", spec := "fallbackParts", unfollowed := true, recurses := true, named := ["typecase/props.lasts"], apart := false, laid := [("typecase/props.lasts", laid_typecase_props_lasts)], narrowed := true }
def FallbackPartsUptoSaid : Prop := fallbackPartsUptoRow.holds Tryd.pinned (OpenSpec.upto fallbackPartsSpec)

/-- 'typecaselaw52.DirtyParas', WHERE WHAT IT READS IS OF BULK AT MOST 1048576: true; the input reads as it did. -/
def dirtyParasUptoRow : OpenClaim := { program := "ytefajgfhdnhmmaadoor", sum := "64c1af27a0f0e2e199f6dbf732eacac21c133eb8eaeec984ae508644edcd5809", func := "typecase/typecaselaw52.DirtyParas", spec := "dirtyParas", named := ["typecase/props.lasts"], apart := false, laid := [("typecase/props.lasts", laid_typecase_props_lasts)], narrowed := true }
def DirtyParasUptoSaid : Prop := dirtyParasUptoRow.holds Tryd.pinned (OpenSpec.upto dirtyParasSpec)

/-- 'typecaselaw52.DirtyKeeps', WHERE WHAT IT READS IS OF BULK AT MOST 1048576: true; the input reads as it did. -/
def dirtyKeepsUptoRow : OpenClaim := { program := "ytefajgfhdnhmmaadoor", sum := "64c1af27a0f0e2e199f6dbf732eacac21c133eb8eaeec984ae508644edcd5809", func := "typecase/typecaselaw52.DirtyKeeps", spec := "dirtyKeeps", named := ["typecase/props.lasts"], apart := false, laid := [("typecase/props.lasts", laid_typecase_props_lasts)], narrowed := true }
def DirtyKeepsUptoSaid : Prop := dirtyKeepsUptoRow.holds Tryd.pinned (OpenSpec.upto dirtyKeepsSpec)

/-- 'typecaselaw52.DirtyForms', WHERE WHAT IT READS IS OF BULK AT MOST 1048576: true; the input reads as it did. -/
def dirtyFormsUptoRow : OpenClaim := { program := "ytefajgfhdnhmmaadoor", sum := "64c1af27a0f0e2e199f6dbf732eacac21c133eb8eaeec984ae508644edcd5809", func := "typecase/typecaselaw52.DirtyForms", spec := "dirtyForms", unfollowed := true, recurses := true, named := ["typecase/props.lasts"], apart := false, laid := [("typecase/props.lasts", laid_typecase_props_lasts)], narrowed := true }
def DirtyFormsUptoSaid : Prop := dirtyFormsUptoRow.holds Tryd.pinned (OpenSpec.upto dirtyFormsSpec)

end Rows
end Go.Proofs.YtefajgfhdnhmmaaDoor
