/-
  NARROWER THAN 'FOR EVERY INPUT', by the rows' own cells (each row's printed sentence says how): BaseParas: laid · BaseMatches: laid · BaseLevels: laid · BaseCovers: laid · BaseNests: laid · BaseHides: laid · DirtyParas: laid · DirtyKeeps: laid · DirtyForms: laid.
  DERIVED. THE GIVEN ROWS OF THIS SEAT. 9 by the template 'for every input the law returns true; each argument reads behind the call as it read before'; 0 by the template 'total and deterministic' (their statements: YtanfcfppmpabpaaDoorTotals.lean).
  GIVEN WITH THE SEED: the statements are not yours to turn. If you find one false, say at which input.
  Laid BY PROGRAM, IN A SANDBOX (cutbox-rows.mjs): the forced cells as the released guide's own fill.sh prints them over the translation 8e86e7ec43252aa8… (all of the seat's roots in one cut). By AI agents, Wed Nov 11 2026. No macro, syntax, notation, axiom, sorry.
-/
import Derived.Test.YtanfcfppmpabpaaDoorChecked
import GoSem.Claim
import GoSem.ClaimJoined
import GoSem.ClaimMapViews
import Derived.JoinedTies
import Derived.KernelRfl
namespace Go.Proofs.YtanfcfppmpabpaaDoor
/- THE CELL 'sum', in the pinned program and in every row, IS THE sha256 OF THE DUMP (.gsa) THAT YtanfcfppmpabpaaDoorProg.lean LOADS. Nothing in Lean hashes anything: it is a label: what it is worth is what the hold of that sum in a sandbox is worth. -/
noncomputable def Tryd.pinned : Pinned := { name := "ytanfcfppmpabpaadoor", sum := "8e86e7ec43252aa84cfa96124081db6902cdbc612ca8eeb123917a691110a6ff", checked := Tryd.checked }
namespace Rows
def none {H : Type} : Left H := { results := [], args := [] }

/- WHAT THE LISTED PACKAGE-LEVEL VARIABLES READ AS WHEN THE CALL BEGINS. Each datum BY PROGRAM (the guide's laid-datum.mjs) off the statement by which the dump's own 'gosem.cut.vars' lays the variable. In a bare row this is a premise. The card (YtanfcfppmpabpaaDoorCards.lean) ties it to the program's text. -/
def laid_typecase_props_lasts {H : Type} : DataW H := .agg [.lit (.int .i32 42), .lit (.int .i32 96), .lit (.int .i32 180), .lit (.int .i32 1023), .lit (.int .i32 1563), .lit (.int .i32 1644), .lit (.int .i32 1749), .lit (.int .i32 3654), .lit (.int .i32 8232), .lit (.int .i32 8383), .lit (.int .i32 12298), .lit (.int .i32 64335), .lit (.int .i32 917999)]

/-- 'typecaselaw10.BaseParas': WHATEVER THE INPUT: true; the input reads as it did. -/
def baseParasSpec : ChangeSpec := { name := "baseParas", fn := fun _ => fun
  | [d] => { results := [.lit (.bool true)], args := [d] }
  | _ => none }
def baseParasRow : OpenClaim := { program := "ytanfcfppmpabpaadoor", sum := "8e86e7ec43252aa84cfa96124081db6902cdbc612ca8eeb123917a691110a6ff", func := "typecase/typecaselaw10.BaseParas", spec := "baseParas", named := ["typecase/props.lasts"], apart := false, laid := [("typecase/props.lasts", laid_typecase_props_lasts)] }
def BaseParasSaid : Prop := baseParasRow.holds Tryd.pinned (OpenSpec.ofChange baseParasSpec)

/-- ITS FALSE NEIGHBOUR: 'it returns false'. Refute it at one input. -/
def baseParasWrong : ChangeSpec := { name := "baseParas", fn := fun _ => fun
  | [d] => { results := [.lit (.bool false)], args := [d] }
  | _ => none }
def BaseParasWrongFalsely : Prop := baseParasRow.holds Tryd.pinned (OpenSpec.ofChange baseParasWrong)

/-- 'typecaselaw10.BaseMatches': WHATEVER THE INPUT: true; the input reads as it did. -/
def baseMatchesSpec : ChangeSpec := { name := "baseMatches", fn := fun _ => fun
  | [d] => { results := [.lit (.bool true)], args := [d] }
  | _ => none }
def baseMatchesRow : OpenClaim := { program := "ytanfcfppmpabpaadoor", sum := "8e86e7ec43252aa84cfa96124081db6902cdbc612ca8eeb123917a691110a6ff", func := "typecase/typecaselaw10.BaseMatches", spec := "baseMatches", named := ["typecase/props.lasts"], apart := false, laid := [("typecase/props.lasts", laid_typecase_props_lasts)] }
def BaseMatchesSaid : Prop := baseMatchesRow.holds Tryd.pinned (OpenSpec.ofChange baseMatchesSpec)

/-- ITS FALSE NEIGHBOUR: 'it returns false'. Refute it at one input. -/
def baseMatchesWrong : ChangeSpec := { name := "baseMatches", fn := fun _ => fun
  | [d] => { results := [.lit (.bool false)], args := [d] }
  | _ => none }
def BaseMatchesWrongFalsely : Prop := baseMatchesRow.holds Tryd.pinned (OpenSpec.ofChange baseMatchesWrong)

/-- 'typecaselaw10.BaseLevels': WHATEVER THE INPUT: true; the input reads as it did. -/
def baseLevelsSpec : ChangeSpec := { name := "baseLevels", fn := fun _ => fun
  | [d1, d2, d3] => { results := [.lit (.bool true)], args := [d1, d2, d3] }
  | _ => none }
def baseLevelsRow : OpenClaim := { program := "ytanfcfppmpabpaadoor", sum := "8e86e7ec43252aa84cfa96124081db6902cdbc612ca8eeb123917a691110a6ff", func := "typecase/typecaselaw10.BaseLevels", spec := "baseLevels", named := ["typecase/props.lasts"], apart := false, laid := [("typecase/props.lasts", laid_typecase_props_lasts)] }
def BaseLevelsSaid : Prop := baseLevelsRow.holds Tryd.pinned (OpenSpec.ofChange baseLevelsSpec)

/-- ITS FALSE NEIGHBOUR: 'it returns false'. Refute it at one input. -/
def baseLevelsWrong : ChangeSpec := { name := "baseLevels", fn := fun _ => fun
  | [d1, d2, d3] => { results := [.lit (.bool false)], args := [d1, d2, d3] }
  | _ => none }
def BaseLevelsWrongFalsely : Prop := baseLevelsRow.holds Tryd.pinned (OpenSpec.ofChange baseLevelsWrong)

/-- 'typecaselaw10.BaseCovers': WHATEVER THE INPUT: true; the input reads as it did. -/
def baseCoversSpec : ChangeSpec := { name := "baseCovers", fn := fun _ => fun
  | [d] => { results := [.lit (.bool true)], args := [d] }
  | _ => none }
def baseCoversRow : OpenClaim := { program := "ytanfcfppmpabpaadoor", sum := "8e86e7ec43252aa84cfa96124081db6902cdbc612ca8eeb123917a691110a6ff", func := "typecase/typecaselaw10.BaseCovers", spec := "baseCovers", named := ["typecase/props.lasts"], apart := false, laid := [("typecase/props.lasts", laid_typecase_props_lasts)] }
def BaseCoversSaid : Prop := baseCoversRow.holds Tryd.pinned (OpenSpec.ofChange baseCoversSpec)

/-- ITS FALSE NEIGHBOUR: 'it returns false'. Refute it at one input. -/
def baseCoversWrong : ChangeSpec := { name := "baseCovers", fn := fun _ => fun
  | [d] => { results := [.lit (.bool false)], args := [d] }
  | _ => none }
def BaseCoversWrongFalsely : Prop := baseCoversRow.holds Tryd.pinned (OpenSpec.ofChange baseCoversWrong)

/-- 'typecaselaw10.BaseNests': WHATEVER THE INPUT: true; the input reads as it did. -/
def baseNestsSpec : ChangeSpec := { name := "baseNests", fn := fun _ => fun
  | [d] => { results := [.lit (.bool true)], args := [d] }
  | _ => none }
def baseNestsRow : OpenClaim := { program := "ytanfcfppmpabpaadoor", sum := "8e86e7ec43252aa84cfa96124081db6902cdbc612ca8eeb123917a691110a6ff", func := "typecase/typecaselaw10.BaseNests", spec := "baseNests", named := ["typecase/props.lasts"], apart := false, laid := [("typecase/props.lasts", laid_typecase_props_lasts)] }
def BaseNestsSaid : Prop := baseNestsRow.holds Tryd.pinned (OpenSpec.ofChange baseNestsSpec)

/-- ITS FALSE NEIGHBOUR: 'it returns false'. Refute it at one input. -/
def baseNestsWrong : ChangeSpec := { name := "baseNests", fn := fun _ => fun
  | [d] => { results := [.lit (.bool false)], args := [d] }
  | _ => none }
def BaseNestsWrongFalsely : Prop := baseNestsRow.holds Tryd.pinned (OpenSpec.ofChange baseNestsWrong)

/-- 'typecaselaw10.BaseHides': WHATEVER THE INPUT: true; the input reads as it did. -/
def baseHidesSpec : ChangeSpec := { name := "baseHides", fn := fun _ => fun
  | [d1, d2, d3] => { results := [.lit (.bool true)], args := [d1, d2, d3] }
  | _ => none }
def baseHidesRow : OpenClaim := { program := "ytanfcfppmpabpaadoor", sum := "8e86e7ec43252aa84cfa96124081db6902cdbc612ca8eeb123917a691110a6ff", func := "typecase/typecaselaw10.BaseHides", spec := "baseHides", named := ["typecase/props.lasts"], apart := false, laid := [("typecase/props.lasts", laid_typecase_props_lasts)] }
def BaseHidesSaid : Prop := baseHidesRow.holds Tryd.pinned (OpenSpec.ofChange baseHidesSpec)

/-- ITS FALSE NEIGHBOUR: 'it returns false'. Refute it at one input. -/
def baseHidesWrong : ChangeSpec := { name := "baseHides", fn := fun _ => fun
  | [d1, d2, d3] => { results := [.lit (.bool false)], args := [d1, d2, d3] }
  | _ => none }
def BaseHidesWrongFalsely : Prop := baseHidesRow.holds Tryd.pinned (OpenSpec.ofChange baseHidesWrong)

/-- 'typecaselaw52.DirtyParas': WHATEVER THE INPUT: true; the input reads as it did. -/
def dirtyParasSpec : ChangeSpec := { name := "dirtyParas", fn := fun _ => fun
  | [d1, d2] => { results := [.lit (.bool true)], args := [d1, d2] }
  | _ => none }
def dirtyParasRow : OpenClaim := { program := "ytanfcfppmpabpaadoor", sum := "8e86e7ec43252aa84cfa96124081db6902cdbc612ca8eeb123917a691110a6ff", func := "typecase/typecaselaw52.DirtyParas", spec := "dirtyParas", named := ["typecase/props.lasts"], apart := false, laid := [("typecase/props.lasts", laid_typecase_props_lasts)] }
def DirtyParasSaid : Prop := dirtyParasRow.holds Tryd.pinned (OpenSpec.ofChange dirtyParasSpec)

/-- ITS FALSE NEIGHBOUR: 'it returns false'. Refute it at one input. -/
def dirtyParasWrong : ChangeSpec := { name := "dirtyParas", fn := fun _ => fun
  | [d1, d2] => { results := [.lit (.bool false)], args := [d1, d2] }
  | _ => none }
def DirtyParasWrongFalsely : Prop := dirtyParasRow.holds Tryd.pinned (OpenSpec.ofChange dirtyParasWrong)

/-- 'typecaselaw52.DirtyKeeps': WHATEVER THE INPUT: true; the input reads as it did. -/
def dirtyKeepsSpec : ChangeSpec := { name := "dirtyKeeps", fn := fun _ => fun
  | [d1, d2] => { results := [.lit (.bool true)], args := [d1, d2] }
  | _ => none }
def dirtyKeepsRow : OpenClaim := { program := "ytanfcfppmpabpaadoor", sum := "8e86e7ec43252aa84cfa96124081db6902cdbc612ca8eeb123917a691110a6ff", func := "typecase/typecaselaw52.DirtyKeeps", spec := "dirtyKeeps", named := ["typecase/props.lasts"], apart := false, laid := [("typecase/props.lasts", laid_typecase_props_lasts)] }
def DirtyKeepsSaid : Prop := dirtyKeepsRow.holds Tryd.pinned (OpenSpec.ofChange dirtyKeepsSpec)

/-- ITS FALSE NEIGHBOUR: 'it returns false'. Refute it at one input. -/
def dirtyKeepsWrong : ChangeSpec := { name := "dirtyKeeps", fn := fun _ => fun
  | [d1, d2] => { results := [.lit (.bool false)], args := [d1, d2] }
  | _ => none }
def DirtyKeepsWrongFalsely : Prop := dirtyKeepsRow.holds Tryd.pinned (OpenSpec.ofChange dirtyKeepsWrong)

/-- 'typecaselaw52.DirtyForms': WHATEVER THE INPUT: true; the input reads as it did. -/
def dirtyFormsSpec : ChangeSpec := { name := "dirtyForms", fn := fun _ => fun
  | [d1, d2] => { results := [.lit (.bool true)], args := [d1, d2] }
  | _ => none }
def dirtyFormsRow : OpenClaim := { program := "ytanfcfppmpabpaadoor", sum := "8e86e7ec43252aa84cfa96124081db6902cdbc612ca8eeb123917a691110a6ff", func := "typecase/typecaselaw52.DirtyForms", spec := "dirtyForms", unfollowed := true, recurses := true, named := ["typecase/props.lasts"], apart := false, laid := [("typecase/props.lasts", laid_typecase_props_lasts)] }
def DirtyFormsSaid : Prop := dirtyFormsRow.holds Tryd.pinned (OpenSpec.ofChange dirtyFormsSpec)

/-- ITS FALSE NEIGHBOUR: 'it returns false'. Refute it at one input. -/
def dirtyFormsWrong : ChangeSpec := { name := "dirtyForms", fn := fun _ => fun
  | [d1, d2] => { results := [.lit (.bool false)], args := [d1, d2] }
  | _ => none }
def DirtyFormsWrongFalsely : Prop := dirtyFormsRow.holds Tryd.pinned (OpenSpec.ofChange dirtyFormsWrong)

/- THE SECOND FORM. 'bulk': how many values and letters a reading holds, each counted each time it is reached (what is shared counts as often as it is met; a slice's spare places count too). A statement '..UptoSaid' is the law's where the arguments, and the package variables that the reading takes, are together of bulk at most 1048576: NARROWER than '..Said'. Prove '..Said' where nothing that the law and all that it calls make is longer than what came in: it says more and counts as full. Else prove '..UptoSaid'. A law counts once. -/
mutual
def uptoBulk {H : Type} : DataW H → Nat
  | .lit (.string bytes) => bytes.length + 1
  | .lit _ => 1
  | .nil => 1
  | .ptr d => uptoBulk d + 1
  | .slice elems spare => uptoBulkAll elems + uptoBulkAll spare + 1
  | .agg parts => uptoBulkAll parts + 1
  | .iface _ d => uptoBulk d + 1
  | .map entries => uptoBulkEntries entries + 1
  | .held _ => 1
def uptoBulkAll {H : Type} : List (DataW H) → Nat
  | [] => 0
  | d :: r => uptoBulk d + uptoBulkAll r
def uptoBulkEntries {H : Type} : List (Lit × DataW H) → Nat
  | [] => 0
  | x :: r => uptoBulkEntry x + uptoBulkEntries r
def uptoBulkEntry {H : Type} : Lit × DataW H → Nat
  | (.string bytes, d) => bytes.length + uptoBulk d + 1
  | (_, d) => uptoBulk d + 1
 end
def uptoSmall : (H : Type) → List (DataW H) → Bool := fun _ ds => decide (uptoBulkAll ds ≤ 1048576)
def OpenSpec.upto (s : _root_.Go.ChangeSpec) : _root_.Go.OpenSpec := { _root_.Go.OpenSpec.ofChange s with cond := some uptoSmall }

/-- 'typecaselaw10.BaseParas', WHERE WHAT IT READS IS OF BULK AT MOST 1048576: true; the input reads as it did. -/
def baseParasUptoRow : OpenClaim := { program := "ytanfcfppmpabpaadoor", sum := "8e86e7ec43252aa84cfa96124081db6902cdbc612ca8eeb123917a691110a6ff", func := "typecase/typecaselaw10.BaseParas", spec := "baseParas", named := ["typecase/props.lasts"], apart := false, laid := [("typecase/props.lasts", laid_typecase_props_lasts)], narrowed := true }
def BaseParasUptoSaid : Prop := baseParasUptoRow.holds Tryd.pinned (OpenSpec.upto baseParasSpec)

/-- 'typecaselaw10.BaseMatches', WHERE WHAT IT READS IS OF BULK AT MOST 1048576: true; the input reads as it did. -/
def baseMatchesUptoRow : OpenClaim := { program := "ytanfcfppmpabpaadoor", sum := "8e86e7ec43252aa84cfa96124081db6902cdbc612ca8eeb123917a691110a6ff", func := "typecase/typecaselaw10.BaseMatches", spec := "baseMatches", named := ["typecase/props.lasts"], apart := false, laid := [("typecase/props.lasts", laid_typecase_props_lasts)], narrowed := true }
def BaseMatchesUptoSaid : Prop := baseMatchesUptoRow.holds Tryd.pinned (OpenSpec.upto baseMatchesSpec)

/-- 'typecaselaw10.BaseLevels', WHERE WHAT IT READS IS OF BULK AT MOST 1048576: true; the input reads as it did. -/
def baseLevelsUptoRow : OpenClaim := { program := "ytanfcfppmpabpaadoor", sum := "8e86e7ec43252aa84cfa96124081db6902cdbc612ca8eeb123917a691110a6ff", func := "typecase/typecaselaw10.BaseLevels", spec := "baseLevels", named := ["typecase/props.lasts"], apart := false, laid := [("typecase/props.lasts", laid_typecase_props_lasts)], narrowed := true }
def BaseLevelsUptoSaid : Prop := baseLevelsUptoRow.holds Tryd.pinned (OpenSpec.upto baseLevelsSpec)

/-- 'typecaselaw10.BaseCovers', WHERE WHAT IT READS IS OF BULK AT MOST 1048576: true; the input reads as it did. -/
def baseCoversUptoRow : OpenClaim := { program := "ytanfcfppmpabpaadoor", sum := "8e86e7ec43252aa84cfa96124081db6902cdbc612ca8eeb123917a691110a6ff", func := "typecase/typecaselaw10.BaseCovers", spec := "baseCovers", named := ["typecase/props.lasts"], apart := false, laid := [("typecase/props.lasts", laid_typecase_props_lasts)], narrowed := true }
def BaseCoversUptoSaid : Prop := baseCoversUptoRow.holds Tryd.pinned (OpenSpec.upto baseCoversSpec)

/-- 'typecaselaw10.BaseNests', WHERE WHAT IT READS IS OF BULK AT MOST 1048576: true; the input reads as it did. -/
def baseNestsUptoRow : OpenClaim := { program := "ytanfcfppmpabpaadoor", sum := "8e86e7ec43252aa84cfa96124081db6902cdbc612ca8eeb123917a691110a6ff", func := "typecase/typecaselaw10.BaseNests", spec := "baseNests", named := ["typecase/props.lasts"], apart := false, laid := [("typecase/props.lasts", laid_typecase_props_lasts)], narrowed := true }
def BaseNestsUptoSaid : Prop := baseNestsUptoRow.holds Tryd.pinned (OpenSpec.upto baseNestsSpec)

/-- 'typecaselaw10.BaseHides', WHERE WHAT IT READS IS OF BULK AT MOST 1048576: true; the input reads as it did. -/
def baseHidesUptoRow : OpenClaim := { program := "ytanfcfppmpabpaadoor", sum := "8e86e7ec43252aa84cfa96124081db6902cdbc612ca8eeb123917a691110a6ff", func := "typecase/typecaselaw10.BaseHides", spec := "baseHides", named := ["typecase/props.lasts"], apart := false, laid := [("typecase/props.lasts", laid_typecase_props_lasts)], narrowed := true }
def BaseHidesUptoSaid : Prop := baseHidesUptoRow.holds Tryd.pinned (OpenSpec.upto baseHidesSpec)

/-- 'typecaselaw52.DirtyParas', WHERE WHAT IT READS IS OF BULK AT MOST 1048576: true; the input reads as it did. -/
def dirtyParasUptoRow : OpenClaim := { program := "ytanfcfppmpabpaadoor", sum := "8e86e7ec43252aa84cfa96124081db6902cdbc612ca8eeb123917a691110a6ff", func := "typecase/typecaselaw52.DirtyParas", spec := "dirtyParas", named := ["typecase/props.lasts"], apart := false, laid := [("typecase/props.lasts", laid_typecase_props_lasts)], narrowed := true }
def DirtyParasUptoSaid : Prop := dirtyParasUptoRow.holds Tryd.pinned (OpenSpec.upto dirtyParasSpec)

/-- 'typecaselaw52.DirtyKeeps', WHERE WHAT IT READS IS OF BULK AT MOST 1048576: true; the input reads as it did. -/
def dirtyKeepsUptoRow : OpenClaim := { program := "ytanfcfppmpabpaadoor", sum := "8e86e7ec43252aa84cfa96124081db6902cdbc612ca8eeb123917a691110a6ff", func := "typecase/typecaselaw52.DirtyKeeps", spec := "dirtyKeeps", named := ["typecase/props.lasts"], apart := false, laid := [("typecase/props.lasts", laid_typecase_props_lasts)], narrowed := true }
def DirtyKeepsUptoSaid : Prop := dirtyKeepsUptoRow.holds Tryd.pinned (OpenSpec.upto dirtyKeepsSpec)

/-- 'typecaselaw52.DirtyForms', WHERE WHAT IT READS IS OF BULK AT MOST 1048576: true; the input reads as it did. -/
def dirtyFormsUptoRow : OpenClaim := { program := "ytanfcfppmpabpaadoor", sum := "8e86e7ec43252aa84cfa96124081db6902cdbc612ca8eeb123917a691110a6ff", func := "typecase/typecaselaw52.DirtyForms", spec := "dirtyForms", unfollowed := true, recurses := true, named := ["typecase/props.lasts"], apart := false, laid := [("typecase/props.lasts", laid_typecase_props_lasts)], narrowed := true }
def DirtyFormsUptoSaid : Prop := dirtyFormsUptoRow.holds Tryd.pinned (OpenSpec.upto dirtyFormsSpec)

end Rows
end Go.Proofs.YtanfcfppmpabpaaDoor
