/-
  NARROWER THAN 'FOR EVERY INPUT', by the rows' own cells (each row's printed sentence says how): DirtyParas: laid · DirtyKeeps: laid · DirtyForms: laid · DirtyClusters: laid.
  DERIVED. THE GIVEN ROWS OF THIS SEAT. 4 by the template 'for every input the law returns true; each argument reads behind the call as it read before'; 0 by the template 'total and deterministic' (their statements: YtilbcafkjpikgaaDoorTotals.lean).
  GIVEN WITH THE SEED: the statements are not yours to turn. If you find one false, say at which input.
  Laid BY PROGRAM, IN A SANDBOX (cutbox-rows.mjs): the forced cells as the released guide's own fill.sh prints them over the translation 79b861ad267fdd53… (all of the seat's roots in one cut). By AI agents, Wed Nov 11 2026. No macro, syntax, notation, axiom, sorry.
-/
import Derived.Test.YtilbcafkjpikgaaDoorChecked
import GoSem.Claim
import GoSem.ClaimJoined
import GoSem.ClaimMapViews
import Derived.JoinedTies
import Derived.KernelRfl
namespace Go.Proofs.YtilbcafkjpikgaaDoor
/- THE CELL 'sum', in the pinned program and in every row, IS THE sha256 OF THE DUMP (.gsa) THAT YtilbcafkjpikgaaDoorProg.lean LOADS. Nothing in Lean hashes anything: it is a label: what it is worth is what the hold of that sum in a sandbox is worth. -/
noncomputable def Tryd.pinned : Pinned := { name := "ytilbcafkjpikgaadoor", sum := "79b861ad267fdd539c01ee15c0dddd98fcaf9e6f99676fc076c36625e938068b", checked := Tryd.checked }
namespace Rows
def none {H : Type} : Left H := { results := [], args := [] }

/- WHAT THE LISTED PACKAGE-LEVEL VARIABLES READ AS WHEN THE CALL BEGINS. Each datum BY PROGRAM (the guide's laid-datum.mjs) off the statement by which the dump's own 'gosem.cut.vars' lays the variable. In a bare row this is a premise. The card (YtilbcafkjpikgaaDoorCards.lean) ties it to the program's text. -/
def laid_typecase_props_lasts {H : Type} : DataW H := .agg [.lit (.int .i32 42), .lit (.int .i32 96), .lit (.int .i32 180), .lit (.int .i32 1023), .lit (.int .i32 1563), .lit (.int .i32 1644), .lit (.int .i32 1749), .lit (.int .i32 3654), .lit (.int .i32 8232), .lit (.int .i32 8383), .lit (.int .i32 12298), .lit (.int .i32 64335), .lit (.int .i32 917999)]

/-- 'typecaselaw52.DirtyParas': WHATEVER THE INPUT: true; the input reads as it did. -/
def dirtyParasSpec : ChangeSpec := { name := "dirtyParas", fn := fun _ => fun
  | [d1, d2] => { results := [.lit (.bool true)], args := [d1, d2] }
  | _ => none }
def dirtyParasRow : OpenClaim := { program := "ytilbcafkjpikgaadoor", sum := "79b861ad267fdd539c01ee15c0dddd98fcaf9e6f99676fc076c36625e938068b", func := "typecase/typecaselaw52.DirtyParas", spec := "dirtyParas", named := ["typecase/props.lasts"], apart := false, laid := [("typecase/props.lasts", laid_typecase_props_lasts)] }
def DirtyParasSaid : Prop := dirtyParasRow.holds Tryd.pinned (OpenSpec.ofChange dirtyParasSpec)

/-- ITS FALSE NEIGHBOUR: 'it returns false'. Refute it at one input. -/
def dirtyParasWrong : ChangeSpec := { name := "dirtyParas", fn := fun _ => fun
  | [d1, d2] => { results := [.lit (.bool false)], args := [d1, d2] }
  | _ => none }
def DirtyParasWrongFalsely : Prop := dirtyParasRow.holds Tryd.pinned (OpenSpec.ofChange dirtyParasWrong)

/-- 'typecaselaw52.DirtyKeeps': WHATEVER THE INPUT: true; the input reads as it did. -/
def dirtyKeepsSpec : ChangeSpec := { name := "dirtyKeeps", fn := fun _ => fun
  | [d1, d2] => { results := [.lit (.bool true)], args := [d1, d2] }
  | _ => none }
def dirtyKeepsRow : OpenClaim := { program := "ytilbcafkjpikgaadoor", sum := "79b861ad267fdd539c01ee15c0dddd98fcaf9e6f99676fc076c36625e938068b", func := "typecase/typecaselaw52.DirtyKeeps", spec := "dirtyKeeps", named := ["typecase/props.lasts"], apart := false, laid := [("typecase/props.lasts", laid_typecase_props_lasts)] }
def DirtyKeepsSaid : Prop := dirtyKeepsRow.holds Tryd.pinned (OpenSpec.ofChange dirtyKeepsSpec)

/-- ITS FALSE NEIGHBOUR: 'it returns false'. Refute it at one input. -/
def dirtyKeepsWrong : ChangeSpec := { name := "dirtyKeeps", fn := fun _ => fun
  | [d1, d2] => { results := [.lit (.bool false)], args := [d1, d2] }
  | _ => none }
def DirtyKeepsWrongFalsely : Prop := dirtyKeepsRow.holds Tryd.pinned (OpenSpec.ofChange dirtyKeepsWrong)

/-- 'typecaselaw52.DirtyForms': WHATEVER THE INPUT: true; the input reads as it did. -/
def dirtyFormsSpec : ChangeSpec := { name := "dirtyForms", fn := fun _ => fun
  | [d1, d2] => { results := [.lit (.bool true)], args := [d1, d2] }
  | _ => none }
def dirtyFormsRow : OpenClaim := { program := "ytilbcafkjpikgaadoor", sum := "79b861ad267fdd539c01ee15c0dddd98fcaf9e6f99676fc076c36625e938068b", func := "typecase/typecaselaw52.DirtyForms", spec := "dirtyForms", unfollowed := true, recurses := true, named := ["typecase/props.lasts"], apart := false, laid := [("typecase/props.lasts", laid_typecase_props_lasts)] }
def DirtyFormsSaid : Prop := dirtyFormsRow.holds Tryd.pinned (OpenSpec.ofChange dirtyFormsSpec)

/-- ITS FALSE NEIGHBOUR: 'it returns false'. Refute it at one input. -/
def dirtyFormsWrong : ChangeSpec := { name := "dirtyForms", fn := fun _ => fun
  | [d1, d2] => { results := [.lit (.bool false)], args := [d1, d2] }
  | _ => none }
def DirtyFormsWrongFalsely : Prop := dirtyFormsRow.holds Tryd.pinned (OpenSpec.ofChange dirtyFormsWrong)

/-- 'typecaselaw52.DirtyClusters': WHATEVER THE INPUT: true; the input reads as it did. -/
def dirtyClustersSpec : ChangeSpec := { name := "dirtyClusters", fn := fun _ => fun
  | [d1, d2] => { results := [.lit (.bool true)], args := [d1, d2] }
  | _ => none }
def dirtyClustersRow : OpenClaim := { program := "ytilbcafkjpikgaadoor", sum := "79b861ad267fdd539c01ee15c0dddd98fcaf9e6f99676fc076c36625e938068b", func := "typecase/typecaselaw52.DirtyClusters", spec := "dirtyClusters", unfollowed := true, recurses := true, named := ["typecase/props.lasts"], apart := false, laid := [("typecase/props.lasts", laid_typecase_props_lasts)] }
def DirtyClustersSaid : Prop := dirtyClustersRow.holds Tryd.pinned (OpenSpec.ofChange dirtyClustersSpec)

/-- ITS FALSE NEIGHBOUR: 'it returns false'. Refute it at one input. -/
def dirtyClustersWrong : ChangeSpec := { name := "dirtyClusters", fn := fun _ => fun
  | [d1, d2] => { results := [.lit (.bool false)], args := [d1, d2] }
  | _ => none }
def DirtyClustersWrongFalsely : Prop := dirtyClustersRow.holds Tryd.pinned (OpenSpec.ofChange dirtyClustersWrong)

/- THE SECOND FORM. 'bulk': how many values and letters a reading holds, each counted each time it is reached (what is shared counts as often as it is met; a slice's spare places count too). A statement '..UptoSaid' is the law's where the arguments, and the package variables that the reading takes, are together of bulk at most 1048576: NARROWER than '..Said'. Prove '..Said' where nothing that the law and all that it calls make is longer than what came in: it says more and counts as full. Else prove '..UptoSaid'. A law counts once. -/
mutual
def uptoBulk {H : Type} : DataW H → Nat
  | .lit (.string bytes) => bytes.length + 1
  | .lit _ => 1
  | .nil => 1
  | .ptr d => uptoBulk d + 1
  | .slice elems spare => uptoBulkAll elems + uptoBulkAll spare + 1
  | .agg parts => uptoBulkAll parts + 1
  | .iface _ d => uptoBulk d + 1
  | .map entries => uptoBulkEntries entries + 1
  | .held _ => 1
def uptoBulkAll {H : Type} : List (DataW H) → Nat
  | [] => 0
  | d :: r => uptoBulk d + uptoBulkAll r
def uptoBulkEntries {H : Type} : List (Lit × DataW H) → Nat
  | [] => 0
  | x :: r => uptoBulkEntry x + uptoBulkEntries r
def uptoBulkEntry {H : Type} : Lit × DataW H → Nat
  | (.string bytes, d) => bytes.length + uptoBulk d + 1
  | (_, d) => uptoBulk d + 1
 end
def uptoSmall : (H : Type) → List (DataW H) → Bool := fun _ ds => decide (uptoBulkAll ds ≤ 1048576)
def OpenSpec.upto (s : _root_.Go.ChangeSpec) : _root_.Go.OpenSpec := { _root_.Go.OpenSpec.ofChange s with cond := some uptoSmall }

/-- 'typecaselaw52.DirtyParas', WHERE WHAT IT READS IS OF BULK AT MOST 1048576: true; the input reads as it did. -/
def dirtyParasUptoRow : OpenClaim := { program := "ytilbcafkjpikgaadoor", sum := "79b861ad267fdd539c01ee15c0dddd98fcaf9e6f99676fc076c36625e938068b", func := "typecase/typecaselaw52.DirtyParas", spec := "dirtyParas", named := ["typecase/props.lasts"], apart := false, laid := [("typecase/props.lasts", laid_typecase_props_lasts)], narrowed := true }
def DirtyParasUptoSaid : Prop := dirtyParasUptoRow.holds Tryd.pinned (OpenSpec.upto dirtyParasSpec)

/-- 'typecaselaw52.DirtyKeeps', WHERE WHAT IT READS IS OF BULK AT MOST 1048576: true; the input reads as it did. -/
def dirtyKeepsUptoRow : OpenClaim := { program := "ytilbcafkjpikgaadoor", sum := "79b861ad267fdd539c01ee15c0dddd98fcaf9e6f99676fc076c36625e938068b", func := "typecase/typecaselaw52.DirtyKeeps", spec := "dirtyKeeps", named := ["typecase/props.lasts"], apart := false, laid := [("typecase/props.lasts", laid_typecase_props_lasts)], narrowed := true }
def DirtyKeepsUptoSaid : Prop := dirtyKeepsUptoRow.holds Tryd.pinned (OpenSpec.upto dirtyKeepsSpec)

/-- 'typecaselaw52.DirtyForms', WHERE WHAT IT READS IS OF BULK AT MOST 1048576: true; the input reads as it did. -/
def dirtyFormsUptoRow : OpenClaim := { program := "ytilbcafkjpikgaadoor", sum := "79b861ad267fdd539c01ee15c0dddd98fcaf9e6f99676fc076c36625e938068b", func := "typecase/typecaselaw52.DirtyForms", spec := "dirtyForms", unfollowed := true, recurses := true, named := ["typecase/props.lasts"], apart := false, laid := [("typecase/props.lasts", laid_typecase_props_lasts)], narrowed := true }
def DirtyFormsUptoSaid : Prop := dirtyFormsUptoRow.holds Tryd.pinned (OpenSpec.upto dirtyFormsSpec)

/-- 'typecaselaw52.DirtyClusters', WHERE WHAT IT READS IS OF BULK AT MOST 1048576: true; the input reads as it did. -/
def dirtyClustersUptoRow : OpenClaim := { program := "ytilbcafkjpikgaadoor", sum := "79b861ad267fdd539c01ee15c0dddd98fcaf9e6f99676fc076c36625e938068b", func := "typecase/typecaselaw52.DirtyClusters", spec := "dirtyClusters", unfollowed := true, recurses := true, named := ["typecase/props.lasts"], apart := false, laid := [("typecase/props.lasts", laid_typecase_props_lasts)], narrowed := true }
def DirtyClustersUptoSaid : Prop := dirtyClustersUptoRow.holds Tryd.pinned (OpenSpec.upto dirtyClustersSpec)

end Rows
end Go.Proofs.YtilbcafkjpikgaaDoor
