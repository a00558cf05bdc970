/-
  No cell of these rows narrows 'for every input' (looked for: loops, veiled, ifaces, maps, wideKeys, modest, calm, conditions, laid).
  DERIVED. THE GIVEN ROWS OF THIS SEAT. 5 by the template 'for every input the law returns true; each argument reads behind the call as it read before'; 0 by the template 'total and deterministic' (their statements: YteehcmcljjdbeaaTotals.lean).
  GIVEN WITH THE SEED: the statements are not yours to turn. If you find one false, say at which input.
  Laid BY PROGRAM, IN A SANDBOX (cutbox-rows.mjs): the forced cells as the released guide's own fill.sh prints them over the translation bc4451755bb8241c… (all of the seat's roots in one cut). By AI agents, Wed Nov 11 2026. No macro, syntax, notation, axiom, sorry.
-/
import Derived.Test.YteehcmcljjdbeaaChecked
import GoSem.Claim
import GoSem.ClaimJoined
import GoSem.ClaimMapViews
import Derived.JoinedTies
import Derived.KernelRfl
namespace Go.Proofs.Yteehcmcljjdbeaa
/- THE CELL 'sum', in the pinned program and in every row, IS THE sha256 OF THE DUMP (.gsa) THAT YteehcmcljjdbeaaProg.lean LOADS. Nothing in Lean hashes anything: it is a label: what it is worth is what the hold of that sum in a sandbox is worth. -/
noncomputable def Try.pinned : Pinned := { name := "yteehcmcljjdbeaa", sum := "bc4451755bb8241c3b7a1ceb8e4fab135c41c7e14fcd9d73de6ffb5ae22b7719", checked := Try.checked }
namespace Rows
def none {H : Type} : Left H := { results := [], args := [] }

/-- 'typecaselaw20.HyphenParses': WHATEVER THE INPUT: true; the input reads as it did. -/
def hyphenParsesSpec : ChangeSpec := { name := "hyphenParses", fn := fun _ => fun
  | [d] => { results := [.lit (.bool true)], args := [d] }
  | _ => none }
def hyphenParsesRow : OpenClaim := { program := "yteehcmcljjdbeaa", sum := "bc4451755bb8241c3b7a1ceb8e4fab135c41c7e14fcd9d73de6ffb5ae22b7719", func := "typecase/typecaselaw20.HyphenParses", spec := "hyphenParses", apart := false }
def HyphenParsesSaid : Prop := hyphenParsesRow.holds Try.pinned (OpenSpec.ofChange hyphenParsesSpec)

/-- ITS FALSE NEIGHBOUR: 'it returns false'. Refute it at one input. -/
def hyphenParsesWrong : ChangeSpec := { name := "hyphenParses", fn := fun _ => fun
  | [d] => { results := [.lit (.bool false)], args := [d] }
  | _ => none }
def HyphenParsesWrongFalsely : Prop := hyphenParsesRow.holds Try.pinned (OpenSpec.ofChange hyphenParsesWrong)

/-- 'typecaselaw20.HyphenPrints': WHATEVER THE INPUT: true; the input reads as it did. -/
def hyphenPrintsSpec : ChangeSpec := { name := "hyphenPrints", fn := fun _ => fun
  | [d1, d2] => { results := [.lit (.bool true)], args := [d1, d2] }
  | _ => none }
def hyphenPrintsRow : OpenClaim := { program := "yteehcmcljjdbeaa", sum := "bc4451755bb8241c3b7a1ceb8e4fab135c41c7e14fcd9d73de6ffb5ae22b7719", func := "typecase/typecaselaw20.HyphenPrints", spec := "hyphenPrints", inPlace := ["internal/abi.NoEscape"], apart := false }
def HyphenPrintsSaid : Prop := hyphenPrintsRow.holds Try.pinned (OpenSpec.ofChange hyphenPrintsSpec)

/-- ITS FALSE NEIGHBOUR: 'it returns false'. Refute it at one input. -/
def hyphenPrintsWrong : ChangeSpec := { name := "hyphenPrints", fn := fun _ => fun
  | [d1, d2] => { results := [.lit (.bool false)], args := [d1, d2] }
  | _ => none }
def HyphenPrintsWrongFalsely : Prop := hyphenPrintsRow.holds Try.pinned (OpenSpec.ofChange hyphenPrintsWrong)

/-- 'typecaselaw20.HyphenPoints': WHATEVER THE INPUT: true; the input reads as it did. -/
def hyphenPointsSpec : ChangeSpec := { name := "hyphenPoints", fn := fun _ => fun
  | [d1, d2] => { results := [.lit (.bool true)], args := [d1, d2] }
  | _ => none }
def hyphenPointsRow : OpenClaim := { program := "yteehcmcljjdbeaa", sum := "bc4451755bb8241c3b7a1ceb8e4fab135c41c7e14fcd9d73de6ffb5ae22b7719", func := "typecase/typecaselaw20.HyphenPoints", spec := "hyphenPoints", apart := false }
def HyphenPointsSaid : Prop := hyphenPointsRow.holds Try.pinned (OpenSpec.ofChange hyphenPointsSpec)

/-- ITS FALSE NEIGHBOUR: 'it returns false'. Refute it at one input. -/
def hyphenPointsWrong : ChangeSpec := { name := "hyphenPoints", fn := fun _ => fun
  | [d1, d2] => { results := [.lit (.bool false)], args := [d1, d2] }
  | _ => none }
def HyphenPointsWrongFalsely : Prop := hyphenPointsRow.holds Try.pinned (OpenSpec.ofChange hyphenPointsWrong)

/-- 'typecaselaw20.HyphenKeeps': WHATEVER THE INPUT: true; the input reads as it did. -/
def hyphenKeepsSpec : ChangeSpec := { name := "hyphenKeeps", fn := fun _ => fun
  | [d1, d2, d3] => { results := [.lit (.bool true)], args := [d1, d2, d3] }
  | _ => none }
def hyphenKeepsRow : OpenClaim := { program := "yteehcmcljjdbeaa", sum := "bc4451755bb8241c3b7a1ceb8e4fab135c41c7e14fcd9d73de6ffb5ae22b7719", func := "typecase/typecaselaw20.HyphenKeeps", spec := "hyphenKeeps", apart := false }
def HyphenKeepsSaid : Prop := hyphenKeepsRow.holds Try.pinned (OpenSpec.ofChange hyphenKeepsSpec)

/-- ITS FALSE NEIGHBOUR: 'it returns false'. Refute it at one input. -/
def hyphenKeepsWrong : ChangeSpec := { name := "hyphenKeeps", fn := fun _ => fun
  | [d1, d2, d3] => { results := [.lit (.bool false)], args := [d1, d2, d3] }
  | _ => none }
def HyphenKeepsWrongFalsely : Prop := hyphenKeepsRow.holds Try.pinned (OpenSpec.ofChange hyphenKeepsWrong)

/-- 'typecaselaw45.LinePuts': WHATEVER THE INPUT: true; the input reads as it did. -/
def linePutsSpec : ChangeSpec := { name := "linePuts", fn := fun _ => fun
  | [d1, d2, d3, d4] => { results := [.lit (.bool true)], args := [d1, d2, d3, d4] }
  | _ => none }
def linePutsRow : OpenClaim := { program := "yteehcmcljjdbeaa", sum := "bc4451755bb8241c3b7a1ceb8e4fab135c41c7e14fcd9d73de6ffb5ae22b7719", func := "typecase/typecaselaw45.LinePuts", spec := "linePuts", unfollowed := true, recurses := true, apart := false }
def LinePutsSaid : Prop := linePutsRow.holds Try.pinned (OpenSpec.ofChange linePutsSpec)

/-- ITS FALSE NEIGHBOUR: 'it returns false'. Refute it at one input. -/
def linePutsWrong : ChangeSpec := { name := "linePuts", fn := fun _ => fun
  | [d1, d2, d3, d4] => { results := [.lit (.bool false)], args := [d1, d2, d3, d4] }
  | _ => none }
def LinePutsWrongFalsely : Prop := linePutsRow.holds Try.pinned (OpenSpec.ofChange linePutsWrong)

/- THE SECOND FORM. 'bulk': how many values and letters a reading holds, each counted each time it is reached (what is shared counts as often as it is met; a slice's spare places count too). A statement '..UptoSaid' is the law's where the arguments, and the package variables that the reading takes, are together of bulk at most 1048576: NARROWER than '..Said'. Prove '..Said' where nothing that the law and all that it calls make is longer than what came in: it says more and counts as full. Else prove '..UptoSaid'. A law counts once. -/
mutual
def uptoBulk {H : Type} : DataW H → Nat
  | .lit (.string bytes) => bytes.length + 1
  | .lit _ => 1
  | .nil => 1
  | .ptr d => uptoBulk d + 1
  | .slice elems spare => uptoBulkAll elems + uptoBulkAll spare + 1
  | .agg parts => uptoBulkAll parts + 1
  | .iface _ d => uptoBulk d + 1
  | .map entries => uptoBulkEntries entries + 1
  | .held _ => 1
def uptoBulkAll {H : Type} : List (DataW H) → Nat
  | [] => 0
  | d :: r => uptoBulk d + uptoBulkAll r
def uptoBulkEntries {H : Type} : List (Lit × DataW H) → Nat
  | [] => 0
  | x :: r => uptoBulkEntry x + uptoBulkEntries r
def uptoBulkEntry {H : Type} : Lit × DataW H → Nat
  | (.string bytes, d) => bytes.length + uptoBulk d + 1
  | (_, d) => uptoBulk d + 1
 end
def uptoSmall : (H : Type) → List (DataW H) → Bool := fun _ ds => decide (uptoBulkAll ds ≤ 1048576)
def OpenSpec.upto (s : _root_.Go.ChangeSpec) : _root_.Go.OpenSpec := { _root_.Go.OpenSpec.ofChange s with cond := some uptoSmall }

/-- 'typecaselaw20.HyphenParses', WHERE WHAT IT READS IS OF BULK AT MOST 1048576: true; the input reads as it did. -/
def hyphenParsesUptoRow : OpenClaim := { program := "yteehcmcljjdbeaa", sum := "bc4451755bb8241c3b7a1ceb8e4fab135c41c7e14fcd9d73de6ffb5ae22b7719", func := "typecase/typecaselaw20.HyphenParses", spec := "hyphenParses", apart := false, narrowed := true }
def HyphenParsesUptoSaid : Prop := hyphenParsesUptoRow.holds Try.pinned (OpenSpec.upto hyphenParsesSpec)

/-- 'typecaselaw20.HyphenPrints', WHERE WHAT IT READS IS OF BULK AT MOST 1048576: true; the input reads as it did. -/
def hyphenPrintsUptoRow : OpenClaim := { program := "yteehcmcljjdbeaa", sum := "bc4451755bb8241c3b7a1ceb8e4fab135c41c7e14fcd9d73de6ffb5ae22b7719", func := "typecase/typecaselaw20.HyphenPrints", spec := "hyphenPrints", inPlace := ["internal/abi.NoEscape"], apart := false, narrowed := true }
def HyphenPrintsUptoSaid : Prop := hyphenPrintsUptoRow.holds Try.pinned (OpenSpec.upto hyphenPrintsSpec)

/-- 'typecaselaw20.HyphenPoints', WHERE WHAT IT READS IS OF BULK AT MOST 1048576: true; the input reads as it did. -/
def hyphenPointsUptoRow : OpenClaim := { program := "yteehcmcljjdbeaa", sum := "bc4451755bb8241c3b7a1ceb8e4fab135c41c7e14fcd9d73de6ffb5ae22b7719", func := "typecase/typecaselaw20.HyphenPoints", spec := "hyphenPoints", apart := false, narrowed := true }
def HyphenPointsUptoSaid : Prop := hyphenPointsUptoRow.holds Try.pinned (OpenSpec.upto hyphenPointsSpec)

/-- 'typecaselaw20.HyphenKeeps', WHERE WHAT IT READS IS OF BULK AT MOST 1048576: true; the input reads as it did. -/
def hyphenKeepsUptoRow : OpenClaim := { program := "yteehcmcljjdbeaa", sum := "bc4451755bb8241c3b7a1ceb8e4fab135c41c7e14fcd9d73de6ffb5ae22b7719", func := "typecase/typecaselaw20.HyphenKeeps", spec := "hyphenKeeps", apart := false, narrowed := true }
def HyphenKeepsUptoSaid : Prop := hyphenKeepsUptoRow.holds Try.pinned (OpenSpec.upto hyphenKeepsSpec)

/-- 'typecaselaw45.LinePuts', WHERE WHAT IT READS IS OF BULK AT MOST 1048576: true; the input reads as it did. -/
def linePutsUptoRow : OpenClaim := { program := "yteehcmcljjdbeaa", sum := "bc4451755bb8241c3b7a1ceb8e4fab135c41c7e14fcd9d73de6ffb5ae22b7719", func := "typecase/typecaselaw45.LinePuts", spec := "linePuts", unfollowed := true, recurses := true, apart := false, narrowed := true }
def LinePutsUptoSaid : Prop := linePutsUptoRow.holds Try.pinned (OpenSpec.upto linePutsSpec)

end Rows
end Go.Proofs.Yteehcmcljjdbeaa
