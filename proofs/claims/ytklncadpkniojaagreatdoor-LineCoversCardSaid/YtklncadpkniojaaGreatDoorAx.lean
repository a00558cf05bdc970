/- Part of LineCovers. -/
import Derived.Test.YtklncadpkniojaaGreatDoorAd
import Derived.Test.YtklncadpkniojaaGreatDoorCards
import Derived.Test.YtklncadpkniojaaGreatDoorTie
import Derived.Deep.DeepHandedRow
import Derived.Lib.LaidTab
import Derived.ShutString
import Derived.ChangeOld
import Derived.Below
import Derived.Lib.SmallJoins
namespace Go.Proofs.YtklncadpkniojaaGreatDoor
open Go.ChangeShapes Go.WideShapes Go.ChangeAt Go.RowKit Go.Proofs.Tryz
set_option linter.all false
set_option maxRecDepth 100000
set_option maxHeartbeats 16000000
namespace lineCoversDone
open Go.ChangeMaps (open_string shut_string)
theorem laidOut:laidOutB prog=true:=by kernel_rfl
theorem j1:mapsRowed prog=true:=by kernel_rfl
theorem j2:f3.params.all (prog.readableRec ·)=true:=by kernel_rfl
theorem j3:(Rows.lineCoversRow.inPlace==prog.inPlace 3)=true:=by kernel_rfl
theorem j4:(Rows.lineCoversRow.unfollowed==prog.unfollowed 3)=true:=by kernel_rfl
theorem j5:(Rows.lineCoversRow.recurses==prog.recurses 3)=true:=by kernel_rfl
theorem j6:(Rows.lineCoversRow.named==prog.varsNamed 3)=true:=by kernel_rfl
theorem closed:joinedFacts prog 3 f3 (OpenSpec.ofChange Rows.lineCoversSpec).bare Rows.lineCoversRow=true:=by
 unfold joinedFacts;rw[laidOut,j1,j2,j3,j4,j5,j6]
 kernel_rfl
theorem plain(f:FuncId)(b:Func)(d:Tryz.pinned.checked.prog.funcNamed "typecase/typecaselaw45.LineCovers"=some f)(c:Tryz.pinned.checked.prog.funcs[f]? =some b):
 false=Tryz.pinned.checked.prog.looks []/\∀(j:Nat) t,b.params[j]? =some t->Tryz.pinned.checked.prog.wantsStandIn t=false:=by
 obtain rfl:f=3:=Option.some.inj ((show prog.funcNamed "typecase/typecaselaw45.LineCovers"=some 3 by kernel_rfl).symm.trans d)|>.symm
 obtain rfl:b=f3:=(Option.some.inj (func3.symm.trans c)).symm;refine⟨by kernel_rfl,fun j t a=> ?_⟩;rw[params3]at a;have a:=Array.mem_of_getElem? a;simp only[List.mem_toArray,List.mem_cons,List.not_mem_nil,or_false]at a;rcases a with rfl|rfl|rfl|rfl|rfl
 .exact(show prog.wantsStandIn 26=false by kernel_rfl)
 .exact(show prog.wantsStandIn 31=false by kernel_rfl)
 .exact(show prog.wantsStandIn 3=false by kernel_rfl)
 .exact(show prog.wantsStandIn 3=false by kernel_rfl)
 .exact(show prog.wantsStandIn 4=false by kernel_rfl)
theorem k1:Rows.lineCoversRow.wfByText (OpenSpec.ofChange Rows.lineCoversSpec)=true:=by kernel_rfl
theorem k2:Tryz.pinned.checked.prog.mainIs=some (Rows.lineCoversCard.stood.harness.1,Rows.lineCoversCard.stood.harness.2.toList):=by kernel_rfl
theorem k3:false=Rows.lineCoversRow.goesBy Tryz.pinned.checked.prog:=by kernel_rfl
end lineCoversDone
end Go.Proofs.YtklncadpkniojaaGreatDoor
