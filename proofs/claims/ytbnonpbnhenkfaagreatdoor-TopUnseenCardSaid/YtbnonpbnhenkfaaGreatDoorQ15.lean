/- Part 15 -/
import Derived.Test.YtbnonpbnhenkfaaGreatDoorQ01
import Derived.Test.YtbnonpbnhenkfaaGreatDoorCards
import Derived.JoinedCond
set_option linter.all false
set_option maxRecDepth 1000000
set_option maxHeartbeats 8000000
section
namespace Go.Proofs.YtbnonpbnhenkfaaGreatDoor.topUnseen
open Go.Proofs.Tryz
open Go.ChangeShapes Go.WideShapes Go.ChangeAt
def e1:(Rows.topUnseenRow.wideKeys==(f3.params.toList++Rows.topUnseenSpec.plain.varTypes prog++f3.resultTypes.toList).any (prog.wideKeysFrom ·))=true:=by kernel_rfl
def e2:(Rows.topUnseenSpec.vars.all (prog.varReadable ·)&&f3.resultTypes.all (λt=>prog.readableRec t&&decide (t<prog.types.size))&&(Rows.topUnseenRow.ifacesOut==f3.resultTypes.toList.any (prog.ifacesRec ·))&&(Rows.topUnseenRow.loopsOut==f3.resultTypes.toList.any (prog.loopsFrom ·)))=true:=by kernel_rfl
def e3:prog.stopsHeard=true:=by kernel_rfl
def e4:prog.mayEnter=true:=by kernel_rfl
def e5:(Rows.topUnseenRow.lifted==prog.liftsFinal)=true:=by kernel_rfl
def e6:(prog.make==some Rows.topUnseenRow.make)=true:=by kernel_rfl
def e7:(Rows.topUnseenRow.pinned==Rows.topUnseenRow.pinnedBy)=true:=by kernel_rfl
def e8:(Rows.topUnseenRow.veiled==(f3.params.toList++Rows.topUnseenSpec.plain.varTypes prog++f3.resultTypes.toList).any (prog.veiledRec ·))=true:=by kernel_rfl
def e9:Rows.topUnseenRow.veiledFits prog f3.params.toList (f3.params.toList++Rows.topUnseenSpec.plain.varTypes prog++f3.resultTypes.toList)=true:=by kernel_rfl
end Go.Proofs.YtbnonpbnhenkfaaGreatDoor.topUnseen
end
