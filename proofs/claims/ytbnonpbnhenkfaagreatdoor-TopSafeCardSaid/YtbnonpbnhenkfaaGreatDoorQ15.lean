/- Part 15 of the proof; the last part says what is proved. -/
import Derived.Test.YtbnonpbnhenkfaaGreatDoorQ01
import Derived.Test.YtbnonpbnhenkfaaGreatDoorCards
import Derived.JoinedCond
set_option linter.all false
set_option maxRecDepth 1000000
set_option maxHeartbeats 8000000
section
namespace Go.Proofs.YtbnonpbnhenkfaaGreatDoor.topSafe
open Go.Proofs.Tryz
open Go.ChangeShapes Go.WideShapes Go.ChangeAt
def e1:(Rows.topSafeRow.wideKeys==(f4.params.toList++Rows.topSafeSpec.plain.varTypes prog++f4.resultTypes.toList).any (prog.wideKeysFrom ·))=true:=by kernel_rfl
def e2:(Rows.topSafeSpec.vars.all (prog.varReadable ·)&&f4.resultTypes.all (λt=>prog.readableRec t&&decide (t<prog.types.size))&&(Rows.topSafeRow.ifacesOut==f4.resultTypes.toList.any (prog.ifacesRec ·))&&(Rows.topSafeRow.loopsOut==f4.resultTypes.toList.any (prog.loopsFrom ·)))=true:=by kernel_rfl
def e3:prog.stopsHeard=true:=by kernel_rfl
def e4:prog.mayEnter=true:=by kernel_rfl
def e5:(Rows.topSafeRow.lifted==prog.liftsFinal)=true:=by kernel_rfl
def e6:(prog.make==some Rows.topSafeRow.make)=true:=by kernel_rfl
def e7:(Rows.topSafeRow.pinned==Rows.topSafeRow.pinnedBy)=true:=by kernel_rfl
def e8:(Rows.topSafeRow.veiled==(f4.params.toList++Rows.topSafeSpec.plain.varTypes prog++f4.resultTypes.toList).any (prog.veiledRec ·))=true:=by kernel_rfl
def e9:Rows.topSafeRow.veiledFits prog f4.params.toList (f4.params.toList++Rows.topSafeSpec.plain.varTypes prog++f4.resultTypes.toList)=true:=by kernel_rfl
end Go.Proofs.YtbnonpbnhenkfaaGreatDoor.topSafe
end
