/- Part 14 of the proof; the last part says what is proved. -/
import Derived.Test.YtbnonpbnhenkfaaGreatDoorQ01
import Derived.Test.YtbnonpbnhenkfaaGreatDoorCards
import Derived.JoinedCond
set_option linter.all false
set_option maxRecDepth 1000000
set_option maxHeartbeats 8000000
section
namespace Go.Proofs.YtbnonpbnhenkfaaGreatDoor.topTight
open Go.ChangeShapes Go.WideShapes Go.ChangeAt
theorem e1:(Rows.topTightRow.wideKeys==(Tryz.f5.params.toList++Rows.topTightSpec.plain.varTypes Tryz.prog++Tryz.f5.resultTypes.toList).any (Tryz.prog.wideKeysFrom ·))=true:=by kernel_rfl
theorem e2:(Rows.topTightSpec.vars.all (Tryz.prog.varReadable ·)&&Tryz.f5.resultTypes.all (fun t=>Tryz.prog.readableRec t&&decide (t<Tryz.prog.types.size))&&(Rows.topTightRow.ifacesOut==Tryz.f5.resultTypes.toList.any (Tryz.prog.ifacesRec ·))&&(Rows.topTightRow.loopsOut==Tryz.f5.resultTypes.toList.any (Tryz.prog.loopsFrom ·)))=true:=by kernel_rfl
theorem e3:Tryz.prog.stopsHeard=true:=by kernel_rfl
theorem e4:Tryz.prog.mayEnter=true:=by kernel_rfl
theorem e5:(Rows.topTightRow.lifted==Tryz.prog.liftsFinal)=true:=by kernel_rfl
theorem e6:(Tryz.prog.make==some Rows.topTightRow.make)=true:=by kernel_rfl
theorem e7:(Rows.topTightRow.pinned==Rows.topTightRow.pinnedBy)=true:=by kernel_rfl
theorem e8:(Rows.topTightRow.veiled==(Tryz.f5.params.toList++Rows.topTightSpec.plain.varTypes Tryz.prog++Tryz.f5.resultTypes.toList).any (Tryz.prog.veiledRec ·))=true:=by kernel_rfl
theorem e9:Rows.topTightRow.veiledFits Tryz.prog Tryz.f5.params.toList (Tryz.f5.params.toList++Rows.topTightSpec.plain.varTypes Tryz.prog++Tryz.f5.resultTypes.toList)=true:=by kernel_rfl
end Go.Proofs.YtbnonpbnhenkfaaGreatDoor.topTight
end
