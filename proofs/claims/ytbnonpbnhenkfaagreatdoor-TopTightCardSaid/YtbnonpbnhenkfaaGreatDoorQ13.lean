/- Part 13 of the proof; the last part says what is proved. -/
import Derived.Test.YtbnonpbnhenkfaaGreatDoorQ01
import Derived.Test.YtbnonpbnhenkfaaGreatDoorCards
import Derived.JoinedCond
set_option linter.all false
set_option maxRecDepth 1000000
set_option maxHeartbeats 8000000
section
namespace Go.Proofs.YtbnonpbnhenkfaaGreatDoor.topTight
open Go.ChangeShapes Go.WideShapes Go.ChangeAt
theorem d1:(Rows.topTightRow.maps==(Tryz.f5.params.toList++Rows.topTightSpec.plain.varTypes Tryz.prog).any (Tryz.prog.mapsRec ·))=true:=by kernel_rfl
theorem d2:(Rows.topTightRow.ifaces==(Tryz.f5.params.toList++Rows.topTightSpec.plain.varTypes Tryz.prog).any (Tryz.prog.ifacesRec ·))=true:=by kernel_rfl
theorem d3:(Rows.topTightRow.mapsOut==Tryz.prog.mapsAmong Tryz.f5.resultTypes.toList)=true:=by kernel_rfl
theorem d4:(Rows.topTightRow.loops==(Tryz.f5.params.toList++Rows.topTightSpec.plain.varTypes Tryz.prog).any (Tryz.prog.loopsFrom ·))=true:=by kernel_rfl
theorem d5:(Rows.topTightRow.plainKeys==Tryz.prog.plainKeys)=true:=by kernel_rfl
theorem d6:Rows.topTightRow.shortTexts.isNone=true:=by kernel_rfl
theorem d8:Tryz.pinned.checked.prog.funcNamed Rows.topTightRow.func=some 5:=by kernel_rfl
theorem d9:Tryz.f5.isInstance Tryz.pinned.checked.prog Rows.topTightRow.origin Rows.topTightRow.targs:=aat (by kernel_rfl)
theorem d10:Tryz.f5.isWrapper Tryz.pinned.checked.prog Rows.topTightRow.wrapper Rows.topTightRow.mainSum:=by unfold Func.isWrapper;first|(rw[abb (by decide +kernel)];kernel_rfl)|(rw[abg (by decide +kernel)];exact⟨rfl,rfl⟩)
end Go.Proofs.YtbnonpbnhenkfaaGreatDoor.topTight
end
