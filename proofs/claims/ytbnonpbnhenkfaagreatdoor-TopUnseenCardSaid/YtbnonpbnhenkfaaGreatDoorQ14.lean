/- Part 14 -/
import Derived.Test.YtbnonpbnhenkfaaGreatDoorQ01
import Derived.Test.YtbnonpbnhenkfaaGreatDoorCards
import Derived.JoinedCond
set_option linter.all false
set_option maxRecDepth 1000000
set_option maxHeartbeats 8000000
section
namespace Go.Proofs.YtbnonpbnhenkfaaGreatDoor.topUnseen
open Go.Proofs.Tryz
open Go.ChangeShapes Go.WideShapes Go.ChangeAt
def d1:(Rows.topUnseenRow.maps==(f3.params.toList++Rows.topUnseenSpec.plain.varTypes prog).any (prog.mapsRec ·))=true:=by kernel_rfl
def d2:(Rows.topUnseenRow.ifaces==(f3.params.toList++Rows.topUnseenSpec.plain.varTypes prog).any (prog.ifacesRec ·))=true:=by kernel_rfl
def d3:(Rows.topUnseenRow.mapsOut==prog.mapsAmong f3.resultTypes.toList)=true:=by kernel_rfl
def d4:(Rows.topUnseenRow.loops==(f3.params.toList++Rows.topUnseenSpec.plain.varTypes prog).any (prog.loopsFrom ·))=true:=by kernel_rfl
def d5:(Rows.topUnseenRow.plainKeys==prog.plainKeys)=true:=by kernel_rfl
def d6:Rows.topUnseenRow.shortTexts.isNone=true:=by kernel_rfl
theorem d8:Tryz.pinned.checked.prog.funcNamed Rows.topUnseenRow.func=some 3:=by kernel_rfl
theorem d9:Tryz.f3.isInstance Tryz.pinned.checked.prog Rows.topUnseenRow.origin Rows.topUnseenRow.targs:=j5 (by kernel_rfl)
theorem KY:Tryz.f3.isWrapper Tryz.pinned.checked.prog Rows.topUnseenRow.wrapper Rows.topUnseenRow.mainSum:=by unfold Func.isWrapper;first|(rw[z7 (by decide +kernel)];kernel_rfl)|(rw[y8 (by decide +kernel)];exact⟨rfl,rfl⟩)
end Go.Proofs.YtbnonpbnhenkfaaGreatDoor.topUnseen
end
