/- Part 14 of the proof; the last part says what is proved. -/
import Derived.Test.YtbnonpbnhenkfaaGreatDoorQ01
import Derived.Test.YtbnonpbnhenkfaaGreatDoorCards
import Derived.JoinedCond
set_option linter.all false
set_option maxRecDepth 1000000
set_option maxHeartbeats 8000000
section
namespace Go.Proofs.YtbnonpbnhenkfaaGreatDoor.topSafe
open Go.Proofs.Tryz
open Go.ChangeShapes Go.WideShapes Go.ChangeAt
def d1:(Rows.topSafeRow.maps==(f4.params.toList++Rows.topSafeSpec.plain.varTypes prog).any (prog.mapsRec ·))=true:=by kernel_rfl
def d2:(Rows.topSafeRow.ifaces==(f4.params.toList++Rows.topSafeSpec.plain.varTypes prog).any (prog.ifacesRec ·))=true:=by kernel_rfl
def d3:(Rows.topSafeRow.mapsOut==prog.mapsAmong f4.resultTypes.toList)=true:=by kernel_rfl
def d4:(Rows.topSafeRow.loops==(f4.params.toList++Rows.topSafeSpec.plain.varTypes prog).any (prog.loopsFrom ·))=true:=by kernel_rfl
def d5:(Rows.topSafeRow.plainKeys==prog.plainKeys)=true:=by kernel_rfl
def d6:Rows.topSafeRow.shortTexts.isNone=true:=by kernel_rfl
theorem d8:Tryz.pinned.checked.prog.funcNamed Rows.topSafeRow.func=some 4:=by kernel_rfl
theorem d9:Tryz.f4.isInstance Tryz.pinned.checked.prog Rows.topSafeRow.origin Rows.topSafeRow.targs:=j5 (by kernel_rfl)
theorem KY:Tryz.f4.isWrapper Tryz.pinned.checked.prog Rows.topSafeRow.wrapper Rows.topSafeRow.mainSum:=by unfold Func.isWrapper;first|(rw[z7 (by decide +kernel)];kernel_rfl)|(rw[y8 (by decide +kernel)];exact⟨rfl,rfl⟩)
end Go.Proofs.YtbnonpbnhenkfaaGreatDoor.topSafe
end
