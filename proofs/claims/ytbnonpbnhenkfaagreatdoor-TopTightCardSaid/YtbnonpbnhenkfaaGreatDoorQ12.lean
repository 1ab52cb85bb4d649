/- Part 12 of the proof; the last part says what is proved. -/
import Derived.Test.YtbnonpbnhenkfaaGreatDoorQ01
import Derived.Test.YtbnonpbnhenkfaaGreatDoorCards
import Derived.JoinedCond
set_option linter.all false
set_option maxRecDepth 1000000
set_option maxHeartbeats 8000000
section
namespace Go.Proofs.YtbnonpbnhenkfaaGreatDoor.topTight
open Go.ChangeShapes Go.WideShapes Go.ChangeAt
theorem c1:(Rows.topTightRow.wf (OpenSpec.ofChange Rows.topTightSpec)&&laidOutB Tryz.prog&&mapsRowed Tryz.prog&&Tryz.f5.params.all (Tryz.prog.readableRec ·)&&namedTie Tryz.prog Rows.topTightRow.named Rows.topTightSpec.vars)=true:=by kernel_rfl
theorem c2:(Tryz.prog.stops==[])=true:=by kernel_rfl
theorem c3:(Tryz.prog.stopKnobs==[])=true:=by kernel_rfl
theorem c4:(Rows.topTightRow.inPlace==Tryz.prog.inPlace 5)=true:=by kernel_rfl
theorem c5:(Rows.topTightRow.unfollowed==Tryz.prog.unfollowed 5)=true:=by kernel_rfl
theorem c6:(Rows.topTightRow.recurses==Tryz.prog.recurses 5)=true:=by kernel_rfl
theorem c7:(Rows.topTightRow.named==Tryz.prog.varsNamed 5)=true:=by kernel_rfl
end Go.Proofs.YtbnonpbnhenkfaaGreatDoor.topTight
end
