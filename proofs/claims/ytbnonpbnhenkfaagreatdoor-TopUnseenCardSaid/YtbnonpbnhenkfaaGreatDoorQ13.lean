/- Part 13 -/
import Derived.Test.YtbnonpbnhenkfaaGreatDoorQ01
import Derived.Test.YtbnonpbnhenkfaaGreatDoorCards
import Derived.JoinedCond
set_option linter.all false
set_option maxRecDepth 1000000
set_option maxHeartbeats 8000000
section
namespace Go.Proofs.YtbnonpbnhenkfaaGreatDoor.topUnseen
open Go.Proofs.Tryz
open Go.ChangeShapes Go.WideShapes Go.ChangeAt
def c1:(Rows.topUnseenRow.wf (OpenSpec.ofChange Rows.topUnseenSpec)&&laidOutB prog&&mapsRowed prog&&f3.params.all (prog.readableRec ·)&&namedTie prog Rows.topUnseenRow.named Rows.topUnseenSpec.vars)=true:=by kernel_rfl
def c2:(prog.stops==[])=true:=by kernel_rfl
def c3:(prog.stopKnobs==[])=true:=by kernel_rfl
def c4:(Rows.topUnseenRow.inPlace==prog.inPlace 3)=true:=by kernel_rfl
def c5:(Rows.topUnseenRow.unfollowed==prog.unfollowed 3)=true:=by kernel_rfl
def c6:(Rows.topUnseenRow.recurses==prog.recurses 3)=true:=by kernel_rfl
def c7:(Rows.topUnseenRow.named==prog.varsNamed 3)=true:=by kernel_rfl
end Go.Proofs.YtbnonpbnhenkfaaGreatDoor.topUnseen
end
