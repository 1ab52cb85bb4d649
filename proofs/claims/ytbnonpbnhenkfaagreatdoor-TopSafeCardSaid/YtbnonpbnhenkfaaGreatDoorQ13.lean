/- Part 13 of the proof; the last part says what is proved. -/
import Derived.Test.YtbnonpbnhenkfaaGreatDoorQ01
import Derived.Test.YtbnonpbnhenkfaaGreatDoorCards
import Derived.JoinedCond
set_option linter.all false
set_option maxRecDepth 1000000
set_option maxHeartbeats 8000000
section
namespace Go.Proofs.YtbnonpbnhenkfaaGreatDoor.topSafe
open Go.Proofs.Tryz
open Go.ChangeShapes Go.WideShapes Go.ChangeAt
def c1:(Rows.topSafeRow.wf (OpenSpec.ofChange Rows.topSafeSpec)&&laidOutB prog&&mapsRowed prog&&f4.params.all (prog.readableRec ·)&&namedTie prog Rows.topSafeRow.named Rows.topSafeSpec.vars)=true:=by kernel_rfl
def c2:(prog.stops==[])=true:=by kernel_rfl
def c3:(prog.stopKnobs==[])=true:=by kernel_rfl
def c4:(Rows.topSafeRow.inPlace==prog.inPlace 4)=true:=by kernel_rfl
def c5:(Rows.topSafeRow.unfollowed==prog.unfollowed 4)=true:=by kernel_rfl
def c6:(Rows.topSafeRow.recurses==prog.recurses 4)=true:=by kernel_rfl
def c7:(Rows.topSafeRow.named==prog.varsNamed 4)=true:=by kernel_rfl
end Go.Proofs.YtbnonpbnhenkfaaGreatDoor.topSafe
end
