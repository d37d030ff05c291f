/- The closed facts of the row. -/
import Derived.Test.YtikpijbeobeckaaGreatDoorTie
import Derived.JoinedCond
set_option linter.unusedVariables false
namespace Go.Proofs.YtikpijbeobeckaaGreatDoor.leastAgain
open Go
theorem j1:(Rows.leastAgainRow.inPlace == Tryz.prog.inPlace 4)=true:=by kernel_rfl
theorem j2:(Rows.leastAgainRow.unfollowed == Tryz.prog.unfollowed 4)=true:=by kernel_rfl
theorem j3:(Rows.leastAgainRow.recurses == Tryz.prog.recurses 4)=true:=by kernel_rfl
theorem j4:(Rows.leastAgainRow.named == Tryz.prog.varsNamed 4)=true:=by kernel_rfl
set_option maxRecDepth 100000 in
theorem joined:joinedFacts Tryz.pinned.checked.prog 4 Tryz.f4 (OpenSpec.ofChange Rows.leastAgainSpec).bare Rows.leastAgainRow=true:=by
 show joinedFacts Tryz.prog 4 Tryz.f4 (OpenSpec.ofChange Rows.leastAgainSpec).bare Rows.leastAgainRow=true
 unfold joinedFacts
 rw [j1,j2,j3,j4]
 kernel_rfl
end Go.Proofs.YtikpijbeobeckaaGreatDoor.leastAgain

