/- The closed facts of the row. -/
import Derived.Test.YtikpijbeobeckaaGreatDoorTie
import Derived.JoinedCond
set_option linter.unusedVariables false
namespace Go.Proofs.YtikpijbeobeckaaGreatDoor.leastFacts
open Go
theorem j1:(Rows.leastFactsRow.inPlace == Tryz.prog.inPlace 3)=true:=by kernel_rfl
theorem j2:(Rows.leastFactsRow.unfollowed == Tryz.prog.unfollowed 3)=true:=by kernel_rfl
theorem j3:(Rows.leastFactsRow.recurses == Tryz.prog.recurses 3)=true:=by kernel_rfl
theorem j4:(Rows.leastFactsRow.named == Tryz.prog.varsNamed 3)=true:=by kernel_rfl
set_option maxRecDepth 100000 in
theorem joined:joinedFacts Tryz.pinned.checked.prog 3 Tryz.f3 (OpenSpec.ofChange Rows.leastFactsSpec).bare Rows.leastFactsRow=true:=by
 show joinedFacts Tryz.prog 3 Tryz.f3 (OpenSpec.ofChange Rows.leastFactsSpec).bare Rows.leastFactsRow=true
 unfold joinedFacts
 rw [j1,j2,j3,j4]
 kernel_rfl
end Go.Proofs.YtikpijbeobeckaaGreatDoor.leastFacts

