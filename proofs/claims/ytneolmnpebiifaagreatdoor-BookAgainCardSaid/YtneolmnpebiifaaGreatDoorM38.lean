/- Texts laid together: RbDo1 RbDo3 RbDo5. -/
import Derived.Test.YtneolmnpebiifaaGreatDoorM3
import Derived.Test.YtneolmnpebiifaaGreatDoorM32
import Derived.Test.YtneolmnpebiifaaGreatDoorM36
import Derived.Test.YtneolmnpebiifaaGreatDoorM37
section
/- The reference's book: Do (Create, Write). -/
set_option linter.unusedSimpArgs false
set_option linter.unusedVariables false
namespace Go.Proofs.YtneolmnpebiifaaGreatDoor
open Go.RowKit Go.Ofp
set_option linter.unusedVariables false
set_option maxRecDepth 100000
set_option maxHeartbeats 8000000
end Go.Proofs.YtneolmnpebiifaaGreatDoor
end

section
/- The reference's book: Do (Delete). -/
set_option linter.unusedSimpArgs false
set_option linter.unusedVariables false
namespace Go.Proofs.YtneolmnpebiifaaGreatDoor
open Go.RowKit Go.Ofp
set_option linter.unusedVariables false
set_option maxRecDepth 100000
set_option maxHeartbeats 8000000
end Go.Proofs.YtneolmnpebiifaaGreatDoor
end

section
/- The reference's book: Do (Close, Open, Join, Quit; the whole). -/
set_option linter.unusedSimpArgs false
set_option linter.unusedVariables false
namespace Go.Proofs.YtneolmnpebiifaaGreatDoor
open Go.RowKit Go.Ofp
set_option linter.unusedVariables false
set_option maxRecDepth 100000
set_option maxHeartbeats 8000000
end Go.Proofs.YtneolmnpebiifaaGreatDoor
end
