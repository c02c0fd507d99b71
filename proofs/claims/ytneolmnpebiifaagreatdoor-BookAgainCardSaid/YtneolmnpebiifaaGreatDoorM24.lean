/- Texts laid together: ShelfR2. -/
import Derived.Test.YtneolmnpebiifaaGreatDoorM22
import Derived.Test.YtneolmnpebiifaaGreatDoorM23
import Derived.Test.YtneolmnpebiifaaGreatDoorM3
section
/- The reference's shelf: Trim. Its lists are told as facts, not as pieces. -/
set_option linter.unusedSimpArgs false
set_option linter.unusedVariables false
namespace Go.Proofs.YtneolmnpebiifaaGreatDoor
open Go.RowKit Go.Ofp
set_option linter.unusedVariables false
set_option maxRecDepth 100000
set_option maxHeartbeats 4000000
end Go.Proofs.YtneolmnpebiifaaGreatDoor
end
