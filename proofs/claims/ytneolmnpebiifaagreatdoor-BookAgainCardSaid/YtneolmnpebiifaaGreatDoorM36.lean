/- Texts laid together: Rsb5 RsbQ. -/
import Derived.Deep.CutRange
import Derived.Test.YtneolmnpebiifaaGreatDoorM27
import Derived.Test.YtneolmnpebiifaaGreatDoorM3
import Derived.Test.YtneolmnpebiifaaGreatDoorM30
import Derived.Test.YtneolmnpebiifaaGreatDoorM31
import Derived.Test.YtneolmnpebiifaaGreatDoorM35
section
/- The reference's shelf within its book: Drop (printed by gen_rsb.py). -/
set_option linter.unusedSimpArgs false
set_option linter.unusedVariables false
namespace Go.Proofs.YtneolmnpebiifaaGreatDoor
open Go.RowKit Go.Ofp
set_option linter.unusedVariables false
set_option maxRecDepth 100000
set_option maxHeartbeats 4000000
end Go.Proofs.YtneolmnpebiifaaGreatDoor
end

section
/- The reference's shelf within its book: Add, Write, Drop, Trim told alike. -/
set_option linter.unusedSimpArgs false
set_option linter.unusedVariables false
namespace Go.Proofs.YtneolmnpebiifaaGreatDoor
open Go.RowKit Go.Ofp
set_option linter.unusedVariables false
end Go.Proofs.YtneolmnpebiifaaGreatDoor
end
