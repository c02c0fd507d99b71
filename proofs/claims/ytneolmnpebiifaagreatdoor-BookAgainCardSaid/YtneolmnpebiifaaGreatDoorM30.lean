/- Texts laid together: Rsb. -/
import Derived.Test.YtneolmnpebiifaaGreatDoorM25
import Derived.Test.YtneolmnpebiifaaGreatDoorM26
import Derived.Test.YtneolmnpebiifaaGreatDoorM3
section
/- The reference's shelf within its book: Trim, Add (printed by gen_rsb.py). -/
set_option linter.unusedSimpArgs false
set_option linter.unusedVariables false
namespace Go.Proofs.YtneolmnpebiifaaGreatDoor
open Go.RowKit Go.Ofp
set_option linter.unusedVariables false
set_option maxRecDepth 100000
set_option maxHeartbeats 4000000
end Go.Proofs.YtneolmnpebiifaaGreatDoor
end
