/- Texts laid together: ShelfR3. -/
import Derived.Test.YtneolmnpebiifaaGreatDoorM12
import Derived.Test.YtneolmnpebiifaaGreatDoorM17
import Derived.Test.YtneolmnpebiifaaGreatDoorM21
import Derived.Test.YtneolmnpebiifaaGreatDoorM24
import Derived.Test.YtneolmnpebiifaaGreatDoorM3
section
/- The reference's shelf: Add. -/
set_option linter.unusedSimpArgs false
set_option linter.unusedVariables false
namespace Go.Ofp
open Go.RowKit
section
variable {P : Program} {w w0 : World} {F : List Nat} {L : List Ch} {ops : Array Oper} {rest : List Oper} {o : Oper} {a : Act} {Q : Exit → Act → World → Prop} {K : Act → World → Prop}
end
end Go.Ofp
namespace Go.Proofs.YtneolmnpebiifaaGreatDoor
open Go.RowKit Go.Ofp
set_option linter.unusedVariables false
set_option maxRecDepth 100000
set_option maxHeartbeats 4000000
end Go.Proofs.YtneolmnpebiifaaGreatDoor
end
