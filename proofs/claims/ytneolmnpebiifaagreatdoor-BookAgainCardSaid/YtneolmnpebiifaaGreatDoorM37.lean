/- Texts laid together: BookEditR. -/
import Derived.Test.YtneolmnpebiifaaGreatDoorM18
import Derived.Test.YtneolmnpebiifaaGreatDoorM23
import Derived.Test.YtneolmnpebiifaaGreatDoorM3
section
/- Edits: what is wrong with one, by the reference. -/
set_option linter.unusedSimpArgs false
set_option linter.unusedVariables false
namespace Go.Ofp
open Go.RowKit
def Ed.c1 (e : Ed) : Bool := (!hasG e.kind && !(e.group == 0)) || ((!hasI e.kind && !(e.id == 0)) || (!hasP e.kind && !decide (e.p = Pt.zero)))
def Ed.c2 (e : Ed) : Bool := decide (e.group < 0) || (decide (16 ≤ e.group) || (hasI e.kind && (decide (e.id < 1) || decide (1073741824 ≤ e.id))))
end Go.Ofp
namespace Go.Proofs.YtneolmnpebiifaaGreatDoor
open Go.RowKit Go.Ofp
set_option linter.unusedVariables false
set_option maxRecDepth 100000
set_option maxHeartbeats 4000000
end Go.Proofs.YtneolmnpebiifaaGreatDoor
end
