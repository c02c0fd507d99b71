/- Texts laid together: Grp8 Grp9. -/
import Derived.Test.YtneolmnpebiifaaGreatDoorM14
import Derived.Test.YtneolmnpebiifaaGreatDoorM3
section
/- Groups: the document's calls. -/
set_option linter.unusedSimpArgs false
set_option linter.unusedVariables false
namespace Go.Ofp
open Go.RowKit
section
variable {P : Program} {w w0 : World} {F : List Nat} {L : List Ch} {ops : Array Oper} {rest : List Oper} {o : Oper} {a : Act} {Q : Exit → Act → World → Prop} {K : Act → World → Prop}
end
end Go.Ofp
namespace Go.Proofs.YtneolmnpebiifaaGreatDoor
open Go.RowKit Go.Ofp
set_option linter.unusedVariables false
set_option maxRecDepth 100000
set_option maxHeartbeats 4000000

end Go.Proofs.YtneolmnpebiifaaGreatDoor
end

section
/- Groups: the document's calls: one turned, a card that joins and quits, one opened, one closed. -/
set_option linter.unusedSimpArgs false
set_option linter.unusedVariables false
namespace Go.Proofs.YtneolmnpebiifaaGreatDoor
open Go.RowKit Go.Ofp
set_option linter.unusedVariables false
set_option maxRecDepth 100000
set_option maxHeartbeats 4000000

theorem build_g2 (g : Int) (A : Option Addr) (N C : Nat) (w : World) : (Instr.build 82 #[(0, .int .i64 g), (1, .slice A N C)]).run Tryz.prog w = .ok (.agg #[.int .i64 g, .slice A N C]) w := by kernel_rfl

end Go.Proofs.YtneolmnpebiifaaGreatDoor
end
