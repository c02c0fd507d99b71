/- Texts laid together: TransAp. -/
import Derived.Test.YtajldelodnjmoaaM13
section
/- Cards behind items: the program's. -/
set_option linter.unusedSimpArgs false
set_option linter.unusedVariables false
namespace Go.Ofp
open Go.RowKit
/-- What is known of cards in memory. -/
structure CdOk (c : Cd) : Prop where
  f : c.f.length = 8
  id : -9223372036854775808 ≤ c.id ∧ c.id ≤ 9223372036854775807
structure ItOk (x : It) : Prop where
  c : CdOk x.c
  kind : x.kind = 1 ∨ x.kind = 2 ∨ x.kind = 3
end Go.Ofp
namespace Go.Proofs.Ytajldelodnjmoaa
open Go.RowKit Go.Ofp
set_option linter.unusedVariables false
set_option maxRecDepth 100000
set_option maxHeartbeats 4000000

end Go.Proofs.Ytajldelodnjmoaa
end
