/- Texts laid together: TransOf. -/
import Derived.Test.YtajldelodnjmoaaM13
import Derived.Test.YtajldelodnjmoaaM15
section
/- A card's turn: the program's and the document's. -/
set_option linter.unusedSimpArgs false
set_option linter.unusedVariables false
namespace Go.Ofp
open Go.RowKit
end Go.Ofp
namespace Go.Proofs.Ytajldelodnjmoaa
open Go.RowKit Go.Ofp
set_option linter.unusedVariables false
set_option maxRecDepth 100000
set_option maxHeartbeats 4000000
end Go.Proofs.Ytajldelodnjmoaa
end
