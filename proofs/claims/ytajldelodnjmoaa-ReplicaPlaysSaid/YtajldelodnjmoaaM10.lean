/- Texts laid together: IdsCheck Trans1 Ids3 Along IdsLib. -/
import Derived.Test.YtajldelodnjmoaaM3
import Derived.Test.YtajldelodnjmoaaM4
import Derived.Test.YtajldelodnjmoaaM6
import Derived.Test.YtajldelodnjmoaaM7
import Derived.Test.YtajldelodnjmoaaM8
import Derived.Test.YtajldelodnjmoaaM9
section
/- Lists of numbers: does one rise? -/
set_option linter.unusedSimpArgs false
set_option linter.unusedVariables false
namespace Go.Ofp.Ids
end Go.Ofp.Ids
namespace Go.Proofs.Ytajldelodnjmoaa
open Go.RowKit Go.Ofp
set_option linter.unusedVariables false
set_option maxRecDepth 100000
set_option maxHeartbeats 4000000

end Go.Proofs.Ytajldelodnjmoaa
end

section
/- May a turn be: the document's and the program's. -/
set_option linter.unusedSimpArgs false
set_option linter.unusedVariables false
namespace Go.Proofs.Ytajldelodnjmoaa
open Go.RowKit Go.Ofp
set_option linter.unusedVariables false
set_option maxRecDepth 100000
set_option maxHeartbeats 4000000

end Go.Proofs.Ytajldelodnjmoaa
end

section
/- Lists of numbers: one put in, all of two. -/
set_option linter.unusedSimpArgs false
set_option linter.unusedVariables false
namespace Go.Proofs.Ytajldelodnjmoaa
open Go.RowKit Go.Ofp
set_option linter.unusedVariables false
set_option maxRecDepth 100000
set_option maxHeartbeats 4000000

end Go.Proofs.Ytajldelodnjmoaa
end

section
/- Lists of numbers: the program's way along two lists. -/
set_option linter.unusedSimpArgs false
set_option linter.unusedVariables false
namespace Go.Ofp.Ids
end Go.Ofp.Ids
namespace Go.Proofs.Ytajldelodnjmoaa
open Go.RowKit Go.Ofp
set_option linter.unusedVariables false
set_option maxRecDepth 100000
set_option maxHeartbeats 4000000

end Go.Proofs.Ytajldelodnjmoaa
end

section
/- The library's looks into lists of numbers, and copies of these. -/
set_option linter.unusedSimpArgs false
set_option linter.unusedVariables false
namespace Go.Ofp.Ids
end Go.Ofp.Ids
namespace Go.Proofs.Ytajldelodnjmoaa
open Go.RowKit Go.Ofp
set_option linter.unusedVariables false
set_option maxRecDepth 100000
set_option maxHeartbeats 4000000

end Go.Proofs.Ytajldelodnjmoaa
end
