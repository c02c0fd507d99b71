/- Texts laid together: TransTwice. -/
import Derived.Test.YtajldelodnjmoaaM23
import Derived.Test.YtajldelodnjmoaaM24
section
/- The law TransTwice. -/
set_option linter.unusedSimpArgs false
set_option linter.unusedVariables false
namespace Go.Ofp
open Go.RowKit
theorem Lst.none {α : Type} {row : α → List Value} {In : α → Prop} (w : World) (a : Option Addr) : Lst row In w a 0 0 [] := ⟨Sl.nil _ _, rfl, Nat.le_refl _, by decide, by simp⟩
end Go.Ofp
namespace Go.Proofs.Ytajldelodnjmoaa
open Go.RowKit Go.Ofp
set_option linter.unusedVariables false
set_option maxRecDepth 100000
set_option maxHeartbeats 4000000

end Go.Proofs.Ytajldelodnjmoaa
end
