/- Texts laid together: TransOnce TransEq. -/
import Derived.Test.YtajldelodnjmoaaM13
import Derived.Test.YtajldelodnjmoaaM14
import Derived.Test.YtajldelodnjmoaaM6
import Derived.Test.YtajldelodnjmoaaM8
section
/- The law TransOnce. -/
set_option linter.unusedSimpArgs false
set_option linter.unusedVariables false
namespace Go.Proofs.Ytajldelodnjmoaa
open Go.RowKit Go.Ofp
set_option linter.unusedVariables false
set_option maxRecDepth 100000
set_option maxHeartbeats 4000000

end Go.Proofs.Ytajldelodnjmoaa
end

section
/- Turns and items, compared. -/
set_option linter.unusedSimpArgs false
set_option linter.unusedVariables false
namespace Go.Proofs.Ytajldelodnjmoaa
open Go.RowKit Go.Ofp
set_option linter.unusedVariables false
set_option maxRecDepth 100000
set_option maxHeartbeats 4000000
theorem part_i (R : List Value) (j : Nat) (x : Int) (h : R[j]? = some (.int .i64 x)) (w : World) : (part 3 R.toArray j).run Try.prog w = .ok (.int .i64 x) w := by
  have h' : R.toArray[j]? = some (.int .i64 x) := by simpa using h
  unfold part
  go_simp
end Go.Proofs.Ytajldelodnjmoaa
end
