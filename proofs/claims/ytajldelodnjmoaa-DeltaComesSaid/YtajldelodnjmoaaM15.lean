/- Texts laid together: TransOnce TransEq. -/
import Derived.Test.YtajldelodnjmoaaM13
import Derived.Test.YtajldelodnjmoaaM14
import Derived.Test.YtajldelodnjmoaaM6
import Derived.Test.YtajldelodnjmoaaM8
section
/- The law TransOnce. -/
set_option linter.unusedSimpArgs false
set_option linter.unusedVariables false
namespace Go.Proofs.Ytajldelodnjmoaa
open Go.RowKit Go.Ofp
set_option linter.unusedVariables false
set_option maxRecDepth 100000
set_option maxHeartbeats 4000000

theorem net_f {l : List Tn} (h : ∀ t ∈ l, t.c.f.length = 8) : ∀ x ∈ netOf l, x.c.f.length = 8 := by
  intro x hx
  unfold netOf at hx
  obtain ⟨id, -, e⟩ := List.mem_filterMap.1 hx
  unfold netAt at e
  obtain ⟨a, ha, e⟩ := Option.bind_eq_some_iff.1 e
  obtain ⟨b, hb, e⟩ := Option.bind_eq_some_iff.1 e
  exact itemOf_len e (h b (lastOf_mem hb).1)
end Go.Proofs.Ytajldelodnjmoaa
end

section
/- Turns and items, compared. -/
set_option linter.unusedSimpArgs false
set_option linter.unusedVariables false
namespace Go.Proofs.Ytajldelodnjmoaa
open Go.RowKit Go.Ofp
set_option linter.unusedVariables false
set_option maxRecDepth 100000
set_option maxHeartbeats 4000000
end Go.Proofs.Ytajldelodnjmoaa
end
