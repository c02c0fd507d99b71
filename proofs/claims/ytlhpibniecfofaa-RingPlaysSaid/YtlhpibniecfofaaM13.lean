/- Texts laid together: DiskRef5. -/
import Derived.Test.YtlhpibniecfofaaM12
import Derived.Test.YtlhpibniecfofaaM4
section
/- The reference's disks: Crash. -/
set_option linter.unusedSimpArgs false
set_option linter.unusedVariables false
namespace Go.Proofs.Ytlhpibniecfofaa
open Go.RowKit Go.Ofp
set_option linter.unusedVariables false
set_option maxRecDepth 100000
set_option maxHeartbeats 4000000

theorem modify_bad (l : List Sc) (q : Nat) (hq : q < l.length) : l.modify q (fun s => { s with bad := true }) = l.set q ⟨l[q].b, true⟩ := by
  apply List.ext_getElem (by simp)
  intro i h1 h2
  rw [List.getElem_modify, List.getElem_set]
  split
  · rename_i e; subst e; rfl
  · rfl

end Go.Proofs.Ytlhpibniecfofaa
end
