/- Lists of numbers: the document's looks at them. -/
import Derived.Test.YtplgpbbghhlbjaaDoorSt6
import Derived.Test.YtplgpbbghhlbjaaDoorIdsMath
set_option linter.unusedSimpArgs false
set_option linter.unusedVariables false
namespace Go.Proofs.YtplgpbbghhlbjaaDoor
open Go.RowKit Go.Ofp
set_option linter.unusedVariables false
set_option maxRecDepth 100000
set_option maxHeartbeats 4000000

def vi (x : Int) : Value := .int .i64 x

theorem sl_int {w : World} {a : Option Addr} {l : List Int} (h : Sl w a (l.map vi)) (i : Nat) (hi : i < l.length) :
    ∃ b off, a = some ⟨b, off, none⟩ ∧ w.cell? ⟨b, off + i, none⟩ = some (.int .i64 (l[i])) := by
  obtain ⟨b, off, ha, hc⟩ := h i (by simpa using hi)
  exact ⟨b, off, ha, by simpa [vi] using hc⟩

theorem take_snoc_i (l : List Int) (k : Nat) (h : k < l.length) : l.take (k + 1) = l.take k ++ [l[k]] := by
  rw [List.take_succ_eq_append_getElem h]

end Go.Proofs.YtplgpbbghhlbjaaDoor
