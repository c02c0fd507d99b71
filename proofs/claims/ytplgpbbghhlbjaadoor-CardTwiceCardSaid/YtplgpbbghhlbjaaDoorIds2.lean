/- Lists of numbers: the document's lists. -/
import Derived.Test.YtplgpbbghhlbjaaDoorSt6
import Derived.Test.YtplgpbbghhlbjaaDoorIds1
set_option linter.unusedSimpArgs false
set_option linter.unusedVariables false
namespace Go.Proofs.YtplgpbbghhlbjaaDoor
open Go.RowKit Go.Ofp
set_option linter.unusedVariables false
set_option maxRecDepth 100000
set_option maxHeartbeats 4000000

theorem elem_i : Elem Tryd.prog 3 (.int .i64 0) 1 8 := Elem.mk (by kernel_rfl) (by rfl) (by decide)
theorem vi_one (l : List Int) : ∀ u ∈ l.map vi, u.oneCell' = true := by
  intro u hu
  obtain ⟨_, _, rfl⟩ := List.mem_map.1 hu
  rfl

/-- A list that a callee made. -/
def irow (a : Option Addr) (c : Nat) (l : List Int) : Ch := Ch.row 3 1 (.slice a l.length c) l.length (l.map vi)
def IntsRet (l : List Int) (w : World) (e : Ending) (w' : World) : Prop := ∃ a c, e = .returned (.slice a l.length c) ∧ l.length ≤ c ∧ c ≤ maxLen ∧ St w [] [irow a c l] w'

end Go.Proofs.YtplgpbbghhlbjaaDoor
