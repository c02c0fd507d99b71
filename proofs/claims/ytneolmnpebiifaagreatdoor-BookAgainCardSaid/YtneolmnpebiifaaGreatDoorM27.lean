/- Texts laid together: ShelfR5 ShelfR6. -/
import Derived.Deep.CutRange
import Derived.Test.YtneolmnpebiifaaGreatDoorM22
import Derived.Test.YtneolmnpebiifaaGreatDoorM26
import Derived.Test.YtneolmnpebiifaaGreatDoorM3
section
/- The reference's shelf: Drop. -/
set_option linter.unusedSimpArgs false
set_option linter.unusedVariables false
namespace Go.Proofs.YtneolmnpebiifaaGreatDoor
open Go.RowKit Go.Ofp
set_option linter.unusedVariables false
set_option maxRecDepth 100000
set_option maxHeartbeats 4000000
end Go.Proofs.YtneolmnpebiifaaGreatDoor
end

section
/- The reference's shelf: its calls told alike; the shelf behind an act. -/
set_option linter.unusedSimpArgs false
set_option linter.unusedVariables false
namespace Go.Ofp
/-- The shelf behind an act. -/
def ShS.act (s : ShS) (kd id sq : Int) (p : Pt) : ShS := if kd = 0 then (s.add p).1 else if kd = 1 then (s.write id p).1 else if kd = 2 then (s.drop id sq).1 else s.trim sq
theorem ShOk.act {s : ShS} (h : ShOk s) (kd id sq : Int) (p : Pt) (hp : p.lab < 4294967296) : ShOk (s.act kd id sq p) := by
  unfold ShS.act
  split
  · exact h.add p hp
  · split
    · exact h.write id p hp
    · split
      · exact h.drop id sq
      · exact h.trim sq
theorem add_f {s : ShS} (p : Pt) : (s.add p).2.1.f.length = 8 := by
  unfold ShS.add
  split
  · rfl
  · split
    · rfl
    · exact fresh_f _ _
theorem write_f {s : ShS} (h : ShOk s) (id : Int) (p : Pt) : (s.write id p).2.1.f.length = 8 := by
  unfold ShS.write
  split
  · rfl
  · split
    · rfl
    · split
      · rfl
      · exact (merge_f _ _).trans (get_f h id)
end Go.Ofp
namespace Go.Proofs.YtneolmnpebiifaaGreatDoor
open Go.RowKit Go.Ofp
set_option linter.unusedVariables false
end Go.Proofs.YtneolmnpebiifaaGreatDoor
end
