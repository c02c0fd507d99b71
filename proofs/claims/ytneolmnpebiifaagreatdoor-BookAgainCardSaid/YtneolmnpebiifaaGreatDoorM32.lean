/- Texts laid together: BookR1 BookR2. -/
import Derived.Test.YtneolmnpebiifaaGreatDoorM27
import Derived.Test.YtneolmnpebiifaaGreatDoorM3
import Derived.Test.YtneolmnpebiifaaGreatDoorM30
import Derived.Test.YtneolmnpebiifaaGreatDoorM31
section
/- The reference's book: step, close. -/
set_option linter.unusedSimpArgs false
set_option linter.unusedVariables false
namespace Go.Proofs.YtneolmnpebiifaaGreatDoor
open Go.RowKit Go.Ofp
set_option linter.unusedVariables false
set_option maxRecDepth 100000
set_option maxHeartbeats 4000000
end Go.Proofs.YtneolmnpebiifaaGreatDoor
end

section
/- The reference's book: groups. -/
set_option linter.unusedSimpArgs false
set_option linter.unusedVariables false
namespace Go.Ofp
theorem act4 (b : BkS) (e : Ed) (h : e.kind = 4) : b.act e = ((openK b.ks e.group).1, [0], b.sh, (openK b.ks e.group).2) := by unfold BkS.act; rw [h]; rfl
theorem act6 (b : BkS) (e : Ed) (h : e.kind = 6) : b.act e = (if (b.sh.get e.id).2 ≠ 0 then ((b.sh.get e.id).2, [], b.sh, b.ks) else ((joinK b.ks e.group e.id).1, [e.id], b.sh, (joinK b.ks e.group e.id).2)) := by unfold BkS.act; rw [h]; rfl
theorem act7 (b : BkS) (e : Ed) (h : e.kind = 7) : b.act e = ((quitK b.ks e.group e.id).1, [e.id], b.sh, (quitK b.ks e.group e.id).2) := by unfold BkS.act; rw [h]; rfl
theorem act1 (b : BkS) (e : Ed) (h : e.kind = 1) : b.act e = ((b.sh.add e.p).2.2, [(b.sh.add e.p).2.1.id], (b.sh.add e.p).1, b.ks) := by unfold BkS.act; rw [h]; rfl
theorem act2 (b : BkS) (e : Ed) (h : e.kind = 2) : b.act e = ((b.sh.write e.id e.p).2.2, [e.id], (b.sh.write e.id e.p).1, b.ks) := by unfold BkS.act; rw [h]; rfl
theorem act3 (b : BkS) (e : Ed) (h : e.kind = 3) : b.act e = ((b.sh.drop e.id (b.seq + 1)).2, [e.id], (b.sh.drop e.id (b.seq + 1)).1, leaveK b.ks e.id) := by unfold BkS.act; rw [h]; rfl
theorem act5 (b : BkS) (e : Ed) (h : e.kind = 5) : b.act e = ((closeK b.ks e.group).1, membersK b.ks e.group ++ [0], b.sh, (closeK b.ks e.group).2) := by unfold BkS.act; rw [h]; rfl
end Go.Ofp
namespace Go.Proofs.YtneolmnpebiifaaGreatDoor
open Go.RowKit Go.Ofp
set_option linter.unusedVariables false
set_option maxRecDepth 100000
set_option maxHeartbeats 8000000
end Go.Proofs.YtneolmnpebiifaaGreatDoor
end
