/- Texts laid together: Grp10 GrpLaws GrpMath. -/
import Derived.Test.YtneolmnpebiifaaGreatDoorM15
import Derived.Test.YtneolmnpebiifaaGreatDoorM3
section
/- Groups: the document's calls: one opened, one closed, groups without a card. -/
set_option linter.unusedSimpArgs false
set_option linter.unusedVariables false
namespace Go.Proofs.YtneolmnpebiifaaGreatDoor
open Go.RowKit Go.Ofp
set_option linter.unusedVariables false
set_option maxRecDepth 100000
set_option maxHeartbeats 4000000

theorem row2_one (g : Int) (A : Option Addr) (N C : Nat) : ∀ u ∈ [Value.int .i64 g, .slice A N C], u.oneCell' = true := by
  intro u hu
  simp only [List.mem_cons, List.not_mem_nil, or_false] at hu
  rcases hu with rfl | rfl <;> rfl

end Go.Proofs.YtneolmnpebiifaaGreatDoor
end

section
/- The laws GroupDoes and GroupTells: what any call makes of groups; members, a card's groups, groups without it: the walk of them. -/
set_option linter.unusedSimpArgs false
set_option linter.unusedVariables false
namespace Go.Ofp
/-- Groups that may be, and are not more than are looked at. -/
structure OkK (ks : List Key) : Prop where
  chk : chkK ks = true
  len : ks.length ≤ 200
  mem : ∀ k ∈ ks, k.2.length ≤ 2000
theorem OkK.up {gs : List Gr} (h : OkK (keys gs)) : Ids.Up (nos gs) := by
  rw [nos_keys]
  exact ((chkK_iff _).1 h.chk).1
theorem OkK.no {gs : List Gr} (h : OkK (keys gs)) : ∀ g ∈ gs, 0 ≤ g.no ∧ g.no < 16 := fun g hg => ((chkK_iff _).1 h.chk).2.1 g.key (List.mem_map_of_mem hg)
theorem OkK.rise {gs : List Gr} (h : OkK (keys gs)) : ∀ g ∈ gs, Ids.Rise g.mem := fun g hg => ((chkK_iff _).1 h.chk).2.2 g.key (List.mem_map_of_mem hg)
theorem OkK.um {gs : List Gr} (h : OkK (keys gs)) : ∀ g ∈ gs, Ids.Up g.mem := fun g hg => (h.rise g hg).1
theorem OkK.mm {gs : List Gr} (h : OkK (keys gs)) : ∀ g ∈ gs, g.mem.length ≤ 10000 := fun g hg => Nat.le_trans (h.mem g.key (List.mem_map_of_mem hg)) (by omega)
theorem OkK.nn {gs : List Gr} (h : OkK (keys gs)) : gs.length ≤ 200 := by have := h.len; simpa [keys] using this
end Go.Ofp
namespace Go.Proofs.YtneolmnpebiifaaGreatDoor
open Go.RowKit Go.Ofp
set_option linter.unusedVariables false
set_option maxRecDepth 100000
set_option maxHeartbeats 4000000

end Go.Proofs.YtneolmnpebiifaaGreatDoor
end

section
/- Groups: who is a member of which, in bits: plain law. -/
set_option linter.unusedSimpArgs false
set_option linter.unusedVariables false
namespace Go.Ofp
open Go.RowKit
theorem ofFrom_bit (id : Int) (B : List Key) (q : Nat) : ∀ s, (ofFrom id s B).testBit q = (s.testBit q || B.any fun k => decide (k.1.toNat = q) && Ids.has k.2 id) := by
  induction B with
  | nil => intro s; simp [ofFrom]
  | cons k B ih =>
    intro s
    simp only [ofFrom, List.any_cons, ih]
    cases Ids.has k.2 id with
    | false => simp
    | true => simp [Nat.testBit_or, Nat.testBit_two_pow, Bool.or_assoc]

section
variable {ks : List Key} (h : chkK ks = true)
include h
end

end Go.Ofp
end
