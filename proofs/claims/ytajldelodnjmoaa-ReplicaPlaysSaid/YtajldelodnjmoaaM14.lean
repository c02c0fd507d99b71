/- Texts laid together: Trans4 TransItem. -/
import Derived.Test.YtajldelodnjmoaaM12
import Derived.Test.YtajldelodnjmoaaM3
import Derived.Test.YtajldelodnjmoaaM6
section
/- Do turns go on: the document's. -/
set_option linter.unusedSimpArgs false
set_option linter.unusedVariables false
namespace Go.Proofs.Ytajldelodnjmoaa
open Go.RowKit Go.Ofp
set_option linter.unusedVariables false
set_option maxRecDepth 100000
set_option maxHeartbeats 4000000

end Go.Proofs.Ytajldelodnjmoaa
end

section
/- Which items may be: plain law. -/
set_option linter.unusedSimpArgs false
set_option linter.unusedVariables false
namespace Go.Ofp

/-- May an item be? -/
def It.may (ok : Cd → Bool) (x : It) : Bool :=
  if x.kind = 1 ∨ x.kind = 3 then ok x.c else if x.kind = 2 then decide (x.c = Cd.none x.c.id) else false
/-- Behind an item of the card `last`. -/
def itsMay (ok : Cd → Bool) : Int → List It → Bool
  | _, [] => true
  | last, x :: r => decide (last < x.c.id) && decide (x.c.id < 1073741824) && x.may ok && itsMay ok x.c.id r
theorem itsMay_spec {ok : Cd → Bool} : ∀ (last : Int) (l : List It), itsMay ok last l = true → RisI l ∧ ∀ x ∈ l, last < x.c.id ∧ x.c.id < 1073741824 ∧ x.may ok = true
  | _, [], _ => ⟨List.Pairwise.nil, by simp⟩
  | last, x :: r, h => by
    unfold itsMay at h
    simp only [Bool.and_eq_true, decide_eq_true_eq] at h
    obtain ⟨⟨⟨h1, h2⟩, h3⟩, h4⟩ := h
    obtain ⟨r1, r2⟩ := itsMay_spec x.c.id r h4
    refine ⟨List.pairwise_cons.2 ⟨fun y hy => (r2 y hy).1, r1⟩, fun y hy => ?_⟩
    rcases List.mem_cons.1 hy with rfl | hy
    · exact ⟨h1, h2, h3⟩
    · have := r2 y hy
      exact ⟨by omega, this.2⟩
theorem may_kind {ok : Cd → Bool} {x : It} (h : x.may ok = true) : x.kind = 1 ∨ x.kind = 2 ∨ x.kind = 3 := by
  unfold It.may at h
  by_cases h1 : x.kind = 1 ∨ x.kind = 3
  · omega
  · rw [if_neg h1] at h
    by_cases h2 : x.kind = 2
    · omega
    · rw [if_neg h2] at h; cases h

section
variable {ok : Cd → Bool}
end
end Go.Ofp
end
