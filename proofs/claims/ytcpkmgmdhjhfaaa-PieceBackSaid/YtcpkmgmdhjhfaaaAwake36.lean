/- The chapter's example of layer 36. -/
import Derived.Test.YtcpkmgmdhjhfaaaPiece
set_option linter.unusedSimpArgs false
set_option linter.unusedVariables false
namespace Go.Proofs.Ytcpkmgmdhjhfaaa
open Go.RowKit Go.Ofp
set_option linter.unusedVariables false
set_option maxRecDepth 100000
set_option maxHeartbeats 4000000

theorem awake36_any (w : World) : Calls Try.prog 19 #[] w fun e w' => e = .returned (.bool true) ∧ w = w' := by
  have m0 : ∀ w : World, Calls Try.prog 46 #[.int .i64 0] w fun e w' => e = .returned (.int .i64 1) ∧ w = w' := fun w => many_any 0 w (by unfold maxLen; omega)
  have m1 : ∀ w : World, Calls Try.prog 46 #[.int .i64 52] w fun e w' => e = .returned (.int .i64 1) ∧ w = w' := fun w => many_any 52 w (by unfold maxLen; omega)
  have m2 : ∀ w : World, Calls Try.prog 46 #[.int .i64 53] w fun e w' => e = .returned (.int .i64 2) ∧ w = w' := fun w => many_any 53 w (by unfold maxLen; omega)
  go_enter Try.func19, Try.ntmps19
  go_wp2_with (go_at_call 46; first
    | (with_reducible refine (m0 _).mono ?_; rintro _ _ ⟨rfl, rfl⟩)
    | (with_reducible refine (m1 _).mono ?_; rintro _ _ ⟨rfl, rfl⟩)
    | (with_reducible refine (m2 _).mono ?_; rintro _ _ ⟨rfl, rfl⟩))
  go_ret
  exact ⟨rfl, rfl⟩

end Go.Proofs.Ytcpkmgmdhjhfaaa
