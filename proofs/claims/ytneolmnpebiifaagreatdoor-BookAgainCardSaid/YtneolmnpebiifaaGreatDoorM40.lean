/- Texts laid together: BookStp. -/
import Derived.Test.YtneolmnpebiifaaGreatDoorM39
section
/- Book: what an edit does, case by case. Plain law. -/
set_option linter.unusedSimpArgs false
set_option linter.unusedVariables false
namespace Go.Ofp
theorem does_err {b : BkS} {e : Ed} (h : (b.does e).2.2 ≠ 0) : (b.does e).1 = b ∧ (b.does e).2.1 = [] := by
  unfold BkS.does at *
  split
  · exact ⟨rfl, rfl⟩
  · rename_i h1
    rw [if_neg h1] at h
    split
    · exact ⟨rfl, rfl⟩
    · rename_i h2
      rw [if_neg h2] at h
      split
      · exact ⟨rfl, rfl⟩
      · rename_i h3
        rw [if_neg h3] at h
        exact absurd rfl h
theorem does_did {n : Nat} {b : BkS} (hb : BkOk n b) {e : Ed} (hp : e.p.lab < 4294967296) (h : (b.does e).2.2 = 0) : ∃ T : List Int, (b.does e).2.1 = stepsL b.seq T ∧ (b.does e).1.seq = b.seq + T.length ∧ 1 ≤ T.length ∧ T.length ≤ n + 1 ∧ ∀ x, x ∉ T → lookC (b.does e).1.sh.m x = lookC b.sh.m x ∧ ofK (b.does e).1.ks x = ofK b.ks x := by
  unfold BkS.does at *
  split at h
  · rename_i h1
    exact absurd h h1
  · rename_i h1
    split at h
    · cases h
    · rename_i h2
      split at h
      · rename_i h3
        exact absurd h h3
      · rename_i h3
        rw [if_neg h1, if_neg h2, if_neg h3]
        have h4 := Decidable.not_not.1 h3
        obtain ⟨-, -, k3, k4⟩ := act_ok hb e hp h4
        exact ⟨_, rfl, rfl, k4, k3, fun x hx => act_others hb e h4 hx⟩
end Go.Ofp
end
