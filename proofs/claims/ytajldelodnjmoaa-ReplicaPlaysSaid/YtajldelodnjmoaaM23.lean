/- Texts laid together: TransApplies. -/
import Derived.Test.YtajldelodnjmoaaM21
import Derived.Test.YtajldelodnjmoaaM22
section
/- The law TransApplies. -/
set_option linter.unusedSimpArgs false
set_option linter.unusedVariables false
namespace Go.Ofp
open Go.RowKit
theorem applyC_length : ∀ {m : List Cd} {l : List It} {m' : List Cd}, applyC m l = some m' → m'.length ≤ m.length + l.length
  | m, [], m', h => by
    cases h
    simp
  | m, x :: r, m', h => by
    unfold applyC at h
    obtain ⟨m1, h1, h2⟩ := Option.bind_eq_some_iff.1 h
    have := oneC_length h1
    have := applyC_length h2
    simp only [List.length_cons]
    omega
theorem applyC_all {p : Cd → Prop} : ∀ {m : List Cd} {l : List It} {m' : List Cd}, applyC m l = some m' → (∀ c ∈ m, p c) → (∀ x ∈ l, p x.c) → ∀ c ∈ m', p c
  | m, [], m', h, hm, _ => by
    cases h
    exact hm
  | m, x :: r, m', h, hm, hx => by
    unfold applyC at h
    obtain ⟨m1, h1, h2⟩ := Option.bind_eq_some_iff.1 h
    exact applyC_all h2 (oneC_all h1 hm (hx x (by simp))) fun y hy => hx y (by simp [hy])
end Go.Ofp
namespace Go.Proofs.Ytajldelodnjmoaa
open Go.RowKit Go.Ofp
set_option linter.unusedVariables false
set_option maxRecDepth 100000
set_option maxHeartbeats 4000000

theorem cd_ok {c : Cd} (h : CdIn c) : CdOk c := ⟨h.len, h.id⟩

end Go.Proofs.Ytajldelodnjmoaa
end
