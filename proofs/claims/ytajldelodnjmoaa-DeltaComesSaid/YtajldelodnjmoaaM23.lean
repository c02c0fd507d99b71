/- Texts laid together: TransApplies. -/
import Derived.Test.YtajldelodnjmoaaM21
import Derived.Test.YtajldelodnjmoaaM22
section
/- The law TransApplies. -/
set_option linter.unusedSimpArgs false
set_option linter.unusedVariables false
namespace Go.Ofp
open Go.RowKit
theorem ris_of_adj {cs : List Cd} (h : ∀ k (hk : k + 1 < cs.length), cs[k].id < cs[k + 1].id) : RisC cs := by
  unfold RisC
  rw [List.pairwise_iff_getElem]
  intro i j hi hj hij
  obtain ⟨d, rfl⟩ : ∃ d, j = i + 1 + d := ⟨j - i - 1, by omega⟩
  clear hij
  induction d with
  | zero => exact h i hj
  | succ d ih =>
    have h1 := ih (by omega)
    have h2 := h (i + 1 + d) (by omega)
    have e : i + 1 + (d + 1) = i + 1 + d + 1 := by omega
    simp only [e]
    omega
theorem applyC_length : ∀ {m : List Cd} {l : List It} {m' : List Cd}, applyC m l = some m' → m'.length ≤ m.length + l.length
  | m, [], m', h => by
    cases h
    simp
  | m, x :: r, m', h => by
    unfold applyC at h
    obtain ⟨m1, h1, h2⟩ := Option.bind_eq_some_iff.1 h
    have := oneC_length h1
    have := applyC_length h2
    simp only [List.length_cons]
    omega
theorem applyC_all {p : Cd → Prop} : ∀ {m : List Cd} {l : List It} {m' : List Cd}, applyC m l = some m' → (∀ c ∈ m, p c) → (∀ x ∈ l, p x.c) → ∀ c ∈ m', p c
  | m, [], m', h, hm, _ => by
    cases h
    exact hm
  | m, x :: r, m', h, hm, hx => by
    unfold applyC at h
    obtain ⟨m1, h1, h2⟩ := Option.bind_eq_some_iff.1 h
    exact applyC_all h2 (oneC_all h1 hm (hx x (by simp))) fun y hy => hx y (by simp [hy])
end Go.Ofp
namespace Go.Proofs.Ytajldelodnjmoaa
open Go.RowKit Go.Ofp
set_option linter.unusedVariables false
set_option maxRecDepth 100000
set_option maxHeartbeats 4000000

end Go.Proofs.Ytajldelodnjmoaa
end
