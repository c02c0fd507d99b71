/- Texts laid together: TransAp. -/
import Derived.Test.YtajldelodnjmoaaM13
section
/- Cards behind items: the program's. -/
set_option linter.unusedSimpArgs false
set_option linter.unusedVariables false
namespace Go.Ofp
open Go.RowKit
theorem applyC_append : ∀ (m : List Cd) (a b : List It), applyC m (a ++ b) = (applyC m a).bind fun m' => applyC m' b
  | m, [], b => rfl
  | m, x :: a, b => by
    simp only [List.cons_append, applyC]
    cases oneC m x with
    | none => rfl
    | some m' => exact applyC_append m' a b
theorem applyC_take_none {m : List Cd} {l : List It} (j : Nat) (h : applyC m (l.take j) = none) : applyC m l = none := by
  have := applyC_append m (l.take j) (l.drop j)
  rw [List.take_append_drop, h] at this
  exact this
theorem applyC_step {m : List Cd} {l : List It} {j : Nat} (hj : j < l.length) : applyC m (l.take (j + 1)) = (applyC m (l.take j)).bind fun m' => oneC m' l[j] := by
  rw [List.take_succ_eq_append_getElem hj, applyC_snoc]
theorem oneC_length {m m' : List Cd} {x : It} (h : oneC m x = some m') : m'.length ≤ m.length + 1 := by
  unfold oneC at h
  split at h
  · split at h
    · cases h
    · cases h
      simp only [List.length_append, List.length_take, List.length_cons, List.length_drop]
      omega
  · split at h
    · split at h
      · cases h
        simp only [List.length_append, List.length_take, List.length_cons, List.length_drop]
        omega
      · cases h
        simp only [List.length_append, List.length_take, List.length_drop]
        omega
    · cases h
theorem oneC_all {p : Cd → Prop} {m m' : List Cd} {x : It} (h : oneC m x = some m') (hm : ∀ c ∈ m, p c) (hx : p x.c) : ∀ c ∈ m', p c := by
  intro c hc
  unfold oneC at h
  have key : c ∈ m.take (aheadC m x.c.id) ∨ c = x.c ∨ (∃ k, c ∈ m.drop k) := by
    split at h
    · split at h
      · cases h
      · cases h
        rcases List.mem_append.1 hc with h | h
        · exact .inl h
        · rcases List.mem_cons.1 h with h | h
          · exact .inr (.inl h)
          · exact .inr (.inr ⟨_, h⟩)
    · split at h
      · split at h
        · cases h
          rcases List.mem_append.1 hc with h | h
          · exact .inl h
          · rcases List.mem_cons.1 h with h | h
            · exact .inr (.inl h)
            · exact .inr (.inr ⟨_, h⟩)
        · cases h
          rcases List.mem_append.1 hc with h | h
          · exact .inl h
          · exact .inr (.inr ⟨_, h⟩)
      · cases h
  rcases key with h | h | ⟨k, h⟩
  · exact hm c (List.mem_of_mem_take h)
  · rw [h]; exact hx
  · exact hm c (List.mem_of_mem_drop h)
/-- What is known of cards in memory. -/
structure CdOk (c : Cd) : Prop where
  f : c.f.length = 8
  id : -9223372036854775808 ≤ c.id ∧ c.id ≤ 9223372036854775807
structure ItOk (x : It) : Prop where
  c : CdOk x.c
  kind : x.kind = 1 ∨ x.kind = 2 ∨ x.kind = 3
/-- What Apply answers. -/
def ApR (P : Program) (T : TypeId) (row : Cd → List Value) (o : Option (List Cd)) (e : Ending) (w w' : World) : Prop := match o with
  | some m => ∃ a c, e = .returned (.tuple #[.slice a m.length c, .bool true]) ∧ St w [] [Ch.row T 27 (.slice a m.length c) m.length (m.map row).flatten] w'
  | none => e = .returned (.tuple #[.slice none 0 0, .bool false]) ∧ Below w.heap.size w w'
end Go.Ofp
namespace Go.Proofs.Ytajldelodnjmoaa
open Go.RowKit Go.Ofp
set_option linter.unusedVariables false
set_option maxRecDepth 100000
set_option maxHeartbeats 4000000

end Go.Proofs.Ytajldelodnjmoaa
end
