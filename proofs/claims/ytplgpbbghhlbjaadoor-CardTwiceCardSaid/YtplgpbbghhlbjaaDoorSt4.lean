/- The frame of a call that writes to some pieces of own memory. -/
import Derived.Test.YtplgpbbghhlbjaaDoorSt3
set_option linter.unusedSimpArgs false
set_option linter.unusedVariables false
namespace Go.Ofp
open Go.RowKit

/-- The blocks of some pieces. -/
def feet (A : List Ch) : List Nat := A.flatMap Ch.foot

theorem mem_feet {A : List Ch} {g : Nat} : g ∈ feet A ↔ ∃ (i : Nat) (c : Ch), A[i]? = some c ∧ g ∈ c.foot := by
  simp only [feet, List.mem_flatMap]
  constructor
  · rintro ⟨c, hc, hg⟩
    obtain ⟨i, hi, rfl⟩ := List.getElem_of_mem hc
    exact ⟨i, _, List.getElem?_eq_getElem hi, hg⟩
  · rintro ⟨i, c, hc, hg⟩
    exact ⟨c, List.mem_of_getElem? hc, hg⟩

namespace St
variable {w0 w w' : World} {F : List Nat} {L A A' R : List Ch}

/-- What a callee that is handed the pieces A begins with. -/
theorem pre (h : St w0 F L w) (A R : List Ch) (hL : L = A ++ R) : St w (feet A) A w := by
  subst hL
  refine ⟨Fr.refl _ _, fun i c hc => ⟨(h.own i c ?_).1, fun g hg => .inl (mem_feet.2 ⟨i, c, hc, hg⟩)⟩, fun i j c d hc hd hij => h.apart i j c d ?_ ?_ hij⟩
  all_goals
    rw [List.getElem?_append_left]
    · assumption
    · exact (List.getElem?_eq_some_iff.1 (by assumption)).1

/-- What is known behind it. -/
theorem call (h : St w0 F L w) (A R : List Ch) (hL : L = A ++ R) (k : St w (feet A) A' w') : St w0 F (A' ++ R) w' := by
  subst hL
  have hA : ∀ (i : Nat) (c : Ch), A[i]? = some c → (A ++ R)[i]? = some c := fun i c hc => by
    rw [List.getElem?_append_left (List.getElem?_eq_some_iff.1 hc).1]; exact hc
  have hR : ∀ (i : Nat) (c : Ch), R[i]? = some c → (A ++ R)[A.length + i]? = some c := fun i c hc => by
    rw [List.getElem?_append_right (by omega), Nat.add_sub_cancel_left]; exact hc
  have hF : ∀ g ∈ feet A, g ∈ F ∨ w0.heap.size ≤ g := fun g hg => by
    obtain ⟨i, c, hc, hg⟩ := mem_feet.1 hg
    exact (h.own i c (hA i c hc)).2 g hg
  -- a block of R is none of A's, and was there
  have hsep : ∀ (i : Nat) (c : Ch), R[i]? = some c → ∀ g ∈ c.foot, g ∉ feet A ∧ g < w.heap.size := fun i c hc g hg => by
    refine ⟨fun hgA => ?_, c.lt (h.own _ c (hR i c hc)).1 g hg⟩
    obtain ⟨j, d, hd, hgd⟩ := mem_feet.1 hgA
    have hj := (List.getElem?_eq_some_iff.1 hd).1
    exact h.apart j (A.length + i) d c (hA j d hd) (hR i c hc) (by omega) g hgd hg
  have hsplit : ∀ (i : Nat) (c : Ch), (A' ++ R)[i]? = some c → (i < A'.length ∧ A'[i]? = some c) ∨ (A'.length ≤ i ∧ R[i - A'.length]? = some c) := fun i c hc => by
    by_cases hi : i < A'.length
    · rw [List.getElem?_append_left hi] at hc; exact .inl ⟨hi, hc⟩
    · rw [List.getElem?_append_right (by omega)] at hc; exact .inr ⟨by omega, hc⟩
  refine ⟨h.fr.trans k.fr hF, fun i c hc => ?_, fun i j c d hc hd hij => ?_⟩
  · rcases hsplit i c hc with ⟨_, hc⟩ | ⟨_, hc⟩
    · obtain ⟨h1, h2⟩ := k.own i c hc
      refine ⟨h1, fun g hg => ?_⟩
      rcases h2 g hg with h3 | h3
      · exact hF g h3
      · exact .inr (Nat.le_trans h.fr.size h3)
    · obtain ⟨h1, h2⟩ := h.own _ c (hR _ c hc)
      exact ⟨c.keep h1 fun g hg => k.fr.block g (hsep _ c hc g hg).2 (hsep _ c hc g hg).1, h2⟩
  · rcases hsplit i c hc with ⟨hi, hc⟩ | ⟨hi, hc⟩ <;> rcases hsplit j d hd with ⟨hj, hd⟩ | ⟨hj, hd⟩
    · exact k.apart i j c d hc hd hij
    · intro g hg hg'
      obtain ⟨h1, h2⟩ := hsep _ d hd g hg'
      rcases (k.own i c hc).2 g hg with h3 | h3
      · exact h1 h3
      · omega
    · intro g hg hg'
      obtain ⟨h1, h2⟩ := hsep _ c hc g hg
      rcases (k.own j d hd).2 g hg' with h3 | h3
      · exact h1 h3
      · omega
    · exact h.apart (A.length + (i - A'.length)) (A.length + (j - A'.length)) c d (hR _ c hc) (hR _ d hd) (by omega)

/-- Pieces picked out, in another order. -/
theorem pick (h : St w0 F L w) (f : Nat → Nat) (hf : ∀ (i : Nat) (c : Ch), R[i]? = some c → L[f i]? = some c) (inj : ∀ i j, i < R.length → j < R.length → i ≠ j → f i ≠ f j) : St w0 F R w :=
  ⟨h.fr, fun i c hc => h.own (f i) c (hf i c hc), fun i j c d hc hd hij => h.apart (f i) (f j) c d (hf i c hc) (hf j d hd) (inj i j (List.getElem?_eq_some_iff.1 hc).1 (List.getElem?_eq_some_iff.1 hd).1 hij)⟩

/-- The first of three goes to the end. -/
theorem rot3 {a b c : Ch} (h : St w0 F (a :: b :: c :: L) w) : St w0 F (b :: c :: a :: L) w := by
  refine h.pick (fun i => if i = 0 then 1 else if i = 1 then 2 else if i = 2 then 0 else i) ?_ ?_
  · intro i d hd
    match i with
    | 0 => exact hd
    | 1 => exact hd
    | 2 => exact hd
    | i + 3 => simpa using hd
  · intro i j _ _ hij
    split <;> split <;> (repeat' split) <;> omega
end St
end Go.Ofp
