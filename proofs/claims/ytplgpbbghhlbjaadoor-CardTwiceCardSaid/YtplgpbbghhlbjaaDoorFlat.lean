/- Rows of one length, one behind the other. -/
import Derived.Test.YtplgpbbghhlbjaaDoorBase
set_option linter.unusedSimpArgs false
set_option linter.unusedVariables false
namespace Go.Ofp
theorem flat_len2 {α : Type} (k : Nat) (R : List (List α)) (h : ∀ r ∈ R, r.length = k) : R.flatten.length = R.length * k := by
  induction R with
  | nil => simp
  | cons r R ih => rw [List.flatten_cons, List.length_append, ih (fun x hx => h x (by simp [hx])), h r (by simp), List.length_cons, Nat.add_mul]; omega
theorem flat_take {α : Type} (k : Nat) (R : List (List α)) (h : ∀ r ∈ R, r.length = k) (j : Nat) : R.flatten.take (j * k) = (R.take j).flatten := by
  induction R generalizing j with
  | nil => simp
  | cons r R ih =>
    cases j with
    | zero => simp
    | succ j =>
      have hr := h r (by simp)
      rw [List.flatten_cons, List.take_succ_cons, List.flatten_cons, ← ih (fun x hx => h x (by simp [hx])), List.take_append, List.take_of_length_le (by rw [hr, Nat.add_mul]; omega), hr, show (j + 1) * k - k = j * k by rw [Nat.add_mul]; omega]
theorem flat_drop {α : Type} (k : Nat) (R : List (List α)) (h : ∀ r ∈ R, r.length = k) (j : Nat) : R.flatten.drop (j * k) = (R.drop j).flatten := by
  induction R generalizing j with
  | nil => simp
  | cons r R ih =>
    cases j with
    | zero => simp
    | succ j =>
      have hr := h r (by simp)
      rw [List.flatten_cons, List.drop_succ_cons, ← ih (fun x hx => h x (by simp [hx])), List.drop_append, List.drop_of_length_le (by rw [hr, Nat.add_mul]; omega), List.nil_append, hr, show (j + 1) * k - k = j * k by rw [Nat.add_mul]; omega]
theorem flat_elem {α : Type} (k : Nat) (R : List (List α)) (h : ∀ r ∈ R, r.length = k) (j : Nat) (hj : j < R.length) : (R.flatten.drop (j * k)).take k = R[j] := by
  have hr := h _ (List.getElem_mem hj)
  rw [flat_drop k R h, List.drop_eq_getElem_cons hj, List.flatten_cons, List.take_left' hr]
theorem flat_set {α : Type} (k : Nat) (R : List (List α)) (h : ∀ r ∈ R, r.length = k) (j : Nat) (hj : j < R.length) (x : List α) : R.flatten.take (j * k) ++ x ++ R.flatten.drop (j * k + k) = (R.set j x).flatten := by
  rw [flat_take k R h, show j * k + k = (j + 1) * k by rw [Nat.add_mul]; omega, flat_drop k R h, List.set_eq_take_append_cons_drop, if_pos hj]
  simp
end Go.Ofp
