/- Pieces in the midst: a call that writes to some of them, and what is left behind. -/
import Derived.Test.YtplgpbbghhlbjaaDoorSt6
set_option linter.unusedSimpArgs false
set_option linter.unusedVariables false
namespace Go.Ofp
open Go.RowKit
theorem Sl.old {w0 w : World} {F : List Nat} {L : List Ch} {a : Option Addr} {xs : List Value} (hs : Sl w0 a xs) (h : St w0 F L w) (hap : 0 < xs.length → ∀ b o, a = some ⟨b, o, none⟩ → b ∉ F) : Sl w a xs := by
  intro i hi
  obtain ⟨b, off, e, hc⟩ := hs i hi
  exact ⟨b, off, e, h.old hc (hap (by omega) b off e)⟩
theorem feet_append (A B : List Ch) : feet (A ++ B) = feet A ++ feet B := by simp [feet]
theorem feet_off {A B : List Ch} {b : Nat} (h : b ∉ feet (A ++ B)) : b ∉ feet A ∧ b ∉ feet B := by
  rw [feet_append] at h
  exact ⟨fun k => h (List.mem_append_left _ k), fun k => h (List.mem_append_right _ k)⟩
namespace St
variable {w0 w w' : World} {F : List Nat} {A B B' R L : List Ch} {c : Ch}
/-- The first pieces go to the end. -/
theorem rot (h : St w0 F (A ++ B) w) : St w0 F (B ++ A) w := by
  refine h.pick (fun i => if i < B.length then A.length + i else i - B.length) ?_ ?_
  · intro i d hd
    by_cases hi : i < B.length
    · rw [List.getElem?_append_left hi] at hd
      simp only [hi, if_true]
      rw [List.getElem?_append_right (by omega), Nat.add_sub_cancel_left]
      exact hd
    · rw [List.getElem?_append_right (by omega)] at hd
      simp only [hi, if_false]
      rw [List.getElem?_append_left (List.getElem?_eq_some_iff.1 hd).1]
      exact hd
  · intro i j hi hj hij
    simp only [List.length_append] at hi hj
    split <;> split <;> omega
theorem preM (h : St w0 F (A ++ (B ++ R)) w) : St w (feet B) B w := by
  have := h.rot
  rw [List.append_assoc] at this
  exact this.pre B (R ++ A) rfl
theorem callM (h : St w0 F (A ++ (B ++ R)) w) (k : St w (feet B) B' w') : St w0 F (A ++ (B' ++ R)) w' := by
  have h1 := h.rot
  rw [List.append_assoc] at h1
  have h2 := h1.call B (R ++ A) rfl k
  rw [← List.append_assoc] at h2
  exact h2.rot
theorem dropM (h : St w0 F (A ++ (B ++ R)) w) : St w0 F (A ++ R) w := by
  refine h.pick (fun i => if i < A.length then i else B.length + i) ?_ ?_
  · intro i d hd
    by_cases hi : i < A.length
    · rw [List.getElem?_append_left hi] at hd
      simp only [hi, if_true]
      rw [List.getElem?_append_left hi]
      exact hd
    · rw [List.getElem?_append_right (by omega)] at hd
      simp only [hi, if_false]
      rw [List.getElem?_append_right (by omega), List.getElem?_append_right (by omega), show B.length + i - A.length - B.length = i - A.length by omega]
      exact hd
  · intro i j hi hj hij
    split <;> split <;> omega
theorem back (h : St w0 F (A ++ R) w) : St w0 F R w := by
  have := dropM (A := []) (B := A) (R := R) h
  exact this
theorem fore (h : St w0 F (A ++ R) w) : St w0 F A w := by
  have := dropM (A := A) (B := R) (R := []) (by simpa using h)
  simpa using this
theorem pre1 (h : St w0 F (c :: (B ++ R)) w) : St w (feet B) B w := preM (A := [c]) h
theorem call1 (h : St w0 F (c :: (B ++ R)) w) (k : St w (feet B) B' w') : St w0 F (c :: (B' ++ R)) w' := callM (A := [c]) h k
theorem pre2 (h : St w0 F (c :: (A ++ (B ++ R))) w) : St w (feet B) B w := preM (A := c :: A) h
theorem call2 (h : St w0 F (c :: (A ++ (B ++ R))) w) (k : St w (feet B) B' w') : St w0 F (c :: (A ++ (B' ++ R))) w' := callM (A := c :: A) h k
/-- A block that came in is none of the own pieces'. -/
theorem oldoff (h : St w0 [] L w) {b : Nat} (hb : b < w0.heap.size) : b ∉ feet L := by
  intro hA
  obtain ⟨i, c, hc, hg⟩ := mem_feet.1 hA
  rcases (h.own i c hc).2 b hg with h | h
  · cases h
  · omega
end St
end Go.Ofp
