/- The walks of octet's Reader: texts; a reader that is not there; and of the reference's Reader. -/
import Derived.Test.YtlhpibniecfofaaReads
set_option linter.unusedSimpArgs false
set_option linter.unusedVariables false
namespace Go.Proofs.Ytlhpibniecfofaa
open Go.RowKit Go.Ofp

/-! ### A reader that is not there -/
theorem nil_num (most : Int) (w : World) : Calls Try.prog 74 #[.pointer none, .int .i64 most] w fun x w' => x = .returned (.int .i64 0) ∧ w = w' := by
  go_enter Try.func74, Try.ntmps74
  go_wp2_with fail
  go_ret
  exact ⟨rfl, rfl⟩
theorem nil_err (w : World) : Calls Try.prog 75 #[.pointer none] w fun x w' => x = .returned (.int .i64 1) ∧ w = w' := by
  go_enter Try.func75, Try.ntmps75
  go_wp2_with fail
  go_ret
  exact ⟨rfl, rfl⟩
/-! ### The reference's reader -/
def RRd (w : World) (g : Nat) (r : List UInt8) (e : Int) : Prop := Whole w g 134 #[.string (str r), .int .i64 e] ∧ r.length ≤ 1000000

theorem RRd.keep {w w' : World} {g : Nat} {r : List UInt8} {e : Int} (h : RRd w g r e) (hb : Below w.heap.size w w') : RRd w' g r e := ⟨h.1.below hb h.1.lt, h.2⟩
theorem RRd.keepG {w w' : World} {g g' : Nat} {r : List UInt8} {e : Int} (h : RRd w g r e) (hb : w.grownBy w' (some g')) (hne : g ≠ g') : RRd w' g r e := ⟨h.1.keep hb (by simpa using hne), h.2⟩

theorem str_extract_from (r : List UInt8) (n : Nat) : (str r).extract n r.length = str (r.drop n) := by
  apply ByteArray.ext
  apply Array.ext'
  simp [str]
  exact List.take_of_length_le (by simp)

theorem str_extract_to (r : List UInt8) (n m : Nat) : (str r).extract n m = str ((r.take m).drop n) := by
  apply ByteArray.ext
  apply Array.ext'
  simp [str, List.drop_take]

set_option maxRecDepth 10000 in
theorem rr_num (g : Nat) (r : List UInt8) (e most : Int) (w : World) (h : RRd w g r e) :
    Calls Try.prog 77 #[.pointer (some ⟨g, 0, none⟩), .int .i64 most] w fun x w' =>
      x = .returned (.int .i64 (rdNum r e most).1) ∧ RRd w' g (rdNum r e most).2.1 (rdNum r e most).2.2 ∧ w.grownBy w' (some g) := by
  obtain ⟨hw, hl⟩ := h
  have c0 := hw.cell 0
  have c1 := hw.cell 1
  have f0 := hw.frozen 0
  have f1 := hw.frozen 1
  simp at c0 c1
  have hW := Lib.hid hw
  clear hw
  by_cases he : e = 0
  · subst he
    obtain ⟨⟨v, n, y⟩, hV⟩ : ∃ V, V = nextB r most := ⟨_, rfl⟩
    have hnc := nextB_cases r most
    have e1 : rdNum r 0 most = ((nextB r most).1, r.drop (nextB r most).2.1, (nextB r most).2.2) := rfl
    rw [← hV] at hnc e1
    rw [e1]
    simp only at hnc
    have hle : n ≤ r.length := by omega
    clear hnc e1
    replace hV := Lib.hid hV
    go_enter Try.func77, Try.ntmps77
    go_wp2_with fail
    refine (rnext_any _ most _ (by rw [str_size]; unfold maxLen; omega)).mono ?_
    rintro z w1 ⟨rfl, rfl⟩
    rw [str_data, ← hV.out]
    go_wp2_with fail
    go_ret
    have h2 := (hW.out.set 1 (.int .i64 y)).set 0 (.string (str (r.drop n)))
    refine ⟨rfl, ⟨?_, by rw [List.length_drop]; omega⟩, grown_trans (grown_set _ _ _ _) (grown_set _ _ _ _)⟩
    simpa [str_extract_from] using h2
  · have e1 : rdNum r e most = (0, r, e) := by rw [rdNum, if_pos he]
    rw [e1]
    have hne : (e != 0) = true := by rw [bne_iff_ne]; exact he
    clear he
    go_enter Try.func77, Try.ntmps77
    go_wp2_with fail
    go_ret
    exact ⟨rfl, ⟨hW.out, hl⟩, grown_refl _ _⟩

end Go.Proofs.Ytlhpibniecfofaa
