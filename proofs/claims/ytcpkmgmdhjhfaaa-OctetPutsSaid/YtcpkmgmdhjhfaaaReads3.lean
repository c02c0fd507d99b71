/- The walks of the reference's Reader: texts, truths, errors. -/
import Derived.Test.YtcpkmgmdhjhfaaaReads2
namespace Go.Proofs.Ytcpkmgmdhjhfaaa
open Go.RowKit Go.Ofp

set_option maxRecDepth 10000 in
theorem rr_flag (g : Nat) (r : List UInt8) (e : Int) (w : World) (h : RRd w g r e) :
    Calls Try.prog 65 #[.pointer (some ⟨g, 0, none⟩)] w fun x w' =>
      x = .returned (.bool (rdFlag r e).1) ∧ RRd w' g (rdFlag r e).2.1 (rdFlag r e).2.2 ∧ w.grownBy w' (some g) := by
  obtain ⟨hw, hl⟩ := h
  have c0 := hw.cell 0
  have c1 := hw.cell 1
  have f0 := hw.frozen 0
  have f1 := hw.frozen 1
  simp at c0 c1
  have hW := Lib.hid hw
  clear hw
  by_cases he : e = 0
  · subst he
    obtain ⟨⟨v, n, y⟩, hV⟩ : ∃ V, V = nextB r 1099511627776 := ⟨_, rfl⟩
    have hnc := nextB_cases r 1099511627776
    have e1 : rdFlag r 0 = if (nextB r 1099511627776).2.2 ≠ 0 then (false, r, (nextB r 1099511627776).2.2) else if 1 < (nextB r 1099511627776).1 then (false, r, 3)
        else ((nextB r 1099511627776).1 == 1, r.drop (nextB r 1099511627776).2.1, 0) := by rw [rdFlag, if_neg (by simp)]
    rw [← hV] at hnc e1
    simp only at hnc e1
    rw [e1]
    clear e1
    replace hV := Lib.hid hV
    by_cases hy : y = 0
    · subst hy
      rw [if_neg (by simp)]
      have hle : n ≤ r.length := by omega
      have hvm : v ≤ 1099511627776 := by unfold maxNum at hnc; omega
      clear hnc
      by_cases hv : 1 < v
      · rw [if_pos hv]
        go_enter Try.func65, Try.ntmps65
        go_wp2_with fail
        refine (rnext_any _ _ _ (by rw [str_size]; unfold maxLen; omega)).mono ?_
        rintro z w1 ⟨rfl, rfl⟩
        rw [str_data, ← hV.out]
        go_wp2_with fail
        go_ret
        have h2 := hW.out.set 1 (.int .i64 3)
        exact ⟨rfl, ⟨by simpa using h2, hl⟩, grown_set _ _ _ _⟩
      · rw [if_neg hv]
        have hb : (v == 1) = ((v : Int) == 1) := by rw [Bool.eq_iff_iff]; simp; omega
        rw [hb]
        replace hb := Lib.hid hb
        go_enter Try.func65, Try.ntmps65
        go_wp2_with fail
        refine (rnext_any _ _ _ (by rw [str_size]; unfold maxLen; omega)).mono ?_
        rintro z w1 ⟨rfl, rfl⟩
        rw [str_data, ← hV.out]
        go_wp2_with fail
        go_ret
        have h2 := hW.out.set 0 (.string (str (r.drop n)))
        refine ⟨rfl, ⟨?_, by rw [List.length_drop]; omega⟩, grown_set _ _ _ _⟩
        simpa [str_extract_from] using h2
    · rw [if_pos hy]
      have hy2 : (y == 0) = false := by rw [beq_eq_false_iff_ne]; exact hy
      have hy3 : (y != 0) = true := by rw [bne_iff_ne]; exact hy
      clear hnc hy
      go_enter Try.func65, Try.ntmps65
      go_wp2_with fail
      refine (rnext_any _ _ _ (by rw [str_size]; unfold maxLen; omega)).mono ?_
      rintro z w1 ⟨rfl, rfl⟩
      rw [str_data, ← hV.out]
      go_wp2_with fail
      go_ret
      have h2 := hW.out.set 1 (.int .i64 y)
      exact ⟨rfl, ⟨by simpa using h2, hl⟩, grown_set _ _ _ _⟩
  · have e1 : rdFlag r e = (false, r, e) := by rw [rdFlag, if_pos he]
    rw [e1]
    have hne : (e != 0) = true := by rw [bne_iff_ne]; exact he
    clear he
    go_enter Try.func65, Try.ntmps65
    go_wp2_with fail
    go_ret
    exact ⟨rfl, ⟨hW.out, hl⟩, grown_refl _ _⟩

set_option maxRecDepth 10000 in
theorem rr_str (g : Nat) (r : List UInt8) (e most : Int) (w : World) (h : RRd w g r e) :
    Calls Try.prog 64 #[.pointer (some ⟨g, 0, none⟩), .int .i64 most] w fun x w' =>
      x = .returned (.string (str (rdStr r e most).1)) ∧ RRd w' g (rdStr r e most).2.1 (rdStr r e most).2.2 ∧ w.grownBy w' (some g) := by
  obtain ⟨hw, hl⟩ := h
  have c0 := hw.cell 0
  have c1 := hw.cell 1
  have f0 := hw.frozen 0
  have f1 := hw.frozen 1
  simp at c0 c1
  have hW := Lib.hid hw
  clear hw
  by_cases he : e = 0
  · subst he
    obtain ⟨⟨v, n, y⟩, hV⟩ : ∃ V, V = nextB r most := ⟨_, rfl⟩
    have hnc := nextB_cases r most
    have e1 : rdStr r 0 most = if (nextB r most).2.2 ≠ 0 then ([], r, (nextB r most).2.2) else if r.length - (nextB r most).2.1 < (nextB r most).1 then ([], r, 2)
        else ((r.drop (nextB r most).2.1).take (nextB r most).1, r.drop ((nextB r most).2.1 + (nextB r most).1), 0) := by rw [rdStr, if_neg (by simp)]
    rw [← hV] at hnc e1
    simp only at hnc e1
    rw [e1]
    clear e1
    replace hV := Lib.hid hV
    by_cases hy : y = 0
    · subst hy
      rw [if_neg (by simp)]
      have hle : n ≤ r.length := by omega
      have hvm : v ≤ 1099511627776 := by unfold maxNum at hnc; omega
      clear hnc
      by_cases hv : r.length - n < v
      · rw [if_pos hv]
        have hv2 : (r.length : Int) - (n : Int) < (v : Int) := by omega
        clear hv
        go_enter Try.func64, Try.ntmps64
        go_wp2_with fail
        refine (rnext_any _ _ _ (by rw [str_size]; unfold maxLen; omega)).mono ?_
        rintro z w1 ⟨rfl, rfl⟩
        rw [str_data, ← hV.out]
        go_wp2_with fail
        go_ret
        have h2 := hW.out.set 1 (.int .i64 2)
        exact ⟨rfl, ⟨by simpa using h2, hl⟩, grown_set _ _ _ _⟩
      · rw [if_neg hv]
        have hv2 : ¬ ((r.length : Int) - (n : Int) < (v : Int)) := by omega
        have hle2 : n + v ≤ r.length := by omega
        clear hv
        go_enter Try.func64, Try.ntmps64
        go_wp2_with fail
        refine (rnext_any _ _ _ (by rw [str_size]; unfold maxLen; omega)).mono ?_
        rintro z w1 ⟨rfl, rfl⟩
        rw [str_data, ← hV.out]
        go_wp2_with fail
        go_ret
        have h2 := hW.out.set 0 (.string (str (r.drop (n + v))))
        refine ⟨ret_val ?_, ⟨?_, by rw [List.length_drop]; omega⟩, grown_set _ _ _ _⟩
        · show Value.string ((str r).extract n (n + v)) = _
          rw [str_extract_to, List.drop_take, Nat.add_sub_cancel_left]
        · simpa [str_extract_from] using h2
    · rw [if_pos hy]
      have hy2 : (y == 0) = false := by rw [beq_eq_false_iff_ne]; exact hy
      have hy3 : (y != 0) = true := by rw [bne_iff_ne]; exact hy
      clear hnc hy
      go_enter Try.func64, Try.ntmps64
      go_wp2_with fail
      refine (rnext_any _ _ _ (by rw [str_size]; unfold maxLen; omega)).mono ?_
      rintro z w1 ⟨rfl, rfl⟩
      rw [str_data, ← hV.out]
      go_wp2_with fail
      go_ret
      have h2 := hW.out.set 1 (.int .i64 y)
      exact ⟨rfl, ⟨by simpa using h2, hl⟩, grown_set _ _ _ _⟩
  · have e1 : rdStr r e most = ([], r, e) := by rw [rdStr, if_pos he]
    rw [e1]
    have hne : (e != 0) = true := by rw [bne_iff_ne]; exact he
    clear he
    go_enter Try.func64, Try.ntmps64
    go_wp2_with fail
    go_ret
    exact ⟨rfl, ⟨hW.out, hl⟩, grown_refl _ _⟩

theorem rr_fail (g : Nat) (r : List UInt8) (e x : Int) (w : World) (h : RRd w g r e) :
    Calls Try.prog 67 #[.pointer (some ⟨g, 0, none⟩), .int .i64 x] w fun y w' => y = .returned (.tuple #[]) ∧ RRd w' g r (rdFail e x) ∧ w.grownBy w' (some g) := by
  obtain ⟨hw, hl⟩ := h
  have c1 := hw.cell 1
  have f1 := hw.frozen 1
  simp at c1
  have hW := Lib.hid hw
  clear hw
  by_cases he : e = 0
  · subst he
    go_enter Try.func67, Try.ntmps67
    go_wp2_with fail
    go_end0
    have h2 := hW.out.set 1 (.int .i64 x)
    rw [show rdFail 0 x = x from rfl]
    exact ⟨rfl, ⟨by simpa using h2, hl⟩, grown_set _ _ _ _⟩
  · have e1 : rdFail e x = e := by rw [rdFail, if_neg he]
    rw [e1]
    have hne : (e == 0) = false := by rw [beq_eq_false_iff_ne]; exact he
    clear he
    go_enter Try.func67, Try.ntmps67
    go_wp2_with fail
    go_end0
    exact ⟨rfl, ⟨hW.out, hl⟩, grown_refl _ _⟩

theorem rr_end (g : Nat) (r : List UInt8) (e : Int) (w : World) (h : RRd w g r e) :
    Calls Try.prog 69 #[.pointer (some ⟨g, 0, none⟩)] w fun x w' => x = .returned (.int .i64 (rdEnd r e)) ∧ w = w' := by
  obtain ⟨hw, hl⟩ := h
  have c0 := hw.cell 0
  have c1 := hw.cell 1
  simp at c0 c1
  clear hw
  by_cases he : e = 0
  · subst he
    cases r with
    | nil =>
      go_enter Try.func69, Try.ntmps69
      go_wp2_with fail
      go_ret
      exact ⟨rfl, rfl⟩
    | cons b r =>
      have hne : (!(str (b :: r)).toList.isEmpty) = true := by rw [str_toList]; rfl
      have hne2 : (str (b :: r)).toList.isEmpty = false := by rw [str_toList]; rfl
      generalize str (b :: r) = s at *
      go_enter Try.func69, Try.ntmps69
      go_wp2_with fail
      go_ret
      exact ⟨rfl, rfl⟩
  · have e1 : rdEnd r e = e := by rw [rdEnd, if_neg (fun h => he h.1)]
    rw [e1]
    have hne : (e == 0) = false := by rw [beq_eq_false_iff_ne]; exact he
    clear he
    go_enter Try.func69, Try.ntmps69
    go_wp2_with fail
    go_ret
    exact ⟨rfl, rfl⟩

end Go.Proofs.Ytcpkmgmdhjhfaaa
