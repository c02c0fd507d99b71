/- The walks of octet's Reader: texts; a reader that is not there; and of the reference's Reader. -/
import Derived.Test.YtcpkmgmdhjhfaaaReads
namespace Go.Proofs.Ytcpkmgmdhjhfaaa
open Go.RowKit Go.Ofp

theorem rd_str (g : Nat) (r : List UInt8) (e most : Int) (w : World) (h : RdR w g r e) :
    Calls Try.prog 50 #[.pointer (some ⟨g, 0, none⟩), .int .i64 most] w fun x w' =>
      x = .returned (.string (str (rdStr r e most).1)) ∧ RdR w' g (rdStr r e most).2.1 (rdStr r e most).2.2 ∧ w.grownBy w' (some g) := by
  obtain ⟨l, k, hR, rfl⟩ := h
  have hR0 := hR
  obtain ⟨a, cap, hw, hs, hoff, hlc, hcm, hk⟩ := hR0
  unfold maxLen at hcm
  have c2 := hw.cell 2
  simp at c2
  clear hw hs hoff
  by_cases he : e = 0
  · subst he
    obtain ⟨⟨v, n, y⟩, hV⟩ : ∃ V, V = nextB (l.drop k) most := ⟨_, rfl⟩
    have hnc := nextB_cases (l.drop k) most
    have e1 : rdStr (l.drop k) 0 most = if (nextB (l.drop k) most).2.2 ≠ 0 then ([], l.drop k, (nextB (l.drop k) most).2.2) else if (l.drop k).length - (nextB (l.drop k) most).2.1 < (nextB (l.drop k) most).1 then ([], l.drop k, 2)
        else (((l.drop k).drop (nextB (l.drop k) most).2.1).take (nextB (l.drop k) most).1, (l.drop k).drop ((nextB (l.drop k) most).2.1 + (nextB (l.drop k) most).1), 0) := by rw [rdStr, if_neg (by simp)]
    rw [← hV] at hnc e1
    simp only at hnc e1
    rw [List.length_drop] at hnc e1
    rw [e1]
    clear e1
    replace hV := Lib.hid hV
    replace hR := Lib.hid hR
    by_cases hy : y = 0
    · subst hy
      rw [if_neg (by simp)]
      have hle : k + n ≤ l.length := by omega
      have hvm : v ≤ 1099511627776 := by unfold maxNum at hnc; omega
      have hpos : 0 < n := by omega
      clear hnc
      by_cases hv : l.length - k - n < v
      · rw [if_pos hv]
        have hv2 : (l.length : Int) - ((k : Int) + (n : Int)) < (v : Int) := by omega
        clear hv
        go_enter Try.func50, Try.ntmps50
        go_wp2_with fail
        refine (peek_any g l k _ _ hR.out).mono ?_
        rintro z w1 ⟨rfl, hR1, hg1⟩
        rw [← hV.out] at hR1 ⊢
        have hR1' := hR1
        obtain ⟨a1, cap1, hw1, hs1, hoff1, hlc1, hcm1, hk1⟩ := hR1'
        have c0 := hw1.cell 0
        have c1 := hw1.cell 2
        have f1 := hw1.frozen 2
        simp at c1 c0
        clear hw1 hs1 hoff1 c2
        replace hR1 := Lib.hid hR1
        go_wp2_with fail
        go_ret
        exact ⟨rfl, ⟨l, k, hR1.out.err 2, rfl⟩, grown_trans hg1 (grown_set _ _ _ _)⟩
      · rw [if_neg hv]
        have hv2 : ¬ ((l.length : Int) - ((k : Int) + (n : Int)) < (v : Int)) := by omega
        clear hv
        go_enter Try.func50, Try.ntmps50
        go_wp2_with fail
        refine (peek_any g l k _ _ hR.out).mono ?_
        rintro z w1 ⟨rfl, hR1, hg1⟩
        rw [← hV.out] at hR1 ⊢
        have hR1' := hR1
        obtain ⟨a1, cap1, hw1, hs1, hoff1, hlc1, hcm1, hk1⟩ := hR1'
        unfold maxLen at hcm1
        have c0 := hw1.cell 0
        have c1 := hw1.cell 2
        have c1' := hw1.cell 1
        have f1 := hw1.frozen 1
        simp at c1 c0 c1'
        clear c2
        replace hR1 := Lib.hid hR1
        obtain ⟨b, off, rfl⟩ := hs1.cells (by intro h; have := congrArg List.length h; rw [List.length_map, List.length_nil] at this; omega)
        have hs2 : Sl w1 (some ⟨b, off + (k + n), none⟩) ((((l.drop k).drop n).take v).map vb) := by
          have := (hs1.drop (k + n)).take v
          rw [← List.map_drop, ← List.map_take] at this
          rw [List.drop_drop]
          exact this
        have hnl : v = (((l.drop k).drop n).take v).length := by simp; omega
        have hne : b ≠ g := hoff1 b off rfl
        replace hs1 := Lib.hid hs1
        replace hw1 := Lib.hid hw1
        replace hs2 := Lib.hid hs2
        replace hnl := Lib.hid hnl
        clear hoff1
        have hle2 : k + n + v ≤ l.length := by omega
        go_wp2_with fail
        have hW := (hw1.out.set 1 (.int .i64 ((k : Int) + (n : Int) + (v : Int))))
        have hR2 := hR1.out.place (k + n + v) hle2
        have hS2 := hs2.out.grown (by intro b' off' hb'; cases hb'; exact hne) (grown_set w1 g 1 (.int .i64 ((k : Int) + (n : Int) + (v : Int))))
        have hG2 := grown_trans hg1 (grown_set w1 g 1 (.int .i64 ((k : Int) + (n : Int) + (v : Int))))
        rw [show (((k + n + v : Nat)) : Int) = (k : Int) + (n : Int) + (v : Int) by omega] at hR2
        generalize w1.setCell ⟨g, 1, none⟩ (.int .i64 ((k : Int) + (n : Int) + (v : Int))) = W at hW hR2 hS2 hG2 ⊢
        clear c0 c1 c1' f1 hw1 hs1 hs2 hR1 hg1
        have d0 := hW.cell 0
        have d1 := hW.cell 1
        simp at d0 d1
        clear hW
        have n1 : ((k : Int) + (n : Int)).toNat = k + n := by omega
        have n2 : ((k : Int) + (n : Int) + (v : Int)).toNat = k + n + v := by omega
        have n3 : (0 : Int) ≤ (k : Int) + n := by omega
        have n4 : (k : Int) + n ≤ (k : Int) + n + v := by omega
        have n5 : (k : Int) + n + v ≤ (cap1 : Int) := by omega
        have n6 : k + n + v - (k + n) = v := by omega
        have n7 : k + n + v ≤ cap1 := by omega
        have n8 : k + n ≤ k + n + v := by omega
        replace hR2 := Lib.hid hR2
        have hk : ∀ m, (convert 22 9 (.slice (if cap1 = k + n then some ⟨b, off, none⟩ else some ⟨b, off + (k + n), none⟩) v (cap1 - (k + n)))).run Try.prog (W.drewN m) = .ok (.string (str (((l.drop k).drop n).take v))) (W.drewN m) :=
          fun m => run_bts (W.drewN m) _ _ _ Try.underlying22 Try.underlying5 Try.underlying9 ((hS2.cut (fun e => List.eq_nil_of_length_eq_zero (by rw [List.length_map, ← hnl.out]; omega))).drewN m) _ _ hnl.out
        clear hS2
        go_quiet (fail)
        generalize (if cap1 = k + n then some (⟨b, off, none⟩ : Addr) else some ⟨b, off + (k + n), none⟩) = ad
        go_wp2_with fail
        go_ret
        exact ⟨by rw [List.drop_drop]; rfl, ⟨l, k + n + v, hR2.out.drewN _, by simp [Nat.add_assoc]⟩, grown_trans hG2 (grown_drewN _ _ _)⟩
    · rw [if_pos hy]
      have hy2 : (y == 0) = false := by rw [beq_eq_false_iff_ne]; exact hy
      have hy3 : (y != 0) = true := by rw [bne_iff_ne]; exact hy
      clear hnc hy
      go_enter Try.func50, Try.ntmps50
      go_wp2_with fail
      refine (peek_any g l k _ _ hR.out).mono ?_
      rintro z w1 ⟨rfl, hR1, hg1⟩
      rw [← hV.out] at hR1 ⊢
      have hR1' := hR1
      obtain ⟨a1, cap1, hw1, hs1, hoff1, hlc1, hcm1, hk1⟩ := hR1'
      have c1 := hw1.cell 2
      simp at c1
      clear hw1 hs1 hoff1 c2
      replace hR1 := Lib.hid hR1
      go_wp2_with fail
      go_ret
      exact ⟨rfl, ⟨l, k, hR1.out, rfl⟩, hg1⟩
  · have e1 : rdStr (l.drop k) e most = ([], l.drop k, e) := by rw [rdStr, if_pos he]
    rw [e1]
    have hne : (e != 0) = true := by rw [bne_iff_ne]; exact he
    clear he
    replace hR := Lib.hid hR
    go_enter Try.func50, Try.ntmps50
    go_wp2_with fail
    go_ret
    exact ⟨rfl, ⟨l, k, hR.out, rfl⟩, grown_refl _ _⟩

/-! ### A reader that is not there -/
theorem nil_num (most : Int) (w : World) : Calls Try.prog 49 #[.pointer none, .int .i64 most] w fun x w' => x = .returned (.int .i64 0) ∧ w = w' := by
  go_enter Try.func49, Try.ntmps49
  go_wp2_with fail
  go_ret
  exact ⟨rfl, rfl⟩
theorem nil_str (most : Int) (w : World) : Calls Try.prog 50 #[.pointer none, .int .i64 most] w fun x w' => x = .returned (.string (str [])) ∧ w = w' := by
  go_enter Try.func50, Try.ntmps50
  go_wp2_with fail
  go_ret
  exact ⟨rfl, rfl⟩
theorem nil_flag (w : World) : Calls Try.prog 51 #[.pointer none] w fun x w' => x = .returned (.bool false) ∧ w = w' := by
  go_enter Try.func51, Try.ntmps51
  go_wp2_with fail
  go_ret
  exact ⟨rfl, rfl⟩
theorem nil_left (w : World) : Calls Try.prog 53 #[.pointer none] w fun x w' => x = .returned (.int .i64 0) ∧ w = w' := by
  go_enter Try.func53, Try.ntmps53
  go_wp2_with fail
  go_ret
  exact ⟨rfl, rfl⟩
theorem nil_err (w : World) : Calls Try.prog 52 #[.pointer none] w fun x w' => x = .returned (.int .i64 1) ∧ w = w' := by
  go_enter Try.func52, Try.ntmps52
  go_wp2_with fail
  go_ret
  exact ⟨rfl, rfl⟩
theorem nil_end (w : World) : Calls Try.prog 68 #[.pointer none] w fun x w' => x = .returned (.int .i64 1) ∧ w = w' := by
  go_enter Try.func68, Try.ntmps68
  go_wp2_with fail
  go_ret
  exact ⟨rfl, rfl⟩
theorem nil_fail (z : Int) (w : World) : Calls Try.prog 66 #[.pointer none, .int .i64 z] w fun x w' => x = .returned (.tuple #[]) ∧ w = w' := by
  go_enter Try.func66, Try.ntmps66
  go_wp2_with fail
  go_end0
  exact ⟨rfl, rfl⟩

/-! ### The reference's reader -/
def RRd (w : World) (g : Nat) (r : List UInt8) (e : Int) : Prop := Whole w g 95 #[.string (str r), .int .i64 e] ∧ r.length ≤ 1000000

theorem RRd.keep {w w' : World} {g : Nat} {r : List UInt8} {e : Int} (h : RRd w g r e) (hb : Below w.heap.size w w') : RRd w' g r e := ⟨h.1.below hb h.1.lt, h.2⟩
theorem RRd.keepG {w w' : World} {g g' : Nat} {r : List UInt8} {e : Int} (h : RRd w g r e) (hb : w.grownBy w' (some g')) (hne : g ≠ g') : RRd w' g r e := ⟨h.1.keep hb (by simpa using hne), h.2⟩

theorem str_extract_from (r : List UInt8) (n : Nat) : (str r).extract n r.length = str (r.drop n) := by
  apply ByteArray.ext
  apply Array.ext'
  simp [str]
  exact List.take_of_length_le (by simp)

theorem str_extract_to (r : List UInt8) (n m : Nat) : (str r).extract n m = str ((r.take m).drop n) := by
  apply ByteArray.ext
  apply Array.ext'
  simp [str, List.drop_take]

set_option maxRecDepth 10000 in
theorem rr_num (g : Nat) (r : List UInt8) (e most : Int) (w : World) (h : RRd w g r e) :
    Calls Try.prog 63 #[.pointer (some ⟨g, 0, none⟩), .int .i64 most] w fun x w' =>
      x = .returned (.int .i64 (rdNum r e most).1) ∧ RRd w' g (rdNum r e most).2.1 (rdNum r e most).2.2 ∧ w.grownBy w' (some g) := by
  obtain ⟨hw, hl⟩ := h
  have c0 := hw.cell 0
  have c1 := hw.cell 1
  have f0 := hw.frozen 0
  have f1 := hw.frozen 1
  simp at c0 c1
  have hW := Lib.hid hw
  clear hw
  by_cases he : e = 0
  · subst he
    obtain ⟨⟨v, n, y⟩, hV⟩ : ∃ V, V = nextB r most := ⟨_, rfl⟩
    have hnc := nextB_cases r most
    have e1 : rdNum r 0 most = ((nextB r most).1, r.drop (nextB r most).2.1, (nextB r most).2.2) := rfl
    rw [← hV] at hnc e1
    rw [e1]
    simp only at hnc
    have hle : n ≤ r.length := by omega
    clear hnc e1
    replace hV := Lib.hid hV
    go_enter Try.func63, Try.ntmps63
    go_wp2_with fail
    refine (rnext_any _ most _ (by rw [str_size]; unfold maxLen; omega)).mono ?_
    rintro z w1 ⟨rfl, rfl⟩
    rw [str_data, ← hV.out]
    go_wp2_with fail
    go_ret
    have h2 := (hW.out.set 1 (.int .i64 y)).set 0 (.string (str (r.drop n)))
    refine ⟨rfl, ⟨?_, by rw [List.length_drop]; omega⟩, grown_trans (grown_set _ _ _ _) (grown_set _ _ _ _)⟩
    simpa [str_extract_from] using h2
  · have e1 : rdNum r e most = (0, r, e) := by rw [rdNum, if_pos he]
    rw [e1]
    have hne : (e != 0) = true := by rw [bne_iff_ne]; exact he
    clear he
    go_enter Try.func63, Try.ntmps63
    go_wp2_with fail
    go_ret
    exact ⟨rfl, ⟨hW.out, hl⟩, grown_refl _ _⟩

end Go.Proofs.Ytcpkmgmdhjhfaaa
