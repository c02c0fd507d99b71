/- The walks of octet's Reader and of the reference's, each method. -/
import Derived.Test.YtcpkmgmdhjhfaaaReader
import Derived.Test.YtcpkmgmdhjhfaaaRefReader
import Derived.Test.YtcpkmgmdhjhfaaaKit2
namespace Go.Proofs.Ytcpkmgmdhjhfaaa
open Go.RowKit Go.Ofp

/-- A reader, by what is left. -/
def RdR (w : World) (g : Nat) (r : List UInt8) (e : Int) : Prop := ∃ l k, Rd w g l k e ∧ l.drop k = r

theorem RdR.keep {w w' : World} {g : Nat} {r : List UInt8} {e : Int} (h : RdR w g r e) (hb : Below w.heap.size w w') : RdR w' g r e := by
  obtain ⟨l, k, h1, h2⟩ := h
  exact ⟨l, k, h1.keep hb, h2⟩

theorem rd_num (g : Nat) (r : List UInt8) (e most : Int) (w : World) (h : RdR w g r e) :
    Calls Try.prog 49 #[.pointer (some ⟨g, 0, none⟩), .int .i64 most] w fun x w' =>
      x = .returned (.int .i64 (rdNum r e most).1) ∧ RdR w' g (rdNum r e most).2.1 (rdNum r e most).2.2 ∧ w.grownBy w' (some g) := by
  obtain ⟨l, k, hR, rfl⟩ := h
  have hR0 := hR
  obtain ⟨a, cap, hw, hs, hoff, hlc, hcm, hk⟩ := hR0
  unfold maxLen at hcm
  have c2 := hw.cell 2
  simp at c2
  clear hw hs hoff
  by_cases he : e = 0
  · subst he
    obtain ⟨⟨v, n, x⟩, hV⟩ : ∃ V, V = nextB (l.drop k) most := ⟨_, rfl⟩
    have hnc := nextB_cases (l.drop k) most
    have e1 : rdNum (l.drop k) 0 most = ((nextB (l.drop k) most).1, (l.drop k).drop (nextB (l.drop k) most).2.1, (nextB (l.drop k) most).2.2) := rfl
    rw [← hV] at hnc e1
    rw [e1]
    have hle : k + n ≤ l.length := by
      rw [List.length_drop] at hnc
      simp only at hnc
      omega
    clear hnc e1
    replace hV := Lib.hid hV
    replace hR := Lib.hid hR
    go_enter Try.func49, Try.ntmps49
    go_wp2_with fail
    refine (peek_any g l k most _ hR.out).mono ?_
    rintro y w1 ⟨rfl, hR1, hg1⟩
    rw [← hV.out] at hR1 ⊢
    have hR1' := hR1
    obtain ⟨a1, cap1, hw1, hs1, hoff1, hlc1, hcm1, hk1⟩ := hR1'
    have c1 := hw1.cell 1
    have f1 := hw1.frozen 1
    simp at c1
    clear hw1 hs1 hoff1
    replace hR1 := Lib.hid hR1
    go_wp2_with fail
    go_ret
    refine ⟨rfl, ⟨l, k + n, by have := hR1.out.place (k + n) hle; rw [Int.natCast_add] at this; exact this, by rw [List.drop_drop]⟩, grown_trans hg1 (grown_set _ _ _ _)⟩
  · have e1 : rdNum (l.drop k) e most = (0, l.drop k, e) := by rw [rdNum, if_pos he]
    rw [e1]
    have hne : (e != 0) = true := by rw [bne_iff_ne]; exact he
    clear he
    replace hR := Lib.hid hR
    go_enter Try.func49, Try.ntmps49
    go_wp2_with fail
    go_ret
    exact ⟨rfl, ⟨l, k, hR.out, rfl⟩, grown_refl _ _⟩

theorem rd_left (g : Nat) (r : List UInt8) (e : Int) (w : World) (h : RdR w g r e) :
    Calls Try.prog 53 #[.pointer (some ⟨g, 0, none⟩)] w fun x w' => x = .returned (.int .i64 r.length) ∧ ∃ n, w' = w.drewN n := by
  obtain ⟨l, k, ⟨a, cap, hw, hs, hoff, hlc, hcm, hk⟩, rfl⟩ := h
  unfold maxLen at hcm
  have c0 := hw.cell 0
  have c1 := hw.cell 1
  simp at c0 c1
  clear hw hs hoff
  have w0 : IntKind.i64.wrap ((l.length : Int) - (k : Int)) = (l.length : Int) - k := IntWalk.i64_in _ (by omega)
  go_enter Try.func53, Try.ntmps53
  go_wp2_with fail
  go_quiet (fail)
  go_wp2_with fail
  go_ret
  exact ⟨ret_val (congrArg (Value.int .i64) (by rw [List.length_drop]; omega)), _, rfl⟩

theorem rd_err (g : Nat) (r : List UInt8) (e : Int) (w : World) (h : RdR w g r e) :
    Calls Try.prog 52 #[.pointer (some ⟨g, 0, none⟩)] w fun x w' => x = .returned (.int .i64 e) ∧ w = w' := by
  obtain ⟨l, k, ⟨a, cap, hw, hs, hoff, hlc, hcm, hk⟩, rfl⟩ := h
  have c2 := hw.cell 2
  simp at c2
  clear hw hs hoff hcm
  go_enter Try.func52, Try.ntmps52
  go_wp2_with fail
  go_ret
  exact ⟨rfl, rfl⟩

theorem rd_fail (g : Nat) (r : List UInt8) (e x : Int) (w : World) (h : RdR w g r e) :
    Calls Try.prog 66 #[.pointer (some ⟨g, 0, none⟩), .int .i64 x] w fun y w' => y = .returned (.tuple #[]) ∧ RdR w' g r (rdFail e x) ∧ w.grownBy w' (some g) := by
  obtain ⟨l, k, hR, rfl⟩ := h
  have hR0 := hR
  obtain ⟨a, cap, hw, hs, hoff, hlc, hcm, hk⟩ := hR0
  have c2 := hw.cell 2
  have f2 := hw.frozen 2
  simp at c2
  clear hw hs hoff hcm
  replace hR := Lib.hid hR
  by_cases he : e = 0
  · subst he
    go_enter Try.func66, Try.ntmps66
    go_wp2_with fail
    go_end0
    exact ⟨rfl, ⟨l, k, hR.out.err x, rfl⟩, grown_set _ _ _ _⟩
  · have e1 : rdFail e x = e := by rw [rdFail, if_neg he]
    rw [e1]
    have hne : (e == 0) = false := by rw [beq_eq_false_iff_ne]; exact he
    clear he
    go_enter Try.func66, Try.ntmps66
    go_wp2_with fail
    go_end0
    exact ⟨rfl, ⟨l, k, hR.out, rfl⟩, grown_refl _ _⟩

theorem rd_end (g : Nat) (r : List UInt8) (e : Int) (w : World) (h : RdR w g r e) :
    Calls Try.prog 68 #[.pointer (some ⟨g, 0, none⟩)] w fun x w' => x = .returned (.int .i64 (rdEnd r e)) ∧ ∃ n, w' = w.drewN n := by
  have h0 := h
  obtain ⟨l, k, hR, hr⟩ := h
  obtain ⟨a, cap, hw, hs, hoff, hlc, hcm, hk⟩ := hR
  have c2 := hw.cell 2
  simp at c2
  clear hw hs hoff hcm hr hlc hk
  replace h0 := Lib.hid h0
  by_cases he : e = 0
  · subst he
    by_cases hl : r.length = 0
    · have hd : decide ((0 : Int) < (r.length : Int)) = false := decide_eq_false (by omega)
      have hd2 : decide (0 < r.length) = false := decide_eq_false (by omega)
      have e1 : rdEnd r 0 = 0 := by rw [rdEnd, if_neg (by omega)]
      rw [e1]
      clear hl
      go_enter Try.func68, Try.ntmps68
      go_wp2_with (go_at_call 53; refine (rd_left _ _ _ _ h0.out).mono ?_; rintro x w' ⟨rfl, n, rfl⟩)
      go_ret
      exact ⟨rfl, _, rfl⟩
    · have hd : decide ((0 : Int) < (r.length : Int)) = true := decide_eq_true (by omega)
      have hd2 : decide (0 < r.length) = true := decide_eq_true (by omega)
      have e1 : rdEnd r 0 = 3 := by rw [rdEnd, if_pos (by omega)]
      rw [e1]
      clear hl
      go_enter Try.func68, Try.ntmps68
      go_wp2_with (go_at_call 53; refine (rd_left _ _ _ _ h0.out).mono ?_; rintro x w' ⟨rfl, n, rfl⟩)
      go_ret
      exact ⟨rfl, _, rfl⟩
  · have e1 : rdEnd r e = e := by rw [rdEnd, if_neg (fun h => he h.1)]
    rw [e1]
    have hne : (e == 0) = false := by rw [beq_eq_false_iff_ne]; exact he
    clear he
    go_enter Try.func68, Try.ntmps68
    go_wp2_with fail
    go_ret
    exact ⟨rfl, 0, rfl⟩

theorem rd_new (a : Option Addr) (l : List UInt8) (n cap : Nat) (w : World) (hn : n = l.length) (h : Sl w a (l.map vb)) (hl : n ≤ 1000000) :
    Calls Try.prog 48 #[.slice a n cap] w fun x w' => ∃ g, x = .returned (.pointer (some ⟨g, 0, none⟩)) ∧ w.heap.size ≤ g ∧ RdR w' g l 0 ∧ Below w.heap.size w w' := by
  replace hn := Lib.hid hn
  replace h := Lib.hid h
  go_enter Try.func48, Try.ntmps48
  go_wp2_with (first
    | (at_make; refine wpList_mkfull rfl rfl Try.underlying22 elem_u8 rfl rfl n rfl rfl (by omega) (by unfold maxLen; omega) ?_; intro w1 ho1 hg1)
    | (with_reducible refine wpList_copy_all (s := .tmp 7) (x := .tmp 8) rfl rfl Try.underlying22 elem_u8 ho1 rfl (Src.slice Try.underlying22 (h.out.below (below_grown hg1)) (by simp [hn.out])) rfl (vb_one _) ?_; intro w2 ho2 hg2))
  go_ret
  have hlt : w.heap.size < w2.heap.size := (ho2.lt w.heap.size rfl).2
  have hB : Below w.heap.size w w2 := (below_grown hg1).trans (below_of_grown hg2 (Nat.le_refl _) (hg1 none).size)
  obtain ⟨a2, c2, e2, hs2, _⟩ := owns_sl ho2
  cases e2
  refine ⟨_, rfl, by omega, ⟨l, 0, ⟨some ⟨w.heap.size, 0, none⟩, n, ?_, hs2.below ((Below.refl _ _).alloc (Nat.le_refl _) _), ?_, by rw [hn.out]; exact Nat.le_refl _, by unfold maxLen; omega, Nat.zero_le _⟩, rfl⟩, hB.alloc hB.size _⟩
  · rw [← hn.out]
    exact Whole.new w2 _ _
  · intro b off hb
    cases hb
    omega

theorem rd_flag (g : Nat) (r : List UInt8) (e : Int) (w : World) (h : RdR w g r e) :
    Calls Try.prog 51 #[.pointer (some ⟨g, 0, none⟩)] w fun x w' =>
      x = .returned (.bool (rdFlag r e).1) ∧ RdR w' g (rdFlag r e).2.1 (rdFlag r e).2.2 ∧ w.grownBy w' (some g) := by
  obtain ⟨l, k, hR, rfl⟩ := h
  have hR0 := hR
  obtain ⟨a, cap, hw, hs, hoff, hlc, hcm, hk⟩ := hR0
  unfold maxLen at hcm
  have c2 := hw.cell 2
  simp at c2
  clear hw hs hoff
  by_cases he : e = 0
  · subst he
    obtain ⟨⟨v, n, y⟩, hV⟩ : ∃ V, V = nextB (l.drop k) 1099511627776 := ⟨_, rfl⟩
    have hnc := nextB_cases (l.drop k) 1099511627776
    have e1 : rdFlag (l.drop k) 0 = if (nextB (l.drop k) 1099511627776).2.2 ≠ 0 then (false, l.drop k, (nextB (l.drop k) 1099511627776).2.2) else if 1 < (nextB (l.drop k) 1099511627776).1 then (false, l.drop k, 3)
        else ((nextB (l.drop k) 1099511627776).1 == 1, (l.drop k).drop (nextB (l.drop k) 1099511627776).2.1, 0) := by rw [rdFlag, if_neg (by simp)]
    rw [← hV] at hnc e1
    simp only at hnc e1
    rw [List.length_drop] at hnc
    rw [e1]
    clear e1
    replace hV := Lib.hid hV
    replace hR := Lib.hid hR
    by_cases hy : y = 0
    · subst hy
      rw [if_neg (by simp)]
      have hle : k + n ≤ l.length := by omega
      have hvm : v ≤ 1099511627776 := by unfold maxNum at hnc; omega
      clear hnc
      by_cases hv : 1 < v
      · rw [if_pos hv]
        go_enter Try.func51, Try.ntmps51
        go_wp2_with fail
        refine (peek_any g l k _ _ hR.out).mono ?_
        rintro z w1 ⟨rfl, hR1, hg1⟩
        rw [← hV.out] at hR1 ⊢
        have hR1' := hR1
        obtain ⟨a1, cap1, hw1, hs1, hoff1, hlc1, hcm1, hk1⟩ := hR1'
        have c1 := hw1.cell 2
        have f1 := hw1.frozen 2
        simp at c1
        clear hw1 hs1 hoff1 c2
        replace hR1 := Lib.hid hR1
        go_wp2_with fail
        go_ret
        exact ⟨rfl, ⟨l, k, hR1.out.err 3, rfl⟩, grown_trans hg1 (grown_set _ _ _ _)⟩
      · rw [if_neg hv]
        have hb : (v == 1) = ((v : Int) == 1) := by rw [Bool.eq_iff_iff]; simp; omega
        rw [hb]
        replace hb := Lib.hid hb
        go_enter Try.func51, Try.ntmps51
        go_wp2_with fail
        refine (peek_any g l k _ _ hR.out).mono ?_
        rintro z w1 ⟨rfl, hR1, hg1⟩
        rw [← hV.out] at hR1 ⊢
        have hR1' := hR1
        obtain ⟨a1, cap1, hw1, hs1, hoff1, hlc1, hcm1, hk1⟩ := hR1'
        have c1 := hw1.cell 2
        have c1' := hw1.cell 1
        have f1 := hw1.frozen 1
        simp at c1 c1'
        clear hw1 hs1 hoff1 c2
        replace hR1 := Lib.hid hR1
        go_wp2_with fail
        go_ret
        refine ⟨rfl, ⟨l, k + n, by have := hR1.out.place (k + n) hle; rw [Int.natCast_add] at this; exact this, by rw [List.drop_drop]⟩, grown_trans hg1 (grown_set _ _ _ _)⟩
    · rw [if_pos hy]
      have hy2 : (y == 0) = false := by rw [beq_eq_false_iff_ne]; exact hy
      have hy3 : (y != 0) = true := by rw [bne_iff_ne]; exact hy
      clear hnc hy
      go_enter Try.func51, Try.ntmps51
      go_wp2_with fail
      refine (peek_any g l k _ _ hR.out).mono ?_
      rintro z w1 ⟨rfl, hR1, hg1⟩
      rw [← hV.out] at hR1 ⊢
      have hR1' := hR1
      obtain ⟨a1, cap1, hw1, hs1, hoff1, hlc1, hcm1, hk1⟩ := hR1'
      have c1 := hw1.cell 2
      simp at c1
      clear hw1 hs1 hoff1 c2
      replace hR1 := Lib.hid hR1
      go_wp2_with fail
      go_ret
      exact ⟨rfl, ⟨l, k, hR1.out, rfl⟩, hg1⟩
  · have e1 : rdFlag (l.drop k) e = (false, l.drop k, e) := by rw [rdFlag, if_pos he]
    rw [e1]
    have hne : (e != 0) = true := by rw [bne_iff_ne]; exact he
    clear he
    replace hR := Lib.hid hR
    go_enter Try.func51, Try.ntmps51
    go_wp2_with fail
    go_ret
    exact ⟨rfl, ⟨l, k, hR.out, rfl⟩, grown_refl _ _⟩

end Go.Proofs.Ytcpkmgmdhjhfaaa
