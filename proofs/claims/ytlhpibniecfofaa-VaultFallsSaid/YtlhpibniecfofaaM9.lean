/- Texts laid together: RefReader Reads. -/
import Derived.Test.YtlhpibniecfofaaM1
import Derived.Test.YtlhpibniecfofaaM8
section
/- The walks of the reference's Reader of numbers, texts and truths. -/
set_option linter.unusedSimpArgs false
set_option linter.unusedVariables false
namespace Go.Proofs.Ytlhpibniecfofaa
open Go.RowKit Go.Ofp

end Go.Proofs.Ytlhpibniecfofaa
end

section
/- The walks of octet's Reader and of the reference's, each method. -/
set_option linter.unusedSimpArgs false
set_option linter.unusedVariables false
namespace Go.Proofs.Ytlhpibniecfofaa
open Go.RowKit Go.Ofp

/-- A reader, by what is left. -/
def RdR (w : World) (g : Nat) (r : List UInt8) (e : Int) : Prop := ∃ l k, Rd w g l k e ∧ l.drop k = r

theorem RdR.keep {w w' : World} {g : Nat} {r : List UInt8} {e : Int} (h : RdR w g r e) (hb : Below w.heap.size w w') : RdR w' g r e := by
  obtain ⟨l, k, h1, h2⟩ := h
  exact ⟨l, k, h1.keep hb, h2⟩

theorem rd_num (g : Nat) (r : List UInt8) (e most : Int) (w : World) (h : RdR w g r e) :
    Calls Try.prog 74 #[.pointer (some ⟨g, 0, none⟩), .int .i64 most] w fun x w' =>
      x = .returned (.int .i64 (rdNum r e most).1) ∧ RdR w' g (rdNum r e most).2.1 (rdNum r e most).2.2 ∧ w.grownBy w' (some g) := by
  obtain ⟨l, k, hR, rfl⟩ := h
  have hR0 := hR
  obtain ⟨a, cap, hw, hs, hoff, hlc, hcm, hk⟩ := hR0
  unfold maxLen at hcm
  have c2 := hw.cell 2
  simp at c2
  clear hw hs hoff
  by_cases he : e = 0
  · subst he
    obtain ⟨⟨v, n, x⟩, hV⟩ : ∃ V, V = nextB (l.drop k) most := ⟨_, rfl⟩
    have hnc := nextB_cases (l.drop k) most
    have e1 : rdNum (l.drop k) 0 most = ((nextB (l.drop k) most).1, (l.drop k).drop (nextB (l.drop k) most).2.1, (nextB (l.drop k) most).2.2) := rfl
    rw [← hV] at hnc e1
    rw [e1]
    have hle : k + n ≤ l.length := by
      rw [List.length_drop] at hnc
      simp only at hnc
      omega
    clear hnc e1
    replace hV := Lib.hid hV
    replace hR := Lib.hid hR
    go_enter Try.func74, Try.ntmps74
    go_wp2_with fail
    refine (peek_any g l k most _ hR.out).mono ?_
    rintro y w1 ⟨rfl, hR1, hg1⟩
    rw [← hV.out] at hR1 ⊢
    have hR1' := hR1
    obtain ⟨a1, cap1, hw1, hs1, hoff1, hlc1, hcm1, hk1⟩ := hR1'
    have c1 := hw1.cell 1
    have f1 := hw1.frozen 1
    simp at c1
    clear hw1 hs1 hoff1
    replace hR1 := Lib.hid hR1
    go_wp2_with fail
    go_ret
    refine ⟨rfl, ⟨l, k + n, by have := hR1.out.place (k + n) hle; rw [Int.natCast_add] at this; exact this, by rw [List.drop_drop]⟩, grown_trans hg1 (grown_set _ _ _ _)⟩
  · have e1 : rdNum (l.drop k) e most = (0, l.drop k, e) := by rw [rdNum, if_pos he]
    rw [e1]
    have hne : (e != 0) = true := by rw [bne_iff_ne]; exact he
    clear he
    replace hR := Lib.hid hR
    go_enter Try.func74, Try.ntmps74
    go_wp2_with fail
    go_ret
    exact ⟨rfl, ⟨l, k, hR.out, rfl⟩, grown_refl _ _⟩

theorem rd_new (a : Option Addr) (l : List UInt8) (n cap : Nat) (w : World) (hn : n = l.length) (h : Sl w a (l.map vb)) (hl : n ≤ 1000000) :
    Calls Try.prog 73 #[.slice a n cap] w fun x w' => ∃ g, x = .returned (.pointer (some ⟨g, 0, none⟩)) ∧ w.heap.size ≤ g ∧ RdR w' g l 0 ∧ Below w.heap.size w w' := by
  replace hn := Lib.hid hn
  replace h := Lib.hid h
  go_enter Try.func73, Try.ntmps73
  go_wp2_with (first
    | (at_make; refine wpList_mkfull rfl rfl Try.underlying127 elem_u8 rfl rfl n rfl rfl (by omega) (by unfold maxLen; omega) ?_; intro w1 ho1 hg1)
    | (with_reducible refine wpList_copy_all (s := .tmp 7) (x := .tmp 8) rfl rfl Try.underlying127 elem_u8 ho1 rfl (Src.slice Try.underlying127 (h.out.below (below_grown hg1)) (by simp [hn.out])) rfl (vb_one _) ?_; intro w2 ho2 hg2))
  go_ret
  have hlt : w.heap.size < w2.heap.size := (ho2.lt w.heap.size rfl).2
  have hB : Below w.heap.size w w2 := (below_grown hg1).trans (below_of_grown hg2 (Nat.le_refl _) (hg1 none).size)
  obtain ⟨a2, c2, e2, hs2, _⟩ := owns_sl ho2
  cases e2
  refine ⟨_, rfl, by omega, ⟨l, 0, ⟨some ⟨w.heap.size, 0, none⟩, n, ?_, hs2.below ((Below.refl _ _).alloc (Nat.le_refl _) _), ?_, by rw [hn.out]; exact Nat.le_refl _, by unfold maxLen; omega, Nat.zero_le _⟩, rfl⟩, hB.alloc hB.size _⟩
  · rw [← hn.out]
    exact Whole.new w2 _ _
  · intro b off hb
    cases hb
    omega

end Go.Proofs.Ytlhpibniecfofaa
end
