/- The laws of layer 1: OctetBack. -/
import Derived.Test.YtcpkmgmdhjhfaaaReads3
import Derived.Test.YtcpkmgmdhjhfaaaOctetBack
namespace Go.Proofs.Ytcpkmgmdhjhfaaa
open Go.RowKit Go.Ofp

set_option maxRecDepth 10000 in
theorem awake01_any (w : World) :
    Calls Try.prog 31 #[] w fun e w' => e = .returned (.bool true) ∧ Below w.heap.size w w' := by
  have hnb : nextB [128, 0] 9 = (0, 0, 3) := by decide
  have hn300 : numB (clampN 300) = [172, 2] := by
    rw [show clampN 300 = 300 from by decide, numB_ge 300 (by decide), show 300 / 128 = 2 from rfl, numB_lt 2 (by decide)]; rfl
  have e1 : rdNum [128, 0] 0 9 = (0, [128, 0], 3) := by rw [rdNum, if_neg (by simp), hnb]; rfl
  have ha : (str [172, 2]).toList = [172, 2] := str_toList _
  replace hn300 := Lib.hid hn300
  replace e1 := Lib.hid e1
  go_enter Try.func31, Try.ntmps31
  go_wp2_with fail
  refine (rd_new _ [128, 0] 2 _ _ rfl (Sl.new _ _ _ _) (by decide)).mono ?_
  rintro e w1 ⟨g, rfl, hg, hR, hb1⟩
  replace hR := Lib.hid hR
  go_wp2_with fail
  refine (rd_num g _ 0 9 _ hR.out).mono ?_
  rintro e w2 ⟨rfl, hR2, hg2⟩
  rw [e1.out] at hR2 ⊢
  have hb2 : Below w.heap.size w w2 := (((Below.refl _ _).alloc (Nat.le_refl _) _).trans (hb1.mono (by simp))).trans (below_of_grown hg2 (by simp at hg; omega) (by have := hb1.size; simp at this; omega))
  clear hb1 hg2
  replace hR2 := Lib.hid hR2
  go_wp2_with fail
  refine (num_any none [] 0 0 300 _ rfl (Sl.nil _ _) (by decide) (by decide)).mono ?_
  rintro e w3 ⟨v3, rfl, ho3, hb3⟩
  rw [hn300.out] at ho3
  obtain ⟨a3, c3, rfl, hs3, _⟩ := owns_sl ho3
  clear ho3
  have hR3 := hR2.out.keep hb3
  replace hR3 := Lib.hid hR3
  replace hs3 := Lib.hid hs3
  go_wp2_with (first
    | (go_at_call 52; refine (rd_err _ _ _ _ hR3.out).mono ?_; rintro e w' ⟨rfl, rfl⟩)
    | (with_reducible refine wpList_bts (src := 22) (dst := 9) (x := .tmp 7) (l := [172, 2]) rfl rfl Try.underlying22 Try.underlying5 Try.underlying9 rfl hs3.out rfl ?_))
  go_ret
  exact ⟨rfl, below_step hb2 hb3⟩

theorem back_skip (n : Int) (s : ByteArray) (a : Option Addr) (m cap : Nat) (w : World) (hs : s.size ≤ maxLen) (hm : m ≤ maxLen) (h : n < 0 ∨ 1099511627776 < n ∨ 1000 < s.size ∨ 1000 < m) :
    Calls Try.prog 10 #[.int .i64 n, .string s, .slice a m cap] w fun e w' => e = .returned (.bool true) ∧ Below w.heap.size w w' := by
  unfold maxLen at hs hm
  by_cases h1 : n < 0
  · clear h
    go_enter Try.func10, Try.ntmps10
    go_wp2_with (go_at_call 31; refine (awake01_any _).mono ?_; rintro e w' ⟨rfl, hb⟩)
    go_ret
    exact ⟨rfl, hb⟩
  by_cases h2 : 1099511627776 < n
  · clear h
    go_enter Try.func10, Try.ntmps10
    go_wp2_with (go_at_call 31; refine (awake01_any _).mono ?_; rintro e w' ⟨rfl, hb⟩)
    go_ret
    exact ⟨rfl, hb⟩
  by_cases h3 : 1000 < s.size
  · clear h
    go_enter Try.func10, Try.ntmps10
    go_wp2_with (go_at_call 31; refine (awake01_any _).mono ?_; rintro e w' ⟨rfl, hb⟩)
    go_ret
    exact ⟨rfl, hb⟩
  · have h4 : 1000 < m := by omega
    clear h
    go_enter Try.func10, Try.ntmps10
    go_wp2_with (go_at_call 31; refine (awake01_any _).mono ?_; rintro e w' ⟨rfl, hb⟩)
    go_ret
    exact ⟨rfl, hb⟩

set_option maxRecDepth 10000 in
set_option maxHeartbeats 1000000 in
theorem back_main (n : Nat) (s : ByteArray) (a : Option Addr) (l : List UInt8) (m cap : Nat) (w : World) (hl : m = l.length) (ha : Sl w a (l.map vb)) (h1 : n ≤ 1099511627776) (h2 : s.size ≤ 1000) (h3 : m ≤ 1000) :
    Calls Try.prog 10 #[.int .i64 n, .string s, .slice a m cap] w fun e w' => e = .returned (.bool true) ∧ Below w.heap.size w w' := by
  have hcn := clamp_nat n h1
  have h6 := numB_six n h1
  have h6' := numB_six s.size (by unfold maxNum; omega)
  obtain ⟨q, hq⟩ : ∃ q, q = ((n : Int) % 2 == 1) := ⟨_, rfl⟩
  have hq' : ((n : Int) % 2 == 1) = q := hq.symm
  clear hq
  have hlen : s.data.toList.length = s.size := by simp
  have er1 := read_num n (numB s.size ++ s.data.toList ++ ([if q then 1 else 0] ++ l)) (by unfold maxNum; omega)
  have er2 := read_str s.data.toList ([if q then 1 else 0] ++ l) (by rw [hlen]; unfold maxNum; omega)
  have er3 := read_flag q l
  rw [hlen] at er2
  replace hcn := Lib.hid hcn
  replace hl := Lib.hid hl
  replace ha := Lib.hid ha
  replace hlen := Lib.hid hlen
  replace er1 := Lib.hid er1
  replace er2 := Lib.hid er2
  replace er3 := Lib.hid er3
  go_enter Try.func10, Try.ntmps10
  go_wp2_with fail
  refine (num_any none [] 0 0 _ _ rfl (Sl.nil _ _) (by decide) (by decide)).mono ?_
  rintro e w1 ⟨v1, rfl, ho1, hb1⟩
  rw [hcn.out] at ho1
  obtain ⟨a1, c1, rfl, hs1, _, hc1, _⟩ := owns_sl ho1
  clear ho1
  simp only [List.nil_append, Nat.zero_add] at hs1 hc1 ⊢
  replace hs1 := Lib.hid hs1
  go_wp2_with fail
  refine (str_any a1 (numB n) _ c1 s _ rfl hs1.out (by omega) hc1 (by omega)).mono ?_
  rintro e w2 ⟨v2, rfl, ho2, hb2⟩
  obtain ⟨a2, c2, rfl, hs2, _, hc2, _⟩ := owns_sl ho2
  clear ho2 hs1
  replace hs2 := Lib.hid hs2
  go_wp2_with fail
  refine (flag_any a2 (numB n ++ numB s.size ++ s.data.toList) _ c2 q _ (by simp [hlen.out]; omega) hs2.out (by omega) hc2).mono ?_
  rintro e w3 ⟨v3, rfl, ho3, hb3⟩
  obtain ⟨a3, c3, rfl, hs3, hn3, hc3, _⟩ := owns_sl ho3
  clear ho3 hs2
  have hB3 := below_step (below_step hb1 hb2) hb3
  clear hb1 hb2 hb3
  replace hs3 := Lib.hid hs3
  replace hn3 := Lib.hid hn3
  have hLe : (numB n ++ numB s.size ++ s.data.toList ++ [if q then 1 else 0]).length = (numB n).length + (numB s.size).length + s.size + 1 := by simp [hlen.out]; omega
  replace hLe := Lib.hid hLe
  go_wp2_with (first
    | (at_builtin; refine wpList_app (s := .tmp 37) (x := .tmp 38) rfl rfl Try.underlying22 elem_u8 (World.ownsRow_lit (base := w3.heap.size) (e := 5) (size := 1) w3 #[] 0 (Nat.le_refl _) (by unfold maxLen; omega) rfl) rfl (Src.slice Try.underlying22 (hs3.out.below ((Below.refl _ _).alloc (Nat.le_refl _) _)) hn3.out) rfl (vb_one _) (by omega) (by unfold maxLen; omega) (by simp) ?_; intro v4 w4 ho4 hB4 hg4 hv4)
    | (at_builtin; refine wpList_app (s := .tmp 39) (x := .tmp 40) rfl rfl Try.underlying22 elem_u8 ho4 rfl (Src.slice Try.underlying22 (ha.out.below (below_step hB3 (((Below.refl _ _).alloc (Nat.le_refl _) _).trans hB4))) (by simp [hl.out])) rfl (vb_one _) (by omega) (by unfold maxLen; omega) (Nat.le_trans (by simp) hB4.size) ?_; intro v5 w5 ho5 hB5 hg5 hv5; have hB6 := below_step hB3 ((((Below.refl w3.heap.size w3).alloc (Nat.le_refl _) (.cells #[] 5)).trans hB4).trans hB5); clear hB4 hB5 hg4 hv4 hg5 hv5 ho4; obtain ⟨a5, c5, rfl, hs5, hn5, hc5, -⟩ := owns_sl ho5; clear ho5; replace hs5 := Lib.hid hs5; replace hn5 := Lib.hid hn5))
  have hs6 : Sl w5 a5 ((numB n ++ (numB s.size ++ s.data.toList ++ ([if q then 1 else 0] ++ l))).map vb) := by
    have := hs5.out
    simpa using this
  clear hs5
  refine (rd_new a5 _ _ c5 _ ?_ hs6 (by omega)).mono ?_
  · have := hLe.out
    simp only [List.length_append] at this ⊢
    simp only [hl.out]
    omega
  rintro e w6 ⟨g, rfl, hg, hR, hb6⟩
  have hB7 := below_step hB6 hb6
  have hg7 : w.heap.size ≤ g := Nat.le_trans hB6.size hg
  clear hB6 hb6 hs6 hg
  replace hR := Lib.hid hR
  go_wp2_with fail
  refine (rd_num g _ 0 _ _ hR.out).mono ?_
  rintro e w7 ⟨rfl, hR7, hg7'⟩
  rw [er1.out] at hR7 ⊢
  have hB8 := hB7.trans (below_of_grown hg7' hg7 hB7.size)
  clear hg7' hB7
  replace hR7 := Lib.hid hR7
  go_wp2_with fail
  refine (rd_str g _ 0 _ _ hR7.out).mono ?_
  rintro e w8 ⟨rfl, hR8, hg8⟩
  rw [er2.out] at hR8 ⊢
  have hB9 := hB8.trans (below_of_grown hg8 hg7 hB8.size)
  clear hg8 hB8
  replace hR8 := Lib.hid hR8
  go_wp2_with fail
  refine (rd_flag g _ 0 _ hR8.out).mono ?_
  rintro e w9 ⟨rfl, hR9, hg9⟩
  rw [er3.out] at hR9 ⊢
  have hB10 := hB9.trans (below_of_grown hg9 hg7 hB9.size)
  clear hg9 hB9
  replace hR9 := Lib.hid hR9
  have hst : (str s.data.toList).toList = s.toList := by rw [str_toList, ByteArray.toList_eq]
  go_wp2_with (first
    | (go_at_call 52; refine (rd_err _ _ _ _ hR9.out).mono ?_; rintro e w' ⟨rfl, rfl⟩)
    | (go_at_call 53; refine (rd_left _ _ _ _ hR9.out).mono ?_; rintro e w' ⟨rfl, n9, rfl⟩; rw [← hl.out])
    | (go_at_call 31; refine (awake01_any _).mono ?_; rintro e w' ⟨rfl, hb⟩))
  go_ret
  exact ⟨rfl, below_step (below_drewN hB10 n9) hb⟩

theorem back_all (n : Int) (s : ByteArray) (a : Option Addr) (l : List UInt8) (cap : Nat) (w : World) (ha : Sl w a (l.map vb)) (hs : s.size ≤ maxLen) (hm : l.length ≤ maxLen) :
    Calls Try.prog 10 #[.int .i64 n, .string s, .slice a l.length cap] w fun e w' => e = .returned (.bool true) ∧ Below w.heap.size w w' := by
  by_cases h : n < 0 ∨ 1099511627776 < n ∨ 1000 < s.size ∨ 1000 < l.length
  · exact back_skip n s a _ cap w hs hm h
  · obtain ⟨k, rfl⟩ := Int.eq_ofNat_of_zero_le (show 0 ≤ n by omega)
    exact back_main k s a l _ cap w rfl ha (by omega) (by omega) (by omega)

end Go.Proofs.Ytcpkmgmdhjhfaaa
