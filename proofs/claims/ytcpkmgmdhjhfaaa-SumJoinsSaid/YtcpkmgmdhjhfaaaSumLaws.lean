/- The laws of layer 2: SumSeals, SumBurst, SumTells, SumJoins. -/
import Derived.Test.YtcpkmgmdhjhfaaaSum
import Derived.Test.YtcpkmgmdhjhfaaaOpen
namespace Go.Proofs.Ytcpkmgmdhjhfaaa
open Go.RowKit Go.Ofp

set_option maxRecDepth 10000 in
theorem awake02_any (w : World) :
    Calls Try.prog 15 #[] w fun e w' => e = .returned (.bool true) ∧ Below w.heap.size w w' := by
  have hcrc : (crc [49, 50, 51, 52, 53, 54, 55, 56, 57]).toNat = 3808858755 := by decide +kernel
  replace hcrc := Lib.hid hcrc
  go_enter Try.func15, Try.ntmps15
  go_wp2_with (first
    | (go_at_call 27; refine (of_any _ [49, 50, 51, 52, 53, 54, 55, 56, 57] _ _ (by exact Sl.same (Sl.new w _ _ _) hc) (by decide)).mono ?_; rintro e w' ⟨rfl, rfl⟩; rw [hcrc.out])
    | (with_reducible refine wpList_same_bytes (t := 22) (x := .tmp 1) rfl rfl Try.underlying22 Try.underlying5 rfl ?_; intro w1 hc hb hz; replace hc := Lib.hid hc))
  go_ret
  exact ⟨rfl, ((Below.refl _ _).alloc (Nat.le_refl _) _).trans hb⟩

set_option maxRecDepth 10000 in
set_option maxHeartbeats 1000000 in
theorem seals_short (a : Option Addr) (l : List UInt8) (cap : Nat) (w : World) (h : Sl w a (l.map vb)) (hl : l.length < 4) (hcap : l.length ≤ cap) :
    Calls Try.prog 3 #[.slice a l.length cap] w fun e w' => e = .returned (.bool true) ∧ Below w.heap.size w w' := by
  have H := Lib.hid h
  clear h
  go_enter Try.func3, Try.ntmps3
  go_wp2_with fail
  refine (seal_any a l cap w H.out (by omega)).mono ?_
  rintro e w1 ⟨v1, rfl, ho1, hb1⟩
  obtain ⟨a1, c1, rfl, hs1, hn1, hc1, -⟩ := owns_sl ho1
  clear ho1
  replace hs1 := Lib.hid hs1
  replace hn1 := Lib.hid hn1
  go_wp2_with fail
  have hsl : (sealed l).length = l.length + 4 := by simp [sealed, le4]
  replace hsl := Lib.hid hsl
  refine (open_some a1 (sealed l) c1 _ l _ hsl.out.symm hs1.out (by rw [hsl.out]; omega) (by rw [hsl.out]; exact hc1) (opened_sealed l)).mono ?_
  rintro e w2 ⟨v2, rfl, ho2, hb2⟩
  obtain ⟨a2, c2, rfl, hs2, hn2, hc2, -⟩ := owns_sl ho2
  clear ho2
  replace hs2 := Lib.hid hs2
  replace hn2 := Lib.hid hn2
  go_wp2_with fail
  refine (open_none a l cap _ _ rfl ((H.out.below hb1).below hb2) (by omega) hcap (by simp [opened, hl])).mono ?_
  rintro e w3 ⟨rfl, hb3⟩
  go_wp2_with fail
  have g0 : Sl w3 a (l.map vb) := ((H.out.below hb1).below hb2).below hb3
  have g1 : Sl w3 a1 ((sealed l).map vb) := (hs1.out.below hb2).below hb3
  have g2 : Sl w3 a2 (l.map vb) := hs2.out.below hb3
  have k0 : ∀ s : Past w3, (convert 22 9 (.slice a l.length cap)).run Try.prog s.1 = .ok (.string (str l)) s.1 := fun s => run_bts s.1 _ _ _ Try.underlying22 Try.underlying5 Try.underlying9 (s.sl g0) _ _ rfl
  have k1 : ∀ s : Past w3, (convert 22 9 (.slice a1 (l.length + 4) c1)).run Try.prog s.1 = .ok (.string (str (sealed l))) s.1 := fun s => run_bts s.1 _ _ _ Try.underlying22 Try.underlying5 Try.underlying9 (s.sl g1) _ _ hsl.out.symm
  have k2 : ∀ s : Past w3, (convert 22 9 (.slice a2 l.length c2)).run Try.prog s.1 = .ok (.string (str l)) s.1 := fun s => run_bts s.1 _ _ _ Try.underlying22 Try.underlying5 Try.underlying9 (s.sl g2) _ _ rfl
  replace g0 := Lib.hid g0
  replace g1 := Lib.hid g1
  replace g2 := Lib.hid g2
  refine wp_region_past_lit (by kernel_rfl) (by kernel_rfl) ?_
  repeat (go_big_quiet_step ((go_at_call 18; refine Calls.past (rseal_any _ _ (by simp; omega)))))
  refine wpQuiet_nil ?_
  rintro w4 ⟨⟨_, hb4⟩, rfl⟩
  clear k0 k1 k2
  have d0 : decide ((0 : Int) ≤ (l.length : Int) - 4) = false := by rw [decide_eq_false_iff_not]; omega
  have d1 : decide ((4 : Int) ≤ (l.length : Int)) = false := by rw [decide_eq_false_iff_not]; omega
  go_wp2_with fail
  have k0 : ∀ s : Past w4, (convert 22 9 (.slice a l.length cap)).run Try.prog s.1 = .ok (.string (str l)) s.1 := fun s => run_bts s.1 _ _ _ Try.underlying22 Try.underlying5 Try.underlying9 (s.sl (g0.out.below hb4)) _ _ rfl
  refine wp_region_past_lit (by kernel_rfl) (by kernel_rfl) ?_
  repeat (go_big_quiet_step (fail))
  refine wpQuiet_nil ?_
  rintro w5 ⟨⟨_, hb5⟩, rfl⟩
  clear k0
  go_wp2_with fail
  refine wp_region_past_lit (by kernel_rfl) (by kernel_rfl) ?_
  repeat (go_big_quiet_step ((go_at_call 15; refine Calls.past (awake02_any _))))
  refine wpQuiet_nil ?_
  rintro w6 ⟨⟨_, hb6⟩, rfl⟩
  go_wp2_with fail
  go_ret
  exact ⟨rfl, below_step (below_step (below_step (below_step (below_step hb1 hb2) hb3) hb4) hb5) hb6⟩

set_option maxRecDepth 10000 in
set_option maxHeartbeats 1000000 in
theorem seals_no (a : Option Addr) (q l : List UInt8) (cap : Nat) (w : World) (h : Sl w a (l.map vb)) (hq : l.length = q.length + 4) (hl : q.length ≤ 1996) (hp : l.take q.length = q) (hno : ¬ sealed q = l) (hcap : l.length ≤ cap) :
    Calls Try.prog 3 #[.slice a (q.length + 4 : Nat) cap] w fun e w' => e = .returned (.bool true) ∧ Below w.heap.size w w' := by
  have H := Lib.hid h
  have hp0 : Sl w a (q.map vb) := by have := h.take q.length; rw [← List.map_take, hp] at this; exact this
  replace hp0 := Lib.hid hp0
  clear h
  replace hq := Lib.hid hq
  have hop : opened l = none := by
    unfold opened
    rw [if_neg (by rw [hq.out]; omega), show l.length - 4 = q.length by rw [hq.out]; omega, hp, if_neg hno]
  have hdec : (sealed q == l) = false := by rw [beq_eq_false_iff_ne]; exact hno
  replace hop := Lib.hid hop
  have hqc : q.length ≤ cap := by have := hq.out; omega
  clear hno hp
  go_enter Try.func3, Try.ntmps3
  go_wp2_with fail
  refine (seal_at a l cap w _ hq.out.symm H.out (by omega)).mono ?_
  rintro e w1 ⟨v1, rfl, ho1, hb1⟩
  obtain ⟨a1, c1, rfl, hs1, hn1, hc1, -⟩ := owns_sl ho1
  clear ho1
  replace hs1 := Lib.hid hs1
  replace hn1 := Lib.hid hn1
  go_wp2_with fail
  have hsl : (sealed l).length = q.length + 4 + 4 := by simp [sealed, le4, hq.out]
  replace hsl := Lib.hid hsl
  refine (open_some a1 (sealed l) c1 _ l _ (by rw [hsl.out]) hs1.out (by rw [hsl.out]; omega) (by rw [hsl.out]; exact hc1) (opened_sealed l)).mono ?_
  rintro e w2 ⟨v2, rfl, ho2, hb2⟩
  rw [hq.out] at ho2
  obtain ⟨a2, c2, rfl, hs2, hn2, hc2, -⟩ := owns_sl ho2
  clear ho2
  replace hs2 := Lib.hid hs2
  replace hn2 := Lib.hid hn2
  go_wp2_with fail
  refine (open_none a l cap _ _ hq.out.symm ((H.out.below hb1).below hb2) (by rw [hq.out]; omega) hcap hop.out).mono ?_
  rintro e w3 ⟨rfl, hb3⟩
  go_wp2_with fail
  have g0 : Sl w3 a (l.map vb) := ((H.out.below hb1).below hb2).below hb3
  have g1 : Sl w3 a1 ((sealed l).map vb) := (hs1.out.below hb2).below hb3
  have g2 : Sl w3 a2 (l.map vb) := hs2.out.below hb3
  have k0 : ∀ s : Past w3, (convert 22 9 (.slice a (q.length + 4 : Nat) cap)).run Try.prog s.1 = .ok (.string (str l)) s.1 := fun s => run_bts s.1 _ _ _ Try.underlying22 Try.underlying5 Try.underlying9 (s.sl g0) _ _ hq.out.symm
  have k1 : ∀ s : Past w3, (convert 22 9 (.slice a1 (q.length + 4 + 4) c1)).run Try.prog s.1 = .ok (.string (str (sealed l))) s.1 := fun s => run_bts s.1 _ _ _ Try.underlying22 Try.underlying5 Try.underlying9 (s.sl g1) _ _ hsl.out.symm
  have k2 : ∀ s : Past w3, (convert 22 9 (.slice a2 (q.length + 4 : Nat) c2)).run Try.prog s.1 = .ok (.string (str l)) s.1 := fun s => run_bts s.1 _ _ _ Try.underlying22 Try.underlying5 Try.underlying9 (s.sl g2) _ _ hq.out.symm
  have p0 : Sl w3 a (q.map vb) := ((hp0.out.below hb1).below hb2).below hb3
  replace p0 := Lib.hid p0
  replace g0 := Lib.hid g0
  replace g1 := Lib.hid g1
  replace g2 := Lib.hid g2
  refine wp_region_past_lit (by kernel_rfl) (by kernel_rfl) ?_
  repeat (go_big_quiet_step ((go_at_call 18; refine Calls.past (rseal_any _ _ (by rw [str_size, hq.out]; omega)))))
  refine wpQuiet_nil ?_
  rintro w4 ⟨⟨_, hb4⟩, rfl⟩
  clear k0 k1 k2
  go_wp2_with fail
  have k0 : ∀ s : Past w4, (convert 22 9 (.slice a (q.length + 4 : Nat) cap)).run Try.prog s.1 = .ok (.string (str l)) s.1 := fun s => run_bts s.1 _ _ _ Try.underlying22 Try.underlying5 Try.underlying9 (s.sl (g0.out.below hb4)) _ _ hq.out.symm
  have k3 : ∀ s : Past w4, (convert 22 9 (.slice a q.length cap)).run Try.prog s.1 = .ok (.string (str q)) s.1 := fun s => run_bts s.1 _ _ _ Try.underlying22 Try.underlying5 Try.underlying9 (s.sl (p0.out.below hb4)) _ _ rfl
  refine wp_region_past_lit (by kernel_rfl) (by kernel_rfl) ?_
  repeat (go_big_quiet_step ((go_at_call 18; refine Calls.past (rseal_any _ _ (by rw [str_size]; omega)))))
  refine wpQuiet_nil ?_
  rintro w5 ⟨⟨_, hb5⟩, rfl⟩
  clear k0 k3
  go_wp2_with fail
  refine wp_region_past_lit (by kernel_rfl) (by kernel_rfl) ?_
  repeat (go_big_quiet_step ((go_at_call 15; refine Calls.past (awake02_any _))))
  refine wpQuiet_nil ?_
  rintro w6 ⟨⟨_, hb6⟩, rfl⟩
  go_wp2_with fail
  go_ret
  exact ⟨rfl, below_step (below_step (below_step (below_step (below_step hb1 hb2) hb3) hb4) hb5) hb6⟩

set_option maxRecDepth 10000 in
set_option maxHeartbeats 1000000 in
theorem seals_yes (a : Option Addr) (q l : List UInt8) (cap : Nat) (w : World) (h : Sl w a (l.map vb)) (hq : l.length = q.length + 4) (hl : q.length ≤ 1996) (hp : l.take q.length = q) (hyes : sealed q = l) (hcap : l.length ≤ cap) :
    Calls Try.prog 3 #[.slice a (q.length + 4 : Nat) cap] w fun e w' => e = .returned (.bool true) ∧ Below w.heap.size w w' := by
  have H := Lib.hid h
  have hp0 : Sl w a (q.map vb) := by have := h.take q.length; rw [← List.map_take, hp] at this; exact this
  replace hp0 := Lib.hid hp0
  clear h
  clear hp
  replace hq := Lib.hid hq
  have hop : opened l = some q := by rw [← hyes]; exact opened_sealed q
  have hdec : (sealed q == l) = true := by rw [hyes]; exact beq_self_eq_true _
  replace hop := Lib.hid hop
  have hqc : q.length ≤ cap := by have := hq.out; omega
  clear hyes
  go_enter Try.func3, Try.ntmps3
  go_wp2_with fail
  refine (seal_at a l cap w _ hq.out.symm H.out (by omega)).mono ?_
  rintro e w1 ⟨v1, rfl, ho1, hb1⟩
  obtain ⟨a1, c1, rfl, hs1, hn1, hc1, -⟩ := owns_sl ho1
  clear ho1
  replace hs1 := Lib.hid hs1
  replace hn1 := Lib.hid hn1
  go_wp2_with fail
  have hsl : (sealed l).length = q.length + 4 + 4 := by simp [sealed, le4, hq.out]
  replace hsl := Lib.hid hsl
  refine (open_some a1 (sealed l) c1 _ l _ (by rw [hsl.out]) hs1.out (by rw [hsl.out]; omega) (by rw [hsl.out]; exact hc1) (opened_sealed l)).mono ?_
  rintro e w2 ⟨v2, rfl, ho2, hb2⟩
  rw [hq.out] at ho2
  obtain ⟨a2, c2, rfl, hs2, hn2, hc2, -⟩ := owns_sl ho2
  clear ho2
  replace hs2 := Lib.hid hs2
  replace hn2 := Lib.hid hn2
  go_wp2_with fail
  refine (open_some a l cap _ q _ hq.out.symm ((H.out.below hb1).below hb2) (by rw [hq.out]; omega) hcap hop.out).mono ?_
  rintro e w3 ⟨v3, rfl, ho3, hb3⟩
  obtain ⟨a3, c3, rfl, hs3, hn3, hc3, -⟩ := owns_sl ho3
  clear ho3
  replace hs3 := Lib.hid hs3
  clear hn3 hc3
  go_wp2_with fail
  have g0 : Sl w3 a (l.map vb) := ((H.out.below hb1).below hb2).below hb3
  have g1 : Sl w3 a1 ((sealed l).map vb) := (hs1.out.below hb2).below hb3
  have g2 : Sl w3 a2 (l.map vb) := hs2.out.below hb3
  have k0 : ∀ s : Past w3, (convert 22 9 (.slice a (q.length + 4 : Nat) cap)).run Try.prog s.1 = .ok (.string (str l)) s.1 := fun s => run_bts s.1 _ _ _ Try.underlying22 Try.underlying5 Try.underlying9 (s.sl g0) _ _ hq.out.symm
  have k1 : ∀ s : Past w3, (convert 22 9 (.slice a1 (q.length + 4 + 4) c1)).run Try.prog s.1 = .ok (.string (str (sealed l))) s.1 := fun s => run_bts s.1 _ _ _ Try.underlying22 Try.underlying5 Try.underlying9 (s.sl g1) _ _ hsl.out.symm
  have k2 : ∀ s : Past w3, (convert 22 9 (.slice a2 (q.length + 4 : Nat) c2)).run Try.prog s.1 = .ok (.string (str l)) s.1 := fun s => run_bts s.1 _ _ _ Try.underlying22 Try.underlying5 Try.underlying9 (s.sl g2) _ _ hq.out.symm
  have p0 : Sl w3 a (q.map vb) := ((hp0.out.below hb1).below hb2).below hb3
  replace p0 := Lib.hid p0
  replace g0 := Lib.hid g0
  replace g1 := Lib.hid g1
  replace g2 := Lib.hid g2
  refine wp_region_past_lit (by kernel_rfl) (by kernel_rfl) ?_
  repeat (go_big_quiet_step ((go_at_call 18; refine Calls.past (rseal_any _ _ (by rw [str_size, hq.out]; omega)))))
  refine wpQuiet_nil ?_
  rintro w4 ⟨⟨_, hb4⟩, rfl⟩
  clear k0 k1 k2
  go_wp2_with fail
  have k0 : ∀ s : Past w4, (convert 22 9 (.slice a (q.length + 4 : Nat) cap)).run Try.prog s.1 = .ok (.string (str l)) s.1 := fun s => run_bts s.1 _ _ _ Try.underlying22 Try.underlying5 Try.underlying9 (s.sl (g0.out.below hb4)) _ _ hq.out.symm
  have k3 : ∀ s : Past w4, (convert 22 9 (.slice a q.length cap)).run Try.prog s.1 = .ok (.string (str q)) s.1 := fun s => run_bts s.1 _ _ _ Try.underlying22 Try.underlying5 Try.underlying9 (s.sl (p0.out.below hb4)) _ _ rfl
  refine wp_region_past_lit (by kernel_rfl) (by kernel_rfl) ?_
  repeat (go_big_quiet_step ((go_at_call 18; refine Calls.past (rseal_any _ _ (by rw [str_size]; omega)))))
  refine wpQuiet_nil ?_
  rintro w5 ⟨⟨_, hb5⟩, rfl⟩
  clear k0 k3
  have k3 : ∀ s : Past w5, (convert 22 9 (.slice a q.length cap)).run Try.prog s.1 = .ok (.string (str q)) s.1 := fun s => run_bts s.1 _ _ _ Try.underlying22 Try.underlying5 Try.underlying9 (s.sl ((p0.out.below hb4).below hb5)) _ _ rfl
  have k4 : ∀ s : Past w5, (convert 22 9 (.slice a3 q.length c3)).run Try.prog s.1 = .ok (.string (str q)) s.1 := fun s => run_bts s.1 _ _ _ Try.underlying22 Try.underlying5 Try.underlying9 (s.sl ((hs3.out.below hb4).below hb5)) _ _ rfl
  go_wp2_with fail
  refine wp_region_past_lit (by kernel_rfl) (by kernel_rfl) ?_
  repeat (go_big_quiet_step ((go_at_call 15; refine Calls.past (awake02_any _))))
  refine wpQuiet_nil ?_
  rintro w6 ⟨⟨_, hb6⟩, rfl⟩
  go_wp2_with fail
  go_ret
  exact ⟨rfl, below_step (below_step (below_step (below_step (below_step hb1 hb2) hb3) hb4) hb5) hb6⟩

theorem seals_big (a : Option Addr) (n cap : Nat) (w : World) (hl : 2000 < n) (hm : n ≤ maxLen) :
    Calls Try.prog 3 #[.slice a n cap] w fun e w' => e = .returned (.bool true) ∧ Below w.heap.size w w' := by
  unfold maxLen at hm
  go_enter Try.func3, Try.ntmps3
  go_wp2_with (go_at_call 15; refine (awake02_any _).mono ?_; rintro e w' ⟨rfl, hb⟩)
  go_ret
  exact ⟨rfl, hb⟩

theorem seals_all (a : Option Addr) (l : List UInt8) (cap : Nat) (w : World) (h : Sl w a (l.map vb)) (hcap : l.length ≤ cap) (hm : cap ≤ maxLen) :
    Calls Try.prog 3 #[.slice a l.length cap] w fun e w' => e = .returned (.bool true) ∧ Below w.heap.size w w' := by
  rcases Nat.lt_or_ge 2000 l.length with h1 | h1
  · exact seals_big a _ cap w h1 (by omega)
  rcases Nat.lt_or_ge l.length 4 with h4 | h4
  · exact seals_short a l cap w h h4 hcap
  · have e : l.length = (l.take (l.length - 4)).length + 4 := by rw [List.length_take]; omega
    have e2 : l.take (l.take (l.length - 4)).length = l.take (l.length - 4) := by rw [List.length_take, Nat.min_eq_left (by omega)]
    rw [e]
    by_cases hs : sealed (l.take (l.length - 4)) = l
    · exact seals_yes a _ l cap w h e (by omega) e2 hs hcap
    · exact seals_no a _ l cap w h e (by omega) e2 hs hcap

set_option maxRecDepth 10000 in
set_option maxHeartbeats 1000000 in
theorem joins_all (a b : Option Addr) (la lb : List UInt8) (ca cb : Nat) (w : World) (ha : Sl w a (la.map vb)) (hb : Sl w b (lb.map vb)) (hma : la.length ≤ maxLen) (hmb : lb.length ≤ maxLen) :
    Calls Try.prog 7 #[.slice a la.length ca, .slice b lb.length cb] w fun e w' => e = .returned (.bool true) ∧ Below w.heap.size w w' := by
  unfold maxLen at hma hmb
  by_cases h1 : 2000 < la.length
  · go_enter Try.func7, Try.ntmps7
    go_wp2_with (go_at_call 15; refine (awake02_any _).mono ?_; rintro e w' ⟨rfl, hb⟩)
    go_ret
    exact ⟨rfl, hb⟩
  by_cases h2 : 2000 < lb.length
  · go_enter Try.func7, Try.ntmps7
    go_wp2_with (go_at_call 15; refine (awake02_any _).mono ?_; rintro e w' ⟨rfl, hb⟩)
    go_ret
    exact ⟨rfl, hb⟩
  have hj : joined (crc la) (crc lb) lb.length = crc (la ++ lb) := by
    rw [joined, if_neg (by omega), Int.toNat_natCast, crc_append]
  replace hj := Lib.hid hj
  replace ha := Lib.hid ha
  replace hb := Lib.hid hb
  go_enter Try.func7, Try.ntmps7
  go_wp2_with (first
    | (at_builtin; refine wpList_app (s := .tmp 15) (x := .tmp 16) rfl rfl Try.underlying22 elem_u8 (World.ownsRow_lit (base := w.heap.size) (e := 5) (size := 1) w #[] 0 (Nat.le_refl _) (by unfold maxLen; omega) rfl) rfl (Src.slice Try.underlying22 (ha.out.below ((Below.refl _ _).alloc (Nat.le_refl _) _)) (by simp)) rfl (vb_one _) (by omega) (by unfold maxLen; omega) (by simp) ?_; intro v1 w1 ho1 hB1 hg1 hv1)
    | (at_builtin; refine wpList_app (s := .tmp 17) (x := .tmp 18) rfl rfl Try.underlying22 elem_u8 ho1 rfl (Src.slice Try.underlying22 (hb.out.below (((Below.refl _ _).alloc (Nat.le_refl _) _).trans hB1)) (by simp)) rfl (vb_one _) (by omega) (by unfold maxLen; omega) (Nat.le_trans (by simp) hB1.size) ?_; intro v2 w2 ho2 hB2 hg2 hv2; have hBB := (((Below.refl w.heap.size w).alloc (Nat.le_refl _) _).trans hB1).trans hB2; clear hB1 hB2 hg1 hv1 hg2 hv2 ho1; obtain ⟨a2, c2, rfl, hs2, hn2, hc2, -⟩ := owns_sl ho2; clear ho2; replace hs2 := Lib.hid hs2; clear hn2))
  simp only [List.nil_append] at hs2
  refine (of_at a2 (la ++ lb) c2 _ _ (by simp) (by rw [List.map_append]; exact hs2.out) (by unfold maxLen; omega)).mono ?_
  rintro e w' ⟨rfl, rfl⟩
  go_wp2_with fail
  refine (of_at a la ca _ _ rfl (ha.out.below hBB) (by unfold maxLen; omega)).mono ?_
  rintro e w' ⟨rfl, rfl⟩
  go_wp2_with fail
  refine (of_at b lb cb _ _ rfl (hb.out.below hBB) (by unfold maxLen; omega)).mono ?_
  rintro e w' ⟨rfl, rfl⟩
  go_wp2_with fail
  refine (join_any _ _ _ _).mono ?_
  rintro e w' ⟨rfl, rfl⟩
  rw [hj.out]
  go_wp2_with (go_at_call 15; refine (awake02_any _).mono ?_; rintro e w' ⟨rfl, hb⟩)
  go_ret
  exact ⟨rfl, below_step hBB hb⟩

set_option maxRecDepth 10000 in
set_option maxHeartbeats 1000000 in
theorem tells_all (a : Option Addr) (l : List UInt8) (cap : Nat) (x y : B32) (n : Int) (w : World) (ha : Sl w a (l.map vb)) (hm : l.length ≤ maxLen) (hn : -9223372036854775808 ≤ n ∧ n ≤ 9223372036854775807) :
    Calls Try.prog 6 #[.slice a l.length cap, .agg #[.int .u32 x.toNat, .int .u32 y.toNat], .int .i64 n] w fun e w' => e = .returned (.bool true) ∧ Below w.heap.size w w' := by
  unfold maxLen at hm
  obtain ⟨n0, n1⟩ := hn
  by_cases h1 : 2000 < l.length
  · go_enter Try.func6, Try.ntmps6
    go_wp2_with (go_at_call 15; refine (awake02_any _).mono ?_; rintro e w' ⟨rfl, hb⟩)
    go_ret
    exact ⟨rfl, (((Below.refl _ _).alloc (Nat.le_refl _) _).trans (hb.mono (by simp)))⟩
  by_cases h2 : 5000 < n ∧ n ≤ 1048576
  · obtain ⟨h2, h3⟩ := h2
    go_enter Try.func6, Try.ntmps6
    go_wp2_with (go_at_call 15; refine (awake02_any _).mono ?_; rintro e w' ⟨rfl, hb⟩)
    go_ret
    exact ⟨rfl, (((Below.refl _ _).alloc (Nat.le_refl _) _).trans (hb.mono (by simp)))⟩
  have hd : (decide (5000 < n) = false) ∨ (decide (5000 < n) = true ∧ decide (n ≤ 1048576) = false) := by
    by_cases h3 : 5000 < n
    · right; simp only [decide_eq_true_eq, decide_eq_false_iff_not]; omega
    · left; simpa using h3
  clear h2
  replace ha := Lib.hid ha
  rcases hd with hd | ⟨hd, hd2⟩
  all_goals
    go_enter Try.func6, Try.ntmps6
    go_wp2_with fail
    have hbW : Below w.heap.size w (w.alloc (.cells #[.int .u32 (x.toNat : Int), .int .u32 (y.toNat : Int)] 46)) := (Below.refl _ _).alloc (Nat.le_refl _) _
    have c0 := cell_of_row (w.alloc (.cells #[.int .u32 (x.toNat : Int), .int .u32 (y.toNat : Int)] 46)) w.heap.size 0 _ _ _ (heap_alloc_new w _)
    have c1 := cell_of_row (w.alloc (.cells #[.int .u32 (x.toNat : Int), .int .u32 (y.toNat : Int)] 46)) w.heap.size 1 _ _ _ (heap_alloc_new w _)
    generalize w.alloc (.cells #[.int .u32 (x.toNat : Int), .int .u32 (y.toNat : Int)] 46) = W at hbW c0 c1 ⊢
    have d0 : ∀ s : Past W, s.1.cell? ⟨w.heap.size, 0, none⟩ = some (.int .u32 (x.toNat : Int)) := fun s => s.cell c0
    have d1 : ∀ s : Past W, s.1.cell? ⟨w.heap.size, 1, none⟩ = some (.int .u32 (y.toNat : Int)) := fun s => s.cell c1
    clear c0 c1
    have k0 : ∀ s : Past W, (convert 22 9 (.slice a l.length cap)).run Try.prog s.1 = .ok (.string (str l)) s.1 := fun s => run_bts s.1 _ _ _ Try.underlying22 Try.underlying5 Try.underlying9 (s.sl (ha.out.below hbW)) _ _ rfl
    refine wp_region_past_lit (by kernel_rfl) (by kernel_rfl) ?_
    have hOf : ∀ s : Past W, Calls Try.prog 27 #[.slice a l.length cap] s.1 fun e w' => e = .returned (.int .u32 (crc l).toNat) ∧ Below s.1.heap.size s.1 w' :=
      fun s => Calls.same_below (of_at a l cap _ _ rfl (s.sl (ha.out.below hbW)) (by unfold maxLen; omega))
    have hRf : ∀ s : Past W, Calls Try.prog 28 #[.string (str l)] s.1 fun e w' => e = .returned (.int .u32 (crc l).toNat) ∧ Below s.1.heap.size s.1 w' :=
      fun s => Calls.same_below (rof_any _ _ (by rw [str_size]; unfold maxLen; omega))
    replace hOf := Lib.hid hOf
    replace hRf := Lib.hid hRf
    repeat (go_big_quiet_step (first
      | (go_at_call 27; exact Calls.past (hOf.out _))
      | (go_at_call 28; exact Calls.past (hRf.out _))
      | (go_at_call 29; exact Calls.past (Calls.same_below (join_any _ _ _ _)))
      | (go_at_call 30; exact Calls.past (Calls.same_below (rjoin_any _ _ _ _)))
      | (go_at_call 15; exact Calls.past (awake02_any _))))
    refine wpQuiet_nil ?_
    rintro w2 ⟨⟨_, hb2⟩, rfl⟩
    go_wp2_with fail
    go_ret
    exact ⟨rfl, below_step hbW hb2⟩


end Go.Proofs.Ytcpkmgmdhjhfaaa
