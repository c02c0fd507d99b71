/- The walks of octet's Reader: the next number ('peek'). Written by our gen_reader.py. -/
import Derived.Test.YtlhpibniecfofaaOctet
set_option linter.unusedSimpArgs false
set_option linter.unusedVariables false
namespace Go.Proofs.Ytlhpibniecfofaa
open Go.RowKit Go.Ofp

/-- A reader in memory: its bytes, how many were taken, its error. -/
def Rd (w : World) (g : Nat) (l : List UInt8) (k : Nat) (e : Int) : Prop :=
  ∃ a cap, Whole w g 163 #[.slice a l.length cap, .int .i64 k, .int .i64 e] ∧ Sl w a (l.map vb) ∧ Off a g ∧ l.length ≤ cap ∧ cap ≤ maxLen ∧ k ≤ l.length

theorem Rd.keep {w w' : World} {g : Nat} {l : List UInt8} {k : Nat} {e : Int} (h : Rd w g l k e) (hb : Below w.heap.size w w') : Rd w' g l k e := by
  obtain ⟨a, cap, h1, h2, h3⟩ := h
  exact ⟨a, cap, h1.below hb h1.lt, h2.below hb, h3⟩

theorem Rd.drewN {w : World} {g : Nat} {l : List UInt8} {k : Nat} {e : Int} (h : Rd w g l k e) (n : Nat) : Rd (w.drewN n) g l k e := by
  obtain ⟨a, cap, h1, h2, h3⟩ := h
  exact ⟨a, cap, h1, h2.drewN n, h3⟩

theorem Rd.err {w : World} {g : Nat} {l : List UInt8} {k : Nat} {e : Int} (h : Rd w g l k e) (e' : Int) : Rd (w.setCell ⟨g, 2, none⟩ (.int .i64 e')) g l k e' := by
  obtain ⟨a, cap, h1, h2, h3, h4⟩ := h
  exact ⟨a, cap, by simpa using h1.set 2 (.int .i64 e'), h2.grown h3 (grown_set _ _ _ _), h3, h4⟩

theorem Rd.place {w : World} {g : Nat} {l : List UInt8} {k : Nat} {e : Int} (h : Rd w g l k e) (k' : Nat) (hk : k' ≤ l.length) : Rd (w.setCell ⟨g, 1, none⟩ (.int .i64 k')) g l k' e := by
  obtain ⟨a, cap, h1, h2, h3, h4, h5, h6⟩ := h
  exact ⟨a, cap, by simpa using h1.set 1 (.int .i64 k'), h2.grown h3 (grown_set _ _ _ _), h3, h4, h5, hk⟩

set_option maxRecDepth 100000 in
set_option maxHeartbeats 8000000 in
/-- What peek leaves behind: its answer, and the error noted. -/
theorem peek_any (g : Nat) (l : List UInt8) (k : Nat) (most : Int) (w : World) (h : Rd w g l k 0) :
    Calls Try.prog 96 #[.pointer (some ⟨g, 0, none⟩), .int .i64 most] w fun e w' =>
      e = .returned (.tuple #[.int .i64 (nextB (l.drop k) most).1, .int .i64 ((k + (nextB (l.drop k) most).2.1 : Nat) : Int)]) ∧ Rd w' g l k (nextB (l.drop k) most).2.2 ∧ w.grownBy w' (some g) := by
  have hR := h
  obtain ⟨a, cap, hw, hs, hoff, hlc, hcm, hk⟩ := h
  unfold maxLen at hcm
  have c0 := hw.cell 0
  have c1 := hw.cell 1
  have c2 := hw.cell 2
  have f2 := hw.frozen 2
  simp at c0 c1 c2
  replace hs := Lib.hid hs
  replace hR := Lib.hid hR
  clear hw
  go_enter Try.func96, Try.ntmps96
  go_wp2_with fail
  go_loopg [6, 9] 6 (fun gk v i wr => ∃ j n : Nat, j + gk = 6 ∧ wr = w.drewN n ∧ i = .int .i64 j ∧ v = .int .i64 (val7 ((l.drop k).take j) : Int) ∧ k + j ≤ l.length ∧ ∀ i, i < j → 128 ≤ ((l.drop k).getD i 0).toNat)
  case atStart => exact ⟨0, 0, rfl, rfl, rfl, rfl, by omega, fun i h => by omega⟩
  case round =>
    obtain ⟨j, n, hj, rfl, rfl, rfl, hkj, hall⟩ := hrel
    replace hall := Lib.hid hall
    obtain ⟨v, hv⟩ : ∃ v, v = val7 ((l.drop k).take j) := ⟨_, rfl⟩
    have hvl := val7_lt ((l.drop k).take j)
    rw [← hv] at hvl ⊢
    rw [List.length_take, List.length_drop, Nat.min_eq_left (by omega)] at hvl
    replace hv := Lib.hid hv
    rcases (by omega : j = 0 ∨ j = 1 ∨ j = 2 ∨ j = 3 ∨ j = 4 ∨ j = 5 ∨ j = 6) with rfl | rfl | rfl | rfl | rfl | rfl | rfl
    · simp only [Nat.reducePow] at hvl
      have w2 : (0 : Int) ≤ (k : Int) := by omega
      by_cases hend : k = l.length
      · have hnb := nextB_short (l.drop k) most 0 (by decide) (by rw [List.length_drop]; omega) hall.out
        have w3 : ((l.length : Nat) : Int) ≤ (k : Int) := by omega
        clear hend
        replace hnb := Lib.hid hnb
        go_wp2_with fail
        go_quiet (fail)
        go_wp2_with fail
        go_quiet (fail)
        go_wp2_with fail
        go_ret2
        rw [hnb.out]
        exact ⟨rfl, ((hR.out.drewN _).err 2).drewN _, grown_trans (grown_trans (grown_drewN _ _ _) (grown_set _ _ _ _)) (grown_drewN _ _ _)⟩
      · have w3 : (k : Int) < (l.length : Int) := by omega
        have hlt : k < l.length := by omega
        obtain ⟨b, off, rfl, hc⟩ := hs.out.get (k) hlt
        obtain ⟨c, hcc⟩ : ∃ c, c = l[k] := ⟨_, rfl⟩
        rw [← hcc] at hc
        have hcd : (l.drop k)[0]'(by rw [List.length_drop]; omega) = c := by simp [hcc]
        have hgd : (l.drop k).getD 0 0 = c := by rw [← hcd, List.getD_eq_getElem?_getD, List.getElem?_eq_getElem (by rw [List.length_drop]; omega)]; rfl
        have hvt : v + 2 ^ 0 * (c.toNat % 128) = val7 ((l.drop k).take (0 + 1)) := by rw [val7_take _ 0 (by rw [List.length_drop]; omega), hcd, hv.out]
        have hst := step7 v c.toNat 0 hvl (by decide) c.toNat_lt
        rw [hvt, show ((2 ^ 0 : Nat) : Int) = 1 from rfl] at hst
        simp only [Int.mul_one] at hst
        clear hcc hcd hend hlt
        have hcb := c.toNat_lt
        replace hgd := Lib.hid hgd
        replace hst := Lib.hid hst
        clear hvt
        by_cases h128 : 128 ≤ c.toNat
        · go_wp2_with fail
          go_quiet (fail)
          go_wp2_with fail
          go_quiet (fail)
          go_wp2_with fail
          go_roundg (gk - 1)
          case measure => omega
          case rel =>
            refine ⟨1, _, by omega, rfl, rfl, congrArg (Value.int .i64) hst.out, by omega, ?_⟩
            intro i hi
            rcases Nat.lt_or_ge i 0 with h | h
            · exact hall.out i h
            · obtain rfl : i = 0 := by omega
              rw [hgd.out]; exact h128
        · cases hz0 : ((c.toNat : Int) == 0)
          all_goals
            have hnb := nextB_val (l.drop k) most 0 (by decide) (by rw [List.length_drop]; omega) hall.out (by rw [hgd.out]; omega) (fun h => absurd h.1 (by decide))
            obtain ⟨V, hV⟩ : ∃ V, V = val7 ((l.drop k).take (0 + 1)) := ⟨_, rfl⟩
            have hst := hst.out
            rw [← hV] at hst hnb
            have hVb := val7_lt ((l.drop k).take (0 + 1))
            rw [← hV] at hVb
            clear hV
            have hVb2 : V < 128 ^ 1 := Nat.lt_of_lt_of_le hVb (Nat.pow_le_pow_right (by decide) (by rw [List.length_take]; omega))
            clear hVb
            simp only [Nat.reducePow] at hVb2
            by_cases hb1 : maxNum < V
            · exact absurd hb1 (by unfold maxNum; omega)
            · by_cases hb2 : most < (V : Int)
              · rw [if_pos (.inr hb2)] at hnb
                replace hnb := Lib.hid hnb
                have m1 : (V : Int) ≤ 1099511627776 := by unfold maxNum at hb1; omega
                clear hb1
                go_wp2_with fail
                go_quiet (fail)
                go_wp2_with fail
                go_quiet (fail)
                go_wp2_with fail
                go_quiet (fail)
                go_wp2_with fail
                go_ret2
                rw [hnb.out]
                exact ⟨rfl, ((hR.out.drewN _).err 4).drewN _, grown_trans (grown_trans (grown_drewN _ _ _) (grown_set _ _ _ _)) (grown_drewN _ _ _)⟩
              · rw [if_neg (fun h => h.elim hb1 hb2)] at hnb
                replace hnb := Lib.hid hnb
                have m1 : (V : Int) ≤ 1099511627776 := by unfold maxNum at hb1; omega
                clear hb1
                have w4 : IntKind.i64.wrap ((k : Int) + 1) = (k : Int) + 1 := IntWalk.i64_in _ (by omega)
                go_wp2_with fail
                go_quiet (fail)
                go_wp2_with fail
                go_quiet (fail)
                go_wp2_with fail
                go_quiet (fail)
                go_wp2_with fail
                go_ret2
                rw [hnb.out]
                exact ⟨rfl, (hR.out.drewN _).drewN _, grown_trans (grown_drewN _ _ _) (grown_drewN _ _ _)⟩
    · simp only [Nat.reducePow] at hvl
      have w0 : IntKind.i64.wrap ((k : Int) + 1) = (k : Int) + 1 := IntWalk.i64_in _ (by omega)
      have w1 : ((k : Int) + 1).toNat = k + 1 := by omega
      have w2 : (0 : Int) ≤ (k : Int) + 1 := by omega
      by_cases hend : k + 1 = l.length
      · have hnb := nextB_short (l.drop k) most 1 (by decide) (by rw [List.length_drop]; omega) hall.out
        have w3 : ((l.length : Nat) : Int) ≤ (k : Int) + 1 := by omega
        clear hend
        replace hnb := Lib.hid hnb
        go_wp2_with fail
        go_quiet (fail)
        go_wp2_with fail
        go_quiet (fail)
        go_wp2_with fail
        go_ret2
        rw [hnb.out]
        exact ⟨rfl, ((hR.out.drewN _).err 2).drewN _, grown_trans (grown_trans (grown_drewN _ _ _) (grown_set _ _ _ _)) (grown_drewN _ _ _)⟩
      · have w3 : (k : Int) + 1 < (l.length : Int) := by omega
        have hlt : k + 1 < l.length := by omega
        obtain ⟨b, off, rfl, hc⟩ := hs.out.get (k + 1) hlt
        obtain ⟨c, hcc⟩ : ∃ c, c = l[k + 1] := ⟨_, rfl⟩
        rw [← hcc] at hc
        have hcd : (l.drop k)[1]'(by rw [List.length_drop]; omega) = c := by rw [List.getElem_drop, hcc]
        have hgd : (l.drop k).getD 1 0 = c := by rw [← hcd, List.getD_eq_getElem?_getD, List.getElem?_eq_getElem (by rw [List.length_drop]; omega)]; rfl
        have hvt : v + 2 ^ 7 * (c.toNat % 128) = val7 ((l.drop k).take (1 + 1)) := by rw [val7_take _ 1 (by rw [List.length_drop]; omega), hcd, hv.out]
        have hst := step7 v c.toNat 7 hvl (by decide) c.toNat_lt
        rw [hvt, show ((2 ^ 7 : Nat) : Int) = 128 from rfl] at hst
        clear hcc hcd hend hlt
        have hcb := c.toNat_lt
        replace hgd := Lib.hid hgd
        replace hst := Lib.hid hst
        clear hvt
        by_cases h128 : 128 ≤ c.toNat
        · go_wp2_with fail
          go_quiet (fail)
          go_wp2_with fail
          go_quiet (fail)
          go_wp2_with fail
          go_roundg (gk - 1)
          case measure => omega
          case rel =>
            refine ⟨2, _, by omega, rfl, rfl, congrArg (Value.int .i64) hst.out, by omega, ?_⟩
            intro i hi
            rcases Nat.lt_or_ge i 1 with h | h
            · exact hall.out i h
            · obtain rfl : i = 1 := by omega
              rw [hgd.out]; exact h128
        · by_cases hz : c = 0
          · subst hz
            have hnb := nextB_zero (l.drop k) most 1 (by decide) (by rw [List.length_drop]; omega) hall.out (by decide) hgd.out
            replace hnb := Lib.hid hnb
            simp only [UInt8.toNat_zero, Int.natCast_zero] at hc
            clear hcb h128 hst
            go_wp2_with fail
            go_quiet (fail)
            go_wp2_with fail
            go_quiet (fail)
            go_wp2_with fail
            go_quiet (fail)
            go_wp2_with fail
            go_ret2
            rw [hnb.out]
            exact ⟨rfl, ((hR.out.drewN _).err 3).drewN _, grown_trans (grown_trans (grown_drewN _ _ _) (grown_set _ _ _ _)) (grown_drewN _ _ _)⟩
          · have hz0 : ((c.toNat : Int) == 0) = false := by
              rw [beq_eq_false_iff_ne]
              intro h
              exact hz (UInt8.toNat_inj.1 (by rw [UInt8.toNat_zero]; omega))
            have hnb := nextB_val (l.drop k) most 1 (by decide) (by rw [List.length_drop]; omega) hall.out (by rw [hgd.out]; omega) (by rw [hgd.out]; exact fun h => hz h.2)
            clear hz
            obtain ⟨V, hV⟩ : ∃ V, V = val7 ((l.drop k).take (1 + 1)) := ⟨_, rfl⟩
            have hst := hst.out
            rw [← hV] at hst hnb
            have hVb := val7_lt ((l.drop k).take (1 + 1))
            rw [← hV] at hVb
            clear hV
            have hVb2 : V < 128 ^ 2 := Nat.lt_of_lt_of_le hVb (Nat.pow_le_pow_right (by decide) (by rw [List.length_take]; omega))
            clear hVb
            simp only [Nat.reducePow] at hVb2
            by_cases hb1 : maxNum < V
            · exact absurd hb1 (by unfold maxNum; omega)
            · by_cases hb2 : most < (V : Int)
              · rw [if_pos (.inr hb2)] at hnb
                replace hnb := Lib.hid hnb
                have m1 : (V : Int) ≤ 1099511627776 := by unfold maxNum at hb1; omega
                clear hb1
                go_wp2_with fail
                go_quiet (fail)
                go_wp2_with fail
                go_quiet (fail)
                go_wp2_with fail
                go_quiet (fail)
                go_wp2_with fail
                go_ret2
                rw [hnb.out]
                exact ⟨rfl, ((hR.out.drewN _).err 4).drewN _, grown_trans (grown_trans (grown_drewN _ _ _) (grown_set _ _ _ _)) (grown_drewN _ _ _)⟩
              · rw [if_neg (fun h => h.elim hb1 hb2)] at hnb
                replace hnb := Lib.hid hnb
                have m1 : (V : Int) ≤ 1099511627776 := by unfold maxNum at hb1; omega
                clear hb1
                have w4 : IntKind.i64.wrap ((k : Int) + 1 + 1) = (k : Int) + 1 + 1 := IntWalk.i64_in _ (by omega)
                go_wp2_with fail
                go_quiet (fail)
                go_wp2_with fail
                go_quiet (fail)
                go_wp2_with fail
                go_quiet (fail)
                go_wp2_with fail
                go_ret2
                rw [hnb.out]
                exact ⟨rfl, (hR.out.drewN _).drewN _, grown_trans (grown_drewN _ _ _) (grown_drewN _ _ _)⟩
    · simp only [Nat.reducePow] at hvl
      have w0 : IntKind.i64.wrap ((k : Int) + 2) = (k : Int) + 2 := IntWalk.i64_in _ (by omega)
      have w1 : ((k : Int) + 2).toNat = k + 2 := by omega
      have w2 : (0 : Int) ≤ (k : Int) + 2 := by omega
      by_cases hend : k + 2 = l.length
      · have hnb := nextB_short (l.drop k) most 2 (by decide) (by rw [List.length_drop]; omega) hall.out
        have w3 : ((l.length : Nat) : Int) ≤ (k : Int) + 2 := by omega
        clear hend
        replace hnb := Lib.hid hnb
        go_wp2_with fail
        go_quiet (fail)
        go_wp2_with fail
        go_quiet (fail)
        go_wp2_with fail
        go_ret2
        rw [hnb.out]
        exact ⟨rfl, ((hR.out.drewN _).err 2).drewN _, grown_trans (grown_trans (grown_drewN _ _ _) (grown_set _ _ _ _)) (grown_drewN _ _ _)⟩
      · have w3 : (k : Int) + 2 < (l.length : Int) := by omega
        have hlt : k + 2 < l.length := by omega
        obtain ⟨b, off, rfl, hc⟩ := hs.out.get (k + 2) hlt
        obtain ⟨c, hcc⟩ : ∃ c, c = l[k + 2] := ⟨_, rfl⟩
        rw [← hcc] at hc
        have hcd : (l.drop k)[2]'(by rw [List.length_drop]; omega) = c := by rw [List.getElem_drop, hcc]
        have hgd : (l.drop k).getD 2 0 = c := by rw [← hcd, List.getD_eq_getElem?_getD, List.getElem?_eq_getElem (by rw [List.length_drop]; omega)]; rfl
        have hvt : v + 2 ^ 14 * (c.toNat % 128) = val7 ((l.drop k).take (2 + 1)) := by rw [val7_take _ 2 (by rw [List.length_drop]; omega), hcd, hv.out]
        have hst := step7 v c.toNat 14 hvl (by decide) c.toNat_lt
        rw [hvt, show ((2 ^ 14 : Nat) : Int) = 16384 from rfl] at hst
        clear hcc hcd hend hlt
        have hcb := c.toNat_lt
        replace hgd := Lib.hid hgd
        replace hst := Lib.hid hst
        clear hvt
        by_cases h128 : 128 ≤ c.toNat
        · go_wp2_with fail
          go_quiet (fail)
          go_wp2_with fail
          go_quiet (fail)
          go_wp2_with fail
          go_roundg (gk - 1)
          case measure => omega
          case rel =>
            refine ⟨3, _, by omega, rfl, rfl, congrArg (Value.int .i64) hst.out, by omega, ?_⟩
            intro i hi
            rcases Nat.lt_or_ge i 2 with h | h
            · exact hall.out i h
            · obtain rfl : i = 2 := by omega
              rw [hgd.out]; exact h128
        · by_cases hz : c = 0
          · subst hz
            have hnb := nextB_zero (l.drop k) most 2 (by decide) (by rw [List.length_drop]; omega) hall.out (by decide) hgd.out
            replace hnb := Lib.hid hnb
            simp only [UInt8.toNat_zero, Int.natCast_zero] at hc
            clear hcb h128 hst
            go_wp2_with fail
            go_quiet (fail)
            go_wp2_with fail
            go_quiet (fail)
            go_wp2_with fail
            go_quiet (fail)
            go_wp2_with fail
            go_ret2
            rw [hnb.out]
            exact ⟨rfl, ((hR.out.drewN _).err 3).drewN _, grown_trans (grown_trans (grown_drewN _ _ _) (grown_set _ _ _ _)) (grown_drewN _ _ _)⟩
          · have hz0 : ((c.toNat : Int) == 0) = false := by
              rw [beq_eq_false_iff_ne]
              intro h
              exact hz (UInt8.toNat_inj.1 (by rw [UInt8.toNat_zero]; omega))
            have hnb := nextB_val (l.drop k) most 2 (by decide) (by rw [List.length_drop]; omega) hall.out (by rw [hgd.out]; omega) (by rw [hgd.out]; exact fun h => hz h.2)
            clear hz
            obtain ⟨V, hV⟩ : ∃ V, V = val7 ((l.drop k).take (2 + 1)) := ⟨_, rfl⟩
            have hst := hst.out
            rw [← hV] at hst hnb
            have hVb := val7_lt ((l.drop k).take (2 + 1))
            rw [← hV] at hVb
            clear hV
            have hVb2 : V < 128 ^ 3 := Nat.lt_of_lt_of_le hVb (Nat.pow_le_pow_right (by decide) (by rw [List.length_take]; omega))
            clear hVb
            simp only [Nat.reducePow] at hVb2
            by_cases hb1 : maxNum < V
            · exact absurd hb1 (by unfold maxNum; omega)
            · by_cases hb2 : most < (V : Int)
              · rw [if_pos (.inr hb2)] at hnb
                replace hnb := Lib.hid hnb
                have m1 : (V : Int) ≤ 1099511627776 := by unfold maxNum at hb1; omega
                clear hb1
                go_wp2_with fail
                go_quiet (fail)
                go_wp2_with fail
                go_quiet (fail)
                go_wp2_with fail
                go_quiet (fail)
                go_wp2_with fail
                go_ret2
                rw [hnb.out]
                exact ⟨rfl, ((hR.out.drewN _).err 4).drewN _, grown_trans (grown_trans (grown_drewN _ _ _) (grown_set _ _ _ _)) (grown_drewN _ _ _)⟩
              · rw [if_neg (fun h => h.elim hb1 hb2)] at hnb
                replace hnb := Lib.hid hnb
                have m1 : (V : Int) ≤ 1099511627776 := by unfold maxNum at hb1; omega
                clear hb1
                have w4 : IntKind.i64.wrap ((k : Int) + 2 + 1) = (k : Int) + 2 + 1 := IntWalk.i64_in _ (by omega)
                go_wp2_with fail
                go_quiet (fail)
                go_wp2_with fail
                go_quiet (fail)
                go_wp2_with fail
                go_quiet (fail)
                go_wp2_with fail
                go_ret2
                rw [hnb.out]
                exact ⟨rfl, (hR.out.drewN _).drewN _, grown_trans (grown_drewN _ _ _) (grown_drewN _ _ _)⟩
    · simp only [Nat.reducePow] at hvl
      have w0 : IntKind.i64.wrap ((k : Int) + 3) = (k : Int) + 3 := IntWalk.i64_in _ (by omega)
      have w1 : ((k : Int) + 3).toNat = k + 3 := by omega
      have w2 : (0 : Int) ≤ (k : Int) + 3 := by omega
      by_cases hend : k + 3 = l.length
      · have hnb := nextB_short (l.drop k) most 3 (by decide) (by rw [List.length_drop]; omega) hall.out
        have w3 : ((l.length : Nat) : Int) ≤ (k : Int) + 3 := by omega
        clear hend
        replace hnb := Lib.hid hnb
        go_wp2_with fail
        go_quiet (fail)
        go_wp2_with fail
        go_quiet (fail)
        go_wp2_with fail
        go_ret2
        rw [hnb.out]
        exact ⟨rfl, ((hR.out.drewN _).err 2).drewN _, grown_trans (grown_trans (grown_drewN _ _ _) (grown_set _ _ _ _)) (grown_drewN _ _ _)⟩
      · have w3 : (k : Int) + 3 < (l.length : Int) := by omega
        have hlt : k + 3 < l.length := by omega
        obtain ⟨b, off, rfl, hc⟩ := hs.out.get (k + 3) hlt
        obtain ⟨c, hcc⟩ : ∃ c, c = l[k + 3] := ⟨_, rfl⟩
        rw [← hcc] at hc
        have hcd : (l.drop k)[3]'(by rw [List.length_drop]; omega) = c := by rw [List.getElem_drop, hcc]
        have hgd : (l.drop k).getD 3 0 = c := by rw [← hcd, List.getD_eq_getElem?_getD, List.getElem?_eq_getElem (by rw [List.length_drop]; omega)]; rfl
        have hvt : v + 2 ^ 21 * (c.toNat % 128) = val7 ((l.drop k).take (3 + 1)) := by rw [val7_take _ 3 (by rw [List.length_drop]; omega), hcd, hv.out]
        have hst := step7 v c.toNat 21 hvl (by decide) c.toNat_lt
        rw [hvt, show ((2 ^ 21 : Nat) : Int) = 2097152 from rfl] at hst
        clear hcc hcd hend hlt
        have hcb := c.toNat_lt
        replace hgd := Lib.hid hgd
        replace hst := Lib.hid hst
        clear hvt
        by_cases h128 : 128 ≤ c.toNat
        · go_wp2_with fail
          go_quiet (fail)
          go_wp2_with fail
          go_quiet (fail)
          go_wp2_with fail
          go_roundg (gk - 1)
          case measure => omega
          case rel =>
            refine ⟨4, _, by omega, rfl, rfl, congrArg (Value.int .i64) hst.out, by omega, ?_⟩
            intro i hi
            rcases Nat.lt_or_ge i 3 with h | h
            · exact hall.out i h
            · obtain rfl : i = 3 := by omega
              rw [hgd.out]; exact h128
        · by_cases hz : c = 0
          · subst hz
            have hnb := nextB_zero (l.drop k) most 3 (by decide) (by rw [List.length_drop]; omega) hall.out (by decide) hgd.out
            replace hnb := Lib.hid hnb
            simp only [UInt8.toNat_zero, Int.natCast_zero] at hc
            clear hcb h128 hst
            go_wp2_with fail
            go_quiet (fail)
            go_wp2_with fail
            go_quiet (fail)
            go_wp2_with fail
            go_quiet (fail)
            go_wp2_with fail
            go_ret2
            rw [hnb.out]
            exact ⟨rfl, ((hR.out.drewN _).err 3).drewN _, grown_trans (grown_trans (grown_drewN _ _ _) (grown_set _ _ _ _)) (grown_drewN _ _ _)⟩
          · have hz0 : ((c.toNat : Int) == 0) = false := by
              rw [beq_eq_false_iff_ne]
              intro h
              exact hz (UInt8.toNat_inj.1 (by rw [UInt8.toNat_zero]; omega))
            have hnb := nextB_val (l.drop k) most 3 (by decide) (by rw [List.length_drop]; omega) hall.out (by rw [hgd.out]; omega) (by rw [hgd.out]; exact fun h => hz h.2)
            clear hz
            obtain ⟨V, hV⟩ : ∃ V, V = val7 ((l.drop k).take (3 + 1)) := ⟨_, rfl⟩
            have hst := hst.out
            rw [← hV] at hst hnb
            have hVb := val7_lt ((l.drop k).take (3 + 1))
            rw [← hV] at hVb
            clear hV
            have hVb2 : V < 128 ^ 4 := Nat.lt_of_lt_of_le hVb (Nat.pow_le_pow_right (by decide) (by rw [List.length_take]; omega))
            clear hVb
            simp only [Nat.reducePow] at hVb2
            by_cases hb1 : maxNum < V
            · exact absurd hb1 (by unfold maxNum; omega)
            · by_cases hb2 : most < (V : Int)
              · rw [if_pos (.inr hb2)] at hnb
                replace hnb := Lib.hid hnb
                have m1 : (V : Int) ≤ 1099511627776 := by unfold maxNum at hb1; omega
                clear hb1
                go_wp2_with fail
                go_quiet (fail)
                go_wp2_with fail
                go_quiet (fail)
                go_wp2_with fail
                go_quiet (fail)
                go_wp2_with fail
                go_ret2
                rw [hnb.out]
                exact ⟨rfl, ((hR.out.drewN _).err 4).drewN _, grown_trans (grown_trans (grown_drewN _ _ _) (grown_set _ _ _ _)) (grown_drewN _ _ _)⟩
              · rw [if_neg (fun h => h.elim hb1 hb2)] at hnb
                replace hnb := Lib.hid hnb
                have m1 : (V : Int) ≤ 1099511627776 := by unfold maxNum at hb1; omega
                clear hb1
                have w4 : IntKind.i64.wrap ((k : Int) + 3 + 1) = (k : Int) + 3 + 1 := IntWalk.i64_in _ (by omega)
                go_wp2_with fail
                go_quiet (fail)
                go_wp2_with fail
                go_quiet (fail)
                go_wp2_with fail
                go_quiet (fail)
                go_wp2_with fail
                go_ret2
                rw [hnb.out]
                exact ⟨rfl, (hR.out.drewN _).drewN _, grown_trans (grown_drewN _ _ _) (grown_drewN _ _ _)⟩
    · simp only [Nat.reducePow] at hvl
      have w0 : IntKind.i64.wrap ((k : Int) + 4) = (k : Int) + 4 := IntWalk.i64_in _ (by omega)
      have w1 : ((k : Int) + 4).toNat = k + 4 := by omega
      have w2 : (0 : Int) ≤ (k : Int) + 4 := by omega
      by_cases hend : k + 4 = l.length
      · have hnb := nextB_short (l.drop k) most 4 (by decide) (by rw [List.length_drop]; omega) hall.out
        have w3 : ((l.length : Nat) : Int) ≤ (k : Int) + 4 := by omega
        clear hend
        replace hnb := Lib.hid hnb
        go_wp2_with fail
        go_quiet (fail)
        go_wp2_with fail
        go_quiet (fail)
        go_wp2_with fail
        go_ret2
        rw [hnb.out]
        exact ⟨rfl, ((hR.out.drewN _).err 2).drewN _, grown_trans (grown_trans (grown_drewN _ _ _) (grown_set _ _ _ _)) (grown_drewN _ _ _)⟩
      · have w3 : (k : Int) + 4 < (l.length : Int) := by omega
        have hlt : k + 4 < l.length := by omega
        obtain ⟨b, off, rfl, hc⟩ := hs.out.get (k + 4) hlt
        obtain ⟨c, hcc⟩ : ∃ c, c = l[k + 4] := ⟨_, rfl⟩
        rw [← hcc] at hc
        have hcd : (l.drop k)[4]'(by rw [List.length_drop]; omega) = c := by rw [List.getElem_drop, hcc]
        have hgd : (l.drop k).getD 4 0 = c := by rw [← hcd, List.getD_eq_getElem?_getD, List.getElem?_eq_getElem (by rw [List.length_drop]; omega)]; rfl
        have hvt : v + 2 ^ 28 * (c.toNat % 128) = val7 ((l.drop k).take (4 + 1)) := by rw [val7_take _ 4 (by rw [List.length_drop]; omega), hcd, hv.out]
        have hst := step7 v c.toNat 28 hvl (by decide) c.toNat_lt
        rw [hvt, show ((2 ^ 28 : Nat) : Int) = 268435456 from rfl] at hst
        clear hcc hcd hend hlt
        have hcb := c.toNat_lt
        replace hgd := Lib.hid hgd
        replace hst := Lib.hid hst
        clear hvt
        by_cases h128 : 128 ≤ c.toNat
        · go_wp2_with fail
          go_quiet (fail)
          go_wp2_with fail
          go_quiet (fail)
          go_wp2_with fail
          go_roundg (gk - 1)
          case measure => omega
          case rel =>
            refine ⟨5, _, by omega, rfl, rfl, congrArg (Value.int .i64) hst.out, by omega, ?_⟩
            intro i hi
            rcases Nat.lt_or_ge i 4 with h | h
            · exact hall.out i h
            · obtain rfl : i = 4 := by omega
              rw [hgd.out]; exact h128
        · by_cases hz : c = 0
          · subst hz
            have hnb := nextB_zero (l.drop k) most 4 (by decide) (by rw [List.length_drop]; omega) hall.out (by decide) hgd.out
            replace hnb := Lib.hid hnb
            simp only [UInt8.toNat_zero, Int.natCast_zero] at hc
            clear hcb h128 hst
            go_wp2_with fail
            go_quiet (fail)
            go_wp2_with fail
            go_quiet (fail)
            go_wp2_with fail
            go_quiet (fail)
            go_wp2_with fail
            go_ret2
            rw [hnb.out]
            exact ⟨rfl, ((hR.out.drewN _).err 3).drewN _, grown_trans (grown_trans (grown_drewN _ _ _) (grown_set _ _ _ _)) (grown_drewN _ _ _)⟩
          · have hz0 : ((c.toNat : Int) == 0) = false := by
              rw [beq_eq_false_iff_ne]
              intro h
              exact hz (UInt8.toNat_inj.1 (by rw [UInt8.toNat_zero]; omega))
            have hnb := nextB_val (l.drop k) most 4 (by decide) (by rw [List.length_drop]; omega) hall.out (by rw [hgd.out]; omega) (by rw [hgd.out]; exact fun h => hz h.2)
            clear hz
            obtain ⟨V, hV⟩ : ∃ V, V = val7 ((l.drop k).take (4 + 1)) := ⟨_, rfl⟩
            have hst := hst.out
            rw [← hV] at hst hnb
            have hVb := val7_lt ((l.drop k).take (4 + 1))
            rw [← hV] at hVb
            clear hV
            have hVb2 : V < 128 ^ 5 := Nat.lt_of_lt_of_le hVb (Nat.pow_le_pow_right (by decide) (by rw [List.length_take]; omega))
            clear hVb
            simp only [Nat.reducePow] at hVb2
            by_cases hb1 : maxNum < V
            · exact absurd hb1 (by unfold maxNum; omega)
            · by_cases hb2 : most < (V : Int)
              · rw [if_pos (.inr hb2)] at hnb
                replace hnb := Lib.hid hnb
                have m1 : (V : Int) ≤ 1099511627776 := by unfold maxNum at hb1; omega
                clear hb1
                go_wp2_with fail
                go_quiet (fail)
                go_wp2_with fail
                go_quiet (fail)
                go_wp2_with fail
                go_quiet (fail)
                go_wp2_with fail
                go_ret2
                rw [hnb.out]
                exact ⟨rfl, ((hR.out.drewN _).err 4).drewN _, grown_trans (grown_trans (grown_drewN _ _ _) (grown_set _ _ _ _)) (grown_drewN _ _ _)⟩
              · rw [if_neg (fun h => h.elim hb1 hb2)] at hnb
                replace hnb := Lib.hid hnb
                have m1 : (V : Int) ≤ 1099511627776 := by unfold maxNum at hb1; omega
                clear hb1
                have w4 : IntKind.i64.wrap ((k : Int) + 4 + 1) = (k : Int) + 4 + 1 := IntWalk.i64_in _ (by omega)
                go_wp2_with fail
                go_quiet (fail)
                go_wp2_with fail
                go_quiet (fail)
                go_wp2_with fail
                go_quiet (fail)
                go_wp2_with fail
                go_ret2
                rw [hnb.out]
                exact ⟨rfl, (hR.out.drewN _).drewN _, grown_trans (grown_drewN _ _ _) (grown_drewN _ _ _)⟩
    · simp only [Nat.reducePow] at hvl
      have w0 : IntKind.i64.wrap ((k : Int) + 5) = (k : Int) + 5 := IntWalk.i64_in _ (by omega)
      have w1 : ((k : Int) + 5).toNat = k + 5 := by omega
      have w2 : (0 : Int) ≤ (k : Int) + 5 := by omega
      by_cases hend : k + 5 = l.length
      · have hnb := nextB_short (l.drop k) most 5 (by decide) (by rw [List.length_drop]; omega) hall.out
        have w3 : ((l.length : Nat) : Int) ≤ (k : Int) + 5 := by omega
        clear hend
        replace hnb := Lib.hid hnb
        go_wp2_with fail
        go_quiet (fail)
        go_wp2_with fail
        go_quiet (fail)
        go_wp2_with fail
        go_ret2
        rw [hnb.out]
        exact ⟨rfl, ((hR.out.drewN _).err 2).drewN _, grown_trans (grown_trans (grown_drewN _ _ _) (grown_set _ _ _ _)) (grown_drewN _ _ _)⟩
      · have w3 : (k : Int) + 5 < (l.length : Int) := by omega
        have hlt : k + 5 < l.length := by omega
        obtain ⟨b, off, rfl, hc⟩ := hs.out.get (k + 5) hlt
        obtain ⟨c, hcc⟩ : ∃ c, c = l[k + 5] := ⟨_, rfl⟩
        rw [← hcc] at hc
        have hcd : (l.drop k)[5]'(by rw [List.length_drop]; omega) = c := by rw [List.getElem_drop, hcc]
        have hgd : (l.drop k).getD 5 0 = c := by rw [← hcd, List.getD_eq_getElem?_getD, List.getElem?_eq_getElem (by rw [List.length_drop]; omega)]; rfl
        have hvt : v + 2 ^ 35 * (c.toNat % 128) = val7 ((l.drop k).take (5 + 1)) := by rw [val7_take _ 5 (by rw [List.length_drop]; omega), hcd, hv.out]
        have hst := step7 v c.toNat 35 hvl (by decide) c.toNat_lt
        rw [hvt, show ((2 ^ 35 : Nat) : Int) = 34359738368 from rfl] at hst
        clear hcc hcd hend hlt
        have hcb := c.toNat_lt
        replace hgd := Lib.hid hgd
        replace hst := Lib.hid hst
        clear hvt
        by_cases h128 : 128 ≤ c.toNat
        · go_wp2_with fail
          go_quiet (fail)
          go_wp2_with fail
          go_quiet (fail)
          go_wp2_with fail
          go_roundg (gk - 1)
          case measure => omega
          case rel =>
            refine ⟨6, _, by omega, rfl, rfl, congrArg (Value.int .i64) hst.out, by omega, ?_⟩
            intro i hi
            rcases Nat.lt_or_ge i 5 with h | h
            · exact hall.out i h
            · obtain rfl : i = 5 := by omega
              rw [hgd.out]; exact h128
        · by_cases hz : c = 0
          · subst hz
            have hnb := nextB_zero (l.drop k) most 5 (by decide) (by rw [List.length_drop]; omega) hall.out (by decide) hgd.out
            replace hnb := Lib.hid hnb
            simp only [UInt8.toNat_zero, Int.natCast_zero] at hc
            clear hcb h128 hst
            go_wp2_with fail
            go_quiet (fail)
            go_wp2_with fail
            go_quiet (fail)
            go_wp2_with fail
            go_quiet (fail)
            go_wp2_with fail
            go_ret2
            rw [hnb.out]
            exact ⟨rfl, ((hR.out.drewN _).err 3).drewN _, grown_trans (grown_trans (grown_drewN _ _ _) (grown_set _ _ _ _)) (grown_drewN _ _ _)⟩
          · have hz0 : ((c.toNat : Int) == 0) = false := by
              rw [beq_eq_false_iff_ne]
              intro h
              exact hz (UInt8.toNat_inj.1 (by rw [UInt8.toNat_zero]; omega))
            have hnb := nextB_val (l.drop k) most 5 (by decide) (by rw [List.length_drop]; omega) hall.out (by rw [hgd.out]; omega) (by rw [hgd.out]; exact fun h => hz h.2)
            clear hz
            obtain ⟨V, hV⟩ : ∃ V, V = val7 ((l.drop k).take (5 + 1)) := ⟨_, rfl⟩
            have hst := hst.out
            rw [← hV] at hst hnb
            have hVb := val7_lt ((l.drop k).take (5 + 1))
            rw [← hV] at hVb
            clear hV
            have hVb2 : V < 128 ^ 6 := Nat.lt_of_lt_of_le hVb (Nat.pow_le_pow_right (by decide) (by rw [List.length_take]; omega))
            clear hVb
            simp only [Nat.reducePow] at hVb2
            by_cases hb1 : maxNum < V
            · rw [if_pos (.inl hb1)] at hnb
              replace hnb := Lib.hid hnb
              have m1 : (1099511627776 : Int) < (V : Int) := by unfold maxNum at hb1; omega
              clear hb1
              go_wp2_with fail
              go_quiet (fail)
              go_wp2_with fail
              go_quiet (fail)
              go_wp2_with fail
              go_quiet (fail)
              go_wp2_with fail
              go_ret2
              rw [hnb.out]
              exact ⟨rfl, ((hR.out.drewN _).err 4).drewN _, grown_trans (grown_trans (grown_drewN _ _ _) (grown_set _ _ _ _)) (grown_drewN _ _ _)⟩
            · by_cases hb2 : most < (V : Int)
              · rw [if_pos (.inr hb2)] at hnb
                replace hnb := Lib.hid hnb
                have m1 : (V : Int) ≤ 1099511627776 := by unfold maxNum at hb1; omega
                clear hb1
                go_wp2_with fail
                go_quiet (fail)
                go_wp2_with fail
                go_quiet (fail)
                go_wp2_with fail
                go_quiet (fail)
                go_wp2_with fail
                go_ret2
                rw [hnb.out]
                exact ⟨rfl, ((hR.out.drewN _).err 4).drewN _, grown_trans (grown_trans (grown_drewN _ _ _) (grown_set _ _ _ _)) (grown_drewN _ _ _)⟩
              · rw [if_neg (fun h => h.elim hb1 hb2)] at hnb
                replace hnb := Lib.hid hnb
                have m1 : (V : Int) ≤ 1099511627776 := by unfold maxNum at hb1; omega
                clear hb1
                have w4 : IntKind.i64.wrap ((k : Int) + 5 + 1) = (k : Int) + 5 + 1 := IntWalk.i64_in _ (by omega)
                go_wp2_with fail
                go_quiet (fail)
                go_wp2_with fail
                go_quiet (fail)
                go_wp2_with fail
                go_quiet (fail)
                go_wp2_with fail
                go_ret2
                rw [hnb.out]
                exact ⟨rfl, (hR.out.drewN _).drewN _, grown_trans (grown_drewN _ _ _) (grown_drewN _ _ _)⟩
    · have hnb := nextB_six (l.drop k) most (by rw [List.length_drop]; omega) hall.out
      replace hnb := Lib.hid hnb
      go_wp2_with fail
      go_quiet (fail)
      go_wp2_with fail
      go_ret2
      rw [hnb.out]
      exact ⟨rfl, ((hR.out.drewN _).err 3).drewN _, grown_trans (grown_trans (grown_drewN _ _ _) (grown_set _ _ _ _)) (grown_drewN _ _ _)⟩

end Go.Proofs.Ytlhpibniecfofaa
