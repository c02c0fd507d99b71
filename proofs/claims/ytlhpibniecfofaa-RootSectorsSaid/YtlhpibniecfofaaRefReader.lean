/- The walks of the reference's Reader of numbers, texts and truths. -/
import Derived.Test.YtlhpibniecfofaaKit
import Derived.Test.YtlhpibniecfofaaOctetMath
set_option linter.unusedSimpArgs false
set_option linter.unusedVariables false
namespace Go.Proofs.Ytlhpibniecfofaa
open Go.RowKit Go.Ofp

theorem getD_get (s : ByteArray) (i : Nat) (h : i < s.size) : s.data.toList.getD i 0 = s[i] := by
  have h' : i < s.data.toList.length := by simpa using h
  rw [List.getD_eq_getElem?_getD, List.getElem?_eq_getElem h']
  rfl

set_option maxRecDepth 100000 in
set_option maxHeartbeats 2000000 in
theorem rnext_any (s : ByteArray) (most : Int) (w : World) (hs : s.size ≤ maxLen) :
    Calls Try.prog 99 #[.string s, .int .i64 most] w fun e w' =>
      e = .returned (.tuple #[.int .i64 (nextB s.data.toList most).1, .int .i64 (nextB s.data.toList most).2.1, .int .i64 (nextB s.data.toList most).2.2]) ∧ w = w' := by
  unfold maxLen at hs
  have hlen : s.data.toList.length = s.size := by simp
  replace hlen := Lib.hid hlen
  go_enter Try.func99, Try.ntmps99
  go_wp2_with fail
  go_loopg [7] 6 (fun gk i wr => ∃ n : Nat, n + gk = 6 ∧ w = wr ∧ i = .int .i64 n ∧ n ≤ s.size ∧ ∀ i, i < n → 128 ≤ (s.data.toList.getD i 0).toNat)
  case atStart => exact ⟨0, rfl, rfl, rfl, by omega, fun i h => by omega⟩
  case round =>
    obtain ⟨n, hn, rfl, rfl, hns, hall⟩ := hrel
    replace hall := Lib.hid hall
    by_cases h6 : n = 6
    · have hnb := nextB_six s.data.toList most (by rw [hlen.out]; omega) (by rw [← h6]; exact hall.out)
      subst h6
      replace hnb := Lib.hid hnb
      go_wp2_with fail
      go_ret3
      rw [hnb.out]
      exact ⟨rfl, rfl⟩
    have hn6 : n < 6 := by omega
    clear h6
    by_cases hend : n = s.size
    · have hnb := nextB_short s.data.toList most n hn6 (by rw [hlen.out]; exact hend) hall.out
      have he0 : ((s.size : Int) == 6) = false := by rw [beq_eq_false_iff_ne]; omega
      subst hend
      replace hnb := Lib.hid hnb
      go_wp2_with fail
      go_ret3
      rw [hnb.out]
      exact ⟨rfl, rfl⟩
    have hlt : n < s.size := by omega
    clear hend
    have hgd := getD_get s n hlt
    obtain ⟨c, hc⟩ : ∃ c, c = s[n] := ⟨_, rfl⟩
    have hcb := c.toNat_lt
    rw [← hc] at hgd
    replace hgd := Lib.hid hgd
    have hc' : s[n] = c := hc.symm
    clear hc
    by_cases h128 : 128 ≤ c.toNat
    · go_wp2_with fail
      go_roundg (gk - 1)
      case measure => omega
      case rel =>
        refine ⟨n + 1, by omega, rfl, by go_num, by omega, ?_⟩
        intro i hi
        rcases Nat.lt_or_ge i n with h | h
        · exact hall.out i h
        · obtain rfl : i = n := by omega
          rw [hgd.out]; exact h128
    · have he0 : ((n : Int) == 6) = false := by rw [beq_eq_false_iff_ne]; omega
      have he1 : ((n : Int) == (s.size : Int)) = false := by rw [beq_eq_false_iff_ne]; omega
      by_cases hz : 0 < n ∧ c = 0
      · obtain ⟨hn0, rfl⟩ := hz
        have hnb := nextB_zero s.data.toList most n hn6 (by rw [hlen.out]; exact hlt) hall.out hn0 hgd.out
        replace hnb := Lib.hid hnb
        go_wp2_with fail
        go_ret3
        rw [hnb.out]
        exact ⟨rfl, rfl⟩
      · have hnb := nextB_val s.data.toList most n hn6 (by rw [hlen.out]; exact hlt) hall.out (by rw [hgd.out]; omega) (by rw [hgd.out]; exact hz)
        replace hnb := Lib.hid hnb
        have hz2 : (decide (0 < n) = true ∧ decide ((0 : Int) < (n : Int)) = true ∧ ((c.toNat : Int) == 0) = false) ∨ (decide (0 < n) = false ∧ decide ((0 : Int) < (n : Int)) = false) := by
          rcases Nat.eq_zero_or_pos n with h | h
          · right
            exact ⟨decide_eq_false (by omega), decide_eq_false (by omega)⟩
          · refine .inl ⟨decide_eq_true h, decide_eq_true (by omega), ?_⟩
            rw [beq_eq_false_iff_ne]
            intro h2
            exact hz ⟨h, UInt8.toNat_inj.1 (by rw [UInt8.toNat_zero]; omega)⟩
        clear hz
        obtain ⟨L, hL⟩ : ∃ L, L = s.data.toList.take (n + 1) := ⟨_, rfl⟩
        have hLl : L.length = n + 1 := by rw [hL, List.length_take, hlen.out]; omega
        have hLg : ∀ i (h : i < n + 1), L[i]'(by omega) = s[i]'(by omega) := by
          intro i h
          simp only [hL, List.getElem_take]
          rfl
        have hvl := val7_lt L
        have hV6 : val7 L < 128 ^ 6 := Nat.lt_of_lt_of_le hvl (Nat.pow_le_pow_right (by decide) (by omega))
        rw [← hL] at hnb
        clear hL
        simp only [Nat.reducePow] at hV6
        replace hLl := Lib.hid hLl
        replace hLg := Lib.hid hLg
        replace hnb := Lib.hid hnb
        clear hvl
        rcases hz2 with ⟨hd0, hd1, hz2⟩ | ⟨hd0, hd1⟩
        all_goals
          go_wp2_with fail
          go_loopg [8, 9] (n + 2) (fun gk v i wr => w = wr ∧ ((∃ j : Nat, gk = j + 2 ∧ j ≤ n ∧ i = .int .i64 j ∧ v = .int .i64 (val7 (L.drop (j + 1)) : Int)) ∨ (gk = 1 ∧ i = .int .i64 (-1) ∧ v = .int .i64 (val7 L : Int))))
          case atStart => exact ⟨rfl, .inl ⟨n, rfl, Nat.le_refl _, rfl, by rw [List.drop_eq_nil_of_le (by rw [hLl.out]; omega)]; rfl⟩⟩
          case round =>
            obtain ⟨rfl, ⟨j, hg, hj, rfl, rfl⟩ | ⟨hg, rfl, rfl⟩⟩ := hrel
            · have hjs : j < s.size := by omega
              have hb2 := s[j].toNat_lt
              have hval : val7 (L.drop j) = s[j].toNat % 128 + 128 * val7 (L.drop (j + 1)) := by
                rw [List.drop_eq_getElem_cons (by rw [hLl.out]; omega), val7, hLg.out j (by omega)]
              have hvb : val7 (L.drop (j + 1)) < 128 ^ 6 := Nat.lt_of_lt_of_le (val7_lt _) (Nat.pow_le_pow_right (by decide) (by rw [List.length_drop, hLl.out]; omega))
              simp only [Nat.reducePow] at hvb
              obtain ⟨u, hu⟩ : ∃ u, u = val7 (L.drop (j + 1)) := ⟨_, rfl⟩
              rw [← hu] at hval hvb ⊢
              clear hu
              replace hval := Lib.hid hval
              replace hg := Lib.hid hg
              go_wp2_with fail
              go_roundg (gk - 1)
              case measure => have := hg.out; omega
              case rel =>
                refine ⟨rfl, ?_⟩
                rcases j with _ | j
                · refine .inr ⟨by have := hg.out; omega, by go_num, congrArg (Value.int .i64) ?_⟩
                  have := hval.out
                  rw [List.drop_zero] at this
                  rw [this]
                  omega
                · refine .inl ⟨j, by have := hg.out; omega, by omega, by go_num, congrArg (Value.int .i64) ?_⟩
                  rw [hval.out]
                  omega
            · by_cases hbig : maxNum < val7 L
              · have hnb2 := hnb.out
                rw [if_pos (.inl hbig)] at hnb2
                replace hnb2 := Lib.hid hnb2
                have m1 : (1099511627776 : Int) < (val7 L : Int) := by unfold maxNum at hbig; omega
                clear hbig
                go_wp2_with fail
                go_ret3
                rw [hnb2.out]
                exact ⟨rfl, rfl⟩
              by_cases hb2 : most < (val7 L : Int)
              · have hnb2 := hnb.out
                rw [if_pos (.inr hb2)] at hnb2
                replace hnb2 := Lib.hid hnb2
                have m1 : (val7 L : Int) ≤ 1099511627776 := by unfold maxNum at hbig; omega
                clear hbig
                go_wp2_with fail
                go_ret3
                rw [hnb2.out]
                exact ⟨rfl, rfl⟩
              · have hnb2 := hnb.out
                rw [if_neg (fun h => h.elim hbig hb2)] at hnb2
                replace hnb2 := Lib.hid hnb2
                have m1 : (val7 L : Int) ≤ 1099511627776 := by unfold maxNum at hbig; omega
                clear hbig
                go_wp2_with fail
                go_ret3
                rw [hnb2.out]
                exact ⟨rfl, rfl⟩

end Go.Proofs.Ytlhpibniecfofaa
