/- What was put is read: plain mathematics. -/
import Derived.Test.YtlhpibniecfofaaOctetMath
set_option linter.unusedSimpArgs false
set_option linter.unusedVariables false
namespace Go.Ofp

theorem numB_pos (n : Nat) : 0 < (numB n).length := by
  by_cases h : n < 128
  · rw [numB_lt n h]; simp
  · rw [numB_ge n h]; simp

theorem lead_numB (k n : Nat) (rest : List UInt8) (h : (numB n).length ≤ k) : lead k (numB n ++ rest) = (numB n).length - 1 := by
  induction k generalizing n with
  | zero => have := numB_pos n; omega
  | succ k ih =>
    by_cases h1 : n < 128
    · rw [numB_lt n h1]
      simp only [List.cons_append, List.nil_append, lead, List.length_singleton]
      rw [if_neg]
      rw [UInt8.toNat_ofNat']
      omega
    · rw [numB_ge n h1] at h ⊢
      simp only [List.length_cons] at h
      have hp := numB_pos (n / 128)
      simp only [List.cons_append, lead, List.length_cons]
      rw [if_pos (by rw [UInt8.toNat_ofNat']; omega), ih _ (by omega)]
      omega

theorem val7_numB (n : Nat) : val7 (numB n) = n := by
  induction n using Nat.strongRecOn with
  | _ n ih =>
    by_cases h1 : n < 128
    · rw [numB_lt n h1]
      simp only [val7, UInt8.toNat_ofNat']
      omega
    · rw [numB_ge n h1]
      simp only [val7, UInt8.toNat_ofNat']
      rw [ih (n / 128) (by omega)]
      omega

theorem last_numB (n : Nat) (h : 0 < n) (rest : List UInt8) : (numB n ++ rest).getD ((numB n).length - 1) 0 ≠ 0 := by
  induction n using Nat.strongRecOn with
  | _ n ih =>
    by_cases h1 : n < 128
    · rw [numB_lt n h1]
      simp only [List.cons_append, List.length_singleton, Nat.sub_self, List.getD_cons_zero]
      intro e
      have := congrArg UInt8.toNat e
      rw [UInt8.toNat_ofNat', UInt8.toNat_zero] at this
      omega
    · rw [numB_ge n h1]
      have hp := numB_pos (n / 128)
      simp only [List.cons_append, List.length_cons, Nat.add_sub_cancel]
      rw [show (numB (n / 128)).length = (numB (n / 128)).length - 1 + 1 by omega, List.getD_cons_succ]
      exact ih _ (by omega) (by omega)

theorem nextB_numB (n : Nat) (most : Int) (rest : List UInt8) (hn : n ≤ maxNum) (hm : (n : Int) ≤ most) : nextB (numB n ++ rest) most = (n, (numB n).length, 0) := by
  have hl := lead_numB 6 n rest (numB_six n hn)
  have hp := numB_pos n
  have h6 := numB_six n hn
  unfold nextB
  simp only [hl]
  rw [if_neg (by omega), if_neg (by simp; omega)]
  have ht : (numB n ++ rest).take ((numB n).length - 1 + 1) = numB n := by rw [show (numB n).length - 1 + 1 = (numB n).length by omega]; exact List.take_left
  rw [ht, val7_numB]
  rw [if_neg, if_neg (by omega), show (numB n).length - 1 + 1 = (numB n).length by omega]
  rintro ⟨h1, h2⟩
  refine last_numB n ?_ rest h2
  rcases Nat.eq_zero_or_pos n with rfl | h
  · rw [numB_lt 0 (by decide)] at h1; simp at h1
  · exact h

/-- All three read back. -/
theorem read_num (n : Nat) (rest : List UInt8) (hn : n ≤ maxNum) : rdNum (numB n ++ rest) 0 n = (n, rest, 0) := by
  unfold rdNum
  rw [if_neg (by simp), nextB_numB n n rest hn (Int.le_refl _)]
  simp

theorem read_str (s rest : List UInt8) (hs : s.length ≤ maxNum) : rdStr (numB s.length ++ s ++ rest) 0 s.length = (s, rest, 0) := by
  unfold rdStr
  rw [if_neg (by simp), List.append_assoc, nextB_numB s.length s.length (s ++ rest) hs (Int.le_refl _)]
  simp only [ne_eq, not_true_eq_false, if_false]
  rw [if_neg (by simp)]
  simp [List.drop_append]

theorem read_flag (b : Bool) (rest : List UInt8) : rdFlag ([if b then 1 else 0] ++ rest) 0 = (b, rest, 0) := by
  cases b
  · have := nextB_numB 0 1099511627776 rest (by decide) (by decide)
    rw [numB_lt 0 (by decide)] at this
    unfold rdFlag
    rw [if_neg (by simp)]
    have e : ([if false = true then (1 : UInt8) else 0] ++ rest) = [UInt8.ofNat 0] ++ rest := rfl
    rw [e, this]
    rfl
  · have := nextB_numB 1 1099511627776 rest (by decide) (by decide)
    rw [numB_lt 1 (by decide)] at this
    unfold rdFlag
    rw [if_neg (by simp)]
    have e : ([if true = true then (1 : UInt8) else 0] ++ rest) = [UInt8.ofNat 1] ++ rest := rfl
    rw [e, this]
    rfl

end Go.Ofp
