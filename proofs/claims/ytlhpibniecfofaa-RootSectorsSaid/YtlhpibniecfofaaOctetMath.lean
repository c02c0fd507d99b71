/- Plain mathematics of numbers as bytes. No program in sight. -/
namespace Go.Ofp

/-- The greatest number. -/
def maxNum : Nat := 1099511627776

/-- A number that may be put. -/
def clampN (n : Int) : Nat := min n.toNat maxNum

/-- A number's bytes. -/
def numB (n : Nat) : List UInt8 := if h : n < 128 then [UInt8.ofNat n] else UInt8.ofNat (n % 128 + 128) :: numB (n / 128)
termination_by n
decreasing_by omega

theorem numB_lt (n : Nat) (h : n < 128) : numB n = [UInt8.ofNat n] := by rw [numB]; simp [h]
theorem numB_ge (n : Nat) (h : ¬ n < 128) : numB n = UInt8.ofNat (n % 128 + 128) :: numB (n / 128) := by rw [numB]; simp [h]

theorem clampN_le (n : Int) : clampN n ≤ maxNum := Nat.min_le_right _ _

theorem numB_length (k n : Nat) (h : n < 128 ^ k) (hk : 0 < k) : (numB n).length ≤ k := by
  induction k generalizing n with
  | zero => omega
  | succ k ih =>
    by_cases h1 : n < 128
    · rw [numB_lt n h1]; simp
    · rw [numB_ge n h1]
      have hk0 : 0 < k := by
        rcases Nat.eq_zero_or_pos k with rfl | h0
        · simp at h; omega
        · exact h0
      have h2 : n / 128 < 128 ^ k := by rw [Nat.pow_succ] at h; omega
      have := ih _ h2 hk0
      simp; omega

theorem numB_six (n : Nat) (h : n ≤ maxNum) : (numB n).length ≤ 6 := numB_length 6 n (by unfold maxNum at h; omega) (by decide)

/-! ### Reading numbers -/
/-- The number of bytes, seven bits each, the lowest first. -/
def val7 : List UInt8 → Nat
  | [] => 0
  | c :: r => c.toNat % 128 + 128 * val7 r

/-- How many bytes ahead go on, up to k. -/
def lead : Nat → List UInt8 → Nat
  | 0, _ => 0
  | _ + 1, [] => 0
  | k + 1, c :: r => if 128 ≤ c.toNat then lead k r + 1 else 0

/-- The next number, and how many bytes it has; or an error (2 too short, 3 not in form, 4 too long). -/
def nextB (l : List UInt8) (most : Int) : Nat × Nat × Int :=
  let n := lead 6 l
  if n = 6 then (0, 0, 3) else if n = l.length then (0, 0, 2) else if 0 < n ∧ l.getD n 0 = 0 then (0, 0, 3)
  else if maxNum < val7 (l.take (n + 1)) ∨ most < (val7 (l.take (n + 1)) : Int) then (0, 0, 4) else (val7 (l.take (n + 1)), n + 1, 0)

theorem val7_snoc (l : List UInt8) (c : UInt8) : val7 (l ++ [c]) = val7 l + 128 ^ l.length * (c.toNat % 128) := by
  induction l with
  | nil => simp [val7]
  | cons d l ih =>
    simp only [List.cons_append, val7, ih, List.length_cons, Nat.pow_succ]
    rw [Nat.mul_add, Nat.add_assoc, Nat.mul_comm (128 ^ l.length) 128, Nat.mul_assoc]

theorem val7_lt (l : List UInt8) : val7 l < 128 ^ l.length := by
  induction l with
  | nil => simp [val7]
  | cons d l ih => simp only [val7, List.length_cons, Nat.pow_succ]; omega

theorem lead_le (k : Nat) (l : List UInt8) : lead k l ≤ k ∧ lead k l ≤ l.length := by
  induction k generalizing l with
  | zero => simp [lead]
  | succ k ih =>
    cases l with
    | nil => simp [lead]
    | cons c r =>
      simp only [lead]
      split
      · have := ih r; simp; omega
      · simp

/-- Bytes of which n go on, and the one behind doesn't (or there is none, or n is k). -/
theorem lead_of (k n : Nat) (l : List UInt8) (hn : n ≤ k) (hl : n ≤ l.length) (hall : ∀ i, i < n → 128 ≤ (l.getD i 0).toNat) (hend : n = k ∨ n = l.length ∨ (l.getD n 0).toNat < 128) : lead k l = n := by
  induction k generalizing n l with
  | zero => simp [lead]; omega
  | succ k ih =>
    cases l with
    | nil => simp only [List.length_nil] at hl; simp [lead]; omega
    | cons c r =>
      simp only [lead]
      rcases n with _ | n
      · rcases hend with h | h | h
        · omega
        · simp at h
        · simp at h; rw [if_neg (by omega)]
      · have h0 := hall 0 (by omega)
        simp at h0
        rw [if_pos h0, ih n r (by omega) (by simp at hl; omega) (fun i h => by have := hall (i + 1) (by omega); simpa using this) ?_]
        rcases hend with h | h | h
        · left; omega
        · right; left; simp at h; omega
        · right; right; simpa using h

theorem nextB_short (l : List UInt8) (most : Int) (j : Nat) (hj : j < 6) (hl : j = l.length) (hall : ∀ i, i < j → 128 ≤ (l.getD i 0).toNat) : nextB l most = (0, 0, 2) := by
  have h := lead_of 6 j l (by omega) (by omega) hall (.inr (.inl hl))
  simp only [nextB, h]
  rw [if_neg (by omega), if_pos hl]

theorem nextB_six (l : List UInt8) (most : Int) (hl : 6 ≤ l.length) (hall : ∀ i, i < 6 → 128 ≤ (l.getD i 0).toNat) : nextB l most = (0, 0, 3) := by
  have h := lead_of 6 6 l (by omega) hl hall (.inl rfl)
  simp only [nextB, h]
  rw [if_pos trivial]

theorem nextB_zero (l : List UInt8) (most : Int) (j : Nat) (hj : j < 6) (hl : j < l.length) (hall : ∀ i, i < j → 128 ≤ (l.getD i 0).toNat) (h0 : 0 < j) (hz : l.getD j 0 = 0) : nextB l most = (0, 0, 3) := by
  have h := lead_of 6 j l (by omega) (by omega) hall (.inr (.inr (by rw [hz]; decide)))
  simp only [nextB, h]
  rw [if_neg (by omega), if_neg (by omega), if_pos ⟨h0, hz⟩]

theorem nextB_val (l : List UInt8) (most : Int) (j : Nat) (hj : j < 6) (hl : j < l.length) (hall : ∀ i, i < j → 128 ≤ (l.getD i 0).toNat) (hc : (l.getD j 0).toNat < 128) (hz : ¬ (0 < j ∧ l.getD j 0 = 0)) :
    nextB l most = if maxNum < val7 (l.take (j + 1)) ∨ most < (val7 (l.take (j + 1)) : Int) then (0, 0, 4) else (val7 (l.take (j + 1)), j + 1, 0) := by
  have h := lead_of 6 j l (by omega) (by omega) hall (.inr (.inr hc))
  simp only [nextB, h]
  rw [if_neg (by omega), if_neg (by omega), if_neg hz]

theorem val7_take (l : List UInt8) (j : Nat) (h : j < l.length) : val7 (l.take (j + 1)) = val7 (l.take j) + 128 ^ j * (l[j].toNat % 128) := by
  rw [List.take_succ_eq_append_getElem h, val7_snoc, List.length_take, Nat.min_eq_left (by omega)]

/-! ### A reader: what is left, and the first error -/
def rdNum (r : List UInt8) (e : Int) (most : Int) : Nat × List UInt8 × Int :=
  if e ≠ 0 then (0, r, e) else ((nextB r most).1, r.drop (nextB r most).2.1, (nextB r most).2.2)

def rdStr (r : List UInt8) (e : Int) (most : Int) : List UInt8 × List UInt8 × Int :=
  if e ≠ 0 then ([], r, e)
  else if (nextB r most).2.2 ≠ 0 then ([], r, (nextB r most).2.2)
  else if r.length - (nextB r most).2.1 < (nextB r most).1 then ([], r, 2)
  else ((r.drop (nextB r most).2.1).take (nextB r most).1, r.drop ((nextB r most).2.1 + (nextB r most).1), 0)

def rdFlag (r : List UInt8) (e : Int) : Bool × List UInt8 × Int :=
  if e ≠ 0 then (false, r, e)
  else if (nextB r 1099511627776).2.2 ≠ 0 then (false, r, (nextB r 1099511627776).2.2)
  else if 1 < (nextB r 1099511627776).1 then (false, r, 3)
  else ((nextB r 1099511627776).1 == 1, r.drop (nextB r 1099511627776).2.1, 0)

def rdFail (e x : Int) : Int := if e = 0 then x else e
def rdEnd (r : List UInt8) (e : Int) : Int := if e = 0 ∧ 0 < r.length then 3 else e

theorem nextB_cases (r : List UInt8) (most : Int) : ((nextB r most).2.2 ≠ 0 ∧ 2 ≤ (nextB r most).2.2 ∧ (nextB r most).2.2 ≤ 4 ∧ (nextB r most).1 = 0 ∧ (nextB r most).2.1 = 0) ∨
    ((nextB r most).2.2 = 0 ∧ (nextB r most).2.1 ≤ r.length ∧ 0 < (nextB r most).2.1 ∧ (nextB r most).2.1 ≤ 6 ∧ (nextB r most).1 ≤ maxNum ∧ ((nextB r most).1 : Int) ≤ most) := by
  have hl := lead_le 6 r
  unfold nextB
  simp only
  split
  · left; simp
  · split
    · left; simp
    · split
      · left; simp
      · split
        · left; simp
        · right
          rename_i h1 h2 h3 h4
          simp only [not_or] at h4
          refine ⟨rfl, ?_, ?_, ?_, ?_, ?_⟩ <;> first | (simp only; omega) | (simp only [Nat.not_lt] at h4; exact h4.1) | (simp only [Int.not_lt] at h4; exact h4.2)

end Go.Ofp
