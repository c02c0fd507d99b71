/- Sets of small numbers as bits. -/
import Derived.Test.YtplgpbbghhlbjaaDoorBase
import Derived.Laws.BitsAllLaws
set_option linter.unusedSimpArgs false
set_option linter.unusedVariables false
namespace Go.Ofp
theorem or_new (s n : Nat) (hs : s < 4294967296) (hn : n < 32) (h : s.testBit n = false) : s ||| 2 ^ n = s + 2 ^ n := by
  have hp : 2 ^ n ≤ 2 ^ 31 := Nat.pow_le_pow_right (by decide) (by omega)
  have hd : BitVec.ofNat 64 s &&& BitVec.ofNat 64 (2 ^ n) = 0#64 := by
    apply BitVec.eq_of_getLsbD_eq
    intro i hi
    simp only [BitVec.getLsbD_and, BitVec.getLsbD_ofNat, Nat.testBit_two_pow, BitVec.getLsbD_zero]
    by_cases e : n = i
    · subst e; simp [h]
    · simp [e]
  have ha := BitVec.add_eq_or_of_and_eq_zero _ _ hd
  have ha' := congrArg BitVec.toNat ha
  rw [BitVec.toNat_add, BitVec.toNat_or, BitVec.toNat_ofNat, BitVec.toNat_ofNat, Nat.mod_eq_of_lt (show s < 2 ^ 64 by omega), Nat.mod_eq_of_lt (show 2 ^ n < 2 ^ 64 by omega), Nat.mod_eq_of_lt (by omega)] at ha'
  exact ha'.symm
theorem or_old (s n : Nat) (h : s.testBit n = true) : s ||| 2 ^ n = s := by
  apply Nat.eq_of_testBit_eq
  intro i
  rw [Nat.testBit_or, Nat.testBit_two_pow]
  by_cases e : n = i
  · subst e; simp [h]
  · simp [e]
theorem or_lt (s n : Nat) (hs : s < 4294967296) (hn : n < 32) : s ||| 2 ^ n < 4294967296 := by
  have hp : 2 ^ n ≤ 2 ^ 31 := Nat.pow_le_pow_right (by decide) (by omega)
  have : s ||| 2 ^ n < 2 ^ 32 := Nat.or_lt_two_pow (by omega) (by omega)
  omega
end Go.Ofp
namespace Go.Proofs.YtplgpbbghhlbjaaDoor
open Go.RowKit Go.Ofp
set_option linter.unusedVariables false
set_option maxRecDepth 100000
set_option maxHeartbeats 4000000
theorem bit_any (n : Nat) (w : World) (h : n < 32) : Calls Tryd.prog 73 #[.int .i64 n] w fun e w' => e = .returned (.int .u32 ((2 : Int) ^ n)) ∧ w = w' := by
  have d1 : decide ((n : Int) < 0) = false := decide_eq_false (by omega)
  have d2 : decide ((31 : Int) < (n : Int)) = false := decide_eq_false (by omega)
  have hp : 2 ^ n ≤ 2 ^ 31 := Nat.pow_le_pow_right (by decide) (by omega)
  have e : (2 : Int) ^ n % 4294967296 = 2 ^ n := by
    have h1 : ((2 ^ n : Nat) : Int) = (2 : Int) ^ n := by simp
    have h2 : ((2 ^ n : Nat) : Int) % 4294967296 = ((2 ^ n : Nat) : Int) := Int.emod_eq_of_lt (Int.natCast_nonneg _) (by omega)
    rw [h1] at h2
    exact h2
  go_enter Tryd.func73, Tryd.ntmps73
  go_wp2_with fail
  go_ret
  exact ⟨rfl, rfl⟩
theorem rhasb_any (s n : Nat) (w : World) (h : n < 32) (hs : s < 4294967296) : Calls Tryd.prog 20 #[.int .u32 s, .int .i64 n] w fun e w' => e = .returned (.bool (s.testBit n)) ∧ w = w' := by
  have d1 : decide ((n : Int) < 0) = false := decide_eq_false (by omega)
  have d2 : decide ((31 : Int) < (n : Int)) = false := decide_eq_false (by omega)
  go_enter Tryd.func20, Tryd.ntmps20
  go_wp2_with fail
  clear d1 d2
  go_loopg [0, 5] n (fun gk vs vx wr => ∃ k q : Nat, k + gk = n ∧ vx = .int .i64 k ∧ vs = .int .u32 q ∧ q < 4294967296 ∧ Hid (q = s / 2 ^ k) ∧ w = wr)
  case atStart => exact ⟨0, s, Nat.zero_add _, rfl, rfl, hs, Lib.hid (by simp), rfl⟩
  case round =>
    obtain ⟨k, q, hk, rfl, rfl, hq, hr, rfl⟩ := hrel
    by_cases hlt : k < n
    · go_wp2_with fail
      go_roundg (n - (k + 1))
      case measure => omega
      case rel => exact ⟨k + 1, q / 2, by omega, by go_num, rfl, by omega, Lib.hid (by rw [hr.out, Nat.pow_succ, Nat.div_div_eq_div_mul]), rfl⟩
    · obtain rfl : k = n := by omega
      have e : s.testBit k = decide (q % 2 = 1) := by rw [hr.out, Nat.testBit_eq_decide_div_mod_eq]
      clear hr
      rcases Nat.mod_two_eq_zero_or_one q with h2 | h2
      · have h3 : (q : Int) % 2 = 0 := by omega
        rw [h2] at e
        replace e := Lib.hid e
        clear h2
        go_wp2_with fail
        go_ret
        exact ⟨by rw [e.out]; rfl, rfl⟩
      · have h3 : (q : Int) % 2 = 1 := by omega
        rw [h2] at e
        replace e := Lib.hid e
        clear h2
        go_wp2_with fail
        go_ret
        exact ⟨by rw [e.out]; rfl, rfl⟩

theorem rone_any (n : Nat) (w : World) (h : n < 32) : Calls Tryd.prog 64 #[.int .i64 n] w fun e w' => e = .returned (.int .u32 ((2 ^ n : Nat) : Int)) ∧ w = w' := by
  have d1 : decide ((n : Int) < 0) = false := decide_eq_false (by omega)
  have d2 : decide ((31 : Int) < (n : Int)) = false := decide_eq_false (by omega)
  go_enter Tryd.func64, Tryd.ntmps64
  go_wp2_with fail
  clear d1 d2
  go_loopg [3, 4] n (fun gk vs vx wr => ∃ k q : Nat, k + gk = n ∧ vx = .int .i64 k ∧ vs = .int .u32 q ∧ q ≤ 2147483648 ∧ Hid (q = 2 ^ k) ∧ w = wr)
  case atStart => exact ⟨0, 1, Nat.zero_add _, rfl, rfl, by omega, Lib.hid rfl, rfl⟩
  case round =>
    obtain ⟨k, q, hk, rfl, rfl, hq, hr, rfl⟩ := hrel
    by_cases hlt : k < n
    · have hq2 : q ≤ 1073741824 := by
        rw [hr.out]
        have : 2 ^ k ≤ 2 ^ 30 := Nat.pow_le_pow_right (by decide) (by omega)
        omega
      go_wp2_with fail
      go_roundg (n - (k + 1))
      case measure => omega
      case rel => exact ⟨k + 1, q * 2, by omega, by go_num, by go_num, by omega, Lib.hid (by rw [hr.out, Nat.pow_succ]), rfl⟩
    · obtain rfl : k = n := by omega
      go_wp2_with fail
      go_ret
      exact ⟨by rw [← hr.out]; rfl, rfl⟩

theorem rwith_any (s n : Nat) (w : World) (h : n < 32) (hs : s < 4294967296) : Calls Tryd.prog 48 #[.int .u32 s, .int .i64 n] w fun e w' => e = .returned (.int .u32 ((s ||| 2 ^ n : Nat) : Int)) ∧ w = w' := by
  have cH := Lib.hid (fun W : World => rhasb_any s n W h hs)
  have cO := Lib.hid (fun W : World => rone_any n W h)
  have hp : 2 ^ n ≤ 2 ^ 31 := Nat.pow_le_pow_right (by decide) (by omega)
  cases hb : s.testBit n with
  | true =>
    rw [or_old s n hb]
    rw [hb] at cH
    clear hb hp
    go_enter Tryd.func48, Tryd.ntmps48
    go_wp2_with (go_at_call 20; (with_reducible refine (cH.out _).mono ?_); rintro _ _ ⟨rfl, rfl⟩)
    go_ret
    exact ⟨rfl, rfl⟩
  | false =>
    have e := or_new s n hs h hb
    have hl := or_lt s n hs h
    rw [e] at hl ⊢
    rw [hb] at cH
    clear hb
    generalize 2 ^ n = q at *
    go_enter Tryd.func48, Tryd.ntmps48
    go_wp2_with (first
      | (go_at_call 20; (with_reducible refine (cH.out _).mono ?_); rintro _ _ ⟨rfl, rfl⟩)
      | (go_at_call 64; (with_reducible refine (cO.out _).mono ?_); rintro _ _ ⟨rfl, rfl⟩))
    go_ret
    exact ⟨by simp, rfl⟩
end Go.Proofs.YtplgpbbghhlbjaaDoor
