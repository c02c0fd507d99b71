/- The walks of sectors: low bytes, numbers, flags. -/
import Derived.Test.YtcpkmgmdhjhfaaaSecMath
import Derived.Test.YtcpkmgmdhjhfaaaPiece
set_option linter.unusedSimpArgs false
set_option linter.unusedVariables false
namespace Go.Proofs.Ytcpkmgmdhjhfaaa
open Go.RowKit Go.Ofp
set_option linter.unusedVariables false
set_option maxRecDepth 100000
set_option maxHeartbeats 4000000

theorem le_snoc (n k : Nat) : le n (k + 1) = le n k ++ [UInt8.ofNat (n / 256 ^ k)] := by
  induction k generalizing n with
  | zero => simp [le]
  | succ k ih => rw [le, ih, le, Nat.div_div_eq_div_mul, Nat.pow_succ, Nat.mul_comm (256 ^ k)]; rfl

theorem set_mid (A L D : List UInt8) (x : UInt8) : (A ++ (L ++ D)).set (A.length + L.length) x = A ++ (L ++ D.set 0 x) := by
  rw [List.set_append_right _ _ (by omega), Nat.add_sub_cancel_left, List.set_append_right _ _ (by omega), Nat.sub_self]

/-- The bytes of a block, when the lowest j bytes of n were laid at a place. -/
def laidAt (bs : List UInt8) (off n j : Nat) : List UInt8 := bs.take off ++ (le n j ++ bs.drop (off + j))

theorem laidAt_length (bs : List UInt8) (off n j : Nat) (h : off + j ≤ bs.length) : (laidAt bs off n j).length = bs.length := by
  simp only [laidAt, List.length_append, List.length_take, le_length, List.length_drop]
  omega

theorem laidAt_set (bs : List UInt8) (off n j : Nat) (h : off + j < bs.length) : (laidAt bs off n j).set (off + j) (UInt8.ofNat (n / 256 ^ j)) = laidAt bs off n (j + 1) := by
  have h1 : (bs.take off).length = off := by rw [List.length_take]; omega
  have h2 := set_mid (bs.take off) (le n j) (bs.drop (off + j)) (UInt8.ofNat (n / 256 ^ j))
  rw [h1, le_length] at h2
  rw [laidAt, h2, laidAt, le_snoc]
  have h3 : bs.drop (off + j) = bs[off + j] :: bs.drop (off + j + 1) := List.drop_eq_getElem_cons h
  rw [h3]
  simp [Nat.add_assoc]

/-- The row of an array of bytes. -/
def bytesOf (bs : List UInt8) : Array Value := (bs.map vb).toArray

theorem bytesOf_set (bs : List UInt8) (i : Nat) (x : UInt8) : (bytesOf bs).setIfInBounds i (vb x) = bytesOf (bs.set i x) := by
  simp [bytesOf, List.map_set]

theorem bytesOf_get (bs : List UInt8) (i : Nat) (h : i < bs.length) : (bytesOf bs)[i]? = some (.int .u8 (bs[i].toNat : Int)) := by
  simp [bytesOf, h, vb]

theorem low_any (g off k cap n : Nat) (t : TypeId) (bs : List UInt8) (w : World) (hw : Whole w g t (bytesOf bs)) (hk : off + k ≤ bs.length) (hb : bs.length ≤ 1000) (hn : n < 9223372036854775808) :
    Calls Try.prog 82 #[.slice (some ⟨g, off, none⟩) k cap, .int .i64 n] w fun e w' => e = .returned (.tuple #[]) ∧ Whole w' g t (bytesOf (laidAt bs off n k)) ∧ w.grownBy w' (some g) := by
  replace hw := Lib.hid hw
  go_enter Try.func82, Try.ntmps82
  go_wp2_with fail
  go_loopg [1, 7] k (fun gk vn vi wr => ∃ j : Nat, j + gk = k ∧ vi = .int .i64 j ∧ vn = .int .i64 ((n / 256 ^ j : Nat) : Int) ∧ Whole wr g t (bytesOf (laidAt bs off n j)) ∧ w.grownBy wr (some g))
  case atStart => exact ⟨0, by omega, rfl, by simp, by simpa [laidAt, le] using hw.out, grown_refl _ _⟩
  case round =>
    obtain ⟨j, hjk, rfl, rfl, hwr, hg⟩ := hrel
    by_cases hj : j < k
    · have hlen := laidAt_length bs off n j (by omega)
      have c0 := hwr.cell (off + j)
      rw [bytesOf_get _ _ (by omega)] at c0
      have f0 := hwr.frozen (off + j)
      have hmn : n / 256 ^ j < 9223372036854775808 := Nat.lt_of_le_of_lt (Nat.div_le_self _ _) hn
      have hset := laidAt_set bs off n j (by omega)
      have hvb := vb_ofNat (n / 256 ^ j)
      have hdd : n / 256 ^ j / 256 = n / 256 ^ (j + 1) := by rw [Nat.div_div_eq_div_mul, Nat.pow_succ]
      generalize n / 256 ^ j = m at hmn hset hvb hdd ⊢
      replace hwr := Lib.hid hwr
      replace hset := Lib.hid hset
      replace hvb := Lib.hid hvb
      replace hdd := Lib.hid hdd
      go_wp2_with fail
      go_roundg (k - (j + 1))
      case measure => omega
      case rel =>
        refine ⟨j + 1, by omega, rfl, ?_, ?_, grown_trans hg (grown_set _ _ _ _)⟩
        · rw [← hdd.out]
          exact congrArg (Value.int .i64) (by omega)
        · have h2 := hwr.out.set (off + j) (vb (UInt8.ofNat m))
          rw [bytesOf_set, hset.out, hvb.out] at h2
          exact h2
    · have e : j = k := by omega
      subst e
      go_wp2_with fail
      exact bodyPost_end (results_none rfl _ _ _) rfl ⟨rfl, hwr, hg⟩

theorem numLE_snoc (l : List UInt8) (b : UInt8) : numLE (l ++ [b]) = numLE l + 256 ^ l.length * b.toNat := by
  induction l with
  | nil => simp [numLE]
  | cons c l ih =>
    simp only [List.cons_append, numLE, ih, List.length_cons, Nat.pow_succ, Nat.mul_add]
    rw [Nat.mul_comm (256 ^ l.length) 256, Nat.mul_assoc]
    omega

theorem numLE_take (l : List UInt8) (j : Nat) (h : j < l.length) : numLE (l.take (j + 1)) = numLE (l.take j) + 256 ^ j * l[j].toNat := by
  rw [List.take_add_one, List.getElem?_eq_getElem h, Option.toList_some, numLE_snoc, List.length_take, Nat.min_eq_left (by omega)]

/-- One byte more of a number, as the walk spells it. -/
theorem or_byte (v c j : Nat) (hv : v < 256 ^ j) (hj : j ≤ 6) (hc : c < 256) : bits .or .i64 (v : Int) (((c * 2 ^ (8 * j) : Nat)) : Int) = ((v + 256 ^ j * c : Nat) : Int) := by
  have e : (256 : Nat) ^ j = 2 ^ (8 * j) := by rw [Nat.pow_mul]
  rw [e] at hv ⊢
  have hp : 2 ^ (8 * j) ≤ 2 ^ 48 := Nat.pow_le_pow_right (by decide) (by omega)
  have hx : c * 2 ^ (8 * j) ≤ 256 * 2 ^ 48 := Nat.mul_le_mul (by omega) hp
  rw [i64_or_nat _ _ (by omega) (by omega), Nat.or_comm, nat_join (8 * j) _ _ (Nat.mul_mod_left _ _) hv, Nat.mul_comm, Nat.add_comm]

theorem number_step (v c j : Nat) (hv : v < 256 ^ j) (hj : j ≤ 6) (hc : c < 256) : bits .or .i64 (v : Int) (wrap64 (wrap64 (c : Int) * 2 ^ (8 * j))) = ((v + 256 ^ j * c : Nat) : Int) := by
  have hp : 2 ^ (8 * j) ≤ 2 ^ 48 := Nat.pow_le_pow_right (by decide) (by omega)
  have hx : c * 2 ^ (8 * j) ≤ 256 * 2 ^ 48 := Nat.mul_le_mul (by omega) hp
  rw [← IntWalk.i64_left, ← IntWalk.i64_left, wrap_i64_nat _ (by omega), show (c : Int) * 2 ^ (8 * j) = ((c * 2 ^ (8 * j) : Nat) : Int) by simp, wrap_i64_nat _ (by omega)]
  exact or_byte v c j hv hj hc

theorem number_any (s : ByteArray) (w : World) (hs : s.size ≤ 7) : Calls Try.prog 80 #[.string s] w fun e w' => e = .returned (.int .i64 (numLE s.data.toList)) ∧ w = w' := by
  go_enter Try.func80, Try.ntmps80
  go_wp2_with fail
  go_loopg [3, 7] s.size (fun gk vn vi wr => ∃ j : Nat, j + gk = s.size ∧ vi = .int .i64 j ∧ vn = .int .i64 (numLE (s.data.toList.take j)) ∧ w = wr)
  case atStart => exact ⟨0, by omega, rfl, rfl, rfl⟩
  case round =>
    obtain ⟨j, hjk, rfl, rfl, rfl⟩ := hrel
    by_cases hj : j < s.size
    · have hlt := numLE_lt (s.data.toList.take j)
      rw [List.length_take, ← ba_size, Nat.min_eq_left (by omega)] at hlt
      have hj' : j < s.data.toList.length := by rw [← ba_size]; exact hj
      have hnx := numLE_take s.data.toList j hj'
      generalize numLE (s.data.toList.take j) = v at hlt hnx ⊢
      have hor := number_step v (s.data.toList[j].toNat) j hlt (by omega) (by have := s.data.toList[j].toNat_lt; omega)
      replace hor := Lib.hid hor
      replace hnx := Lib.hid hnx
      replace hlt := Lib.hid hlt
      go_wp2_with fail
      go_roundg (s.size - (j + 1))
      case measure => omega
      case rel =>
        refine ⟨j + 1, by omega, rfl, ?_, rfl⟩
        rw [hnx.out]
        exact congrArg (Value.int .i64) hor.out
    · have e : j = s.size := by omega
      subst e
      have hfull : s.data.toList.take s.size = s.data.toList := List.take_of_length_le (by rw [ba_size]; omega)
      rw [hfull]
      go_wp2_with fail
      go_ret
      exact ⟨rfl, rfl⟩

theorem rnumber_any (s : ByteArray) (w : World) (hs : s.size ≤ 7) : Calls Try.prog 81 #[.string s] w fun e w' => e = .returned (.int .i64 (numLE s.data.toList)) ∧ w = w' := by
  go_enter Try.func81, Try.ntmps81
  go_wp2_with fail
  go_loopg [3, 4] s.size (fun gk vn vi wr => ∃ j : Nat, j = gk ∧ j ≤ s.size ∧ vi = .int .i64 ((j : Int) - 1) ∧ vn = .int .i64 (numLE (s.data.toList.drop j)) ∧ w = wr)
  case atStart => exact ⟨s.size, rfl, Nat.le_refl _, rfl, by rw [List.drop_of_length_le (by rw [ba_size]; omega)]; rfl, rfl⟩
  case round =>
    obtain ⟨j, rfl, hjs, rfl, rfl, rfl⟩ := hrel
    by_cases hj : 0 < j
    · obtain ⟨i, rfl⟩ : ∃ i, j = i + 1 := ⟨j - 1, by omega⟩
      have hlt := numLE_lt (s.data.toList.drop (i + 1))
      rw [List.length_drop, ← ba_size] at hlt
      have hp : 256 ^ (s.size - (i + 1)) ≤ 256 ^ 6 := Nat.pow_le_pow_right (by decide) (by omega)
      have hi : i < s.data.toList.length := by rw [← ba_size]; omega
      have hnx : numLE (s.data.toList.drop i) = s.data.toList[i].toNat + 256 * numLE (s.data.toList.drop (i + 1)) := by rw [List.drop_eq_getElem_cons hi, numLE]
      have hc := s.data.toList[i].toNat_lt
      have e1 : ((i + 1 : Nat) : Int) - 1 = (i : Int) := by omega
      rw [e1]
      generalize numLE (s.data.toList.drop (i + 1)) = v at hlt hnx ⊢
      replace hnx := Lib.hid hnx
      have hv : v < 281474976710656 := by omega
      clear hlt hp
      go_wp2_with fail
      go_roundg i
      case measure => omega
      case rel =>
        refine ⟨i, rfl, by omega, rfl, ?_, rfl⟩
        rw [hnx.out]
        refine congrArg (Value.int .i64) ?_
        show wrap64 ((v : Int) * 256 + wrap64 ((s.data.toList[i].toNat : Nat) : Int)) = _
        rw [← IntWalk.i64_left, ← IntWalk.i64_left, wrap_i64_nat _ (by omega), show (v : Int) * 256 + (s.data.toList[i].toNat : Int) = ((s.data.toList[i].toNat + 256 * v : Nat) : Int) by omega, wrap_i64_nat _ (by omega)]
    · have e : j = 0 := by omega
      subst e
      go_wp2_with fail
      go_ret
      exact ⟨rfl, rfl⟩

theorem flags_any (a : Option Addr) (cap : Nat) (x y : Bool) (w : World) (h : Sl w a [.bool x, .bool y]) : Calls Try.prog 83 #[.slice a 2 cap] w fun e w' => e = .returned (.int .i64 ((if x then 64 else 0) + (if y then 128 else 0))) ∧ w = w' := by
  obtain ⟨b, off, rfl⟩ := h.cells (by simp)
  have c0 := h.add 0 (.bool x) rfl
  have c1 := h.add 1 (.bool y) rfl
  rw [Addr.add_lit] at c0 c1
  simp only [Nat.add_zero] at c0
  clear h
  go_enter Try.func83, Try.ntmps83
  go_wp2_with fail
  go_loopg [3, 8] 2 (fun gk vn vi wr => w = wr ∧ ((gk = 2 ∧ vi = .int .i64 0 ∧ vn = .int .i64 0) ∨ (gk = 1 ∧ vi = .int .i64 1 ∧ vn = .int .i64 (if x then 64 else 0)) ∨ (gk = 0 ∧ vi = .int .i64 2 ∧ vn = .int .i64 ((if x then 64 else 0) + (if y then 128 else 0)))))
  case atStart => exact ⟨rfl, .inl ⟨rfl, rfl, rfl⟩⟩
  case round =>
    obtain ⟨rfl, ⟨rfl, rfl, rfl⟩ | ⟨rfl, rfl, rfl⟩ | ⟨rfl, rfl, rfl⟩⟩ := hrel
    · cases x
      · go_wp2_with fail
        go_roundg 1
        case measure => omega
        case rel => exact ⟨rfl, .inr (.inl ⟨rfl, rfl, rfl⟩)⟩
      · go_wp2_with fail
        go_roundg 1
        case measure => omega
        case rel => exact ⟨rfl, .inr (.inl ⟨rfl, rfl, rfl⟩)⟩
    · cases x <;> cases y
      · go_wp2_with fail
        go_roundg 0
        case measure => omega
        case rel => exact ⟨rfl, .inr (.inr ⟨rfl, rfl, rfl⟩)⟩
      · go_wp2_with fail
        go_roundg 0
        case measure => omega
        case rel => exact ⟨rfl, .inr (.inr ⟨rfl, rfl, rfl⟩)⟩
      · go_wp2_with fail
        go_roundg 0
        case measure => omega
        case rel => exact ⟨rfl, .inr (.inr ⟨rfl, rfl, rfl⟩)⟩
      · go_wp2_with fail
        go_roundg 0
        case measure => omega
        case rel => exact ⟨rfl, .inr (.inr ⟨rfl, rfl, rfl⟩)⟩
    · go_wp2_with fail
      all_goals
        go_ret
        first
          | exact ⟨rfl, rfl⟩
          | simp_all

end Go.Proofs.Ytcpkmgmdhjhfaaa
