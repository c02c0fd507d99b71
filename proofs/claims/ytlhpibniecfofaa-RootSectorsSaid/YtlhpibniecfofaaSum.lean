/- The walks of package sum and of its reference: what each function computes. -/
import Derived.Test.YtlhpibniecfofaaBase
import Derived.Test.YtlhpibniecfofaaSumMath
set_option linter.unusedSimpArgs false
set_option linter.unusedVariables false
namespace Go.Proofs.Ytlhpibniecfofaa
open Go.RowKit Go.Ofp

theorem bits_and_bv (a b : B32) : bits .and .u32 (a.toNat : Int) (b.toNat : Int) = ((a &&& b).toNat : Int) := by
  rw [u32_and_nat _ _ a.isLt b.isLt, BitVec.toNat_and]
theorem bits_xor_bv (a b : B32) : bits .xor .u32 (a.toNat : Int) (b.toNat : Int) = ((a ^^^ b).toNat : Int) := by
  rw [u32_xor_nat _ _ a.isLt b.isLt, BitVec.toNat_xor]

theorem half_int (s : B32) : bits .xor .u32 ((s.toNat : Int) / 2) (bits .and .u32 2197175160 (-bits .and .u32 (s.toNat : Int) 1 % 4294967296)) = ((half s).toNat : Int) := by
  have e1 : bits .and .u32 (s.toNat : Int) 1 = ((s.toNat % 2 : Nat) : Int) := by
    have := u32_and_nat s.toNat 1 s.isLt (by decide)
    rw [show ((1 : Nat) : Int) = 1 from rfl] at this
    rw [this, nat_mask1]
  have e2 : (s.toNat : Int) / (2 : Int) = ((s >>> 1).toNat : Int) := by simp [Nat.shiftRight_eq_div_pow]
  rw [e1, e2]
  have hb : s.getLsbD 0 = decide (s.toNat % 2 = 1) := by simp [BitVec.getLsbD, Nat.testBit_zero]
  unfold half
  rw [hb, ← bits_xor_bv]
  congr 1
  rcases Nat.mod_two_eq_zero_or_one s.toNat with h | h <;> rw [h] <;> decide

theorem half_any (s : B32) (w : World) :
    Calls Try.prog 110 #[.int .u32 s.toNat] w fun e w' => e = .returned (.int .u32 (half s).toNat) ∧ w = w' := by
  have h1 := s.isLt
  have e := Lib.hid (half_int s)
  go_enter Try.func110, Try.ntmps110
  go_wp2
  go_ret
  rw [← e.out]
  exact ⟨rfl, rfl⟩

theorem step_byte (s : B32) (b : UInt8) : bits .xor .u32 (s.toNat : Int) (b.toNat : Int) = ((s ^^^ bv b).toNat : Int) := by
  have h := b.toNat_lt
  have e : b.toNat = (bv b).toNat := by simp only [bv, BitVec.toNat_ofNat]; omega
  rw [e, bits_xor_bv]

theorem not_int (x : B32) : bits .xor .u32 IntKind.u32.max (x.toNat : Int) = ((~~~ x).toNat : Int) := by
  rw [show IntKind.u32.max = ((ones.toNat : Nat) : Int) from by decide, bits_xor_bv, ones, BitVec.not_zero, BitVec.allOnes_xor]

theorem take_snoc {α : Type} (l : List α) (k : Nat) (h : k < l.length) : l.take (k + 1) = l.take k ++ [l[k]] := by
  rw [List.take_succ_eq_append_getElem h]

theorem ret_val {a b : Value} (h : a = b) : Ending.returned a = .returned b := by rw [h]

set_option maxHeartbeats 400000 in
theorem of_any (a : Option Addr) (l : List UInt8) (cap : Nat) (w : World) (h : Sl w a (l.map vb)) (hl : l.length ≤ maxLen) :
    Calls Try.prog 104 #[.slice a l.length cap] w fun e w' => e = .returned (.int .u32 (crc l).toNat) ∧ w = w' := by
  unfold maxLen at hl
  have H := Lib.hid h
  clear h
  go_enter Try.func104, Try.ntmps104
  go_wp2
  go_loop [3, 8] (fun s i => ∃ k : Nat, k ≤ l.length ∧ i = .int .i64 k ∧ s = .int .u32 (reg ones (l.take k)).toNat) (fun _ i => l.length - (intOf i).toNat)
  case atStart => exact ⟨0, Nat.zero_le _, rfl, rfl⟩
  case round =>
    obtain ⟨k, hk, rfl, rfl⟩ := hrel
    by_cases hlt : k < l.length
    · obtain ⟨b, off, rfl, hc⟩ := H.out.get k hlt
      have hb := l[k].toNat_lt
      have hx := step_byte (reg ones (l.take k)) l[k]
      go_wp2_with fail
      go_loop [3, 16] (fun s i => ∃ j : Nat, j ≤ 8 ∧ i = .int .i64 j ∧ s = .int .u32 (steps j (reg ones (l.take k) ^^^ bv l[k])).toNat) (fun _ i => 8 - (intOf i).toNat)
      case atStart => exact ⟨0, by omega, rfl, by rw [steps, BitVec.toNat_xor]⟩
      case round =>
        obtain ⟨j, hj, rfl, rfl⟩ := hrel
        clear hx
        by_cases hj8 : j < 8
        · go_wp2_with (go_at_call 110; refine (half_any _ _).mono ?_; rintro e w' ⟨rfl, rfl⟩)
          go_round
          case rel => exact ⟨j + 1, by omega, by go_num, by rw [← steps_succ']⟩
          case measure => simp [intOf]; omega
        · go_wp2_with fail
          go_round
          case rel => exact ⟨k + 1, by omega, by go_num, by rw [take_snoc l k hlt, reg_snoc, show j = 8 by omega]; rfl⟩
          case measure => simp [intOf]; omega
    · go_wp2
      go_ret
      refine ⟨ret_val ?_, rfl⟩
      rw [List.take_of_length_le (by omega)]
      show Value.int .u32 (bits .xor .u32 IntKind.u32.max ((reg ones l).toNat : Int)) = _
      rw [not_int]
      rfl

theorem top_int (a : B32) : ((a.toNat : Int) / 2147483648 == 1) = a.getLsbD 31 := by
  have h := a.isLt
  rw [show a.getLsbD 31 = decide (a.toNat / 2147483648 = 1) from by
    simp only [BitVec.getLsbD, Nat.testBit, Nat.shiftRight_eq_div_pow]
    rcases Nat.lt_or_ge a.toNat 2147483648 with h1 | h1
    · rw [Nat.div_eq_of_lt (by omega)]; decide
    · rw [show a.toNat / 2 ^ 31 = 1 by omega]; decide]
  rw [Bool.eq_iff_iff]
  simp
  omega

theorem shl_int (a : B32) : (a.toNat : Int) * 2 % 4294967296 = ((a <<< 1).toNat : Int) := by
  simp only [BitVec.toNat_shiftLeft, Nat.shiftLeft_eq]
  omega

/-- What Join makes of two sums. -/
def joined (a b : B32) (n : Int) : B32 := if n < 0 ∨ n > 1048576 then 0#32 else steps (8 * n.toNat) a ^^^ b

theorem move_odd (s : B32) (h : s.toNat % 2 = 1) : bits .xor .u32 ((s.toNat : Int) / 2) 2197175160 = ((half s).toNat : Int) := by
  have e2 : (s.toNat : Int) / (2 : Int) = ((s >>> 1).toNat : Int) := by simp [Nat.shiftRight_eq_div_pow]
  have hb : s.getLsbD 0 = true := by simp [BitVec.getLsbD, Nat.testBit_zero, h]
  have := bits_xor_bv (s >>> 1) poly
  rw [e2, half, if_pos hb, ← this]
  rfl

theorem move_even (s : B32) (h : s.toNat % 2 = 0) : (s.toNat : Int) / 2 = ((half s).toNat : Int) := by
  have e2 : (s.toNat : Int) / (2 : Int) = ((s >>> 1).toNat : Int) := by simp [Nat.shiftRight_eq_div_pow]
  have hb : s.getLsbD 0 = false := by simp [BitVec.getLsbD, Nat.testBit_zero, h]
  rw [e2, half, hb]
  simp

set_option maxHeartbeats 400000 in
theorem move_any (s : B32) (w : World) :
    Calls Try.prog 109 #[.int .u32 s.toNat] w fun e w' => e = .returned (.int .u32 (steps 8 s).toNat) ∧ w = w' := by
  go_enter Try.func109, Try.ntmps109
  go_wp2
  go_loopg [0, 3] 8 (fun g v i wr => ∃ k : Nat, k + g = 8 ∧ w = wr ∧ i = .int .i64 k ∧ v = .int .u32 (steps k s).toNat)
  case atStart => exact ⟨0, rfl, rfl, rfl, rfl⟩
  case round =>
    obtain ⟨k, hk, rfl, rfl, rfl⟩ := hrel
    have hk8 : k ≤ 8 := by omega
    replace hk := Lib.hid hk
    by_cases hlt : k < 8
    · obtain ⟨t, ht⟩ : ∃ t, t = steps k s := ⟨_, rfl⟩
      have hs := Lib.hid (steps_succ' k s)
      rw [← ht]
      replace ht := Lib.hid ht
      have hb := t.isLt
      rcases Nat.mod_two_eq_zero_or_one t.toNat with hp | hp
      · have hv := Lib.hid (move_even t hp)
        have hd : ((t.toNat : Int) % 2 == 1) = false := by rw [beq_eq_false_iff_ne]; omega
        clear hp
        go_wp2
        go_roundg (gk - 1)
        case measure => have := hk.out; omega
        case rel => exact ⟨k + 1, by have := hk.out; omega, rfl, by go_num, by rw [hs.out, ← ht.out]; exact congrArg _ hv.out⟩
      · have hv := Lib.hid (move_odd t hp)
        have hd : ((t.toNat : Int) % 2 == 1) = true := by rw [beq_iff_eq]; omega
        clear hp
        go_wp2
        go_roundg (gk - 1)
        case measure => have := hk.out; omega
        case rel => exact ⟨k + 1, by have := hk.out; omega, rfl, by go_num, by rw [hs.out, ← ht.out]; exact congrArg _ hv.out⟩
    · go_wp2
      go_ret
      obtain rfl : k = 8 := by omega
      exact ⟨rfl, rfl⟩

set_option maxHeartbeats 400000 in
theorem rof_any (s : ByteArray) (w : World) (hs : s.size ≤ maxLen) :
    Calls Try.prog 100 #[.string s] w fun e w' => e = .returned (.int .u32 (crc s.data.toList).toNat) ∧ w = w' := by
  unfold maxLen at hs
  go_enter Try.func100, Try.ntmps100
  go_wp2
  go_loopg [3, 4] s.size (fun g v i wr => ∃ k : Nat, k + g = s.size ∧ w = wr ∧ i = .int .i64 k ∧ v = .int .u32 (reg ones (s.data.toList.take k)).toNat)
  case atStart => exact ⟨0, by omega, rfl, rfl, rfl⟩
  case round =>
    obtain ⟨k, hk, rfl, rfl, rfl⟩ := hrel
    have hk8 : k ≤ s.size := by omega
    replace hk := Lib.hid hk
    by_cases hlt : k < s.size
    · have hb := s[k].toNat_lt
      have hx := step_byte (reg ones (s.data.toList.take k)) s[k]
      have hn : reg ones (s.data.toList.take (k + 1)) = steps 8 (reg ones (s.data.toList.take k) ^^^ bv s[k]) := by
        rw [take_snoc _ k (by simpa using hlt), reg_snoc]; rfl
      obtain ⟨t, ht⟩ : ∃ t, t = reg ones (s.data.toList.take k) := ⟨_, rfl⟩
      rw [← ht] at hx hn ⊢
      replace hx := Lib.hid hx
      replace ht := Lib.hid ht
      replace hn := Lib.hid hn
      go_wp2_with (go_at_call 109; rw [hx.out]; refine (move_any _ _).mono ?_; rintro e w' ⟨rfl, rfl⟩)
      go_roundg (gk - 1)
      case measure => have := hk.out; omega
      case rel => exact ⟨k + 1, by have := hk.out; omega, rfl, by go_num, by rw [hn.out]⟩
    · go_wp2
      go_ret
      refine ⟨ret_val ?_, rfl⟩
      rw [List.take_of_length_le (by simpa using hlt)]
      show Value.int .u32 (bits .xor .u32 ((reg ones s.data.toList).toNat : Int) (ones.toNat : Int)) = _
      rw [bits_xor_bv, ones, BitVec.not_zero, BitVec.xor_allOnes]
      rfl

theorem le4_length (x : B32) : (le4 x).length = 4 := rfl
theorem le4_cells (x : B32) : (le4 x).map vb = [.int .u8 ((x.toNat : Int) % 256), .int .u8 ((x.toNat : Int) / 256 % 256), .int .u8 ((x.toNat : Int) / 65536 % 256), .int .u8 ((x.toNat : Int) / 16777216)] := by
  have := x.isLt
  simp only [le4, List.map_cons, List.map_nil, vb_ofNat, List.cons.injEq, Value.int.injEq, true_and, and_true]
  omega

theorem elem_u8 : Elem Try.prog 5 (.int .u8 0) 1 1 := Elem.mk (by kernel_rfl) (by rfl) (by decide)

set_option maxRecDepth 10000 in
set_option maxHeartbeats 400000 in
theorem rseal_any (s : ByteArray) (w : World) (hs : s.size ≤ 100000) :
    Calls Try.prog 79 #[.string s] w fun e w' => e = .returned (.string (str (sealed s.data.toList))) ∧ Below w.heap.size w w' := by
  have hl4 := le4_length (crc s.data.toList)
  go_enter Try.func79, Try.ntmps79
  go_wp2_with (first
    | (go_at_call 100; refine (rof_any _ _ (by unfold maxLen; omega)).mono ?_; rintro e w' ⟨rfl, rfl⟩)
    | (with_reducible refine wpList_bts (src := 127) (dst := 9) (x := .tmp 21) (l := le4 (crc s.data.toList)) rfl rfl Try.underlying127 Try.underlying5 Try.underlying9 rfl ?c1 rfl ?_))
  case c1 => exact le4_cells _ ▸ Sl.new w _ _ _
  go_ret
  refine ⟨ret_val (congrArg Value.string (str_append s _)), (Below.refl _ _).alloc (Nat.le_refl _) _⟩

theorem u8_wrap (x : B32) : (x.toNat : Int) / 16777216 % 256 = (x.toNat : Int) / 16777216 := by have := x.isLt; omega

set_option maxRecDepth 10000 in
set_option maxHeartbeats 400000 in
theorem seal_any (a : Option Addr) (l : List UInt8) (cap : Nat) (w : World) (h : Sl w a (l.map vb)) (hl : l.length ≤ 100000) :
    Calls Try.prog 98 #[.slice a l.length cap] w fun e w' => ∃ v, e = .returned v ∧ w'.ownsRow w.heap.size 5 1 v (l.length + 4) ((sealed l).map vb) ∧ Below w.heap.size w w' := by
  have H := Lib.hid h
  clear h
  have hw := Lib.hid (u8_wrap (crc l))
  have hb := (crc l).isLt
  go_enter Try.func98, Try.ntmps98
  go_wp2_with (first
    | (go_at_call 104; refine (of_any _ _ _ _ H.out (by unfold maxLen; omega)).mono ?_; rintro e w' ⟨rfl, rfl⟩)
    | (at_make; refine wpList_mk rfl rfl Try.underlying127 elem_u8 rfl rfl (l.length + 4) (by simp) (by omega) (by unfold maxLen; omega) ?_; intro w1 ho1 hg1)
    | (at_builtin; refine wpList_app (s := .tmp 10) (x := .tmp 11) rfl rfl Try.underlying127 elem_u8 ho1 rfl (Src.slice Try.underlying127 (H.out.below (below_grown hg1)) (by simp)) rfl (vb_one _) (by omega) (by unfold maxLen; omega) (hg1 none).size ?_; intro v2 w2 ho2 hB2 hg2 hv2)
    | (at_builtin; refine wpList_app (s := .tmp 13) (x := .tmp 25) rfl rfl Try.underlying127 elem_u8 (ho2.alloc _) rfl (Src.slice Try.underlying127 (Sl.new _ _ _ _) (by simp)) rfl (by simp [Value.oneCell']) (by omega) (by unfold maxLen; omega) (by have := (hg1 none).size; have := hB2.size; simp; omega) ?_; intro v3 w3 ho3 hB3 hg3 hv3))
  go_ret
  have hle := le4_cells (crc l)
  refine ⟨_, rfl, ?_, ?_⟩
  · simp only [sealed, List.map_append, hle]
    simpa [hw.out] using ho3
  · exact (((below_grown hg1).trans hB2).alloc (Nat.le_trans (hg1 none).size hB2.size) _).trans hB3

/-- What opening bytes gives. -/
def opened (l : List UInt8) : Option (List UInt8) :=
  if l.length < 4 then none else if sealed (l.take (l.length - 4)) = l then some (l.take (l.length - 4)) else none

theorem four_bits (b0 b1 b2 b3 : UInt8) : bits .or .u32 (bits .or .u32 (bits .or .u32 (b0.toNat : Int) ((b1.toNat : Int) * 256)) ((b2.toNat : Int) * 65536)) ((b3.toNat : Int) * 16777216) = ((word b0 b1 b2 b3).toNat : Int) := by
  have h0 := b0.toNat_lt; have h1 := b1.toNat_lt; have h2 := b2.toNat_lt; have h3 := b3.toNat_lt
  have e1 := u32_or_nat b0.toNat (b1.toNat * 256) (by omega) (by omega)
  rw [nat_join8' (b1.toNat * 256) b0.toNat (by omega) (by omega)] at e1
  have e2 := u32_or_nat (b1.toNat * 256 + b0.toNat) (b2.toNat * 65536) (by omega) (by omega)
  rw [nat_join16' (b2.toNat * 65536) _ (by omega) (by omega)] at e2
  have e3 := u32_or_nat (b2.toNat * 65536 + (b1.toNat * 256 + b0.toNat)) (b3.toNat * 16777216) (by omega) (by omega)
  rw [nat_join24' (b3.toNat * 16777216) _ (by omega) (by omega)] at e3
  simp only [Int.natCast_add, Int.natCast_mul, Int.cast_ofNat_Int] at e1 e2 e3
  rw [e1, e2, e3, word_toNat]
  omega

theorem four_ne (b0 b1 b2 b3 : UInt8) (x : B32) : (bits .or .u32 (bits .or .u32 (bits .or .u32 (b0.toNat : Int) ((b1.toNat : Int) * 256)) ((b2.toNat : Int) * 65536)) ((b3.toNat : Int) * 16777216) != (x.toNat : Int)) = !decide (word b0 b1 b2 b3 = x) := by
  rw [four_bits]
  by_cases e : word b0 b1 b2 b3 = x
  · rw [decide_eq_true e, e]; exact bne_self_eq_false _
  · have : (word b0 b1 b2 b3).toNat ≠ x.toNat := fun h => e (BitVec.eq_of_toNat_eq h)
    simp only [e, decide_false, Bool.not_false, bne_iff_ne, ne_eq]; omega

theorem split4 (l : List UInt8) (h : 4 ≤ l.length) : ∃ p b0 b1 b2 b3, l = p ++ [b0, b1, b2, b3] := by
  have e : (l.drop (l.length - 4)).length = 4 := by rw [List.length_drop]; omega
  have e2 := (List.take_append_drop (l.length - 4) l).symm
  generalize l.drop (l.length - 4) = q at e e2
  match q, e with
  | [b0, b1, b2, b3], _ => exact ⟨_, b0, b1, b2, b3, e2⟩

theorem le4_word (b0 b1 b2 b3 : UInt8) : le4 (word b0 b1 b2 b3) = [b0, b1, b2, b3] := by
  have h0 := b0.toNat_lt; have h1 := b1.toNat_lt; have h2 := b2.toNat_lt; have h3 := b3.toNat_lt
  simp only [le4, word_toNat, List.cons.injEq, and_true]
  refine ⟨?_, ?_, ?_, ?_⟩ <;> apply UInt8.toNat_inj.1 <;> rw [UInt8.toNat_ofNat'] <;> omega

theorem sealed_iff (p : List UInt8) (b0 b1 b2 b3 : UInt8) : sealed p = p ++ [b0, b1, b2, b3] ↔ word b0 b1 b2 b3 = crc p := by
  unfold sealed
  rw [List.append_cancel_left_eq, ← le4_word]
  constructor
  · intro h
    have := congrArg (fun q : List UInt8 => match q with | [c0, c1, c2, c3] => word c0 c1 c2 c3 | _ => 0#32) h
    simp only [le4] at this
    rw [word_le4, word_le4] at this
    exact this.symm
  · intro h; rw [h]

theorem opened_four (p : List UInt8) (b0 b1 b2 b3 : UInt8) : opened (p ++ [b0, b1, b2, b3]) = if word b0 b1 b2 b3 = crc p then some p else none := by
  have e : (p ++ [b0, b1, b2, b3]).take ((p ++ [b0, b1, b2, b3]).length - 4) = p := by simp
  unfold opened
  rw [e, if_neg (by simp)]
  simp only [sealed_iff]

theorem opened_sealed (p : List UInt8) : opened (sealed p) = some p := by
  have := opened_four p (UInt8.ofNat (crc p).toNat) (UInt8.ofNat ((crc p).toNat / 256)) (UInt8.ofNat ((crc p).toNat / 65536)) (UInt8.ofNat ((crc p).toNat / 16777216))
  rw [if_pos (word_le4 _)] at this
  exact this

theorem seal_at (a : Option Addr) (l : List UInt8) (cap : Nat) (w : World) (n : Nat) (hn : n = l.length) (h : Sl w a (l.map vb)) (hl : n ≤ 100000) :
    Calls Try.prog 98 #[.slice a n cap] w fun e w' => ∃ v, e = .returned v ∧ w'.ownsRow w.heap.size 5 1 v (n + 4) ((sealed l).map vb) ∧ Below w.heap.size w w' := by
  subst hn
  exact seal_any a l cap w h hl

theorem of_at (a : Option Addr) (l : List UInt8) (cap : Nat) (w : World) (n : Nat) (hn : n = l.length) (h : Sl w a (l.map vb)) (hl : n ≤ maxLen) :
    Calls Try.prog 104 #[.slice a n cap] w fun e w' => e = .returned (.int .u32 (crc l).toNat) ∧ w = w' := by
  subst hn
  exact of_any a l cap w h hl

end Go.Proofs.Ytlhpibniecfofaa
