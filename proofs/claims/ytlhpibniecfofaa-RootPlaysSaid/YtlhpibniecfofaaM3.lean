/- Texts laid together: Sum Octet Disk1 Disk2 Disk3 Disk4 Disk5 Open Open2. -/
import Derived.ProofKit
import Derived.OpenShut
import Derived.Test.YtlhpibniecfofaaM1
import Derived.Test.YtlhpibniecfofaaM2
section
/- The walks of package sum and of its reference: what each function computes. -/
set_option linter.unusedSimpArgs false
set_option linter.unusedVariables false
namespace Go.Proofs.Ytlhpibniecfofaa
open Go.RowKit Go.Ofp

theorem bits_and_bv (a b : B32) : bits .and .u32 (a.toNat : Int) (b.toNat : Int) = ((a &&& b).toNat : Int) := by
  rw [u32_and_nat _ _ a.isLt b.isLt, BitVec.toNat_and]
theorem bits_xor_bv (a b : B32) : bits .xor .u32 (a.toNat : Int) (b.toNat : Int) = ((a ^^^ b).toNat : Int) := by
  rw [u32_xor_nat _ _ a.isLt b.isLt, BitVec.toNat_xor]

theorem half_int (s : B32) : bits .xor .u32 ((s.toNat : Int) / 2) (bits .and .u32 2197175160 (-bits .and .u32 (s.toNat : Int) 1 % 4294967296)) = ((half s).toNat : Int) := by
  have e1 : bits .and .u32 (s.toNat : Int) 1 = ((s.toNat % 2 : Nat) : Int) := by
    have := u32_and_nat s.toNat 1 s.isLt (by decide)
    rw [show ((1 : Nat) : Int) = 1 from rfl] at this
    rw [this, nat_mask1]
  have e2 : (s.toNat : Int) / (2 : Int) = ((s >>> 1).toNat : Int) := by simp [Nat.shiftRight_eq_div_pow]
  rw [e1, e2]
  have hb : s.getLsbD 0 = decide (s.toNat % 2 = 1) := by simp [BitVec.getLsbD, Nat.testBit_zero]
  unfold half
  rw [hb, ← bits_xor_bv]
  congr 1
  rcases Nat.mod_two_eq_zero_or_one s.toNat with h | h <;> rw [h] <;> decide

theorem half_any (s : B32) (w : World) :
    Calls Try.prog 110 #[.int .u32 s.toNat] w fun e w' => e = .returned (.int .u32 (half s).toNat) ∧ w = w' := by
  have h1 := s.isLt
  have e := Lib.hid (half_int s)
  go_enter Try.func110, Try.ntmps110
  go_wp2
  go_ret
  rw [← e.out]
  exact ⟨rfl, rfl⟩

theorem step_byte (s : B32) (b : UInt8) : bits .xor .u32 (s.toNat : Int) (b.toNat : Int) = ((s ^^^ bv b).toNat : Int) := by
  have h := b.toNat_lt
  have e : b.toNat = (bv b).toNat := by simp only [bv, BitVec.toNat_ofNat]; omega
  rw [e, bits_xor_bv]

theorem not_int (x : B32) : bits .xor .u32 IntKind.u32.max (x.toNat : Int) = ((~~~ x).toNat : Int) := by
  rw [show IntKind.u32.max = ((ones.toNat : Nat) : Int) from by decide, bits_xor_bv, ones, BitVec.not_zero, BitVec.allOnes_xor]

theorem take_snoc {α : Type} (l : List α) (k : Nat) (h : k < l.length) : l.take (k + 1) = l.take k ++ [l[k]] := by
  rw [List.take_succ_eq_append_getElem h]

theorem ret_val {a b : Value} (h : a = b) : Ending.returned a = .returned b := by rw [h]

set_option maxHeartbeats 400000 in
theorem of_any (a : Option Addr) (l : List UInt8) (cap : Nat) (w : World) (h : Sl w a (l.map vb)) (hl : l.length ≤ maxLen) :
    Calls Try.prog 104 #[.slice a l.length cap] w fun e w' => e = .returned (.int .u32 (crc l).toNat) ∧ w = w' := by
  unfold maxLen at hl
  have H := Lib.hid h
  clear h
  go_enter Try.func104, Try.ntmps104
  go_wp2
  go_loop [3, 8] (fun s i => ∃ k : Nat, k ≤ l.length ∧ i = .int .i64 k ∧ s = .int .u32 (reg ones (l.take k)).toNat) (fun _ i => l.length - (intOf i).toNat)
  case atStart => exact ⟨0, Nat.zero_le _, rfl, rfl⟩
  case round =>
    obtain ⟨k, hk, rfl, rfl⟩ := hrel
    by_cases hlt : k < l.length
    · obtain ⟨b, off, rfl, hc⟩ := H.out.get k hlt
      have hb := l[k].toNat_lt
      have hx := step_byte (reg ones (l.take k)) l[k]
      go_wp2_with fail
      go_loop [3, 16] (fun s i => ∃ j : Nat, j ≤ 8 ∧ i = .int .i64 j ∧ s = .int .u32 (steps j (reg ones (l.take k) ^^^ bv l[k])).toNat) (fun _ i => 8 - (intOf i).toNat)
      case atStart => exact ⟨0, by omega, rfl, by rw [steps, BitVec.toNat_xor]⟩
      case round =>
        obtain ⟨j, hj, rfl, rfl⟩ := hrel
        clear hx
        by_cases hj8 : j < 8
        · go_wp2_with (go_at_call 110; refine (half_any _ _).mono ?_; rintro e w' ⟨rfl, rfl⟩)
          go_round
          case rel => exact ⟨j + 1, by omega, by go_num, by rw [← steps_succ']⟩
          case measure => simp [intOf]; omega
        · go_wp2_with fail
          go_round
          case rel => exact ⟨k + 1, by omega, by go_num, by rw [take_snoc l k hlt, reg_snoc, show j = 8 by omega]; rfl⟩
          case measure => simp [intOf]; omega
    · go_wp2
      go_ret
      refine ⟨ret_val ?_, rfl⟩
      rw [List.take_of_length_le (by omega)]
      show Value.int .u32 (bits .xor .u32 IntKind.u32.max ((reg ones l).toNat : Int)) = _
      rw [not_int]
      rfl

theorem top_int (a : B32) : ((a.toNat : Int) / 2147483648 == 1) = a.getLsbD 31 := by
  have h := a.isLt
  rw [show a.getLsbD 31 = decide (a.toNat / 2147483648 = 1) from by
    simp only [BitVec.getLsbD, Nat.testBit, Nat.shiftRight_eq_div_pow]
    rcases Nat.lt_or_ge a.toNat 2147483648 with h1 | h1
    · rw [Nat.div_eq_of_lt (by omega)]; decide
    · rw [show a.toNat / 2 ^ 31 = 1 by omega]; decide]
  rw [Bool.eq_iff_iff]
  simp
  omega

theorem shl_int (a : B32) : (a.toNat : Int) * 2 % 4294967296 = ((a <<< 1).toNat : Int) := by
  simp only [BitVec.toNat_shiftLeft, Nat.shiftLeft_eq]
  omega

/-- What Join makes of two sums. -/
def joined (a b : B32) (n : Int) : B32 := if n < 0 ∨ n > 1048576 then 0#32 else steps (8 * n.toNat) a ^^^ b

theorem move_odd (s : B32) (h : s.toNat % 2 = 1) : bits .xor .u32 ((s.toNat : Int) / 2) 2197175160 = ((half s).toNat : Int) := by
  have e2 : (s.toNat : Int) / (2 : Int) = ((s >>> 1).toNat : Int) := by simp [Nat.shiftRight_eq_div_pow]
  have hb : s.getLsbD 0 = true := by simp [BitVec.getLsbD, Nat.testBit_zero, h]
  have := bits_xor_bv (s >>> 1) poly
  rw [e2, half, if_pos hb, ← this]
  rfl

theorem move_even (s : B32) (h : s.toNat % 2 = 0) : (s.toNat : Int) / 2 = ((half s).toNat : Int) := by
  have e2 : (s.toNat : Int) / (2 : Int) = ((s >>> 1).toNat : Int) := by simp [Nat.shiftRight_eq_div_pow]
  have hb : s.getLsbD 0 = false := by simp [BitVec.getLsbD, Nat.testBit_zero, h]
  rw [e2, half, hb]
  simp

set_option maxHeartbeats 400000 in
theorem move_any (s : B32) (w : World) :
    Calls Try.prog 109 #[.int .u32 s.toNat] w fun e w' => e = .returned (.int .u32 (steps 8 s).toNat) ∧ w = w' := by
  go_enter Try.func109, Try.ntmps109
  go_wp2
  go_loopg [0, 3] 8 (fun g v i wr => ∃ k : Nat, k + g = 8 ∧ w = wr ∧ i = .int .i64 k ∧ v = .int .u32 (steps k s).toNat)
  case atStart => exact ⟨0, rfl, rfl, rfl, rfl⟩
  case round =>
    obtain ⟨k, hk, rfl, rfl, rfl⟩ := hrel
    have hk8 : k ≤ 8 := by omega
    replace hk := Lib.hid hk
    by_cases hlt : k < 8
    · obtain ⟨t, ht⟩ : ∃ t, t = steps k s := ⟨_, rfl⟩
      have hs := Lib.hid (steps_succ' k s)
      rw [← ht]
      replace ht := Lib.hid ht
      have hb := t.isLt
      rcases Nat.mod_two_eq_zero_or_one t.toNat with hp | hp
      · have hv := Lib.hid (move_even t hp)
        have hd : ((t.toNat : Int) % 2 == 1) = false := by rw [beq_eq_false_iff_ne]; omega
        clear hp
        go_wp2
        go_roundg (gk - 1)
        case measure => have := hk.out; omega
        case rel => exact ⟨k + 1, by have := hk.out; omega, rfl, by go_num, by rw [hs.out, ← ht.out]; exact congrArg _ hv.out⟩
      · have hv := Lib.hid (move_odd t hp)
        have hd : ((t.toNat : Int) % 2 == 1) = true := by rw [beq_iff_eq]; omega
        clear hp
        go_wp2
        go_roundg (gk - 1)
        case measure => have := hk.out; omega
        case rel => exact ⟨k + 1, by have := hk.out; omega, rfl, by go_num, by rw [hs.out, ← ht.out]; exact congrArg _ hv.out⟩
    · go_wp2
      go_ret
      obtain rfl : k = 8 := by omega
      exact ⟨rfl, rfl⟩

set_option maxHeartbeats 400000 in
theorem rof_any (s : ByteArray) (w : World) (hs : s.size ≤ maxLen) :
    Calls Try.prog 100 #[.string s] w fun e w' => e = .returned (.int .u32 (crc s.data.toList).toNat) ∧ w = w' := by
  unfold maxLen at hs
  go_enter Try.func100, Try.ntmps100
  go_wp2
  go_loopg [3, 4] s.size (fun g v i wr => ∃ k : Nat, k + g = s.size ∧ w = wr ∧ i = .int .i64 k ∧ v = .int .u32 (reg ones (s.data.toList.take k)).toNat)
  case atStart => exact ⟨0, by omega, rfl, rfl, rfl⟩
  case round =>
    obtain ⟨k, hk, rfl, rfl, rfl⟩ := hrel
    have hk8 : k ≤ s.size := by omega
    replace hk := Lib.hid hk
    by_cases hlt : k < s.size
    · have hb := s[k].toNat_lt
      have hx := step_byte (reg ones (s.data.toList.take k)) s[k]
      have hn : reg ones (s.data.toList.take (k + 1)) = steps 8 (reg ones (s.data.toList.take k) ^^^ bv s[k]) := by
        rw [take_snoc _ k (by simpa using hlt), reg_snoc]; rfl
      obtain ⟨t, ht⟩ : ∃ t, t = reg ones (s.data.toList.take k) := ⟨_, rfl⟩
      rw [← ht] at hx hn ⊢
      replace hx := Lib.hid hx
      replace ht := Lib.hid ht
      replace hn := Lib.hid hn
      go_wp2_with (go_at_call 109; rw [hx.out]; refine (move_any _ _).mono ?_; rintro e w' ⟨rfl, rfl⟩)
      go_roundg (gk - 1)
      case measure => have := hk.out; omega
      case rel => exact ⟨k + 1, by have := hk.out; omega, rfl, by go_num, by rw [hn.out]⟩
    · go_wp2
      go_ret
      refine ⟨ret_val ?_, rfl⟩
      rw [List.take_of_length_le (by simpa using hlt)]
      show Value.int .u32 (bits .xor .u32 ((reg ones s.data.toList).toNat : Int) (ones.toNat : Int)) = _
      rw [bits_xor_bv, ones, BitVec.not_zero, BitVec.xor_allOnes]
      rfl

theorem le4_length (x : B32) : (le4 x).length = 4 := rfl
theorem le4_cells (x : B32) : (le4 x).map vb = [.int .u8 ((x.toNat : Int) % 256), .int .u8 ((x.toNat : Int) / 256 % 256), .int .u8 ((x.toNat : Int) / 65536 % 256), .int .u8 ((x.toNat : Int) / 16777216)] := by
  have := x.isLt
  simp only [le4, List.map_cons, List.map_nil, vb_ofNat, List.cons.injEq, Value.int.injEq, true_and, and_true]
  omega

theorem elem_u8 : Elem Try.prog 5 (.int .u8 0) 1 1 := Elem.mk (by kernel_rfl) (by rfl) (by decide)

set_option maxRecDepth 10000 in
set_option maxHeartbeats 400000 in
theorem rseal_any (s : ByteArray) (w : World) (hs : s.size ≤ 100000) :
    Calls Try.prog 79 #[.string s] w fun e w' => e = .returned (.string (str (sealed s.data.toList))) ∧ Below w.heap.size w w' := by
  have hl4 := le4_length (crc s.data.toList)
  go_enter Try.func79, Try.ntmps79
  go_wp2_with (first
    | (go_at_call 100; refine (rof_any _ _ (by unfold maxLen; omega)).mono ?_; rintro e w' ⟨rfl, rfl⟩)
    | (with_reducible refine wpList_bts (src := 127) (dst := 9) (x := .tmp 21) (l := le4 (crc s.data.toList)) rfl rfl Try.underlying127 Try.underlying5 Try.underlying9 rfl ?c1 rfl ?_))
  case c1 => exact le4_cells _ ▸ Sl.new w _ _ _
  go_ret
  refine ⟨ret_val (congrArg Value.string (str_append s _)), (Below.refl _ _).alloc (Nat.le_refl _) _⟩

theorem u8_wrap (x : B32) : (x.toNat : Int) / 16777216 % 256 = (x.toNat : Int) / 16777216 := by have := x.isLt; omega

set_option maxRecDepth 10000 in
set_option maxHeartbeats 400000 in
theorem seal_any (a : Option Addr) (l : List UInt8) (cap : Nat) (w : World) (h : Sl w a (l.map vb)) (hl : l.length ≤ 100000) :
    Calls Try.prog 98 #[.slice a l.length cap] w fun e w' => ∃ v, e = .returned v ∧ w'.ownsRow w.heap.size 5 1 v (l.length + 4) ((sealed l).map vb) ∧ Below w.heap.size w w' := by
  have H := Lib.hid h
  clear h
  have hw := Lib.hid (u8_wrap (crc l))
  have hb := (crc l).isLt
  go_enter Try.func98, Try.ntmps98
  go_wp2_with (first
    | (go_at_call 104; refine (of_any _ _ _ _ H.out (by unfold maxLen; omega)).mono ?_; rintro e w' ⟨rfl, rfl⟩)
    | (at_make; refine wpList_mk rfl rfl Try.underlying127 elem_u8 rfl rfl (l.length + 4) (by simp) (by omega) (by unfold maxLen; omega) ?_; intro w1 ho1 hg1)
    | (at_builtin; refine wpList_app (s := .tmp 10) (x := .tmp 11) rfl rfl Try.underlying127 elem_u8 ho1 rfl (Src.slice Try.underlying127 (H.out.below (below_grown hg1)) (by simp)) rfl (vb_one _) (by omega) (by unfold maxLen; omega) (hg1 none).size ?_; intro v2 w2 ho2 hB2 hg2 hv2)
    | (at_builtin; refine wpList_app (s := .tmp 13) (x := .tmp 25) rfl rfl Try.underlying127 elem_u8 (ho2.alloc _) rfl (Src.slice Try.underlying127 (Sl.new _ _ _ _) (by simp)) rfl (by simp [Value.oneCell']) (by omega) (by unfold maxLen; omega) (by have := (hg1 none).size; have := hB2.size; simp; omega) ?_; intro v3 w3 ho3 hB3 hg3 hv3))
  go_ret
  have hle := le4_cells (crc l)
  refine ⟨_, rfl, ?_, ?_⟩
  · simp only [sealed, List.map_append, hle]
    simpa [hw.out] using ho3
  · exact (((below_grown hg1).trans hB2).alloc (Nat.le_trans (hg1 none).size hB2.size) _).trans hB3

/-- What opening bytes gives. -/
def opened (l : List UInt8) : Option (List UInt8) :=
  if l.length < 4 then none else if sealed (l.take (l.length - 4)) = l then some (l.take (l.length - 4)) else none

theorem four_bits (b0 b1 b2 b3 : UInt8) : bits .or .u32 (bits .or .u32 (bits .or .u32 (b0.toNat : Int) ((b1.toNat : Int) * 256)) ((b2.toNat : Int) * 65536)) ((b3.toNat : Int) * 16777216) = ((word b0 b1 b2 b3).toNat : Int) := by
  have h0 := b0.toNat_lt; have h1 := b1.toNat_lt; have h2 := b2.toNat_lt; have h3 := b3.toNat_lt
  have e1 := u32_or_nat b0.toNat (b1.toNat * 256) (by omega) (by omega)
  rw [nat_join8' (b1.toNat * 256) b0.toNat (by omega) (by omega)] at e1
  have e2 := u32_or_nat (b1.toNat * 256 + b0.toNat) (b2.toNat * 65536) (by omega) (by omega)
  rw [nat_join16' (b2.toNat * 65536) _ (by omega) (by omega)] at e2
  have e3 := u32_or_nat (b2.toNat * 65536 + (b1.toNat * 256 + b0.toNat)) (b3.toNat * 16777216) (by omega) (by omega)
  rw [nat_join24' (b3.toNat * 16777216) _ (by omega) (by omega)] at e3
  simp only [Int.natCast_add, Int.natCast_mul, Int.cast_ofNat_Int] at e1 e2 e3
  rw [e1, e2, e3, word_toNat]
  omega

theorem four_ne (b0 b1 b2 b3 : UInt8) (x : B32) : (bits .or .u32 (bits .or .u32 (bits .or .u32 (b0.toNat : Int) ((b1.toNat : Int) * 256)) ((b2.toNat : Int) * 65536)) ((b3.toNat : Int) * 16777216) != (x.toNat : Int)) = !decide (word b0 b1 b2 b3 = x) := by
  rw [four_bits]
  by_cases e : word b0 b1 b2 b3 = x
  · rw [decide_eq_true e, e]; exact bne_self_eq_false _
  · have : (word b0 b1 b2 b3).toNat ≠ x.toNat := fun h => e (BitVec.eq_of_toNat_eq h)
    simp only [e, decide_false, Bool.not_false, bne_iff_ne, ne_eq]; omega

theorem split4 (l : List UInt8) (h : 4 ≤ l.length) : ∃ p b0 b1 b2 b3, l = p ++ [b0, b1, b2, b3] := by
  have e : (l.drop (l.length - 4)).length = 4 := by rw [List.length_drop]; omega
  have e2 := (List.take_append_drop (l.length - 4) l).symm
  generalize l.drop (l.length - 4) = q at e e2
  match q, e with
  | [b0, b1, b2, b3], _ => exact ⟨_, b0, b1, b2, b3, e2⟩

theorem le4_word (b0 b1 b2 b3 : UInt8) : le4 (word b0 b1 b2 b3) = [b0, b1, b2, b3] := by
  have h0 := b0.toNat_lt; have h1 := b1.toNat_lt; have h2 := b2.toNat_lt; have h3 := b3.toNat_lt
  simp only [le4, word_toNat, List.cons.injEq, and_true]
  refine ⟨?_, ?_, ?_, ?_⟩ <;> apply UInt8.toNat_inj.1 <;> rw [UInt8.toNat_ofNat'] <;> omega

theorem sealed_iff (p : List UInt8) (b0 b1 b2 b3 : UInt8) : sealed p = p ++ [b0, b1, b2, b3] ↔ word b0 b1 b2 b3 = crc p := by
  unfold sealed
  rw [List.append_cancel_left_eq, ← le4_word]
  constructor
  · intro h
    have := congrArg (fun q : List UInt8 => match q with | [c0, c1, c2, c3] => word c0 c1 c2 c3 | _ => 0#32) h
    simp only [le4] at this
    rw [word_le4, word_le4] at this
    exact this.symm
  · intro h; rw [h]

theorem opened_four (p : List UInt8) (b0 b1 b2 b3 : UInt8) : opened (p ++ [b0, b1, b2, b3]) = if word b0 b1 b2 b3 = crc p then some p else none := by
  have e : (p ++ [b0, b1, b2, b3]).take ((p ++ [b0, b1, b2, b3]).length - 4) = p := by simp
  unfold opened
  rw [e, if_neg (by simp)]
  simp only [sealed_iff]

theorem opened_sealed (p : List UInt8) : opened (sealed p) = some p := by
  have := opened_four p (UInt8.ofNat (crc p).toNat) (UInt8.ofNat ((crc p).toNat / 256)) (UInt8.ofNat ((crc p).toNat / 65536)) (UInt8.ofNat ((crc p).toNat / 16777216))
  rw [if_pos (word_le4 _)] at this
  exact this

theorem seal_at (a : Option Addr) (l : List UInt8) (cap : Nat) (w : World) (n : Nat) (hn : n = l.length) (h : Sl w a (l.map vb)) (hl : n ≤ 100000) :
    Calls Try.prog 98 #[.slice a n cap] w fun e w' => ∃ v, e = .returned v ∧ w'.ownsRow w.heap.size 5 1 v (n + 4) ((sealed l).map vb) ∧ Below w.heap.size w w' := by
  subst hn
  exact seal_any a l cap w h hl

theorem of_at (a : Option Addr) (l : List UInt8) (cap : Nat) (w : World) (n : Nat) (hn : n = l.length) (h : Sl w a (l.map vb)) (hl : n ≤ maxLen) :
    Calls Try.prog 104 #[.slice a n cap] w fun e w' => e = .returned (.int .u32 (crc l).toNat) ∧ w = w' := by
  subst hn
  exact of_any a l cap w h hl

end Go.Proofs.Ytlhpibniecfofaa
end

section
/- The walks of package octet (numbers, texts, truths put behind bytes) and of its reference. -/
set_option linter.unusedSimpArgs false
set_option linter.unusedVariables false
namespace Go.Proofs.Ytlhpibniecfofaa
open Go.RowKit Go.Ofp

theorem clamp_cases (n : Int) : (n < 0 ∧ clampN n = 0) ∨ (0 ≤ n ∧ n ≤ 1099511627776 ∧ (clampN n : Int) = n) ∨ (1099511627776 < n ∧ clampN n = 1099511627776) := by
  unfold clampN maxNum
  omega

set_option maxRecDepth 10000 in
set_option maxHeartbeats 1000000 in
theorem num_any (a : Option Addr) (l : List UInt8) (m cap : Nat) (n : Int) (w : World) (hm : m = l.length) (ha : Sl w a (l.map vb)) (hl : m ≤ 1000000) (hcap : m ≤ cap) :
    Calls Try.prog 97 #[.slice a m cap, .int .i64 n] w fun e w' => ∃ v, e = .returned v ∧ w'.ownsRow w.heap.size 5 1 v (m + (numB (clampN n)).length) ((l ++ numB (clampN n)).map vb) ∧ Below w.heap.size w w' := by
  replace hm := Lib.hid hm
  replace ha := Lib.hid ha
  obtain ⟨c, hc⟩ : ∃ c, c = clampN n := ⟨_, rfl⟩
  have hcl : c ≤ 1099511627776 := by rw [hc]; exact clampN_le n
  rw [← hc]
  have hcc := clamp_cases n
  rw [← hc] at hcc
  clear hc
  have hs : ∀ W : World, ∀ v : Int, True := fun _ _ => trivial
  clear hs
  rcases hcc with ⟨h0, rfl⟩ | ⟨h0, h1, rfl⟩ | ⟨h1, rfl⟩
  · go_enter Try.func97, Try.ntmps97
    go_wp2_with fail
    go_loopg [0, 5] 0 (fun gk v i wr => ∃ (d : Nat) (pre : List UInt8), d = gk ∧ d ≤ 1099511627776 ∧ i = .int .i64 d ∧ Full wr w.heap.size 5 1 v (m + pre.length) ((l ++ pre).map vb) ∧ Below w.heap.size w wr ∧ pre ++ numB d = numB 0 ∧ pre.length ≤ 6)
    case atStart => exact ⟨0, [], rfl, by decide, rfl, by simpa using Full.full ha.out (by simp [hm.out]), Below.refl _ _, rfl, by decide⟩
    case round =>
      obtain ⟨d, pre, rfl, hd, rfl, hf, hb, hpre, hpl⟩ := hrel
      have hlen := congrArg List.length hpre
      rw [List.length_append] at hlen
      have hs6 := numB_six 0 (by decide)
      replace hpre := Lib.hid hpre
      by_cases hlt : d < 128
      · rw [numB_lt d hlt] at hlen
        simp only [List.length_singleton] at hlen
        replace hlen := Lib.hid hlen
        replace hf := Lib.hid hf
        have hvb := Lib.hid (vb_small d (by omega))
        go_wp2_with (at_builtin; refine wpList_app_full (s := .tmp 25) (x := .tmp 28) rfl rfl Try.underlying127 elem_u8 (hf.out.alloc _) rfl (Src.slice Try.underlying127 (Sl.new _ _ _ _) (by simp)) rfl (by simp [Value.oneCell']) (by decide) (by omega) (by unfold maxLen; omega) (by have := hb.size; simp; omega) ?_; intro v' w' ho' hb')
        go_ret
        refine ⟨_, rfl, ?_, (hb.alloc hb.size _).trans hb'⟩
        have := hpre.out
        rw [numB_lt d hlt] at this
        have e1 : List.map vb l ++ List.map vb (numB 0) = List.map vb (l ++ pre) ++ [.int .u8 (d : Int)] := by rw [← this, ← hvb.out]; simp
        have e2 : m + (numB 0).length = m + pre.length + 1 := by rw [← this, List.length_append, Nat.add_assoc]; rfl
        rw [e1, e2]
        exact ho'
      · have hge := numB_ge d hlt
        rw [hge] at hlen
        simp only [List.length_cons] at hlen
        have hlp : 0 < (numB (d / 128)).length := by
          by_cases h : d / 128 < 128
          · rw [numB_lt _ h]; simp
          · rw [numB_ge _ h]; simp
        have hpl5 : pre.length ≤ 5 := by omega
        have hdiv : (d : Int) / (128 : Int) = ((d / 128 : Nat) : Int) := by omega
        have hor := or_high d
        have hvb := Lib.hid (vb_small (d % 128 + 128) (by omega))
        replace hlen := Lib.hid hlen
        replace hf := Lib.hid hf
        replace hge := Lib.hid hge
        replace hor := Lib.hid hor
        replace hdiv := Lib.hid hdiv
        clear hlp
        go_wp2_with (at_builtin; refine wpList_app_full (s := .tmp 17) (x := .tmp 21) rfl rfl Try.underlying127 elem_u8 (hf.out.alloc _) rfl (Src.slice Try.underlying127 (Sl.new _ _ _ _) (by simp)) rfl (by simp [Value.oneCell']) (by decide) (by omega) (by unfold maxLen; omega) (by have := hb.size; simp; omega) ?_; intro v' w' ho' hb')
        go_roundg (d / 128)
        case measure => omega
        case rel =>
          refine ⟨d / 128, pre ++ [UInt8.ofNat (d % 128 + 128)], rfl, by omega, congrArg (Value.int .i64) hdiv.out, ?_, (hb.alloc hb.size _).trans hb', ?_, by simp; omega⟩
          · refine Full.own ?_
            rw [hor.out] at ho'
            rw [← List.append_assoc, List.map_append, List.map_cons, List.map_nil, hvb.out, List.length_append, List.length_singleton, ← Nat.add_assoc]
            exact ho'
          · have := hpre.out
            rw [hge.out] at this
            rw [← this]
            simp

  · go_enter Try.func97, Try.ntmps97
    go_wp2_with fail
    go_loopg [0, 5] c (fun gk v i wr => ∃ (d : Nat) (pre : List UInt8), d = gk ∧ d ≤ 1099511627776 ∧ i = .int .i64 d ∧ Full wr w.heap.size 5 1 v (m + pre.length) ((l ++ pre).map vb) ∧ Below w.heap.size w wr ∧ pre ++ numB d = numB c ∧ pre.length ≤ 6)
    case atStart => exact ⟨c, [], rfl, hcl, rfl, by simpa using Full.full ha.out (by simp [hm.out]), Below.refl _ _, rfl, by decide⟩
    case round =>
      obtain ⟨d, pre, rfl, hd, rfl, hf, hb, hpre, hpl⟩ := hrel
      have hlen := congrArg List.length hpre
      rw [List.length_append] at hlen
      have hs6 := numB_six c hcl
      replace hpre := Lib.hid hpre
      by_cases hlt : d < 128
      · rw [numB_lt d hlt] at hlen
        simp only [List.length_singleton] at hlen
        replace hlen := Lib.hid hlen
        replace hf := Lib.hid hf
        have hvb := Lib.hid (vb_small d (by omega))
        go_wp2_with (at_builtin; refine wpList_app_full (s := .tmp 25) (x := .tmp 28) rfl rfl Try.underlying127 elem_u8 (hf.out.alloc _) rfl (Src.slice Try.underlying127 (Sl.new _ _ _ _) (by simp)) rfl (by simp [Value.oneCell']) (by decide) (by omega) (by unfold maxLen; omega) (by have := hb.size; simp; omega) ?_; intro v' w' ho' hb')
        go_ret
        refine ⟨_, rfl, ?_, (hb.alloc hb.size _).trans hb'⟩
        have := hpre.out
        rw [numB_lt d hlt] at this
        have e1 : List.map vb l ++ List.map vb (numB c) = List.map vb (l ++ pre) ++ [.int .u8 (d : Int)] := by rw [← this, ← hvb.out]; simp
        have e2 : m + (numB c).length = m + pre.length + 1 := by rw [← this, List.length_append, Nat.add_assoc]; rfl
        rw [e1, e2]
        exact ho'
      · have hge := numB_ge d hlt
        rw [hge] at hlen
        simp only [List.length_cons] at hlen
        have hlp : 0 < (numB (d / 128)).length := by
          by_cases h : d / 128 < 128
          · rw [numB_lt _ h]; simp
          · rw [numB_ge _ h]; simp
        have hpl5 : pre.length ≤ 5 := by omega
        have hdiv : (d : Int) / (128 : Int) = ((d / 128 : Nat) : Int) := by omega
        have hor := or_high d
        have hvb := Lib.hid (vb_small (d % 128 + 128) (by omega))
        replace hlen := Lib.hid hlen
        replace hf := Lib.hid hf
        replace hge := Lib.hid hge
        replace hor := Lib.hid hor
        replace hdiv := Lib.hid hdiv
        clear hlp
        go_wp2_with (at_builtin; refine wpList_app_full (s := .tmp 17) (x := .tmp 21) rfl rfl Try.underlying127 elem_u8 (hf.out.alloc _) rfl (Src.slice Try.underlying127 (Sl.new _ _ _ _) (by simp)) rfl (by simp [Value.oneCell']) (by decide) (by omega) (by unfold maxLen; omega) (by have := hb.size; simp; omega) ?_; intro v' w' ho' hb')
        go_roundg (d / 128)
        case measure => omega
        case rel =>
          refine ⟨d / 128, pre ++ [UInt8.ofNat (d % 128 + 128)], rfl, by omega, congrArg (Value.int .i64) hdiv.out, ?_, (hb.alloc hb.size _).trans hb', ?_, by simp; omega⟩
          · refine Full.own ?_
            rw [hor.out] at ho'
            rw [← List.append_assoc, List.map_append, List.map_cons, List.map_nil, hvb.out, List.length_append, List.length_singleton, ← Nat.add_assoc]
            exact ho'
          · have := hpre.out
            rw [hge.out] at this
            rw [← this]
            simp

  · go_enter Try.func97, Try.ntmps97
    go_wp2_with fail
    go_loopg [0, 5] 1099511627776 (fun gk v i wr => ∃ (d : Nat) (pre : List UInt8), d = gk ∧ d ≤ 1099511627776 ∧ i = .int .i64 d ∧ Full wr w.heap.size 5 1 v (m + pre.length) ((l ++ pre).map vb) ∧ Below w.heap.size w wr ∧ pre ++ numB d = numB 1099511627776 ∧ pre.length ≤ 6)
    case atStart => exact ⟨1099511627776, [], rfl, by decide, rfl, by simpa using Full.full ha.out (by simp [hm.out]), Below.refl _ _, rfl, by decide⟩
    case round =>
      obtain ⟨d, pre, rfl, hd, rfl, hf, hb, hpre, hpl⟩ := hrel
      have hlen := congrArg List.length hpre
      rw [List.length_append] at hlen
      have hs6 := numB_six 1099511627776 (by decide)
      replace hpre := Lib.hid hpre
      by_cases hlt : d < 128
      · rw [numB_lt d hlt] at hlen
        simp only [List.length_singleton] at hlen
        replace hlen := Lib.hid hlen
        replace hf := Lib.hid hf
        have hvb := Lib.hid (vb_small d (by omega))
        go_wp2_with (at_builtin; refine wpList_app_full (s := .tmp 25) (x := .tmp 28) rfl rfl Try.underlying127 elem_u8 (hf.out.alloc _) rfl (Src.slice Try.underlying127 (Sl.new _ _ _ _) (by simp)) rfl (by simp [Value.oneCell']) (by decide) (by omega) (by unfold maxLen; omega) (by have := hb.size; simp; omega) ?_; intro v' w' ho' hb')
        go_ret
        refine ⟨_, rfl, ?_, (hb.alloc hb.size _).trans hb'⟩
        have := hpre.out
        rw [numB_lt d hlt] at this
        have e1 : List.map vb l ++ List.map vb (numB 1099511627776) = List.map vb (l ++ pre) ++ [.int .u8 (d : Int)] := by rw [← this, ← hvb.out]; simp
        have e2 : m + (numB 1099511627776).length = m + pre.length + 1 := by rw [← this, List.length_append, Nat.add_assoc]; rfl
        rw [e1, e2]
        exact ho'
      · have hge := numB_ge d hlt
        rw [hge] at hlen
        simp only [List.length_cons] at hlen
        have hlp : 0 < (numB (d / 128)).length := by
          by_cases h : d / 128 < 128
          · rw [numB_lt _ h]; simp
          · rw [numB_ge _ h]; simp
        have hpl5 : pre.length ≤ 5 := by omega
        have hdiv : (d : Int) / (128 : Int) = ((d / 128 : Nat) : Int) := by omega
        have hor := or_high d
        have hvb := Lib.hid (vb_small (d % 128 + 128) (by omega))
        replace hlen := Lib.hid hlen
        replace hf := Lib.hid hf
        replace hge := Lib.hid hge
        replace hor := Lib.hid hor
        replace hdiv := Lib.hid hdiv
        clear hlp
        go_wp2_with (at_builtin; refine wpList_app_full (s := .tmp 17) (x := .tmp 21) rfl rfl Try.underlying127 elem_u8 (hf.out.alloc _) rfl (Src.slice Try.underlying127 (Sl.new _ _ _ _) (by simp)) rfl (by simp [Value.oneCell']) (by decide) (by omega) (by unfold maxLen; omega) (by have := hb.size; simp; omega) ?_; intro v' w' ho' hb')
        go_roundg (d / 128)
        case measure => omega
        case rel =>
          refine ⟨d / 128, pre ++ [UInt8.ofNat (d % 128 + 128)], rfl, by omega, congrArg (Value.int .i64) hdiv.out, ?_, (hb.alloc hb.size _).trans hb', ?_, by simp; omega⟩
          · refine Full.own ?_
            rw [hor.out] at ho'
            rw [← List.append_assoc, List.map_append, List.map_cons, List.map_nil, hvb.out, List.length_append, List.length_singleton, ← Nat.add_assoc]
            exact ho'
          · have := hpre.out
            rw [hge.out] at this
            rw [← this]
            simp

theorem clamp_nat (n : Nat) (h : n ≤ 1099511627776) : clampN n = n := by unfold clampN maxNum; omega

set_option maxRecDepth 10000 in
theorem rnum_any (n : Int) (w : World) (hn : -9223372036854775808 ≤ n ∧ n ≤ 9223372036854775807) :
    Calls Try.prog 78 #[.int .i64 n] w fun e w' => e = .returned (.string (str (numB (clampN n)))) ∧ Below w.heap.size w w' := by
  obtain ⟨hn0, hn1⟩ := hn
  obtain ⟨c, hc⟩ : ∃ c, c = clampN n := ⟨_, rfl⟩
  have hcl : c ≤ 1099511627776 := by rw [hc]; exact clampN_le n
  rw [← hc]
  have hcc := clamp_cases n
  rw [← hc] at hcc
  clear hc
  rcases hcc with ⟨h0, rfl⟩ | ⟨h0, h1, rfl⟩ | ⟨h1, rfl⟩
  · go_enter Try.func78, Try.ntmps78
    go_wp2_with fail
    go_loopg [3, 4] 0 (fun gk i v wr => ∃ (d : Nat) (pre : List UInt8), d = gk ∧ d ≤ 1099511627776 ∧ i = .int .i64 d ∧ v = .string (str pre) ∧ Below w.heap.size w wr ∧ pre ++ numB d = numB 0 ∧ pre.length ≤ 6)
    case atStart => exact ⟨0, [], rfl, (by decide), rfl, rfl, Below.refl _ _, rfl, by decide⟩
    case round =>
      obtain ⟨d, pre, rfl, hd, rfl, rfl, hb, hpre, hpl⟩ := hrel
      have hlen := congrArg List.length hpre
      rw [List.length_append] at hlen
      have hs6 := numB_six 0 (by decide)
      replace hpre := Lib.hid hpre
      by_cases hlt : d < 128
      · rw [numB_lt d hlt] at hlen
        simp only [List.length_singleton] at hlen
        replace hlen := Lib.hid hlen
        have hvb := vb_small d (by omega)
        have hsl : Sl (wr.alloc (.cells #[.int .u8 (d : Int)] 5)) (some ⟨wr.heap.size, 0, none⟩) ([UInt8.ofNat d].map vb) := by
          rw [List.map_singleton, hvb]; exact Sl.new wr #[.int .u8 (d : Int)] _ _
        have hsz : pre.length + 1 ≤ 9223372036854775807 := by omega
        replace hsl := Lib.hid hsl
        replace hvb := Lib.hid hvb
        go_wp2_with (with_reducible refine wpList_bts (src := 127) (dst := 9) (x := .tmp 23) (l := [UInt8.ofNat d]) rfl rfl Try.underlying127 Try.underlying5 Try.underlying9 rfl hsl.out rfl ?_)
        go_ret
        refine ⟨ret_val ?_, hb.alloc hb.size _⟩
        show Value.string (str pre ++ str [UInt8.ofNat d]) = _
        rw [str_append, str_data, ← hpre.out, numB_lt d hlt]
      · have hge := numB_ge d hlt
        rw [hge] at hlen
        simp only [List.length_cons] at hlen
        have hlp : 0 < (numB (d / 128)).length := by
          by_cases h : d / 128 < 128
          · rw [numB_lt _ h]; simp
          · rw [numB_ge _ h]; simp
        have hpl5 : pre.length ≤ 5 := by omega
        have hdiv : (d : Int) / (128 : Int) = ((d / 128 : Nat) : Int) := by omega
        have hvb := vb_small (d % 128 + 128) (by omega)
        have hmod : ((d % 128 + 128 : Nat) : Int) = (d : Int) % 128 + 128 := by omega
        have hsl : Sl (wr.alloc (.cells #[.int .u8 ((d : Int) % 128 + 128)] 5)) (some ⟨wr.heap.size, 0, none⟩) ([UInt8.ofNat (d % 128 + 128)].map vb) := by
          rw [List.map_singleton, hvb, hmod]; exact Sl.new wr #[.int .u8 ((d : Int) % 128 + 128)] _ _
        have hsz : pre.length + 1 ≤ 9223372036854775807 := by omega
        have hm0 : 0 ≤ (d : Int) % 128 := by omega
        have hm1 : (d : Int) % 128 < 128 := by omega
        replace hsl := Lib.hid hsl
        replace hvb := Lib.hid hvb
        replace hmod := Lib.hid hmod
        replace hlen := Lib.hid hlen
        replace hge := Lib.hid hge
        replace hdiv := Lib.hid hdiv
        clear hlp
        go_wp2_with (with_reducible refine wpList_bts (src := 127) (dst := 9) (x := .tmp 15) (l := [UInt8.ofNat (d % 128 + 128)]) rfl rfl Try.underlying127 Try.underlying5 Try.underlying9 rfl hsl.out rfl ?_)
        go_roundg (d / 128)
        case measure => omega
        case rel =>
          refine ⟨d / 128, pre ++ [UInt8.ofNat (d % 128 + 128)], rfl, by omega, congrArg (Value.int .i64) hdiv.out, ?_, hb.alloc hb.size _, ?_, by simp; omega⟩
          · rw [str_append, str_data, UInt8.ofNat_add (d % 128) 128]; rfl
          · have := hpre.out
            rw [hge.out] at this
            rw [← this]
            simp

  · go_enter Try.func78, Try.ntmps78
    go_wp2_with fail
    go_loopg [3, 4] c (fun gk i v wr => ∃ (d : Nat) (pre : List UInt8), d = gk ∧ d ≤ 1099511627776 ∧ i = .int .i64 d ∧ v = .string (str pre) ∧ Below w.heap.size w wr ∧ pre ++ numB d = numB c ∧ pre.length ≤ 6)
    case atStart => exact ⟨c, [], rfl, hcl, rfl, rfl, Below.refl _ _, rfl, by decide⟩
    case round =>
      obtain ⟨d, pre, rfl, hd, rfl, rfl, hb, hpre, hpl⟩ := hrel
      have hlen := congrArg List.length hpre
      rw [List.length_append] at hlen
      have hs6 := numB_six c hcl
      replace hpre := Lib.hid hpre
      by_cases hlt : d < 128
      · rw [numB_lt d hlt] at hlen
        simp only [List.length_singleton] at hlen
        replace hlen := Lib.hid hlen
        have hvb := vb_small d (by omega)
        have hsl : Sl (wr.alloc (.cells #[.int .u8 (d : Int)] 5)) (some ⟨wr.heap.size, 0, none⟩) ([UInt8.ofNat d].map vb) := by
          rw [List.map_singleton, hvb]; exact Sl.new wr #[.int .u8 (d : Int)] _ _
        have hsz : pre.length + 1 ≤ 9223372036854775807 := by omega
        replace hsl := Lib.hid hsl
        replace hvb := Lib.hid hvb
        go_wp2_with (with_reducible refine wpList_bts (src := 127) (dst := 9) (x := .tmp 23) (l := [UInt8.ofNat d]) rfl rfl Try.underlying127 Try.underlying5 Try.underlying9 rfl hsl.out rfl ?_)
        go_ret
        refine ⟨ret_val ?_, hb.alloc hb.size _⟩
        show Value.string (str pre ++ str [UInt8.ofNat d]) = _
        rw [str_append, str_data, ← hpre.out, numB_lt d hlt]
      · have hge := numB_ge d hlt
        rw [hge] at hlen
        simp only [List.length_cons] at hlen
        have hlp : 0 < (numB (d / 128)).length := by
          by_cases h : d / 128 < 128
          · rw [numB_lt _ h]; simp
          · rw [numB_ge _ h]; simp
        have hpl5 : pre.length ≤ 5 := by omega
        have hdiv : (d : Int) / (128 : Int) = ((d / 128 : Nat) : Int) := by omega
        have hvb := vb_small (d % 128 + 128) (by omega)
        have hmod : ((d % 128 + 128 : Nat) : Int) = (d : Int) % 128 + 128 := by omega
        have hsl : Sl (wr.alloc (.cells #[.int .u8 ((d : Int) % 128 + 128)] 5)) (some ⟨wr.heap.size, 0, none⟩) ([UInt8.ofNat (d % 128 + 128)].map vb) := by
          rw [List.map_singleton, hvb, hmod]; exact Sl.new wr #[.int .u8 ((d : Int) % 128 + 128)] _ _
        have hsz : pre.length + 1 ≤ 9223372036854775807 := by omega
        have hm0 : 0 ≤ (d : Int) % 128 := by omega
        have hm1 : (d : Int) % 128 < 128 := by omega
        replace hsl := Lib.hid hsl
        replace hvb := Lib.hid hvb
        replace hmod := Lib.hid hmod
        replace hlen := Lib.hid hlen
        replace hge := Lib.hid hge
        replace hdiv := Lib.hid hdiv
        clear hlp
        go_wp2_with (with_reducible refine wpList_bts (src := 127) (dst := 9) (x := .tmp 15) (l := [UInt8.ofNat (d % 128 + 128)]) rfl rfl Try.underlying127 Try.underlying5 Try.underlying9 rfl hsl.out rfl ?_)
        go_roundg (d / 128)
        case measure => omega
        case rel =>
          refine ⟨d / 128, pre ++ [UInt8.ofNat (d % 128 + 128)], rfl, by omega, congrArg (Value.int .i64) hdiv.out, ?_, hb.alloc hb.size _, ?_, by simp; omega⟩
          · rw [str_append, str_data, UInt8.ofNat_add (d % 128) 128]; rfl
          · have := hpre.out
            rw [hge.out] at this
            rw [← this]
            simp

  · go_enter Try.func78, Try.ntmps78
    go_wp2_with fail
    go_loopg [3, 4] 1099511627776 (fun gk i v wr => ∃ (d : Nat) (pre : List UInt8), d = gk ∧ d ≤ 1099511627776 ∧ i = .int .i64 d ∧ v = .string (str pre) ∧ Below w.heap.size w wr ∧ pre ++ numB d = numB 1099511627776 ∧ pre.length ≤ 6)
    case atStart => exact ⟨1099511627776, [], rfl, (by decide), rfl, rfl, Below.refl _ _, rfl, by decide⟩
    case round =>
      obtain ⟨d, pre, rfl, hd, rfl, rfl, hb, hpre, hpl⟩ := hrel
      have hlen := congrArg List.length hpre
      rw [List.length_append] at hlen
      have hs6 := numB_six 1099511627776 (by decide)
      replace hpre := Lib.hid hpre
      by_cases hlt : d < 128
      · rw [numB_lt d hlt] at hlen
        simp only [List.length_singleton] at hlen
        replace hlen := Lib.hid hlen
        have hvb := vb_small d (by omega)
        have hsl : Sl (wr.alloc (.cells #[.int .u8 (d : Int)] 5)) (some ⟨wr.heap.size, 0, none⟩) ([UInt8.ofNat d].map vb) := by
          rw [List.map_singleton, hvb]; exact Sl.new wr #[.int .u8 (d : Int)] _ _
        have hsz : pre.length + 1 ≤ 9223372036854775807 := by omega
        replace hsl := Lib.hid hsl
        replace hvb := Lib.hid hvb
        go_wp2_with (with_reducible refine wpList_bts (src := 127) (dst := 9) (x := .tmp 23) (l := [UInt8.ofNat d]) rfl rfl Try.underlying127 Try.underlying5 Try.underlying9 rfl hsl.out rfl ?_)
        go_ret
        refine ⟨ret_val ?_, hb.alloc hb.size _⟩
        show Value.string (str pre ++ str [UInt8.ofNat d]) = _
        rw [str_append, str_data, ← hpre.out, numB_lt d hlt]
      · have hge := numB_ge d hlt
        rw [hge] at hlen
        simp only [List.length_cons] at hlen
        have hlp : 0 < (numB (d / 128)).length := by
          by_cases h : d / 128 < 128
          · rw [numB_lt _ h]; simp
          · rw [numB_ge _ h]; simp
        have hpl5 : pre.length ≤ 5 := by omega
        have hdiv : (d : Int) / (128 : Int) = ((d / 128 : Nat) : Int) := by omega
        have hvb := vb_small (d % 128 + 128) (by omega)
        have hmod : ((d % 128 + 128 : Nat) : Int) = (d : Int) % 128 + 128 := by omega
        have hsl : Sl (wr.alloc (.cells #[.int .u8 ((d : Int) % 128 + 128)] 5)) (some ⟨wr.heap.size, 0, none⟩) ([UInt8.ofNat (d % 128 + 128)].map vb) := by
          rw [List.map_singleton, hvb, hmod]; exact Sl.new wr #[.int .u8 ((d : Int) % 128 + 128)] _ _
        have hsz : pre.length + 1 ≤ 9223372036854775807 := by omega
        have hm0 : 0 ≤ (d : Int) % 128 := by omega
        have hm1 : (d : Int) % 128 < 128 := by omega
        replace hsl := Lib.hid hsl
        replace hvb := Lib.hid hvb
        replace hmod := Lib.hid hmod
        replace hlen := Lib.hid hlen
        replace hge := Lib.hid hge
        replace hdiv := Lib.hid hdiv
        clear hlp
        go_wp2_with (with_reducible refine wpList_bts (src := 127) (dst := 9) (x := .tmp 15) (l := [UInt8.ofNat (d % 128 + 128)]) rfl rfl Try.underlying127 Try.underlying5 Try.underlying9 rfl hsl.out rfl ?_)
        go_roundg (d / 128)
        case measure => omega
        case rel =>
          refine ⟨d / 128, pre ++ [UInt8.ofNat (d % 128 + 128)], rfl, by omega, congrArg (Value.int .i64) hdiv.out, ?_, hb.alloc hb.size _, ?_, by simp; omega⟩
          · rw [str_append, str_data, UInt8.ofNat_add (d % 128) 128]; rfl
          · have := hpre.out
            rw [hge.out] at this
            rw [← this]
            simp

end Go.Proofs.Ytlhpibniecfofaa
end

section
/- The walks of disks: what lies in memory; ready, step. -/
set_option linter.unusedSimpArgs false
set_option linter.unusedVariables false
namespace Go.Proofs.Ytlhpibniecfofaa
open Go.RowKit Go.Ofp
set_option linter.unusedVariables false
set_option maxRecDepth 100000
set_option maxHeartbeats 4000000

def scRow (s : Sc) : List Value := s.b.map vb ++ [.bool s.bad]
def wtRow (w : Wt) : List Value := .int .i64 w.place :: (w.b.map vb ++ [.bool false])
def dkRow (sv wv : Value) (d : Dk) : Array Value := #[sv, wv, .int .i64 d.fuse, .bool d.dead]
/-- A disk in memory. -/
def dks (bd : Nat) (sv wv : Value) (d : Dk) : List Ch :=
  [Ch.blk bd 117 #[sv, wv, .int .i64 d.fuse, .bool d.dead], Ch.row 122 65 sv d.sec.length (d.sec.map scRow).flatten, Ch.row 125 66 wv d.wait.length (d.wait.map wtRow).flatten]

theorem ready_nil (i : Int) (w : World) : Calls Try.prog 71 #[.pointer none, .int .i64 i] w fun e w' => e = .returned (.int .i64 14) ∧ w = w' := by
  go_enter Try.func71, Try.ntmps71
  go_wp2_with fail
  go_ret
  exact ⟨rfl, rfl⟩

theorem ready_any (bd : Nat) (sv wv : Value) (d : Dk) (i : Int) (w : World) (h : St w (feet (dks bd sv wv d)) (dks bd sv wv d) w) :
    Calls Try.prog 71 #[.pointer (some ⟨bd, 0, none⟩), .int .i64 i] w fun e w' => e = .returned (.int .i64 (d.ready i)) ∧ w = w' := by
  obtain ⟨a, cap, rfl, -⟩ := h.row 1 rfl
  have c := h.cell 0 rfl
  unfold Dk.ready
  clear h
  generalize d.sec.length = n at c ⊢
  generalize d.dead = dead at c ⊢
  cases dead with
  | true =>
    go_enter Try.func71, Try.ntmps71
    go_wp2_with fail
    go_ret
    exact ⟨rfl, rfl⟩
  | false =>
    rw [if_neg (by simp)]
    by_cases h1 : i < 0
    · rw [if_pos (.inl h1)]
      go_enter Try.func71, Try.ntmps71
      go_wp2_with fail
      go_ret
      exact ⟨rfl, rfl⟩
    · by_cases h2 : (n : Int) ≤ i
      · rw [if_pos (.inr h2)]
        go_enter Try.func71, Try.ntmps71
        go_wp2_with fail
        go_ret
        exact ⟨rfl, rfl⟩
      · rw [if_neg (by omega)]
        go_enter Try.func71, Try.ntmps71
        go_wp2_with fail
        go_ret
        exact ⟨rfl, rfl⟩

theorem step_any (bd : Nat) (sv wv : Value) (d : Dk) (w : World) (h : St w (feet (dks bd sv wv d)) (dks bd sv wv d) w) (hf : -9223372036854775808 ≤ d.fuse ∧ d.fuse ≤ 9223372036854775807) :
    Calls Try.prog 72 #[.pointer (some ⟨bd, 0, none⟩)] w fun e w' => e = .returned (.bool (!d.step.dead)) ∧ St w (feet (dks bd sv wv d)) (dks bd sv wv d.step) w' := by
  generalize feet (dks bd sv wv d) = F at h ⊢
  have hS := h
  clear h
  unfold dks at hS ⊢
  rw [Dk.step_sec, Dk.step_wait]
  unfold Dk.step
  obtain ⟨sec, wait, fuse, dead⟩ := d
  simp only at hS hf ⊢
  generalize (List.map scRow sec).flatten = R1 at hS ⊢
  generalize (List.map wtRow wait).flatten = R2 at hS ⊢
  by_cases h0 : fuse = 0
  · subst h0
    go_enter Try.func72, Try.ntmps72
    go_wp2_with (first | (with_reducible refine wpList_box_st hS rfl rfl rfl ?_; intro g1 w1 hS1; clear hS; replace hS := hS1; clear hS1) | (with_reducible refine wpList_box1_st hS rfl rfl rfl ?_; intro g1 w1 hS1; clear hS; replace hS := hS1; clear hS1) | (with_reducible refine wpList_alloc_st hS rfl rfl (by assumption) ?_; intro g1 w1 hS1; clear hS; replace hS := hS1; clear hS1) | (with_reducible refine wpList_alloc1_st hS rfl rfl (by assumption) rfl ?_; intro g1 w1 hS1; clear hS; replace hS := hS1; clear hS1) | ((with_reducible refine wpList_load_st 0 hS rfl rfl rfl rfl ?_ rfl ?_); focus (simp [scalarB, go_sem]; done)) | ((with_reducible refine wpList_loadall_st 0 hS rfl rfl rfl rfl ?_ (by kernel_rfl) ?_); focus (simp [rowB, go_sem]; done)) | ((with_reducible refine wpList_store_st 0 hS rfl rfl rfl rfl (by kernel_rfl) rfl rfl ?_); intro w1 hS1; clear hS; replace hS := hS1; clear hS1; try simp only [List.set_cons_zero, List.set_cons_succ, List.setIfInBounds_toArray, List.take_succ_cons, List.take_zero, List.drop_succ_cons, List.drop_zero, List.nil_append, List.cons_append, List.append_nil, List.drop_nil, List.take_nil, List.length_cons, List.length_nil, Nat.zero_add, Nat.add_zero, Nat.reduceAdd] at hS) | ((with_reducible refine wpList_storerow_st 0 hS rfl rfl rfl rfl (by kernel_rfl) rfl rfl rfl rfl ?_); intro w1 hS1; clear hS; replace hS := hS1; clear hS1; try simp only [List.set_cons_zero, List.set_cons_succ, List.setIfInBounds_toArray, List.take_succ_cons, List.take_zero, List.drop_succ_cons, List.drop_zero, List.nil_append, List.cons_append, List.append_nil, List.drop_nil, List.take_nil, List.length_cons, List.length_nil, Nat.zero_add, Nat.add_zero, Nat.reduceAdd] at hS))
    go_ret
    exact ⟨rfl, hS⟩
  · rw [if_neg h0]
    have b0 : (fuse == 0) = false := by rw [beq_eq_false_iff_ne]; exact h0
    by_cases h1 : 0 < fuse
    · rw [if_pos h1]
      have hw : IntKind.i64.wrap (fuse - 1) = fuse - 1 := IntWalk.i64_in _ (by omega)
      clear h0
      go_enter Try.func72, Try.ntmps72
      go_wp2_with (first | (with_reducible refine wpList_box_st hS rfl rfl rfl ?_; intro g1 w1 hS1; clear hS; replace hS := hS1; clear hS1) | (with_reducible refine wpList_box1_st hS rfl rfl rfl ?_; intro g1 w1 hS1; clear hS; replace hS := hS1; clear hS1) | (with_reducible refine wpList_alloc_st hS rfl rfl (by assumption) ?_; intro g1 w1 hS1; clear hS; replace hS := hS1; clear hS1) | (with_reducible refine wpList_alloc1_st hS rfl rfl (by assumption) rfl ?_; intro g1 w1 hS1; clear hS; replace hS := hS1; clear hS1) | ((with_reducible refine wpList_load_st 0 hS rfl rfl rfl rfl ?_ rfl ?_); focus (simp [scalarB, go_sem]; done)) | ((with_reducible refine wpList_loadall_st 0 hS rfl rfl rfl rfl ?_ (by kernel_rfl) ?_); focus (simp [rowB, go_sem]; done)) | ((with_reducible refine wpList_store_st 0 hS rfl rfl rfl rfl (by kernel_rfl) rfl rfl ?_); intro w1 hS1; clear hS; replace hS := hS1; clear hS1; try simp only [List.set_cons_zero, List.set_cons_succ, List.setIfInBounds_toArray, List.take_succ_cons, List.take_zero, List.drop_succ_cons, List.drop_zero, List.nil_append, List.cons_append, List.append_nil, List.drop_nil, List.take_nil, List.length_cons, List.length_nil, Nat.zero_add, Nat.add_zero, Nat.reduceAdd] at hS) | ((with_reducible refine wpList_storerow_st 0 hS rfl rfl rfl rfl (by kernel_rfl) rfl rfl rfl rfl ?_); intro w1 hS1; clear hS; replace hS := hS1; clear hS1; try simp only [List.set_cons_zero, List.set_cons_succ, List.setIfInBounds_toArray, List.take_succ_cons, List.take_zero, List.drop_succ_cons, List.drop_zero, List.nil_append, List.cons_append, List.append_nil, List.drop_nil, List.take_nil, List.length_cons, List.length_nil, Nat.zero_add, Nat.add_zero, Nat.reduceAdd] at hS))
      go_ret
      exact ⟨rfl, hS⟩
    · rw [if_neg h1]
      clear h0
      have h2 : fuse ≤ 0 := by omega
      clear h1
      go_enter Try.func72, Try.ntmps72
      go_wp2_with (first | (with_reducible refine wpList_box_st hS rfl rfl rfl ?_; intro g1 w1 hS1; clear hS; replace hS := hS1; clear hS1) | (with_reducible refine wpList_box1_st hS rfl rfl rfl ?_; intro g1 w1 hS1; clear hS; replace hS := hS1; clear hS1) | (with_reducible refine wpList_alloc_st hS rfl rfl (by assumption) ?_; intro g1 w1 hS1; clear hS; replace hS := hS1; clear hS1) | (with_reducible refine wpList_alloc1_st hS rfl rfl (by assumption) rfl ?_; intro g1 w1 hS1; clear hS; replace hS := hS1; clear hS1) | ((with_reducible refine wpList_load_st 0 hS rfl rfl rfl rfl ?_ rfl ?_); focus (simp [scalarB, go_sem]; done)) | ((with_reducible refine wpList_loadall_st 0 hS rfl rfl rfl rfl ?_ (by kernel_rfl) ?_); focus (simp [rowB, go_sem]; done)) | ((with_reducible refine wpList_store_st 0 hS rfl rfl rfl rfl (by kernel_rfl) rfl rfl ?_); intro w1 hS1; clear hS; replace hS := hS1; clear hS1; try simp only [List.set_cons_zero, List.set_cons_succ, List.setIfInBounds_toArray, List.take_succ_cons, List.take_zero, List.drop_succ_cons, List.drop_zero, List.nil_append, List.cons_append, List.append_nil, List.drop_nil, List.take_nil, List.length_cons, List.length_nil, Nat.zero_add, Nat.add_zero, Nat.reduceAdd] at hS) | ((with_reducible refine wpList_storerow_st 0 hS rfl rfl rfl rfl (by kernel_rfl) rfl rfl rfl rfl ?_); intro w1 hS1; clear hS; replace hS := hS1; clear hS1; try simp only [List.set_cons_zero, List.set_cons_succ, List.setIfInBounds_toArray, List.take_succ_cons, List.take_zero, List.drop_succ_cons, List.drop_zero, List.nil_append, List.cons_append, List.append_nil, List.drop_nil, List.take_nil, List.length_cons, List.length_nil, Nat.zero_add, Nat.add_zero, Nat.reduceAdd] at hS))
      go_ret
      exact ⟨rfl, hS⟩

end Go.Proofs.Ytlhpibniecfofaa
end

section
/- The walks of disks: made, asked, fused. -/
set_option linter.unusedSimpArgs false
set_option linter.unusedVariables false
namespace Go.Proofs.Ytlhpibniecfofaa
open Go.RowKit Go.Ofp
set_option linter.unusedVariables false
set_option maxRecDepth 100000
set_option maxHeartbeats 4000000

def scZero : List Value := List.replicate 64 (Value.int .u8 0) ++ [.bool false]
theorem elem_sc : Elem Try.prog 122 (.agg scZero.toArray) 65 65 := Elem.mk (by kernel_rfl) (by rfl) (by decide)
theorem elem_wt : Elem Try.prog 125 (.agg (Value.int .i64 0 :: scZero).toArray) 66 80 := Elem.mk (by kernel_rfl) (by rfl) (by decide)

theorem scRow_zero : scRow ⟨List.replicate 64 0, false⟩ = scZero := by simp [scRow, scZero, vb]
theorem scRow_length (s : Sc) (h : s.b.length = 64) : (scRow s).length = 65 := by simp [scRow, h]
theorem wtRow_length (s : Wt) (h : s.b.length = 64) : (wtRow s).length = 66 := by simp [wtRow, h]

theorem new_nil (n : Int) (w : World) (h : n < 1 ∨ 2048 < n) : Calls Try.prog 11 #[.int .i64 n] w fun e w' => e = .returned (.pointer none) ∧ w = w' := by
  rcases h with h | h
  · go_enter Try.func11, Try.ntmps11
    go_wp2_with fail
    go_ret
    exact ⟨rfl, rfl⟩
  · have h' : 1 ≤ n := by omega
    go_enter Try.func11, Try.ntmps11
    go_wp2_with fail
    go_ret
    exact ⟨rfl, rfl⟩

theorem new_any (n : Nat) (w : World) (h1 : 1 ≤ n) (h2 : n ≤ 2048) : Calls Try.prog 11 #[.int .i64 n] w fun e w' => ∃ bd sv wv, e = .returned (.pointer (some ⟨bd, 0, none⟩)) ∧ St w [] (dks bd sv wv (Dk.new n)) w' := by
  have hS := St.start w
  go_enter Try.func11, Try.ntmps11
  go_wp2_with (first
    | (with_reducible refine wpList_box_st hS rfl rfl rfl ?_; intro g1 w1 hS1; clear hS; replace hS := hS1; clear hS1) | (with_reducible refine wpList_box1_st hS rfl rfl rfl ?_; intro g1 w1 hS1; clear hS; replace hS := hS1; clear hS1) | (with_reducible refine wpList_alloc_st hS rfl rfl (by assumption) ?_; intro g1 w1 hS1; clear hS; replace hS := hS1; clear hS1) | (with_reducible refine wpList_alloc1_st hS rfl rfl (by assumption) rfl ?_; intro g1 w1 hS1; clear hS; replace hS := hS1; clear hS1)
    | (at_make; refine wpList_mkfull_st hS rfl rfl Try.underlying114 elem_sc rfl rfl n rfl rfl (by omega) (by unfold maxLen; omega) ?_; intro g2 w3 hS1; clear hS; have hS := hS1; clear hS1))
  go_ret
  refine ⟨g1, .slice (some ⟨g2, 0, none⟩) n n, .slice none 0 0, rfl, ?_⟩
  have hk := ((hS.nilrow 125 66).rot3)
  have e : (madeCells (Value.agg scZero.toArray).cells (n * 65)).toList = ((Dk.new n).sec.map scRow).flatten := by
    have := made_rows scZero n (by decide)
    rw [show (Dk.new n).sec.map scRow = List.replicate n scZero by simp only [Dk.new, List.map_replicate, scRow_zero]]
    exact this
  rw [e] at hk
  unfold dks
  rw [show (Dk.new n).sec.length = n by simp [Dk.new]]
  exact hk

theorem size_nil (w : World) : Calls Try.prog 23 #[.pointer none] w fun e w' => e = .returned (.int .i64 0) ∧ w = w' := by
  go_enter Try.func23, Try.ntmps23
  go_wp2_with fail
  go_ret
  exact ⟨rfl, rfl⟩
theorem size_any (bd : Nat) (sv wv : Value) (d : Dk) (w : World) (h : St w (feet (dks bd sv wv d)) (dks bd sv wv d) w) :
    Calls Try.prog 23 #[.pointer (some ⟨bd, 0, none⟩)] w fun e w' => e = .returned (.int .i64 d.sec.length) ∧ w = w' := by
  obtain ⟨a, cap, rfl, -⟩ := h.row 1 rfl
  have c := h.cell 0 rfl
  clear h
  go_enter Try.func23, Try.ntmps23
  go_wp2_with fail
  go_ret
  exact ⟨rfl, rfl⟩

theorem dead_nil (w : World) : Calls Try.prog 24 #[.pointer none] w fun e w' => e = .returned (.bool true) ∧ w = w' := by
  go_enter Try.func24, Try.ntmps24
  go_wp2_with fail
  go_ret
  exact ⟨rfl, rfl⟩
theorem dead_any (bd : Nat) (sv wv : Value) (d : Dk) (w : World) (h : St w (feet (dks bd sv wv d)) (dks bd sv wv d) w) :
    Calls Try.prog 24 #[.pointer (some ⟨bd, 0, none⟩)] w fun e w' => e = .returned (.bool d.dead) ∧ w = w' := by
  have c := h.cell 0 rfl
  clear h
  go_enter Try.func24, Try.ntmps24
  go_wp2_with fail
  go_ret
  exact ⟨rfl, rfl⟩

theorem waiting_nil (w : World) : Calls Try.prog 25 #[.pointer none] w fun e w' => e = .returned (.int .i64 0) ∧ w = w' := by
  go_enter Try.func25, Try.ntmps25
  go_wp2_with fail
  go_ret
  exact ⟨rfl, rfl⟩
theorem waiting_any (bd : Nat) (sv wv : Value) (d : Dk) (w : World) (h : St w (feet (dks bd sv wv d)) (dks bd sv wv d) w) :
    Calls Try.prog 25 #[.pointer (some ⟨bd, 0, none⟩)] w fun e w' => e = .returned (.int .i64 d.wait.length) ∧ w = w' := by
  obtain ⟨a, cap, rfl, -⟩ := h.row 2 rfl
  have c := h.cell 0 rfl
  clear h
  go_enter Try.func25, Try.ntmps25
  go_wp2_with fail
  go_ret
  exact ⟨rfl, rfl⟩

theorem fuse_nil (n : Int) (w : World) : Calls Try.prog 20 #[.pointer none, .int .i64 n] w fun e w' => e = .returned (.tuple #[]) ∧ w = w' := by
  go_enter Try.func20, Try.ntmps20
  go_wp2_with fail
  exact bodyPost_end (results_none rfl _ _ _) rfl ⟨rfl, rfl⟩
theorem fuse_any (bd : Nat) (sv wv : Value) (d : Dk) (n : Int) (w : World) (h : St w (feet (dks bd sv wv d)) (dks bd sv wv d) w) :
    Calls Try.prog 20 #[.pointer (some ⟨bd, 0, none⟩), .int .i64 n] w fun e w' => e = .returned (.tuple #[]) ∧ St w (feet (dks bd sv wv d)) (dks bd sv wv { d with fuse := n }) w' := by
  generalize feet (dks bd sv wv d) = F at h ⊢
  have hS := h
  clear h
  unfold dks at hS ⊢
  obtain ⟨sec, wait, fuse, dead⟩ := d
  simp only at hS ⊢
  go_enter Try.func20, Try.ntmps20
  go_wp2_with (first | (with_reducible refine wpList_box_st hS rfl rfl rfl ?_; intro g1 w1 hS1; clear hS; replace hS := hS1; clear hS1) | (with_reducible refine wpList_box1_st hS rfl rfl rfl ?_; intro g1 w1 hS1; clear hS; replace hS := hS1; clear hS1) | (with_reducible refine wpList_alloc_st hS rfl rfl (by assumption) ?_; intro g1 w1 hS1; clear hS; replace hS := hS1; clear hS1) | (with_reducible refine wpList_alloc1_st hS rfl rfl (by assumption) rfl ?_; intro g1 w1 hS1; clear hS; replace hS := hS1; clear hS1) | ((with_reducible refine wpList_load_st 0 hS rfl rfl rfl rfl ?_ rfl ?_); focus (simp [scalarB, go_sem]; done)) | ((with_reducible refine wpList_loadall_st 0 hS rfl rfl rfl rfl ?_ (by kernel_rfl) ?_); focus (simp [rowB, go_sem]; done)) | ((with_reducible refine wpList_store_st 0 hS rfl rfl rfl rfl (by kernel_rfl) rfl rfl ?_); intro w1 hS1; clear hS; replace hS := hS1; clear hS1; try simp only [List.set_cons_zero, List.set_cons_succ, List.setIfInBounds_toArray, List.take_succ_cons, List.take_zero, List.drop_succ_cons, List.drop_zero, List.nil_append, List.cons_append, List.append_nil, List.drop_nil, List.take_nil, List.length_cons, List.length_nil, Nat.zero_add, Nat.add_zero, Nat.reduceAdd] at hS) | ((with_reducible refine wpList_storerow_st 0 hS rfl rfl rfl rfl (by kernel_rfl) rfl rfl rfl rfl ?_); intro w1 hS1; clear hS; replace hS := hS1; clear hS1; try simp only [List.set_cons_zero, List.set_cons_succ, List.setIfInBounds_toArray, List.take_succ_cons, List.take_zero, List.drop_succ_cons, List.drop_zero, List.nil_append, List.cons_append, List.append_nil, List.drop_nil, List.take_nil, List.length_cons, List.length_nil, Nat.zero_add, Nat.add_zero, Nat.reduceAdd] at hS))
  exact bodyPost_end (results_none rfl _ _ _) rfl ⟨rfl, hS⟩

end Go.Proofs.Ytlhpibniecfofaa
end

section
/- The walk of Write. -/
set_option linter.unusedSimpArgs false
set_option linter.unusedVariables false
namespace Go.Proofs.Ytlhpibniecfofaa
open Go.RowKit Go.Ofp
set_option linter.unusedVariables false
set_option maxRecDepth 100000
set_option maxHeartbeats 4000000

theorem build_wt (i : Int) (w : World) : (Instr.build 125 #[(0, .int .i64 i)]).run Try.prog w = .ok (.agg (Value.int .i64 i :: scZero).toArray) w := by kernel_rfl
theorem wt_one (i : Int) : (Value.int .i64 i :: scZero).all Value.oneCell' = true := by simp [scZero, Value.oneCell']
theorem wt_len (i : Int) : (Value.int .i64 i :: scZero).length = 66 := by simp [scZero]
theorem elem_byte : Elem Try.prog 5 (.int .u8 0) 1 1 := Elem.mk (by kernel_rfl) (by rfl) (by decide)

theorem wt_copied (i : Int) (b : ByteArray) (h : b.size = 64) : ((Value.int .i64 i :: scZero).toArray.toList.take 1 ++ b.data.toList.map vb ++ (Value.int .i64 i :: scZero).toArray.toList.drop (1 + b.size)).toArray = (wtRow ⟨i, b.data.toList⟩).toArray := by
  rw [h]
  simp [wtRow, scZero]

theorem wt_stored (i : Int) : ((Value.int .i64 0 :: scZero).toArray.toList.take 0 ++ (Value.int .i64 i :: scZero) ++ (Value.int .i64 0 :: scZero).toArray.toList.drop (0 + 66)).toArray = (Value.int .i64 i :: scZero).toArray := by
  simp [scZero]

theorem wt_rowone (x : Wt) : ∀ u ∈ (wtRow x).toArray.toList, u.oneCell' = true := by
  intro u hu
  simp only [wtRow, List.mem_cons, List.mem_append, List.mem_map, List.not_mem_nil, or_false] at hu
  rcases hu with rfl | ⟨_, _, rfl⟩ | rfl <;> rfl

theorem write_main (bd : Nat) (sv wv : Value) (d : Dk) (i : Int) (b : ByteArray) (w : World) (h : St w (feet (dks bd sv wv d)) (dks bd sv wv d) w) (hr : d.ready i = 0) (hb : b.size = 64) (hw : d.wait.length ≤ 100000) (hf : -9223372036854775808 ≤ d.fuse ∧ d.fuse ≤ 9223372036854775807) :
    Calls Try.prog 17 #[.pointer (some ⟨bd, 0, none⟩), .int .i64 i, .string b] w fun e w' => e = .returned (.int .i64 (d.write i b.data.toList).2) ∧ ∃ wv', St w (feet (dks bd sv wv d)) (dks bd sv wv' (d.write i b.data.toList).1) w' := by
  have cR := ready_any bd sv wv d i w h
  rw [hr] at cR
  have hbl : b.data.toList.length = 64 := by rw [← ba_size]; exact hb
  have hd : d.write i b.data.toList = (Dk.step { d with wait := d.wait ++ [⟨i, b.data.toList⟩] }, if (Dk.step { d with wait := d.wait ++ [⟨i, b.data.toList⟩] }).dead then 15 else 0) := by rw [Dk.write, if_pos hr, if_pos hbl]
  rw [hd]
  have cS := fun (wv' : Value) (W : World) k => step_any bd sv wv' { d with wait := d.wait ++ [⟨i, b.data.toList⟩] } W k hf
  generalize Dk.step { d with wait := d.wait ++ [⟨i, b.data.toList⟩] } = d2 at cS ⊢
  obtain ⟨sd, hsd⟩ : ∃ x, d2.dead = x := ⟨_, rfl⟩
  simp only [hsd] at cS ⊢
  replace hsd := Lib.hid hsd
  have hcp := wt_copied i b hb
  have ez := elem_wt
  generalize feet (dks bd sv wv d) = F at h ⊢
  have hS := h
  clear h hr hd hf
  unfold dks at hS
  replace cR := Lib.hid cR
  replace cS := Lib.hid cS
  replace hcp := Lib.hid hcp
  replace hbl := Lib.hid hbl
  go_enter Try.func17, Try.ntmps17
  go_wp2_with (first
    | (go_at_call 71; (with_reducible refine cR.out.mono ?_); rintro _ _ ⟨rfl, rfl⟩)
    | ((with_reducible refine wpList_build1 rfl rfl (.int .i64 i) rfl (build_wt i) ?_))
    | ((with_reducible refine wpList_alloc_st hS rfl rfl (by assumption) ?_); intro g1 w1 hS1; clear hS; have hS := hS1; clear hS1)
    | ((with_reducible refine wpList_storerow_st 0 (vs := Value.int .i64 i :: scZero) (n := 66) hS rfl rfl rfl rfl (by kernel_rfl) rfl (wt_len i) (wt_one i) rfl ?_); intro w1 hS1; clear hS; simp only [List.set_cons_zero] at hS1; rw [wt_stored] at hS1; have hS := hS1; clear hS1)
    | ((with_reducible refine wpList_copytext_st 0 (b := b) hS rfl rfl rfl Try.underlying127 elem_byte Try.underlying9 rfl rfl (by omega) (by rw [hb]; simp [scZero]) ?_); intro w1 hS1; clear hS; simp only [List.set_cons_zero] at hS1; rw [hcp.out] at hS1; have hS := hS1; clear hS1))
  have hwl := wtRow_length ⟨i, b.data.toList⟩ hbl.out
  have hsz : sizeB Try.prog 125 (wtRow ⟨i, b.data.toList⟩).toArray.size = true := by rw [List.size_toArray, hwl]; kernel_rfl
  replace hwl := Lib.hid hwl
  have hrow : rowB Try.prog 125 = true := by simp [rowB, go_sem]
  refine mixs_beginE (by kernel_rfl) hS ?_
  clear hS
  intro w2 hS hC
  refine mixs_take 0 (v := ?_) rfl (by kernel_rfl) (fun _ _ _ h => h) (by kernel_rfl) (by assumption) (fun s => ?hy) ?_; case hy => (go_simp <;> with_reducible rfl)
  try simp only [List.getElem_toArray, List.getElem_cons_succ, List.getElem_cons_zero, Act.put, List.setIfInBounds_toArray, List.set_cons_zero, List.set_cons_succ]
  refine mixs_take 1 (v := ?_) rfl (by kernel_rfl) (fun _ _ _ h => h) (by kernel_rfl) (by assumption) (fun s => ?hy) ?_; case hy => (go_simp <;> with_reducible rfl)
  try simp only [List.getElem_toArray, List.getElem_cons_succ, List.getElem_cons_zero, Act.put, List.setIfInBounds_toArray, List.set_cons_zero, List.set_cons_succ]
  refine mixs_take 2 (v := ?_) rfl (by kernel_rfl) (fun _ _ _ h => h) (by kernel_rfl) (by assumption) (fun s => ?hy) ?_; case hy => (go_simp <;> with_reducible rfl)
  try simp only [List.getElem_toArray, List.getElem_cons_succ, List.getElem_cons_zero, Act.put, List.setIfInBounds_toArray, List.set_cons_zero, List.set_cons_succ]
  refine mixs_take 3 (v := ?_) rfl (by kernel_rfl) (fun _ _ _ h => h) (by kernel_rfl) (by assumption) (fun s => ?hy) ?_; case hy => (go_simp <;> with_reducible rfl)
  try simp only [List.getElem_toArray, List.getElem_cons_succ, List.getElem_cons_zero, Act.put, List.setIfInBounds_toArray, List.set_cons_zero, List.set_cons_succ]
  refine mixs_two 4 5 (by kernel_rfl) rfl rfl (fun K hK => ?_) (fun K hK => ?_)
  ·
    refine op_load_st (by kernel_rfl) 1 hS rfl rfl rfl (by simp [scalarB, go_sem]) rfl ?_
    try clear hC
    refine hK.out _ _ _ (fun _ h => h) (by first | exact hS | exact hS.drop | exact hS.drop.drop | exact hS.drop.drop.drop | exact hS.drop.drop.drop.drop | exact hS.empty | exact hS.one 0 rfl | exact hS.one 1 rfl | exact hS.one 2 rfl | exact hS.one 3 rfl | exact hS.one 4 rfl | exact hS.one 5 rfl | exact hS.one 6 rfl | exact hS.one 7 rfl | exact hS.one 8 rfl | exact hS.one 9 rfl | exact hS.one 10 rfl | exact hS.one 11 rfl) (fun hC => ?_)
    clear hK K
    try simp only [List.getElem_toArray, List.getElem_cons_succ, List.getElem_cons_zero, Act.put, List.setIfInBounds_toArray, List.set_cons_zero, List.set_cons_succ]
    refine mixs_one 5 (by kernel_rfl) rfl (fun K hK => ?_)
    (refine op_loadall_st (by kernel_rfl) 0 hS rfl rfl rfl hrow hsz ?_)
    try clear hC
    refine hK.out _ _ _ (fun _ h => h) (by first | exact hS | exact hS.drop | exact hS.drop.drop | exact hS.drop.drop.drop | exact hS.drop.drop.drop.drop | exact hS.empty | exact hS.one 0 rfl | exact hS.one 1 rfl | exact hS.one 2 rfl | exact hS.one 3 rfl | exact hS.one 4 rfl | exact hS.one 5 rfl | exact hS.one 6 rfl | exact hS.one 7 rfl | exact hS.one 8 rfl | exact hS.one 9 rfl | exact hS.one 10 rfl | exact hS.one 11 rfl) (fun hC => ?_)
    clear hK K
    try simp only [List.getElem_toArray, List.getElem_cons_succ, List.getElem_cons_zero, Act.put, List.setIfInBounds_toArray, List.set_cons_zero, List.set_cons_succ]
    refine mixs_one 6 (by kernel_rfl) rfl (fun K hK => ?_)
    ( first | (refine op_build1_st (by kernel_rfl) hS rfl Try.underlying115 elem_wt rfl (by simpa using hwl.out) (by omega) ?_; intro g2 w3 hS1; clear hS; have hS := hS1; clear hS1) | (refine op_app_st (by kernel_rfl) 4 hS rfl rfl Try.underlying115 elem_wt rfl (Src.slice Try.underlying115 (hS.blksl 0 rfl) (by simpa using hwl.out)) rfl (wt_rowone _) (by omega) (by unfold maxLen; omega) ?_; intro wv' w3 hS1; clear hS; simp only [List.set_cons_zero, List.set_cons_succ] at hS1; obtain ⟨a3, c3, rfl, -⟩ := hS1.row 4 rfl; have hS := hS1; clear hS1) )
    try clear hC
    refine hK.out _ _ _ (fun _ h => h) (by first | exact hS | exact hS.drop | exact hS.drop.drop | exact hS.drop.drop.drop | exact hS.drop.drop.drop.drop | exact hS.empty | exact hS.one 0 rfl | exact hS.one 1 rfl | exact hS.one 2 rfl | exact hS.one 3 rfl | exact hS.one 4 rfl | exact hS.one 5 rfl | exact hS.one 6 rfl | exact hS.one 7 rfl | exact hS.one 8 rfl | exact hS.one 9 rfl | exact hS.one 10 rfl | exact hS.one 11 rfl) (fun hC => ?_)
    clear hK K
    try simp only [List.getElem_toArray, List.getElem_cons_succ, List.getElem_cons_zero, Act.put, List.setIfInBounds_toArray, List.set_cons_zero, List.set_cons_succ]
    refine mixs_one 7 (by kernel_rfl) rfl (fun K hK => ?_)
    ( first | (refine op_build1_st (by kernel_rfl) hS rfl Try.underlying115 elem_wt rfl (by simpa using hwl.out) (by omega) ?_; intro g2 w3 hS1; clear hS; have hS := hS1; clear hS1) | (refine op_app_st (by kernel_rfl) 4 hS rfl rfl Try.underlying115 elem_wt rfl (Src.slice Try.underlying115 (hS.blksl 0 rfl) (by simpa using hwl.out)) rfl (wt_rowone _) (by omega) (by unfold maxLen; omega) ?_; intro wv' w3 hS1; clear hS; simp only [List.set_cons_zero, List.set_cons_succ] at hS1; obtain ⟨a3, c3, rfl, -⟩ := hS1.row 4 rfl; have hS := hS1; clear hS1) )
    try clear hC
    refine hK.out _ _ _ (fun _ h => h) (by first | exact hS | exact hS.drop | exact hS.drop.drop | exact hS.drop.drop.drop | exact hS.drop.drop.drop.drop | exact hS.empty | exact hS.one 0 rfl | exact hS.one 1 rfl | exact hS.one 2 rfl | exact hS.one 3 rfl | exact hS.one 4 rfl | exact hS.one 5 rfl | exact hS.one 6 rfl | exact hS.one 7 rfl | exact hS.one 8 rfl | exact hS.one 9 rfl | exact hS.one 10 rfl | exact hS.one 11 rfl) (fun hC => ?_)
    clear hK K
    try simp only [List.getElem_toArray, List.getElem_cons_succ, List.getElem_cons_zero, Act.put, List.setIfInBounds_toArray, List.set_cons_zero, List.set_cons_succ]
    refine mixs_take 8 (v := ?_) rfl (by kernel_rfl) (fun _ _ _ h => h) (by kernel_rfl) (by assumption) (fun s => ?hy) ?_; case hy => (go_simp <;> with_reducible rfl)
    try simp only [List.getElem_toArray, List.getElem_cons_succ, List.getElem_cons_zero, Act.put, List.setIfInBounds_toArray, List.set_cons_zero, List.set_cons_succ]
    refine mixs_take 9 (v := ?_) rfl (by kernel_rfl) (fun _ _ _ h => h) (by kernel_rfl) (by assumption) (fun s => ?hy) ?_; case hy => (go_simp <;> with_reducible rfl)
    try simp only [List.getElem_toArray, List.getElem_cons_succ, List.getElem_cons_zero, Act.put, List.setIfInBounds_toArray, List.set_cons_zero, List.set_cons_succ]
    refine mixs_one 10 (by kernel_rfl) rfl (fun K hK => ?_)
    refine op_store_st (by kernel_rfl) 2 hS rfl rfl rfl (by kernel_rfl) rfl rfl ?_
    intro w1 hS1; clear hS; have hS := hS1; clear hS1; try simp only [List.set_cons_zero, List.set_cons_succ, List.setIfInBounds_toArray, List.take_succ_cons, List.take_zero, List.drop_succ_cons, List.drop_zero, List.nil_append, List.cons_append, List.append_nil, List.drop_nil, List.take_nil, List.length_cons, List.length_nil, Nat.zero_add, Nat.add_zero, Nat.reduceAdd] at hS
    try clear hC
    refine hK.out _ _ _ (fun _ h => h) (by first | exact hS | exact hS.drop | exact hS.drop.drop | exact hS.drop.drop.drop | exact hS.drop.drop.drop.drop | exact hS.empty | exact hS.one 0 rfl | exact hS.one 1 rfl | exact hS.one 2 rfl | exact hS.one 3 rfl | exact hS.one 4 rfl | exact hS.one 5 rfl | exact hS.one 6 rfl | exact hS.one 7 rfl | exact hS.one 8 rfl | exact hS.one 9 rfl | exact hS.one 10 rfl | exact hS.one 11 rfl) (fun hC => ?_)
    clear hK K
    try simp only [List.getElem_toArray, List.getElem_cons_succ, List.getElem_cons_zero, Act.put, List.setIfInBounds_toArray, List.set_cons_zero, List.set_cons_succ]
    refine wpAnyH_done (by kernel_rfl) ?_ _
    try clear hC
    have e1 : (d.wait.map wtRow).flatten ++ wtRow ⟨i, b.data.toList⟩ = ((d.wait ++ [(⟨i, b.data.toList⟩ : Wt)]).map wtRow).flatten := by simp
    have e2 : d.wait.length + 1 = (d.wait ++ [(⟨i, b.data.toList⟩ : Wt)]).length := by simp
    rw [e1, e2] at hS
    clear e1 e2
    have hS' : St w F (dks bd sv (.slice a3 (d.wait ++ [(⟨i, b.data.toList⟩ : Wt)]).length c3) { d with wait := d.wait ++ [⟨i, b.data.toList⟩] }) _ := hS.drop.drop
    clear hS
    have cT := cS.out _ _ (hS'.pre _ [] (List.append_nil _).symm)
    have hfr := fun (A' : List Ch) (W : World) k => hS'.call (A' := A') (w' := W) _ [] (List.append_nil _).symm k
    simp only [List.append_nil] at hfr
    replace cT := Lib.hid cT
    replace hfr := Lib.hid hfr
    clear hS' hcp ez cR cS hwl
    cases sd
    all_goals
      go_wp2_with (go_at_call 72; (refine cT.out.mono ?_); rintro _ w4 ⟨rfl, hb3⟩; replace hb3 := hfr.out _ _ hb3; replace hb3 := Lib.hid hb3)
      go_ret
      exact ⟨rfl, _, hb3.out⟩
  ·
    (refine op_loadall_st (by kernel_rfl) 0 hS rfl rfl rfl hrow hsz ?_)
    try clear hC
    refine hK.out _ _ _ (fun _ h => h) (by first | exact hS | exact hS.drop | exact hS.drop.drop | exact hS.drop.drop.drop | exact hS.drop.drop.drop.drop | exact hS.empty | exact hS.one 0 rfl | exact hS.one 1 rfl | exact hS.one 2 rfl | exact hS.one 3 rfl | exact hS.one 4 rfl | exact hS.one 5 rfl | exact hS.one 6 rfl | exact hS.one 7 rfl | exact hS.one 8 rfl | exact hS.one 9 rfl | exact hS.one 10 rfl | exact hS.one 11 rfl) (fun hC => ?_)
    clear hK K
    try simp only [List.getElem_toArray, List.getElem_cons_succ, List.getElem_cons_zero, Act.put, List.setIfInBounds_toArray, List.set_cons_zero, List.set_cons_succ]
    refine mixs_two 4 6 (by kernel_rfl) rfl rfl (fun K hK => ?_) (fun K hK => ?_)
    ·
      refine op_load_st (by kernel_rfl) 1 hS rfl rfl rfl (by simp [scalarB, go_sem]) rfl ?_
      try clear hC
      refine hK.out _ _ _ (fun _ h => h) (by first | exact hS | exact hS.drop | exact hS.drop.drop | exact hS.drop.drop.drop | exact hS.drop.drop.drop.drop | exact hS.empty | exact hS.one 0 rfl | exact hS.one 1 rfl | exact hS.one 2 rfl | exact hS.one 3 rfl | exact hS.one 4 rfl | exact hS.one 5 rfl | exact hS.one 6 rfl | exact hS.one 7 rfl | exact hS.one 8 rfl | exact hS.one 9 rfl | exact hS.one 10 rfl | exact hS.one 11 rfl) (fun hC => ?_)
      clear hK K
      try simp only [List.getElem_toArray, List.getElem_cons_succ, List.getElem_cons_zero, Act.put, List.setIfInBounds_toArray, List.set_cons_zero, List.set_cons_succ]
      refine mixs_one 6 (by kernel_rfl) rfl (fun K hK => ?_)
      ( first | (refine op_build1_st (by kernel_rfl) hS rfl Try.underlying115 elem_wt rfl (by simpa using hwl.out) (by omega) ?_; intro g2 w3 hS1; clear hS; have hS := hS1; clear hS1) | (refine op_app_st (by kernel_rfl) 4 hS rfl rfl Try.underlying115 elem_wt rfl (Src.slice Try.underlying115 (hS.blksl 0 rfl) (by simpa using hwl.out)) rfl (wt_rowone _) (by omega) (by unfold maxLen; omega) ?_; intro wv' w3 hS1; clear hS; simp only [List.set_cons_zero, List.set_cons_succ] at hS1; obtain ⟨a3, c3, rfl, -⟩ := hS1.row 4 rfl; have hS := hS1; clear hS1) )
      try clear hC
      refine hK.out _ _ _ (fun _ h => h) (by first | exact hS | exact hS.drop | exact hS.drop.drop | exact hS.drop.drop.drop | exact hS.drop.drop.drop.drop | exact hS.empty | exact hS.one 0 rfl | exact hS.one 1 rfl | exact hS.one 2 rfl | exact hS.one 3 rfl | exact hS.one 4 rfl | exact hS.one 5 rfl | exact hS.one 6 rfl | exact hS.one 7 rfl | exact hS.one 8 rfl | exact hS.one 9 rfl | exact hS.one 10 rfl | exact hS.one 11 rfl) (fun hC => ?_)
      clear hK K
      try simp only [List.getElem_toArray, List.getElem_cons_succ, List.getElem_cons_zero, Act.put, List.setIfInBounds_toArray, List.set_cons_zero, List.set_cons_succ]
      refine mixs_one 7 (by kernel_rfl) rfl (fun K hK => ?_)
      ( first | (refine op_build1_st (by kernel_rfl) hS rfl Try.underlying115 elem_wt rfl (by simpa using hwl.out) (by omega) ?_; intro g2 w3 hS1; clear hS; have hS := hS1; clear hS1) | (refine op_app_st (by kernel_rfl) 4 hS rfl rfl Try.underlying115 elem_wt rfl (Src.slice Try.underlying115 (hS.blksl 0 rfl) (by simpa using hwl.out)) rfl (wt_rowone _) (by omega) (by unfold maxLen; omega) ?_; intro wv' w3 hS1; clear hS; simp only [List.set_cons_zero, List.set_cons_succ] at hS1; obtain ⟨a3, c3, rfl, -⟩ := hS1.row 4 rfl; have hS := hS1; clear hS1) )
      try clear hC
      refine hK.out _ _ _ (fun _ h => h) (by first | exact hS | exact hS.drop | exact hS.drop.drop | exact hS.drop.drop.drop | exact hS.drop.drop.drop.drop | exact hS.empty | exact hS.one 0 rfl | exact hS.one 1 rfl | exact hS.one 2 rfl | exact hS.one 3 rfl | exact hS.one 4 rfl | exact hS.one 5 rfl | exact hS.one 6 rfl | exact hS.one 7 rfl | exact hS.one 8 rfl | exact hS.one 9 rfl | exact hS.one 10 rfl | exact hS.one 11 rfl) (fun hC => ?_)
      clear hK K
      try simp only [List.getElem_toArray, List.getElem_cons_succ, List.getElem_cons_zero, Act.put, List.setIfInBounds_toArray, List.set_cons_zero, List.set_cons_succ]
      refine mixs_take 8 (v := ?_) rfl (by kernel_rfl) (fun _ _ _ h => h) (by kernel_rfl) (by assumption) (fun s => ?hy) ?_; case hy => (go_simp <;> with_reducible rfl)
      try simp only [List.getElem_toArray, List.getElem_cons_succ, List.getElem_cons_zero, Act.put, List.setIfInBounds_toArray, List.set_cons_zero, List.set_cons_succ]
      refine mixs_take 9 (v := ?_) rfl (by kernel_rfl) (fun _ _ _ h => h) (by kernel_rfl) (by assumption) (fun s => ?hy) ?_; case hy => (go_simp <;> with_reducible rfl)
      try simp only [List.getElem_toArray, List.getElem_cons_succ, List.getElem_cons_zero, Act.put, List.setIfInBounds_toArray, List.set_cons_zero, List.set_cons_succ]
      refine mixs_one 10 (by kernel_rfl) rfl (fun K hK => ?_)
      refine op_store_st (by kernel_rfl) 2 hS rfl rfl rfl (by kernel_rfl) rfl rfl ?_
      intro w1 hS1; clear hS; have hS := hS1; clear hS1; try simp only [List.set_cons_zero, List.set_cons_succ, List.setIfInBounds_toArray, List.take_succ_cons, List.take_zero, List.drop_succ_cons, List.drop_zero, List.nil_append, List.cons_append, List.append_nil, List.drop_nil, List.take_nil, List.length_cons, List.length_nil, Nat.zero_add, Nat.add_zero, Nat.reduceAdd] at hS
      try clear hC
      refine hK.out _ _ _ (fun _ h => h) (by first | exact hS | exact hS.drop | exact hS.drop.drop | exact hS.drop.drop.drop | exact hS.drop.drop.drop.drop | exact hS.empty | exact hS.one 0 rfl | exact hS.one 1 rfl | exact hS.one 2 rfl | exact hS.one 3 rfl | exact hS.one 4 rfl | exact hS.one 5 rfl | exact hS.one 6 rfl | exact hS.one 7 rfl | exact hS.one 8 rfl | exact hS.one 9 rfl | exact hS.one 10 rfl | exact hS.one 11 rfl) (fun hC => ?_)
      clear hK K
      try simp only [List.getElem_toArray, List.getElem_cons_succ, List.getElem_cons_zero, Act.put, List.setIfInBounds_toArray, List.set_cons_zero, List.set_cons_succ]
      refine wpAnyH_done (by kernel_rfl) ?_ _
      try clear hC
      have e1 : (d.wait.map wtRow).flatten ++ wtRow ⟨i, b.data.toList⟩ = ((d.wait ++ [(⟨i, b.data.toList⟩ : Wt)]).map wtRow).flatten := by simp
      have e2 : d.wait.length + 1 = (d.wait ++ [(⟨i, b.data.toList⟩ : Wt)]).length := by simp
      rw [e1, e2] at hS
      clear e1 e2
      have hS' : St w F (dks bd sv (.slice a3 (d.wait ++ [(⟨i, b.data.toList⟩ : Wt)]).length c3) { d with wait := d.wait ++ [⟨i, b.data.toList⟩] }) _ := hS.drop.drop
      clear hS
      have cT := cS.out _ _ (hS'.pre _ [] (List.append_nil _).symm)
      have hfr := fun (A' : List Ch) (W : World) k => hS'.call (A' := A') (w' := W) _ [] (List.append_nil _).symm k
      simp only [List.append_nil] at hfr
      replace cT := Lib.hid cT
      replace hfr := Lib.hid hfr
      clear hS' hcp ez cR cS hwl
      cases sd
      all_goals
        go_wp2_with (go_at_call 72; (refine cT.out.mono ?_); rintro _ w4 ⟨rfl, hb3⟩; replace hb3 := hfr.out _ _ hb3; replace hb3 := Lib.hid hb3)
        go_ret
        exact ⟨rfl, _, hb3.out⟩
    ·
      ( first | (refine op_build1_st (by kernel_rfl) hS rfl Try.underlying115 elem_wt rfl (by simpa using hwl.out) (by omega) ?_; intro g2 w3 hS1; clear hS; have hS := hS1; clear hS1) | (refine op_app_st (by kernel_rfl) 4 hS rfl rfl Try.underlying115 elem_wt rfl (Src.slice Try.underlying115 (hS.blksl 0 rfl) (by simpa using hwl.out)) rfl (wt_rowone _) (by omega) (by unfold maxLen; omega) ?_; intro wv' w3 hS1; clear hS; simp only [List.set_cons_zero, List.set_cons_succ] at hS1; obtain ⟨a3, c3, rfl, -⟩ := hS1.row 4 rfl; have hS := hS1; clear hS1) )
      try clear hC
      refine hK.out _ _ _ (fun _ h => h) (by first | exact hS | exact hS.drop | exact hS.drop.drop | exact hS.drop.drop.drop | exact hS.drop.drop.drop.drop | exact hS.empty | exact hS.one 0 rfl | exact hS.one 1 rfl | exact hS.one 2 rfl | exact hS.one 3 rfl | exact hS.one 4 rfl | exact hS.one 5 rfl | exact hS.one 6 rfl | exact hS.one 7 rfl | exact hS.one 8 rfl | exact hS.one 9 rfl | exact hS.one 10 rfl | exact hS.one 11 rfl) (fun hC => ?_)
      clear hK K
      try simp only [List.getElem_toArray, List.getElem_cons_succ, List.getElem_cons_zero, Act.put, List.setIfInBounds_toArray, List.set_cons_zero, List.set_cons_succ]
      refine mixs_one 4 (by kernel_rfl) rfl (fun K hK => ?_)
      refine op_load_st (by kernel_rfl) 2 hS rfl rfl rfl (by simp [scalarB, go_sem]) rfl ?_
      try clear hC
      refine hK.out _ _ _ (fun _ h => h) (by first | exact hS | exact hS.drop | exact hS.drop.drop | exact hS.drop.drop.drop | exact hS.drop.drop.drop.drop | exact hS.empty | exact hS.one 0 rfl | exact hS.one 1 rfl | exact hS.one 2 rfl | exact hS.one 3 rfl | exact hS.one 4 rfl | exact hS.one 5 rfl | exact hS.one 6 rfl | exact hS.one 7 rfl | exact hS.one 8 rfl | exact hS.one 9 rfl | exact hS.one 10 rfl | exact hS.one 11 rfl) (fun hC => ?_)
      clear hK K
      try simp only [List.getElem_toArray, List.getElem_cons_succ, List.getElem_cons_zero, Act.put, List.setIfInBounds_toArray, List.set_cons_zero, List.set_cons_succ]
      refine mixs_one 7 (by kernel_rfl) rfl (fun K hK => ?_)
      ( first | (refine op_build1_st (by kernel_rfl) hS rfl Try.underlying115 elem_wt rfl (by simpa using hwl.out) (by omega) ?_; intro g2 w3 hS1; clear hS; have hS := hS1; clear hS1) | (refine op_app_st (by kernel_rfl) 4 hS rfl rfl Try.underlying115 elem_wt rfl (Src.slice Try.underlying115 (hS.blksl 0 rfl) (by simpa using hwl.out)) rfl (wt_rowone _) (by omega) (by unfold maxLen; omega) ?_; intro wv' w3 hS1; clear hS; simp only [List.set_cons_zero, List.set_cons_succ] at hS1; obtain ⟨a3, c3, rfl, -⟩ := hS1.row 4 rfl; have hS := hS1; clear hS1) )
      try clear hC
      refine hK.out _ _ _ (fun _ h => h) (by first | exact hS | exact hS.drop | exact hS.drop.drop | exact hS.drop.drop.drop | exact hS.drop.drop.drop.drop | exact hS.empty | exact hS.one 0 rfl | exact hS.one 1 rfl | exact hS.one 2 rfl | exact hS.one 3 rfl | exact hS.one 4 rfl | exact hS.one 5 rfl | exact hS.one 6 rfl | exact hS.one 7 rfl | exact hS.one 8 rfl | exact hS.one 9 rfl | exact hS.one 10 rfl | exact hS.one 11 rfl) (fun hC => ?_)
      clear hK K
      try simp only [List.getElem_toArray, List.getElem_cons_succ, List.getElem_cons_zero, Act.put, List.setIfInBounds_toArray, List.set_cons_zero, List.set_cons_succ]
      refine mixs_take 8 (v := ?_) rfl (by kernel_rfl) (fun _ _ _ h => h) (by kernel_rfl) (by assumption) (fun s => ?hy) ?_; case hy => (go_simp <;> with_reducible rfl)
      try simp only [List.getElem_toArray, List.getElem_cons_succ, List.getElem_cons_zero, Act.put, List.setIfInBounds_toArray, List.set_cons_zero, List.set_cons_succ]
      refine mixs_take 9 (v := ?_) rfl (by kernel_rfl) (fun _ _ _ h => h) (by kernel_rfl) (by assumption) (fun s => ?hy) ?_; case hy => (go_simp <;> with_reducible rfl)
      try simp only [List.getElem_toArray, List.getElem_cons_succ, List.getElem_cons_zero, Act.put, List.setIfInBounds_toArray, List.set_cons_zero, List.set_cons_succ]
      refine mixs_one 10 (by kernel_rfl) rfl (fun K hK => ?_)
      refine op_store_st (by kernel_rfl) 2 hS rfl rfl rfl (by kernel_rfl) rfl rfl ?_
      intro w1 hS1; clear hS; have hS := hS1; clear hS1; try simp only [List.set_cons_zero, List.set_cons_succ, List.setIfInBounds_toArray, List.take_succ_cons, List.take_zero, List.drop_succ_cons, List.drop_zero, List.nil_append, List.cons_append, List.append_nil, List.drop_nil, List.take_nil, List.length_cons, List.length_nil, Nat.zero_add, Nat.add_zero, Nat.reduceAdd] at hS
      try clear hC
      refine hK.out _ _ _ (fun _ h => h) (by first | exact hS | exact hS.drop | exact hS.drop.drop | exact hS.drop.drop.drop | exact hS.drop.drop.drop.drop | exact hS.empty | exact hS.one 0 rfl | exact hS.one 1 rfl | exact hS.one 2 rfl | exact hS.one 3 rfl | exact hS.one 4 rfl | exact hS.one 5 rfl | exact hS.one 6 rfl | exact hS.one 7 rfl | exact hS.one 8 rfl | exact hS.one 9 rfl | exact hS.one 10 rfl | exact hS.one 11 rfl) (fun hC => ?_)
      clear hK K
      try simp only [List.getElem_toArray, List.getElem_cons_succ, List.getElem_cons_zero, Act.put, List.setIfInBounds_toArray, List.set_cons_zero, List.set_cons_succ]
      refine wpAnyH_done (by kernel_rfl) ?_ _
      try clear hC
      have e1 : (d.wait.map wtRow).flatten ++ wtRow ⟨i, b.data.toList⟩ = ((d.wait ++ [(⟨i, b.data.toList⟩ : Wt)]).map wtRow).flatten := by simp
      have e2 : d.wait.length + 1 = (d.wait ++ [(⟨i, b.data.toList⟩ : Wt)]).length := by simp
      rw [e1, e2] at hS
      clear e1 e2
      have hS' : St w F (dks bd sv (.slice a3 (d.wait ++ [(⟨i, b.data.toList⟩ : Wt)]).length c3) { d with wait := d.wait ++ [⟨i, b.data.toList⟩] }) _ := hS.drop.drop
      clear hS
      have cT := cS.out _ _ (hS'.pre _ [] (List.append_nil _).symm)
      have hfr := fun (A' : List Ch) (W : World) k => hS'.call (A' := A') (w' := W) _ [] (List.append_nil _).symm k
      simp only [List.append_nil] at hfr
      replace cT := Lib.hid cT
      replace hfr := Lib.hid hfr
      clear hS' hcp ez cR cS hwl
      cases sd
      all_goals
        go_wp2_with (go_at_call 72; (refine cT.out.mono ?_); rintro _ w4 ⟨rfl, hb3⟩; replace hb3 := hfr.out _ _ hb3; replace hb3 := Lib.hid hb3)
        go_ret
        exact ⟨rfl, _, hb3.out⟩


theorem write_nil (i : Int) (b : ByteArray) (w : World) : Calls Try.prog 17 #[.pointer none, .int .i64 i, .string b] w fun e w' => e = .returned (.int .i64 14) ∧ w = w' := by
  have cR := ready_nil i w
  replace cR := Lib.hid cR
  go_enter Try.func17, Try.ntmps17
  go_wp2_with (go_at_call 71; (with_reducible refine cR.out.mono ?_); rintro _ _ ⟨rfl, rfl⟩)
  go_ret
  exact ⟨rfl, rfl⟩

theorem write_any (bd : Nat) (sv wv : Value) (d : Dk) (i : Int) (b : ByteArray) (w : World) (h : St w (feet (dks bd sv wv d)) (dks bd sv wv d) w) (hbm : b.size ≤ maxLen) (hw : d.wait.length ≤ 100000) (hf : -9223372036854775808 ≤ d.fuse ∧ d.fuse ≤ 9223372036854775807) :
    Calls Try.prog 17 #[.pointer (some ⟨bd, 0, none⟩), .int .i64 i, .string b] w fun e w' => e = .returned (.int .i64 (d.write i b.data.toList).2) ∧ ∃ wv', St w (feet (dks bd sv wv d)) (dks bd sv wv' (d.write i b.data.toList).1) w' := by
  by_cases hr : d.ready i = 0
  · by_cases hb : b.size = 64
    · exact write_main bd sv wv d i b w h hr hb hw hf
    · have cR := ready_any bd sv wv d i w h
      rw [hr] at cR
      have hd : d.write i b.data.toList = (d, 1) := by rw [Dk.write, if_pos hr, if_neg (by rw [← ba_size]; exact hb)]
      rw [hd]
      clear hr hd hf
      unfold maxLen at hbm
      replace cR := Lib.hid cR
      replace h := Lib.hid h
      have hb2 : ((b.size : Int) == 64) = false := by rw [beq_eq_false_iff_ne]; omega
      go_enter Try.func17, Try.ntmps17
      go_wp2_with (go_at_call 71; (with_reducible refine cR.out.mono ?_); rintro _ _ ⟨rfl, rfl⟩)
      go_ret
      exact ⟨rfl, wv, h.out⟩
  · have cR := ready_any bd sv wv d i w h
    have hd : d.write i b.data.toList = (d, d.ready i) := by rw [Dk.write, if_neg hr]
    rw [hd]
    have hz : (d.ready i == 0) = false := by rw [beq_eq_false_iff_ne]; exact hr
    generalize d.ready i = q at *
    clear hr hd hf hbm
    replace cR := Lib.hid cR
    replace h := Lib.hid h
    go_enter Try.func17, Try.ntmps17
    go_wp2_with (go_at_call 71; (with_reducible refine cR.out.mono ?_); rintro _ _ ⟨rfl, rfl⟩)
    go_ret
    exact ⟨rfl, wv, h.out⟩

end Go.Proofs.Ytlhpibniecfofaa
end

section
/- The law's sectors. -/
set_option linter.unusedSimpArgs false
set_option linter.unusedVariables false
namespace Go.Proofs.Ytlhpibniecfofaa
open Go.RowKit Go.Ofp
set_option linter.unusedVariables false
set_option maxRecDepth 100000
set_option maxHeartbeats 4000000

theorem fill_next (c : UInt8) (j : Nat) (hj : j < 64) : ((List.replicate j c ++ List.replicate (64 - j) (0 : UInt8)).map vb).take j ++ [vb c] ++ ((List.replicate j c ++ List.replicate (64 - j) (0 : UInt8)).map vb).drop (j + 1) = (List.replicate (j + 1) c ++ List.replicate (64 - (j + 1)) (0 : UInt8)).map vb := by
  obtain ⟨k, hk⟩ : ∃ k, 64 - j = k + 1 := ⟨63 - j, by omega⟩
  rw [hk, show 64 - (j + 1) = k by omega]
  simp only [List.map_append, List.map_replicate]
  rw [List.take_left' (by simp), List.drop_append, List.drop_of_length_le (by simp), List.nil_append, List.length_replicate, show j + 1 - j = 1 by omega, List.replicate_succ (n := k), List.drop_succ_cons, List.drop_zero, List.replicate_succ' (n := j)]

theorem sector_any (c : UInt8) (n : Int) (w : World) : Calls Try.prog 18 #[.int .u8 c.toNat, .int .i64 n] w fun e w' => e = .returned (.string (str (List.replicate (if n = 7 then 63 else 64) c))) ∧ Below w.heap.size w w' := by
  have hS := St.start w
  have em : Elem Try.prog 5 (.int .u8 0) 1 1 := elem_byte
  go_enter Try.func18, Try.ntmps18
  go_wp2_with (at_make; refine wpList_mkfull_st hS rfl rfl Try.underlying127 em rfl rfl 64 rfl rfl (by omega) (by unfold maxLen; omega) ?_; intro g2 w3 hS1; clear hS; have hS := hS1; clear hS1)
  go_loopg [6] 64 (fun gk vi wr => ∃ j : Nat, j + gk = 64 ∧ vi = .int .i64 j ∧ St w [] [Ch.row 5 1 (.slice (some ⟨g2, 0, none⟩) 64 64) 64 ((List.replicate j c ++ List.replicate (64 - j) (0 : UInt8)).map vb)] wr)
  case atStart => exact ⟨0, rfl, rfl, by
    have e : (madeCells (Value.int .u8 0).cells (64 * 1)).toList = (List.replicate 64 (0 : UInt8)).map vb := by
      have := made_rows [Value.int .u8 0] 64 (by decide)
      refine Eq.trans this ?_
      simp [vb]
    rw [e] at hS
    simpa using hS⟩
  case round =>
    clear hS
    obtain ⟨j, hjk, rfl, hS⟩ := hrel
    by_cases hj : j < 64
    · have hn := fill_next c j hj
      replace hn := Lib.hid hn
      go_wp2_with ((with_reducible refine wpList_storeelem1_st 0 j (v := vb c) hS rfl rfl rfl rfl rfl (by kernel_rfl) rfl hj ?_); intro w4 hS1; clear hS; simp only [List.set_cons_zero] at hS1; rw [hn.out] at hS1; have hS := hS1; clear hS1)
      go_roundg (64 - (j + 1))
      case measure => omega
      case rel => exact ⟨j + 1, by omega, rfl, hS⟩
    · obtain rfl : j = 64 := by omega
      have hsl := hS.rowsl 0 rfl
      rw [show List.replicate 64 c ++ List.replicate (64 - 64) (0 : UInt8) = List.replicate 64 c by simp] at hsl
      have hsl2 : Sl wr (some ⟨g2, 1, none⟩) ((List.replicate 63 c).map vb) := by
        have := hsl.drop 1
        simpa using this
      have hb := hS.below
      replace hsl := Lib.hid hsl
      replace hsl2 := Lib.hid hsl2
      clear hS em
      by_cases h7 : n = 7
      · subst h7
        go_wp2_with (with_reducible refine wpList_bts (src := 127) (dst := 9) (x := .tmp 19) (l := List.replicate 63 c) rfl rfl Try.underlying127 Try.underlying5 Try.underlying9 rfl hsl2.out (by simp) ?_)
        go_ret
        exact ⟨rfl, hb⟩
      · have h7b : (n == 7) = false := by rw [beq_eq_false_iff_ne]; exact h7
        replace h7 := Lib.hid h7
        go_wp2_with (with_reducible refine wpList_bts (src := 127) (dst := 9) (x := .tmp 21) (l := List.replicate 64 c) rfl rfl Try.underlying127 Try.underlying5 Try.underlying9 rfl hsl.out (by simp) ?_)
        go_ret
        first
          | exact ⟨rfl, hb⟩
          | (rw [if_neg h7.out]; exact ⟨rfl, hb⟩)
          | (simp [h7.out]; exact hb)

end Go.Proofs.Ytlhpibniecfofaa
end

section
/- The reference's disks: a sector of 0s. -/
set_option linter.unusedSimpArgs false
set_option linter.unusedVariables false
namespace Go.Proofs.Ytlhpibniecfofaa
open Go.RowKit Go.Ofp
set_option linter.unusedVariables false
set_option maxRecDepth 100000
set_option maxHeartbeats 4000000

theorem rzero_any (w : World) : Calls Try.prog 66 #[] w fun e w' => e = .returned (.string (str (List.replicate 64 0))) ∧ Below w.heap.size w w' := by
  have hS := St.start w
  have em : Elem Try.prog 5 (.int .u8 0) 1 1 := elem_byte
  have e : (madeCells (Value.int .u8 0).cells (64 * 1)).toList = (List.replicate 64 (0 : UInt8)).map vb := by
    have := made_rows [Value.int .u8 0] 64 (by decide)
    refine Eq.trans this ?_
    simp [vb]
  replace e := Lib.hid e
  go_enter Try.func66, Try.ntmps66
  go_wp2_with (first
    | (at_make; refine wpList_mkfull_st hS rfl rfl Try.underlying127 em rfl rfl 64 rfl rfl (by omega) (by unfold maxLen; omega) ?_; intro g2 w3 hS1; clear hS; rw [e.out] at hS1; have hS := hS1; clear hS1)
    | (with_reducible refine wpList_bts (src := 127) (dst := 9) (x := .tmp 1) (l := List.replicate 64 0) rfl rfl Try.underlying127 Try.underlying5 Try.underlying9 rfl (hS.rowsl 0 rfl) (by simp) ?_))
  go_ret
  exact ⟨rfl, hS.below⟩

end Go.Proofs.Ytlhpibniecfofaa
end

section
/- What came in, opened: arrays of integers, structs, slices of structs. -/
set_option linter.unusedSimpArgs false
set_option linter.unusedVariables false
namespace Go.Ofp
open Go.RowKit

section
variable {H : Type} {enc : TypeId × Value → H} {P : Program} {w : World} {base : Nat} {spare : Nat → Bool} {held : Bool} {t e : TypeId}

/-- An array of integers, its cells. -/
theorem trod_ints {n : Nat} {k : IntKind} {fuel : Nat} {cs : List Value} {x : DataW H × List MemPlace} (ht : P.underlying t = some (.array n e)) (he : P.underlying e = some (.int k)) (hc : P.cellsOf e = 1) (hC : P.cellsOf t = n)
    (h : DataW.trod enc P w base spare held fuel t cs = some x) : ∃ zs : List Int, zs.length = n ∧ cs = zs.map (Value.int k) ∧ ∀ z ∈ zs, (Lit.int k z).wf = true := by
  obtain ⟨xs, m, _, _, hl, hn, hi⟩ := DataW.trod_array ht h
  rw [hC] at hl
  have key : ∀ i (h : i < cs.length), ∃ z, cs[i] = .int k z ∧ (Lit.int k z).wf = true := by
    intro i h
    have h1 := hi i (by omega)
    rw [hc, Nat.mul_one, List.getElem?_eq_getElem (by omega)] at h1
    obtain ⟨z, hz, _, hw⟩ := DataW.trod_int he h1
    rw [List.drop_eq_getElem_cons h] at hz
    simp only [List.take_succ_cons, List.take_zero, List.cons.injEq, and_true] at hz
    exact ⟨z, hz, hw⟩
  refine ⟨cs.map fun v => intOf v, by simpa using hl, ?_, ?_⟩
  · rw [List.map_map]
    refine List.ext_getElem (by simp) fun i h1 h2 => ?_
    obtain ⟨z, hz, _⟩ := key i h1
    simp [hz, intOf]
  · intro z hz
    obtain ⟨v, hv, rfl⟩ := List.mem_map.1 hz
    obtain ⟨i, hi, rfl⟩ := List.getElem_of_mem hv
    obtain ⟨z, hz, hw⟩ := key i hi
    rw [hz]
    exact hw

theorem open_array_ints {r : Reach} {b0 : Nat} {v : Value} {d : DataW H} {ps : List MemPlace} {n : Nat} {k : IntKind} (ht : P.underlying t = some (.array n e)) (he : P.underlying e = some (.int k)) (hc : P.cellsOf e = 1) (hC : P.cellsOf t = n)
    (ho : Value.okWide P w r b0 t v) (h : DataW.Trod enc P w base spare held t v d ps) : ∃ zs : List Int, zs.length = n ∧ v = .agg (zs.map (Value.int k)).toArray ∧ ∀ z ∈ zs, (Lit.int k z).wf = true := by
  unfold Value.okWide at ho
  rw [ht] at ho
  obtain ⟨cs, rfl, _, _⟩ := ho
  obtain ⟨fuel, hf⟩ := h
  obtain ⟨zs, h1, h2, h3⟩ := trod_ints ht he hc hC hf
  refine ⟨zs, h1, ?_, h3⟩
  congr 1
  apply Array.ext'
  simpa [Value.cells] using h2
end

theorem wf_u32 {z : Int} (h : (Lit.int .u32 z).wf = true) : ∃ x : BitVec 32, z = x.toNat := by
  have hb : 0 ≤ z ∧ z ≤ 4294967295 := by simpa [Lit.wf, IntKind.min, IntKind.max, IntKind.bits, IntKind.signed] using h
  refine ⟨BitVec.ofNat 32 z.toNat, ?_⟩
  simp only [BitVec.toNat_ofNat]
  omega

theorem wf_u8 {z : Int} (h : (Lit.int .u8 z).wf = true) : ∃ x : UInt8, z = x.toNat := by
  have hb : 0 ≤ z ∧ z ≤ 255 := by simpa [Lit.wf, IntKind.min, IntKind.max, IntKind.bits, IntKind.signed] using h
  refine ⟨UInt8.ofNat z.toNat, ?_⟩
  simp only [UInt8.toNat_ofNat']
  omega

theorem wf_i64 {z : Int} (h : (Lit.int .i64 z).wf = true) : -9223372036854775808 ≤ z ∧ z ≤ 9223372036854775807 := by
  simpa [Lit.wf, IntKind.min, IntKind.max, IntKind.bits, IntKind.signed] using h

end Go.Ofp
end

section
/- Slices of structs that came in: rows of cells. -/
set_option linter.unusedSimpArgs false
set_option linter.unusedVariables false
namespace Go.Ofp
open Go.RowKit Go.WideShapes

/-- The cells of a slice whose elements have several cells each. -/
structure Rw (w : World) (a : Option Addr) (size : Nat) (rows : List (List Value)) : Prop where
  sl : Sl w a rows.flatten
  each : ∀ r ∈ rows, r.length = size

theorem flatten_get {α : Type} (size : Nat) : ∀ (rows : List (List α)), (∀ r ∈ rows, r.length = size) → ∀ j t (hj : j < rows.length) (ht : t < size), rows.flatten[j * size + t]? = rows[j][t]?
  | [], _, j, t, hj, _ => by simp at hj
  | r :: rows, h, 0, t, _, ht => by
    have := h r (by simp)
    simp only [List.flatten_cons, Nat.zero_mul, Nat.zero_add, List.getElem_cons_zero]
    rw [List.getElem?_append_left (by omega)]
  | r :: rows, h, j + 1, t, hj, ht => by
    have hr := h r (by simp)
    simp only [List.flatten_cons, List.getElem_cons_succ]
    rw [List.getElem?_append_right (by rw [hr, Nat.add_mul]; omega), show (j + 1) * size + t - r.length = j * size + t by rw [hr, Nat.add_mul]; omega]
    exact flatten_get size rows (fun x hx => h x (by simp [hx])) j t (by simpa using hj) ht

theorem Rw.get {w : World} {a : Option Addr} {size : Nat} {rows : List (List Value)} (h : Rw w a size rows) (j : Nat) (hj : j < rows.length) (h0 : 0 < size) :
    ∃ b off, a = some ⟨b, off, none⟩ ∧ ∀ t v, rows[j][t]? = some v → w.cell? ⟨b, off + (j * size + t), none⟩ = some v := by
  have hl : rows.flatten.length = rows.length * size := by
    have : ∀ (rs : List (List Value)), (∀ r ∈ rs, r.length = size) → rs.flatten.length = rs.length * size := by
      intro rs
      induction rs with
      | nil => intro _; simp
      | cons r rs ih => intro h; rw [List.flatten_cons, List.length_append, ih (fun x hx => h x (by simp [hx])), h r (by simp), List.length_cons, Nat.add_mul]; omega
    exact this rows h.each
  have hpos : rows.flatten ≠ [] := by
    intro e
    rw [e, List.length_nil] at hl
    have := Nat.mul_pos (show 0 < rows.length by omega) h0
    omega
  obtain ⟨b, off, rfl⟩ := h.sl.cells hpos
  refine ⟨b, off, rfl, fun t v hv => ?_⟩
  have ht : t < size := by
    have := (List.getElem?_eq_some_iff.1 hv).1
    rwa [h.each _ (List.getElem_mem hj)] at this
  have := h.sl.add (j * size + t) v (by rw [flatten_get size rows h.each j t hj ht]; exact hv)
  rwa [Addr.add_lit] at this

theorem Rw.below {w w' : World} {a : Option Addr} {size : Nat} {rows : List (List Value)} (h : Rw w a size rows) (hb : Below w.heap.size w w') : Rw w' a size rows := ⟨h.sl.below hb, h.each⟩

section
variable {H : Type} {enc : TypeId × Value → H} {P : Program} {w : World} {base : Nat} {spare : Nat → Bool} {held : Bool} {t e : TypeId}

/-- A slice that came in: its elements' cells, each read as an element. -/
theorem open_rows {r : Reach} {b0 : Nat} {v : Value} {d : DataW H} {ps : List MemPlace} (ht : P.underlying t = some (.slice e)) (ho : Value.okWide P w r b0 t v) (h : DataW.Trod enc P w base spare held t v d ps) (hp : 0 < P.cellsOf e) :
    ∃ a n cap, v = .slice a n cap ∧ n ≤ cap ∧ cap ≤ maxLen ∧ ∃ rows, rows.length = n ∧ Rw w a (P.cellsOf e) rows ∧ ∀ cs ∈ rows, ∃ fuel x, DataW.trod enc P w base spare held fuel e cs = some x := by
  obtain ⟨a, n, cap, rfl⟩ := okWide_slice ht ho
  obtain ⟨fuel, hf⟩ := h
  rcases DataW.trod_slice ht hf with ⟨hc, _⟩ | ⟨ad, len, c, elems, rest, m, _, hc, _, _, hlc, hcm, hle, hel, _, _⟩
  · simp only [Value.cells, List.cons.injEq, Value.slice.injEq, and_true] at hc
    obtain ⟨rfl, rfl, rfl⟩ := hc
    exact ⟨none, 0, 0, rfl, Nat.le_refl _, Nat.zero_le _, [], rfl, ⟨Sl.nil _ _, by simp⟩, by simp⟩
  · simp only [Value.cells, List.cons.injEq, Value.slice.injEq, and_true] at hc
    obtain ⟨rfl, rfl, rfl⟩ := hc
    have key : ∀ i, i < n → ∃ cs x, w.cells? base (ad.add (i * P.cellsOf e)) (P.cellsOf e) = some cs ∧ DataW.trod enc P w base spare held m e cs = some x := by
      intro i hi
      have h1 := hel i hi
      rw [List.getElem?_eq_getElem (by omega)] at h1
      obtain ⟨cs, h2, h3⟩ := Option.bind_eq_some_iff.1 h1
      exact ⟨cs, _, h2, h3⟩
    have cell : ∀ i (hi : i < n) cs, w.cells? base (ad.add (i * P.cellsOf e)) (P.cellsOf e) = some cs → cs.length = P.cellsOf e ∧ ∀ t, t < P.cellsOf e → w.cell? ((ad.add (i * P.cellsOf e)).add t) = cs[t]? := by
      intro i hi cs h1
      unfold World.cells? at h1
      split at h1
      · exact ⟨by simpa using mapM_some_length h1, fun t ht => mapM_some_get h1 t t (by simp [ht])⟩
      · cases h1
    refine ⟨some ad, n, cap, rfl, hlc, hcm, (List.range n).map fun i => (w.cells? base (ad.add (i * P.cellsOf e)) (P.cellsOf e)).getD [], by simp, ?_, ?_⟩
    · have heach : ∀ r ∈ (List.range n).map (fun i => (w.cells? base (ad.add (i * P.cellsOf e)) (P.cellsOf e)).getD []), r.length = P.cellsOf e := by
        intro r hr
        obtain ⟨i, hi, rfl⟩ := List.mem_map.1 hr
        rw [List.mem_range] at hi
        obtain ⟨cs, x, h1, _⟩ := key i hi
        rw [h1]
        exact (cell i hi cs h1).1
      refine ⟨?_, heach⟩
      by_cases hn : n = 0
      · subst hn
        exact Sl.nil _ _
      · obtain ⟨b, off, spot⟩ := ad
        have hs : spot = none := by
          obtain ⟨cs, x, h1, _⟩ := key 0 (by omega)
          obtain ⟨hl, hc⟩ := cell 0 (by omega) cs h1
          have := hc 0 hp
          rw [List.getElem?_eq_getElem (by omega)] at this
          simp only [Nat.zero_mul, Addr.add, if_true] at this
          exact World.cell?_spot this
        subst hs
        intro q hq
        have hfl : ∀ (rs : List (List Value)), (∀ r ∈ rs, r.length = P.cellsOf e) → rs.flatten.length = rs.length * P.cellsOf e := by
          intro rs
          induction rs with
          | nil => intro _; simp
          | cons r rs ih => intro h; rw [List.flatten_cons, List.length_append, ih (fun x hx => h x (by simp [hx])), h r (by simp), List.length_cons, Nat.add_mul]; omega
        have hq2 := hq
        rw [hfl _ heach, List.length_map, List.length_range] at hq2
        have hj : q / P.cellsOf e < n := Nat.div_lt_of_lt_mul (by rw [Nat.mul_comm]; exact hq2)
        have ht : q % P.cellsOf e < P.cellsOf e := Nat.mod_lt _ hp
        have hqe : q / P.cellsOf e * P.cellsOf e + q % P.cellsOf e = q := by rw [Nat.mul_comm]; exact Nat.div_add_mod q _
        obtain ⟨cs, x, h1, _⟩ := key _ hj
        obtain ⟨hl, hc⟩ := cell _ hj cs h1
        have hc' := hc _ ht
        have hget := flatten_get (P.cellsOf e) _ heach (q / P.cellsOf e) (q % P.cellsOf e) (by simpa using hj) ht
        rw [hqe] at hget
        simp only [List.getElem_map, List.getElem_range, h1, Option.getD_some] at hget
        refine ⟨b, off, rfl, ?_⟩
        rw [← List.getElem?_eq_getElem hq, hget, ← hc', Addr.add_lit, Addr.add_lit]
        congr 2
        omega
    · intro cs hcs
      obtain ⟨i, hi, rfl⟩ := List.mem_map.1 hcs
      rw [List.mem_range] at hi
      obtain ⟨cs, x, h1, h2⟩ := key i hi
      rw [h1]
      exact ⟨m, x, h2⟩
end

end Go.Ofp
end
