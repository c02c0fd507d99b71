/- The law's sectors. -/
import Derived.Test.YtlhpibniecfofaaDisk3
set_option linter.unusedSimpArgs false
set_option linter.unusedVariables false
namespace Go.Proofs.Ytlhpibniecfofaa
open Go.RowKit Go.Ofp
set_option linter.unusedVariables false
set_option maxRecDepth 100000
set_option maxHeartbeats 4000000

theorem fill_next (c : UInt8) (j : Nat) (hj : j < 64) : ((List.replicate j c ++ List.replicate (64 - j) (0 : UInt8)).map vb).take j ++ [vb c] ++ ((List.replicate j c ++ List.replicate (64 - j) (0 : UInt8)).map vb).drop (j + 1) = (List.replicate (j + 1) c ++ List.replicate (64 - (j + 1)) (0 : UInt8)).map vb := by
  obtain ⟨k, hk⟩ : ∃ k, 64 - j = k + 1 := ⟨63 - j, by omega⟩
  rw [hk, show 64 - (j + 1) = k by omega]
  simp only [List.map_append, List.map_replicate]
  rw [List.take_left' (by simp), List.drop_append, List.drop_of_length_le (by simp), List.nil_append, List.length_replicate, show j + 1 - j = 1 by omega, List.replicate_succ (n := k), List.drop_succ_cons, List.drop_zero, List.replicate_succ' (n := j)]

theorem sector_any (c : UInt8) (n : Int) (w : World) : Calls Try.prog 18 #[.int .u8 c.toNat, .int .i64 n] w fun e w' => e = .returned (.string (str (List.replicate (if n = 7 then 63 else 64) c))) ∧ Below w.heap.size w w' := by
  have hS := St.start w
  have em : Elem Try.prog 5 (.int .u8 0) 1 1 := elem_byte
  go_enter Try.func18, Try.ntmps18
  go_wp2_with (at_make; refine wpList_mkfull_st hS rfl rfl Try.underlying127 em rfl rfl 64 rfl rfl (by omega) (by unfold maxLen; omega) ?_; intro g2 w3 hS1; clear hS; have hS := hS1; clear hS1)
  go_loopg [6] 64 (fun gk vi wr => ∃ j : Nat, j + gk = 64 ∧ vi = .int .i64 j ∧ St w [] [Ch.row 5 1 (.slice (some ⟨g2, 0, none⟩) 64 64) 64 ((List.replicate j c ++ List.replicate (64 - j) (0 : UInt8)).map vb)] wr)
  case atStart => exact ⟨0, rfl, rfl, by
    have e : (madeCells (Value.int .u8 0).cells (64 * 1)).toList = (List.replicate 64 (0 : UInt8)).map vb := by
      have := made_rows [Value.int .u8 0] 64 (by decide)
      refine Eq.trans this ?_
      simp [vb]
    rw [e] at hS
    simpa using hS⟩
  case round =>
    clear hS
    obtain ⟨j, hjk, rfl, hS⟩ := hrel
    by_cases hj : j < 64
    · have hn := fill_next c j hj
      replace hn := Lib.hid hn
      go_wp2_with ((with_reducible refine wpList_storeelem1_st 0 j (v := vb c) hS rfl rfl rfl rfl rfl (by kernel_rfl) rfl hj ?_); intro w4 hS1; clear hS; simp only [List.set_cons_zero] at hS1; rw [hn.out] at hS1; have hS := hS1; clear hS1)
      go_roundg (64 - (j + 1))
      case measure => omega
      case rel => exact ⟨j + 1, by omega, rfl, hS⟩
    · obtain rfl : j = 64 := by omega
      have hsl := hS.rowsl 0 rfl
      rw [show List.replicate 64 c ++ List.replicate (64 - 64) (0 : UInt8) = List.replicate 64 c by simp] at hsl
      have hsl2 : Sl wr (some ⟨g2, 1, none⟩) ((List.replicate 63 c).map vb) := by
        have := hsl.drop 1
        simpa using this
      have hb := hS.below
      replace hsl := Lib.hid hsl
      replace hsl2 := Lib.hid hsl2
      clear hS em
      by_cases h7 : n = 7
      · subst h7
        go_wp2_with (with_reducible refine wpList_bts (src := 127) (dst := 9) (x := .tmp 19) (l := List.replicate 63 c) rfl rfl Try.underlying127 Try.underlying5 Try.underlying9 rfl hsl2.out (by simp) ?_)
        go_ret
        exact ⟨rfl, hb⟩
      · have h7b : (n == 7) = false := by rw [beq_eq_false_iff_ne]; exact h7
        replace h7 := Lib.hid h7
        go_wp2_with (with_reducible refine wpList_bts (src := 127) (dst := 9) (x := .tmp 21) (l := List.replicate 64 c) rfl rfl Try.underlying127 Try.underlying5 Try.underlying9 rfl hsl.out (by simp) ?_)
        go_ret
        first
          | exact ⟨rfl, hb⟩
          | (rw [if_neg h7.out]; exact ⟨rfl, hb⟩)
          | (simp [h7.out]; exact hb)

end Go.Proofs.Ytlhpibniecfofaa
