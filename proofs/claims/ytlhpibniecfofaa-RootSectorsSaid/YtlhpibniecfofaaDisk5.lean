/- The reference's disks: a sector of 0s. -/
import Derived.Test.YtlhpibniecfofaaDisk4
set_option linter.unusedSimpArgs false
set_option linter.unusedVariables false
namespace Go.Proofs.Ytlhpibniecfofaa
open Go.RowKit Go.Ofp
set_option linter.unusedVariables false
set_option maxRecDepth 100000
set_option maxHeartbeats 4000000

theorem rzero_any (w : World) : Calls Try.prog 66 #[] w fun e w' => e = .returned (.string (str (List.replicate 64 0))) ∧ Below w.heap.size w w' := by
  have hS := St.start w
  have em : Elem Try.prog 5 (.int .u8 0) 1 1 := elem_byte
  have e : (madeCells (Value.int .u8 0).cells (64 * 1)).toList = (List.replicate 64 (0 : UInt8)).map vb := by
    have := made_rows [Value.int .u8 0] 64 (by decide)
    refine Eq.trans this ?_
    simp [vb]
  replace e := Lib.hid e
  go_enter Try.func66, Try.ntmps66
  go_wp2_with (first
    | (at_make; refine wpList_mkfull_st hS rfl rfl Try.underlying127 em rfl rfl 64 rfl rfl (by omega) (by unfold maxLen; omega) ?_; intro g2 w3 hS1; clear hS; rw [e.out] at hS1; have hS := hS1; clear hS1)
    | (with_reducible refine wpList_bts (src := 127) (dst := 9) (x := .tmp 1) (l := List.replicate 64 0) rfl rfl Try.underlying127 Try.underlying5 Try.underlying9 rfl (hS.rowsl 0 rfl) (by simp) ?_))
  go_ret
  exact ⟨rfl, hS.below⟩

end Go.Proofs.Ytlhpibniecfofaa
