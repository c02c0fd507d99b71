/- Texts laid together: TransCkR. -/
import Derived.Test.YtajldelodnjmoaaM13
import Derived.Test.YtajldelodnjmoaaM21
section
/- Which items may be: the document's; whether items are wide. -/
set_option linter.unusedSimpArgs false
set_option linter.unusedVariables false
namespace Go.Proofs.Ytajldelodnjmoaa
open Go.RowKit Go.Ofp
set_option linter.unusedVariables false
set_option maxRecDepth 100000
set_option maxHeartbeats 4000000

def wideI (l : List It) : Bool := decide (100 < l.length) || l.any fun t => largeF t.c.f

theorem wide_any (a : Option Addr) (n c : Nat) (l : List It) (w : World) (hl : Lst itRow ItIn w a n c l) :
    Calls Try.prog 33 #[.slice a n c] w fun e w' => e = .returned (.bool (wideI l)) ∧ Below w.heap.size w w' := by
  have hS := St.start w
  have cL := Lib.hid fun (f : List Vl) (hf : f.length = 8) (W : World) => large6_any f hf W
  have hnm : n ≤ 9223372036854775807 := by have := hl.le; have := hl.cm; unfold maxLen at this; omega
  have hlen := Lib.hid hl.len
  have hlens := Lib.hid (show ∀ x ∈ l, (itRow x).length = 28 from fun x hx => itRow_len x (hl.mem x hx).c.len)
  have hbase := Lib.hid (hl.base (by decide) hlens.out)
  have hmem := Lib.hid hl.mem
  have hlt0 : wideI l = (decide (100 < n) || l.any fun t => largeF t.c.f) := by unfold wideI; rw [hl.len]
  rw [hlt0]
  clear hlt0
  replace hl := Lib.hid hl
  by_cases h100 : 100 < n
  · rw [decide_eq_true h100, Bool.true_or]
    have d1 : decide ((100 : Int) < (n : Int)) = true := decide_eq_true (by omega)
    have d2 : decide (100 < n) = true := decide_eq_true h100
    clear h100
    go_enter Try.func33, Try.ntmps33
    go_wp2_with fail
    go_ret
    exact ⟨rfl, hS.below⟩
  · rw [decide_eq_false h100, Bool.false_or]
    have d1 : decide ((100 : Int) < (n : Int)) = false := decide_eq_false (by omega)
    have d2 : decide (100 < n) = false := decide_eq_false h100
    obtain ⟨R, hR⟩ : ∃ R, (l.any fun t => largeF t.c.f) = R := ⟨_, rfl⟩
    rw [hR]
    replace hR := Lib.hid hR
    clear h100
    go_enter Try.func33, Try.ntmps33
    go_wp2_with fail
    go_loopg [3] n (fun gk vx wr => ∃ j : Nat, j + gk = n ∧ vx = .int .i64 j ∧ Hid ((l.take j).any (fun t => largeF t.c.f) = false) ∧ St w [] [] wr)
    case atStart => exact ⟨0, Nat.zero_add _, rfl, Lib.hid rfl, hS⟩
    case round =>
      clear hS
      obtain ⟨j, hj, rfl, hg, hS⟩ := hrel
      by_cases hlt : j < n
      · have hjl : j < l.length := by rw [hlen.out]; exact hlt
        obtain ⟨b, off, rfl⟩ := hbase.out (by omega)
        have hrow := hl.out.rowb hlens.out j hjl
        have hin := hmem.out _ (List.getElem_mem hjl)
        have hf7 : w.rangeAt b (off + j * 28 + 1 + 3) (flRow l[j].c.f) := fun i v hv => by
          have := hrow (4 + i) v (by rw [show 4 + i = i + 4 by omega]; exact hv)
          rwa [show off + j * 28 + 1 + 3 + i = off + j * 28 + (4 + i) by omega]
        have hfl : (flRow l[j].c.f).length = 24 := by rw [flRow_length, hin.c.len]
        have hlf := cL.out l[j].c.f hin.c.len
        have htk : l.take (j + 1) = l.take j ++ [l[j]] := List.take_succ_eq_append_getElem hjl
        cases hr : largeF l[j].c.f
        · rw [hr] at hlf
          have hg2 : (l.take (j + 1)).any (fun t => largeF t.c.f) = false := by rw [htk, List.any_append, hg.out]; simp [hr]
          replace hg2 := Lib.hid hg2
          clear htk hr hrow hin hg
          generalize l[j] = t at *
          generalize flRow t.c.f = RF at *
          replace hlf := Lib.hid hlf
          replace hf7 := Lib.hid hf7
          go_wp2_with (first
            | (go_at_call 34; (with_reducible refine (hlf.out _).mono ?_); rintro _ w9 ⟨rfl, hk9⟩; have hS1 := hS.keepB hk9; clear hk9 hS; have hS := hS1; clear hS1)
            | (with_reducible refine wpList_rangerow (n := 24) (range_old hS hf7.out) rfl rfl rfl (by kernel_rfl) (by kernel_rfl) hfl ?_))
          go_roundg (n - (j + 1))
          case measure => omega
          case rel => exact ⟨j + 1, by omega, by go_num, hg2, hS⟩
        · rw [hr] at hlf
          have hg2 : l.any (fun t => largeF t.c.f) = true := List.any_eq_true.2 ⟨l[j], List.getElem_mem hjl, hr⟩
          have hR2 : R = true := hR.out.symm.trans hg2
          clear htk hr hrow hin hg hg2
          generalize l[j] = t at *
          generalize flRow t.c.f = RF at *
          replace hlf := Lib.hid hlf
          replace hf7 := Lib.hid hf7
          replace hR2 := Lib.hid hR2
          go_wp2_with (first
            | (go_at_call 34; (with_reducible refine (hlf.out _).mono ?_); rintro _ w9 ⟨rfl, hk9⟩; have hS1 := hS.keepB hk9; clear hk9 hS; have hS := hS1; clear hS1)
            | (with_reducible refine wpList_rangerow (n := 24) (range_old hS hf7.out) rfl rfl rfl (by kernel_rfl) (by kernel_rfl) hfl ?_))
          go_ret
          exact ⟨by rw [hR2.out]; rfl, hS.below⟩
      · have hjn : l.take j = l := List.take_of_length_le (by rw [hlen.out]; omega)
        have hR2 : R = false := by rw [← hR.out]; have := hg.out; rwa [hjn] at this
        replace hR2 := Lib.hid hR2
        clear hjn
        go_wp2_with fail
        go_ret
        exact ⟨by rw [hR2.out]; rfl, hS.below⟩
end Go.Proofs.Ytajldelodnjmoaa
end
