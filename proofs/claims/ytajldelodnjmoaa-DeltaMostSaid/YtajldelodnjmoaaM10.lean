/- Texts laid together: IdsCheck Trans1 Ids3 Along IdsLib. -/
import Derived.Test.YtajldelodnjmoaaM3
import Derived.Test.YtajldelodnjmoaaM4
import Derived.Test.YtajldelodnjmoaaM6
import Derived.Test.YtajldelodnjmoaaM7
import Derived.Test.YtajldelodnjmoaaM8
import Derived.Test.YtajldelodnjmoaaM9
section
/- Lists of numbers: does one rise? -/
set_option linter.unusedSimpArgs false
set_option linter.unusedVariables false
namespace Go.Ofp.Ids
end Go.Ofp.Ids
namespace Go.Proofs.Ytajldelodnjmoaa
open Go.RowKit Go.Ofp
set_option linter.unusedVariables false
set_option maxRecDepth 100000
set_option maxHeartbeats 4000000

end Go.Proofs.Ytajldelodnjmoaa
end

section
/- May a turn be: the document's and the program's. -/
set_option linter.unusedSimpArgs false
set_option linter.unusedVariables false
namespace Go.Proofs.Ytajldelodnjmoaa
open Go.RowKit Go.Ofp
set_option linter.unusedVariables false
set_option maxRecDepth 100000
set_option maxHeartbeats 4000000

theorem elem_turn : Elem Try.prog 52 (.agg #[.int .i64 0, .int .i64 0, .int .i64 0, .int .i64 0, .int .i64 0, .int .i64 0, .int .u32 0, .int .i64 0, .int .i64 0, .string ⟨#[]⟩, .int .i64 0, .int .i64 0, .string ⟨#[]⟩, .int .i64 0, .int .i64 0, .string ⟨#[]⟩, .int .i64 0, .int .i64 0, .string ⟨#[]⟩, .int .i64 0, .int .i64 0, .string ⟨#[]⟩, .int .i64 0, .int .i64 0, .string ⟨#[]⟩, .int .i64 0, .int .i64 0, .string ⟨#[]⟩, .int .i64 0, .int .i64 0, .string ⟨#[]⟩]) 31 312 := Elem.mk (by kernel_rfl) (by rfl) (by decide)
theorem cd_zero : (cdRow (Cd.none 0)).toArray = #[.int .i64 0, .int .i64 0, .int .u32 0, .int .i64 0, .int .i64 0, .string ⟨#[]⟩, .int .i64 0, .int .i64 0, .string ⟨#[]⟩, .int .i64 0, .int .i64 0, .string ⟨#[]⟩, .int .i64 0, .int .i64 0, .string ⟨#[]⟩, .int .i64 0, .int .i64 0, .string ⟨#[]⟩, .int .i64 0, .int .i64 0, .string ⟨#[]⟩, .int .i64 0, .int .i64 0, .string ⟨#[]⟩, .int .i64 0, .int .i64 0, .string ⟨#[]⟩] := rfl
theorem noF_len : (Cd.none 0).f.length = 8 := rfl

/-- What stands behind the plain bounds. -/
def tnRest (t : Tn) : Bool := if t.new = 0 then decide (t.c = Cd.none 0) else Cd.fine Cd.ok t.c t.id t.new
theorem may_eq (t : Tn) : t.may Cd.ok = (decide (1 ≤ t.seq ∧ t.seq ≤ 1099511627776 ∧ 1 ≤ t.id ∧ t.id < 1073741824 ∧ 0 ≤ t.old ∧ t.old ≤ 1099511627776 ∧ 0 ≤ t.new ∧ t.new ≤ 1099511627776 ∧ t.old ≠ t.new) && tnRest t) := rfl

theorem rturn_any (t : Tn) (hf : t.c.f.length = 8) (w : World) : Calls Try.prog 51 #[.agg (tnRow t).toArray] w fun e w' => e = .returned (.bool (t.may Cd.ok)) ∧ Below w.heap.size w w' := by
  have hS := St.start w
  have cC := Lib.hid fun W : World => rckc_any t.c hf W
  have hE0 := fun W : World => eql_cd t.c (Cd.none 0) hf noF_len W
  rw [cd_zero] at hE0
  have hG := guard_cd
  rw [may_eq]
  have hrest : tnRest t = if t.new = 0 then decide (t.c = Cd.none 0) else (t.c.ok && decide (t.c.id = t.id ∧ t.c.ver = t.new)) := rfl
  generalize hz : decide (t.c = Cd.none 0) = zb at *
  clear hz
  generalize t.c.ok = ob at *
  obtain ⟨seq, id, old, new, cid, cver, lab, f⟩ := t
  dsimp only at *
  have hfl : (flRow f).length = 24 := by rw [flRow_length, hf]
  have hcr : cdRow ⟨cid, cver, lab, f⟩ = .int .i64 cid :: .int .i64 cver :: .int .u32 lab :: flRow f := rfl
  rw [hcr] at hE0
  simp only [tnRow, cdRow] at *
  clear hcr
  have hd4 : ((Value.int .i64 seq :: .int .i64 id :: .int .i64 old :: .int .i64 new :: .int .i64 cid :: .int .i64 cver :: .int .u32 lab :: flRow f).toArray.toList.drop 4).take 27 = (Value.int .i64 cid :: .int .i64 cver :: .int .u32 lab :: flRow f) := List.take_of_length_le (by simp [hfl])
  have hl27 : (Value.int .i64 cid :: .int .i64 cver :: .int .u32 lab :: flRow f).length = 27 := by simp [hfl]
  clear hf
  by_cases h1 : seq < 1
  · rw [decide_eq_false (by omega), Bool.false_and]
    have d1 : decide (seq < 1) = true := decide_eq_true h1
    try clear h1
    try clear h2
    try clear h3
    try clear h4
    try clear h5
    try clear h6
    try clear h7
    try clear h8
    try clear h9
    try clear h10
    try clear h11
    clear hrest
    go_enter Try.func51, Try.ntmps51
    go_wp2_with (first
      | (go_at_call 19; (with_reducible refine (cC.out _).mono ?_); rintro _ w9 ⟨rfl, hk9⟩; have hS1 := hS.keepB hk9; clear hk9 hS; have hS := hS1; clear hS1)
      | (with_reducible refine wpList_box_st (L := []) hS rfl rfl rfl ?_; intro gc w1 hS1; clear hS; have hS := hS1; clear hS1)
      | ((with_reducible refine wpList_loadrow_st (n := 27) 0 hS rfl rfl rfl rfl ?_ (by kernel_rfl) hd4 hl27 ?_); focus (simp [rowB, go_sem]; done))
      | ((with_reducible refine wpList_gload_st 0 hS rfl (by with_unfolding_all rfl) rfl rfl ?_ rfl ?_); focus (simp [scalarB, go_sem]; done)))
    go_ret
    exact ⟨by first | rfl | simp, hS.below⟩
  have d1 : decide (seq < 1) = false := decide_eq_false h1
  by_cases h2 : 1099511627776 < seq
  · rw [decide_eq_false (by omega), Bool.false_and]
    have d2 : decide ((1099511627776 : Int) < seq) = true := decide_eq_true h2
    try clear h1
    try clear h2
    try clear h3
    try clear h4
    try clear h5
    try clear h6
    try clear h7
    try clear h8
    try clear h9
    try clear h10
    try clear h11
    clear hrest
    go_enter Try.func51, Try.ntmps51
    go_wp2_with (first
      | (go_at_call 19; (with_reducible refine (cC.out _).mono ?_); rintro _ w9 ⟨rfl, hk9⟩; have hS1 := hS.keepB hk9; clear hk9 hS; have hS := hS1; clear hS1)
      | (with_reducible refine wpList_box_st (L := []) hS rfl rfl rfl ?_; intro gc w1 hS1; clear hS; have hS := hS1; clear hS1)
      | ((with_reducible refine wpList_loadrow_st (n := 27) 0 hS rfl rfl rfl rfl ?_ (by kernel_rfl) hd4 hl27 ?_); focus (simp [rowB, go_sem]; done))
      | ((with_reducible refine wpList_gload_st 0 hS rfl (by with_unfolding_all rfl) rfl rfl ?_ rfl ?_); focus (simp [scalarB, go_sem]; done)))
    go_ret
    exact ⟨by first | rfl | simp, hS.below⟩
  have d2 : decide ((1099511627776 : Int) < seq) = false := decide_eq_false h2
  by_cases h3 : id < 1
  · rw [decide_eq_false (by omega), Bool.false_and]
    have d3 : decide (id < 1) = true := decide_eq_true h3
    try clear h1
    try clear h2
    try clear h3
    try clear h4
    try clear h5
    try clear h6
    try clear h7
    try clear h8
    try clear h9
    try clear h10
    try clear h11
    clear hrest
    go_enter Try.func51, Try.ntmps51
    go_wp2_with (first
      | (go_at_call 19; (with_reducible refine (cC.out _).mono ?_); rintro _ w9 ⟨rfl, hk9⟩; have hS1 := hS.keepB hk9; clear hk9 hS; have hS := hS1; clear hS1)
      | (with_reducible refine wpList_box_st (L := []) hS rfl rfl rfl ?_; intro gc w1 hS1; clear hS; have hS := hS1; clear hS1)
      | ((with_reducible refine wpList_loadrow_st (n := 27) 0 hS rfl rfl rfl rfl ?_ (by kernel_rfl) hd4 hl27 ?_); focus (simp [rowB, go_sem]; done))
      | ((with_reducible refine wpList_gload_st 0 hS rfl (by with_unfolding_all rfl) rfl rfl ?_ rfl ?_); focus (simp [scalarB, go_sem]; done)))
    go_ret
    exact ⟨by first | rfl | simp, hS.below⟩
  have d3 : decide (id < 1) = false := decide_eq_false h3
  by_cases h4 : 1073741824 ≤ id
  · rw [decide_eq_false (by omega), Bool.false_and]
    have d4 : decide ((1073741824 : Int) ≤ id) = true := decide_eq_true h4
    try clear h1
    try clear h2
    try clear h3
    try clear h4
    try clear h5
    try clear h6
    try clear h7
    try clear h8
    try clear h9
    try clear h10
    try clear h11
    clear hrest
    go_enter Try.func51, Try.ntmps51
    go_wp2_with (first
      | (go_at_call 19; (with_reducible refine (cC.out _).mono ?_); rintro _ w9 ⟨rfl, hk9⟩; have hS1 := hS.keepB hk9; clear hk9 hS; have hS := hS1; clear hS1)
      | (with_reducible refine wpList_box_st (L := []) hS rfl rfl rfl ?_; intro gc w1 hS1; clear hS; have hS := hS1; clear hS1)
      | ((with_reducible refine wpList_loadrow_st (n := 27) 0 hS rfl rfl rfl rfl ?_ (by kernel_rfl) hd4 hl27 ?_); focus (simp [rowB, go_sem]; done))
      | ((with_reducible refine wpList_gload_st 0 hS rfl (by with_unfolding_all rfl) rfl rfl ?_ rfl ?_); focus (simp [scalarB, go_sem]; done)))
    go_ret
    exact ⟨by first | rfl | simp, hS.below⟩
  have d4 : decide ((1073741824 : Int) ≤ id) = false := decide_eq_false h4
  by_cases h5 : old < 0
  · rw [decide_eq_false (by omega), Bool.false_and]
    have d5 : decide (old < 0) = true := decide_eq_true h5
    try clear h1
    try clear h2
    try clear h3
    try clear h4
    try clear h5
    try clear h6
    try clear h7
    try clear h8
    try clear h9
    try clear h10
    try clear h11
    clear hrest
    go_enter Try.func51, Try.ntmps51
    go_wp2_with (first
      | (go_at_call 19; (with_reducible refine (cC.out _).mono ?_); rintro _ w9 ⟨rfl, hk9⟩; have hS1 := hS.keepB hk9; clear hk9 hS; have hS := hS1; clear hS1)
      | (with_reducible refine wpList_box_st (L := []) hS rfl rfl rfl ?_; intro gc w1 hS1; clear hS; have hS := hS1; clear hS1)
      | ((with_reducible refine wpList_loadrow_st (n := 27) 0 hS rfl rfl rfl rfl ?_ (by kernel_rfl) hd4 hl27 ?_); focus (simp [rowB, go_sem]; done))
      | ((with_reducible refine wpList_gload_st 0 hS rfl (by with_unfolding_all rfl) rfl rfl ?_ rfl ?_); focus (simp [scalarB, go_sem]; done)))
    go_ret
    exact ⟨by first | rfl | simp, hS.below⟩
  have d5 : decide (old < 0) = false := decide_eq_false h5
  by_cases h6 : 1099511627776 < old
  · rw [decide_eq_false (by omega), Bool.false_and]
    have d6 : decide ((1099511627776 : Int) < old) = true := decide_eq_true h6
    try clear h1
    try clear h2
    try clear h3
    try clear h4
    try clear h5
    try clear h6
    try clear h7
    try clear h8
    try clear h9
    try clear h10
    try clear h11
    clear hrest
    go_enter Try.func51, Try.ntmps51
    go_wp2_with (first
      | (go_at_call 19; (with_reducible refine (cC.out _).mono ?_); rintro _ w9 ⟨rfl, hk9⟩; have hS1 := hS.keepB hk9; clear hk9 hS; have hS := hS1; clear hS1)
      | (with_reducible refine wpList_box_st (L := []) hS rfl rfl rfl ?_; intro gc w1 hS1; clear hS; have hS := hS1; clear hS1)
      | ((with_reducible refine wpList_loadrow_st (n := 27) 0 hS rfl rfl rfl rfl ?_ (by kernel_rfl) hd4 hl27 ?_); focus (simp [rowB, go_sem]; done))
      | ((with_reducible refine wpList_gload_st 0 hS rfl (by with_unfolding_all rfl) rfl rfl ?_ rfl ?_); focus (simp [scalarB, go_sem]; done)))
    go_ret
    exact ⟨by first | rfl | simp, hS.below⟩
  have d6 : decide ((1099511627776 : Int) < old) = false := decide_eq_false h6
  by_cases h7 : new < 0
  · rw [decide_eq_false (by omega), Bool.false_and]
    have d7 : decide (new < 0) = true := decide_eq_true h7
    try clear h1
    try clear h2
    try clear h3
    try clear h4
    try clear h5
    try clear h6
    try clear h7
    try clear h8
    try clear h9
    try clear h10
    try clear h11
    clear hrest
    go_enter Try.func51, Try.ntmps51
    go_wp2_with (first
      | (go_at_call 19; (with_reducible refine (cC.out _).mono ?_); rintro _ w9 ⟨rfl, hk9⟩; have hS1 := hS.keepB hk9; clear hk9 hS; have hS := hS1; clear hS1)
      | (with_reducible refine wpList_box_st (L := []) hS rfl rfl rfl ?_; intro gc w1 hS1; clear hS; have hS := hS1; clear hS1)
      | ((with_reducible refine wpList_loadrow_st (n := 27) 0 hS rfl rfl rfl rfl ?_ (by kernel_rfl) hd4 hl27 ?_); focus (simp [rowB, go_sem]; done))
      | ((with_reducible refine wpList_gload_st 0 hS rfl (by with_unfolding_all rfl) rfl rfl ?_ rfl ?_); focus (simp [scalarB, go_sem]; done)))
    go_ret
    exact ⟨by first | rfl | simp, hS.below⟩
  have d7 : decide (new < 0) = false := decide_eq_false h7
  by_cases h8 : 1099511627776 < new
  · rw [decide_eq_false (by omega), Bool.false_and]
    have d8 : decide ((1099511627776 : Int) < new) = true := decide_eq_true h8
    try clear h1
    try clear h2
    try clear h3
    try clear h4
    try clear h5
    try clear h6
    try clear h7
    try clear h8
    try clear h9
    try clear h10
    try clear h11
    clear hrest
    go_enter Try.func51, Try.ntmps51
    go_wp2_with (first
      | (go_at_call 19; (with_reducible refine (cC.out _).mono ?_); rintro _ w9 ⟨rfl, hk9⟩; have hS1 := hS.keepB hk9; clear hk9 hS; have hS := hS1; clear hS1)
      | (with_reducible refine wpList_box_st (L := []) hS rfl rfl rfl ?_; intro gc w1 hS1; clear hS; have hS := hS1; clear hS1)
      | ((with_reducible refine wpList_loadrow_st (n := 27) 0 hS rfl rfl rfl rfl ?_ (by kernel_rfl) hd4 hl27 ?_); focus (simp [rowB, go_sem]; done))
      | ((with_reducible refine wpList_gload_st 0 hS rfl (by with_unfolding_all rfl) rfl rfl ?_ rfl ?_); focus (simp [scalarB, go_sem]; done)))
    go_ret
    exact ⟨by first | rfl | simp, hS.below⟩
  have d8 : decide ((1099511627776 : Int) < new) = false := decide_eq_false h8
  by_cases h9 : old = new
  · rw [decide_eq_false (by omega), Bool.false_and]
    have d9 : (old == new) = true := by simpa using h9
    try clear h1
    try clear h2
    try clear h3
    try clear h4
    try clear h5
    try clear h6
    try clear h7
    try clear h8
    try clear h9
    try clear h10
    try clear h11
    clear hrest
    go_enter Try.func51, Try.ntmps51
    go_wp2_with (first
      | (go_at_call 19; (with_reducible refine (cC.out _).mono ?_); rintro _ w9 ⟨rfl, hk9⟩; have hS1 := hS.keepB hk9; clear hk9 hS; have hS := hS1; clear hS1)
      | (with_reducible refine wpList_box_st (L := []) hS rfl rfl rfl ?_; intro gc w1 hS1; clear hS; have hS := hS1; clear hS1)
      | ((with_reducible refine wpList_loadrow_st (n := 27) 0 hS rfl rfl rfl rfl ?_ (by kernel_rfl) hd4 hl27 ?_); focus (simp [rowB, go_sem]; done))
      | ((with_reducible refine wpList_gload_st 0 hS rfl (by with_unfolding_all rfl) rfl rfl ?_ rfl ?_); focus (simp [scalarB, go_sem]; done)))
    go_ret
    exact ⟨by first | rfl | simp, hS.below⟩
  have d9 : (old == new) = false := by simpa using h9
  rw [decide_eq_true (by omega), Bool.true_and, hrest]
  by_cases h10 : new = 0
  · rw [if_pos h10]
    have d10 : (new == 0) = true := by simpa using h10
    try clear h1
    try clear h2
    try clear h3
    try clear h4
    try clear h5
    try clear h6
    try clear h7
    try clear h8
    try clear h9
    try clear h10
    try clear h11
    clear hrest
    go_enter Try.func51, Try.ntmps51
    go_wp2_with (first
      | (go_at_call 19; (with_reducible refine (cC.out _).mono ?_); rintro _ w9 ⟨rfl, hk9⟩; have hS1 := hS.keepB hk9; clear hk9 hS; have hS := hS1; clear hS1)
      | (with_reducible refine wpList_box_st (L := []) hS rfl rfl rfl ?_; intro gc w1 hS1; clear hS; have hS := hS1; clear hS1)
      | ((with_reducible refine wpList_loadrow_st (n := 27) 0 hS rfl rfl rfl rfl ?_ (by kernel_rfl) hd4 hl27 ?_); focus (simp [rowB, go_sem]; done))
      | ((with_reducible refine wpList_gload_st 0 hS rfl (by with_unfolding_all rfl) rfl rfl ?_ rfl ?_); focus (simp [scalarB, go_sem]; done)))
    go_ret
    exact ⟨by first | rfl | simp, hS.below⟩
  rw [if_neg h10]
  have d10 : (new == 0) = false := by simpa using h10
  cases ob
  · rw [Bool.false_and]
    try clear h1
    try clear h2
    try clear h3
    try clear h4
    try clear h5
    try clear h6
    try clear h7
    try clear h8
    try clear h9
    try clear h10
    try clear h11
    clear hrest
    go_enter Try.func51, Try.ntmps51
    go_wp2_with (first
      | (go_at_call 19; (with_reducible refine (cC.out _).mono ?_); rintro _ w9 ⟨rfl, hk9⟩; have hS1 := hS.keepB hk9; clear hk9 hS; have hS := hS1; clear hS1)
      | (with_reducible refine wpList_box_st (L := []) hS rfl rfl rfl ?_; intro gc w1 hS1; clear hS; have hS := hS1; clear hS1)
      | ((with_reducible refine wpList_loadrow_st (n := 27) 0 hS rfl rfl rfl rfl ?_ (by kernel_rfl) hd4 hl27 ?_); focus (simp [rowB, go_sem]; done))
      | ((with_reducible refine wpList_gload_st 0 hS rfl (by with_unfolding_all rfl) rfl rfl ?_ rfl ?_); focus (simp [scalarB, go_sem]; done)))
    go_ret
    exact ⟨by first | rfl | simp, hS.below⟩
  rw [Bool.true_and]
  by_cases h11 : cid = id
  · by_cases h12 : cver = new
    · rw [decide_eq_true ⟨h11, h12⟩]
      have d11 : (cid == id) = true := by simpa using h11
      have d12 : (cver == new) = true := by simpa using h12
      clear h12
      try clear h1
      try clear h2
      try clear h3
      try clear h4
      try clear h5
      try clear h6
      try clear h7
      try clear h8
      try clear h9
      try clear h10
      try clear h11
      clear hrest
      go_enter Try.func51, Try.ntmps51
      go_wp2_with (first
        | (go_at_call 19; (with_reducible refine (cC.out _).mono ?_); rintro _ w9 ⟨rfl, hk9⟩; have hS1 := hS.keepB hk9; clear hk9 hS; have hS := hS1; clear hS1)
        | (with_reducible refine wpList_box_st (L := []) hS rfl rfl rfl ?_; intro gc w1 hS1; clear hS; have hS := hS1; clear hS1)
        | ((with_reducible refine wpList_loadrow_st (n := 27) 0 hS rfl rfl rfl rfl ?_ (by kernel_rfl) hd4 hl27 ?_); focus (simp [rowB, go_sem]; done))
        | ((with_reducible refine wpList_gload_st 0 hS rfl (by with_unfolding_all rfl) rfl rfl ?_ rfl ?_); focus (simp [scalarB, go_sem]; done)))
      go_ret
      exact ⟨by first | rfl | simp, hS.below⟩
    · rw [decide_eq_false (fun k => h12 k.2)]
      have d11 : (cid == id) = true := by simpa using h11
      have d12 : (cver == new) = false := by simpa using h12
      clear h12
      try clear h1
      try clear h2
      try clear h3
      try clear h4
      try clear h5
      try clear h6
      try clear h7
      try clear h8
      try clear h9
      try clear h10
      try clear h11
      clear hrest
      go_enter Try.func51, Try.ntmps51
      go_wp2_with (first
        | (go_at_call 19; (with_reducible refine (cC.out _).mono ?_); rintro _ w9 ⟨rfl, hk9⟩; have hS1 := hS.keepB hk9; clear hk9 hS; have hS := hS1; clear hS1)
        | (with_reducible refine wpList_box_st (L := []) hS rfl rfl rfl ?_; intro gc w1 hS1; clear hS; have hS := hS1; clear hS1)
        | ((with_reducible refine wpList_loadrow_st (n := 27) 0 hS rfl rfl rfl rfl ?_ (by kernel_rfl) hd4 hl27 ?_); focus (simp [rowB, go_sem]; done))
        | ((with_reducible refine wpList_gload_st 0 hS rfl (by with_unfolding_all rfl) rfl rfl ?_ rfl ?_); focus (simp [scalarB, go_sem]; done)))
      go_ret
      exact ⟨by first | rfl | simp, hS.below⟩
  · rw [decide_eq_false (fun k => h11 k.1)]
    have d11 : (cid == id) = false := by simpa using h11
    try clear h1
    try clear h2
    try clear h3
    try clear h4
    try clear h5
    try clear h6
    try clear h7
    try clear h8
    try clear h9
    try clear h10
    try clear h11
    clear hrest
    go_enter Try.func51, Try.ntmps51
    go_wp2_with (first
      | (go_at_call 19; (with_reducible refine (cC.out _).mono ?_); rintro _ w9 ⟨rfl, hk9⟩; have hS1 := hS.keepB hk9; clear hk9 hS; have hS := hS1; clear hS1)
      | (with_reducible refine wpList_box_st (L := []) hS rfl rfl rfl ?_; intro gc w1 hS1; clear hS; have hS := hS1; clear hS1)
      | ((with_reducible refine wpList_loadrow_st (n := 27) 0 hS rfl rfl rfl rfl ?_ (by kernel_rfl) hd4 hl27 ?_); focus (simp [rowB, go_sem]; done))
      | ((with_reducible refine wpList_gload_st 0 hS rfl (by with_unfolding_all rfl) rfl rfl ?_ rfl ?_); focus (simp [scalarB, go_sem]; done)))
    go_ret
    exact ⟨by first | rfl | simp, hS.below⟩
end Go.Proofs.Ytajldelodnjmoaa
end

section
/- Lists of numbers: one put in, all of two. -/
set_option linter.unusedSimpArgs false
set_option linter.unusedVariables false
namespace Go.Proofs.Ytajldelodnjmoaa
open Go.RowKit Go.Ofp
set_option linter.unusedVariables false
set_option maxRecDepth 100000
set_option maxHeartbeats 4000000

end Go.Proofs.Ytajldelodnjmoaa
end

section
/- Lists of numbers: the program's way along two lists. -/
set_option linter.unusedSimpArgs false
set_option linter.unusedVariables false
namespace Go.Ofp.Ids
end Go.Ofp.Ids
namespace Go.Proofs.Ytajldelodnjmoaa
open Go.RowKit Go.Ofp
set_option linter.unusedVariables false
set_option maxRecDepth 100000
set_option maxHeartbeats 4000000

end Go.Proofs.Ytajldelodnjmoaa
end

section
/- The library's looks into lists of numbers, and copies of these. -/
set_option linter.unusedSimpArgs false
set_option linter.unusedVariables false
namespace Go.Ofp.Ids
end Go.Ofp.Ids
namespace Go.Proofs.Ytajldelodnjmoaa
open Go.RowKit Go.Ofp
set_option linter.unusedVariables false
set_option maxRecDepth 100000
set_option maxHeartbeats 4000000

end Go.Proofs.Ytajldelodnjmoaa
end
