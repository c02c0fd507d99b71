/- Texts laid together: IdsIns IdsOps Trans2 CardDiff CardDiffR. -/
import Derived.Lib.Overlaps
import Derived.Laws.Externs
import Derived.Test.YtajldelodnjmoaaM10
import Derived.Test.YtajldelodnjmoaaM3
import Derived.Test.YtajldelodnjmoaaM7
import Derived.Test.YtajldelodnjmoaaM9
section
/- The library's Insert and Delete, at numbers. -/
set_option linter.unusedSimpArgs false
set_option linter.unusedVariables false
namespace Go.Ofp
open Go.RowKit
end Go.Ofp
namespace Go.Proofs.Ytajldelodnjmoaa
open Go.RowKit Go.Ofp
set_option linter.unusedVariables false
set_option maxRecDepth 100000
set_option maxHeartbeats 4000000

end Go.Proofs.Ytajldelodnjmoaa
end

section
/- Lists of numbers: what the program does with one. -/
set_option linter.unusedSimpArgs false
set_option linter.unusedVariables false
namespace Go.Ofp
open Go.RowKit
end Go.Ofp
namespace Go.Ofp.Ids
end Go.Ofp.Ids
namespace Go.Proofs.Ytajldelodnjmoaa
open Go.RowKit Go.Ofp
set_option linter.unusedVariables false
set_option maxRecDepth 100000
set_option maxHeartbeats 4000000

theorem check_any (a : Option Addr) (l : List Int) (n cap : Nat) (w : World) (hs : Sl w a (l.map vi)) (hn : l.length = n) (hm : n ≤ maxLen) :
    Calls Try.prog 73 #[.slice a n cap] w fun e w' => e = .returned (.bool (Ids.chk l)) ∧ w = w' := by
  unfold maxLen at hm
  replace hn := Lib.hid hn
  replace hs := Lib.hid hs
  go_enter Try.func73, Try.ntmps73
  go_wp2_with fail
  go_loopg [3, 8] n (fun gk vl vx wr => ∃ (j : Nat) (y : Int), j + gk = n ∧ vx = .int .i64 j ∧ vl = .int .i64 y ∧ Hid (Ids.chk l = Ids.chkFrom y (l.drop j)) ∧ w = wr)
  case atStart => exact ⟨0, 0, Nat.zero_add _, rfl, rfl, Lib.hid rfl, rfl⟩
  case round =>
    obtain ⟨j, y, hj, rfl, rfl, hr, rfl⟩ := hrel
    by_cases hlt : j < n
    · obtain ⟨b, off, rfl, hc⟩ := sl_int hs.out j (by rw [hn.out]; exact hlt)
      have t1 := List.drop_eq_getElem_cons (l := l) (i := j) (by rw [hn.out]; exact hlt)
      generalize l[j]'(by rw [hn.out]; exact hlt) = x at hc t1
      have hr2 := hr.out
      rw [t1] at hr2
      simp only [Ids.chkFrom] at hr2
      by_cases h1 : x ≤ y
      · rw [decide_eq_false (by omega), Bool.false_and] at hr2
        replace hr2 := Lib.hid hr2
        clear t1
        go_wp2_with fail
        go_ret
        exact ⟨by rw [hr2.out]; rfl, rfl⟩
      · have h1' : y < x := by omega
        have d1 : decide (x ≤ y) = false := decide_eq_false h1
        by_cases h2 : 1073741824 ≤ x
        · rw [decide_eq_true h1', decide_eq_false (p := x < 1073741824) (by omega)] at hr2
          replace hr2 := Lib.hid hr2
          clear t1 h1
          go_wp2_with fail
          go_ret
          exact ⟨by rw [hr2.out]; rfl, rfl⟩
        · have h2' : x < 1073741824 := by omega
          have d2 : decide (1073741824 ≤ x) = false := decide_eq_false h2
          rw [decide_eq_true h1', decide_eq_true h2', Bool.true_and, Bool.true_and] at hr2
          replace hr2 := Lib.hid hr2
          clear t1 h1 h2
          go_wp2_with fail
          go_roundg (n - (j + 1))
          case measure => omega
          case rel => exact ⟨j + 1, x, by omega, by go_num, rfl, hr2, rfl⟩
    · obtain rfl : j = n := by omega
      have hr2 := hr.out
      rw [List.drop_of_length_le (by rw [hn.out]; exact Nat.le_refl _)] at hr2
      replace hr2 := Lib.hid hr2
      go_wp2_with fail
      go_ret
      exact ⟨by rw [hr2.out]; rfl, rfl⟩
end Go.Proofs.Ytajldelodnjmoaa
end

section
/- May a turn be: the program's. -/
set_option linter.unusedSimpArgs false
set_option linter.unusedVariables false
namespace Go.Proofs.Ytajldelodnjmoaa
open Go.RowKit Go.Ofp
set_option linter.unusedVariables false
set_option maxRecDepth 100000
set_option maxHeartbeats 4000000

theorem may_any (t : Tn) (hf : t.c.f.length = 8) (w : World) : Calls Try.prog 60 #[.agg (tnRow t).toArray] w fun e w' => e = .returned (.bool (t.may Cd.ok)) ∧ Below w.heap.size w w' := by
  have hS := St.start w
  have ei := elem_i
  have cC := Lib.hid fun W : World => ckc_any t.c hf W
  have hE0 := fun W : World => eql_cd t.c (Cd.none 0) hf noF_len W
  rw [cd_zero] at hE0
  have hG := guard_cd
  rw [may_eq]
  have hrest : tnRest t = if t.new = 0 then decide (t.c = Cd.none 0) else (t.c.ok && decide (t.c.id = t.id ∧ t.c.ver = t.new)) := rfl
  generalize hz : decide (t.c = Cd.none 0) = zb at *
  clear hz
  generalize t.c.ok = ob at *
  obtain ⟨seq, id, old, new, cid, cver, lab, f⟩ := t
  dsimp only at *
  have cI : ∀ (g : Nat) (W : World), Sl W (some ⟨g, 0, none⟩) [.int .i64 id] → Calls Try.prog 73 #[.slice (some ⟨g, 0, none⟩) 1 1] W fun e w' => e = .returned (.bool (decide (1 ≤ id ∧ id < 1073741824))) ∧ W = w' := fun g W h => (check_any (some ⟨g, 0, none⟩) [id] 1 1 W h rfl (by decide)).mono fun e w' ⟨h1, h2⟩ => ⟨by
    rw [h1]
    congr 2
    unfold Ids.chk Ids.chkFrom Ids.chkFrom
    rw [Bool.and_true, ← Bool.decide_and]
    exact decide_eq_decide.2 ⟨fun h => ⟨by omega, h.2⟩, fun h => ⟨by omega, h.2⟩⟩, h2⟩
  have hfl : (flRow f).length = 24 := by rw [flRow_length, hf]
  have hcr : cdRow ⟨cid, cver, lab, f⟩ = .int .i64 cid :: .int .i64 cver :: .int .u32 lab :: flRow f := rfl
  rw [hcr] at hE0
  simp only [tnRow, cdRow] at *
  clear hcr
  have hd4 : ((Value.int .i64 seq :: .int .i64 id :: .int .i64 old :: .int .i64 new :: .int .i64 cid :: .int .i64 cver :: .int .u32 lab :: flRow f).toArray.toList.drop 4).take 27 = (Value.int .i64 cid :: .int .i64 cver :: .int .u32 lab :: flRow f) := List.take_of_length_le (by simp [hfl])
  have hl27 : (Value.int .i64 cid :: .int .i64 cver :: .int .u32 lab :: flRow f).length = 27 := by simp [hfl]
  clear hf
  by_cases h1 : seq < 1
  · rw [decide_eq_false (by omega), Bool.false_and]
    have d1 : decide (seq < 1) = true := decide_eq_true h1
    try clear h1
    try clear h2
    try clear h3
    try clear h5
    try clear h6
    try clear h9
    try clear h10
    try clear h11
    try clear hmn2 hmx2
    clear hrest
    replace cI := Lib.hid cI
    go_enter Try.func60, Try.ntmps60
    go_wp2_with (first
      | (go_at_call 73; (with_reducible refine (cI.out _ _ (hS.blksl2 0 rfl)).mono ?_); rintro _ _ ⟨rfl, rfl⟩)
      | (go_at_call 63; (with_reducible refine (cC.out _).mono ?_); rintro _ w9 ⟨rfl, hk9⟩; have hS1 := hS.keepB hk9; clear hk9 hS; have hS := hS1; clear hS1)
      | (with_reducible refine wpList_box_st (L := []) hS rfl rfl rfl ?_; intro gc w1 hS1; clear hS; have hS := hS1; clear hS1)
      | (refine wpList_of_op fun K hK => op_build1c_st (by with_unfolding_all rfl) hS rfl Try.underlying88 ei rfl ?_; intro g3 w3 hS1; refine hK _ _ ?_; clear hK hS; have hS := hS1; clear hS1)
      | ((with_reducible refine wpList_loadrow_st (n := 27) 0 hS rfl rfl rfl rfl ?_ (by kernel_rfl) hd4 hl27 ?_); focus (simp [rowB, go_sem]; done))
      | ((with_reducible refine wpList_loadrow_st (n := 27) 1 hS rfl rfl rfl rfl ?_ (by kernel_rfl) hd4 hl27 ?_); focus (simp [rowB, go_sem]; done))
      | ((with_reducible refine wpList_gload_st 0 hS rfl (by with_unfolding_all rfl) rfl rfl ?_ rfl ?_); focus (simp [scalarB, go_sem]; done))
      | ((with_reducible refine wpList_gload_st 1 hS rfl (by with_unfolding_all rfl) rfl rfl ?_ rfl ?_); focus (simp [scalarB, go_sem]; done)))
    go_ret
    exact ⟨by first | rfl | simp, hS.below⟩
  have d1 : decide (seq < 1) = false := decide_eq_false h1
  by_cases h2 : 1099511627776 < seq
  · rw [decide_eq_false (by omega), Bool.false_and]
    have d2 : decide ((1099511627776 : Int) < seq) = true := decide_eq_true h2
    try clear h1
    try clear h2
    try clear h3
    try clear h5
    try clear h6
    try clear h9
    try clear h10
    try clear h11
    try clear hmn2 hmx2
    clear hrest
    replace cI := Lib.hid cI
    go_enter Try.func60, Try.ntmps60
    go_wp2_with (first
      | (go_at_call 73; (with_reducible refine (cI.out _ _ (hS.blksl2 0 rfl)).mono ?_); rintro _ _ ⟨rfl, rfl⟩)
      | (go_at_call 63; (with_reducible refine (cC.out _).mono ?_); rintro _ w9 ⟨rfl, hk9⟩; have hS1 := hS.keepB hk9; clear hk9 hS; have hS := hS1; clear hS1)
      | (with_reducible refine wpList_box_st (L := []) hS rfl rfl rfl ?_; intro gc w1 hS1; clear hS; have hS := hS1; clear hS1)
      | (refine wpList_of_op fun K hK => op_build1c_st (by with_unfolding_all rfl) hS rfl Try.underlying88 ei rfl ?_; intro g3 w3 hS1; refine hK _ _ ?_; clear hK hS; have hS := hS1; clear hS1)
      | ((with_reducible refine wpList_loadrow_st (n := 27) 0 hS rfl rfl rfl rfl ?_ (by kernel_rfl) hd4 hl27 ?_); focus (simp [rowB, go_sem]; done))
      | ((with_reducible refine wpList_loadrow_st (n := 27) 1 hS rfl rfl rfl rfl ?_ (by kernel_rfl) hd4 hl27 ?_); focus (simp [rowB, go_sem]; done))
      | ((with_reducible refine wpList_gload_st 0 hS rfl (by with_unfolding_all rfl) rfl rfl ?_ rfl ?_); focus (simp [scalarB, go_sem]; done))
      | ((with_reducible refine wpList_gload_st 1 hS rfl (by with_unfolding_all rfl) rfl rfl ?_ rfl ?_); focus (simp [scalarB, go_sem]; done)))
    go_ret
    exact ⟨by first | rfl | simp, hS.below⟩
  have d2 : decide ((1099511627776 : Int) < seq) = false := decide_eq_false h2
  by_cases h3 : ¬ (1 ≤ id ∧ id < 1073741824)
  · rw [decide_eq_false (by omega), Bool.false_and]
    rw [decide_eq_false h3] at cI
    try clear h1
    try clear h2
    try clear h3
    try clear h5
    try clear h6
    try clear h9
    try clear h10
    try clear h11
    try clear hmn2 hmx2
    clear hrest
    replace cI := Lib.hid cI
    go_enter Try.func60, Try.ntmps60
    go_wp2_with (first
      | (go_at_call 73; (with_reducible refine (cI.out _ _ (hS.blksl2 0 rfl)).mono ?_); rintro _ _ ⟨rfl, rfl⟩)
      | (go_at_call 63; (with_reducible refine (cC.out _).mono ?_); rintro _ w9 ⟨rfl, hk9⟩; have hS1 := hS.keepB hk9; clear hk9 hS; have hS := hS1; clear hS1)
      | (with_reducible refine wpList_box_st (L := []) hS rfl rfl rfl ?_; intro gc w1 hS1; clear hS; have hS := hS1; clear hS1)
      | (refine wpList_of_op fun K hK => op_build1c_st (by with_unfolding_all rfl) hS rfl Try.underlying88 ei rfl ?_; intro g3 w3 hS1; refine hK _ _ ?_; clear hK hS; have hS := hS1; clear hS1)
      | ((with_reducible refine wpList_loadrow_st (n := 27) 0 hS rfl rfl rfl rfl ?_ (by kernel_rfl) hd4 hl27 ?_); focus (simp [rowB, go_sem]; done))
      | ((with_reducible refine wpList_loadrow_st (n := 27) 1 hS rfl rfl rfl rfl ?_ (by kernel_rfl) hd4 hl27 ?_); focus (simp [rowB, go_sem]; done))
      | ((with_reducible refine wpList_gload_st 0 hS rfl (by with_unfolding_all rfl) rfl rfl ?_ rfl ?_); focus (simp [scalarB, go_sem]; done))
      | ((with_reducible refine wpList_gload_st 1 hS rfl (by with_unfolding_all rfl) rfl rfl ?_ rfl ?_); focus (simp [scalarB, go_sem]; done)))
    go_ret
    exact ⟨by first | rfl | simp, hS.below⟩
  replace h3 := Decidable.not_not.1 h3
  rw [decide_eq_true h3] at cI
  obtain ⟨mn, hmn⟩ : ∃ mn : Int, (if new < old then new else old) = mn := ⟨_, rfl⟩
  obtain ⟨mx, hmx⟩ : ∃ mx : Int, (if old < new then new else old) = mx := ⟨_, rfl⟩
  have hmn2 : mn ≤ old ∧ mn ≤ new ∧ (mn = old ∨ mn = new) := by rw [← hmn]; split <;> omega
  have hmx2 : old ≤ mx ∧ new ≤ mx ∧ (mx = old ∨ mx = new) := by rw [← hmx]; split <;> omega
  by_cases h5 : mn < 0
  · rw [decide_eq_false (by omega), Bool.false_and]
    have d5 : decide (mn < 0) = true := decide_eq_true h5
    try clear h1
    try clear h2
    try clear h3
    try clear h5
    try clear h6
    try clear h9
    try clear h10
    try clear h11
    try clear hmn2 hmx2
    clear hrest
    replace cI := Lib.hid cI
    go_enter Try.func60, Try.ntmps60
    go_wp2_with (first
      | (go_at_call 73; (with_reducible refine (cI.out _ _ (hS.blksl2 0 rfl)).mono ?_); rintro _ _ ⟨rfl, rfl⟩)
      | (go_at_call 63; (with_reducible refine (cC.out _).mono ?_); rintro _ w9 ⟨rfl, hk9⟩; have hS1 := hS.keepB hk9; clear hk9 hS; have hS := hS1; clear hS1)
      | (with_reducible refine wpList_box_st (L := []) hS rfl rfl rfl ?_; intro gc w1 hS1; clear hS; have hS := hS1; clear hS1)
      | (refine wpList_of_op fun K hK => op_build1c_st (by with_unfolding_all rfl) hS rfl Try.underlying88 ei rfl ?_; intro g3 w3 hS1; refine hK _ _ ?_; clear hK hS; have hS := hS1; clear hS1)
      | ((with_reducible refine wpList_loadrow_st (n := 27) 0 hS rfl rfl rfl rfl ?_ (by kernel_rfl) hd4 hl27 ?_); focus (simp [rowB, go_sem]; done))
      | ((with_reducible refine wpList_loadrow_st (n := 27) 1 hS rfl rfl rfl rfl ?_ (by kernel_rfl) hd4 hl27 ?_); focus (simp [rowB, go_sem]; done))
      | ((with_reducible refine wpList_gload_st 0 hS rfl (by with_unfolding_all rfl) rfl rfl ?_ rfl ?_); focus (simp [scalarB, go_sem]; done))
      | ((with_reducible refine wpList_gload_st 1 hS rfl (by with_unfolding_all rfl) rfl rfl ?_ rfl ?_); focus (simp [scalarB, go_sem]; done)))
    go_ret
    exact ⟨by first | rfl | simp, hS.below⟩
  have d5 : decide (mn < 0) = false := decide_eq_false h5
  by_cases h6 : 1099511627776 < mx
  · rw [decide_eq_false (by omega), Bool.false_and]
    have d6 : decide ((1099511627776 : Int) < mx) = true := decide_eq_true h6
    try clear h1
    try clear h2
    try clear h3
    try clear h5
    try clear h6
    try clear h9
    try clear h10
    try clear h11
    try clear hmn2 hmx2
    clear hrest
    replace cI := Lib.hid cI
    go_enter Try.func60, Try.ntmps60
    go_wp2_with (first
      | (go_at_call 73; (with_reducible refine (cI.out _ _ (hS.blksl2 0 rfl)).mono ?_); rintro _ _ ⟨rfl, rfl⟩)
      | (go_at_call 63; (with_reducible refine (cC.out _).mono ?_); rintro _ w9 ⟨rfl, hk9⟩; have hS1 := hS.keepB hk9; clear hk9 hS; have hS := hS1; clear hS1)
      | (with_reducible refine wpList_box_st (L := []) hS rfl rfl rfl ?_; intro gc w1 hS1; clear hS; have hS := hS1; clear hS1)
      | (refine wpList_of_op fun K hK => op_build1c_st (by with_unfolding_all rfl) hS rfl Try.underlying88 ei rfl ?_; intro g3 w3 hS1; refine hK _ _ ?_; clear hK hS; have hS := hS1; clear hS1)
      | ((with_reducible refine wpList_loadrow_st (n := 27) 0 hS rfl rfl rfl rfl ?_ (by kernel_rfl) hd4 hl27 ?_); focus (simp [rowB, go_sem]; done))
      | ((with_reducible refine wpList_loadrow_st (n := 27) 1 hS rfl rfl rfl rfl ?_ (by kernel_rfl) hd4 hl27 ?_); focus (simp [rowB, go_sem]; done))
      | ((with_reducible refine wpList_gload_st 0 hS rfl (by with_unfolding_all rfl) rfl rfl ?_ rfl ?_); focus (simp [scalarB, go_sem]; done))
      | ((with_reducible refine wpList_gload_st 1 hS rfl (by with_unfolding_all rfl) rfl rfl ?_ rfl ?_); focus (simp [scalarB, go_sem]; done)))
    go_ret
    exact ⟨by first | rfl | simp, hS.below⟩
  have d6 : decide ((1099511627776 : Int) < mx) = false := decide_eq_false h6
  by_cases h9 : old = new
  · rw [decide_eq_false (by omega), Bool.false_and]
    have d9 : (old == new) = true := by simpa using h9
    try clear h1
    try clear h2
    try clear h3
    try clear h5
    try clear h6
    try clear h9
    try clear h10
    try clear h11
    try clear hmn2 hmx2
    clear hrest
    replace cI := Lib.hid cI
    go_enter Try.func60, Try.ntmps60
    go_wp2_with (first
      | (go_at_call 73; (with_reducible refine (cI.out _ _ (hS.blksl2 0 rfl)).mono ?_); rintro _ _ ⟨rfl, rfl⟩)
      | (go_at_call 63; (with_reducible refine (cC.out _).mono ?_); rintro _ w9 ⟨rfl, hk9⟩; have hS1 := hS.keepB hk9; clear hk9 hS; have hS := hS1; clear hS1)
      | (with_reducible refine wpList_box_st (L := []) hS rfl rfl rfl ?_; intro gc w1 hS1; clear hS; have hS := hS1; clear hS1)
      | (refine wpList_of_op fun K hK => op_build1c_st (by with_unfolding_all rfl) hS rfl Try.underlying88 ei rfl ?_; intro g3 w3 hS1; refine hK _ _ ?_; clear hK hS; have hS := hS1; clear hS1)
      | ((with_reducible refine wpList_loadrow_st (n := 27) 0 hS rfl rfl rfl rfl ?_ (by kernel_rfl) hd4 hl27 ?_); focus (simp [rowB, go_sem]; done))
      | ((with_reducible refine wpList_loadrow_st (n := 27) 1 hS rfl rfl rfl rfl ?_ (by kernel_rfl) hd4 hl27 ?_); focus (simp [rowB, go_sem]; done))
      | ((with_reducible refine wpList_gload_st 0 hS rfl (by with_unfolding_all rfl) rfl rfl ?_ rfl ?_); focus (simp [scalarB, go_sem]; done))
      | ((with_reducible refine wpList_gload_st 1 hS rfl (by with_unfolding_all rfl) rfl rfl ?_ rfl ?_); focus (simp [scalarB, go_sem]; done)))
    go_ret
    exact ⟨by first | rfl | simp, hS.below⟩
  have d9 : (old == new) = false := by simpa using h9
  rw [decide_eq_true (by omega), Bool.true_and, hrest]
  by_cases h10 : new = 0
  · rw [if_pos h10]
    have d10 : (new == 0) = true := by simpa using h10
    try clear h1
    try clear h2
    try clear h3
    try clear h5
    try clear h6
    try clear h9
    try clear h10
    try clear h11
    try clear hmn2 hmx2
    clear hrest
    replace cI := Lib.hid cI
    go_enter Try.func60, Try.ntmps60
    go_wp2_with (first
      | (go_at_call 73; (with_reducible refine (cI.out _ _ (hS.blksl2 0 rfl)).mono ?_); rintro _ _ ⟨rfl, rfl⟩)
      | (go_at_call 63; (with_reducible refine (cC.out _).mono ?_); rintro _ w9 ⟨rfl, hk9⟩; have hS1 := hS.keepB hk9; clear hk9 hS; have hS := hS1; clear hS1)
      | (with_reducible refine wpList_box_st (L := []) hS rfl rfl rfl ?_; intro gc w1 hS1; clear hS; have hS := hS1; clear hS1)
      | (refine wpList_of_op fun K hK => op_build1c_st (by with_unfolding_all rfl) hS rfl Try.underlying88 ei rfl ?_; intro g3 w3 hS1; refine hK _ _ ?_; clear hK hS; have hS := hS1; clear hS1)
      | ((with_reducible refine wpList_loadrow_st (n := 27) 0 hS rfl rfl rfl rfl ?_ (by kernel_rfl) hd4 hl27 ?_); focus (simp [rowB, go_sem]; done))
      | ((with_reducible refine wpList_loadrow_st (n := 27) 1 hS rfl rfl rfl rfl ?_ (by kernel_rfl) hd4 hl27 ?_); focus (simp [rowB, go_sem]; done))
      | ((with_reducible refine wpList_gload_st 0 hS rfl (by with_unfolding_all rfl) rfl rfl ?_ rfl ?_); focus (simp [scalarB, go_sem]; done))
      | ((with_reducible refine wpList_gload_st 1 hS rfl (by with_unfolding_all rfl) rfl rfl ?_ rfl ?_); focus (simp [scalarB, go_sem]; done)))
    go_ret
    exact ⟨by first | rfl | simp, hS.below⟩
  rw [if_neg h10]
  have d10 : (new == 0) = false := by simpa using h10
  cases ob
  · rw [Bool.false_and]
    try clear h1
    try clear h2
    try clear h3
    try clear h5
    try clear h6
    try clear h9
    try clear h10
    try clear h11
    try clear hmn2 hmx2
    clear hrest
    replace cI := Lib.hid cI
    go_enter Try.func60, Try.ntmps60
    go_wp2_with (first
      | (go_at_call 73; (with_reducible refine (cI.out _ _ (hS.blksl2 0 rfl)).mono ?_); rintro _ _ ⟨rfl, rfl⟩)
      | (go_at_call 63; (with_reducible refine (cC.out _).mono ?_); rintro _ w9 ⟨rfl, hk9⟩; have hS1 := hS.keepB hk9; clear hk9 hS; have hS := hS1; clear hS1)
      | (with_reducible refine wpList_box_st (L := []) hS rfl rfl rfl ?_; intro gc w1 hS1; clear hS; have hS := hS1; clear hS1)
      | (refine wpList_of_op fun K hK => op_build1c_st (by with_unfolding_all rfl) hS rfl Try.underlying88 ei rfl ?_; intro g3 w3 hS1; refine hK _ _ ?_; clear hK hS; have hS := hS1; clear hS1)
      | ((with_reducible refine wpList_loadrow_st (n := 27) 0 hS rfl rfl rfl rfl ?_ (by kernel_rfl) hd4 hl27 ?_); focus (simp [rowB, go_sem]; done))
      | ((with_reducible refine wpList_loadrow_st (n := 27) 1 hS rfl rfl rfl rfl ?_ (by kernel_rfl) hd4 hl27 ?_); focus (simp [rowB, go_sem]; done))
      | ((with_reducible refine wpList_gload_st 0 hS rfl (by with_unfolding_all rfl) rfl rfl ?_ rfl ?_); focus (simp [scalarB, go_sem]; done))
      | ((with_reducible refine wpList_gload_st 1 hS rfl (by with_unfolding_all rfl) rfl rfl ?_ rfl ?_); focus (simp [scalarB, go_sem]; done)))
    go_ret
    exact ⟨by first | rfl | simp, hS.below⟩
  rw [Bool.true_and]
  by_cases h11 : cid = id
  · by_cases h12 : cver = new
    · rw [decide_eq_true ⟨h11, h12⟩]
      have d11 : (cid == id) = true := by simpa using h11
      have d12 : (cver == new) = true := by simpa using h12
      clear h12
      try clear h1
      try clear h2
      try clear h3
      try clear h5
      try clear h6
      try clear h9
      try clear h10
      try clear h11
      try clear hmn2 hmx2
      clear hrest
      replace cI := Lib.hid cI
      go_enter Try.func60, Try.ntmps60
      go_wp2_with (first
        | (go_at_call 73; (with_reducible refine (cI.out _ _ (hS.blksl2 0 rfl)).mono ?_); rintro _ _ ⟨rfl, rfl⟩)
        | (go_at_call 63; (with_reducible refine (cC.out _).mono ?_); rintro _ w9 ⟨rfl, hk9⟩; have hS1 := hS.keepB hk9; clear hk9 hS; have hS := hS1; clear hS1)
        | (with_reducible refine wpList_box_st (L := []) hS rfl rfl rfl ?_; intro gc w1 hS1; clear hS; have hS := hS1; clear hS1)
        | (refine wpList_of_op fun K hK => op_build1c_st (by with_unfolding_all rfl) hS rfl Try.underlying88 ei rfl ?_; intro g3 w3 hS1; refine hK _ _ ?_; clear hK hS; have hS := hS1; clear hS1)
        | ((with_reducible refine wpList_loadrow_st (n := 27) 0 hS rfl rfl rfl rfl ?_ (by kernel_rfl) hd4 hl27 ?_); focus (simp [rowB, go_sem]; done))
        | ((with_reducible refine wpList_loadrow_st (n := 27) 1 hS rfl rfl rfl rfl ?_ (by kernel_rfl) hd4 hl27 ?_); focus (simp [rowB, go_sem]; done))
        | ((with_reducible refine wpList_gload_st 0 hS rfl (by with_unfolding_all rfl) rfl rfl ?_ rfl ?_); focus (simp [scalarB, go_sem]; done))
        | ((with_reducible refine wpList_gload_st 1 hS rfl (by with_unfolding_all rfl) rfl rfl ?_ rfl ?_); focus (simp [scalarB, go_sem]; done)))
      go_ret
      exact ⟨by first | rfl | simp, hS.below⟩
    · rw [decide_eq_false (fun k => h12 k.2)]
      have d11 : (cid == id) = true := by simpa using h11
      have d12 : (cver == new) = false := by simpa using h12
      clear h12
      try clear h1
      try clear h2
      try clear h3
      try clear h5
      try clear h6
      try clear h9
      try clear h10
      try clear h11
      try clear hmn2 hmx2
      clear hrest
      replace cI := Lib.hid cI
      go_enter Try.func60, Try.ntmps60
      go_wp2_with (first
        | (go_at_call 73; (with_reducible refine (cI.out _ _ (hS.blksl2 0 rfl)).mono ?_); rintro _ _ ⟨rfl, rfl⟩)
        | (go_at_call 63; (with_reducible refine (cC.out _).mono ?_); rintro _ w9 ⟨rfl, hk9⟩; have hS1 := hS.keepB hk9; clear hk9 hS; have hS := hS1; clear hS1)
        | (with_reducible refine wpList_box_st (L := []) hS rfl rfl rfl ?_; intro gc w1 hS1; clear hS; have hS := hS1; clear hS1)
        | (refine wpList_of_op fun K hK => op_build1c_st (by with_unfolding_all rfl) hS rfl Try.underlying88 ei rfl ?_; intro g3 w3 hS1; refine hK _ _ ?_; clear hK hS; have hS := hS1; clear hS1)
        | ((with_reducible refine wpList_loadrow_st (n := 27) 0 hS rfl rfl rfl rfl ?_ (by kernel_rfl) hd4 hl27 ?_); focus (simp [rowB, go_sem]; done))
        | ((with_reducible refine wpList_loadrow_st (n := 27) 1 hS rfl rfl rfl rfl ?_ (by kernel_rfl) hd4 hl27 ?_); focus (simp [rowB, go_sem]; done))
        | ((with_reducible refine wpList_gload_st 0 hS rfl (by with_unfolding_all rfl) rfl rfl ?_ rfl ?_); focus (simp [scalarB, go_sem]; done))
        | ((with_reducible refine wpList_gload_st 1 hS rfl (by with_unfolding_all rfl) rfl rfl ?_ rfl ?_); focus (simp [scalarB, go_sem]; done)))
      go_ret
      exact ⟨by first | rfl | simp, hS.below⟩
  · rw [decide_eq_false (fun k => h11 k.1)]
    have d11 : (cid == id) = false := by simpa using h11
    try clear h1
    try clear h2
    try clear h3
    try clear h5
    try clear h6
    try clear h9
    try clear h10
    try clear h11
    try clear hmn2 hmx2
    clear hrest
    replace cI := Lib.hid cI
    go_enter Try.func60, Try.ntmps60
    go_wp2_with (first
      | (go_at_call 73; (with_reducible refine (cI.out _ _ (hS.blksl2 0 rfl)).mono ?_); rintro _ _ ⟨rfl, rfl⟩)
      | (go_at_call 63; (with_reducible refine (cC.out _).mono ?_); rintro _ w9 ⟨rfl, hk9⟩; have hS1 := hS.keepB hk9; clear hk9 hS; have hS := hS1; clear hS1)
      | (with_reducible refine wpList_box_st (L := []) hS rfl rfl rfl ?_; intro gc w1 hS1; clear hS; have hS := hS1; clear hS1)
      | (refine wpList_of_op fun K hK => op_build1c_st (by with_unfolding_all rfl) hS rfl Try.underlying88 ei rfl ?_; intro g3 w3 hS1; refine hK _ _ ?_; clear hK hS; have hS := hS1; clear hS1)
      | ((with_reducible refine wpList_loadrow_st (n := 27) 0 hS rfl rfl rfl rfl ?_ (by kernel_rfl) hd4 hl27 ?_); focus (simp [rowB, go_sem]; done))
      | ((with_reducible refine wpList_loadrow_st (n := 27) 1 hS rfl rfl rfl rfl ?_ (by kernel_rfl) hd4 hl27 ?_); focus (simp [rowB, go_sem]; done))
      | ((with_reducible refine wpList_gload_st 0 hS rfl (by with_unfolding_all rfl) rfl rfl ?_ rfl ?_); focus (simp [scalarB, go_sem]; done))
      | ((with_reducible refine wpList_gload_st 1 hS rfl (by with_unfolding_all rfl) rfl rfl ?_ rfl ?_); focus (simp [scalarB, go_sem]; done)))
    go_ret
    exact ⟨by first | rfl | simp, hS.below⟩
end Go.Proofs.Ytajldelodnjmoaa
end

section
/- What is unlike in cards. -/
set_option linter.unusedSimpArgs false
set_option linter.unusedVariables false
namespace Go.Ofp
end Go.Ofp
namespace Go.Proofs.Ytajldelodnjmoaa
open Go.RowKit Go.Ofp
set_option linter.unusedVariables false
set_option maxRecDepth 100000
set_option maxHeartbeats 4000000

end Go.Proofs.Ytajldelodnjmoaa
end

section
/- What is unlike in cards: the reference. -/
set_option linter.unusedSimpArgs false
set_option linter.unusedVariables false
namespace Go.Ofp
end Go.Ofp
namespace Go.Proofs.Ytajldelodnjmoaa
open Go.RowKit Go.Ofp
set_option linter.unusedVariables false
set_option maxRecDepth 100000
set_option maxHeartbeats 4000000

end Go.Proofs.Ytajldelodnjmoaa
end
