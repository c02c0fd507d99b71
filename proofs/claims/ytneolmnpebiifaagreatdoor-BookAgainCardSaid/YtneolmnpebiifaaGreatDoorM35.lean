/- Texts laid together: BookSame2 Rsb4. -/
import Derived.Test.YtneolmnpebiifaaGreatDoorM12
import Derived.Test.YtneolmnpebiifaaGreatDoorM16
import Derived.Test.YtneolmnpebiifaaGreatDoorM26
import Derived.Test.YtneolmnpebiifaaGreatDoorM3
import Derived.Test.YtneolmnpebiifaaGreatDoorM30
import Derived.Test.YtneolmnpebiifaaGreatDoorM31
import Derived.Test.YtneolmnpebiifaaGreatDoorM34
section
/- Plain data of books compared. -/
set_option linter.unusedSimpArgs false
set_option linter.unusedVariables false
namespace Go.Ofp
/-- Are two books alike? -/
def eqB (a b : BkS) : Bool := (a.seq == b.seq) && ((a.sh.next == b.sh.next) && (decide (a.sh.m = b.sh.m) && (decide (a.sh.dead = b.sh.dead) && decide (a.ks = b.ks))))
theorem eqB_iff (a b : BkS) : eqB a b = true ↔ a = b := by
  obtain ⟨s1, ⟨n1, m1, d1⟩, k1⟩ := a
  obtain ⟨s2, ⟨n2, m2, d2⟩, k2⟩ := b
  simp [eqB, and_assoc]
theorem eqB_self (a : BkS) : eqB a a = true := (eqB_iff a a).2 rfl
end Go.Ofp
namespace Go.Proofs.YtneolmnpebiifaaGreatDoor
open Go.RowKit Go.Ofp
set_option linter.unusedVariables false
set_option maxRecDepth 100000
set_option maxHeartbeats 4000000
structure BkSz (b : BkS) : Prop where
  m : b.sh.m.length ≤ 50000
  d : b.sh.dead.length ≤ 50000
theorem rbsame_any (a b : BkS) (r t : RV) (w : World) (ha : r.at a w) (hb : t.at b w) (hsa : BkSz a) (hsb : BkSz b) :
    Calls Tryz.prog 12 #[.agg (bdRow a r).toArray, .agg (bdRow b t).toArray] w fun e w' => e = .returned (.bool (eqB a b)) ∧ Below w.heap.size w w' := by
  have hS := St.start w
  have cC := fun W (h : Below w.heap.size w W) => csame_any r.ca t.ca a.sh.m.length b.sh.m.length r.cc t.cc a.sh.m b.sh.m W (ha.lc.below h) (hb.lc.below h) hsa.m hsb.m
  have cD := fun W (h : Below w.heap.size w W) => dsame_any r.da t.da a.sh.dead.length b.sh.dead.length r.dc t.dc a.sh.dead b.sh.dead W (ha.ld.below h) (hb.ld.below h) hsa.d hsb.d
  have cG := fun W (h : Below w.heap.size w W) => rgsame_any r.ga t.ga r.grs t.grs r.grs.length t.grs.length r.gc t.gc W (ha.deep.below h) (hb.deep.below h)
  rw [ha.ks, hb.ks] at cG
  unfold eqB
  rw [bdRow_eq, bdRow_eq]
  clear ha hb hsa hsb
  generalize hE1 : (a.seq == b.seq) = E1
  generalize hE2 : (a.sh.next == b.sh.next) = E2
  generalize decide (a.sh.m = b.sh.m) = E3 at *
  generalize decide (a.sh.dead = b.sh.dead) = E4 at *
  generalize decide (a.ks = b.ks) = E5 at *
  replace cC := Lib.hid cC
  replace cD := Lib.hid cD
  replace cG := Lib.hid cG
  generalize a.seq = x1 at *
  generalize b.seq = y1 at *
  generalize a.sh.next = x2 at *
  generalize b.sh.next = y2 at *
  generalize a.sh.m.length = n1 at *
  generalize b.sh.m.length = n2 at *
  generalize a.sh.dead.length = n3 at *
  generalize b.sh.dead.length = n4 at *
  cases E1
  case false =>
    clear hE2
    go_enter Tryz.func12, Tryz.ntmps12
    go_upto_region 1 with (first | (with_reducible refine wpList_box_st hS rfl rfl rfl ?_; clear hS; intro g1 w1 hS) | (with_reducible refine wpList_box1_st hS rfl rfl rfl ?_; clear hS; intro g1 w1 hS) | (with_reducible refine al hS rfl rfl ?_; clear hS; intro g1 w1 hS) | (with_reducible refine wpList_alloc1_st hS rfl rfl (by assumption) rfl ?_; clear hS; intro g1 w1 hS) | (with_reducible refine ld 0 hS rfl rfl rfl rfl rfl ?_) | (with_reducible refine lda 0 hS rfl rfl rfl rfl ?_) | (with_reducible refine sto 0 hS rfl rfl rfl rfl rfl rfl ?_; clear hS; intro w1 hS) | (with_reducible refine stor 0 hS rfl rfl rfl rfl rfl rfl rfl rfl ?_; clear hS; intro w1 hS))
    have z1 := hS.cell 0 rfl
    have z2 := hS.cell 1 rfl
    go_wp2_with (first
      | (go_at_call 20; (with_reducible refine (cC.out _ hS.below).mono ?_); rintro _ w3 ⟨rfl, hk9⟩; clear z1 z2; have hS1 := hS.keepB hk9; clear hk9 hS; have hS := hS1; clear hS1; have z1 := hS.cell 0 rfl; have z2 := hS.cell 1 rfl)
      | (go_at_call 46; (with_reducible refine (cD.out _ hS.below).mono ?_); rintro _ w3 ⟨rfl, hk9⟩; clear z1 z2; have hS1 := hS.keepB hk9; clear hk9 hS; have hS := hS1; clear hS1; have z1 := hS.cell 0 rfl; have z2 := hS.cell 1 rfl)
      | (go_at_call 47; (with_reducible refine (cG.out _ hS.below).mono ?_); rintro _ w3 ⟨rfl, hk9⟩; clear z1 z2; have hS1 := hS.keepB hk9; clear hk9 hS; have hS := hS1; clear hS1; have z1 := hS.cell 0 rfl; have z2 := hS.cell 1 rfl))
    go_ret
    exact ⟨rfl, hS.below⟩
  cases E2
  case false =>
    go_enter Tryz.func12, Tryz.ntmps12
    go_upto_region 1 with (first | (with_reducible refine wpList_box_st hS rfl rfl rfl ?_; clear hS; intro g1 w1 hS) | (with_reducible refine wpList_box1_st hS rfl rfl rfl ?_; clear hS; intro g1 w1 hS) | (with_reducible refine al hS rfl rfl ?_; clear hS; intro g1 w1 hS) | (with_reducible refine wpList_alloc1_st hS rfl rfl (by assumption) rfl ?_; clear hS; intro g1 w1 hS) | (with_reducible refine ld 0 hS rfl rfl rfl rfl rfl ?_) | (with_reducible refine lda 0 hS rfl rfl rfl rfl ?_) | (with_reducible refine sto 0 hS rfl rfl rfl rfl rfl rfl ?_; clear hS; intro w1 hS) | (with_reducible refine stor 0 hS rfl rfl rfl rfl rfl rfl rfl rfl ?_; clear hS; intro w1 hS))
    have z1 := hS.cell 0 rfl
    have z2 := hS.cell 1 rfl
    go_wp2_with (first
      | (go_at_call 20; (with_reducible refine (cC.out _ hS.below).mono ?_); rintro _ w3 ⟨rfl, hk9⟩; clear z1 z2; have hS1 := hS.keepB hk9; clear hk9 hS; have hS := hS1; clear hS1; have z1 := hS.cell 0 rfl; have z2 := hS.cell 1 rfl)
      | (go_at_call 46; (with_reducible refine (cD.out _ hS.below).mono ?_); rintro _ w3 ⟨rfl, hk9⟩; clear z1 z2; have hS1 := hS.keepB hk9; clear hk9 hS; have hS := hS1; clear hS1; have z1 := hS.cell 0 rfl; have z2 := hS.cell 1 rfl)
      | (go_at_call 47; (with_reducible refine (cG.out _ hS.below).mono ?_); rintro _ w3 ⟨rfl, hk9⟩; clear z1 z2; have hS1 := hS.keepB hk9; clear hk9 hS; have hS := hS1; clear hS1; have z1 := hS.cell 0 rfl; have z2 := hS.cell 1 rfl))
    go_ret
    exact ⟨rfl, hS.below⟩
  cases E3
  case false =>
    go_enter Tryz.func12, Tryz.ntmps12
    go_upto_region 1 with (first | (with_reducible refine wpList_box_st hS rfl rfl rfl ?_; clear hS; intro g1 w1 hS) | (with_reducible refine wpList_box1_st hS rfl rfl rfl ?_; clear hS; intro g1 w1 hS) | (with_reducible refine al hS rfl rfl ?_; clear hS; intro g1 w1 hS) | (with_reducible refine wpList_alloc1_st hS rfl rfl (by assumption) rfl ?_; clear hS; intro g1 w1 hS) | (with_reducible refine ld 0 hS rfl rfl rfl rfl rfl ?_) | (with_reducible refine lda 0 hS rfl rfl rfl rfl ?_) | (with_reducible refine sto 0 hS rfl rfl rfl rfl rfl rfl ?_; clear hS; intro w1 hS) | (with_reducible refine stor 0 hS rfl rfl rfl rfl rfl rfl rfl rfl ?_; clear hS; intro w1 hS))
    have z1 := hS.cell 0 rfl
    have z2 := hS.cell 1 rfl
    go_wp2_with (first
      | (go_at_call 20; (with_reducible refine (cC.out _ hS.below).mono ?_); rintro _ w3 ⟨rfl, hk9⟩; clear z1 z2; have hS1 := hS.keepB hk9; clear hk9 hS; have hS := hS1; clear hS1; have z1 := hS.cell 0 rfl; have z2 := hS.cell 1 rfl)
      | (go_at_call 46; (with_reducible refine (cD.out _ hS.below).mono ?_); rintro _ w3 ⟨rfl, hk9⟩; clear z1 z2; have hS1 := hS.keepB hk9; clear hk9 hS; have hS := hS1; clear hS1; have z1 := hS.cell 0 rfl; have z2 := hS.cell 1 rfl)
      | (go_at_call 47; (with_reducible refine (cG.out _ hS.below).mono ?_); rintro _ w3 ⟨rfl, hk9⟩; clear z1 z2; have hS1 := hS.keepB hk9; clear hk9 hS; have hS := hS1; clear hS1; have z1 := hS.cell 0 rfl; have z2 := hS.cell 1 rfl))
    go_ret
    exact ⟨rfl, hS.below⟩
  cases E4
  case false =>
    go_enter Tryz.func12, Tryz.ntmps12
    go_upto_region 1 with (first | (with_reducible refine wpList_box_st hS rfl rfl rfl ?_; clear hS; intro g1 w1 hS) | (with_reducible refine wpList_box1_st hS rfl rfl rfl ?_; clear hS; intro g1 w1 hS) | (with_reducible refine al hS rfl rfl ?_; clear hS; intro g1 w1 hS) | (with_reducible refine wpList_alloc1_st hS rfl rfl (by assumption) rfl ?_; clear hS; intro g1 w1 hS) | (with_reducible refine ld 0 hS rfl rfl rfl rfl rfl ?_) | (with_reducible refine lda 0 hS rfl rfl rfl rfl ?_) | (with_reducible refine sto 0 hS rfl rfl rfl rfl rfl rfl ?_; clear hS; intro w1 hS) | (with_reducible refine stor 0 hS rfl rfl rfl rfl rfl rfl rfl rfl ?_; clear hS; intro w1 hS))
    have z1 := hS.cell 0 rfl
    have z2 := hS.cell 1 rfl
    go_wp2_with (first
      | (go_at_call 20; (with_reducible refine (cC.out _ hS.below).mono ?_); rintro _ w3 ⟨rfl, hk9⟩; clear z1 z2; have hS1 := hS.keepB hk9; clear hk9 hS; have hS := hS1; clear hS1; have z1 := hS.cell 0 rfl; have z2 := hS.cell 1 rfl)
      | (go_at_call 46; (with_reducible refine (cD.out _ hS.below).mono ?_); rintro _ w3 ⟨rfl, hk9⟩; clear z1 z2; have hS1 := hS.keepB hk9; clear hk9 hS; have hS := hS1; clear hS1; have z1 := hS.cell 0 rfl; have z2 := hS.cell 1 rfl)
      | (go_at_call 47; (with_reducible refine (cG.out _ hS.below).mono ?_); rintro _ w3 ⟨rfl, hk9⟩; clear z1 z2; have hS1 := hS.keepB hk9; clear hk9 hS; have hS := hS1; clear hS1; have z1 := hS.cell 0 rfl; have z2 := hS.cell 1 rfl))
    go_ret
    exact ⟨rfl, hS.below⟩
  cases E5
  case false =>
    go_enter Tryz.func12, Tryz.ntmps12
    go_upto_region 1 with (first | (with_reducible refine wpList_box_st hS rfl rfl rfl ?_; clear hS; intro g1 w1 hS) | (with_reducible refine wpList_box1_st hS rfl rfl rfl ?_; clear hS; intro g1 w1 hS) | (with_reducible refine al hS rfl rfl ?_; clear hS; intro g1 w1 hS) | (with_reducible refine wpList_alloc1_st hS rfl rfl (by assumption) rfl ?_; clear hS; intro g1 w1 hS) | (with_reducible refine ld 0 hS rfl rfl rfl rfl rfl ?_) | (with_reducible refine lda 0 hS rfl rfl rfl rfl ?_) | (with_reducible refine sto 0 hS rfl rfl rfl rfl rfl rfl ?_; clear hS; intro w1 hS) | (with_reducible refine stor 0 hS rfl rfl rfl rfl rfl rfl rfl rfl ?_; clear hS; intro w1 hS))
    have z1 := hS.cell 0 rfl
    have z2 := hS.cell 1 rfl
    go_wp2_with (first
      | (go_at_call 20; (with_reducible refine (cC.out _ hS.below).mono ?_); rintro _ w3 ⟨rfl, hk9⟩; clear z1 z2; have hS1 := hS.keepB hk9; clear hk9 hS; have hS := hS1; clear hS1; have z1 := hS.cell 0 rfl; have z2 := hS.cell 1 rfl)
      | (go_at_call 46; (with_reducible refine (cD.out _ hS.below).mono ?_); rintro _ w3 ⟨rfl, hk9⟩; clear z1 z2; have hS1 := hS.keepB hk9; clear hk9 hS; have hS := hS1; clear hS1; have z1 := hS.cell 0 rfl; have z2 := hS.cell 1 rfl)
      | (go_at_call 47; (with_reducible refine (cG.out _ hS.below).mono ?_); rintro _ w3 ⟨rfl, hk9⟩; clear z1 z2; have hS1 := hS.keepB hk9; clear hk9 hS; have hS := hS1; clear hS1; have z1 := hS.cell 0 rfl; have z2 := hS.cell 1 rfl))
    go_ret
    exact ⟨rfl, hS.below⟩
  go_enter Tryz.func12, Tryz.ntmps12
  go_upto_region 1 with (first | (with_reducible refine wpList_box_st hS rfl rfl rfl ?_; clear hS; intro g1 w1 hS) | (with_reducible refine wpList_box1_st hS rfl rfl rfl ?_; clear hS; intro g1 w1 hS) | (with_reducible refine al hS rfl rfl ?_; clear hS; intro g1 w1 hS) | (with_reducible refine wpList_alloc1_st hS rfl rfl (by assumption) rfl ?_; clear hS; intro g1 w1 hS) | (with_reducible refine ld 0 hS rfl rfl rfl rfl rfl ?_) | (with_reducible refine lda 0 hS rfl rfl rfl rfl ?_) | (with_reducible refine sto 0 hS rfl rfl rfl rfl rfl rfl ?_; clear hS; intro w1 hS) | (with_reducible refine stor 0 hS rfl rfl rfl rfl rfl rfl rfl rfl ?_; clear hS; intro w1 hS))
  have z1 := hS.cell 0 rfl
  have z2 := hS.cell 1 rfl
  go_wp2_with (first
    | (go_at_call 20; (with_reducible refine (cC.out _ hS.below).mono ?_); rintro _ w3 ⟨rfl, hk9⟩; clear z1 z2; have hS1 := hS.keepB hk9; clear hk9 hS; have hS := hS1; clear hS1; have z1 := hS.cell 0 rfl; have z2 := hS.cell 1 rfl)
    | (go_at_call 46; (with_reducible refine (cD.out _ hS.below).mono ?_); rintro _ w3 ⟨rfl, hk9⟩; clear z1 z2; have hS1 := hS.keepB hk9; clear hk9 hS; have hS := hS1; clear hS1; have z1 := hS.cell 0 rfl; have z2 := hS.cell 1 rfl)
    | (go_at_call 47; (with_reducible refine (cG.out _ hS.below).mono ?_); rintro _ w3 ⟨rfl, hk9⟩; clear z1 z2; have hS1 := hS.keepB hk9; clear hk9 hS; have hS := hS1; clear hS1; have z1 := hS.cell 0 rfl; have z2 := hS.cell 1 rfl))
  go_ret
  exact ⟨rfl, hS.below⟩
end Go.Proofs.YtneolmnpebiifaaGreatDoor
end

section
/- The reference's shelf within its book: Write (printed by gen_rsb.py). -/
set_option linter.unusedSimpArgs false
set_option linter.unusedVariables false
namespace Go.Proofs.YtneolmnpebiifaaGreatDoor
open Go.RowKit Go.Ofp
set_option linter.unusedVariables false
set_option maxRecDepth 100000
set_option maxHeartbeats 4000000
end Go.Proofs.YtneolmnpebiifaaGreatDoor
end
