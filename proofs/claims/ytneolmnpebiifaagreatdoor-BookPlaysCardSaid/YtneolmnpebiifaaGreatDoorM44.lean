/- Texts laid together: BookSame1 BookSame2. -/
import Derived.Test.YtneolmnpebiifaaGreatDoorM16
import Derived.Test.YtneolmnpebiifaaGreatDoorM21
import Derived.Test.YtneolmnpebiifaaGreatDoorM24
import Derived.Test.YtneolmnpebiifaaGreatDoorM30
import Derived.Test.YtneolmnpebiifaaGreatDoorM39
import Derived.Test.YtneolmnpebiifaaGreatDoorM42
import Derived.Test.YtneolmnpebiifaaGreatDoorM5
section
/- Lists of deleted cards compared (slices.Equal), cards (card.Same), changes (the reference's). -/
set_option linter.unusedSimpArgs false
set_option linter.unusedVariables false
namespace Go.Proofs.YtneolmnpebiifaaGreatDoor
open Go.RowKit Go.Ofp
set_option linter.unusedVariables false
set_option maxRecDepth 100000
set_option maxHeartbeats 4000000

theorem eq_ch (d : Nat) (p q : Int × Int) (w : World) : (Op.equalIn (d + 5) 48 (.agg (chRow p).toArray) (.agg (chRow q).toArray)).run Tryz.prog w = .ok (decide (p = q)) w := by
  have hp : Tryz.prog.stoodInHeld 48 = false := by kernel_rfl
  have hff := fields_of Tryz.underlying48
  have hu : Tryz.prog.underlying 48 = some (.struct (Tryz.prog.fieldsOf 48)) := by rw [hff, Tryz.underlying48]
  rw [run_equalIn_struct w (d + 4) _ _ _ hu hp, hff]
  obtain ⟨a1, a2⟩ := p
  obtain ⟨b1, b2⟩ := q
  have h3 := Tryz.underlying3
  have e1 : ∀ x y : Int, (Op.equalIn (d + 4) 3 (.int .i64 x) (.int .i64 y)).run Tryz.prog w = .ok (x == y) w := fun x y => by simp [Op.equalIn, run_underlying h3]
  have p1 := part_i (chRow (a1, a2)) 0 a1 rfl w
  have p2 := part_i (chRow (a1, a2)) 1 a2 rfl w
  have q1 := part_i (chRow (b1, b2)) 0 b1 rfl w
  have q2 := part_i (chRow (b1, b2)) 1 b2 rfl w
  generalize chRow (a1, a2) = A at *
  generalize chRow (b1, b2) = B at *
  simp only [Op.eqFields, ne_eq, String.reduceEq, not_false_eq_true, if_true, Sem.run_bind, p1, q1, e1, Result.andThen_ok]
  by_cases k1 : a1 = b1
  · subst k1
    by_cases k2 : a2 = b2
    · subst k2
      simp [p2, q2, e1]
    · simp [p2, q2, e1, k2]
  · simp [k1]
theorem neq_ch (p q : Int × Int) (w : World) : (binOp .neq 48 (.agg (chRow p).toArray) (.agg (chRow q).toArray)).run Tryz.prog w = .ok (.bool (!decide (p = q))) w := by
  rw [run_neq_struct, eq_ch 9995 p q w]
  rfl
theorem guard_ch (op : BinOp) (x y : Operand) (xs ys : Array Value) (w : World) : (eqGuard op 48 x y (.agg xs) (.agg ys)).run Tryz.prog w = .ok () w :=
  run_eqGuard_agg w op _ x y xs ys (by kernel_rfl)
theorem changes_any (a b : Option Addr) (n m ca cb : Nat) (l k : List (Int × Int)) (w : World) (hl : Lst chRow (fun _ => True) w a n ca l) (hk : Lst chRow (fun _ => True) w b m cb k) (hn : n ≤ 50000) (hm : m ≤ 50000) :
    Calls Tryz.prog 27 #[.slice a n ca, .slice b m cb] w fun e w' => e = .returned (.bool (decide (l = k))) ∧ Below w.heap.size w w' := by
  have hS := St.start w
  have hG := guard_ch
  have hln := Lib.hid hl.len
  have hkn := Lib.hid hk.len
  have hll := Lib.hid (show ∀ x ∈ l, (chRow x).length = 2 from fun x hx => rfl)
  have hkl := Lib.hid (show ∀ x ∈ k, (chRow x).length = 2 from fun x hx => rfl)
  have hlb := Lib.hid (hl.base (by decide) hll.out)
  have hkb := Lib.hid (hk.base (by decide) hkl.out)
  have hE0 := Lib.hid fun (x y : Int × Int) (hx : x ∈ l) (hy : y ∈ k) (W : World) => neq_ch x y W
  by_cases hnm : n = m
  · subst hnm
    obtain ⟨R, hR⟩ : ∃ R, decide (l = k) = R := ⟨_, rfl⟩
    rw [hR]
    replace hR := Lib.hid hR
    replace hl := Lib.hid hl
    replace hk := Lib.hid hk
    go_enter Tryz.func27, Tryz.ntmps27
    go_wp2_with fail
    go_loopg [5] n (fun gk vx wr => ∃ j : Nat, j + gk = n ∧ vx = .int .i64 j ∧ Hid (l.take j = k.take j) ∧ St w [] [] wr)
    case atStart => exact ⟨0, Nat.zero_add _, rfl, Lib.hid rfl, hS⟩
    case round =>
      clear hS
      obtain ⟨j, hj, rfl, hr, hS⟩ := hrel
      by_cases hlt : j < n
      · have hjl : j < l.length := by rw [hln.out]; exact hlt
        have hjk : j < k.length := by rw [hkn.out]; exact hlt
        obtain ⟨b1, o1, rfl⟩ := hlb.out (by omega)
        obtain ⟨b2, o2, rfl⟩ := hkb.out (by omega)
        have hE := hE0.out l[j] k[j] (List.getElem_mem hjl) (List.getElem_mem hjk)
        have r1 := hl.out.rowb hll.out j hjl
        have r2 := hk.out.rowb hkl.out j hjk
        have l1 := hll.out _ (List.getElem_mem hjl)
        have l2 := hkl.out _ (List.getElem_mem hjk)
        have hsz : sizeB Tryz.prog 48 2 = true := by kernel_rfl
        have kR1 := hS.kold_row (P := Tryz.prog) (t := 48) r1 (by kernel_rfl) hsz l1
        have kR2 := hS.kold_row (P := Tryz.prog) (t := 48) r2 (by kernel_rfl) hsz l2
        clear r1 r2 l1 l2
        by_cases hx : l[j] = k[j]
        · have hr2 : l.take (j + 1) = k.take (j + 1) := by rw [List.take_succ_eq_append_getElem hjl, List.take_succ_eq_append_getElem hjk, hr.out, hx]
          rw [decide_eq_true hx] at hE
          simp only [Bool.not_true] at hE
          replace hr2 := Lib.hid hr2
          clear hx
          generalize chRow l[j] = R1 at *
          generalize chRow k[j] = R2 at *
          go_wp2_with fail
          refine mixs_begin (by kernel_rfl) hS ?_
          clear hS
          intro w2 hS
          refine tk 0 ?_
          refine tk 1 ?_
          refine tk 2 ?_
          refine tkr 3 kR1 ?_
          refine tk 4 ?_
          refine tk 5 ?_
          refine tk 6 ?_
          refine tkr 7 kR2 ?_
          refine tk 8 ?_
          refine wpAnyH_done (by kernel_rfl) ?_ _
          clear kR1 kR2
          go_wp2_with fail
          go_roundg (n - (j + 1))
          case measure => omega
          case rel => exact ⟨j + 1, by omega, by go_num, hr2, hS⟩
        · have hR2 : R = false := by
            rw [← hR.out, decide_eq_false_iff_not]
            intro e
            subst e
            exact hx rfl
          rw [decide_eq_false hx] at hE
          simp only [Bool.not_false] at hE
          replace hR2 := Lib.hid hR2
          clear hx
          generalize chRow l[j] = R1 at *
          generalize chRow k[j] = R2 at *
          go_wp2_with fail
          refine mixs_begin (by kernel_rfl) hS ?_
          clear hS
          intro w2 hS
          refine tk 0 ?_
          refine tk 1 ?_
          refine tk 2 ?_
          refine tkr 3 kR1 ?_
          refine tk 4 ?_
          refine tk 5 ?_
          refine tk 6 ?_
          refine tkr 7 kR2 ?_
          refine tk 8 ?_
          refine wpAnyH_done (by kernel_rfl) ?_ _
          clear kR1 kR2
          go_wp2_with fail
          go_ret
          exact ⟨by rw [hR2.out]; rfl, hS.below⟩
      · obtain rfl : j = n := by omega
        have hR2 : R = true := by
          rw [← hR.out, decide_eq_true_iff]
          have e1 := hr.out
          rwa [List.take_of_length_le (by rw [hln.out]; exact Nat.le_refl _), List.take_of_length_le (by rw [hkn.out]; exact Nat.le_refl _)] at e1
        replace hR2 := Lib.hid hR2
        go_wp2_with fail
        go_ret
        exact ⟨by rw [hR2.out]; rfl, hS.below⟩
  · have e : decide (l = k) = false := by rw [decide_eq_false_iff_not]; intro e; subst e; exact hnm (hln.out.symm.trans hkn.out)
    have hb : ((n : Int) != (m : Int)) = true := by simp; omega
    rw [e]
    replace hl := Lib.hid hl
    replace hk := Lib.hid hk
    clear hnm e
    go_enter Tryz.func27, Tryz.ntmps27
    go_wp2_with fail
    go_ret
    exact ⟨rfl, hS.below⟩

end Go.Proofs.YtneolmnpebiifaaGreatDoor
end

section
/- Plain data of books compared. -/
set_option linter.unusedSimpArgs false
set_option linter.unusedVariables false
namespace Go.Ofp
/-- Are two books alike? -/
def eqB (a b : BkS) : Bool := (a.seq == b.seq) && ((a.sh.next == b.sh.next) && (decide (a.sh.m = b.sh.m) && (decide (a.sh.dead = b.sh.dead) && decide (a.ks = b.ks))))
theorem eqB_iff (a b : BkS) : eqB a b = true ↔ a = b := by
  obtain ⟨s1, ⟨n1, m1, d1⟩, k1⟩ := a
  obtain ⟨s2, ⟨n2, m2, d2⟩, k2⟩ := b
  simp [eqB, and_assoc]
theorem eqB_self (a : BkS) : eqB a a = true := (eqB_iff a a).2 rfl
end Go.Ofp
namespace Go.Proofs.YtneolmnpebiifaaGreatDoor
open Go.RowKit Go.Ofp
set_option linter.unusedVariables false
set_option maxRecDepth 100000
set_option maxHeartbeats 4000000
structure BkSz (b : BkS) : Prop where
  m : b.sh.m.length ≤ 50000
  d : b.sh.dead.length ≤ 50000
theorem rbsame_any (a b : BkS) (r t : RV) (w : World) (ha : r.at a w) (hb : t.at b w) (hsa : BkSz a) (hsb : BkSz b) :
    Calls Tryz.prog 12 #[.agg (bdRow a r).toArray, .agg (bdRow b t).toArray] w fun e w' => e = .returned (.bool (eqB a b)) ∧ Below w.heap.size w w' := by
  have hS := St.start w
  have cC := fun W (h : Below w.heap.size w W) => csame_any r.ca t.ca a.sh.m.length b.sh.m.length r.cc t.cc a.sh.m b.sh.m W (ha.lc.below h) (hb.lc.below h) hsa.m hsb.m
  have cD := fun W (h : Below w.heap.size w W) => dsame_any r.da t.da a.sh.dead.length b.sh.dead.length r.dc t.dc a.sh.dead b.sh.dead W (ha.ld.below h) (hb.ld.below h) hsa.d hsb.d
  have cG := fun W (h : Below w.heap.size w W) => rgsame_any r.ga t.ga r.grs t.grs r.grs.length t.grs.length r.gc t.gc W (ha.deep.below h) (hb.deep.below h)
  rw [ha.ks, hb.ks] at cG
  unfold eqB
  rw [bdRow_eq, bdRow_eq]
  clear ha hb hsa hsb
  generalize hE1 : (a.seq == b.seq) = E1
  generalize hE2 : (a.sh.next == b.sh.next) = E2
  generalize decide (a.sh.m = b.sh.m) = E3 at *
  generalize decide (a.sh.dead = b.sh.dead) = E4 at *
  generalize decide (a.ks = b.ks) = E5 at *
  replace cC := Lib.hid cC
  replace cD := Lib.hid cD
  replace cG := Lib.hid cG
  generalize a.seq = x1 at *
  generalize b.seq = y1 at *
  generalize a.sh.next = x2 at *
  generalize b.sh.next = y2 at *
  generalize a.sh.m.length = n1 at *
  generalize b.sh.m.length = n2 at *
  generalize a.sh.dead.length = n3 at *
  generalize b.sh.dead.length = n4 at *
  cases E1
  case false =>
    clear hE2
    go_enter Tryz.func12, Tryz.ntmps12
    go_upto_region 1 with (first | (with_reducible refine wpList_box_st hS rfl rfl rfl ?_; clear hS; intro g1 w1 hS) | (with_reducible refine wpList_box1_st hS rfl rfl rfl ?_; clear hS; intro g1 w1 hS) | (with_reducible refine al hS rfl rfl ?_; clear hS; intro g1 w1 hS) | (with_reducible refine wpList_alloc1_st hS rfl rfl (by assumption) rfl ?_; clear hS; intro g1 w1 hS) | (with_reducible refine ld 0 hS rfl rfl rfl rfl rfl ?_) | (with_reducible refine lda 0 hS rfl rfl rfl rfl ?_) | (with_reducible refine sto 0 hS rfl rfl rfl rfl rfl rfl ?_; clear hS; intro w1 hS) | (with_reducible refine stor 0 hS rfl rfl rfl rfl rfl rfl rfl rfl ?_; clear hS; intro w1 hS))
    have z1 := hS.cell 0 rfl
    have z2 := hS.cell 1 rfl
    go_wp2_with (first
      | (go_at_call 20; (with_reducible refine (cC.out _ hS.below).mono ?_); rintro _ w3 ⟨rfl, hk9⟩; clear z1 z2; have hS1 := hS.keepB hk9; clear hk9 hS; have hS := hS1; clear hS1; have z1 := hS.cell 0 rfl; have z2 := hS.cell 1 rfl)
      | (go_at_call 46; (with_reducible refine (cD.out _ hS.below).mono ?_); rintro _ w3 ⟨rfl, hk9⟩; clear z1 z2; have hS1 := hS.keepB hk9; clear hk9 hS; have hS := hS1; clear hS1; have z1 := hS.cell 0 rfl; have z2 := hS.cell 1 rfl)
      | (go_at_call 47; (with_reducible refine (cG.out _ hS.below).mono ?_); rintro _ w3 ⟨rfl, hk9⟩; clear z1 z2; have hS1 := hS.keepB hk9; clear hk9 hS; have hS := hS1; clear hS1; have z1 := hS.cell 0 rfl; have z2 := hS.cell 1 rfl))
    go_ret
    exact ⟨rfl, hS.below⟩
  cases E2
  case false =>
    go_enter Tryz.func12, Tryz.ntmps12
    go_upto_region 1 with (first | (with_reducible refine wpList_box_st hS rfl rfl rfl ?_; clear hS; intro g1 w1 hS) | (with_reducible refine wpList_box1_st hS rfl rfl rfl ?_; clear hS; intro g1 w1 hS) | (with_reducible refine al hS rfl rfl ?_; clear hS; intro g1 w1 hS) | (with_reducible refine wpList_alloc1_st hS rfl rfl (by assumption) rfl ?_; clear hS; intro g1 w1 hS) | (with_reducible refine ld 0 hS rfl rfl rfl rfl rfl ?_) | (with_reducible refine lda 0 hS rfl rfl rfl rfl ?_) | (with_reducible refine sto 0 hS rfl rfl rfl rfl rfl rfl ?_; clear hS; intro w1 hS) | (with_reducible refine stor 0 hS rfl rfl rfl rfl rfl rfl rfl rfl ?_; clear hS; intro w1 hS))
    have z1 := hS.cell 0 rfl
    have z2 := hS.cell 1 rfl
    go_wp2_with (first
      | (go_at_call 20; (with_reducible refine (cC.out _ hS.below).mono ?_); rintro _ w3 ⟨rfl, hk9⟩; clear z1 z2; have hS1 := hS.keepB hk9; clear hk9 hS; have hS := hS1; clear hS1; have z1 := hS.cell 0 rfl; have z2 := hS.cell 1 rfl)
      | (go_at_call 46; (with_reducible refine (cD.out _ hS.below).mono ?_); rintro _ w3 ⟨rfl, hk9⟩; clear z1 z2; have hS1 := hS.keepB hk9; clear hk9 hS; have hS := hS1; clear hS1; have z1 := hS.cell 0 rfl; have z2 := hS.cell 1 rfl)
      | (go_at_call 47; (with_reducible refine (cG.out _ hS.below).mono ?_); rintro _ w3 ⟨rfl, hk9⟩; clear z1 z2; have hS1 := hS.keepB hk9; clear hk9 hS; have hS := hS1; clear hS1; have z1 := hS.cell 0 rfl; have z2 := hS.cell 1 rfl))
    go_ret
    exact ⟨rfl, hS.below⟩
  cases E3
  case false =>
    go_enter Tryz.func12, Tryz.ntmps12
    go_upto_region 1 with (first | (with_reducible refine wpList_box_st hS rfl rfl rfl ?_; clear hS; intro g1 w1 hS) | (with_reducible refine wpList_box1_st hS rfl rfl rfl ?_; clear hS; intro g1 w1 hS) | (with_reducible refine al hS rfl rfl ?_; clear hS; intro g1 w1 hS) | (with_reducible refine wpList_alloc1_st hS rfl rfl (by assumption) rfl ?_; clear hS; intro g1 w1 hS) | (with_reducible refine ld 0 hS rfl rfl rfl rfl rfl ?_) | (with_reducible refine lda 0 hS rfl rfl rfl rfl ?_) | (with_reducible refine sto 0 hS rfl rfl rfl rfl rfl rfl ?_; clear hS; intro w1 hS) | (with_reducible refine stor 0 hS rfl rfl rfl rfl rfl rfl rfl rfl ?_; clear hS; intro w1 hS))
    have z1 := hS.cell 0 rfl
    have z2 := hS.cell 1 rfl
    go_wp2_with (first
      | (go_at_call 20; (with_reducible refine (cC.out _ hS.below).mono ?_); rintro _ w3 ⟨rfl, hk9⟩; clear z1 z2; have hS1 := hS.keepB hk9; clear hk9 hS; have hS := hS1; clear hS1; have z1 := hS.cell 0 rfl; have z2 := hS.cell 1 rfl)
      | (go_at_call 46; (with_reducible refine (cD.out _ hS.below).mono ?_); rintro _ w3 ⟨rfl, hk9⟩; clear z1 z2; have hS1 := hS.keepB hk9; clear hk9 hS; have hS := hS1; clear hS1; have z1 := hS.cell 0 rfl; have z2 := hS.cell 1 rfl)
      | (go_at_call 47; (with_reducible refine (cG.out _ hS.below).mono ?_); rintro _ w3 ⟨rfl, hk9⟩; clear z1 z2; have hS1 := hS.keepB hk9; clear hk9 hS; have hS := hS1; clear hS1; have z1 := hS.cell 0 rfl; have z2 := hS.cell 1 rfl))
    go_ret
    exact ⟨rfl, hS.below⟩
  cases E4
  case false =>
    go_enter Tryz.func12, Tryz.ntmps12
    go_upto_region 1 with (first | (with_reducible refine wpList_box_st hS rfl rfl rfl ?_; clear hS; intro g1 w1 hS) | (with_reducible refine wpList_box1_st hS rfl rfl rfl ?_; clear hS; intro g1 w1 hS) | (with_reducible refine al hS rfl rfl ?_; clear hS; intro g1 w1 hS) | (with_reducible refine wpList_alloc1_st hS rfl rfl (by assumption) rfl ?_; clear hS; intro g1 w1 hS) | (with_reducible refine ld 0 hS rfl rfl rfl rfl rfl ?_) | (with_reducible refine lda 0 hS rfl rfl rfl rfl ?_) | (with_reducible refine sto 0 hS rfl rfl rfl rfl rfl rfl ?_; clear hS; intro w1 hS) | (with_reducible refine stor 0 hS rfl rfl rfl rfl rfl rfl rfl rfl ?_; clear hS; intro w1 hS))
    have z1 := hS.cell 0 rfl
    have z2 := hS.cell 1 rfl
    go_wp2_with (first
      | (go_at_call 20; (with_reducible refine (cC.out _ hS.below).mono ?_); rintro _ w3 ⟨rfl, hk9⟩; clear z1 z2; have hS1 := hS.keepB hk9; clear hk9 hS; have hS := hS1; clear hS1; have z1 := hS.cell 0 rfl; have z2 := hS.cell 1 rfl)
      | (go_at_call 46; (with_reducible refine (cD.out _ hS.below).mono ?_); rintro _ w3 ⟨rfl, hk9⟩; clear z1 z2; have hS1 := hS.keepB hk9; clear hk9 hS; have hS := hS1; clear hS1; have z1 := hS.cell 0 rfl; have z2 := hS.cell 1 rfl)
      | (go_at_call 47; (with_reducible refine (cG.out _ hS.below).mono ?_); rintro _ w3 ⟨rfl, hk9⟩; clear z1 z2; have hS1 := hS.keepB hk9; clear hk9 hS; have hS := hS1; clear hS1; have z1 := hS.cell 0 rfl; have z2 := hS.cell 1 rfl))
    go_ret
    exact ⟨rfl, hS.below⟩
  cases E5
  case false =>
    go_enter Tryz.func12, Tryz.ntmps12
    go_upto_region 1 with (first | (with_reducible refine wpList_box_st hS rfl rfl rfl ?_; clear hS; intro g1 w1 hS) | (with_reducible refine wpList_box1_st hS rfl rfl rfl ?_; clear hS; intro g1 w1 hS) | (with_reducible refine al hS rfl rfl ?_; clear hS; intro g1 w1 hS) | (with_reducible refine wpList_alloc1_st hS rfl rfl (by assumption) rfl ?_; clear hS; intro g1 w1 hS) | (with_reducible refine ld 0 hS rfl rfl rfl rfl rfl ?_) | (with_reducible refine lda 0 hS rfl rfl rfl rfl ?_) | (with_reducible refine sto 0 hS rfl rfl rfl rfl rfl rfl ?_; clear hS; intro w1 hS) | (with_reducible refine stor 0 hS rfl rfl rfl rfl rfl rfl rfl rfl ?_; clear hS; intro w1 hS))
    have z1 := hS.cell 0 rfl
    have z2 := hS.cell 1 rfl
    go_wp2_with (first
      | (go_at_call 20; (with_reducible refine (cC.out _ hS.below).mono ?_); rintro _ w3 ⟨rfl, hk9⟩; clear z1 z2; have hS1 := hS.keepB hk9; clear hk9 hS; have hS := hS1; clear hS1; have z1 := hS.cell 0 rfl; have z2 := hS.cell 1 rfl)
      | (go_at_call 46; (with_reducible refine (cD.out _ hS.below).mono ?_); rintro _ w3 ⟨rfl, hk9⟩; clear z1 z2; have hS1 := hS.keepB hk9; clear hk9 hS; have hS := hS1; clear hS1; have z1 := hS.cell 0 rfl; have z2 := hS.cell 1 rfl)
      | (go_at_call 47; (with_reducible refine (cG.out _ hS.below).mono ?_); rintro _ w3 ⟨rfl, hk9⟩; clear z1 z2; have hS1 := hS.keepB hk9; clear hk9 hS; have hS := hS1; clear hS1; have z1 := hS.cell 0 rfl; have z2 := hS.cell 1 rfl))
    go_ret
    exact ⟨rfl, hS.below⟩
  go_enter Tryz.func12, Tryz.ntmps12
  go_upto_region 1 with (first | (with_reducible refine wpList_box_st hS rfl rfl rfl ?_; clear hS; intro g1 w1 hS) | (with_reducible refine wpList_box1_st hS rfl rfl rfl ?_; clear hS; intro g1 w1 hS) | (with_reducible refine al hS rfl rfl ?_; clear hS; intro g1 w1 hS) | (with_reducible refine wpList_alloc1_st hS rfl rfl (by assumption) rfl ?_; clear hS; intro g1 w1 hS) | (with_reducible refine ld 0 hS rfl rfl rfl rfl rfl ?_) | (with_reducible refine lda 0 hS rfl rfl rfl rfl ?_) | (with_reducible refine sto 0 hS rfl rfl rfl rfl rfl rfl ?_; clear hS; intro w1 hS) | (with_reducible refine stor 0 hS rfl rfl rfl rfl rfl rfl rfl rfl ?_; clear hS; intro w1 hS))
  have z1 := hS.cell 0 rfl
  have z2 := hS.cell 1 rfl
  go_wp2_with (first
    | (go_at_call 20; (with_reducible refine (cC.out _ hS.below).mono ?_); rintro _ w3 ⟨rfl, hk9⟩; clear z1 z2; have hS1 := hS.keepB hk9; clear hk9 hS; have hS := hS1; clear hS1; have z1 := hS.cell 0 rfl; have z2 := hS.cell 1 rfl)
    | (go_at_call 46; (with_reducible refine (cD.out _ hS.below).mono ?_); rintro _ w3 ⟨rfl, hk9⟩; clear z1 z2; have hS1 := hS.keepB hk9; clear hk9 hS; have hS := hS1; clear hS1; have z1 := hS.cell 0 rfl; have z2 := hS.cell 1 rfl)
    | (go_at_call 47; (with_reducible refine (cG.out _ hS.below).mono ?_); rintro _ w3 ⟨rfl, hk9⟩; clear z1 z2; have hS1 := hS.keepB hk9; clear hk9 hS; have hS := hS1; clear hS1; have z1 := hS.cell 0 rfl; have z2 := hS.cell 1 rfl))
  go_ret
  exact ⟨rfl, hS.below⟩
end Go.Proofs.YtneolmnpebiifaaGreatDoor
end
