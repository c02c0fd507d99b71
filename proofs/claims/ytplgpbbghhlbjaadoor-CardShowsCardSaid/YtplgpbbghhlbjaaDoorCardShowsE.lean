/- The law CardShows: what is not looked at, and all. -/
import Derived.Test.YtplgpbbghhlbjaaDoorCardShows
set_option linter.unusedSimpArgs false
set_option linter.unusedVariables false
namespace Go.Proofs.YtplgpbbghhlbjaaDoor
open Go.RowKit Go.Ofp
set_option linter.unusedVariables false
set_option maxRecDepth 100000
set_option maxHeartbeats 4000000

theorem shows_any (c : Cd) (p : Pt) (m : Nat) (hm : m < 4294967296) (hpm : p.mask < 4294967296) (hf : c.f.length = 8) (hg : p.f.length = 8) (w : World) (h0 : 0 < w.heap.size) (ht : Sl w (some ⟨0, 0, none⟩) (tzTab.map vb)) :
    Calls Tryd.prog 3 #[.agg (cdRow c).toArray, .agg (ptRow p).toArray, .int .u32 m] w fun e w' => e = .returned (.bool true) ∧ Below w.heap.size w w' := by
  by_cases hall : largeF c.f = false ∧ largeF p.f = false ∧ p.mask ≤ 511 ∧ m ≤ 511 ∧ 0 ≤ c.ver ∧ c.ver ≤ 1099511627776
  · obtain ⟨a1, a2, a3, a4, a5, a6⟩ := hall
    exact shows_main c p m a4 a3 hf hg ⟨a5, a6⟩ a1 a2 w h0 ht
  have hS := St.start w
  have cL1 := fun W : World => large6_any c.f hf W
  have cL2 := fun W : World => large6_any p.f hg W
  have cC1 := fun W : World => rmcheck_any p.mask W
  have cC2 := fun W : World => rmcheck_any m W
  have cA := fun (W : World) (hb : Below w.heap.size w W) => awake6_any W (Nat.lt_of_lt_of_le h0 hb.size) (ht.below hb)
  replace cA := Lib.hid cA
  obtain ⟨id, ver, lab, f⟩ := c
  obtain ⟨pm, plab, pf⟩ := p
  simp only [cdRow, ptRow] at *
  have hfl : (flRow f).length = 24 := by rw [flRow_length, hf]
  have hgl : (flRow pf).length = 24 := by rw [flRow_length, hg]
  generalize largeF f = b1 at *
  generalize largeF pf = b2 at *
  generalize flRow f = RF at *
  generalize flRow pf = RG at *
  have hf3 : ((Value.int .i64 id :: .int .i64 ver :: .int .u32 lab :: RF).toArray.toList.drop 3).take 24 = RF := List.take_of_length_le (Nat.le_of_eq hfl)
  have hg2 : ((Value.int .u32 pm :: .int .u32 plab :: RG).toArray.toList.drop 2).take 24 = RG := List.take_of_length_le (Nat.le_of_eq hgl)
  have hx : b1 = true ∨ b1 = false ∧ b2 = true ∨ b1 = false ∧ b2 = false ∧ decide (pm ≤ 511) = false ∨ b1 = false ∧ b2 = false ∧ decide (pm ≤ 511) = true ∧ decide (m ≤ 511) = false ∨
      b1 = false ∧ b2 = false ∧ decide (pm ≤ 511) = true ∧ decide (m ≤ 511) = true ∧ decide (ver < 0) = true ∨ b1 = false ∧ b2 = false ∧ decide (pm ≤ 511) = true ∧ decide (m ≤ 511) = true ∧ decide (ver < 0) = false ∧ decide ((1099511627776 : Int) < ver) = true := by
    cases b1 <;> cases b2 <;> simp_all
    by_cases q1 : pm ≤ 511
    · by_cases q2 : m ≤ 511
      · by_cases q3 : 0 ≤ ver
        · have := hall q1 q2 q3
          omega
        · omega
      · omega
    · omega
  generalize decide (pm ≤ 511) = b3 at *
  generalize decide (m ≤ 511) = b4 at *
  clear hall ht hf hg
  rcases hx with d1 | ⟨d1, d2⟩ | ⟨d1, d2, d3⟩ | ⟨d1, d2, d3, d4⟩ | ⟨d1, d2, d3, d4, d5⟩ | ⟨d1, d2, d3, d4, d5, d6⟩
  all_goals
    subst_vars
    replace cL1 := Lib.hid cL1
    replace cL2 := Lib.hid cL2
    replace cC1 := Lib.hid cC1
    replace cC2 := Lib.hid cC2
    go_enter Tryd.func3, Tryd.ntmps3
    go_wp2_with (first
      | (go_at_call 8; (with_reducible refine (cL1.out _).mono ?_); rintro _ w9 ⟨rfl, hk9⟩; have hS1 := hS.keepB hk9; clear hk9 hS; have hS := hS1; clear hS1)
      | (go_at_call 8; (with_reducible refine (cL2.out _).mono ?_); rintro _ w9 ⟨rfl, hk9⟩; have hS1 := hS.keepB hk9; clear hk9 hS; have hS := hS1; clear hS1)
      | (go_at_call 9; (with_reducible refine (cC1.out _).mono ?_); rintro _ _ ⟨rfl, rfl⟩)
      | (go_at_call 9; (with_reducible refine (cC2.out _).mono ?_); rintro _ _ ⟨rfl, rfl⟩)
      | (go_at_call 10; (with_reducible refine (cA.out _ hS.below).mono ?_); rintro _ w9 ⟨rfl, hk9⟩; have hS1 := hS.keepB hk9; clear hk9 hS; have hS := hS1; clear hS1)
      | (with_reducible refine wpList_box_st (L := []) hS rfl rfl rfl ?_; intro gc w1 hS1; clear hS; have hS := hS1; clear hS1)
      | (with_reducible refine wpList_box_st (L := [_]) hS rfl rfl rfl ?_; intro gp w1 hS1; clear hS; have hS := hS1; clear hS1)
      | ((with_reducible refine wpList_gloadrow_st (n := 24) 1 hS rfl (by with_unfolding_all rfl) rfl rfl ?_ (by kernel_rfl) hf3 hfl ?_); focus (simp [rowB, go_sem]; done))
      | ((with_reducible refine wpList_gloadrow_st (n := 24) 0 hS rfl (by with_unfolding_all rfl) rfl rfl ?_ (by kernel_rfl) hg2 hgl ?_); focus (simp [rowB, go_sem]; done))
      | ((with_reducible refine wpList_gload_st 0 hS rfl (by with_unfolding_all rfl) rfl rfl ?_ rfl ?_); focus (simp [scalarB, go_sem]; done))
      | ((with_reducible refine wpList_gload_st 1 hS rfl (by with_unfolding_all rfl) rfl rfl ?_ rfl ?_); focus (simp [scalarB, go_sem]; done)))
    go_ret
    exact ⟨rfl, hS.below⟩
end Go.Proofs.YtplgpbbghhlbjaaDoor
