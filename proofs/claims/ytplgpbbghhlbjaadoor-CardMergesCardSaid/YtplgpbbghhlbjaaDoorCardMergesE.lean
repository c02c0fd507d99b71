/- The law CardMerges: all. -/
import Derived.Test.YtplgpbbghhlbjaaDoorCardMerges
set_option linter.unusedSimpArgs false
set_option linter.unusedVariables false
namespace Go.Proofs.YtplgpbbghhlbjaaDoor
open Go.RowKit Go.Ofp
set_option linter.unusedVariables false
set_option maxRecDepth 100000
set_option maxHeartbeats 4000000

theorem merges_any (c : Cd) (p : Pt) (hpm : p.mask < 4294967296) (hpl : p.lab < 4294967296) (hf : c.f.length = 8) (hg : p.f.length = 8) (w : World) (h0 : 0 < w.heap.size) (ht : Sl w (some ⟨0, 0, none⟩) (tzTab.map vb)) :
    Calls Tryd.prog 4 #[.agg (cdRow c).toArray, .agg (ptRow p).toArray] w fun e w' => e = .returned (.bool true) ∧ Below w.heap.size w w' := by
  have hS := St.start w
  have cL1 := fun W : World => large6_any c.f hf W
  have cL2 := fun W : World => large6_any p.f hg W
  have cP := fun W : World => rcp_any p hg hpm hpl W
  have cA := fun (W : World) (hb : Below w.heap.size w W) => awake6_any W (Nat.lt_of_lt_of_le h0 hb.size) (ht.below hb)
  replace cA := Lib.hid cA
  have hmask : p.check = 0 → p.mask ≤ 511 := by
    intro h
    unfold Pt.check at h
    by_cases h1 : p.mask = 0 ∨ 511 < p.mask
    · rw [if_pos h1] at h
      omega
    · omega
  by_cases hall : largeF c.f = false ∧ largeF p.f = false ∧ p.check = 0 ∧ 0 ≤ c.ver ∧ c.ver < 1099511627776
  · obtain ⟨a1, a2, a3, a4, a5⟩ := hall
    exact merges_main c p (hmask a3) hpl hf hg ⟨a4, a5⟩ a1 a2 a3 w h0 ht
  obtain ⟨id, ver, lab, f⟩ := c
  have hfl : (flRow f).length = 24 := by rw [flRow_length, hf]
  have hgl : (flRow p.f).length = 24 := by rw [flRow_length, hg]
  have hp2 : ((ptRow p).toArray.toList.drop 2).take 24 = flRow p.f := List.take_of_length_le (Nat.le_of_eq hgl)
  have hpcl := ptRow_len p hg
  have hpr : ((ptRow p).toArray.toList.drop 0).take 26 = ptRow p := List.take_of_length_le (Nat.le_of_eq hpcl)
  have hf3 : ((Value.int .i64 id :: .int .i64 ver :: .int .u32 lab :: flRow f).toArray.toList.drop 3).take 24 = flRow f := List.take_of_length_le (Nat.le_of_eq hfl)
  simp only [cdRow] at *
  obtain ⟨b3, hb3⟩ : ∃ b3 : Bool, (p.check != 0) = b3 := ⟨_, rfl⟩
  have hx : largeF f = true ∨ largeF f = false ∧ largeF p.f = true ∨ largeF f = false ∧ largeF p.f = false ∧ b3 = true ∨ largeF f = false ∧ largeF p.f = false ∧ b3 = false ∧ decide (ver < 0) = true ∨ largeF f = false ∧ largeF p.f = false ∧ b3 = false ∧ decide (ver < 0) = false ∧ decide ((1099511627776 : Int) ≤ ver) = true := by
    cases q1 : largeF f with
    | true => exact .inl rfl
    | false =>
      cases q2 : largeF p.f with
      | true => exact .inr (.inl ⟨rfl, rfl⟩)
      | false =>
        cases q3 : b3 with
        | true => exact .inr (.inr (.inl ⟨rfl, rfl, rfl⟩))
        | false =>
          have hc0 : p.check = 0 := by
            rw [q3] at hb3
            simpa using hb3
          by_cases q4 : ver < 0
          · exact .inr (.inr (.inr (.inl ⟨rfl, rfl, rfl, decide_eq_true q4⟩)))
          · refine .inr (.inr (.inr (.inr ⟨rfl, rfl, rfl, decide_eq_false q4, decide_eq_true ?_⟩)))
            exact Int.not_lt.1 fun q5 => hall ⟨q1, q2, hc0, by omega, q5⟩
  generalize largeF f = b1 at *
  generalize largeF p.f = b2 at *
  generalize flRow f = FA at *
  generalize flRow p.f = FP at *
  generalize p.check = ch at *
  generalize ptRow p = RP at *
  clear hall ht hf hg hmask
  replace hf3 := Lib.hid hf3
  replace hp2 := Lib.hid hp2
  replace hpr := Lib.hid hpr
  rcases hx with rfl | ⟨rfl, rfl⟩ | ⟨rfl, rfl, rfl⟩ | ⟨rfl, rfl, rfl, d4⟩ | ⟨rfl, rfl, rfl, d4, d5⟩
  all_goals
    replace cL1 := Lib.hid cL1
    replace cL2 := Lib.hid cL2
    replace cP := Lib.hid cP
    go_enter Tryd.func4, Tryd.ntmps4
    go_wp2_with (first
      | (go_at_call 8; (with_reducible refine (cL1.out _).mono ?_); rintro _ w9 ⟨rfl, hk9⟩; have hS1 := hS.keepB hk9; clear hk9 hS; have hS := hS1; clear hS1)
      | (go_at_call 8; (with_reducible refine (cL2.out _).mono ?_); rintro _ w9 ⟨rfl, hk9⟩; have hS1 := hS.keepB hk9; clear hk9 hS; have hS := hS1; clear hS1)
      | (go_at_call 19; (with_reducible refine (cP.out _).mono ?_); rintro _ w9 ⟨rfl, hk9⟩; have hS1 := hS.keepB hk9; clear hk9 hS; have hS := hS1; clear hS1)
      | (go_at_call 10; (with_reducible refine (cA.out _ hS.below).mono ?_); rintro _ w9 ⟨rfl, hk9⟩; have hS1 := hS.keepB hk9; clear hk9 hS; have hS := hS1; clear hS1)
      | (with_reducible refine wpList_box_st (L := []) hS rfl rfl rfl ?_; intro gc w1 hS1; clear hS; have hS := hS1; clear hS1)
      | (with_reducible refine wpList_box_st (L := [_]) hS rfl rfl rfl ?_; intro gp w1 hS1; clear hS; have hS := hS1; clear hS1)
      | ((with_reducible refine wpList_gloadrow_st (n := 24) 1 hS rfl (by with_unfolding_all rfl) rfl rfl ?_ (by kernel_rfl) hf3.out hfl ?_); focus (simp [rowB, go_sem]; done))
      | ((with_reducible refine wpList_gloadrow_st (n := 24) 0 hS rfl (by with_unfolding_all rfl) rfl rfl ?_ (by kernel_rfl) hp2.out hgl ?_); focus (simp [rowB, go_sem]; done))
      | ((with_reducible refine wpList_gloadrow_st (n := 26) 0 hS rfl (by with_unfolding_all rfl) rfl rfl ?_ (by kernel_rfl) hpr.out hpcl ?_); focus (simp [rowB, go_sem]; done))
      | ((with_reducible refine wpList_gload_st 1 hS rfl (by with_unfolding_all rfl) rfl rfl ?_ rfl ?_); focus (simp [scalarB, go_sem]; done)))
    go_ret
    exact ⟨rfl, hS.below⟩
end Go.Proofs.YtplgpbbghhlbjaaDoor
