/- The law CardTells: all. -/
import Derived.Test.YtplgpbbghhlbjaaDoorCardTells
set_option linter.unusedSimpArgs false
set_option linter.unusedVariables false
namespace Go.Proofs.YtplgpbbghhlbjaaDoor
open Go.RowKit Go.Ofp
set_option linter.unusedVariables false
set_option maxRecDepth 100000
set_option maxHeartbeats 4000000

theorem tells_any (a b : Cd) (p : Pt) (hpm : p.mask < 4294967296) (hpl : p.lab < 4294967296) (ha : a.f.length = 8) (hb : b.f.length = 8) (hg : p.f.length = 8) (w : World) (h0 : 0 < w.heap.size) (ht : Sl w (some ⟨0, 0, none⟩) (tzTab.map vb)) :
    Calls Tryd.prog 6 #[.agg (cdRow a).toArray, .agg (cdRow b).toArray, .agg (ptRow p).toArray] w fun e w' => e = .returned (.bool true) ∧ Below w.heap.size w w' := by
  by_cases hall : largeF a.f = false ∧ largeF b.f = false ∧ largeF p.f = false
  · obtain ⟨a1, a2, a3⟩ := hall
    exact tells_main a b p hpm hpl ha hb hg a1 a2 a3 w h0 ht
  have hS := St.start w
  have cL1 := fun W : World => large6_any a.f ha W
  have cL2 := fun W : World => large6_any b.f hb W
  have cL3 := fun W : World => large6_any p.f hg W
  have cA := fun (W : World) (hb : Below w.heap.size w W) => awake6_any W (Nat.lt_of_lt_of_le h0 hb.size) (ht.below hb)
  replace cA := Lib.hid cA
  have hfl1 : (flRow a.f).length = 24 := by rw [flRow_length, ha]
  have hfl2 : (flRow b.f).length = 24 := by rw [flRow_length, hb]
  have hfl3 : (flRow p.f).length = 24 := by rw [flRow_length, hg]
  have hf3 : ((cdRow a).toArray.toList.drop 3).take 24 = flRow a.f := List.take_of_length_le (Nat.le_of_eq hfl1)
  have hg3 : ((cdRow b).toArray.toList.drop 3).take 24 = flRow b.f := List.take_of_length_le (Nat.le_of_eq hfl2)
  have hp2 : ((ptRow p).toArray.toList.drop 2).take 24 = flRow p.f := List.take_of_length_le (Nat.le_of_eq hfl3)
  have hx : largeF a.f = true ∨ largeF a.f = false ∧ largeF b.f = true ∨ largeF a.f = false ∧ largeF b.f = false ∧ largeF p.f = true := by
    cases q1 : largeF a.f <;> cases q2 : largeF b.f <;> cases q3 : largeF p.f <;> simp_all
  generalize largeF a.f = b1 at *
  generalize largeF b.f = b2 at *
  generalize largeF p.f = b3 at *
  generalize flRow a.f = FA at *
  generalize flRow b.f = FB at *
  generalize flRow p.f = FP at *
  generalize cdRow a = RA at *
  generalize cdRow b = RB at *
  generalize ptRow p = RP at *
  clear hall ht ha hb hg
  replace hf3 := Lib.hid hf3
  replace hg3 := Lib.hid hg3
  replace hp2 := Lib.hid hp2
  rcases hx with rfl | ⟨rfl, rfl⟩ | ⟨rfl, rfl, rfl⟩
  all_goals
    replace cL1 := Lib.hid cL1
    replace cL2 := Lib.hid cL2
    replace cL3 := Lib.hid cL3
    go_enter Tryd.func6, Tryd.ntmps6
    go_wp2_with (first
      | (go_at_call 8; (with_reducible refine (cL1.out _).mono ?_); rintro _ w9 ⟨rfl, hk9⟩; have hS1 := hS.keepB hk9; clear hk9 hS; have hS := hS1; clear hS1)
      | (go_at_call 8; (with_reducible refine (cL2.out _).mono ?_); rintro _ w9 ⟨rfl, hk9⟩; have hS1 := hS.keepB hk9; clear hk9 hS; have hS := hS1; clear hS1)
      | (go_at_call 8; (with_reducible refine (cL3.out _).mono ?_); rintro _ w9 ⟨rfl, hk9⟩; have hS1 := hS.keepB hk9; clear hk9 hS; have hS := hS1; clear hS1)
      | (go_at_call 10; (with_reducible refine (cA.out _ hS.below).mono ?_); rintro _ w9 ⟨rfl, hk9⟩; have hS1 := hS.keepB hk9; clear hk9 hS; have hS := hS1; clear hS1)
      | (with_reducible refine wpList_box_st (L := []) hS rfl rfl rfl ?_; intro ga w1 hS1; clear hS; have hS := hS1; clear hS1)
      | (with_reducible refine wpList_box_st (L := [_]) hS rfl rfl rfl ?_; intro gb w1 hS1; clear hS; have hS := hS1; clear hS1)
      | (with_reducible refine wpList_box_st (L := [_, _]) hS rfl rfl rfl ?_; intro gp w1 hS1; clear hS; have hS := hS1; clear hS1)
      | ((with_reducible refine wpList_gloadrow_st (n := 24) 2 hS rfl (by with_unfolding_all rfl) rfl rfl ?_ (by kernel_rfl) hf3.out hfl1 ?_); focus (simp [rowB, go_sem]; done))
      | ((with_reducible refine wpList_gloadrow_st (n := 24) 1 hS rfl (by with_unfolding_all rfl) rfl rfl ?_ (by kernel_rfl) hg3.out hfl2 ?_); focus (simp [rowB, go_sem]; done))
      | ((with_reducible refine wpList_gloadrow_st (n := 24) 0 hS rfl (by with_unfolding_all rfl) rfl rfl ?_ (by kernel_rfl) hp2.out hfl3 ?_); focus (simp [rowB, go_sem]; done)))
    go_ret
    exact ⟨rfl, hS.below⟩
end Go.Proofs.YtplgpbbghhlbjaaDoor
