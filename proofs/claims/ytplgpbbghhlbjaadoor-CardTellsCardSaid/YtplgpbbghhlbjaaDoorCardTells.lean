/- The law CardTells. -/
import Derived.Test.YtplgpbbghhlbjaaDoorCardSame
import Derived.Test.YtplgpbbghhlbjaaDoorCardPatchR
import Derived.Test.YtplgpbbghhlbjaaDoorCardLaw1
import Derived.Test.YtplgpbbghhlbjaaDoorCardShows
import Derived.Test.YtplgpbbghhlbjaaDoorSt6
set_option linter.unusedSimpArgs false
set_option linter.unusedVariables false
namespace Go.Proofs.YtplgpbbghhlbjaaDoor
open Go.RowKit Go.Ofp
set_option linter.unusedVariables false
set_option maxRecDepth 100000
set_option maxHeartbeats 4000000

theorem tells_main (a b : Cd) (p : Pt) (hpm : p.mask < 4294967296) (hpl : p.lab < 4294967296) (ha : a.f.length = 8) (hb : b.f.length = 8) (hg : p.f.length = 8) (hl1 : largeF a.f = false) (hl2 : largeF b.f = false) (hl3 : largeF p.f = false) (w : World) (h0 : 0 < w.heap.size) (ht : Sl w (some ⟨0, 0, none⟩) (tzTab.map vb)) :
    Calls Tryd.prog 6 #[.agg (cdRow a).toArray, .agg (cdRow b).toArray, .agg (ptRow p).toArray] w fun e w' => e = .returned (.bool true) ∧ Below w.heap.size w w' := by
  have hS := St.start w
  have ec := elem_card
  have cL1 := fun W : World => large6_any a.f ha W
  have cL2 := fun W : World => large6_any b.f hb W
  have cL3 := fun W : World => large6_any p.f hg W
  rw [hl1] at cL1
  rw [hl2] at cL2
  rw [hl3] at cL3
  have cA := fun (W : World) (hb : Below w.heap.size w W) => awake6_any W (Nat.lt_of_lt_of_le h0 hb.size) (ht.below hb)
  have cK := fun (W : World) => ckc_any a ha W
  have cRK := fun (W : World) => rckc_any a ha W
  have cP := fun (W : World) => cp_any p hg hpm hpl W
  have cRP := fun (W : World) => rcp_any p hg hpm hpl W
  have cD := fun (W : World) => df_any a b ha hb W
  have cRD := fun (W : World) => rdf_any a b ha hb W
  have hra := cdRow_len a ha
  have hrb := cdRow_len b hb
  have hrp := ptRow_len p hg
  have hab : ∀ c ∈ [a, b], c.f.length = 8 := by simp [ha, hb]
  have hba : ∀ c ∈ [b, a], c.f.length = 8 := by simp [ha, hb]
  have ha1 : ∀ c ∈ [a], c.f.length = 8 := by simp [ha]
  have f1 : ([a, b].map cdRow).flatten = cdRow a ++ cdRow b := by simp
  have f2 : ([b, a].map cdRow).flatten = cdRow b ++ cdRow a := by simp
  have f3 : ([a].map cdRow).flatten = cdRow a := by simp
  have cS1 := fun (g h : Nat) (W : World) hs ht => sm_any g h [a, b] [b, a] 2 2 2 2 hab hba rfl rfl (by decide) (by decide) W hs ht (decide (a = b)) (by rw [decide_eq_decide]; simp; exact fun e => e.symm)
  have cS2 := fun (g h : Nat) (W : World) hs ht => sm_any g h [a, b] [a, b] 2 2 2 2 hab hab rfl rfl (by decide) (by decide) W hs ht true (decide_eq_true rfl)
  have cS3 := fun (g : Nat) (W : World) hs => sm_any g g [a, b] [a] 2 1 2 2 hab ha1 rfl rfl (by decide) (by decide) W hs (by rw [f1] at hs; rw [f3]; exact hs.left) false (decide_eq_false (by simp))
  have hE := fun W : World => eql_cd a b ha hb W
  have hG := guard_cd
  simp only [f1, f2] at cS1 cS2 cS3
  have hB1 := fun W : World => run_build2 (P := Tryd.prog) W 47 _ Tryd.underlying47 ec hra hrb (by decide)
  have hB2 := fun W : World => run_build2 (P := Tryd.prog) W 47 _ Tryd.underlying47 ec hrb hra (by decide)
  have hfl1 : (flRow a.f).length = 24 := by rw [flRow_length, ha]
  have hfl2 : (flRow b.f).length = 24 := by rw [flRow_length, hb]
  have hfl3 : (flRow p.f).length = 24 := by rw [flRow_length, hg]
  have hf3 : ((cdRow a).toArray.toList.drop 3).take 24 = flRow a.f := List.take_of_length_le (Nat.le_of_eq hfl1)
  have hg3 : ((cdRow b).toArray.toList.drop 3).take 24 = flRow b.f := List.take_of_length_le (Nat.le_of_eq hfl2)
  have hp2 : ((ptRow p).toArray.toList.drop 2).take 24 = flRow p.f := List.take_of_length_le (Nat.le_of_eq hfl3)
  have hca : sizeB Tryd.prog 27 (cdRow a).toArray.size = true := by rw [List.size_toArray, hra]; kernel_rfl
  have hcb : sizeB Tryd.prog 27 (cdRow b).toArray.size = true := by rw [List.size_toArray, hrb]; kernel_rfl
  generalize decide (a = b) = r at *
  generalize a.ok = ok at *
  generalize p.check = ch at *
  generalize a.diff b = df at *
  generalize flRow a.f = FA at *
  generalize flRow b.f = FB at *
  generalize flRow p.f = FP at *
  generalize cdRow a = RA at *
  generalize cdRow b = RB at *
  generalize ptRow p = RP at *
  replace cL1 := Lib.hid cL1
  replace cL2 := Lib.hid cL2
  replace cL3 := Lib.hid cL3
  replace cA := Lib.hid cA
  replace cK := Lib.hid cK
  replace cRK := Lib.hid cRK
  replace cP := Lib.hid cP
  replace cRP := Lib.hid cRP
  replace cD := Lib.hid cD
  replace cRD := Lib.hid cRD
  replace cS1 := Lib.hid cS1
  replace cS2 := Lib.hid cS2
  replace cS3 := Lib.hid cS3
  replace hB1 := Lib.hid hB1
  replace hB2 := Lib.hid hB2
  clear hab hba ha1 hpm hpl ht f1 f2 f3
  go_enter Tryd.func6, Tryd.ntmps6
  go_wp2_with (first
    | (go_at_call 8; (with_reducible refine (cL1.out _).mono ?_); rintro _ w9 ⟨rfl, hk9⟩; have hS1 := hS.keepB hk9; clear hk9 hS; have hS := hS1; clear hS1)
    | (go_at_call 8; (with_reducible refine (cL2.out _).mono ?_); rintro _ w9 ⟨rfl, hk9⟩; have hS1 := hS.keepB hk9; clear hk9 hS; have hS := hS1; clear hS1)
    | (go_at_call 8; (with_reducible refine (cL3.out _).mono ?_); rintro _ w9 ⟨rfl, hk9⟩; have hS1 := hS.keepB hk9; clear hk9 hS; have hS := hS1; clear hS1)
    | (with_reducible refine wpList_box_st (L := []) hS rfl rfl rfl ?_; intro ga w1 hS1; clear hS; have hS := hS1; clear hS1)
    | (with_reducible refine wpList_box_st (L := [_]) hS rfl rfl rfl ?_; intro gb w1 hS1; clear hS; have hS := hS1; clear hS1)
    | (with_reducible refine wpList_box_st (L := [_, _]) hS rfl rfl rfl ?_; intro gp w1 hS1; clear hS; have hS := hS1; clear hS1)
    | ((with_reducible refine wpList_gloadrow_st (n := 24) 2 hS rfl (by with_unfolding_all rfl) rfl rfl ?_ (by kernel_rfl) hf3 hfl1 ?_); focus (simp [rowB, go_sem]; done))
    | ((with_reducible refine wpList_gloadrow_st (n := 24) 1 hS rfl (by with_unfolding_all rfl) rfl rfl ?_ (by kernel_rfl) hg3 hfl2 ?_); focus (simp [rowB, go_sem]; done))
    | ((with_reducible refine wpList_gloadrow_st (n := 24) 0 hS rfl (by with_unfolding_all rfl) rfl rfl ?_ (by kernel_rfl) hp2 hfl3 ?_); focus (simp [rowB, go_sem]; done))
    | ((with_reducible refine wpList_loadall_st 2 hS rfl rfl rfl rfl ?_ hca ?_); focus (simp [rowB, go_sem]; done))
    | ((with_reducible refine wpList_loadall_st 1 hS rfl rfl rfl rfl ?_ hcb ?_); focus (simp [rowB, go_sem]; done))
    | ((with_reducible refine wpList_buildr_st hS rfl hB1.out rfl rfl ?_); intro gs w1 hS1; clear hS; have hS := hS1; clear hS1))
  have kA := hS.krow (P := Tryd.prog) (j := 0) 3 rfl (t := 27) (by kernel_rfl) (n := 27) (by kernel_rfl) (List.take_of_length_le (Nat.le_of_eq hra)) hra
  have kB := hS.krow (P := Tryd.prog) (j := 0) 2 rfl (t := 27) (by kernel_rfl) (n := 27) (by kernel_rfl) (List.take_of_length_le (Nat.le_of_eq hrb)) hrb
  have kP := hS.krow (P := Tryd.prog) (j := 0) 1 rfl (t := 29) (by kernel_rfl) (n := 26) (by kernel_rfl) (List.take_of_length_le (Nat.le_of_eq hrp)) hrp
  refine mixs_begin (by kernel_rfl) hS ?_
  clear hS
  intro w2 hS
  refine mixs_take 0 (v := ?_) rfl (by kernel_rfl) (fun _ _ _ h => h) (by kernel_rfl) (by assumption) (fun s => ?hy) ?_; case hy => (refine Eq.trans (take_loadrow s rfl rfl kA) ?_; with_reducible rfl)
  try simp only [List.getElem_toArray, List.getElem_cons_succ, List.getElem_cons_zero, Act.put, List.setIfInBounds_toArray, List.set_cons_zero, List.set_cons_succ]
  refine mixs_take 2 (v := ?_) rfl (by kernel_rfl) (fun _ _ _ h => h) (by kernel_rfl) (by assumption) (fun s => ?hy) ?_; case hy => (refine Eq.trans (take_loadrow s rfl rfl kA) ?_; with_reducible rfl)
  try simp only [List.getElem_toArray, List.getElem_cons_succ, List.getElem_cons_zero, Act.put, List.setIfInBounds_toArray, List.set_cons_zero, List.set_cons_succ]
  refine mixs_one 1 (by kernel_rfl) rfl (fun K hK => ?_)
  go_simp
  ( first | (go_at_call 25; (with_reducible refine (cK.out _).mono ?_); rintro _ w9 ⟨rfl, hk9⟩; have hS1 := hS.keepB hk9; clear hk9 hS; have hS := hS1; clear hS1) | (go_at_call 26; (with_reducible refine (cRK.out _).mono ?_); rintro _ w9 ⟨rfl, hk9⟩; have hS1 := hS.keepB hk9; clear hk9 hS; have hS := hS1; clear hS1) | (go_at_call 27; (with_reducible refine (cP.out _).mono ?_); rintro _ w9 ⟨rfl, hk9⟩; have hS1 := hS.keepB hk9; clear hk9 hS; have hS := hS1; clear hS1) | (go_at_call 19; (with_reducible refine (cRP.out _).mono ?_); rintro _ w9 ⟨rfl, hk9⟩; have hS1 := hS.keepB hk9; clear hk9 hS; have hS := hS1; clear hS1) | (go_at_call 23; (with_reducible refine (cD.out _).mono ?_); rintro _ w9 ⟨rfl, hk9⟩; have hS1 := hS.keepB hk9; clear hk9 hS; have hS := hS1; clear hS1) | (go_at_call 28; (with_reducible refine (cRD.out _).mono ?_); rintro _ w9 ⟨rfl, hk9⟩; have hS1 := hS.keepB hk9; clear hk9 hS; have hS := hS1; clear hS1) | (go_at_call 29; (with_reducible refine (cS1.out _ _ _ (hS.blksl 1 rfl) (hS.blksl 0 rfl)).mono ?_); rintro _ w9 ⟨rfl, hk9⟩; have hS1 := hS.keepB hk9; clear hk9 hS; have hS := hS1; clear hS1; have hS1 := hS.drop; clear hS; have hS := hS1; clear hS1) | (go_at_call 29; (with_reducible refine (cS2.out _ _ _ (hS.blksl 1 rfl) (hS.blksl 0 rfl)).mono ?_); rintro _ w9 ⟨rfl, hk9⟩; have hS1 := hS.keepB hk9; clear hk9 hS; have hS := hS1; clear hS1; have hS1 := hS.drop; clear hS; have hS := hS1; clear hS1) | (go_at_call 29; (with_reducible refine (cS3.out _ _ (hS.blksl 0 rfl)).mono ?_); rintro _ w9 ⟨rfl, hk9⟩; have hS1 := hS.keepB hk9; clear hk9 hS; have hS := hS1; clear hS1) | (go_at_call 10; (with_reducible refine (cA.out _ hS.below).mono ?_); rintro _ w9 ⟨rfl, hk9⟩; have hS1 := hS.keepB hk9; clear hk9 hS; have hS := hS1; clear hS1) | ((with_reducible refine op_buildr_st (by kernel_rfl) hS hB1.out rfl rfl ?_); intro gs w1 hS1; clear hS; have hS := hS1; clear hS1) | ((with_reducible refine op_buildr_st (by kernel_rfl) hS hB2.out rfl rfl ?_); intro gs w1 hS1; clear hS; have hS := hS1; clear hS1) )
  try clear hC
  refine hK.out _ _ _ (fun _ h => h) (by first | exact hS | exact hS.drop | exact hS.drop.drop | exact hS.drop.drop.drop | exact hS.drop.drop.drop.drop | exact hS.empty | exact hS.one 0 rfl | exact hS.one 1 rfl | exact hS.one 2 rfl | exact hS.one 3 rfl | exact hS.one 4 rfl | exact hS.one 5 rfl | exact hS.one 6 rfl | exact hS.one 7 rfl | exact hS.one 8 rfl | exact hS.one 9 rfl | exact hS.one 10 rfl | exact hS.one 11 rfl) (fun hC => ?_)
  clear hK K
  try simp only [List.getElem_toArray, List.getElem_cons_succ, List.getElem_cons_zero, Act.put, List.setIfInBounds_toArray, List.set_cons_zero, List.set_cons_succ]
  refine mixs_one 3 (by kernel_rfl) rfl (fun K hK => ?_)
  go_simp
  ( first | (go_at_call 25; (with_reducible refine (cK.out _).mono ?_); rintro _ w9 ⟨rfl, hk9⟩; have hS1 := hS.keepB hk9; clear hk9 hS; have hS := hS1; clear hS1) | (go_at_call 26; (with_reducible refine (cRK.out _).mono ?_); rintro _ w9 ⟨rfl, hk9⟩; have hS1 := hS.keepB hk9; clear hk9 hS; have hS := hS1; clear hS1) | (go_at_call 27; (with_reducible refine (cP.out _).mono ?_); rintro _ w9 ⟨rfl, hk9⟩; have hS1 := hS.keepB hk9; clear hk9 hS; have hS := hS1; clear hS1) | (go_at_call 19; (with_reducible refine (cRP.out _).mono ?_); rintro _ w9 ⟨rfl, hk9⟩; have hS1 := hS.keepB hk9; clear hk9 hS; have hS := hS1; clear hS1) | (go_at_call 23; (with_reducible refine (cD.out _).mono ?_); rintro _ w9 ⟨rfl, hk9⟩; have hS1 := hS.keepB hk9; clear hk9 hS; have hS := hS1; clear hS1) | (go_at_call 28; (with_reducible refine (cRD.out _).mono ?_); rintro _ w9 ⟨rfl, hk9⟩; have hS1 := hS.keepB hk9; clear hk9 hS; have hS := hS1; clear hS1) | (go_at_call 29; (with_reducible refine (cS1.out _ _ _ (hS.blksl 1 rfl) (hS.blksl 0 rfl)).mono ?_); rintro _ w9 ⟨rfl, hk9⟩; have hS1 := hS.keepB hk9; clear hk9 hS; have hS := hS1; clear hS1; have hS1 := hS.drop; clear hS; have hS := hS1; clear hS1) | (go_at_call 29; (with_reducible refine (cS2.out _ _ _ (hS.blksl 1 rfl) (hS.blksl 0 rfl)).mono ?_); rintro _ w9 ⟨rfl, hk9⟩; have hS1 := hS.keepB hk9; clear hk9 hS; have hS := hS1; clear hS1; have hS1 := hS.drop; clear hS; have hS := hS1; clear hS1) | (go_at_call 29; (with_reducible refine (cS3.out _ _ (hS.blksl 0 rfl)).mono ?_); rintro _ w9 ⟨rfl, hk9⟩; have hS1 := hS.keepB hk9; clear hk9 hS; have hS := hS1; clear hS1) | (go_at_call 10; (with_reducible refine (cA.out _ hS.below).mono ?_); rintro _ w9 ⟨rfl, hk9⟩; have hS1 := hS.keepB hk9; clear hk9 hS; have hS := hS1; clear hS1) | ((with_reducible refine op_buildr_st (by kernel_rfl) hS hB1.out rfl rfl ?_); intro gs w1 hS1; clear hS; have hS := hS1; clear hS1) | ((with_reducible refine op_buildr_st (by kernel_rfl) hS hB2.out rfl rfl ?_); intro gs w1 hS1; clear hS; have hS := hS1; clear hS1) )
  try clear hC
  refine hK.out _ _ _ (fun _ h => h) (by first | exact hS | exact hS.drop | exact hS.drop.drop | exact hS.drop.drop.drop | exact hS.drop.drop.drop.drop | exact hS.empty | exact hS.one 0 rfl | exact hS.one 1 rfl | exact hS.one 2 rfl | exact hS.one 3 rfl | exact hS.one 4 rfl | exact hS.one 5 rfl | exact hS.one 6 rfl | exact hS.one 7 rfl | exact hS.one 8 rfl | exact hS.one 9 rfl | exact hS.one 10 rfl | exact hS.one 11 rfl) (fun hC => ?_)
  clear hK K
  try simp only [List.getElem_toArray, List.getElem_cons_succ, List.getElem_cons_zero, Act.put, List.setIfInBounds_toArray, List.set_cons_zero, List.set_cons_succ]
  refine mixs_take 4 (v := ?_) rfl (by kernel_rfl) (fun _ _ _ h => h) (by kernel_rfl) (by assumption) (fun s => ?hy) ?_; case hy => (go_simp <;> with_reducible rfl)
  try simp only [List.getElem_toArray, List.getElem_cons_succ, List.getElem_cons_zero, Act.put, List.setIfInBounds_toArray, List.set_cons_zero, List.set_cons_succ]
  refine mixs_take 5 (v := ?_) rfl (by kernel_rfl) (fun _ _ _ h => h) (by kernel_rfl) (by assumption) (fun s => ?hy) ?_; case hy => (go_simp <;> with_reducible rfl)
  try simp only [List.getElem_toArray, List.getElem_cons_succ, List.getElem_cons_zero, Act.put, List.setIfInBounds_toArray, List.set_cons_zero, List.set_cons_succ]
  refine mixs_take 6 (v := ?_) rfl (by kernel_rfl) (fun _ _ _ h => h) (by kernel_rfl) (by assumption) (fun s => ?hy) ?_; case hy => (refine Eq.trans (take_loadrow s rfl rfl kP) ?_; with_reducible rfl)
  try simp only [List.getElem_toArray, List.getElem_cons_succ, List.getElem_cons_zero, Act.put, List.setIfInBounds_toArray, List.set_cons_zero, List.set_cons_succ]
  refine mixs_take 8 (v := ?_) rfl (by kernel_rfl) (fun _ _ _ h => h) (by kernel_rfl) (by assumption) (fun s => ?hy) ?_; case hy => (refine Eq.trans (take_loadrow s rfl rfl kP) ?_; with_reducible rfl)
  try simp only [List.getElem_toArray, List.getElem_cons_succ, List.getElem_cons_zero, Act.put, List.setIfInBounds_toArray, List.set_cons_zero, List.set_cons_succ]
  refine mixs_one 7 (by kernel_rfl) rfl (fun K hK => ?_)
  go_simp
  ( first | (go_at_call 25; (with_reducible refine (cK.out _).mono ?_); rintro _ w9 ⟨rfl, hk9⟩; have hS1 := hS.keepB hk9; clear hk9 hS; have hS := hS1; clear hS1) | (go_at_call 26; (with_reducible refine (cRK.out _).mono ?_); rintro _ w9 ⟨rfl, hk9⟩; have hS1 := hS.keepB hk9; clear hk9 hS; have hS := hS1; clear hS1) | (go_at_call 27; (with_reducible refine (cP.out _).mono ?_); rintro _ w9 ⟨rfl, hk9⟩; have hS1 := hS.keepB hk9; clear hk9 hS; have hS := hS1; clear hS1) | (go_at_call 19; (with_reducible refine (cRP.out _).mono ?_); rintro _ w9 ⟨rfl, hk9⟩; have hS1 := hS.keepB hk9; clear hk9 hS; have hS := hS1; clear hS1) | (go_at_call 23; (with_reducible refine (cD.out _).mono ?_); rintro _ w9 ⟨rfl, hk9⟩; have hS1 := hS.keepB hk9; clear hk9 hS; have hS := hS1; clear hS1) | (go_at_call 28; (with_reducible refine (cRD.out _).mono ?_); rintro _ w9 ⟨rfl, hk9⟩; have hS1 := hS.keepB hk9; clear hk9 hS; have hS := hS1; clear hS1) | (go_at_call 29; (with_reducible refine (cS1.out _ _ _ (hS.blksl 1 rfl) (hS.blksl 0 rfl)).mono ?_); rintro _ w9 ⟨rfl, hk9⟩; have hS1 := hS.keepB hk9; clear hk9 hS; have hS := hS1; clear hS1; have hS1 := hS.drop; clear hS; have hS := hS1; clear hS1) | (go_at_call 29; (with_reducible refine (cS2.out _ _ _ (hS.blksl 1 rfl) (hS.blksl 0 rfl)).mono ?_); rintro _ w9 ⟨rfl, hk9⟩; have hS1 := hS.keepB hk9; clear hk9 hS; have hS := hS1; clear hS1; have hS1 := hS.drop; clear hS; have hS := hS1; clear hS1) | (go_at_call 29; (with_reducible refine (cS3.out _ _ (hS.blksl 0 rfl)).mono ?_); rintro _ w9 ⟨rfl, hk9⟩; have hS1 := hS.keepB hk9; clear hk9 hS; have hS := hS1; clear hS1) | (go_at_call 10; (with_reducible refine (cA.out _ hS.below).mono ?_); rintro _ w9 ⟨rfl, hk9⟩; have hS1 := hS.keepB hk9; clear hk9 hS; have hS := hS1; clear hS1) | ((with_reducible refine op_buildr_st (by kernel_rfl) hS hB1.out rfl rfl ?_); intro gs w1 hS1; clear hS; have hS := hS1; clear hS1) | ((with_reducible refine op_buildr_st (by kernel_rfl) hS hB2.out rfl rfl ?_); intro gs w1 hS1; clear hS; have hS := hS1; clear hS1) )
  try clear hC
  refine hK.out _ _ _ (fun _ h => h) (by first | exact hS | exact hS.drop | exact hS.drop.drop | exact hS.drop.drop.drop | exact hS.drop.drop.drop.drop | exact hS.empty | exact hS.one 0 rfl | exact hS.one 1 rfl | exact hS.one 2 rfl | exact hS.one 3 rfl | exact hS.one 4 rfl | exact hS.one 5 rfl | exact hS.one 6 rfl | exact hS.one 7 rfl | exact hS.one 8 rfl | exact hS.one 9 rfl | exact hS.one 10 rfl | exact hS.one 11 rfl) (fun hC => ?_)
  clear hK K
  try simp only [List.getElem_toArray, List.getElem_cons_succ, List.getElem_cons_zero, Act.put, List.setIfInBounds_toArray, List.set_cons_zero, List.set_cons_succ]
  refine mixs_one 9 (by kernel_rfl) rfl (fun K hK => ?_)
  go_simp
  ( first | (go_at_call 25; (with_reducible refine (cK.out _).mono ?_); rintro _ w9 ⟨rfl, hk9⟩; have hS1 := hS.keepB hk9; clear hk9 hS; have hS := hS1; clear hS1) | (go_at_call 26; (with_reducible refine (cRK.out _).mono ?_); rintro _ w9 ⟨rfl, hk9⟩; have hS1 := hS.keepB hk9; clear hk9 hS; have hS := hS1; clear hS1) | (go_at_call 27; (with_reducible refine (cP.out _).mono ?_); rintro _ w9 ⟨rfl, hk9⟩; have hS1 := hS.keepB hk9; clear hk9 hS; have hS := hS1; clear hS1) | (go_at_call 19; (with_reducible refine (cRP.out _).mono ?_); rintro _ w9 ⟨rfl, hk9⟩; have hS1 := hS.keepB hk9; clear hk9 hS; have hS := hS1; clear hS1) | (go_at_call 23; (with_reducible refine (cD.out _).mono ?_); rintro _ w9 ⟨rfl, hk9⟩; have hS1 := hS.keepB hk9; clear hk9 hS; have hS := hS1; clear hS1) | (go_at_call 28; (with_reducible refine (cRD.out _).mono ?_); rintro _ w9 ⟨rfl, hk9⟩; have hS1 := hS.keepB hk9; clear hk9 hS; have hS := hS1; clear hS1) | (go_at_call 29; (with_reducible refine (cS1.out _ _ _ (hS.blksl 1 rfl) (hS.blksl 0 rfl)).mono ?_); rintro _ w9 ⟨rfl, hk9⟩; have hS1 := hS.keepB hk9; clear hk9 hS; have hS := hS1; clear hS1; have hS1 := hS.drop; clear hS; have hS := hS1; clear hS1) | (go_at_call 29; (with_reducible refine (cS2.out _ _ _ (hS.blksl 1 rfl) (hS.blksl 0 rfl)).mono ?_); rintro _ w9 ⟨rfl, hk9⟩; have hS1 := hS.keepB hk9; clear hk9 hS; have hS := hS1; clear hS1; have hS1 := hS.drop; clear hS; have hS := hS1; clear hS1) | (go_at_call 29; (with_reducible refine (cS3.out _ _ (hS.blksl 0 rfl)).mono ?_); rintro _ w9 ⟨rfl, hk9⟩; have hS1 := hS.keepB hk9; clear hk9 hS; have hS := hS1; clear hS1) | (go_at_call 10; (with_reducible refine (cA.out _ hS.below).mono ?_); rintro _ w9 ⟨rfl, hk9⟩; have hS1 := hS.keepB hk9; clear hk9 hS; have hS := hS1; clear hS1) | ((with_reducible refine op_buildr_st (by kernel_rfl) hS hB1.out rfl rfl ?_); intro gs w1 hS1; clear hS; have hS := hS1; clear hS1) | ((with_reducible refine op_buildr_st (by kernel_rfl) hS hB2.out rfl rfl ?_); intro gs w1 hS1; clear hS; have hS := hS1; clear hS1) )
  try clear hC
  refine hK.out _ _ _ (fun _ h => h) (by first | exact hS | exact hS.drop | exact hS.drop.drop | exact hS.drop.drop.drop | exact hS.drop.drop.drop.drop | exact hS.empty | exact hS.one 0 rfl | exact hS.one 1 rfl | exact hS.one 2 rfl | exact hS.one 3 rfl | exact hS.one 4 rfl | exact hS.one 5 rfl | exact hS.one 6 rfl | exact hS.one 7 rfl | exact hS.one 8 rfl | exact hS.one 9 rfl | exact hS.one 10 rfl | exact hS.one 11 rfl) (fun hC => ?_)
  clear hK K
  try simp only [List.getElem_toArray, List.getElem_cons_succ, List.getElem_cons_zero, Act.put, List.setIfInBounds_toArray, List.set_cons_zero, List.set_cons_succ]
  refine mixs_take 10 (v := ?_) rfl (by kernel_rfl) (fun _ _ _ h => h) (by kernel_rfl) (by assumption) (fun s => ?hy) ?_; case hy => (go_simp <;> with_reducible rfl)
  try simp only [List.getElem_toArray, List.getElem_cons_succ, List.getElem_cons_zero, Act.put, List.setIfInBounds_toArray, List.set_cons_zero, List.set_cons_succ]
  refine mixs_take 11 (v := ?_) rfl (by kernel_rfl) (fun _ _ _ h => h) (by kernel_rfl) (by assumption) (fun s => ?hy) ?_; case hy => (go_simp <;> with_reducible rfl)
  try simp only [List.getElem_toArray, List.getElem_cons_succ, List.getElem_cons_zero, Act.put, List.setIfInBounds_toArray, List.set_cons_zero, List.set_cons_succ]
  refine mixs_take 12 (v := ?_) rfl (by kernel_rfl) (fun _ _ _ h => h) (by kernel_rfl) (by assumption) (fun s => ?hy) ?_; case hy => (go_simp <;> with_reducible rfl)
  try simp only [List.getElem_toArray, List.getElem_cons_succ, List.getElem_cons_zero, Act.put, List.setIfInBounds_toArray, List.set_cons_zero, List.set_cons_succ]
  refine mixs_take 13 (v := ?_) rfl (by kernel_rfl) (fun _ _ _ h => h) (by kernel_rfl) (by assumption) (fun s => ?hy) ?_; case hy => (refine Eq.trans (take_loadrow s rfl rfl kA) ?_; with_reducible rfl)
  try simp only [List.getElem_toArray, List.getElem_cons_succ, List.getElem_cons_zero, Act.put, List.setIfInBounds_toArray, List.set_cons_zero, List.set_cons_succ]
  refine mixs_take 14 (v := ?_) rfl (by kernel_rfl) (fun _ _ _ h => h) (by kernel_rfl) (by assumption) (fun s => ?hy) ?_; case hy => (refine Eq.trans (take_loadrow s rfl rfl kB) ?_; with_reducible rfl)
  try simp only [List.getElem_toArray, List.getElem_cons_succ, List.getElem_cons_zero, Act.put, List.setIfInBounds_toArray, List.set_cons_zero, List.set_cons_succ]
  refine mixs_take 16 (v := ?_) rfl (by kernel_rfl) (fun _ _ _ h => h) (by kernel_rfl) (by assumption) (fun s => ?hy) ?_; case hy => (refine Eq.trans (take_loadrow s rfl rfl kA) ?_; with_reducible rfl)
  try simp only [List.getElem_toArray, List.getElem_cons_succ, List.getElem_cons_zero, Act.put, List.setIfInBounds_toArray, List.set_cons_zero, List.set_cons_succ]
  refine mixs_take 17 (v := ?_) rfl (by kernel_rfl) (fun _ _ _ h => h) (by kernel_rfl) (by assumption) (fun s => ?hy) ?_; case hy => (refine Eq.trans (take_loadrow s rfl rfl kB) ?_; with_reducible rfl)
  try simp only [List.getElem_toArray, List.getElem_cons_succ, List.getElem_cons_zero, Act.put, List.setIfInBounds_toArray, List.set_cons_zero, List.set_cons_succ]
  refine mixs_one 15 (by kernel_rfl) rfl (fun K hK => ?_)
  go_simp
  ( first | (go_at_call 25; (with_reducible refine (cK.out _).mono ?_); rintro _ w9 ⟨rfl, hk9⟩; have hS1 := hS.keepB hk9; clear hk9 hS; have hS := hS1; clear hS1) | (go_at_call 26; (with_reducible refine (cRK.out _).mono ?_); rintro _ w9 ⟨rfl, hk9⟩; have hS1 := hS.keepB hk9; clear hk9 hS; have hS := hS1; clear hS1) | (go_at_call 27; (with_reducible refine (cP.out _).mono ?_); rintro _ w9 ⟨rfl, hk9⟩; have hS1 := hS.keepB hk9; clear hk9 hS; have hS := hS1; clear hS1) | (go_at_call 19; (with_reducible refine (cRP.out _).mono ?_); rintro _ w9 ⟨rfl, hk9⟩; have hS1 := hS.keepB hk9; clear hk9 hS; have hS := hS1; clear hS1) | (go_at_call 23; (with_reducible refine (cD.out _).mono ?_); rintro _ w9 ⟨rfl, hk9⟩; have hS1 := hS.keepB hk9; clear hk9 hS; have hS := hS1; clear hS1) | (go_at_call 28; (with_reducible refine (cRD.out _).mono ?_); rintro _ w9 ⟨rfl, hk9⟩; have hS1 := hS.keepB hk9; clear hk9 hS; have hS := hS1; clear hS1) | (go_at_call 29; (with_reducible refine (cS1.out _ _ _ (hS.blksl 1 rfl) (hS.blksl 0 rfl)).mono ?_); rintro _ w9 ⟨rfl, hk9⟩; have hS1 := hS.keepB hk9; clear hk9 hS; have hS := hS1; clear hS1; have hS1 := hS.drop; clear hS; have hS := hS1; clear hS1) | (go_at_call 29; (with_reducible refine (cS2.out _ _ _ (hS.blksl 1 rfl) (hS.blksl 0 rfl)).mono ?_); rintro _ w9 ⟨rfl, hk9⟩; have hS1 := hS.keepB hk9; clear hk9 hS; have hS := hS1; clear hS1; have hS1 := hS.drop; clear hS; have hS := hS1; clear hS1) | (go_at_call 29; (with_reducible refine (cS3.out _ _ (hS.blksl 0 rfl)).mono ?_); rintro _ w9 ⟨rfl, hk9⟩; have hS1 := hS.keepB hk9; clear hk9 hS; have hS := hS1; clear hS1) | (go_at_call 10; (with_reducible refine (cA.out _ hS.below).mono ?_); rintro _ w9 ⟨rfl, hk9⟩; have hS1 := hS.keepB hk9; clear hk9 hS; have hS := hS1; clear hS1) | ((with_reducible refine op_buildr_st (by kernel_rfl) hS hB1.out rfl rfl ?_); intro gs w1 hS1; clear hS; have hS := hS1; clear hS1) | ((with_reducible refine op_buildr_st (by kernel_rfl) hS hB2.out rfl rfl ?_); intro gs w1 hS1; clear hS; have hS := hS1; clear hS1) )
  try clear hC
  refine hK.out _ _ _ (fun _ h => h) (by first | exact hS | exact hS.drop | exact hS.drop.drop | exact hS.drop.drop.drop | exact hS.drop.drop.drop.drop | exact hS.empty | exact hS.one 0 rfl | exact hS.one 1 rfl | exact hS.one 2 rfl | exact hS.one 3 rfl | exact hS.one 4 rfl | exact hS.one 5 rfl | exact hS.one 6 rfl | exact hS.one 7 rfl | exact hS.one 8 rfl | exact hS.one 9 rfl | exact hS.one 10 rfl | exact hS.one 11 rfl) (fun hC => ?_)
  clear hK K
  try simp only [List.getElem_toArray, List.getElem_cons_succ, List.getElem_cons_zero, Act.put, List.setIfInBounds_toArray, List.set_cons_zero, List.set_cons_succ]
  refine mixs_one 18 (by kernel_rfl) rfl (fun K hK => ?_)
  go_simp
  ( first | (go_at_call 25; (with_reducible refine (cK.out _).mono ?_); rintro _ w9 ⟨rfl, hk9⟩; have hS1 := hS.keepB hk9; clear hk9 hS; have hS := hS1; clear hS1) | (go_at_call 26; (with_reducible refine (cRK.out _).mono ?_); rintro _ w9 ⟨rfl, hk9⟩; have hS1 := hS.keepB hk9; clear hk9 hS; have hS := hS1; clear hS1) | (go_at_call 27; (with_reducible refine (cP.out _).mono ?_); rintro _ w9 ⟨rfl, hk9⟩; have hS1 := hS.keepB hk9; clear hk9 hS; have hS := hS1; clear hS1) | (go_at_call 19; (with_reducible refine (cRP.out _).mono ?_); rintro _ w9 ⟨rfl, hk9⟩; have hS1 := hS.keepB hk9; clear hk9 hS; have hS := hS1; clear hS1) | (go_at_call 23; (with_reducible refine (cD.out _).mono ?_); rintro _ w9 ⟨rfl, hk9⟩; have hS1 := hS.keepB hk9; clear hk9 hS; have hS := hS1; clear hS1) | (go_at_call 28; (with_reducible refine (cRD.out _).mono ?_); rintro _ w9 ⟨rfl, hk9⟩; have hS1 := hS.keepB hk9; clear hk9 hS; have hS := hS1; clear hS1) | (go_at_call 29; (with_reducible refine (cS1.out _ _ _ (hS.blksl 1 rfl) (hS.blksl 0 rfl)).mono ?_); rintro _ w9 ⟨rfl, hk9⟩; have hS1 := hS.keepB hk9; clear hk9 hS; have hS := hS1; clear hS1; have hS1 := hS.drop; clear hS; have hS := hS1; clear hS1) | (go_at_call 29; (with_reducible refine (cS2.out _ _ _ (hS.blksl 1 rfl) (hS.blksl 0 rfl)).mono ?_); rintro _ w9 ⟨rfl, hk9⟩; have hS1 := hS.keepB hk9; clear hk9 hS; have hS := hS1; clear hS1; have hS1 := hS.drop; clear hS; have hS := hS1; clear hS1) | (go_at_call 29; (with_reducible refine (cS3.out _ _ (hS.blksl 0 rfl)).mono ?_); rintro _ w9 ⟨rfl, hk9⟩; have hS1 := hS.keepB hk9; clear hk9 hS; have hS := hS1; clear hS1) | (go_at_call 10; (with_reducible refine (cA.out _ hS.below).mono ?_); rintro _ w9 ⟨rfl, hk9⟩; have hS1 := hS.keepB hk9; clear hk9 hS; have hS := hS1; clear hS1) | ((with_reducible refine op_buildr_st (by kernel_rfl) hS hB1.out rfl rfl ?_); intro gs w1 hS1; clear hS; have hS := hS1; clear hS1) | ((with_reducible refine op_buildr_st (by kernel_rfl) hS hB2.out rfl rfl ?_); intro gs w1 hS1; clear hS; have hS := hS1; clear hS1) )
  try clear hC
  refine hK.out _ _ _ (fun _ h => h) (by first | exact hS | exact hS.drop | exact hS.drop.drop | exact hS.drop.drop.drop | exact hS.drop.drop.drop.drop | exact hS.empty | exact hS.one 0 rfl | exact hS.one 1 rfl | exact hS.one 2 rfl | exact hS.one 3 rfl | exact hS.one 4 rfl | exact hS.one 5 rfl | exact hS.one 6 rfl | exact hS.one 7 rfl | exact hS.one 8 rfl | exact hS.one 9 rfl | exact hS.one 10 rfl | exact hS.one 11 rfl) (fun hC => ?_)
  clear hK K
  try simp only [List.getElem_toArray, List.getElem_cons_succ, List.getElem_cons_zero, Act.put, List.setIfInBounds_toArray, List.set_cons_zero, List.set_cons_succ]
  refine mixs_take 19 (v := ?_) rfl (by kernel_rfl) (fun _ _ _ h => h) (by kernel_rfl) (by assumption) (fun s => ?hy) ?_; case hy => (go_simp <;> with_reducible rfl)
  try simp only [List.getElem_toArray, List.getElem_cons_succ, List.getElem_cons_zero, Act.put, List.setIfInBounds_toArray, List.set_cons_zero, List.set_cons_succ]
  refine mixs_take 20 (v := ?_) rfl (by kernel_rfl) (fun _ _ _ h => h) (by kernel_rfl) (by assumption) (fun s => ?hy) ?_; case hy => (go_simp <;> with_reducible rfl)
  try simp only [List.getElem_toArray, List.getElem_cons_succ, List.getElem_cons_zero, Act.put, List.setIfInBounds_toArray, List.set_cons_zero, List.set_cons_succ]
  refine mixs_take 21 (v := ?_) rfl (by kernel_rfl) (fun _ _ _ h => h) (by kernel_rfl) (by assumption) (fun s => ?hy) ?_; case hy => (go_simp <;> with_reducible rfl)
  try simp only [List.getElem_toArray, List.getElem_cons_succ, List.getElem_cons_zero, Act.put, List.setIfInBounds_toArray, List.set_cons_zero, List.set_cons_succ]
  refine mixs_take 22 (v := ?_) rfl (by kernel_rfl) (fun _ _ _ h => h) (by kernel_rfl) (by assumption) (fun s => ?hy) ?_; case hy => (go_simp <;> with_reducible rfl)
  try simp only [List.getElem_toArray, List.getElem_cons_succ, List.getElem_cons_zero, Act.put, List.setIfInBounds_toArray, List.set_cons_zero, List.set_cons_succ]
  refine mixs_take 23 (v := ?_) rfl (by kernel_rfl) (fun _ _ _ h => h) (by kernel_rfl) (by assumption) (fun s => ?hy) ?_; case hy => (refine Eq.trans (take_loadrow s rfl rfl kB) ?_; with_reducible rfl)
  try simp only [List.getElem_toArray, List.getElem_cons_succ, List.getElem_cons_zero, Act.put, List.setIfInBounds_toArray, List.set_cons_zero, List.set_cons_succ]
  refine mixs_take 24 (v := ?_) rfl (by kernel_rfl) (fun _ _ _ h => h) (by kernel_rfl) (by assumption) (fun s => ?hy) ?_; case hy => (refine Eq.trans (take_loadrow s rfl rfl kA) ?_; with_reducible rfl)
  try simp only [List.getElem_toArray, List.getElem_cons_succ, List.getElem_cons_zero, Act.put, List.setIfInBounds_toArray, List.set_cons_zero, List.set_cons_succ]
  refine mixs_take 27 (v := ?_) rfl (by kernel_rfl) (fun _ _ _ h => h) (by kernel_rfl) (by assumption) (fun s => ?hy) ?_; case hy => (refine Eq.trans (take_loadrow s rfl rfl kA) ?_; with_reducible rfl)
  try simp only [List.getElem_toArray, List.getElem_cons_succ, List.getElem_cons_zero, Act.put, List.setIfInBounds_toArray, List.set_cons_zero, List.set_cons_succ]
  refine mixs_take 28 (v := ?_) rfl (by kernel_rfl) (fun _ _ _ h => h) (by kernel_rfl) (by assumption) (fun s => ?hy) ?_; case hy => (refine Eq.trans (take_loadrow s rfl rfl kB) ?_; with_reducible rfl)
  try simp only [List.getElem_toArray, List.getElem_cons_succ, List.getElem_cons_zero, Act.put, List.setIfInBounds_toArray, List.set_cons_zero, List.set_cons_succ]
  refine mixs_take 29 (v := ?_) rfl (by kernel_rfl) (fun _ _ _ h => h) (by kernel_rfl) (by assumption) (fun s => ?hy) ?_; case hy => (go_simp <;> with_reducible rfl)
  try simp only [List.getElem_toArray, List.getElem_cons_succ, List.getElem_cons_zero, Act.put, List.setIfInBounds_toArray, List.set_cons_zero, List.set_cons_succ]
  refine mixs_one 25 (by kernel_rfl) rfl (fun K hK => ?_)
  ( first | (go_at_call 25; (with_reducible refine (cK.out _).mono ?_); rintro _ w9 ⟨rfl, hk9⟩; have hS1 := hS.keepB hk9; clear hk9 hS; have hS := hS1; clear hS1) | (go_at_call 26; (with_reducible refine (cRK.out _).mono ?_); rintro _ w9 ⟨rfl, hk9⟩; have hS1 := hS.keepB hk9; clear hk9 hS; have hS := hS1; clear hS1) | (go_at_call 27; (with_reducible refine (cP.out _).mono ?_); rintro _ w9 ⟨rfl, hk9⟩; have hS1 := hS.keepB hk9; clear hk9 hS; have hS := hS1; clear hS1) | (go_at_call 19; (with_reducible refine (cRP.out _).mono ?_); rintro _ w9 ⟨rfl, hk9⟩; have hS1 := hS.keepB hk9; clear hk9 hS; have hS := hS1; clear hS1) | (go_at_call 23; (with_reducible refine (cD.out _).mono ?_); rintro _ w9 ⟨rfl, hk9⟩; have hS1 := hS.keepB hk9; clear hk9 hS; have hS := hS1; clear hS1) | (go_at_call 28; (with_reducible refine (cRD.out _).mono ?_); rintro _ w9 ⟨rfl, hk9⟩; have hS1 := hS.keepB hk9; clear hk9 hS; have hS := hS1; clear hS1) | (go_at_call 29; (with_reducible refine (cS1.out _ _ _ (hS.blksl 1 rfl) (hS.blksl 0 rfl)).mono ?_); rintro _ w9 ⟨rfl, hk9⟩; have hS1 := hS.keepB hk9; clear hk9 hS; have hS := hS1; clear hS1; have hS1 := hS.drop; clear hS; have hS := hS1; clear hS1) | (go_at_call 29; (with_reducible refine (cS2.out _ _ _ (hS.blksl 1 rfl) (hS.blksl 0 rfl)).mono ?_); rintro _ w9 ⟨rfl, hk9⟩; have hS1 := hS.keepB hk9; clear hk9 hS; have hS := hS1; clear hS1; have hS1 := hS.drop; clear hS; have hS := hS1; clear hS1) | (go_at_call 29; (with_reducible refine (cS3.out _ _ (hS.blksl 0 rfl)).mono ?_); rintro _ w9 ⟨rfl, hk9⟩; have hS1 := hS.keepB hk9; clear hk9 hS; have hS := hS1; clear hS1) | (go_at_call 10; (with_reducible refine (cA.out _ hS.below).mono ?_); rintro _ w9 ⟨rfl, hk9⟩; have hS1 := hS.keepB hk9; clear hk9 hS; have hS := hS1; clear hS1) | ((with_reducible refine op_buildr_st (by kernel_rfl) hS hB1.out rfl rfl ?_); intro gs w1 hS1; clear hS; have hS := hS1; clear hS1) | ((with_reducible refine op_buildr_st (by kernel_rfl) hS hB2.out rfl rfl ?_); intro gs w1 hS1; clear hS; have hS := hS1; clear hS1) )
  try clear hC
  refine hK.out _ _ _ (fun _ h => h) (by first | exact hS | exact hS.drop | exact hS.drop.drop | exact hS.drop.drop.drop | exact hS.drop.drop.drop.drop | exact hS.empty | exact hS.one 0 rfl | exact hS.one 1 rfl | exact hS.one 2 rfl | exact hS.one 3 rfl | exact hS.one 4 rfl | exact hS.one 5 rfl | exact hS.one 6 rfl | exact hS.one 7 rfl | exact hS.one 8 rfl | exact hS.one 9 rfl | exact hS.one 10 rfl | exact hS.one 11 rfl) (fun hC => ?_)
  clear hK K
  try simp only [List.getElem_toArray, List.getElem_cons_succ, List.getElem_cons_zero, Act.put, List.setIfInBounds_toArray, List.set_cons_zero, List.set_cons_succ]
  refine mixs_one 26 (by kernel_rfl) rfl (fun K hK => ?_)
  go_simp
  ( first | (go_at_call 25; (with_reducible refine (cK.out _).mono ?_); rintro _ w9 ⟨rfl, hk9⟩; have hS1 := hS.keepB hk9; clear hk9 hS; have hS := hS1; clear hS1) | (go_at_call 26; (with_reducible refine (cRK.out _).mono ?_); rintro _ w9 ⟨rfl, hk9⟩; have hS1 := hS.keepB hk9; clear hk9 hS; have hS := hS1; clear hS1) | (go_at_call 27; (with_reducible refine (cP.out _).mono ?_); rintro _ w9 ⟨rfl, hk9⟩; have hS1 := hS.keepB hk9; clear hk9 hS; have hS := hS1; clear hS1) | (go_at_call 19; (with_reducible refine (cRP.out _).mono ?_); rintro _ w9 ⟨rfl, hk9⟩; have hS1 := hS.keepB hk9; clear hk9 hS; have hS := hS1; clear hS1) | (go_at_call 23; (with_reducible refine (cD.out _).mono ?_); rintro _ w9 ⟨rfl, hk9⟩; have hS1 := hS.keepB hk9; clear hk9 hS; have hS := hS1; clear hS1) | (go_at_call 28; (with_reducible refine (cRD.out _).mono ?_); rintro _ w9 ⟨rfl, hk9⟩; have hS1 := hS.keepB hk9; clear hk9 hS; have hS := hS1; clear hS1) | (go_at_call 29; (with_reducible refine (cS1.out _ _ _ (hS.blksl 1 rfl) (hS.blksl 0 rfl)).mono ?_); rintro _ w9 ⟨rfl, hk9⟩; have hS1 := hS.keepB hk9; clear hk9 hS; have hS := hS1; clear hS1; have hS1 := hS.drop; clear hS; have hS := hS1; clear hS1) | (go_at_call 29; (with_reducible refine (cS2.out _ _ _ (hS.blksl 1 rfl) (hS.blksl 0 rfl)).mono ?_); rintro _ w9 ⟨rfl, hk9⟩; have hS1 := hS.keepB hk9; clear hk9 hS; have hS := hS1; clear hS1; have hS1 := hS.drop; clear hS; have hS := hS1; clear hS1) | (go_at_call 29; (with_reducible refine (cS3.out _ _ (hS.blksl 0 rfl)).mono ?_); rintro _ w9 ⟨rfl, hk9⟩; have hS1 := hS.keepB hk9; clear hk9 hS; have hS := hS1; clear hS1) | (go_at_call 10; (with_reducible refine (cA.out _ hS.below).mono ?_); rintro _ w9 ⟨rfl, hk9⟩; have hS1 := hS.keepB hk9; clear hk9 hS; have hS := hS1; clear hS1) | ((with_reducible refine op_buildr_st (by kernel_rfl) hS hB1.out rfl rfl ?_); intro gs w1 hS1; clear hS; have hS := hS1; clear hS1) | ((with_reducible refine op_buildr_st (by kernel_rfl) hS hB2.out rfl rfl ?_); intro gs w1 hS1; clear hS; have hS := hS1; clear hS1) )
  try clear hC
  refine hK.out _ _ _ (fun _ h => h) (by first | exact hS | exact hS.drop | exact hS.drop.drop | exact hS.drop.drop.drop | exact hS.drop.drop.drop.drop | exact hS.empty | exact hS.one 0 rfl | exact hS.one 1 rfl | exact hS.one 2 rfl | exact hS.one 3 rfl | exact hS.one 4 rfl | exact hS.one 5 rfl | exact hS.one 6 rfl | exact hS.one 7 rfl | exact hS.one 8 rfl | exact hS.one 9 rfl | exact hS.one 10 rfl | exact hS.one 11 rfl) (fun hC => ?_)
  clear hK K
  try simp only [List.getElem_toArray, List.getElem_cons_succ, List.getElem_cons_zero, Act.put, List.setIfInBounds_toArray, List.set_cons_zero, List.set_cons_succ]
  refine mixs_take 30 (v := ?_) rfl (by kernel_rfl) (fun _ _ _ h => h) (by kernel_rfl) (by assumption) (fun s => ?hy) ?_; case hy => (go_simp <;> with_reducible rfl)
  try simp only [List.getElem_toArray, List.getElem_cons_succ, List.getElem_cons_zero, Act.put, List.setIfInBounds_toArray, List.set_cons_zero, List.set_cons_succ]
  refine mixs_take 31 (v := ?_) rfl (by kernel_rfl) (fun _ _ _ h => h) (by kernel_rfl) (by assumption) (fun s => ?hy) ?_; case hy => (go_simp <;> with_reducible rfl)
  try simp only [List.getElem_toArray, List.getElem_cons_succ, List.getElem_cons_zero, Act.put, List.setIfInBounds_toArray, List.set_cons_zero, List.set_cons_succ]
  refine mixs_take 32 (v := ?_) rfl (by kernel_rfl) (fun _ _ _ h => h) (by kernel_rfl) (by assumption) (fun s => ?hy) ?_; case hy => (go_simp <;> with_reducible rfl)
  try simp only [List.getElem_toArray, List.getElem_cons_succ, List.getElem_cons_zero, Act.put, List.setIfInBounds_toArray, List.set_cons_zero, List.set_cons_succ]
  refine mixs_take 33 (v := ?_) rfl (by kernel_rfl) (fun _ _ _ h => h) (by kernel_rfl) (by assumption) (fun s => ?hy) ?_; case hy => (go_simp <;> with_reducible rfl)
  try simp only [List.getElem_toArray, List.getElem_cons_succ, List.getElem_cons_zero, Act.put, List.setIfInBounds_toArray, List.set_cons_zero, List.set_cons_succ]
  refine mixs_take 34 (v := ?_) rfl (by kernel_rfl) (fun _ _ _ h => h) (by kernel_rfl) (by assumption) (fun s => ?hy) ?_; case hy => (refine Eq.trans (take_loadrow s rfl rfl kA) ?_; with_reducible rfl)
  try simp only [List.getElem_toArray, List.getElem_cons_succ, List.getElem_cons_zero, Act.put, List.setIfInBounds_toArray, List.set_cons_zero, List.set_cons_succ]
  refine mixs_take 35 (v := ?_) rfl (by kernel_rfl) (fun _ _ _ h => h) (by kernel_rfl) (by assumption) (fun s => ?hy) ?_; case hy => (refine Eq.trans (take_loadrow s rfl rfl kB) ?_; with_reducible rfl)
  try simp only [List.getElem_toArray, List.getElem_cons_succ, List.getElem_cons_zero, Act.put, List.setIfInBounds_toArray, List.set_cons_zero, List.set_cons_succ]
  refine mixs_one 36 (by kernel_rfl) rfl (fun K hK => ?_)
  ( first | (go_at_call 25; (with_reducible refine (cK.out _).mono ?_); rintro _ w9 ⟨rfl, hk9⟩; have hS1 := hS.keepB hk9; clear hk9 hS; have hS := hS1; clear hS1) | (go_at_call 26; (with_reducible refine (cRK.out _).mono ?_); rintro _ w9 ⟨rfl, hk9⟩; have hS1 := hS.keepB hk9; clear hk9 hS; have hS := hS1; clear hS1) | (go_at_call 27; (with_reducible refine (cP.out _).mono ?_); rintro _ w9 ⟨rfl, hk9⟩; have hS1 := hS.keepB hk9; clear hk9 hS; have hS := hS1; clear hS1) | (go_at_call 19; (with_reducible refine (cRP.out _).mono ?_); rintro _ w9 ⟨rfl, hk9⟩; have hS1 := hS.keepB hk9; clear hk9 hS; have hS := hS1; clear hS1) | (go_at_call 23; (with_reducible refine (cD.out _).mono ?_); rintro _ w9 ⟨rfl, hk9⟩; have hS1 := hS.keepB hk9; clear hk9 hS; have hS := hS1; clear hS1) | (go_at_call 28; (with_reducible refine (cRD.out _).mono ?_); rintro _ w9 ⟨rfl, hk9⟩; have hS1 := hS.keepB hk9; clear hk9 hS; have hS := hS1; clear hS1) | (go_at_call 29; (with_reducible refine (cS1.out _ _ _ (hS.blksl 1 rfl) (hS.blksl 0 rfl)).mono ?_); rintro _ w9 ⟨rfl, hk9⟩; have hS1 := hS.keepB hk9; clear hk9 hS; have hS := hS1; clear hS1; have hS1 := hS.drop; clear hS; have hS := hS1; clear hS1) | (go_at_call 29; (with_reducible refine (cS2.out _ _ _ (hS.blksl 1 rfl) (hS.blksl 0 rfl)).mono ?_); rintro _ w9 ⟨rfl, hk9⟩; have hS1 := hS.keepB hk9; clear hk9 hS; have hS := hS1; clear hS1; have hS1 := hS.drop; clear hS; have hS := hS1; clear hS1) | (go_at_call 29; (with_reducible refine (cS3.out _ _ (hS.blksl 0 rfl)).mono ?_); rintro _ w9 ⟨rfl, hk9⟩; have hS1 := hS.keepB hk9; clear hk9 hS; have hS := hS1; clear hS1) | (go_at_call 10; (with_reducible refine (cA.out _ hS.below).mono ?_); rintro _ w9 ⟨rfl, hk9⟩; have hS1 := hS.keepB hk9; clear hk9 hS; have hS := hS1; clear hS1) | ((with_reducible refine op_buildr_st (by kernel_rfl) hS hB1.out rfl rfl ?_); intro gs w1 hS1; clear hS; have hS := hS1; clear hS1) | ((with_reducible refine op_buildr_st (by kernel_rfl) hS hB2.out rfl rfl ?_); intro gs w1 hS1; clear hS; have hS := hS1; clear hS1) )
  try clear hC
  refine hK.out _ _ _ (fun _ h => h) (by first | exact hS | exact hS.drop | exact hS.drop.drop | exact hS.drop.drop.drop | exact hS.drop.drop.drop.drop | exact hS.empty | exact hS.one 0 rfl | exact hS.one 1 rfl | exact hS.one 2 rfl | exact hS.one 3 rfl | exact hS.one 4 rfl | exact hS.one 5 rfl | exact hS.one 6 rfl | exact hS.one 7 rfl | exact hS.one 8 rfl | exact hS.one 9 rfl | exact hS.one 10 rfl | exact hS.one 11 rfl) (fun hC => ?_)
  clear hK K
  try simp only [List.getElem_toArray, List.getElem_cons_succ, List.getElem_cons_zero, Act.put, List.setIfInBounds_toArray, List.set_cons_zero, List.set_cons_succ]
  refine mixs_one 37 (by kernel_rfl) rfl (fun K hK => ?_)
  go_simp
  ( first | (go_at_call 25; (with_reducible refine (cK.out _).mono ?_); rintro _ w9 ⟨rfl, hk9⟩; have hS1 := hS.keepB hk9; clear hk9 hS; have hS := hS1; clear hS1) | (go_at_call 26; (with_reducible refine (cRK.out _).mono ?_); rintro _ w9 ⟨rfl, hk9⟩; have hS1 := hS.keepB hk9; clear hk9 hS; have hS := hS1; clear hS1) | (go_at_call 27; (with_reducible refine (cP.out _).mono ?_); rintro _ w9 ⟨rfl, hk9⟩; have hS1 := hS.keepB hk9; clear hk9 hS; have hS := hS1; clear hS1) | (go_at_call 19; (with_reducible refine (cRP.out _).mono ?_); rintro _ w9 ⟨rfl, hk9⟩; have hS1 := hS.keepB hk9; clear hk9 hS; have hS := hS1; clear hS1) | (go_at_call 23; (with_reducible refine (cD.out _).mono ?_); rintro _ w9 ⟨rfl, hk9⟩; have hS1 := hS.keepB hk9; clear hk9 hS; have hS := hS1; clear hS1) | (go_at_call 28; (with_reducible refine (cRD.out _).mono ?_); rintro _ w9 ⟨rfl, hk9⟩; have hS1 := hS.keepB hk9; clear hk9 hS; have hS := hS1; clear hS1) | (go_at_call 29; (with_reducible refine (cS1.out _ _ _ (hS.blksl 1 rfl) (hS.blksl 0 rfl)).mono ?_); rintro _ w9 ⟨rfl, hk9⟩; have hS1 := hS.keepB hk9; clear hk9 hS; have hS := hS1; clear hS1; have hS1 := hS.drop; clear hS; have hS := hS1; clear hS1) | (go_at_call 29; (with_reducible refine (cS2.out _ _ _ (hS.blksl 1 rfl) (hS.blksl 0 rfl)).mono ?_); rintro _ w9 ⟨rfl, hk9⟩; have hS1 := hS.keepB hk9; clear hk9 hS; have hS := hS1; clear hS1; have hS1 := hS.drop; clear hS; have hS := hS1; clear hS1) | (go_at_call 29; (with_reducible refine (cS3.out _ _ (hS.blksl 0 rfl)).mono ?_); rintro _ w9 ⟨rfl, hk9⟩; have hS1 := hS.keepB hk9; clear hk9 hS; have hS := hS1; clear hS1) | (go_at_call 10; (with_reducible refine (cA.out _ hS.below).mono ?_); rintro _ w9 ⟨rfl, hk9⟩; have hS1 := hS.keepB hk9; clear hk9 hS; have hS := hS1; clear hS1) | ((with_reducible refine op_buildr_st (by kernel_rfl) hS hB1.out rfl rfl ?_); intro gs w1 hS1; clear hS; have hS := hS1; clear hS1) | ((with_reducible refine op_buildr_st (by kernel_rfl) hS hB2.out rfl rfl ?_); intro gs w1 hS1; clear hS; have hS := hS1; clear hS1) )
  try clear hC
  refine hK.out _ _ _ (fun _ h => h) (by first | exact hS | exact hS.drop | exact hS.drop.drop | exact hS.drop.drop.drop | exact hS.drop.drop.drop.drop | exact hS.empty | exact hS.one 0 rfl | exact hS.one 1 rfl | exact hS.one 2 rfl | exact hS.one 3 rfl | exact hS.one 4 rfl | exact hS.one 5 rfl | exact hS.one 6 rfl | exact hS.one 7 rfl | exact hS.one 8 rfl | exact hS.one 9 rfl | exact hS.one 10 rfl | exact hS.one 11 rfl) (fun hC => ?_)
  clear hK K
  try simp only [List.getElem_toArray, List.getElem_cons_succ, List.getElem_cons_zero, Act.put, List.setIfInBounds_toArray, List.set_cons_zero, List.set_cons_succ]
  refine mixs_take 38 (v := ?_) rfl (by kernel_rfl) (fun _ _ _ h => h) (by kernel_rfl) (by assumption) (fun s => ?hy) ?_; case hy => (go_simp <;> with_reducible rfl)
  try simp only [List.getElem_toArray, List.getElem_cons_succ, List.getElem_cons_zero, Act.put, List.setIfInBounds_toArray, List.set_cons_zero, List.set_cons_succ]
  refine mixs_take 39 (v := ?_) rfl (by kernel_rfl) (fun _ _ _ h => h) (by kernel_rfl) (by assumption) (fun s => ?hy) ?_; case hy => (go_simp <;> with_reducible rfl)
  try simp only [List.getElem_toArray, List.getElem_cons_succ, List.getElem_cons_zero, Act.put, List.setIfInBounds_toArray, List.set_cons_zero, List.set_cons_succ]
  refine mixs_take 40 (v := ?_) rfl (by kernel_rfl) (fun _ _ _ h => h) (by kernel_rfl) (by assumption) (fun s => ?hy) ?_; case hy => (go_simp <;> with_reducible rfl)
  try simp only [List.getElem_toArray, List.getElem_cons_succ, List.getElem_cons_zero, Act.put, List.setIfInBounds_toArray, List.set_cons_zero, List.set_cons_succ]
  refine mixs_take 41 (v := ?_) rfl (by kernel_rfl) (fun _ _ _ h => h) (by kernel_rfl) (by assumption) (fun s => ?hy) ?_; case hy => (go_simp <;> with_reducible rfl)
  try simp only [List.getElem_toArray, List.getElem_cons_succ, List.getElem_cons_zero, Act.put, List.setIfInBounds_toArray, List.set_cons_zero, List.set_cons_succ]
  refine mixs_take 42 (v := ?_) rfl (by kernel_rfl) (fun _ _ _ h => h) (by kernel_rfl) (by assumption) (fun s => ?hy) ?_; case hy => (go_simp <;> with_reducible rfl)
  try simp only [List.getElem_toArray, List.getElem_cons_succ, List.getElem_cons_zero, Act.put, List.setIfInBounds_toArray, List.set_cons_zero, List.set_cons_succ]
  refine mixs_one 43 (by kernel_rfl) rfl (fun K hK => ?_)
  go_simp
  ( first | (go_at_call 25; (with_reducible refine (cK.out _).mono ?_); rintro _ w9 ⟨rfl, hk9⟩; have hS1 := hS.keepB hk9; clear hk9 hS; have hS := hS1; clear hS1) | (go_at_call 26; (with_reducible refine (cRK.out _).mono ?_); rintro _ w9 ⟨rfl, hk9⟩; have hS1 := hS.keepB hk9; clear hk9 hS; have hS := hS1; clear hS1) | (go_at_call 27; (with_reducible refine (cP.out _).mono ?_); rintro _ w9 ⟨rfl, hk9⟩; have hS1 := hS.keepB hk9; clear hk9 hS; have hS := hS1; clear hS1) | (go_at_call 19; (with_reducible refine (cRP.out _).mono ?_); rintro _ w9 ⟨rfl, hk9⟩; have hS1 := hS.keepB hk9; clear hk9 hS; have hS := hS1; clear hS1) | (go_at_call 23; (with_reducible refine (cD.out _).mono ?_); rintro _ w9 ⟨rfl, hk9⟩; have hS1 := hS.keepB hk9; clear hk9 hS; have hS := hS1; clear hS1) | (go_at_call 28; (with_reducible refine (cRD.out _).mono ?_); rintro _ w9 ⟨rfl, hk9⟩; have hS1 := hS.keepB hk9; clear hk9 hS; have hS := hS1; clear hS1) | (go_at_call 29; (with_reducible refine (cS1.out _ _ _ (hS.blksl 1 rfl) (hS.blksl 0 rfl)).mono ?_); rintro _ w9 ⟨rfl, hk9⟩; have hS1 := hS.keepB hk9; clear hk9 hS; have hS := hS1; clear hS1; have hS1 := hS.drop; clear hS; have hS := hS1; clear hS1) | (go_at_call 29; (with_reducible refine (cS2.out _ _ _ (hS.blksl 1 rfl) (hS.blksl 0 rfl)).mono ?_); rintro _ w9 ⟨rfl, hk9⟩; have hS1 := hS.keepB hk9; clear hk9 hS; have hS := hS1; clear hS1; have hS1 := hS.drop; clear hS; have hS := hS1; clear hS1) | (go_at_call 29; (with_reducible refine (cS3.out _ _ (hS.blksl 0 rfl)).mono ?_); rintro _ w9 ⟨rfl, hk9⟩; have hS1 := hS.keepB hk9; clear hk9 hS; have hS := hS1; clear hS1) | (go_at_call 10; (with_reducible refine (cA.out _ hS.below).mono ?_); rintro _ w9 ⟨rfl, hk9⟩; have hS1 := hS.keepB hk9; clear hk9 hS; have hS := hS1; clear hS1) | ((with_reducible refine op_buildr_st (by kernel_rfl) hS hB1.out rfl rfl ?_); intro gs w1 hS1; clear hS; have hS := hS1; clear hS1) | ((with_reducible refine op_buildr_st (by kernel_rfl) hS hB2.out rfl rfl ?_); intro gs w1 hS1; clear hS; have hS := hS1; clear hS1) )
  try clear hC
  refine hK.out _ _ _ (fun _ h => h) (by first | exact hS | exact hS.drop | exact hS.drop.drop | exact hS.drop.drop.drop | exact hS.drop.drop.drop.drop | exact hS.empty | exact hS.one 0 rfl | exact hS.one 1 rfl | exact hS.one 2 rfl | exact hS.one 3 rfl | exact hS.one 4 rfl | exact hS.one 5 rfl | exact hS.one 6 rfl | exact hS.one 7 rfl | exact hS.one 8 rfl | exact hS.one 9 rfl | exact hS.one 10 rfl | exact hS.one 11 rfl) (fun hC => ?_)
  clear hK K
  try simp only [List.getElem_toArray, List.getElem_cons_succ, List.getElem_cons_zero, Act.put, List.setIfInBounds_toArray, List.set_cons_zero, List.set_cons_succ]
  refine mixs_take 44 (v := ?_) rfl (by kernel_rfl) (fun _ _ _ h => h) (by kernel_rfl) (by assumption) (fun s => ?hy) ?_; case hy => (go_simp <;> with_reducible rfl)
  try simp only [List.getElem_toArray, List.getElem_cons_succ, List.getElem_cons_zero, Act.put, List.setIfInBounds_toArray, List.set_cons_zero, List.set_cons_succ]
  refine mixs_take 45 (v := ?_) rfl (by kernel_rfl) (fun _ _ _ h => h) (by kernel_rfl) (by assumption) (fun s => ?hy) ?_; case hy => (go_simp <;> with_reducible rfl)
  try simp only [List.getElem_toArray, List.getElem_cons_succ, List.getElem_cons_zero, Act.put, List.setIfInBounds_toArray, List.set_cons_zero, List.set_cons_succ]
  refine mixs_take 46 (v := ?_) rfl (by kernel_rfl) (fun _ _ _ h => h) (by kernel_rfl) (by assumption) (fun s => ?hy) ?_; case hy => (go_simp <;> with_reducible rfl)
  try simp only [List.getElem_toArray, List.getElem_cons_succ, List.getElem_cons_zero, Act.put, List.setIfInBounds_toArray, List.set_cons_zero, List.set_cons_succ]
  refine mixs_one 47 (by kernel_rfl) rfl (fun K hK => ?_)
  go_simp
  ( first | (go_at_call 25; (with_reducible refine (cK.out _).mono ?_); rintro _ w9 ⟨rfl, hk9⟩; have hS1 := hS.keepB hk9; clear hk9 hS; have hS := hS1; clear hS1) | (go_at_call 26; (with_reducible refine (cRK.out _).mono ?_); rintro _ w9 ⟨rfl, hk9⟩; have hS1 := hS.keepB hk9; clear hk9 hS; have hS := hS1; clear hS1) | (go_at_call 27; (with_reducible refine (cP.out _).mono ?_); rintro _ w9 ⟨rfl, hk9⟩; have hS1 := hS.keepB hk9; clear hk9 hS; have hS := hS1; clear hS1) | (go_at_call 19; (with_reducible refine (cRP.out _).mono ?_); rintro _ w9 ⟨rfl, hk9⟩; have hS1 := hS.keepB hk9; clear hk9 hS; have hS := hS1; clear hS1) | (go_at_call 23; (with_reducible refine (cD.out _).mono ?_); rintro _ w9 ⟨rfl, hk9⟩; have hS1 := hS.keepB hk9; clear hk9 hS; have hS := hS1; clear hS1) | (go_at_call 28; (with_reducible refine (cRD.out _).mono ?_); rintro _ w9 ⟨rfl, hk9⟩; have hS1 := hS.keepB hk9; clear hk9 hS; have hS := hS1; clear hS1) | (go_at_call 29; (with_reducible refine (cS1.out _ _ _ (hS.blksl 1 rfl) (hS.blksl 0 rfl)).mono ?_); rintro _ w9 ⟨rfl, hk9⟩; have hS1 := hS.keepB hk9; clear hk9 hS; have hS := hS1; clear hS1; have hS1 := hS.drop; clear hS; have hS := hS1; clear hS1) | (go_at_call 29; (with_reducible refine (cS2.out _ _ _ (hS.blksl 1 rfl) (hS.blksl 0 rfl)).mono ?_); rintro _ w9 ⟨rfl, hk9⟩; have hS1 := hS.keepB hk9; clear hk9 hS; have hS := hS1; clear hS1; have hS1 := hS.drop; clear hS; have hS := hS1; clear hS1) | (go_at_call 29; (with_reducible refine (cS3.out _ _ (hS.blksl 0 rfl)).mono ?_); rintro _ w9 ⟨rfl, hk9⟩; have hS1 := hS.keepB hk9; clear hk9 hS; have hS := hS1; clear hS1) | (go_at_call 10; (with_reducible refine (cA.out _ hS.below).mono ?_); rintro _ w9 ⟨rfl, hk9⟩; have hS1 := hS.keepB hk9; clear hk9 hS; have hS := hS1; clear hS1) | ((with_reducible refine op_buildr_st (by kernel_rfl) hS hB1.out rfl rfl ?_); intro gs w1 hS1; clear hS; have hS := hS1; clear hS1) | ((with_reducible refine op_buildr_st (by kernel_rfl) hS hB2.out rfl rfl ?_); intro gs w1 hS1; clear hS; have hS := hS1; clear hS1) )
  try clear hC
  refine hK.out _ _ _ (fun _ h => h) (by first | exact hS | exact hS.drop | exact hS.drop.drop | exact hS.drop.drop.drop | exact hS.drop.drop.drop.drop | exact hS.empty | exact hS.one 0 rfl | exact hS.one 1 rfl | exact hS.one 2 rfl | exact hS.one 3 rfl | exact hS.one 4 rfl | exact hS.one 5 rfl | exact hS.one 6 rfl | exact hS.one 7 rfl | exact hS.one 8 rfl | exact hS.one 9 rfl | exact hS.one 10 rfl | exact hS.one 11 rfl) (fun hC => ?_)
  clear hK K
  try simp only [List.getElem_toArray, List.getElem_cons_succ, List.getElem_cons_zero, Act.put, List.setIfInBounds_toArray, List.set_cons_zero, List.set_cons_succ]
  refine mixs_take 48 (v := ?_) rfl (by kernel_rfl) (fun _ _ _ h => h) (by kernel_rfl) (by assumption) (fun s => ?hy) ?_; case hy => (go_simp <;> with_reducible rfl)
  try simp only [List.getElem_toArray, List.getElem_cons_succ, List.getElem_cons_zero, Act.put, List.setIfInBounds_toArray, List.set_cons_zero, List.set_cons_succ]
  refine mixs_take 49 (v := ?_) rfl (by kernel_rfl) (fun _ _ _ h => h) (by kernel_rfl) (by assumption) (fun s => ?hy) ?_; case hy => (go_simp <;> with_reducible rfl)
  try simp only [List.getElem_toArray, List.getElem_cons_succ, List.getElem_cons_zero, Act.put, List.setIfInBounds_toArray, List.set_cons_zero, List.set_cons_succ]
  refine wpAnyH_done (by kernel_rfl) ?_ _
  clear kA kB kP
  go_wp2_with fail
  go_ret
  exact ⟨rfl, hS.below⟩
end Go.Proofs.YtplgpbbghhlbjaaDoor
