import Derived.Shelf.SlIterI.Nil
import Derived.Shelf.SortM.Plain
import Derived.Shelf.SortM.SortNone
import Derived.Test.YtneolmnpebiifaaGreatDoorProg
import Derived.Test.YtneolmnpebiifaaGreatDoorM17
set_option linter.unusedVariables false
set_option linter.unusedSimpArgs false
set_option maxRecDepth 100000
section
namespace Go.Proofs.YtneolmnpebiifaaGreatDoor
open Go.RowKit Go.Ofp
set_option maxHeartbeats 4000000
theorem ck1_any (v : Vl) (w : World) : Calls Tryz.prog 142 #[.agg (vlRow v).toArray] w fun e w' => e = .returned (.bool (!v.ok)) ∧ Below w.heap.size w w' := by
 have hS := St.start w
 have cV := fun W : World => vcheck_any v W
 generalize v.ok = b at cV ⊢
 obtain ⟨vk, vn, vs⟩ := v
 simp only [vlRow] at cV ⊢
 replace cV := Lib.hid cV
 go_enter Tryz.func142, Tryz.ntmps142
 go_wp2_with (first | (go_at_call 113; (with_reducible refine (cV.out _).mono ?_); rintro _ w9 ⟨rfl, hk9⟩; replace hS := hS.keepB hk9; clear hk9) | (with_reducible refine wpList_box_st hS rfl rfl rfl ?_; clear hS; intro g1 w1 hS) | (with_reducible refine lda 0 hS rfl rfl rfl rfl ?_))
 go_ret
 exact ⟨rfl, hS.below⟩
theorem idxf_any (b off : Nat) (f : List Vl) (hf : f.length = 8) (w : World) (hs : Sl w (some ⟨b, off, none⟩) (flRow f)) :
 Calls Tryz.prog 165 #[.slice (some ⟨b, off, none⟩) 8 8, .func (.func 142) #[] #[]] w fun e w' => (∃ r : Int, e = .returned (.int .i64 r) ∧ decide (0 ≤ r) = !f.all Vl.ok) ∧ Below w.heap.size w w' := by
 have hS := St.start w
 have cV := Lib.hid (fun (v : Vl) (W : World) => ck1_any v W)
 have hs2 := Lib.hid hs
 go_enter Tryz.func165, Tryz.ntmps165
 go_wp2_with fail
 go_loopg [8] 8 (fun gk vx wr => ∃ k : Nat, k + gk = 8 ∧ vx = .int .i64 k ∧ Hid ((f.take k).all Vl.ok = true) ∧ St w [] [] wr)
 case atStart => exact ⟨0, Nat.zero_add _, rfl, Lib.hid rfl, hS⟩
 case round =>
  obtain ⟨k, hkn, rfl, hr, hS1⟩ := hrel
  clear hS
  have hS := hS1
  clear hS1
  by_cases hlt : k < 8
  · obtain ⟨v, hv⟩ : ∃ v, f[k]? = some v := ⟨_, List.getElem?_eq_getElem (by omega)⟩
    have hsl := hS.sl hs2.out
    have h := fl_at [] f k v hv
    simp only [List.nil_append, List.length_nil, Nat.zero_add] at h
    have hc : ∀ j u, (vlRow v)[j]? = some u → wr.cell? ⟨b, off + k * 3 + j, none⟩ = some u := by
     intro j u hu
     have h2 := congrArg (fun l => l[j]?) h
     simp only [hu] at h2
     rw [List.getElem?_take] at h2
     split at h2
     · rw [List.getElem?_drop] at h2
       have := hsl.add (k * 3 + j) u h2
       rwa [Addr.add_lit, ← Nat.add_assoc] at this
     · cases h2
    obtain ⟨hk, hvk⟩ := List.getElem?_eq_some_iff.1 hv
    have hnx : v.ok = true → (f.take (k + 1)).all Vl.ok = true := by
     intro h
     rw [List.take_succ_eq_append_getElem hk, List.all_append, hr.out, hvk]
     simp [h]
    have hno : v.ok = false → f.all Vl.ok = false := by
     intro h
     rw [List.all_eq_false]
     exact ⟨v, List.mem_of_getElem? hv, by simp [h]⟩
    have cV2 := cV.out v
    cases hok : v.ok with
    | false =>
     have hno2 := Lib.hid (hno hok)
     rw [hok] at cV2
     clear hno hnx hok hvk
     obtain ⟨vk, vn, vs⟩ := v
     have c0 : wr.cell? ⟨b, off + k * 3, none⟩ = some (.int .i64 vk) := hc 0 _ rfl
     have c1 : wr.cell? ⟨b, off + k * 3 + 1, none⟩ = some (.int .i64 vn) := hc 1 _ rfl
     have c2 : wr.cell? ⟨b, off + k * 3 + 2, none⟩ = some (.string vs) := hc 2 _ rfl
     simp only [vlRow] at cV2
     replace cV2 := Lib.hid cV2
     clear hc h hv
     go_wp2_with ((go_at_call 142; (with_reducible refine (cV2.out _).mono ?_); rintro _ w9 ⟨rfl, hk9⟩; replace hS := hS.keepB hk9; clear hk9))
     go_ret
     exact ⟨⟨k, rfl, by rw [hno2.out]; simp⟩, hS.below⟩
    | true =>
     have hnx2 := Lib.hid (hnx hok)
     rw [hok] at cV2
     clear hno hnx hok hvk
     obtain ⟨vk, vn, vs⟩ := v
     have c0 : wr.cell? ⟨b, off + k * 3, none⟩ = some (.int .i64 vk) := hc 0 _ rfl
     have c1 : wr.cell? ⟨b, off + k * 3 + 1, none⟩ = some (.int .i64 vn) := hc 1 _ rfl
     have c2 : wr.cell? ⟨b, off + k * 3 + 2, none⟩ = some (.string vs) := hc 2 _ rfl
     simp only [vlRow] at cV2
     replace cV2 := Lib.hid cV2
     clear hc h hv
     go_wp2_with ((go_at_call 142; (with_reducible refine (cV2.out _).mono ?_); rintro _ w9 ⟨rfl, hk9⟩; replace hS := hS.keepB hk9; clear hk9))
     go_roundg (8 - (k + 1))
     case measure => omega
     case rel => exact ⟨k + 1, by omega, by go_num, hnx2, hS⟩
  · obtain rfl : k = 8 := by omega
    have hr2 := hr.out
    rw [List.take_of_length_le (by omega)] at hr2
    replace hr2 := Lib.hid hr2
    go_wp2_with fail
    go_ret
    exact ⟨⟨-1, rfl, by rw [hr2.out]; rfl⟩, hS.below⟩
theorem contf_any (b off : Nat) (f : List Vl) (hf : f.length = 8) (w : World) (hs : Sl w (some ⟨b, off, none⟩) (flRow f)) :
 Calls Tryz.prog 141 #[.slice (some ⟨b, off, none⟩) 8 8, .func (.func 142) #[] #[]] w fun e w' => e = .returned (.bool (!f.all Vl.ok)) ∧ Below w.heap.size w w' := by
 have hS := St.start w
 have cI := idxf_any b off f hf w hs
 generalize (!f.all Vl.ok) = r at cI ⊢
 replace cI := Lib.hid cI
 clear hs
 go_enter Tryz.func141, Tryz.ntmps141
 go_wp2_with ((go_at_call 165; (with_reducible refine cI.out.mono ?_); rintro _ w9 ⟨⟨q, rfl, hq⟩, hk9⟩; replace hS := hS.keepB hk9; clear hk9))
 go_ret
 exact ⟨rfl, hS.below⟩
theorem ckc_any (c : Cd) (hf : c.f.length = 8) (w : World) : Calls Tryz.prog 98 #[.agg (cdRow c).toArray] w fun e w' => e = .returned (.bool c.ok) ∧ Below w.heap.size w w' := by
 have hS := St.start w
 have cF := Lib.hid (fun (b : Nat) (W : World) hs => contf_any b 3 c.f hf W hs)
 obtain ⟨id, ver, lab, f⟩ := c
 simp only [cdRow] at *
 have hfl : (flRow f).length = 24 := by rw [flRow_length, hf]
 have hf3 : ((Value.int .i64 id :: .int .i64 ver :: .int .u32 lab :: flRow f).toArray.toList.drop 3).take 24 = flRow f := List.take_of_length_le (Nat.le_of_eq hfl)
 have hok : Cd.ok ⟨id, ver, lab, f⟩ = (decide (1 ≤ id ∧ id < 1073741824 ∧ 1 ≤ ver ∧ ver ≤ 1099511627776 ∧ lab < 65536) && f.all Vl.ok) := rfl
 rw [hok]
 clear hok
 by_cases h1 : id < 1
 · rw [decide_eq_false (by omega), Bool.false_and]
   have d1 : decide (id < 1) = true := decide_eq_true h1
   clear h1
   go_enter Tryz.func98, Tryz.ntmps98
   go_wp2_with (first | (with_reducible refine wpList_box_st (L := []) hS rfl rfl rfl ?_; clear hS; intro gc w1 hS) | ((with_reducible refine wpList_gload_st 0 hS rfl (by with_unfolding_all rfl) rfl rfl ?_ rfl ?_); focus (simp [scalarB, go_sem]; done)))
   go_ret
   exact ⟨by first | rfl | simp, hS.below⟩
 by_cases h2 : 1073741824 ≤ id
 · rw [decide_eq_false (by omega), Bool.false_and]
   have d2 : decide ((1073741824 : Int) ≤ id) = true := decide_eq_true h2
   have d1 : decide (id < 1) = false := decide_eq_false h1
   clear h1
   go_enter Tryz.func98, Tryz.ntmps98
   go_wp2_with (first | (with_reducible refine wpList_box_st (L := []) hS rfl rfl rfl ?_; clear hS; intro gc w1 hS) | ((with_reducible refine wpList_gload_st 0 hS rfl (by with_unfolding_all rfl) rfl rfl ?_ rfl ?_); focus (simp [scalarB, go_sem]; done)))
   go_ret
   exact ⟨by first | rfl | simp, hS.below⟩
 by_cases h3 : ver < 1
 · rw [decide_eq_false (by omega), Bool.false_and]
   have d3 : decide (ver < 1) = true := decide_eq_true h3
   have d1 : decide (id < 1) = false := decide_eq_false h1
   have d2 : decide ((1073741824 : Int) ≤ id) = false := decide_eq_false h2
   clear h1
   go_enter Tryz.func98, Tryz.ntmps98
   go_wp2_with (first | (with_reducible refine wpList_box_st (L := []) hS rfl rfl rfl ?_; clear hS; intro gc w1 hS) | ((with_reducible refine wpList_gload_st 0 hS rfl (by with_unfolding_all rfl) rfl rfl ?_ rfl ?_); focus (simp [scalarB, go_sem]; done)))
   go_ret
   exact ⟨by first | rfl | simp, hS.below⟩
 by_cases h4 : 1099511627776 < ver
 · rw [decide_eq_false (by omega), Bool.false_and]
   have d4 : decide ((1099511627776 : Int) < ver) = true := decide_eq_true h4
   have d1 : decide (id < 1) = false := decide_eq_false h1
   have d2 : decide ((1073741824 : Int) ≤ id) = false := decide_eq_false h2
   have d3 : decide (ver < 1) = false := decide_eq_false h3
   clear h1
   go_enter Tryz.func98, Tryz.ntmps98
   go_wp2_with (first | (with_reducible refine wpList_box_st (L := []) hS rfl rfl rfl ?_; clear hS; intro gc w1 hS) | ((with_reducible refine wpList_gload_st 0 hS rfl (by with_unfolding_all rfl) rfl rfl ?_ rfl ?_); focus (simp [scalarB, go_sem]; done)))
   go_ret
   exact ⟨by first | rfl | simp, hS.below⟩
 by_cases h5 : 65536 ≤ lab
 · rw [decide_eq_false (by omega), Bool.false_and]
   have d1 : decide (id < 1) = false := decide_eq_false h1
   have d2 : decide ((1073741824 : Int) ≤ id) = false := decide_eq_false h2
   have d3 : decide (ver < 1) = false := decide_eq_false h3
   have d4 : decide ((1099511627776 : Int) < ver) = false := decide_eq_false h4
   have d5 : ((lab : Int) / 65536 != 0) = true := by rw [bne_iff_ne]; omega
   clear h1
   go_enter Tryz.func98, Tryz.ntmps98
   go_wp2_with (first | (with_reducible refine wpList_box_st (L := []) hS rfl rfl rfl ?_; clear hS; intro gc w1 hS) | ((with_reducible refine wpList_gload_st 0 hS rfl (by with_unfolding_all rfl) rfl rfl ?_ rfl ?_); focus (simp [scalarB, go_sem]; done)))
   go_ret
   exact ⟨by first | rfl | simp, hS.below⟩
 rw [decide_eq_true (by omega), Bool.true_and]
 have d1 : decide (id < 1) = false := decide_eq_false h1
 have d2 : decide ((1073741824 : Int) ≤ id) = false := decide_eq_false h2
 have d3 : decide (ver < 1) = false := decide_eq_false h3
 have d4 : decide ((1099511627776 : Int) < ver) = false := decide_eq_false h4
 have d5 : ((lab : Int) / 65536 != 0) = false := by
  have : (lab : Int) / 65536 = 0 := by omega
  rw [this]
  rfl
 generalize f.all Vl.ok = b at *
 clear h1
 go_enter Tryz.func98, Tryz.ntmps98
 go_wp2_with (first | (go_at_call 141; (with_reducible refine (cF.out gc _ (by have := hS.blkpart 0 rfl 3 24; rwa [hf3] at this)).mono ?_); rintro _ w9 ⟨rfl, hk9⟩; replace hS := hS.keepB hk9; clear hk9) | (with_reducible refine wpList_box_st (L := []) hS rfl rfl rfl ?_; clear hS; intro gc w1 hS) | ((with_reducible refine wpList_gload_st 0 hS rfl (by with_unfolding_all rfl) rfl rfl ?_ rfl ?_); focus (simp [scalarB, go_sem]; done)))
 go_ret
 exact ⟨by first | rfl | simp, hS.below⟩
end Go.Proofs.YtneolmnpebiifaaGreatDoor
end
section
namespace Go.Proofs.YtneolmnpebiifaaGreatDoor
open Go.RowKit Go.Ofp
set_option maxHeartbeats 4000000
theorem rckc_any (c : Cd) (hf : c.f.length = 8) (w : World) : Calls Tryz.prog 101 #[.agg (cdRow c).toArray] w fun e w' => e = .returned (.bool c.ok) ∧ Below w.heap.size w w' := by
 have hS := St.start w
 have cV := Lib.hid (fun (v : Vl) (W : World) => rvcheck_any v W)
 obtain ⟨id, ver, lab, f⟩ := c
 simp only [cdRow] at *
 have hok : Cd.ok ⟨id, ver, lab, f⟩ = (decide (1 ≤ id ∧ id < 1073741824 ∧ 1 ≤ ver ∧ ver ≤ 1099511627776 ∧ lab < 65536) && f.all Vl.ok) := rfl
 rw [hok]
 clear hok
 by_cases h1 : id < 1
 · rw [decide_eq_false (by omega), Bool.false_and]
   have d1 : decide (id < 1) = true := decide_eq_true h1
   clear h1
   go_enter Tryz.func101, Tryz.ntmps101
   go_wp2_with (first | (with_reducible refine wpList_box_st (L := []) hS rfl rfl rfl ?_; clear hS; intro gc w1 hS) | ((with_reducible refine wpList_gload_st 0 hS rfl (by with_unfolding_all rfl) rfl rfl ?_ rfl ?_); focus (simp [scalarB, go_sem]; done)))
   go_ret
   exact ⟨by first | rfl | simp, hS.below⟩
 by_cases h2 : 1073741824 ≤ id
 · rw [decide_eq_false (by omega), Bool.false_and]
   have d2 : decide ((1073741824 : Int) ≤ id) = true := decide_eq_true h2
   have d1 : decide (id < 1) = false := decide_eq_false h1
   clear h1
   go_enter Tryz.func101, Tryz.ntmps101
   go_wp2_with (first | (with_reducible refine wpList_box_st (L := []) hS rfl rfl rfl ?_; clear hS; intro gc w1 hS) | ((with_reducible refine wpList_gload_st 0 hS rfl (by with_unfolding_all rfl) rfl rfl ?_ rfl ?_); focus (simp [scalarB, go_sem]; done)))
   go_ret
   exact ⟨by first | rfl | simp, hS.below⟩
 by_cases h3 : ver < 1
 · rw [decide_eq_false (by omega), Bool.false_and]
   have d3 : decide (ver < 1) = true := decide_eq_true h3
   have d1 : decide (id < 1) = false := decide_eq_false h1
   have d2 : decide ((1073741824 : Int) ≤ id) = false := decide_eq_false h2
   clear h1
   go_enter Tryz.func101, Tryz.ntmps101
   go_wp2_with (first | (with_reducible refine wpList_box_st (L := []) hS rfl rfl rfl ?_; clear hS; intro gc w1 hS) | ((with_reducible refine wpList_gload_st 0 hS rfl (by with_unfolding_all rfl) rfl rfl ?_ rfl ?_); focus (simp [scalarB, go_sem]; done)))
   go_ret
   exact ⟨by first | rfl | simp, hS.below⟩
 by_cases h4 : 1099511627776 < ver
 · rw [decide_eq_false (by omega), Bool.false_and]
   have d4 : decide ((1099511627776 : Int) < ver) = true := decide_eq_true h4
   have d1 : decide (id < 1) = false := decide_eq_false h1
   have d2 : decide ((1073741824 : Int) ≤ id) = false := decide_eq_false h2
   have d3 : decide (ver < 1) = false := decide_eq_false h3
   clear h1
   go_enter Tryz.func101, Tryz.ntmps101
   go_wp2_with (first | (with_reducible refine wpList_box_st (L := []) hS rfl rfl rfl ?_; clear hS; intro gc w1 hS) | ((with_reducible refine wpList_gload_st 0 hS rfl (by with_unfolding_all rfl) rfl rfl ?_ rfl ?_); focus (simp [scalarB, go_sem]; done)))
   go_ret
   exact ⟨by first | rfl | simp, hS.below⟩
 by_cases h5 : 65536 ≤ lab
 · rw [decide_eq_false (by omega), Bool.false_and]
   have d1 : decide (id < 1) = false := decide_eq_false h1
   have d2 : decide ((1073741824 : Int) ≤ id) = false := decide_eq_false h2
   have d3 : decide (ver < 1) = false := decide_eq_false h3
   have d4 : decide ((1099511627776 : Int) < ver) = false := decide_eq_false h4
   have d5 : decide ((65536 : Int) ≤ (lab : Int)) = true := decide_eq_true (by omega)
   clear h1
   go_enter Tryz.func101, Tryz.ntmps101
   go_wp2_with (first | (with_reducible refine wpList_box_st (L := []) hS rfl rfl rfl ?_; clear hS; intro gc w1 hS) | ((with_reducible refine wpList_gload_st 0 hS rfl (by with_unfolding_all rfl) rfl rfl ?_ rfl ?_); focus (simp [scalarB, go_sem]; done)))
   go_ret
   exact ⟨by first | rfl | simp, hS.below⟩
 rw [decide_eq_true (by omega), Bool.true_and]
 have d1 : decide (id < 1) = false := decide_eq_false h1
 have d2 : decide ((1073741824 : Int) ≤ id) = false := decide_eq_false h2
 have d3 : decide (ver < 1) = false := decide_eq_false h3
 have d4 : decide ((1099511627776 : Int) < ver) = false := decide_eq_false h4
 have d5 : decide ((65536 : Int) ≤ (lab : Int)) = false := decide_eq_false (by omega)
 clear h1 h2 h3 h4 h5
 go_enter Tryz.func101, Tryz.ntmps101
 go_wp2_with (first | (with_reducible refine wpList_box_st (L := []) hS rfl rfl rfl ?_; clear hS; intro gc w1 hS) | ((with_reducible refine wpList_gload_st 0 hS rfl (by with_unfolding_all rfl) rfl rfl ?_ rfl ?_); focus (simp [scalarB, go_sem]; done)))
 clear d1 d2 d3 d4 d5
 go_loopg [3] 8 (fun gk vx wr => ∃ k : Nat, k + gk = 8 ∧ vx = .int .i64 k ∧ Hid ((f.take k).all Vl.ok = true) ∧ St w [] [Ch.blk gc 58 (Value.int .i64 id :: .int .i64 ver :: .int .u32 lab :: flRow f).toArray] wr)
 case atStart => exact ⟨0, Nat.zero_add _, rfl, Lib.hid rfl, hS⟩
 case round =>
  obtain ⟨k, hkn, rfl, hr, hS1⟩ := hrel
  clear hS
  have hS := hS1
  clear hS1
  by_cases hlt : k < 8
  · obtain ⟨v, hv⟩ : ∃ v, f[k]? = some v := ⟨_, List.getElem?_eq_getElem (by omega)⟩
    have hld : ((Value.int .i64 id :: .int .i64 ver :: .int .u32 lab :: flRow f).toArray.toList.drop (3 + k * 3)).take 3 = vlRow v := fl_at [.int .i64 id, .int .i64 ver, .int .u32 lab] f k v hv
    obtain ⟨hk, hvk⟩ := List.getElem?_eq_some_iff.1 hv
    have hnx : v.ok = true → (f.take (k + 1)).all Vl.ok = true := by
     intro h
     rw [List.take_succ_eq_append_getElem hk, List.all_append, hr.out, hvk]
     simp [h]
    have hno : v.ok = false → f.all Vl.ok = false := by
     intro h
     rw [List.all_eq_false]
     exact ⟨v, List.mem_of_getElem? hv, by simp [h]⟩
    have cV2 := cV.out v
    cases hok : v.ok with
    | false =>
     have hno2 := Lib.hid (hno hok)
     rw [hok] at cV2
     clear hno hnx hok hvk hv
     obtain ⟨vk, vn, vs⟩ := v
     simp only [vlRow] at cV2 hld
     replace cV2 := Lib.hid cV2
     replace hld := Lib.hid hld
     go_wp2_with (first | (go_at_call 144; (with_reducible refine (cV2.out _).mono ?_); rintro _ w9 ⟨rfl, hk9⟩; replace hS := hS.keepB hk9; clear hk9) | ((with_reducible refine wpList_loadrow_st (n := 3) 0 hS rfl rfl rfl rfl ?_ (by kernel_rfl) hld.out rfl ?_); focus (simp [rowB, go_sem]; done)))
     go_ret
     exact ⟨by rw [hno2.out]; rfl, hS.below⟩
    | true =>
     have hnx2 := Lib.hid (hnx hok)
     rw [hok] at cV2
     clear hno hnx hok hvk hv
     obtain ⟨vk, vn, vs⟩ := v
     simp only [vlRow] at cV2 hld
     replace cV2 := Lib.hid cV2
     replace hld := Lib.hid hld
     go_wp2_with (first | (go_at_call 144; (with_reducible refine (cV2.out _).mono ?_); rintro _ w9 ⟨rfl, hk9⟩; replace hS := hS.keepB hk9; clear hk9) | ((with_reducible refine wpList_loadrow_st (n := 3) 0 hS rfl rfl rfl rfl ?_ (by kernel_rfl) hld.out rfl ?_); focus (simp [rowB, go_sem]; done)))
     go_roundg (8 - (k + 1))
     case measure => omega
     case rel => exact ⟨k + 1, by omega, by go_num, hnx2, hS⟩
  · obtain rfl : k = 8 := by omega
    have hr2 := hr.out
    rw [List.take_of_length_le (by omega)] at hr2
    replace hr2 := Lib.hid hr2
    go_wp2_with fail
    go_ret
    exact ⟨by rw [hr2.out]; rfl, hS.below⟩
end Go.Proofs.YtneolmnpebiifaaGreatDoor
end
section
namespace Go.Ofp
open Go.RowKit
theorem sl_range {w : World} {g off j n : Nat} {l vs : List Value} (h : Sl w (some ⟨g, off, none⟩) l) (hv : (l.drop j).take n = vs) : w.rangeAt g (off + j) vs := by
 intro k v hk
 rw [← hv, List.getElem?_take] at hk
 split at hk
 · rw [List.getElem?_drop] at hk
   have := h.add (j + k) v hk
   rwa [Addr.add_lit, ← Nat.add_assoc] at this
 · cases hk
theorem wpList_rangerow {P : Program} {w : World} {ops : Array Oper} {rest : List Oper} {o : Oper} {a : Act} {Q : Exit → Act → World → Prop} {g j n : Nat} {vs : List Value} (hc : w.rangeAt g j vs) (hgd : o.guard = none) {t : TypeId} {x : Operand} (ho : o.op = .load t x) (hx : a.eval x = .pointer (some ⟨g, j, none⟩))
 (hu : rowB P t = true) (hsz : sizeB P t n = true) (hl : vs.length = n) (h : wpList P ops Q rest (a.put o.dst (.agg vs.toArray)) w) : wpList P ops Q (o :: rest) a w := by
 refine wpList_plain hgd fun K hK => ?_
 have hr := run_loadrow (P := P) hu hsz hl hc
 unfold Oper.wp execOp
 simp only [ho, hx, Sem.run_bind, hr, Result.andThen_ok, Sem.run_pure]
 exact hK _ _ h
theorem run_build2 {P : Program} (w : World) (t e : TypeId) (ht : P.underlying t = some (.slice e)) {z : Value} {size bytes : Nat} (he : Elem P e z size bytes) {u v : List Value} (hu : u.length = size) (hv : v.length = size) (hs : size ≤ 1000) :
 (Instr.buildSlice t 2 #[(0, .agg u.toArray), (1, .agg v.toArray)]).run P w = .ok (.slice (some ⟨w.heap.size, 0, none⟩) 2 2) (w.alloc (.cells (u ++ v).toArray e)) := by
 obtain ⟨i, hi, hz, hsz, hby, hzs, hpos⟩ := he
 have h0 : ¬ (16777216 < 2 * i.size) := by omega
 have h1 : ¬ (2 * i.size = 0) := by omega
 have key : ∀ A : Array Value, A.size = 2 * i.size → Instr.fill (fun j => some (j * i.size, i.size)) A [(0, .agg u.toArray), (1, .agg v.toArray)] = some (u ++ v).toArray := by
  intro A hA
  have e1 := Go.Proofs.YtneolmnpebiifaaGreatDoor.foldl_put 0 u 0 A (by omega)
  simp only [Nat.zero_add, List.take_zero, List.nil_append] at e1
  have hAl : A.toList.length = 2 * i.size := by simpa using hA
  have hA2 : (u ++ A.toList.drop u.length).toArray.size = 2 * i.size := by simp; omega
  have e2 := Go.Proofs.YtneolmnpebiifaaGreatDoor.foldl_put i.size v 0 (u ++ A.toList.drop u.length).toArray (by omega)
  simp only [Nat.add_zero] at e2
  have t1 : (u ++ A.toList.drop u.length).take i.size = u := by rw [List.take_append_of_le_length (by omega), List.take_of_length_le (by omega)]
  have t2 : (u ++ A.toList.drop u.length).drop (i.size + v.length) = [] := List.drop_of_length_le (by simp; omega)
  rw [List.toList_toArray, t1, t2, List.append_nil] at e2
  have br : ∀ (xs : List Value) (F : Array Value → Value × Nat → Array Value) (A : Array Value), xs.toArray.zipIdx.foldl F A = xs.zipIdx.foldl F A := by
   intro xs F A
   rw [← Array.foldl_toList]
   simp
  have e1' : u.toArray.zipIdx.foldl (fun cs x => cs.setIfInBounds (0 + x.2) x.1) A = (u ++ A.toList.drop u.length).toArray := by
   rw [br]
   simpa using e1
  have e2' : v.toArray.zipIdx.foldl (fun cs x => cs.setIfInBounds (i.size + x.2) x.1) (u ++ A.toList.drop u.length).toArray = (u ++ v).toArray := by
   rw [br]
   exact e2
  have n1 : ¬ (u.toArray.size ≠ i.size ∨ 0 + u.toArray.size > A.size) := by simp; omega
  have n2 : ¬ (v.toArray.size ≠ i.size ∨ i.size + v.toArray.size > (u ++ A.toList.drop u.length).toArray.size) := by rw [hA2]; simp; omega
  simp only [Instr.fill, Value.cells, Nat.zero_mul, Nat.one_mul]
  simp only [e1', e2']
  rw [if_neg (by simpa using n1), if_neg (by simpa using n2)]
 have hf := key ((Array.range (2 * i.size)).map (z.cells[· % z.cells.size]!)) (by simp)
 simp [Instr.buildSlice, run_underlying ht, sizeOf, typeInfo, zeroValue, hi, hz, h0, h1]
 rw [hf]
 rfl
end Go.Ofp
namespace Go.Proofs.YtneolmnpebiifaaGreatDoor
open Go.RowKit Go.Ofp
set_option maxHeartbeats 4000000
theorem same1_any (a b : Cd) (ha : a.f.length = 8) (hb : b.f.length = 8) (w : World) :
 Calls Tryz.prog 104 #[.agg (cdRow a).toArray, .agg (cdRow b).toArray] w fun e w' => e = .returned (.bool (decide (a = b))) ∧ Below w.heap.size w w' := by
 have hS := St.start w
 have hE := fun W : World => eql_cd a b ha hb W
 have hG := guard_cd
 have hca : sizeB Tryz.prog 58 (cdRow a).toArray.size = true := by rw [List.size_toArray, show (cdRow a).length = 27 by simp [cdRow, flRow_length, ha]]; kernel_rfl
 have hcb : sizeB Tryz.prog 58 (cdRow b).toArray.size = true := by rw [List.size_toArray, show (cdRow b).length = 27 by simp [cdRow, flRow_length, hb]]; kernel_rfl
 generalize decide (a = b) = r at hE ⊢
 generalize cdRow a = RA at *
 generalize cdRow b = RB at *
 go_enter Tryz.func104, Tryz.ntmps104
 go_wp2_with (first | ((with_reducible refine wpList_loadall_st 0 hS rfl rfl rfl rfl ?_ hcb ?_); focus (simp [rowB, go_sem]; done)) | ((with_reducible refine wpList_loadall_st 1 hS rfl rfl rfl rfl ?_ hca ?_); focus (simp [rowB, go_sem]; done)) | (with_reducible refine wpList_box_st hS rfl rfl rfl ?_; clear hS; intro g1 w1 hS))
 go_ret
 exact ⟨rfl, hS.below⟩
theorem vlRow_one (v : Vl) : (vlRow v).all Value.oneCell' = true := rfl
theorem flRow_one (f : List Vl) : (flRow f).all Value.oneCell' = true := by
 rw [List.all_eq_true]
 intro u hu
 obtain ⟨v, -, hv⟩ := List.mem_flatMap.1 hu
 exact List.all_eq_true.1 (vlRow_one v) u hv
theorem cdRow_one (c : Cd) : (cdRow c).all Value.oneCell' = true := by
 simp only [cdRow, List.all_cons]
 rw [flRow_one]
 rfl
end Go.Proofs.YtneolmnpebiifaaGreatDoor
end
section
namespace Go.Ofp
open Go.RowKit
theorem Lst.base {α : Type} {row : α → List Value} {In : α → Prop} {w : World} {a : Option Addr} {n c : Nat} {l : List α} (h : Lst row In w a n c l) {k : Nat} (hk : 0 < k) (hr : ∀ x ∈ l, (row x).length = k) (hl : 0 < n) : ∃ b off, a = some ⟨b, off, none⟩ := by
 refine h.sl.cells fun e => ?_
 have h1 := flat_len2 k (l.map row) (by simpa using hr)
 rw [e, List.length_map, h.len] at h1
 have := Nat.mul_pos hl hk
 simp at h1
 omega
theorem Lst.rowb {α : Type} {row : α → List Value} {In : α → Prop} {w : World} {b off n c : Nat} {l : List α} (h : Lst row In w (some ⟨b, off, none⟩) n c l) {k : Nat} (hr : ∀ x ∈ l, (row x).length = k) (i : Nat) (hi : i < l.length) : w.rangeAt b (off + i * k) (row l[i]) := by
 refine sl_range h.sl (n := k) ?_
 have := flat_elem k (l.map row) (by simpa using hr) i (by simpa using hi)
 simpa using this
theorem Lst.below {α : Type} {row : α → List Value} {In : α → Prop} {w w' : World} {a : Option Addr} {n c : Nat} {l : List α} (h : Lst row In w a n c l) (hb : Below w.heap.size w w') : Lst row In w' a n c l := ⟨h.sl.below hb, h.len, h.le, h.cm, h.mem⟩
theorem range_old {w0 w : World} {L : List Ch} (hS : St w0 [] L w) {g j : Nat} {vs : List Value} (h : w0.rangeAt g j vs) : w.rangeAt g j vs := fun i v hv => hS.old (h i v hv) (by simp)
theorem St.kold_row {P : Program} {w0 w : World} {L : List Ch} (_ : St w0 [] L w) {b j n : Nat} {vs : List Value} {t : TypeId} (h : w0.rangeAt b j vs) (hu : rowB P t = true) (hsz : sizeB P t n = true) (hl : vs.length = n) :
 ∀ s : Cl w0 [] L, (Instr.loadAt t (.pointer (some ⟨b, j, none⟩))).run P s.1 = .ok (.agg vs.toArray) s.1 := fun s => run_loadrow hu hsz hl (range_old s.2 h)
end Go.Ofp
end
section
namespace Go.Proofs
open Go.Shelf
def Tryz.keys66_ren : Go.Shelf.Ren := ⟨fun | 7 => 66 | 10 => 110 | n => n, fun | 23 => 99 | 26 => 3 | 3 => 58 | 28 => 104 | 0 => 0 | 27 => 103 | 33 => 137 | 4 => 4 | n => n, fun | n => n⟩
theorem Tryz.keys66 : Go.Proofs.SlLaysZI.n7 Tryz.prog Tryz.keys66_ren := {
 mixed := by kernel_rfl
 f7 := ⟨Tryz.f66.name, by decide, Tryz.func66.trans (congrArg some (by kernel_rfl))⟩
 f10 := ⟨Tryz.f110.name, by decide, Tryz.func110.trans (congrArg some (by kernel_rfl))⟩
 t0 := Tryz.underlying0
 a0 := Tryz.isAgg0
 z0 := Tryz.sizeOf0
 v0 := Tryz.zeroValue0
 t4 := Tryz.underlying4
 a4 := Tryz.isAgg4
 z4 := Tryz.sizeOf4
 v4 := Tryz.zeroValue4
 t23 := Tryz.underlying99
 a23 := Tryz.isAgg99
 z23 := Tryz.sizeOf99
 v23 := Tryz.zeroValue99
 t26 := Tryz.underlying3
 a26 := Tryz.isAgg3
 z26 := Tryz.sizeOf3
 v26 := Tryz.zeroValue3
 t27 := Tryz.underlying103
 a27 := Tryz.isAgg103
 z27 := Tryz.sizeOf103
 v27 := Tryz.zeroValue103
 t28 := Tryz.underlying104
 a28 := Tryz.isAgg104
 z28 := Tryz.sizeOf104
 v28 := Tryz.zeroValue104
 t33 := Tryz.underlying137
 a33 := Tryz.isAgg137
 z33 := Tryz.sizeOf137
 v33 := Tryz.zeroValue137 }
def Tryz.sorted65_ren : Go.Shelf.Ren := ⟨fun | 6 => 65 | 8 => 108 | 9 => 109 | 11 => 145 | 13 => 147 | 12 => 146 | 23 => 174 | 24 => 175 | 14 => 166 | 15 => 167 | 16 => 168 | 17 => 169 | 18 => 170 | 19 => 171 | 20 => 163 | 21 => 172 | 22 => 173 | 25 => 182 | 26 => 183 | 27 => 184 | 28 => 185 | 29 => 186 | 30 => 177 | 31 => 191 | n => n, fun | 26 => 3 | 28 => 104 | 24 => 46 | 0 => 0 | 3 => 3 | 37 => 138 | 48 => 37 | 50 => 182 | 4 => 4 | 40 => 175 | 39 => 174 | 45 => 145 | 5 => 5 | 9 => 9 | 51 => 186 | 55 => 190 | 57 => 193 | 58 => 194 | 33 => 137 | n => n, fun | n => n⟩
theorem Tryz.sorted65 : Go.Proofs.SlLaysZI.n6 Tryz.prog Tryz.sorted65_ren := {
 mixed := by kernel_rfl
 f6 := ⟨Tryz.f65.name, by decide, Tryz.func65.trans (congrArg some (by kernel_rfl))⟩
 f8 := ⟨Tryz.f108.name, by decide, Tryz.func108.trans (congrArg some (by kernel_rfl))⟩
 f11 := ⟨Tryz.f145.name, by decide, Tryz.func145.trans (congrArg some (by kernel_rfl))⟩
 t0 := Tryz.underlying0
 a0 := Tryz.isAgg0
 z0 := Tryz.sizeOf0
 v0 := Tryz.zeroValue0
 t24 := Tryz.underlying46
 a24 := Tryz.isAgg46
 z24 := Tryz.sizeOf46
 v24 := Tryz.zeroValue46
 t26 := Tryz.underlying3
 a26 := Tryz.isAgg3
 z26 := Tryz.sizeOf3
 v26 := Tryz.zeroValue3
 t28 := Tryz.underlying104
 a28 := Tryz.isAgg104
 z28 := Tryz.sizeOf104
 v28 := Tryz.zeroValue104
 i26 := by kernel_rfl }
def Tryz.sort109_ren : Go.Shelf.Ren := ⟨fun | 5 => 109 | 8 => 147 | 7 => 146 | 19 => 174 | 20 => 175 | 10 => 166 | 11 => 167 | 12 => 168 | 13 => 169 | 14 => 170 | 15 => 171 | 16 => 163 | 17 => 172 | 18 => 173 | 30 => 182 | 31 => 183 | 32 => 184 | 33 => 185 | 34 => 186 | 35 => 177 | 40 => 191 | n => n, fun | 23 => 46 | 25 => 3 | 3 => 3 | 32 => 138 | 22 => 46 | 0 => 0 | 44 => 37 | 46 => 182 | 4 => 4 | 36 => 175 | 35 => 174 | 41 => 145 | 5 => 5 | 9 => 9 | 53 => 186 | 57 => 190 | 63 => 193 | 64 => 194 | n => n, fun | n => n⟩
theorem Tryz.sort109 : Go.Proofs.SlLaysM.n5 Tryz.prog Tryz.sort109_ren := {
 mixed := by kernel_rfl
 f5 := ⟨Tryz.f109.name, by decide, Tryz.func109.trans (congrArg some (by kernel_rfl))⟩
 f7 := ⟨Tryz.f146.name, by decide, Tryz.func146.trans (congrArg some (by kernel_rfl))⟩
 f8 := Tryz.func147.trans (congrArg some (by kernel_rfl))
 f10 := ⟨Tryz.f166.name, by decide, Tryz.func166.trans (congrArg some (by kernel_rfl))⟩
 f11 := ⟨Tryz.f167.name, by decide, Tryz.func167.trans (congrArg some (by kernel_rfl))⟩
 f12 := ⟨Tryz.f168.name, by decide, Tryz.func168.trans (congrArg some (by kernel_rfl))⟩
 f13 := ⟨Tryz.f169.name, by decide, Tryz.func169.trans (congrArg some (by kernel_rfl))⟩
 f14 := ⟨Tryz.f170.name, by decide, Tryz.func170.trans (congrArg some (by kernel_rfl))⟩
 f15 := ⟨Tryz.f171.name, by decide, Tryz.func171.trans (congrArg some (by kernel_rfl))⟩
 f16 := ⟨Tryz.f163.name, by decide, Tryz.func163.trans (congrArg some (by kernel_rfl))⟩
 f17 := ⟨Tryz.f172.name, by decide, Tryz.func172.trans (congrArg some (by kernel_rfl))⟩
 f18 := ⟨Tryz.f173.name, by decide, Tryz.func173.trans (congrArg some (by kernel_rfl))⟩
 f19 := Tryz.func174.trans (congrArg some (by kernel_rfl))
 f20 := Tryz.func175.trans (congrArg some (by kernel_rfl))
 f30 := ⟨Tryz.f182.name, by decide, Tryz.func182.trans (congrArg some (by kernel_rfl))⟩
 f31 := Tryz.func183.trans (congrArg some (by kernel_rfl))
 f32 := Tryz.func184.trans (congrArg some (by kernel_rfl))
 f33 := ⟨Tryz.f185.name, by decide, Tryz.func185.trans (congrArg some (by kernel_rfl))⟩
 f34 := ⟨Tryz.f186.name, by decide, Tryz.func186.trans (congrArg some (by kernel_rfl))⟩
 f35 := ⟨Tryz.f177.name, by decide, Tryz.func177.trans (congrArg some (by kernel_rfl))⟩
 f40 := ⟨Tryz.f191.name, by decide, Tryz.func191.trans (congrArg some (by kernel_rfl))⟩
 t0 := Tryz.underlying0
 a0 := Tryz.isAgg0
 z0 := Tryz.sizeOf0
 v0 := Tryz.zeroValue0
 t3 := Tryz.underlying3
 a3 := Tryz.isAgg3
 z3 := Tryz.sizeOf3
 v3 := Tryz.zeroValue3
 t4 := Tryz.underlying4
 a4 := Tryz.isAgg4
 z4 := Tryz.sizeOf4
 v4 := Tryz.zeroValue4
 t5 := Tryz.underlying5
 a5 := Tryz.isAgg5
 z5 := Tryz.sizeOf5
 v5 := Tryz.zeroValue5
 t9 := Tryz.underlying9
 a9 := Tryz.isAgg9
 z9 := Tryz.sizeOf9
 v9 := Tryz.zeroValue9
 t22 := Tryz.underlying46
 a22 := Tryz.isAgg46
 z22 := Tryz.sizeOf46
 v22 := Tryz.zeroValue46
 t23 := Tryz.underlying46
 a23 := Tryz.isAgg46
 z23 := Tryz.sizeOf46
 v23 := Tryz.zeroValue46
 t25 := Tryz.underlying3
 a25 := Tryz.isAgg3
 z25 := Tryz.sizeOf3
 v25 := Tryz.zeroValue3
 t32 := Tryz.underlying138
 a32 := Tryz.isAgg138
 z32 := Tryz.sizeOf138
 v32 := Tryz.zeroValue138
 t35 := Tryz.underlying174
 a35 := Tryz.isAgg174
 z35 := Tryz.sizeOf174
 v35 := Tryz.zeroValue174
 t36 := Tryz.underlying175
 a36 := Tryz.isAgg175
 z36 := Tryz.sizeOf175
 v36 := Tryz.zeroValue175
 t41 := Tryz.underlying145
 a41 := Tryz.isAgg145
 z41 := Tryz.sizeOf145
 v41 := Tryz.zeroValue145
 t44 := Tryz.underlying37
 a44 := Tryz.isAgg37
 z44 := Tryz.sizeOf37
 v44 := Tryz.zeroValue37
 t46 := Tryz.underlying182
 a46 := Tryz.isAgg182
 z46 := Tryz.sizeOf182
 v46 := Tryz.zeroValue182
 t53 := Tryz.underlying186
 a53 := Tryz.isAgg186
 z53 := Tryz.sizeOf186
 v53 := Tryz.zeroValue186
 t57 := Tryz.underlying190
 a57 := Tryz.isAgg190
 z57 := Tryz.sizeOf190
 v57 := Tryz.zeroValue190
 t63 := Tryz.underlying193
 a63 := Tryz.isAgg193
 z63 := Tryz.sizeOf193
 v63 := Tryz.zeroValue193
 t64 := Tryz.underlying194
 a64 := Tryz.isAgg194
 z64 := Tryz.sizeOf194
 v64 := Tryz.zeroValue194 }
end Go.Proofs
end
section
namespace Go.Proofs.YtneolmnpebiifaaGreatDoor
open Go.RowKit Go.Ofp Go.Maps Go.Sort Go.Shelf Go.Proofs
set_option maxHeartbeats 2000000
theorem sortsA (m : Nat) : AnyZI.SortsIn Tryz.prog Tryz.sorted65_ren Fence.wide m :=
 ⟨fun blk off cap ss W hH hblk hsz => callsIn_wide.2 (AnyM.slices_Sort_int Tryz.sort109 blk off cap ss W hH hblk hsz),
  fun p cap W => callsIn_wide.2 (AnyM.slices_Sort_int_none Tryz.sort109 p cap W)⟩
theorem ckeys_any (mb : Option Nat) (W : World) : Calls Tryz.prog 66 #[.map mb] W fun e w' => e = .returned (.func (.func 110) #[] #[.pointer (some ⟨W.heap.size, 0, none⟩)]) ∧ w' = W.alloc (.cells #[.map mb] 99) :=
 callsIn_wide.1 (AnyZI.keys_in Tryz.keys66 Fence.wide 5 trivial rfl mb W)
theorem csorted_any (B b n : Nat) (f : Int → Option Value) (W : World) (hm : W.cell? ⟨B, 0, none⟩ = some (.map (some b))) (h : IMap Tryz.prog 3 W b n f) (hn : n ≤ 100000) :
 Calls Tryz.prog 65 #[.func (.func 110) #[] #[.pointer (some ⟨B, 0, none⟩)]] W fun e w' => ∃ v ks, e = .returned v ∧ IsKeys f ks ∧ ks.length ≤ n ∧ w'.ownsRow W.heap.size 3 1 v ks.length (ks.map (Value.int .i64)) ∧ Below W.heap.size W w' := by
 obtain ⟨D, hown, hsz, hkeys⟩ := h.keys Tryz.underlying3
 have hseq : SeqGives Fence.wide 2 Tryz.prog 110 #[.pointer (some ⟨B, 0, none⟩)] encZ (fun ss => ss.Perm (intKeys D)) (Maps.size D) W :=
  AnyZI.keys_gives (ρ := Tryz.keys66_ren) { Tryz.keys66 with } Fence.wide _ trivial rfl (by omega) B b n D W (World.block_lt_of_cell? W _ hm) hm hown
 have cS := AnyZI.sorted_in Tryz.sorted65 Fence.wide 5 trivial trivial trivial trivial rfl (by omega) (sortsA _) (enters_of Tryz.func109 (by kernel_rfl) rfl) 110 #[.pointer (some ⟨B, 0, none⟩)] trivial (enters_of Tryz.func110 (by kernel_rfl) rfl) _ _ (by unfold maxLen; omega) (by omega) _ hseq
 refine (callsIn_wide.1 cS).mono ?_
 rintro e w' ⟨v, ss, rfl, hp, hrow, -, hb⟩
 obtain ⟨h1, h2⟩ := hkeys ss hp
 have hl : (ss.mergeSort fun x y => decide (x ≤ y)).length = ss.length := List.length_mergeSort ss
 exact ⟨v, _, rfl, h1, by rw [hl]; exact h2, by rw [hl]; exact hrow, hb⟩
end Go.Proofs.YtneolmnpebiifaaGreatDoor
end
