/- Which cards may be: the document's answer. -/
import Derived.Test.YtplgpbbghhlbjaaDoorCardCheck2
set_option linter.unusedSimpArgs false
set_option linter.unusedVariables false
namespace Go.Proofs.YtplgpbbghhlbjaaDoor
open Go.RowKit Go.Ofp
set_option linter.unusedVariables false
set_option maxRecDepth 100000
set_option maxHeartbeats 4000000

theorem rckc_any (c : Cd) (hf : c.f.length = 8) (w : World) : Calls Tryd.prog 26 #[.agg (cdRow c).toArray] w fun e w' => e = .returned (.bool c.ok) ∧ Below w.heap.size w w' := by
  have hS := St.start w
  have cV := Lib.hid (fun (v : Vl) (W : World) => rvcheck_any v W)
  obtain ⟨id, ver, lab, f⟩ := c
  simp only [cdRow] at *
  have hok : Cd.ok ⟨id, ver, lab, f⟩ = (decide (1 ≤ id ∧ id < 1073741824 ∧ 1 ≤ ver ∧ ver ≤ 1099511627776 ∧ lab < 65536) && f.all Vl.ok) := rfl
  rw [hok]
  clear hok
  by_cases h1 : id < 1
  · rw [decide_eq_false (by omega), Bool.false_and]
    have d1 : decide (id < 1) = true := decide_eq_true h1
    clear h1
    go_enter Tryd.func26, Tryd.ntmps26
    go_wp2_with (first
      | (with_reducible refine wpList_box_st (L := []) hS rfl rfl rfl ?_; intro gc w1 hS1; clear hS; have hS := hS1; clear hS1)
      | ((with_reducible refine wpList_gload_st 0 hS rfl (by with_unfolding_all rfl) rfl rfl ?_ rfl ?_); focus (simp [scalarB, go_sem]; done)))
    go_ret
    exact ⟨by first | rfl | simp, hS.below⟩
  by_cases h2 : 1073741824 ≤ id
  · rw [decide_eq_false (by omega), Bool.false_and]
    have d2 : decide ((1073741824 : Int) ≤ id) = true := decide_eq_true h2
    have d1 : decide (id < 1) = false := decide_eq_false h1
    clear h1
    go_enter Tryd.func26, Tryd.ntmps26
    go_wp2_with (first
      | (with_reducible refine wpList_box_st (L := []) hS rfl rfl rfl ?_; intro gc w1 hS1; clear hS; have hS := hS1; clear hS1)
      | ((with_reducible refine wpList_gload_st 0 hS rfl (by with_unfolding_all rfl) rfl rfl ?_ rfl ?_); focus (simp [scalarB, go_sem]; done)))
    go_ret
    exact ⟨by first | rfl | simp, hS.below⟩
  by_cases h3 : ver < 1
  · rw [decide_eq_false (by omega), Bool.false_and]
    have d3 : decide (ver < 1) = true := decide_eq_true h3
    have d1 : decide (id < 1) = false := decide_eq_false h1
    have d2 : decide ((1073741824 : Int) ≤ id) = false := decide_eq_false h2
    clear h1
    go_enter Tryd.func26, Tryd.ntmps26
    go_wp2_with (first
      | (with_reducible refine wpList_box_st (L := []) hS rfl rfl rfl ?_; intro gc w1 hS1; clear hS; have hS := hS1; clear hS1)
      | ((with_reducible refine wpList_gload_st 0 hS rfl (by with_unfolding_all rfl) rfl rfl ?_ rfl ?_); focus (simp [scalarB, go_sem]; done)))
    go_ret
    exact ⟨by first | rfl | simp, hS.below⟩
  by_cases h4 : 1099511627776 < ver
  · rw [decide_eq_false (by omega), Bool.false_and]
    have d4 : decide ((1099511627776 : Int) < ver) = true := decide_eq_true h4
    have d1 : decide (id < 1) = false := decide_eq_false h1
    have d2 : decide ((1073741824 : Int) ≤ id) = false := decide_eq_false h2
    have d3 : decide (ver < 1) = false := decide_eq_false h3
    clear h1
    go_enter Tryd.func26, Tryd.ntmps26
    go_wp2_with (first
      | (with_reducible refine wpList_box_st (L := []) hS rfl rfl rfl ?_; intro gc w1 hS1; clear hS; have hS := hS1; clear hS1)
      | ((with_reducible refine wpList_gload_st 0 hS rfl (by with_unfolding_all rfl) rfl rfl ?_ rfl ?_); focus (simp [scalarB, go_sem]; done)))
    go_ret
    exact ⟨by first | rfl | simp, hS.below⟩
  by_cases h5 : 65536 ≤ lab
  · rw [decide_eq_false (by omega), Bool.false_and]
    have d1 : decide (id < 1) = false := decide_eq_false h1
    have d2 : decide ((1073741824 : Int) ≤ id) = false := decide_eq_false h2
    have d3 : decide (ver < 1) = false := decide_eq_false h3
    have d4 : decide ((1099511627776 : Int) < ver) = false := decide_eq_false h4
    have d5 : decide ((65536 : Int) ≤ (lab : Int)) = true := decide_eq_true (by omega)
    clear h1
    go_enter Tryd.func26, Tryd.ntmps26
    go_wp2_with (first
      | (with_reducible refine wpList_box_st (L := []) hS rfl rfl rfl ?_; intro gc w1 hS1; clear hS; have hS := hS1; clear hS1)
      | ((with_reducible refine wpList_gload_st 0 hS rfl (by with_unfolding_all rfl) rfl rfl ?_ rfl ?_); focus (simp [scalarB, go_sem]; done)))
    go_ret
    exact ⟨by first | rfl | simp, hS.below⟩
  rw [decide_eq_true (by omega), Bool.true_and]
  have d1 : decide (id < 1) = false := decide_eq_false h1
  have d2 : decide ((1073741824 : Int) ≤ id) = false := decide_eq_false h2
  have d3 : decide (ver < 1) = false := decide_eq_false h3
  have d4 : decide ((1099511627776 : Int) < ver) = false := decide_eq_false h4
  have d5 : decide ((65536 : Int) ≤ (lab : Int)) = false := decide_eq_false (by omega)
  clear h1 h2 h3 h4 h5
  go_enter Tryd.func26, Tryd.ntmps26
  go_wp2_with (first
    | (with_reducible refine wpList_box_st (L := []) hS rfl rfl rfl ?_; intro gc w1 hS1; clear hS; have hS := hS1; clear hS1)
    | ((with_reducible refine wpList_gload_st 0 hS rfl (by with_unfolding_all rfl) rfl rfl ?_ rfl ?_); focus (simp [scalarB, go_sem]; done)))
  clear d1 d2 d3 d4 d5
  go_loopg [3] 8 (fun gk vx wr => ∃ k : Nat, k + gk = 8 ∧ vx = .int .i64 k ∧ Hid ((f.take k).all Vl.ok = true) ∧ St w [] [Ch.blk gc 27 (Value.int .i64 id :: .int .i64 ver :: .int .u32 lab :: flRow f).toArray] wr)
  case atStart => exact ⟨0, Nat.zero_add _, rfl, Lib.hid rfl, hS⟩
  case round =>
    obtain ⟨k, hkn, rfl, hr, hS1⟩ := hrel
    clear hS
    have hS := hS1
    clear hS1
    by_cases hlt : k < 8
    · obtain ⟨v, hv⟩ : ∃ v, f[k]? = some v := ⟨_, List.getElem?_eq_getElem (by omega)⟩
      have hld : ((Value.int .i64 id :: .int .i64 ver :: .int .u32 lab :: flRow f).toArray.toList.drop (3 + k * 3)).take 3 = vlRow v := fl_at [.int .i64 id, .int .i64 ver, .int .u32 lab] f k v hv
      obtain ⟨hk, hvk⟩ := List.getElem?_eq_some_iff.1 hv
      have hnx : v.ok = true → (f.take (k + 1)).all Vl.ok = true := by
        intro h
        rw [List.take_succ_eq_append_getElem hk, List.all_append, hr.out, hvk]
        simp [h]
      have hno : v.ok = false → f.all Vl.ok = false := by
        intro h
        rw [List.all_eq_false]
        exact ⟨v, List.mem_of_getElem? hv, by simp [h]⟩
      have cV2 := cV.out v
      cases hok : v.ok with
      | false =>
        have hno2 := Lib.hid (hno hok)
        rw [hok] at cV2
        clear hno hnx hok hvk hv
        obtain ⟨vk, vn, vs⟩ := v
        simp only [vlRow] at cV2 hld
        replace cV2 := Lib.hid cV2
        replace hld := Lib.hid hld
        go_wp2_with (first
          | (go_at_call 46; (with_reducible refine (cV2.out _).mono ?_); rintro _ w9 ⟨rfl, hk9⟩; have hS1 := hS.keepB hk9; clear hk9 hS; have hS := hS1; clear hS1)
          | ((with_reducible refine wpList_loadrow_st (n := 3) 0 hS rfl rfl rfl rfl ?_ (by kernel_rfl) hld.out rfl ?_); focus (simp [rowB, go_sem]; done)))
        go_ret
        exact ⟨by rw [hno2.out]; rfl, hS.below⟩
      | true =>
        have hnx2 := Lib.hid (hnx hok)
        rw [hok] at cV2
        clear hno hnx hok hvk hv
        obtain ⟨vk, vn, vs⟩ := v
        simp only [vlRow] at cV2 hld
        replace cV2 := Lib.hid cV2
        replace hld := Lib.hid hld
        go_wp2_with (first
          | (go_at_call 46; (with_reducible refine (cV2.out _).mono ?_); rintro _ w9 ⟨rfl, hk9⟩; have hS1 := hS.keepB hk9; clear hk9 hS; have hS := hS1; clear hS1)
          | ((with_reducible refine wpList_loadrow_st (n := 3) 0 hS rfl rfl rfl rfl ?_ (by kernel_rfl) hld.out rfl ?_); focus (simp [rowB, go_sem]; done)))
        go_roundg (8 - (k + 1))
        case measure => omega
        case rel => exact ⟨k + 1, by omega, by go_num, hnx2, hS⟩
    · obtain rfl : k = 8 := by omega
      have hr2 := hr.out
      rw [List.take_of_length_le (by omega)] at hr2
      replace hr2 := Lib.hid hr2
      go_wp2_with fail
      go_ret
      exact ⟨by rw [hr2.out]; rfl, hS.below⟩
end Go.Proofs.YtplgpbbghhlbjaaDoor
