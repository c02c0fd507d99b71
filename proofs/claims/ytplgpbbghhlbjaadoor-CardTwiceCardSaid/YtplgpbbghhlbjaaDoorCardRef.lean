/- Cards: the document's answer: Project, Of, Merge, Fresh. -/
import Derived.Test.YtplgpbbghhlbjaaDoorCard2
import Derived.Test.YtplgpbbghhlbjaaDoorBits
set_option linter.unusedSimpArgs false
set_option linter.unusedVariables false
namespace Go.Proofs.YtplgpbbghhlbjaaDoor
open Go.RowKit Go.Ofp
set_option linter.unusedVariables false
set_option maxRecDepth 100000
set_option maxHeartbeats 4000000

theorem rlabels_any (m : Nat) (hm : m < 4294967296) (w : World) : Calls Tryd.prog 21 #[.int .u32 m] w fun e w' => e = .returned (.bool (m.testBit 8)) ∧ w = w' := by
  have cH : ∀ W : World, Calls Tryd.prog 20 #[.int .u32 m, .int .i64 8] W fun e w' => e = .returned (.bool (m.testBit 8)) ∧ W = w' := fun W => rhasb_any m 8 W (by decide) hm
  replace cH := Lib.hid cH
  go_enter Tryd.func21, Tryd.ntmps21
  go_wp2_with (go_at_call 20; (with_reducible refine (cH.out _).mono ?_); rintro _ _ ⟨rfl, rfl⟩)
  go_ret
  exact ⟨rfl, rfl⟩
theorem rmcheck_any (m : Nat) (w : World) : Calls Tryd.prog 9 #[.int .u32 m] w fun e w' => e = .returned (.bool (decide (m ≤ 511))) ∧ w = w' := by
  have h : decide ((m : Int) ≤ 511) = decide (m ≤ 511) := by
    by_cases h : m ≤ 511
    · rw [decide_eq_true h, decide_eq_true (by omega)]
    · rw [decide_eq_false h, decide_eq_false (by omega)]
  go_enter Tryd.func9, Tryd.ntmps9
  go_wp2_with fail
  go_ret
  exact ⟨by first | rfl | rw [← h]; rfl, rfl⟩
/-- The first k of a mask's fields. -/
def bitsTo (m k : Nat) : List Nat := (List.range k).filter fun i => m.testBit i
theorem bitsTo_next (m k : Nat) : bitsTo m (k + 1) = if m.testBit k then bitsTo m k ++ [k] else bitsTo m k := by
  unfold bitsTo
  rw [List.range_succ, List.filter_append]
  by_cases h : m.testBit k <;> simp [h]
theorem rpr_any (c : Cd) (m : Nat) (hm : m < 4294967296) (hf : c.f.length = 8) (w : World) :
    Calls Tryd.prog 12 #[.agg (cdRow c).toArray, .int .u32 m] w fun e w' => e = .returned (.agg (cdRow (c.proj m)).toArray) ∧ Below w.heap.size w w' := by
  have hS := St.start w
  have ec := elem_card
  have cL := (fun W : World => rlabels_any m hm W)
  have cH := Lib.hid (fun (i : Nat) (hi : i < 8) (W : World) => rhasb_any m i W (by omega) hm)
  obtain ⟨id, ver, lab, f⟩ := c
  simp only [cdRow, Cd.proj] at hf ⊢
  rw [show bitsOf m = bitsTo m 8 from rfl]
  have hfl : flRow noF = [.int .i64 0, .int .i64 0, .string ⟨#[]⟩, .int .i64 0, .int .i64 0, .string ⟨#[]⟩, .int .i64 0, .int .i64 0, .string ⟨#[]⟩, .int .i64 0, .int .i64 0, .string ⟨#[]⟩, .int .i64 0, .int .i64 0, .string ⟨#[]⟩, .int .i64 0, .int .i64 0, .string ⟨#[]⟩, .int .i64 0, .int .i64 0, .string ⟨#[]⟩, .int .i64 0, .int .i64 0, .string ⟨#[]⟩] := rfl
  obtain ⟨lr, hlr⟩ : ∃ lr : Nat, (if m.testBit 8 then lab else 0) = lr := ⟨_, rfl⟩
  rw [hlr]
  replace hlr := Lib.hid hlr
  cases h8 : m.testBit 8
  all_goals
    have hl8 := hlr.out
    rw [h8] at cL hl8
    replace hl8 := Lib.hid hl8
    replace cL := Lib.hid cL
    clear h8 hlr
    go_enter Tryd.func12, Tryd.ntmps12
    go_wp2_with (first
      | (go_at_call 21; (with_reducible refine (cL.out _).mono ?_); rintro _ _ ⟨rfl, rfl⟩)
      | (with_reducible refine wpList_box_st (L := []) hS rfl rfl rfl ?_; intro gc w1 hS1; clear hS; have hS := hS1; clear hS1)
      | (with_reducible refine wpList_alloc_st (L := [_]) hS rfl rfl (by assumption) ?_; intro go w1 hS1; clear hS; have hS := hS1; clear hS1)
      | (with_reducible refine wpList_alloc_st (L := [_, _]) hS rfl rfl (by assumption) ?_; intro gx w1 hS1; clear hS; have hS := hS1; clear hS1)
      | (with_reducible refine wpList_box_st hS rfl rfl rfl ?_; intro g1 w1 hS1; clear hS; replace hS := hS1; clear hS1) | (with_reducible refine wpList_box1_st hS rfl rfl rfl ?_; intro g1 w1 hS1; clear hS; replace hS := hS1; clear hS1) | (with_reducible refine wpList_alloc_st hS rfl rfl (by assumption) ?_; intro g1 w1 hS1; clear hS; replace hS := hS1; clear hS1) | (with_reducible refine wpList_alloc1_st hS rfl rfl (by assumption) rfl ?_; intro g1 w1 hS1; clear hS; replace hS := hS1; clear hS1) | ((with_reducible refine wpList_load_st 0 hS rfl rfl rfl rfl ?_ rfl ?_); focus (simp [scalarB, go_sem]; done)) | ((with_reducible refine wpList_loadall_st 0 hS rfl rfl rfl rfl ?_ (by kernel_rfl) ?_); focus (simp [rowB, go_sem]; done)) | ((with_reducible refine wpList_store_st 0 hS rfl rfl rfl rfl (by kernel_rfl) rfl rfl ?_); intro w1 hS1; clear hS; replace hS := hS1; clear hS1; try simp only [List.set_cons_zero, List.set_cons_succ, List.setIfInBounds_toArray, List.take_succ_cons, List.take_zero, List.drop_succ_cons, List.drop_zero, List.nil_append, List.cons_append, List.append_nil, List.drop_nil, List.take_nil, List.length_cons, List.length_nil, Nat.zero_add, Nat.add_zero, Nat.reduceAdd] at hS) | ((with_reducible refine wpList_storerow_st 0 hS rfl rfl rfl rfl (by kernel_rfl) rfl rfl rfl rfl ?_); intro w1 hS1; clear hS; replace hS := hS1; clear hS1; try simp only [List.set_cons_zero, List.set_cons_succ, List.setIfInBounds_toArray, List.take_succ_cons, List.take_zero, List.drop_succ_cons, List.drop_zero, List.nil_append, List.cons_append, List.append_nil, List.drop_nil, List.take_nil, List.length_cons, List.length_nil, Nat.zero_add, Nat.add_zero, Nat.reduceAdd] at hS) | ((with_reducible refine wpList_load_st 1 hS rfl rfl rfl rfl ?_ rfl ?_); focus (simp [scalarB, go_sem]; done)) | ((with_reducible refine wpList_loadall_st 1 hS rfl rfl rfl rfl ?_ (by kernel_rfl) ?_); focus (simp [rowB, go_sem]; done)) | ((with_reducible refine wpList_store_st 1 hS rfl rfl rfl rfl (by kernel_rfl) rfl rfl ?_); intro w1 hS1; clear hS; replace hS := hS1; clear hS1; try simp only [List.set_cons_zero, List.set_cons_succ, List.setIfInBounds_toArray, List.take_succ_cons, List.take_zero, List.drop_succ_cons, List.drop_zero, List.nil_append, List.cons_append, List.append_nil, List.drop_nil, List.take_nil, List.length_cons, List.length_nil, Nat.zero_add, Nat.add_zero, Nat.reduceAdd] at hS) | ((with_reducible refine wpList_storerow_st 1 hS rfl rfl rfl rfl (by kernel_rfl) rfl rfl rfl rfl ?_); intro w1 hS1; clear hS; replace hS := hS1; clear hS1; try simp only [List.set_cons_zero, List.set_cons_succ, List.setIfInBounds_toArray, List.take_succ_cons, List.take_zero, List.drop_succ_cons, List.drop_zero, List.nil_append, List.cons_append, List.append_nil, List.drop_nil, List.take_nil, List.length_cons, List.length_nil, Nat.zero_add, Nat.add_zero, Nat.reduceAdd] at hS) | ((with_reducible refine wpList_load_st 2 hS rfl rfl rfl rfl ?_ rfl ?_); focus (simp [scalarB, go_sem]; done)) | ((with_reducible refine wpList_loadall_st 2 hS rfl rfl rfl rfl ?_ (by kernel_rfl) ?_); focus (simp [rowB, go_sem]; done)) | ((with_reducible refine wpList_store_st 2 hS rfl rfl rfl rfl (by kernel_rfl) rfl rfl ?_); intro w1 hS1; clear hS; replace hS := hS1; clear hS1; try simp only [List.set_cons_zero, List.set_cons_succ, List.setIfInBounds_toArray, List.take_succ_cons, List.take_zero, List.drop_succ_cons, List.drop_zero, List.nil_append, List.cons_append, List.append_nil, List.drop_nil, List.take_nil, List.length_cons, List.length_nil, Nat.zero_add, Nat.add_zero, Nat.reduceAdd] at hS) | ((with_reducible refine wpList_storerow_st 2 hS rfl rfl rfl rfl (by kernel_rfl) rfl rfl rfl rfl ?_); intro w1 hS1; clear hS; replace hS := hS1; clear hS1; try simp only [List.set_cons_zero, List.set_cons_succ, List.setIfInBounds_toArray, List.take_succ_cons, List.take_zero, List.drop_succ_cons, List.drop_zero, List.nil_append, List.cons_append, List.append_nil, List.drop_nil, List.take_nil, List.length_cons, List.length_nil, Nat.zero_add, Nat.add_zero, Nat.reduceAdd] at hS))
    obtain ⟨lb, hlb, hS1⟩ : ∃ lb : Nat, Hid (lb = lr) ∧ St w [] [Ch.blk gx 27 (.int .i64 id :: .int .i64 ver :: .int .u32 lb :: flRow noF).toArray, Ch.blk go 27 #[.int .i64 0, .int .i64 0, .int .u32 0, .int .i64 0, .int .i64 0, .string ⟨#[]⟩, .int .i64 0, .int .i64 0, .string ⟨#[]⟩, .int .i64 0, .int .i64 0, .string ⟨#[]⟩, .int .i64 0, .int .i64 0, .string ⟨#[]⟩, .int .i64 0, .int .i64 0, .string ⟨#[]⟩, .int .i64 0, .int .i64 0, .string ⟨#[]⟩, .int .i64 0, .int .i64 0, .string ⟨#[]⟩, .int .i64 0, .int .i64 0, .string ⟨#[]⟩], Ch.blk gc 27 (.int .i64 id :: .int .i64 ver :: .int .u32 lab :: flRow f).toArray] _ := by
      first
        | exact ⟨0, Lib.hid (by rw [← hl8.out]; rfl), hS⟩
        | exact ⟨lab, Lib.hid (by rw [← hl8.out]; rfl), hS⟩
    clear hS hfl
    go_loopg [6] 8 (fun gk vx wr => ∃ k : Nat, k + gk = 8 ∧ vx = .int .i64 k ∧ St w [] [Ch.blk gx 27 (.int .i64 id :: .int .i64 ver :: .int .u32 lb :: flRow (putF f noF (bitsTo m k))).toArray, Ch.blk go 27 #[.int .i64 0, .int .i64 0, .int .u32 0, .int .i64 0, .int .i64 0, .string ⟨#[]⟩, .int .i64 0, .int .i64 0, .string ⟨#[]⟩, .int .i64 0, .int .i64 0, .string ⟨#[]⟩, .int .i64 0, .int .i64 0, .string ⟨#[]⟩, .int .i64 0, .int .i64 0, .string ⟨#[]⟩, .int .i64 0, .int .i64 0, .string ⟨#[]⟩, .int .i64 0, .int .i64 0, .string ⟨#[]⟩, .int .i64 0, .int .i64 0, .string ⟨#[]⟩], Ch.blk gc 27 (.int .i64 id :: .int .i64 ver :: .int .u32 lab :: flRow f).toArray] wr)
    case atStart => exact ⟨0, Nat.zero_add _, rfl, hS1⟩
    case round =>
      clear hS1
      obtain ⟨k, hkn, rfl, hS⟩ := hrel
      by_cases hlt : k < 8
      · have hnext := bitsTo_next m k
        cases hb : m.testBit k with
        | false =>
          rw [hb, if_neg (by simp)] at hnext
          have cH2 := cH.out k hlt
          rw [hb] at cH2
          replace cH2 := Lib.hid cH2
          replace hnext := Lib.hid hnext
          clear hb
          go_wp2_with (first
            | (go_at_call 20; (with_reducible refine (cH2.out _).mono ?_); rintro _ _ ⟨rfl, rfl⟩))
          go_roundg (8 - (k + 1))
          case measure => omega
          case rel => exact ⟨k + 1, by omega, by go_num, by rw [hnext.out]; exact hS⟩
        | true =>
          rw [hb, if_pos rfl] at hnext
          have cH2 := cH.out k hlt
          rw [hb] at cH2
          replace cH2 := Lib.hid cH2
          have hput := putF_snoc f noF (bitsTo m k) k
          rw [← hnext] at hput
          have hvf : f[k]? = some (f.getD k Vl.zero) := by rw [List.getD_eq_getElem?_getD, List.getElem?_eq_getElem (by omega)]; rfl
          have hpl : (putF f noF (bitsTo m k)).length = 8 := by rw [putF_length]; rfl
          generalize f.getD k Vl.zero = v at *
          have hld : ((.int .i64 id :: .int .i64 ver :: .int .u32 lab :: flRow f).toArray.toList.drop (3 + k * 3)).take 3 = vlRow v := fl_at [.int .i64 id, .int .i64 ver, .int .u32 lab] f k v hvf
          have hst : ((.int .i64 id :: .int .i64 ver :: .int .u32 lb :: flRow (putF f noF (bitsTo m k))).toArray.toList.take (3 + k * 3) ++ vlRow v ++ (.int .i64 id :: .int .i64 ver :: .int .u32 lb :: flRow (putF f noF (bitsTo m k))).toArray.toList.drop (3 + k * 3 + 3)).toArray = (.int .i64 id :: .int .i64 ver :: .int .u32 lb :: flRow (putF f noF (bitsTo m (k + 1)))).toArray := by
            rw [hput]
            exact congrArg List.toArray (fl_put [.int .i64 id, .int .i64 ver, .int .u32 lb] (putF f noF (bitsTo m k)) k v (by omega))
          have hfit : Nat.ble (3 + k * 3 + 3) (Value.int .i64 id :: .int .i64 ver :: .int .u32 lb :: flRow (putF f noF (bitsTo m k))).toArray.size = true := by
            rw [Nat.ble_eq]
            simp only [List.size_toArray, List.length_cons, flRow_length, hpl]
            omega
          replace hld := Lib.hid hld
          replace hst := Lib.hid hst
          replace hfit := Lib.hid hfit
          clear hnext hvf hput hb
          go_wp2_with (first
            | (go_at_call 20; (with_reducible refine (cH2.out _).mono ?_); rintro _ _ ⟨rfl, rfl⟩)
            | ((with_reducible refine wpList_loadrow_st 2 hS rfl rfl rfl rfl ?_ (by kernel_rfl) hld.out rfl ?_); focus (simp [rowB, go_sem]; done))
            | ((with_reducible refine wpList_storerow_st 0 (vs := vlRow v) (n := 3) hS rfl rfl rfl rfl (by kernel_rfl) rfl (vlRow_length v) (vl_one v) hfit.out ?_); intro w1 hS1; clear hS; simp only [List.set_cons_zero, List.set_cons_succ] at hS1; rw [hst.out] at hS1; have hS := hS1; clear hS1))
          go_roundg (8 - (k + 1))
          case measure => omega
          case rel => exact ⟨k + 1, by omega, by go_num, hS⟩
      · obtain rfl : k = 8 := by omega
        have hpl : (putF f noF (bitsTo m 8)).length = 8 := by rw [putF_length]; rfl
        obtain ⟨q, hq⟩ : ∃ q, putF f noF (bitsTo m 8) = q := ⟨_, rfl⟩
        rw [hq] at hS hpl
        replace hq := Lib.hid hq
        have hsz : (Value.int .i64 id :: .int .i64 ver :: .int .u32 lb :: flRow q).toArray.size = 27 := by
          simp only [List.size_toArray, List.length_cons, flRow_length, hpl]
        have hone : (Value.int .i64 id :: .int .i64 ver :: .int .u32 lb :: flRow q).all Value.oneCell' = true := by
          simp only [List.all_cons, fl_one]
          rfl
        have hlen : (Value.int .i64 id :: .int .i64 ver :: .int .u32 lb :: flRow q).length = 27 := by simpa using hsz
        have hsB : sizeB Tryd.prog 27 (Value.int .i64 id :: .int .i64 ver :: .int .u32 lb :: flRow q).toArray.size = true := by rw [hsz]; kernel_rfl
        go_wp2_with (first
          | ((with_reducible refine wpList_loadall_st 0 hS rfl rfl rfl rfl ?_ hsB ?_); focus (simp [rowB, go_sem]; done))
          | ((with_reducible refine wpList_storerow_st 1 (vs := Value.int .i64 id :: .int .i64 ver :: .int .u32 lb :: flRow q) (n := 27) hS rfl rfl rfl rfl (by kernel_rfl) rfl hlen hone rfl ?_); intro w1 hS1; clear hS; have hS := hS1; clear hS1; try simp only [List.set_cons_zero, List.set_cons_succ, List.setIfInBounds_toArray, List.take_succ_cons, List.take_zero, List.drop_succ_cons, List.drop_zero, List.nil_append, List.cons_append, List.append_nil, List.drop_nil, List.take_nil, List.length_cons, List.length_nil, Nat.zero_add, Nat.add_zero, Nat.reduceAdd] at hS))
        exact bodyPost_ret (v := .agg (Value.int .i64 id :: .int .i64 ver :: .int .u32 lb :: flRow q).toArray) (results_blk Tryd.results12 rfl hS 1 rfl (by kernel_rfl) hsB) rfl ⟨by rw [hlb.out, hq.out], hS.below⟩
theorem rof_any (c : Cd) (m : Nat) (hm : m < 4294967296) (hf : c.f.length = 8) (w : World) :
    Calls Tryd.prog 14 #[.agg (cdRow c).toArray, .int .u32 m] w fun e w' => e = .returned (.agg (ptRow (c.of m)).toArray) ∧ Below w.heap.size w w' := by
  have hS := St.start w
  have ec := elem_card
  have ep := elem_patch
  have cP := Lib.hid (fun (W : World) (hb : Below w.heap.size w W) => rpr_any c m hm hf W)
  have hpf : (c.proj m).f.length = 8 := by
    show (putF c.f noF (bitsOf m)).length = 8
    rw [putF_length]
    rfl
  have hcl : (cdRow c).length = 27 := by simp [cdRow, flRow_length, hf]
  have hsc : sizeB Tryd.prog 27 (cdRow c).toArray.size = true := by
    rw [List.size_toArray, hcl]
    kernel_rfl
  unfold Cd.of
  generalize c.proj m = x at cP hpf ⊢
  generalize cdRow c = RC at cP hcl hsc ⊢
  obtain ⟨xi, xv, xl, xf⟩ := x
  simp only [ptRow, cdRow] at hpf cP ⊢
  have hxl : (Value.int .i64 xi :: .int .i64 xv :: .int .u32 xl :: flRow xf).length = 27 := by
    simp only [List.length_cons, flRow_length, hpf]
  have hxo : (Value.int .i64 xi :: .int .i64 xv :: .int .u32 xl :: flRow xf).all Value.oneCell' = true := by
    simp only [List.all_cons, fl_one]
    rfl
  have hfl : (flRow xf).length = 24 := by rw [flRow_length, hpf]
  have hf3 : ((Value.int .i64 xi :: .int .i64 xv :: .int .u32 xl :: flRow xf).toArray.toList.drop 3).take 24 = flRow xf := List.take_of_length_le (Nat.le_of_eq hfl)
  have hb : (flRow xf).zipIdx.foldl (fun cs x => cs.setIfInBounds (2 + x.2) x.1) #[Value.int .u32 m, .int .u32 xl, .int .i64 0, .int .i64 0, .string ⟨#[]⟩, .int .i64 0, .int .i64 0, .string ⟨#[]⟩, .int .i64 0, .int .i64 0, .string ⟨#[]⟩, .int .i64 0, .int .i64 0, .string ⟨#[]⟩, .int .i64 0, .int .i64 0, .string ⟨#[]⟩, .int .i64 0, .int .i64 0, .string ⟨#[]⟩, .int .i64 0, .int .i64 0, .string ⟨#[]⟩, .int .i64 0, .int .i64 0, .string ⟨#[]⟩] = (Value.int .u32 m :: .int .u32 xl :: flRow xf).toArray := by
    rw [foldl_put 2 (flRow xf) 0 _ (by rw [hfl]; exact Nat.le_refl _), hfl]
    simp
  have hpl : (Value.int .u32 m :: .int .u32 xl :: flRow xf).length = 26 := by
    simp only [List.length_cons, flRow_length, hpf]
  have hpo : (Value.int .u32 m :: .int .u32 xl :: flRow xf).all Value.oneCell' = true := by
    simp only [List.all_cons, fl_one]
    rfl
  go_enter Tryd.func14, Tryd.ntmps14
  go_wp2_with (first
    | (go_at_call 12; (with_reducible refine (cP.out _ hS.below).mono ?_); rintro _ w9 ⟨rfl, hk9⟩; have hS1 := hS.keepB hk9; clear hk9 hS; have hS := hS1; clear hS1)
    | (with_reducible refine wpList_box_st (L := []) hS rfl rfl rfl ?_; intro gc w1 hS1; clear hS; have hS := hS1; clear hS1)
    | (with_reducible refine wpList_alloc_st (L := [_]) hS rfl rfl (by assumption) ?_; intro go w1 hS1; clear hS; have hS := hS1; clear hS1)
    | (with_reducible refine wpList_alloc_st (L := [_, _]) hS rfl rfl (by assumption) ?_; intro gx w1 hS1; clear hS; have hS := hS1; clear hS1)
    | ((with_reducible refine wpList_loadall_st (L := [_, _]) 1 hS rfl rfl rfl rfl ?_ hsc ?_); focus (simp [rowB, go_sem]; done))
    | ((with_reducible refine wpList_storerow_st 0 (vs := Value.int .i64 xi :: .int .i64 xv :: .int .u32 xl :: flRow xf) (n := 27) hS rfl rfl rfl rfl (by kernel_rfl) rfl hxl hxo rfl ?_); intro w1 hS1; clear hS; have hS := hS1; clear hS1; try simp only [List.set_cons_zero, List.set_cons_succ, List.setIfInBounds_toArray, List.take_succ_cons, List.take_zero, List.drop_succ_cons, List.drop_zero, List.nil_append, List.cons_append, List.append_nil, List.drop_nil, List.take_nil, List.length_cons, List.length_nil, Nat.zero_add, Nat.add_zero, Nat.reduceAdd] at hS)
    | ((with_reducible refine wpList_loadrow_st (n := 24) 0 hS rfl rfl rfl rfl ?_ (by kernel_rfl) hf3 hfl ?_); focus (simp [rowB, go_sem]; done))
    | ((with_reducible refine wpList_storerow_st 1 (vs := Value.int .u32 m :: .int .u32 xl :: flRow xf) (n := 26) hS rfl rfl rfl rfl (by kernel_rfl) rfl hpl hpo rfl ?_); intro w1 hS1; clear hS; have hS := hS1; clear hS1; try simp only [List.set_cons_zero, List.set_cons_succ, List.setIfInBounds_toArray, List.take_succ_cons, List.take_zero, List.drop_succ_cons, List.drop_zero, List.nil_append, List.cons_append, List.append_nil, List.drop_nil, List.take_nil, List.length_cons, List.length_nil, Nat.zero_add, Nat.add_zero, Nat.reduceAdd] at hS)
    | (with_reducible refine wpList_box_st hS rfl rfl rfl ?_; intro g1 w1 hS1; clear hS; replace hS := hS1; clear hS1) | (with_reducible refine wpList_box1_st hS rfl rfl rfl ?_; intro g1 w1 hS1; clear hS; replace hS := hS1; clear hS1) | (with_reducible refine wpList_alloc_st hS rfl rfl (by assumption) ?_; intro g1 w1 hS1; clear hS; replace hS := hS1; clear hS1) | (with_reducible refine wpList_alloc1_st hS rfl rfl (by assumption) rfl ?_; intro g1 w1 hS1; clear hS; replace hS := hS1; clear hS1) | ((with_reducible refine wpList_load_st 0 hS rfl rfl rfl rfl ?_ rfl ?_); focus (simp [scalarB, go_sem]; done)) | ((with_reducible refine wpList_loadall_st 0 hS rfl rfl rfl rfl ?_ (by kernel_rfl) ?_); focus (simp [rowB, go_sem]; done)) | ((with_reducible refine wpList_store_st 0 hS rfl rfl rfl rfl (by kernel_rfl) rfl rfl ?_); intro w1 hS1; clear hS; replace hS := hS1; clear hS1; try simp only [List.set_cons_zero, List.set_cons_succ, List.setIfInBounds_toArray, List.take_succ_cons, List.take_zero, List.drop_succ_cons, List.drop_zero, List.nil_append, List.cons_append, List.append_nil, List.drop_nil, List.take_nil, List.length_cons, List.length_nil, Nat.zero_add, Nat.add_zero, Nat.reduceAdd] at hS) | ((with_reducible refine wpList_storerow_st 0 hS rfl rfl rfl rfl (by kernel_rfl) rfl rfl rfl rfl ?_); intro w1 hS1; clear hS; replace hS := hS1; clear hS1; try simp only [List.set_cons_zero, List.set_cons_succ, List.setIfInBounds_toArray, List.take_succ_cons, List.take_zero, List.drop_succ_cons, List.drop_zero, List.nil_append, List.cons_append, List.append_nil, List.drop_nil, List.take_nil, List.length_cons, List.length_nil, Nat.zero_add, Nat.add_zero, Nat.reduceAdd] at hS))
  exact bodyPost_ret (v := .agg (Value.int .u32 m :: .int .u32 xl :: flRow xf).toArray) (results_blk Tryd.results14 rfl hS 1 rfl (by kernel_rfl) (by rw [List.size_toArray, hpl]; kernel_rfl)) rfl ⟨rfl, hS.below⟩

end Go.Proofs.YtplgpbbghhlbjaaDoor
