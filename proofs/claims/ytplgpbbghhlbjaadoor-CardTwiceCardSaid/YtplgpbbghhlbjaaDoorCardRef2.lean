/- Cards: the document's answer: Merge, Fresh. -/
import Derived.Test.YtplgpbbghhlbjaaDoorCardRef
set_option linter.unusedSimpArgs false
set_option linter.unusedVariables false
namespace Go.Proofs.YtplgpbbghhlbjaaDoor
open Go.RowKit Go.Ofp
set_option linter.unusedVariables false
set_option maxRecDepth 100000
set_option maxHeartbeats 4000000

theorem rmg_any (c : Cd) (p : Pt) (hm : p.mask < 4294967296) (hv : 0 ≤ c.ver ∧ c.ver ≤ 1099511627776) (hf : c.f.length = 8) (hg : p.f.length = 8) (w : World) :
    Calls Tryd.prog 16 #[.agg (cdRow c).toArray, .agg (ptRow p).toArray] w fun e w' => e = .returned (.agg (cdRow (c.merge p)).toArray) ∧ Below w.heap.size w w' := by
  have hS := St.start w
  have ec := elem_card
  obtain ⟨m, pl, pf⟩ := p
  have cL := (fun W : World => rlabels_any m hm W)
  have cH := Lib.hid (fun (i : Nat) (hi : i < 8) (W : World) => rhasb_any m i W (by omega) hm)
  have hcl : (cdRow c).length = 27 := by simp [cdRow, flRow_length, hf]
  have hsc : sizeB Tryd.prog 27 (cdRow c).toArray.size = true := by
    rw [List.size_toArray, hcl]
    kernel_rfl
  have hco : (cdRow c).all Value.oneCell' = true := by
    simp only [cdRow, List.all_cons, fl_one]
    rfl
  obtain ⟨id, ver, lab, f⟩ := c
  simp only [cdRow, ptRow, Cd.merge] at hf hg hv hcl hsc hco ⊢
  rw [show bitsOf m = bitsTo m 8 from rfl]
  obtain ⟨lr, hlr⟩ : ∃ lr : Nat, (if m.testBit 8 then pl else lab) = lr := ⟨_, rfl⟩
  obtain ⟨vr, hvr⟩ : ∃ vr : Int, (if ver < 1099511627776 then ver + 1 else ver) = vr := ⟨_, rfl⟩
  have hvm : (if (1099511627775 : Int) < ver then (1099511627775 : Int) else ver) + 1 = vr := by
    rw [← hvr]
    by_cases h : ver < 1099511627776
    · rw [if_pos h, if_neg (by omega)]
    · rw [if_neg h, if_pos (by omega)]
      omega
  have hvb : -9223372036854775808 ≤ vr ∧ vr ≤ 9223372036854775807 := by
    rw [← hvr]
    split <;> omega
  rw [hlr, hvr]
  replace hlr := Lib.hid hlr
  obtain ⟨vm, hvm2⟩ : ∃ vm : Int, (if (1099511627775 : Int) < ver then (1099511627775 : Int) else ver) = vm := ⟨_, rfl⟩
  rw [hvm2] at hvm
  clear hvr
  have hv2 := Lib.hid hv
  have hvb2 := Lib.hid hvb
  cases h8 : m.testBit 8
  all_goals
    have hl8 := hlr.out
    rw [h8] at cL hl8
    replace hl8 := Lib.hid hl8
    replace cL := Lib.hid cL
    clear h8 hlr
    go_enter Tryd.func16, Tryd.ntmps16
    go_wp2_with (first
      | (go_at_call 21; (with_reducible refine (cL.out _).mono ?_); rintro _ _ ⟨rfl, rfl⟩)
      | (with_reducible refine wpList_box_st (L := []) hS rfl rfl rfl ?_; intro gc w1 hS1; clear hS; have hS := hS1; clear hS1)
      | (with_reducible refine wpList_box_st (L := [_]) hS rfl rfl rfl ?_; intro gp w1 hS1; clear hS; have hS := hS1; clear hS1)
      | (with_reducible refine wpList_alloc_st (L := [_, _]) hS rfl rfl (by assumption) ?_; intro go w1 hS1; clear hS; have hS := hS1; clear hS1)
      | (with_reducible refine wpList_alloc_st (L := [_, _, _]) hS rfl rfl (by assumption) ?_; intro gx w1 hS1; clear hS; have hS := hS1; clear hS1)
      | ((with_reducible refine wpList_loadall_st (L := [_, _, _]) 2 hS rfl rfl rfl rfl ?_ hsc ?_); focus (simp [rowB, go_sem]; done))
      | ((with_reducible refine wpList_storerow_st (L := [_, _, _, _]) 0 (vs := .int .i64 id :: .int .i64 ver :: .int .u32 lab :: flRow f) (n := 27) hS rfl rfl rfl rfl (by kernel_rfl) rfl hcl hco rfl ?_); intro w1 hS1; clear hS; have hS := hS1; clear hS1; try simp only [List.set_cons_zero, List.set_cons_succ, List.setIfInBounds_toArray, List.take_succ_cons, List.take_zero, List.drop_succ_cons, List.drop_zero, List.nil_append, List.cons_append, List.append_nil, List.drop_nil, List.take_nil, List.length_cons, List.length_nil, Nat.zero_add, Nat.add_zero, Nat.reduceAdd] at hS)
      | (with_reducible refine wpList_box_st hS rfl rfl rfl ?_; intro g1 w1 hS1; clear hS; replace hS := hS1; clear hS1) | (with_reducible refine wpList_box1_st hS rfl rfl rfl ?_; intro g1 w1 hS1; clear hS; replace hS := hS1; clear hS1) | (with_reducible refine wpList_alloc_st hS rfl rfl (by assumption) ?_; intro g1 w1 hS1; clear hS; replace hS := hS1; clear hS1) | (with_reducible refine wpList_alloc1_st hS rfl rfl (by assumption) rfl ?_; intro g1 w1 hS1; clear hS; replace hS := hS1; clear hS1) | ((with_reducible refine wpList_load_st 0 hS rfl rfl rfl rfl ?_ rfl ?_); focus (simp [scalarB, go_sem]; done)) | ((with_reducible refine wpList_loadall_st 0 hS rfl rfl rfl rfl ?_ (by kernel_rfl) ?_); focus (simp [rowB, go_sem]; done)) | ((with_reducible refine wpList_store_st 0 hS rfl rfl rfl rfl (by kernel_rfl) rfl rfl ?_); intro w1 hS1; clear hS; replace hS := hS1; clear hS1; try simp only [List.set_cons_zero, List.set_cons_succ, List.setIfInBounds_toArray, List.take_succ_cons, List.take_zero, List.drop_succ_cons, List.drop_zero, List.nil_append, List.cons_append, List.append_nil, List.drop_nil, List.take_nil, List.length_cons, List.length_nil, Nat.zero_add, Nat.add_zero, Nat.reduceAdd] at hS) | ((with_reducible refine wpList_storerow_st 0 hS rfl rfl rfl rfl (by kernel_rfl) rfl rfl rfl rfl ?_); intro w1 hS1; clear hS; replace hS := hS1; clear hS1; try simp only [List.set_cons_zero, List.set_cons_succ, List.setIfInBounds_toArray, List.take_succ_cons, List.take_zero, List.drop_succ_cons, List.drop_zero, List.nil_append, List.cons_append, List.append_nil, List.drop_nil, List.take_nil, List.length_cons, List.length_nil, Nat.zero_add, Nat.add_zero, Nat.reduceAdd] at hS) | ((with_reducible refine wpList_load_st 1 hS rfl rfl rfl rfl ?_ rfl ?_); focus (simp [scalarB, go_sem]; done)) | ((with_reducible refine wpList_loadall_st 1 hS rfl rfl rfl rfl ?_ (by kernel_rfl) ?_); focus (simp [rowB, go_sem]; done)) | ((with_reducible refine wpList_store_st 1 hS rfl rfl rfl rfl (by kernel_rfl) rfl rfl ?_); intro w1 hS1; clear hS; replace hS := hS1; clear hS1; try simp only [List.set_cons_zero, List.set_cons_succ, List.setIfInBounds_toArray, List.take_succ_cons, List.take_zero, List.drop_succ_cons, List.drop_zero, List.nil_append, List.cons_append, List.append_nil, List.drop_nil, List.take_nil, List.length_cons, List.length_nil, Nat.zero_add, Nat.add_zero, Nat.reduceAdd] at hS) | ((with_reducible refine wpList_storerow_st 1 hS rfl rfl rfl rfl (by kernel_rfl) rfl rfl rfl rfl ?_); intro w1 hS1; clear hS; replace hS := hS1; clear hS1; try simp only [List.set_cons_zero, List.set_cons_succ, List.setIfInBounds_toArray, List.take_succ_cons, List.take_zero, List.drop_succ_cons, List.drop_zero, List.nil_append, List.cons_append, List.append_nil, List.drop_nil, List.take_nil, List.length_cons, List.length_nil, Nat.zero_add, Nat.add_zero, Nat.reduceAdd] at hS) | ((with_reducible refine wpList_load_st 2 hS rfl rfl rfl rfl ?_ rfl ?_); focus (simp [scalarB, go_sem]; done)) | ((with_reducible refine wpList_loadall_st 2 hS rfl rfl rfl rfl ?_ (by kernel_rfl) ?_); focus (simp [rowB, go_sem]; done)) | ((with_reducible refine wpList_store_st 2 hS rfl rfl rfl rfl (by kernel_rfl) rfl rfl ?_); intro w1 hS1; clear hS; replace hS := hS1; clear hS1; try simp only [List.set_cons_zero, List.set_cons_succ, List.setIfInBounds_toArray, List.take_succ_cons, List.take_zero, List.drop_succ_cons, List.drop_zero, List.nil_append, List.cons_append, List.append_nil, List.drop_nil, List.take_nil, List.length_cons, List.length_nil, Nat.zero_add, Nat.add_zero, Nat.reduceAdd] at hS) | ((with_reducible refine wpList_storerow_st 2 hS rfl rfl rfl rfl (by kernel_rfl) rfl rfl rfl rfl ?_); intro w1 hS1; clear hS; replace hS := hS1; clear hS1; try simp only [List.set_cons_zero, List.set_cons_succ, List.setIfInBounds_toArray, List.take_succ_cons, List.take_zero, List.drop_succ_cons, List.drop_zero, List.nil_append, List.cons_append, List.append_nil, List.drop_nil, List.take_nil, List.length_cons, List.length_nil, Nat.zero_add, Nat.add_zero, Nat.reduceAdd] at hS) | ((with_reducible refine wpList_load_st 3 hS rfl rfl rfl rfl ?_ rfl ?_); focus (simp [scalarB, go_sem]; done)) | ((with_reducible refine wpList_loadall_st 3 hS rfl rfl rfl rfl ?_ (by kernel_rfl) ?_); focus (simp [rowB, go_sem]; done)) | ((with_reducible refine wpList_store_st 3 hS rfl rfl rfl rfl (by kernel_rfl) rfl rfl ?_); intro w1 hS1; clear hS; replace hS := hS1; clear hS1; try simp only [List.set_cons_zero, List.set_cons_succ, List.setIfInBounds_toArray, List.take_succ_cons, List.take_zero, List.drop_succ_cons, List.drop_zero, List.nil_append, List.cons_append, List.append_nil, List.drop_nil, List.take_nil, List.length_cons, List.length_nil, Nat.zero_add, Nat.add_zero, Nat.reduceAdd] at hS) | ((with_reducible refine wpList_storerow_st 3 hS rfl rfl rfl rfl (by kernel_rfl) rfl rfl rfl rfl ?_); intro w1 hS1; clear hS; replace hS := hS1; clear hS1; try simp only [List.set_cons_zero, List.set_cons_succ, List.setIfInBounds_toArray, List.take_succ_cons, List.take_zero, List.drop_succ_cons, List.drop_zero, List.nil_append, List.cons_append, List.append_nil, List.drop_nil, List.take_nil, List.length_cons, List.length_nil, Nat.zero_add, Nat.add_zero, Nat.reduceAdd] at hS))
    clear hvm2 hvm hvb hv
    obtain ⟨lb, hlb, hS1⟩ : ∃ lb : Nat, Hid (lb = lr) ∧ St w [] [Ch.blk gx 27 (.int .i64 id :: .int .i64 vr :: .int .u32 lb :: flRow f).toArray, Ch.blk go 27 #[.int .i64 0, .int .i64 0, .int .u32 0, .int .i64 0, .int .i64 0, .string ⟨#[]⟩, .int .i64 0, .int .i64 0, .string ⟨#[]⟩, .int .i64 0, .int .i64 0, .string ⟨#[]⟩, .int .i64 0, .int .i64 0, .string ⟨#[]⟩, .int .i64 0, .int .i64 0, .string ⟨#[]⟩, .int .i64 0, .int .i64 0, .string ⟨#[]⟩, .int .i64 0, .int .i64 0, .string ⟨#[]⟩, .int .i64 0, .int .i64 0, .string ⟨#[]⟩], Ch.blk gp 29 (.int .u32 m :: .int .u32 pl :: flRow pf).toArray, Ch.blk gc 27 (.int .i64 id :: .int .i64 ver :: .int .u32 lab :: flRow f).toArray] _ := by
      first
        | exact ⟨pl, Lib.hid (by rw [← hl8.out]; rfl), hS⟩
        | exact ⟨lab, Lib.hid (by rw [← hl8.out]; rfl), hS⟩
    clear hS
    go_loopg [6] 8 (fun gk vx wr => ∃ k : Nat, k + gk = 8 ∧ vx = .int .i64 k ∧ St w [] [Ch.blk gx 27 (.int .i64 id :: .int .i64 vr :: .int .u32 lb :: flRow (putF pf f (bitsTo m k))).toArray, Ch.blk go 27 #[.int .i64 0, .int .i64 0, .int .u32 0, .int .i64 0, .int .i64 0, .string ⟨#[]⟩, .int .i64 0, .int .i64 0, .string ⟨#[]⟩, .int .i64 0, .int .i64 0, .string ⟨#[]⟩, .int .i64 0, .int .i64 0, .string ⟨#[]⟩, .int .i64 0, .int .i64 0, .string ⟨#[]⟩, .int .i64 0, .int .i64 0, .string ⟨#[]⟩, .int .i64 0, .int .i64 0, .string ⟨#[]⟩, .int .i64 0, .int .i64 0, .string ⟨#[]⟩], Ch.blk gp 29 (.int .u32 m :: .int .u32 pl :: flRow pf).toArray, Ch.blk gc 27 (.int .i64 id :: .int .i64 ver :: .int .u32 lab :: flRow f).toArray] wr)
    case atStart => exact ⟨0, Nat.zero_add _, rfl, hS1⟩
    case round =>
      clear hS1
      obtain ⟨k, hkn, rfl, hS⟩ := hrel
      by_cases hlt : k < 8
      · have hnext := bitsTo_next m k
        cases hb : m.testBit k with
        | false =>
          rw [hb, if_neg (by simp)] at hnext
          have cH2 := cH.out k hlt
          rw [hb] at cH2
          replace cH2 := Lib.hid cH2
          replace hnext := Lib.hid hnext
          clear hb
          go_wp2_with (first
            | (go_at_call 20; (with_reducible refine (cH2.out _).mono ?_); rintro _ _ ⟨rfl, rfl⟩)
              | ((with_reducible refine wpList_load_st 2 hS rfl rfl rfl rfl ?_ rfl ?_); focus (simp [scalarB, go_sem]; done)))
          go_roundg (8 - (k + 1))
          case measure => omega
          case rel => exact ⟨k + 1, by omega, by go_num, by rw [hnext.out]; exact hS⟩
        | true =>
          rw [hb, if_pos rfl] at hnext
          have cH2 := cH.out k hlt
          rw [hb] at cH2
          replace cH2 := Lib.hid cH2
          have hput := putF_snoc pf f (bitsTo m k) k
          rw [← hnext] at hput
          have hvf : pf[k]? = some (pf.getD k Vl.zero) := by rw [List.getD_eq_getElem?_getD, List.getElem?_eq_getElem (by omega)]; rfl
          have hpl : (putF pf f (bitsTo m k)).length = 8 := by rw [putF_length]; exact hf
          generalize pf.getD k Vl.zero = v at *
          have hld : ((.int .u32 m :: .int .u32 pl :: flRow pf).toArray.toList.drop (2 + k * 3)).take 3 = vlRow v := fl_at [.int .u32 m, .int .u32 pl] pf k v hvf
          have hst : ((.int .i64 id :: .int .i64 vr :: .int .u32 lb :: flRow (putF pf f (bitsTo m k))).toArray.toList.take (3 + k * 3) ++ vlRow v ++ (.int .i64 id :: .int .i64 vr :: .int .u32 lb :: flRow (putF pf f (bitsTo m k))).toArray.toList.drop (3 + k * 3 + 3)).toArray = (.int .i64 id :: .int .i64 vr :: .int .u32 lb :: flRow (putF pf f (bitsTo m (k + 1)))).toArray := by
            rw [hput]
            exact congrArg List.toArray (fl_put [.int .i64 id, .int .i64 vr, .int .u32 lb] (putF pf f (bitsTo m k)) k v (by omega))
          have hfit : Nat.ble (3 + k * 3 + 3) (Value.int .i64 id :: .int .i64 vr :: .int .u32 lb :: flRow (putF pf f (bitsTo m k))).toArray.size = true := by
            rw [Nat.ble_eq]
            simp only [List.size_toArray, List.length_cons, flRow_length, hpl]
            omega
          replace hld := Lib.hid hld
          replace hst := Lib.hid hst
          replace hfit := Lib.hid hfit
          clear hnext hvf hput hb
          go_wp2_with (first
            | (go_at_call 20; (with_reducible refine (cH2.out _).mono ?_); rintro _ _ ⟨rfl, rfl⟩)
            | ((with_reducible refine wpList_load_st 2 hS rfl rfl rfl rfl ?_ rfl ?_); focus (simp [scalarB, go_sem]; done))
              | ((with_reducible refine wpList_loadrow_st 2 hS rfl rfl rfl rfl ?_ (by kernel_rfl) hld.out rfl ?_); focus (simp [rowB, go_sem]; done))
            | ((with_reducible refine wpList_storerow_st 0 (vs := vlRow v) (n := 3) hS rfl rfl rfl rfl (by kernel_rfl) rfl (vlRow_length v) (vl_one v) hfit.out ?_); intro w1 hS1; clear hS; simp only [List.set_cons_zero, List.set_cons_succ] at hS1; rw [hst.out] at hS1; have hS := hS1; clear hS1))
          go_roundg (8 - (k + 1))
          case measure => omega
          case rel => exact ⟨k + 1, by omega, by go_num, hS⟩
      · obtain rfl : k = 8 := by omega
        have hpl : (putF pf f (bitsTo m 8)).length = 8 := by rw [putF_length]; exact hf
        obtain ⟨q, hq⟩ : ∃ q, putF pf f (bitsTo m 8) = q := ⟨_, rfl⟩
        rw [hq] at hS hpl
        replace hq := Lib.hid hq
        have hsz : (Value.int .i64 id :: .int .i64 vr :: .int .u32 lb :: flRow q).toArray.size = 27 := by
          simp only [List.size_toArray, List.length_cons, flRow_length, hpl]
        have hone : (Value.int .i64 id :: .int .i64 vr :: .int .u32 lb :: flRow q).all Value.oneCell' = true := by
          simp only [List.all_cons, fl_one]
          rfl
        have hlen : (Value.int .i64 id :: .int .i64 vr :: .int .u32 lb :: flRow q).length = 27 := by simpa using hsz
        have hsB : sizeB Tryd.prog 27 (Value.int .i64 id :: .int .i64 vr :: .int .u32 lb :: flRow q).toArray.size = true := by rw [hsz]; kernel_rfl
        go_wp2_with (first
          | ((with_reducible refine wpList_loadall_st 0 hS rfl rfl rfl rfl ?_ hsB ?_); focus (simp [rowB, go_sem]; done))
          | ((with_reducible refine wpList_storerow_st 1 (vs := Value.int .i64 id :: .int .i64 vr :: .int .u32 lb :: flRow q) (n := 27) hS rfl rfl rfl rfl (by kernel_rfl) rfl hlen hone rfl ?_); intro w1 hS1; clear hS; have hS := hS1; clear hS1; try simp only [List.set_cons_zero, List.set_cons_succ, List.setIfInBounds_toArray, List.take_succ_cons, List.take_zero, List.drop_succ_cons, List.drop_zero, List.nil_append, List.cons_append, List.append_nil, List.drop_nil, List.take_nil, List.length_cons, List.length_nil, Nat.zero_add, Nat.add_zero, Nat.reduceAdd] at hS))
        exact bodyPost_ret (v := .agg (Value.int .i64 id :: .int .i64 vr :: .int .u32 lb :: flRow q).toArray) (results_blk Tryd.results16 rfl hS 1 rfl (by kernel_rfl) hsB) rfl ⟨by rw [hlb.out, hq.out], hS.below⟩
theorem rfr_any (id : Int) (p : Pt) (hm : p.mask < 4294967296) (hg : p.f.length = 8) (w : World) :
    Calls Tryd.prog 18 #[.int .i64 id, .agg (ptRow p).toArray] w fun e w' => e = .returned (.agg (cdRow (p.fresh id)).toArray) ∧ Below w.heap.size w w' := by
  have hS := St.start w
  have ec := elem_card
  have cM : ∀ (W : World) (hb : Below w.heap.size w W), Calls Tryd.prog 16 #[.agg #[.int .i64 id, .int .i64 0, .int .u32 0, .int .i64 0, .int .i64 0, .string ⟨#[]⟩, .int .i64 0, .int .i64 0, .string ⟨#[]⟩, .int .i64 0, .int .i64 0, .string ⟨#[]⟩, .int .i64 0, .int .i64 0, .string ⟨#[]⟩, .int .i64 0, .int .i64 0, .string ⟨#[]⟩, .int .i64 0, .int .i64 0, .string ⟨#[]⟩, .int .i64 0, .int .i64 0, .string ⟨#[]⟩, .int .i64 0, .int .i64 0, .string ⟨#[]⟩], .agg (ptRow p).toArray] W fun e w' => e = .returned (.agg (cdRow (p.fresh id)).toArray) ∧ Below W.heap.size W w' :=
    fun W hb => rmg_any (Cd.none id) p hm (by simp [Cd.none]) rfl hg W
  replace cM := Lib.hid cM
  have hpf : (p.fresh id).f.length = 8 := by
    show (putF p.f noF (bitsOf p.mask)).length = 8
    rw [putF_length]
    rfl
  have hcl : (ptRow p).length = 26 := by simp [ptRow, flRow_length, hg]
  have hsc : sizeB Tryd.prog 29 (ptRow p).toArray.size = true := by
    rw [List.size_toArray, hcl]
    kernel_rfl
  have hrl : (cdRow (p.fresh id)).length = 27 := by simp [cdRow, flRow_length, hpf]
  have hro : (cdRow (p.fresh id)).all Value.oneCell' = true := by
    simp only [cdRow, List.all_cons, fl_one]
    rfl
  generalize cdRow (p.fresh id) = RX at cM hrl hro ⊢
  generalize ptRow p = RP at cM hcl hsc ⊢
  go_enter Tryd.func18, Tryd.ntmps18
  go_wp2_with (first
    | (go_at_call 16; (with_reducible refine (cM.out _ hS.below).mono ?_); rintro _ w9 ⟨rfl, hk9⟩; have hS1 := hS.keepB hk9; clear hk9 hS; have hS := hS1; clear hS1)
    | (with_reducible refine wpList_box_st (L := []) hS rfl rfl rfl ?_; intro gc w1 hS1; clear hS; have hS := hS1; clear hS1)
    | (with_reducible refine wpList_alloc_st (L := [_]) hS rfl rfl (by assumption) ?_; intro go w1 hS1; clear hS; have hS := hS1; clear hS1)
    | ((with_reducible refine wpList_loadall_st (L := [_, _]) 1 hS rfl rfl rfl rfl ?_ hsc ?_); focus (simp [rowB, go_sem]; done))
    | ((with_reducible refine wpList_storerow_st 0 (vs := RX) (n := 27) hS rfl rfl rfl rfl (by kernel_rfl) rfl hrl hro rfl ?_); intro w1 hS1; clear hS; have hS := hS1; clear hS1; try simp only [List.set_cons_zero, List.set_cons_succ, List.setIfInBounds_toArray, List.take_succ_cons, List.take_zero, List.drop_succ_cons, List.drop_zero, List.nil_append, List.cons_append, List.append_nil, List.drop_nil, List.take_nil, List.length_cons, List.length_nil, Nat.zero_add, Nat.add_zero, Nat.reduceAdd] at hS))
  exact bodyPost_ret (v := .agg RX.toArray) (results_blk Tryd.results18 rfl hS 0 rfl (by kernel_rfl) (by rw [List.size_toArray, hrl]; kernel_rfl)) rfl ⟨rfl, hS.below⟩
end Go.Proofs.YtplgpbbghhlbjaaDoor
