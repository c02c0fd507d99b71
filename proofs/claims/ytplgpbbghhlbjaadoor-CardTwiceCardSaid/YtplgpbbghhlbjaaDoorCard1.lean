/- Cards: Project, Of, Merge, Fresh. -/
import Derived.Test.YtplgpbbghhlbjaaDoorCardMath
import Derived.Test.YtplgpbbghhlbjaaDoorSt10
import Derived.Test.YtplgpbbghhlbjaaDoorSt13
set_option linter.unusedSimpArgs false
set_option linter.unusedVariables false
namespace Go.Proofs.YtplgpbbghhlbjaaDoor
open Go.RowKit Go.Ofp
set_option linter.unusedVariables false
set_option maxRecDepth 100000
set_option maxHeartbeats 4000000

theorem elem_card : Elem Tryd.prog 27 (.agg #[.int .i64 0, .int .i64 0, .int .u32 0, .int .i64 0, .int .i64 0, .string ⟨#[]⟩, .int .i64 0, .int .i64 0, .string ⟨#[]⟩, .int .i64 0, .int .i64 0, .string ⟨#[]⟩, .int .i64 0, .int .i64 0, .string ⟨#[]⟩, .int .i64 0, .int .i64 0, .string ⟨#[]⟩, .int .i64 0, .int .i64 0, .string ⟨#[]⟩, .int .i64 0, .int .i64 0, .string ⟨#[]⟩, .int .i64 0, .int .i64 0, .string ⟨#[]⟩]) 27 280 := Elem.mk (by kernel_rfl) (by rfl) (by decide)
theorem elem_patch : Elem Tryd.prog 29 (.agg #[.int .u32 0, .int .u32 0, .int .i64 0, .int .i64 0, .string ⟨#[]⟩, .int .i64 0, .int .i64 0, .string ⟨#[]⟩, .int .i64 0, .int .i64 0, .string ⟨#[]⟩, .int .i64 0, .int .i64 0, .string ⟨#[]⟩, .int .i64 0, .int .i64 0, .string ⟨#[]⟩, .int .i64 0, .int .i64 0, .string ⟨#[]⟩, .int .i64 0, .int .i64 0, .string ⟨#[]⟩, .int .i64 0, .int .i64 0, .string ⟨#[]⟩]) 26 264 := Elem.mk (by kernel_rfl) (by rfl) (by decide)


theorem lab_bit (m : Nat) (hm : m < 4294967296) : (bits .and .u32 (m : Int) 256 != 0) = m.testBit 8 := by
  rw [show (256 : Int) = ((2 ^ 8 : Nat) : Int) by rfl, u32_and_nat m (2 ^ 8) hm (by decide), Bool.eq_iff_iff, bne_iff_ne]
  constructor
  · intro h
    obtain ⟨i, hi⟩ := Nat.exists_testBit_of_ne_zero (show m &&& 2 ^ 8 ≠ 0 by omega)
    rw [Nat.testBit_and, Nat.testBit_two_pow, Bool.and_eq_true, decide_eq_true_eq] at hi
    rw [hi.2]
    exact hi.1
  · intro h e
    have e' : m &&& 2 ^ 8 = 0 := by omega
    have := congrArg (fun x => Nat.testBit x 8) e'
    simp only [Nat.testBit_and, Nat.testBit_two_pow, h, Nat.zero_testBit] at this
    cases this
theorem labels_any (m : Nat) (hm : m < 4294967296) (w : World) : Calls Tryd.prog 44 #[.int .u32 m] w fun e w' => e = .returned (.bool (m.testBit 8)) ∧ w = w' := by
  have h := lab_bit m hm
  replace h := Lib.hid h
  go_enter Tryd.func44, Tryd.ntmps44
  go_wp2_with fail
  go_ret
  exact ⟨by first | rfl | (rw [← h.out]; rfl), rfl⟩
theorem pr_any (c : Cd) (m : Nat) (hm : m < 4294967296) (hf : c.f.length = 8) (w : World) (h0 : 0 < w.heap.size) (ht : Sl w (some ⟨0, 0, none⟩) (tzTab.map vb)) :
    Calls Tryd.prog 11 #[.agg (cdRow c).toArray, .int .u32 m] w fun e w' => e = .returned (.agg (cdRow (c.proj m)).toArray) ∧ Below w.heap.size w w' := by
  have hS := St.start w
  have ec := elem_card
  have cL := Lib.hid (fun W : World => labels_any m hm W)
  have cF := Lib.hid (fun (W : World) (hb : Below w.heap.size w W) => fields_any m hm W (Nat.lt_of_lt_of_le h0 hb.size) (ht.below hb))
  obtain ⟨id, ver, lab, f⟩ := c
  simp only [cdRow, Cd.proj] at hf ⊢
  have hbl : ∀ i ∈ bitsOf m, i < 8 := fun i hi => by
    have := (List.mem_filter.1 hi).1
    simpa using this
  obtain ⟨L, hL⟩ : ∃ L, bitsOf m = L := ⟨_, rfl⟩
  rw [hL] at cF hbl ⊢
  obtain ⟨n, hn⟩ : ∃ n, L.length = n := ⟨_, rfl⟩
  have hnn : (nums L).length = n := by simpa [nums] using hn
  have hn8 : n ≤ 8 := by rw [← hn, ← hL]; exact bitsOf_len m
  have hfl : flRow noF = [.int .i64 0, .int .i64 0, .string ⟨#[]⟩, .int .i64 0, .int .i64 0, .string ⟨#[]⟩, .int .i64 0, .int .i64 0, .string ⟨#[]⟩, .int .i64 0, .int .i64 0, .string ⟨#[]⟩, .int .i64 0, .int .i64 0, .string ⟨#[]⟩, .int .i64 0, .int .i64 0, .string ⟨#[]⟩, .int .i64 0, .int .i64 0, .string ⟨#[]⟩, .int .i64 0, .int .i64 0, .string ⟨#[]⟩] := rfl
  obtain ⟨lr, hlr⟩ : ∃ lr : Nat, (if m.testBit 8 then lab else 0) = lr := ⟨_, rfl⟩
  rw [hlr]
  replace hlr := Lib.hid hlr
  go_enter Tryd.func11, Tryd.ntmps11
  go_wp2_with (first
    | (go_at_call 44; (with_reducible refine (cL.out _).mono ?_); rintro _ _ ⟨rfl, rfl⟩)
    | (go_at_call 45; (with_reducible refine (cF.out _ hS.below).mono ?_); rintro _ w9 ⟨a9, c9, rfl, -, -, hk9⟩; have hS1 := hS.made hk9; clear hS hk9; have hS := hS1; clear hS1; unfold irow at hS; rw [hnn] at hS; rw [hnn])
    | (with_reducible refine wpList_box_st (L := []) hS rfl rfl rfl ?_; intro gc w1 hS1; clear hS; have hS := hS1; clear hS1)
    | (with_reducible refine wpList_alloc_st (L := [_]) hS rfl rfl (by assumption) ?_; intro go w1 hS1; clear hS; have hS := hS1; clear hS1)
    | (with_reducible refine wpList_alloc_st (L := [_, _]) hS rfl rfl (by assumption) ?_; intro gx w1 hS1; clear hS; have hS := hS1; clear hS1)
    | (with_reducible refine wpList_box_st hS rfl rfl rfl ?_; intro g1 w1 hS1; clear hS; replace hS := hS1; clear hS1) | (with_reducible refine wpList_box1_st hS rfl rfl rfl ?_; intro g1 w1 hS1; clear hS; replace hS := hS1; clear hS1) | (with_reducible refine wpList_alloc_st hS rfl rfl (by assumption) ?_; intro g1 w1 hS1; clear hS; replace hS := hS1; clear hS1) | (with_reducible refine wpList_alloc1_st hS rfl rfl (by assumption) rfl ?_; intro g1 w1 hS1; clear hS; replace hS := hS1; clear hS1) | ((with_reducible refine wpList_load_st 0 hS rfl rfl rfl rfl ?_ rfl ?_); focus (simp [scalarB, go_sem]; done)) | ((with_reducible refine wpList_loadall_st 0 hS rfl rfl rfl rfl ?_ (by kernel_rfl) ?_); focus (simp [rowB, go_sem]; done)) | ((with_reducible refine wpList_store_st 0 hS rfl rfl rfl rfl (by kernel_rfl) rfl rfl ?_); intro w1 hS1; clear hS; replace hS := hS1; clear hS1; try simp only [List.set_cons_zero, List.set_cons_succ, List.setIfInBounds_toArray, List.take_succ_cons, List.take_zero, List.drop_succ_cons, List.drop_zero, List.nil_append, List.cons_append, List.append_nil, List.drop_nil, List.take_nil, List.length_cons, List.length_nil, Nat.zero_add, Nat.add_zero, Nat.reduceAdd] at hS) | ((with_reducible refine wpList_storerow_st 0 hS rfl rfl rfl rfl (by kernel_rfl) rfl rfl rfl rfl ?_); intro w1 hS1; clear hS; replace hS := hS1; clear hS1; try simp only [List.set_cons_zero, List.set_cons_succ, List.setIfInBounds_toArray, List.take_succ_cons, List.take_zero, List.drop_succ_cons, List.drop_zero, List.nil_append, List.cons_append, List.append_nil, List.drop_nil, List.take_nil, List.length_cons, List.length_nil, Nat.zero_add, Nat.add_zero, Nat.reduceAdd] at hS) | ((with_reducible refine wpList_load_st 1 hS rfl rfl rfl rfl ?_ rfl ?_); focus (simp [scalarB, go_sem]; done)) | ((with_reducible refine wpList_loadall_st 1 hS rfl rfl rfl rfl ?_ (by kernel_rfl) ?_); focus (simp [rowB, go_sem]; done)) | ((with_reducible refine wpList_store_st 1 hS rfl rfl rfl rfl (by kernel_rfl) rfl rfl ?_); intro w1 hS1; clear hS; replace hS := hS1; clear hS1; try simp only [List.set_cons_zero, List.set_cons_succ, List.setIfInBounds_toArray, List.take_succ_cons, List.take_zero, List.drop_succ_cons, List.drop_zero, List.nil_append, List.cons_append, List.append_nil, List.drop_nil, List.take_nil, List.length_cons, List.length_nil, Nat.zero_add, Nat.add_zero, Nat.reduceAdd] at hS) | ((with_reducible refine wpList_storerow_st 1 hS rfl rfl rfl rfl (by kernel_rfl) rfl rfl rfl rfl ?_); intro w1 hS1; clear hS; replace hS := hS1; clear hS1; try simp only [List.set_cons_zero, List.set_cons_succ, List.setIfInBounds_toArray, List.take_succ_cons, List.take_zero, List.drop_succ_cons, List.drop_zero, List.nil_append, List.cons_append, List.append_nil, List.drop_nil, List.take_nil, List.length_cons, List.length_nil, Nat.zero_add, Nat.add_zero, Nat.reduceAdd] at hS) | ((with_reducible refine wpList_load_st 2 hS rfl rfl rfl rfl ?_ rfl ?_); focus (simp [scalarB, go_sem]; done)) | ((with_reducible refine wpList_loadall_st 2 hS rfl rfl rfl rfl ?_ (by kernel_rfl) ?_); focus (simp [rowB, go_sem]; done)) | ((with_reducible refine wpList_store_st 2 hS rfl rfl rfl rfl (by kernel_rfl) rfl rfl ?_); intro w1 hS1; clear hS; replace hS := hS1; clear hS1; try simp only [List.set_cons_zero, List.set_cons_succ, List.setIfInBounds_toArray, List.take_succ_cons, List.take_zero, List.drop_succ_cons, List.drop_zero, List.nil_append, List.cons_append, List.append_nil, List.drop_nil, List.take_nil, List.length_cons, List.length_nil, Nat.zero_add, Nat.add_zero, Nat.reduceAdd] at hS) | ((with_reducible refine wpList_storerow_st 2 hS rfl rfl rfl rfl (by kernel_rfl) rfl rfl rfl rfl ?_); intro w1 hS1; clear hS; replace hS := hS1; clear hS1; try simp only [List.set_cons_zero, List.set_cons_succ, List.setIfInBounds_toArray, List.take_succ_cons, List.take_zero, List.drop_succ_cons, List.drop_zero, List.nil_append, List.cons_append, List.append_nil, List.drop_nil, List.take_nil, List.length_cons, List.length_nil, Nat.zero_add, Nat.add_zero, Nat.reduceAdd] at hS))
  all_goals
    obtain ⟨lb, hlb, hS1⟩ : ∃ lb : Nat, Hid (lb = lr) ∧ St w [] [Ch.row 3 1 (.slice a9 n c9) n ((nums L).map vi), Ch.blk gx 27 (.int .i64 id :: .int .i64 ver :: .int .u32 lb :: flRow noF).toArray, Ch.blk go 27 #[.int .i64 0, .int .i64 0, .int .u32 0, .int .i64 0, .int .i64 0, .string ⟨#[]⟩, .int .i64 0, .int .i64 0, .string ⟨#[]⟩, .int .i64 0, .int .i64 0, .string ⟨#[]⟩, .int .i64 0, .int .i64 0, .string ⟨#[]⟩, .int .i64 0, .int .i64 0, .string ⟨#[]⟩, .int .i64 0, .int .i64 0, .string ⟨#[]⟩, .int .i64 0, .int .i64 0, .string ⟨#[]⟩, .int .i64 0, .int .i64 0, .string ⟨#[]⟩], Ch.blk gc 27 (.int .i64 id :: .int .i64 ver :: .int .u32 lab :: flRow f).toArray] w9 := by
      first
        | exact ⟨0, Lib.hid (by rw [← hlr.out]; simp [*]), hS⟩
        | exact ⟨lab, Lib.hid (by rw [← hlr.out]; simp [*]), hS⟩
    clear hS hfl
    go_loopg [21] n (fun gk vx wr => ∃ k : Nat, k + gk = n ∧ vx = .int .i64 k ∧ St w [] [Ch.row 3 1 (.slice a9 n c9) n ((nums L).map vi), Ch.blk gx 27 (.int .i64 id :: .int .i64 ver :: .int .u32 lb :: flRow (putF f noF (L.take k))).toArray, Ch.blk go 27 #[.int .i64 0, .int .i64 0, .int .u32 0, .int .i64 0, .int .i64 0, .string ⟨#[]⟩, .int .i64 0, .int .i64 0, .string ⟨#[]⟩, .int .i64 0, .int .i64 0, .string ⟨#[]⟩, .int .i64 0, .int .i64 0, .string ⟨#[]⟩, .int .i64 0, .int .i64 0, .string ⟨#[]⟩, .int .i64 0, .int .i64 0, .string ⟨#[]⟩, .int .i64 0, .int .i64 0, .string ⟨#[]⟩, .int .i64 0, .int .i64 0, .string ⟨#[]⟩], Ch.blk gc 27 (.int .i64 id :: .int .i64 ver :: .int .u32 lab :: flRow f).toArray] wr)
    case atStart => exact ⟨0, Nat.zero_add _, rfl, hS1⟩
    case round =>
      clear hS1
      obtain ⟨k, hkn, rfl, hS⟩ := hrel
      by_cases hlt : k < n
      · have hkl : k < L.length := by omega
        obtain ⟨gr, cr, hrv, -⟩ := hS.rowat 0 rfl (by omega)
        cases hrv
        have hsl := hS.rowsl 0 rfl
        have hi8 := hbl L[k] (List.getElem_mem hkl)
        have hcl := hsl.add k (.int .i64 (L[k] : Nat)) (by simp [nums, vi, hkl])
        rw [Addr.add_lit, Nat.zero_add] at hcl
        have hnext := putF_snoc f noF (L.take k) L[k]
        rw [← List.take_succ_eq_append_getElem hkl] at hnext
        have hvf : f[L[k]]? = some (f.getD L[k] Vl.zero) := by rw [List.getD_eq_getElem?_getD, List.getElem?_eq_getElem (by omega)]; rfl
        have hpl : (putF f noF (L.take k)).length = 8 := by rw [putF_length]; rfl
        generalize L[k] = i at *
        generalize f.getD i Vl.zero = v at *
        have hld : ((.int .i64 id :: .int .i64 ver :: .int .u32 lab :: flRow f).toArray.toList.drop (3 + i * 3)).take 3 = vlRow v := fl_at [.int .i64 id, .int .i64 ver, .int .u32 lab] f i v hvf
        have hst : ((.int .i64 id :: .int .i64 ver :: .int .u32 lb :: flRow (putF f noF (L.take k))).toArray.toList.take (3 + i * 3) ++ vlRow v ++ (.int .i64 id :: .int .i64 ver :: .int .u32 lb :: flRow (putF f noF (L.take k))).toArray.toList.drop (3 + i * 3 + 3)).toArray = (.int .i64 id :: .int .i64 ver :: .int .u32 lb :: flRow (putF f noF (L.take (k + 1)))).toArray := by
          rw [hnext]
          exact congrArg List.toArray (fl_put [.int .i64 id, .int .i64 ver, .int .u32 lb] (putF f noF (L.take k)) i v (by omega))
        have hfit : Nat.ble (3 + i * 3 + 3) (Value.int .i64 id :: .int .i64 ver :: .int .u32 lb :: flRow (putF f noF (L.take k))).toArray.size = true := by
          rw [Nat.ble_eq]
          simp only [List.size_toArray, List.length_cons, flRow_length, hpl]
          omega
        replace hld := Lib.hid hld
        replace hst := Lib.hid hst
        replace hfit := Lib.hid hfit
        clear hnext hvf
        go_wp2_with (first
          | ((with_reducible refine wpList_loadrow_st 3 hS rfl rfl rfl rfl ?_ (by kernel_rfl) hld.out rfl ?_); focus (simp [rowB, go_sem]; done))
          | ((with_reducible refine wpList_storerow_st 1 (vs := vlRow v) (n := 3) hS rfl rfl rfl rfl (by kernel_rfl) rfl (vlRow_length v) (vl_one v) hfit.out ?_); intro w1 hS1; clear hS; simp only [List.set_cons_zero, List.set_cons_succ] at hS1; rw [hst.out] at hS1; have hS := hS1; clear hS1))
        go_roundg (n - (k + 1))
        case measure => omega
        case rel => exact ⟨k + 1, by omega, by go_num, hS⟩
      · obtain rfl : k = n := by omega
        rw [← hn, List.take_length] at hS
        rw [hn] at hS
        have hpl : (putF f noF L).length = 8 := by rw [putF_length]; rfl
        obtain ⟨q, hq⟩ : ∃ q, putF f noF L = q := ⟨_, rfl⟩
        rw [hq] at hS hpl
        replace hq := Lib.hid hq
        have hsz : (Value.int .i64 id :: .int .i64 ver :: .int .u32 lb :: flRow q).toArray.size = 27 := by
          simp only [List.size_toArray, List.length_cons, flRow_length, hpl]
        have hone : (Value.int .i64 id :: .int .i64 ver :: .int .u32 lb :: flRow q).all Value.oneCell' = true := by
          simp only [List.all_cons, fl_one]
          rfl
        have hlen : (Value.int .i64 id :: .int .i64 ver :: .int .u32 lb :: flRow q).length = 27 := by simpa using hsz
        have hsB : sizeB Tryd.prog 27 (Value.int .i64 id :: .int .i64 ver :: .int .u32 lb :: flRow q).toArray.size = true := by rw [hsz]; kernel_rfl
        go_wp2_with (first
          | ((with_reducible refine wpList_loadall_st 1 hS rfl rfl rfl rfl ?_ hsB ?_); focus (simp [rowB, go_sem]; done))
          | ((with_reducible refine wpList_storerow_st 2 (vs := Value.int .i64 id :: .int .i64 ver :: .int .u32 lb :: flRow q) (n := 27) hS rfl rfl rfl rfl (by kernel_rfl) rfl hlen hone rfl ?_); intro w1 hS1; clear hS; have hS := hS1; clear hS1; try simp only [List.set_cons_zero, List.set_cons_succ, List.setIfInBounds_toArray, List.take_succ_cons, List.take_zero, List.drop_succ_cons, List.drop_zero, List.nil_append, List.cons_append, List.append_nil, List.drop_nil, List.take_nil, List.length_cons, List.length_nil, Nat.zero_add, Nat.add_zero, Nat.reduceAdd] at hS))
        exact bodyPost_ret (v := .agg (Value.int .i64 id :: .int .i64 ver :: .int .u32 lb :: flRow q).toArray) (results_blk Tryd.results11 rfl hS 2 rfl (by kernel_rfl) hsB) rfl ⟨by rw [hlb.out, hq.out], hS.below⟩
end Go.Proofs.YtplgpbbghhlbjaaDoor
