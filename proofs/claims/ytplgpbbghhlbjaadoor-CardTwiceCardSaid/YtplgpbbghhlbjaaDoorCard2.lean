/- Cards: Of, Merge, Fresh. -/
import Derived.Test.YtplgpbbghhlbjaaDoorCard1
set_option linter.unusedSimpArgs false
set_option linter.unusedVariables false
namespace Go.Proofs.YtplgpbbghhlbjaaDoor
open Go.RowKit Go.Ofp
set_option linter.unusedVariables false
set_option maxRecDepth 100000
set_option maxHeartbeats 4000000

theorem foldl_put (j : Nat) : ∀ (xs : List Value) (k : Nat) (A : Array Value), j + k + xs.length ≤ A.size → (xs.zipIdx k).foldl (fun cs x => cs.setIfInBounds (j + x.2) x.1) A = (A.toList.take (j + k) ++ xs ++ A.toList.drop (j + k + xs.length)).toArray := by
  intro xs
  induction xs with
  | nil => intro k A h; simp
  | cons x xs ih =>
    intro k A h
    simp only [List.length_cons] at h
    rw [List.zipIdx_cons, List.foldl_cons, ih (k + 1) _ (by simp; omega)]
    congr 1
    simp only [Array.toList_setIfInBounds, List.length_cons]
    rw [show j + (k + 1) = j + k + 1 by omega, List.take_set, List.drop_set_of_lt (by omega), List.take_succ_eq_append_getElem (show j + k < A.toList.length by simp; omega), List.set_append_right _ _ (by simp; omega)]
    rw [show j + k - (List.take (j + k) A.toList).length = 0 by simp; omega]
    simp [show j + k + 1 + xs.length = j + k + (xs.length + 1) by omega]

theorem of_any (c : Cd) (m : Nat) (hm : m < 4294967296) (hf : c.f.length = 8) (w : World) (h0 : 0 < w.heap.size) (ht : Sl w (some ⟨0, 0, none⟩) (tzTab.map vb)) :
    Calls Tryd.prog 13 #[.agg (cdRow c).toArray, .int .u32 m] w fun e w' => e = .returned (.agg (ptRow (c.of m)).toArray) ∧ Below w.heap.size w w' := by
  have hS := St.start w
  have ec := elem_card
  have ep := elem_patch
  have cP := Lib.hid (fun (W : World) (hb : Below w.heap.size w W) => pr_any c m hm hf W (Nat.lt_of_lt_of_le h0 hb.size) (ht.below hb))
  have hpf : (c.proj m).f.length = 8 := by
    show (putF c.f noF (bitsOf m)).length = 8
    rw [putF_length]
    rfl
  have hcl : (cdRow c).length = 27 := by simp [cdRow, flRow_length, hf]
  have hsc : sizeB Tryd.prog 27 (cdRow c).toArray.size = true := by
    rw [List.size_toArray, hcl]
    kernel_rfl
  unfold Cd.of
  generalize c.proj m = x at cP hpf ⊢
  generalize cdRow c = RC at cP hcl hsc ⊢
  obtain ⟨xi, xv, xl, xf⟩ := x
  simp only [ptRow, cdRow] at hpf cP ⊢
  have hxl : (Value.int .i64 xi :: .int .i64 xv :: .int .u32 xl :: flRow xf).length = 27 := by
    simp only [List.length_cons, flRow_length, hpf]
  have hxo : (Value.int .i64 xi :: .int .i64 xv :: .int .u32 xl :: flRow xf).all Value.oneCell' = true := by
    simp only [List.all_cons, fl_one]
    rfl
  have hfl : (flRow xf).length = 24 := by rw [flRow_length, hpf]
  have hf3 : ((Value.int .i64 xi :: .int .i64 xv :: .int .u32 xl :: flRow xf).toArray.toList.drop 3).take 24 = flRow xf := List.take_of_length_le (Nat.le_of_eq hfl)
  have hb : (flRow xf).zipIdx.foldl (fun cs x => cs.setIfInBounds (2 + x.2) x.1) #[Value.int .u32 m, .int .u32 xl, .int .i64 0, .int .i64 0, .string ⟨#[]⟩, .int .i64 0, .int .i64 0, .string ⟨#[]⟩, .int .i64 0, .int .i64 0, .string ⟨#[]⟩, .int .i64 0, .int .i64 0, .string ⟨#[]⟩, .int .i64 0, .int .i64 0, .string ⟨#[]⟩, .int .i64 0, .int .i64 0, .string ⟨#[]⟩, .int .i64 0, .int .i64 0, .string ⟨#[]⟩, .int .i64 0, .int .i64 0, .string ⟨#[]⟩] = (Value.int .u32 m :: .int .u32 xl :: flRow xf).toArray := by
    rw [foldl_put 2 (flRow xf) 0 _ (by rw [hfl]; exact Nat.le_refl _), hfl]
    simp
  have hpl : (Value.int .u32 m :: .int .u32 xl :: flRow xf).length = 26 := by
    simp only [List.length_cons, flRow_length, hpf]
  have hpo : (Value.int .u32 m :: .int .u32 xl :: flRow xf).all Value.oneCell' = true := by
    simp only [List.all_cons, fl_one]
    rfl
  go_enter Tryd.func13, Tryd.ntmps13
  go_wp2_with (first
    | (go_at_call 11; (with_reducible refine (cP.out _ hS.below).mono ?_); rintro _ w9 ⟨rfl, hk9⟩; have hS1 := hS.keepB hk9; clear hk9 hS; have hS := hS1; clear hS1)
    | (with_reducible refine wpList_box_st (L := []) hS rfl rfl rfl ?_; intro gc w1 hS1; clear hS; have hS := hS1; clear hS1)
    | (with_reducible refine wpList_alloc_st (L := [_]) hS rfl rfl (by assumption) ?_; intro go w1 hS1; clear hS; have hS := hS1; clear hS1)
    | (with_reducible refine wpList_alloc_st (L := [_, _]) hS rfl rfl (by assumption) ?_; intro gx w1 hS1; clear hS; have hS := hS1; clear hS1)
    | ((with_reducible refine wpList_loadall_st (L := [_, _]) 1 hS rfl rfl rfl rfl ?_ hsc ?_); focus (simp [rowB, go_sem]; done))
    | ((with_reducible refine wpList_storerow_st 0 (vs := Value.int .i64 xi :: .int .i64 xv :: .int .u32 xl :: flRow xf) (n := 27) hS rfl rfl rfl rfl (by kernel_rfl) rfl hxl hxo rfl ?_); intro w1 hS1; clear hS; have hS := hS1; clear hS1; try simp only [List.set_cons_zero, List.set_cons_succ, List.setIfInBounds_toArray, List.take_succ_cons, List.take_zero, List.drop_succ_cons, List.drop_zero, List.nil_append, List.cons_append, List.append_nil, List.drop_nil, List.take_nil, List.length_cons, List.length_nil, Nat.zero_add, Nat.add_zero, Nat.reduceAdd] at hS)
    | ((with_reducible refine wpList_loadrow_st (n := 24) 0 hS rfl rfl rfl rfl ?_ (by kernel_rfl) hf3 hfl ?_); focus (simp [rowB, go_sem]; done))
    | ((with_reducible refine wpList_storerow_st 1 (vs := Value.int .u32 m :: .int .u32 xl :: flRow xf) (n := 26) hS rfl rfl rfl rfl (by kernel_rfl) rfl hpl hpo rfl ?_); intro w1 hS1; clear hS; have hS := hS1; clear hS1; try simp only [List.set_cons_zero, List.set_cons_succ, List.setIfInBounds_toArray, List.take_succ_cons, List.take_zero, List.drop_succ_cons, List.drop_zero, List.nil_append, List.cons_append, List.append_nil, List.drop_nil, List.take_nil, List.length_cons, List.length_nil, Nat.zero_add, Nat.add_zero, Nat.reduceAdd] at hS)
    | (with_reducible refine wpList_box_st hS rfl rfl rfl ?_; intro g1 w1 hS1; clear hS; replace hS := hS1; clear hS1) | (with_reducible refine wpList_box1_st hS rfl rfl rfl ?_; intro g1 w1 hS1; clear hS; replace hS := hS1; clear hS1) | (with_reducible refine wpList_alloc_st hS rfl rfl (by assumption) ?_; intro g1 w1 hS1; clear hS; replace hS := hS1; clear hS1) | (with_reducible refine wpList_alloc1_st hS rfl rfl (by assumption) rfl ?_; intro g1 w1 hS1; clear hS; replace hS := hS1; clear hS1) | ((with_reducible refine wpList_load_st 0 hS rfl rfl rfl rfl ?_ rfl ?_); focus (simp [scalarB, go_sem]; done)) | ((with_reducible refine wpList_loadall_st 0 hS rfl rfl rfl rfl ?_ (by kernel_rfl) ?_); focus (simp [rowB, go_sem]; done)) | ((with_reducible refine wpList_store_st 0 hS rfl rfl rfl rfl (by kernel_rfl) rfl rfl ?_); intro w1 hS1; clear hS; replace hS := hS1; clear hS1; try simp only [List.set_cons_zero, List.set_cons_succ, List.setIfInBounds_toArray, List.take_succ_cons, List.take_zero, List.drop_succ_cons, List.drop_zero, List.nil_append, List.cons_append, List.append_nil, List.drop_nil, List.take_nil, List.length_cons, List.length_nil, Nat.zero_add, Nat.add_zero, Nat.reduceAdd] at hS) | ((with_reducible refine wpList_storerow_st 0 hS rfl rfl rfl rfl (by kernel_rfl) rfl rfl rfl rfl ?_); intro w1 hS1; clear hS; replace hS := hS1; clear hS1; try simp only [List.set_cons_zero, List.set_cons_succ, List.setIfInBounds_toArray, List.take_succ_cons, List.take_zero, List.drop_succ_cons, List.drop_zero, List.nil_append, List.cons_append, List.append_nil, List.drop_nil, List.take_nil, List.length_cons, List.length_nil, Nat.zero_add, Nat.add_zero, Nat.reduceAdd] at hS))
  exact bodyPost_ret (v := .agg (Value.int .u32 m :: .int .u32 xl :: flRow xf).toArray) (results_blk Tryd.results13 rfl hS 1 rfl (by kernel_rfl) (by rw [List.size_toArray, hpl]; kernel_rfl)) rfl ⟨rfl, hS.below⟩

theorem mg_any (c : Cd) (p : Pt) (hm : p.mask < 4294967296) (hv : -9223372036854775808 ≤ c.ver) (hf : c.f.length = 8) (hg : p.f.length = 8) (w : World) (h0 : 0 < w.heap.size) (ht : Sl w (some ⟨0, 0, none⟩) (tzTab.map vb)) :
    Calls Tryd.prog 15 #[.agg (cdRow c).toArray, .agg (ptRow p).toArray] w fun e w' => e = .returned (.agg (cdRow (c.merge p)).toArray) ∧ Below w.heap.size w w' := by
  have hS := St.start w
  have ec := elem_card
  obtain ⟨m, pl, pf⟩ := p
  obtain ⟨id, ver, lab, f⟩ := c
  simp only [cdRow, ptRow, Cd.merge] at hf hg hm hv ⊢
  have cL := Lib.hid (fun W : World => labels_any m hm W)
  have cF := Lib.hid (fun (W : World) (hb : Below w.heap.size w W) => fields_any m hm W (Nat.lt_of_lt_of_le h0 hb.size) (ht.below hb))
  have hbl : ∀ i ∈ bitsOf m, i < 8 := fun i hi => by
    have := (List.mem_filter.1 hi).1
    simpa using this
  obtain ⟨L, hL⟩ : ∃ L, bitsOf m = L := ⟨_, rfl⟩
  rw [hL] at cF hbl ⊢
  obtain ⟨n, hn⟩ : ∃ n, L.length = n := ⟨_, rfl⟩
  have hnn : (nums L).length = n := by simpa [nums] using hn
  have hn8 : n ≤ 8 := by rw [← hn, ← hL]; exact bitsOf_len m
  obtain ⟨lr, hlr⟩ : ∃ lr : Nat, (if m.testBit 8 then pl else lab) = lr := ⟨_, rfl⟩
  obtain ⟨vr, hvr⟩ : ∃ vr : Int, (if ver < 1099511627776 then ver + 1 else ver) = vr := ⟨_, rfl⟩
  rw [hlr, hvr]
  replace hlr := Lib.hid hlr
  replace hvr := Lib.hid hvr
  have hv2 := Lib.hid hv
  go_enter Tryd.func15, Tryd.ntmps15
  go_wp2_with (first
    | (go_at_call 44; (with_reducible refine (cL.out _).mono ?_); rintro _ _ ⟨rfl, rfl⟩)
    | (go_at_call 45; (with_reducible refine (cF.out _ hS.below).mono ?_); rintro _ w9 ⟨a9, c9, rfl, -, -, hk9⟩; have hS1 := hS.made hk9; clear hS hk9; have hS := hS1; clear hS1; unfold irow at hS; rw [hnn] at hS; rw [hnn])
    | (with_reducible refine wpList_box_st (L := []) hS rfl rfl rfl ?_; intro gc w1 hS1; clear hS; have hS := hS1; clear hS1)
    | (with_reducible refine wpList_box_st (L := [_]) hS rfl rfl rfl ?_; intro gp w1 hS1; clear hS; have hS := hS1; clear hS1)
    | (with_reducible refine wpList_alloc_st (L := [_, _]) hS rfl rfl (by assumption) ?_; intro go w1 hS1; clear hS; have hS := hS1; clear hS1)
    | (with_reducible refine wpList_box_st hS rfl rfl rfl ?_; intro g1 w1 hS1; clear hS; replace hS := hS1; clear hS1) | (with_reducible refine wpList_box1_st hS rfl rfl rfl ?_; intro g1 w1 hS1; clear hS; replace hS := hS1; clear hS1) | (with_reducible refine wpList_alloc_st hS rfl rfl (by assumption) ?_; intro g1 w1 hS1; clear hS; replace hS := hS1; clear hS1) | (with_reducible refine wpList_alloc1_st hS rfl rfl (by assumption) rfl ?_; intro g1 w1 hS1; clear hS; replace hS := hS1; clear hS1) | ((with_reducible refine wpList_load_st 0 hS rfl rfl rfl rfl ?_ rfl ?_); focus (simp [scalarB, go_sem]; done)) | ((with_reducible refine wpList_loadall_st 0 hS rfl rfl rfl rfl ?_ (by kernel_rfl) ?_); focus (simp [rowB, go_sem]; done)) | ((with_reducible refine wpList_store_st 0 hS rfl rfl rfl rfl (by kernel_rfl) rfl rfl ?_); intro w1 hS1; clear hS; replace hS := hS1; clear hS1; try simp only [List.set_cons_zero, List.set_cons_succ, List.setIfInBounds_toArray, List.take_succ_cons, List.take_zero, List.drop_succ_cons, List.drop_zero, List.nil_append, List.cons_append, List.append_nil, List.drop_nil, List.take_nil, List.length_cons, List.length_nil, Nat.zero_add, Nat.add_zero, Nat.reduceAdd] at hS) | ((with_reducible refine wpList_storerow_st 0 hS rfl rfl rfl rfl (by kernel_rfl) rfl rfl rfl rfl ?_); intro w1 hS1; clear hS; replace hS := hS1; clear hS1; try simp only [List.set_cons_zero, List.set_cons_succ, List.setIfInBounds_toArray, List.take_succ_cons, List.take_zero, List.drop_succ_cons, List.drop_zero, List.nil_append, List.cons_append, List.append_nil, List.drop_nil, List.take_nil, List.length_cons, List.length_nil, Nat.zero_add, Nat.add_zero, Nat.reduceAdd] at hS) | ((with_reducible refine wpList_load_st 1 hS rfl rfl rfl rfl ?_ rfl ?_); focus (simp [scalarB, go_sem]; done)) | ((with_reducible refine wpList_loadall_st 1 hS rfl rfl rfl rfl ?_ (by kernel_rfl) ?_); focus (simp [rowB, go_sem]; done)) | ((with_reducible refine wpList_store_st 1 hS rfl rfl rfl rfl (by kernel_rfl) rfl rfl ?_); intro w1 hS1; clear hS; replace hS := hS1; clear hS1; try simp only [List.set_cons_zero, List.set_cons_succ, List.setIfInBounds_toArray, List.take_succ_cons, List.take_zero, List.drop_succ_cons, List.drop_zero, List.nil_append, List.cons_append, List.append_nil, List.drop_nil, List.take_nil, List.length_cons, List.length_nil, Nat.zero_add, Nat.add_zero, Nat.reduceAdd] at hS) | ((with_reducible refine wpList_storerow_st 1 hS rfl rfl rfl rfl (by kernel_rfl) rfl rfl rfl rfl ?_); intro w1 hS1; clear hS; replace hS := hS1; clear hS1; try simp only [List.set_cons_zero, List.set_cons_succ, List.setIfInBounds_toArray, List.take_succ_cons, List.take_zero, List.drop_succ_cons, List.drop_zero, List.nil_append, List.cons_append, List.append_nil, List.drop_nil, List.take_nil, List.length_cons, List.length_nil, Nat.zero_add, Nat.add_zero, Nat.reduceAdd] at hS) | ((with_reducible refine wpList_load_st 2 hS rfl rfl rfl rfl ?_ rfl ?_); focus (simp [scalarB, go_sem]; done)) | ((with_reducible refine wpList_loadall_st 2 hS rfl rfl rfl rfl ?_ (by kernel_rfl) ?_); focus (simp [rowB, go_sem]; done)) | ((with_reducible refine wpList_store_st 2 hS rfl rfl rfl rfl (by kernel_rfl) rfl rfl ?_); intro w1 hS1; clear hS; replace hS := hS1; clear hS1; try simp only [List.set_cons_zero, List.set_cons_succ, List.setIfInBounds_toArray, List.take_succ_cons, List.take_zero, List.drop_succ_cons, List.drop_zero, List.nil_append, List.cons_append, List.append_nil, List.drop_nil, List.take_nil, List.length_cons, List.length_nil, Nat.zero_add, Nat.add_zero, Nat.reduceAdd] at hS) | ((with_reducible refine wpList_storerow_st 2 hS rfl rfl rfl rfl (by kernel_rfl) rfl rfl rfl rfl ?_); intro w1 hS1; clear hS; replace hS := hS1; clear hS1; try simp only [List.set_cons_zero, List.set_cons_succ, List.setIfInBounds_toArray, List.take_succ_cons, List.take_zero, List.drop_succ_cons, List.drop_zero, List.nil_append, List.cons_append, List.append_nil, List.drop_nil, List.take_nil, List.length_cons, List.length_nil, Nat.zero_add, Nat.add_zero, Nat.reduceAdd] at hS))
  all_goals
    obtain ⟨lb, vb', hlb, hvb, hS1⟩ : ∃ (lb : Nat) (vb' : Int), Hid (lb = lr) ∧ Hid (vb' = vr) ∧ St w [] [Ch.row 3 1 (.slice a9 n c9) n ((nums L).map vi), Ch.blk go 27 #[.int .i64 0, .int .i64 0, .int .u32 0, .int .i64 0, .int .i64 0, .string ⟨#[]⟩, .int .i64 0, .int .i64 0, .string ⟨#[]⟩, .int .i64 0, .int .i64 0, .string ⟨#[]⟩, .int .i64 0, .int .i64 0, .string ⟨#[]⟩, .int .i64 0, .int .i64 0, .string ⟨#[]⟩, .int .i64 0, .int .i64 0, .string ⟨#[]⟩, .int .i64 0, .int .i64 0, .string ⟨#[]⟩, .int .i64 0, .int .i64 0, .string ⟨#[]⟩], Ch.blk gp 29 (.int .u32 m :: .int .u32 pl :: flRow pf).toArray, Ch.blk gc 27 (.int .i64 id :: .int .i64 vb' :: .int .u32 lb :: flRow f).toArray] w9 := by
      first
        | exact ⟨pl, ver + 1, Lib.hid (by rw [← hlr.out]; simp [*]), Lib.hid (by rw [← hvr.out]; simp [*]), hS⟩
        | exact ⟨pl, ver, Lib.hid (by rw [← hlr.out]; simp [*]), Lib.hid (by rw [← hvr.out]; first | (rw [if_neg (by omega)]) | simp [*]), hS⟩
        | exact ⟨lab, ver + 1, Lib.hid (by rw [← hlr.out]; simp [*]), Lib.hid (by rw [← hvr.out]; simp [*]), hS⟩
        | exact ⟨lab, ver, Lib.hid (by rw [← hlr.out]; simp [*]), Lib.hid (by rw [← hvr.out]; first | (rw [if_neg (by omega)]) | simp [*]), hS⟩
    clear hS
    go_loopg [24] n (fun gk vx wr => ∃ k : Nat, k + gk = n ∧ vx = .int .i64 k ∧ St w [] [Ch.row 3 1 (.slice a9 n c9) n ((nums L).map vi), Ch.blk go 27 #[.int .i64 0, .int .i64 0, .int .u32 0, .int .i64 0, .int .i64 0, .string ⟨#[]⟩, .int .i64 0, .int .i64 0, .string ⟨#[]⟩, .int .i64 0, .int .i64 0, .string ⟨#[]⟩, .int .i64 0, .int .i64 0, .string ⟨#[]⟩, .int .i64 0, .int .i64 0, .string ⟨#[]⟩, .int .i64 0, .int .i64 0, .string ⟨#[]⟩, .int .i64 0, .int .i64 0, .string ⟨#[]⟩, .int .i64 0, .int .i64 0, .string ⟨#[]⟩], Ch.blk gp 29 (.int .u32 m :: .int .u32 pl :: flRow pf).toArray, Ch.blk gc 27 (.int .i64 id :: .int .i64 vb' :: .int .u32 lb :: flRow (putF pf f (L.take k))).toArray] wr)
    case atStart => exact ⟨0, Nat.zero_add _, rfl, hS1⟩
    case round =>
      clear hS1
      obtain ⟨k, hkn, rfl, hS⟩ := hrel
      by_cases hlt : k < n
      · have hkl : k < L.length := by omega
        obtain ⟨gr, cr, hrv, -⟩ := hS.rowat 0 rfl (by omega)
        cases hrv
        have hsl := hS.rowsl 0 rfl
        have hi8 := hbl L[k] (List.getElem_mem hkl)
        have hcl := hsl.add k (.int .i64 (L[k] : Nat)) (by simp [nums, vi, hkl])
        rw [Addr.add_lit, Nat.zero_add] at hcl
        have hnext := putF_snoc pf f (L.take k) L[k]
        rw [← List.take_succ_eq_append_getElem hkl] at hnext
        have hvf : pf[L[k]]? = some (pf.getD L[k] Vl.zero) := by rw [List.getD_eq_getElem?_getD, List.getElem?_eq_getElem (by omega)]; rfl
        have hpl : (putF pf f (L.take k)).length = 8 := by rw [putF_length]; exact hf
        generalize L[k] = i at *
        generalize pf.getD i Vl.zero = v at *
        have hld : ((.int .u32 m :: .int .u32 pl :: flRow pf).toArray.toList.drop (2 + i * 3)).take 3 = vlRow v := fl_at [.int .u32 m, .int .u32 pl] pf i v hvf
        have hst : ((.int .i64 id :: .int .i64 vb' :: .int .u32 lb :: flRow (putF pf f (L.take k))).toArray.toList.take (3 + i * 3) ++ vlRow v ++ (.int .i64 id :: .int .i64 vb' :: .int .u32 lb :: flRow (putF pf f (L.take k))).toArray.toList.drop (3 + i * 3 + 3)).toArray = (.int .i64 id :: .int .i64 vb' :: .int .u32 lb :: flRow (putF pf f (L.take (k + 1)))).toArray := by
          rw [hnext]
          exact congrArg List.toArray (fl_put [.int .i64 id, .int .i64 vb', .int .u32 lb] (putF pf f (L.take k)) i v (by omega))
        have hfit : Nat.ble (3 + i * 3 + 3) (Value.int .i64 id :: .int .i64 vb' :: .int .u32 lb :: flRow (putF pf f (L.take k))).toArray.size = true := by
          rw [Nat.ble_eq]
          simp only [List.size_toArray, List.length_cons, flRow_length, hpl]
          omega
        replace hld := Lib.hid hld
        replace hst := Lib.hid hst
        replace hfit := Lib.hid hfit
        clear hnext hvf
        go_wp2_with (first
          | ((with_reducible refine wpList_loadrow_st 2 hS rfl rfl rfl rfl ?_ (by kernel_rfl) hld.out rfl ?_); focus (simp [rowB, go_sem]; done))
          | ((with_reducible refine wpList_storerow_st 3 (vs := vlRow v) (n := 3) hS rfl rfl rfl rfl (by kernel_rfl) rfl (vlRow_length v) (vl_one v) hfit.out ?_); intro w1 hS1; clear hS; simp only [List.set_cons_zero, List.set_cons_succ] at hS1; rw [hst.out] at hS1; have hS := hS1; clear hS1))
        go_roundg (n - (k + 1))
        case measure => omega
        case rel => exact ⟨k + 1, by omega, by go_num, hS⟩
      · obtain rfl : k = n := by omega
        rw [← hn, List.take_length] at hS
        rw [hn] at hS
        have hpl : (putF pf f L).length = 8 := by rw [putF_length]; exact hf
        obtain ⟨q, hq⟩ : ∃ q, putF pf f L = q := ⟨_, rfl⟩
        rw [hq] at hS hpl
        replace hq := Lib.hid hq
        have hsz : (Value.int .i64 id :: .int .i64 vb' :: .int .u32 lb :: flRow q).toArray.size = 27 := by
          simp only [List.size_toArray, List.length_cons, flRow_length, hpl]
        have hone : (Value.int .i64 id :: .int .i64 vb' :: .int .u32 lb :: flRow q).all Value.oneCell' = true := by
          simp only [List.all_cons, fl_one]
          rfl
        have hlen : (Value.int .i64 id :: .int .i64 vb' :: .int .u32 lb :: flRow q).length = 27 := by simpa using hsz
        have hsB : sizeB Tryd.prog 27 (Value.int .i64 id :: .int .i64 vb' :: .int .u32 lb :: flRow q).toArray.size = true := by rw [hsz]; kernel_rfl
        go_wp2_with (first
          | ((with_reducible refine wpList_loadall_st 3 hS rfl rfl rfl rfl ?_ hsB ?_); focus (simp [rowB, go_sem]; done))
          | ((with_reducible refine wpList_storerow_st 1 (vs := Value.int .i64 id :: .int .i64 vb' :: .int .u32 lb :: flRow q) (n := 27) hS rfl rfl rfl rfl (by kernel_rfl) rfl hlen hone rfl ?_); intro w1 hS1; clear hS; have hS := hS1; clear hS1; try simp only [List.set_cons_zero, List.set_cons_succ, List.setIfInBounds_toArray, List.take_succ_cons, List.take_zero, List.drop_succ_cons, List.drop_zero, List.nil_append, List.cons_append, List.append_nil, List.drop_nil, List.take_nil, List.length_cons, List.length_nil, Nat.zero_add, Nat.add_zero, Nat.reduceAdd] at hS))
        exact bodyPost_ret (v := .agg (Value.int .i64 id :: .int .i64 vb' :: .int .u32 lb :: flRow q).toArray) (results_blk Tryd.results15 rfl hS 1 rfl (by kernel_rfl) hsB) rfl ⟨by rw [hlb.out, hvb.out, hq.out], hS.below⟩

theorem fr_any (id : Int) (p : Pt) (hm : p.mask < 4294967296) (hg : p.f.length = 8) (w : World) (h0 : 0 < w.heap.size) (ht : Sl w (some ⟨0, 0, none⟩) (tzTab.map vb)) :
    Calls Tryd.prog 17 #[.int .i64 id, .agg (ptRow p).toArray] w fun e w' => e = .returned (.agg (cdRow (p.fresh id)).toArray) ∧ Below w.heap.size w w' := by
  have hS := St.start w
  have ec := elem_card
  have cM : ∀ (W : World) (hb : Below w.heap.size w W), Calls Tryd.prog 15 #[.agg #[.int .i64 id, .int .i64 0, .int .u32 0, .int .i64 0, .int .i64 0, .string ⟨#[]⟩, .int .i64 0, .int .i64 0, .string ⟨#[]⟩, .int .i64 0, .int .i64 0, .string ⟨#[]⟩, .int .i64 0, .int .i64 0, .string ⟨#[]⟩, .int .i64 0, .int .i64 0, .string ⟨#[]⟩, .int .i64 0, .int .i64 0, .string ⟨#[]⟩, .int .i64 0, .int .i64 0, .string ⟨#[]⟩, .int .i64 0, .int .i64 0, .string ⟨#[]⟩], .agg (ptRow p).toArray] W fun e w' => e = .returned (.agg (cdRow (p.fresh id)).toArray) ∧ Below W.heap.size W w' :=
    fun W hb => mg_any (Cd.none id) p hm (by simp [Cd.none]) rfl hg W (Nat.lt_of_lt_of_le h0 hb.size) (ht.below hb)
  replace cM := Lib.hid cM
  have hpf : (p.fresh id).f.length = 8 := by
    show (putF p.f noF (bitsOf p.mask)).length = 8
    rw [putF_length]
    rfl
  have hcl : (ptRow p).length = 26 := by simp [ptRow, flRow_length, hg]
  have hsc : sizeB Tryd.prog 29 (ptRow p).toArray.size = true := by
    rw [List.size_toArray, hcl]
    kernel_rfl
  have hrl : (cdRow (p.fresh id)).length = 27 := by simp [cdRow, flRow_length, hpf]
  have hro : (cdRow (p.fresh id)).all Value.oneCell' = true := by
    simp only [cdRow, List.all_cons, fl_one]
    rfl
  generalize cdRow (p.fresh id) = RX at cM hrl hro ⊢
  generalize ptRow p = RP at cM hcl hsc ⊢
  go_enter Tryd.func17, Tryd.ntmps17
  go_wp2_with (first
    | (go_at_call 15; (with_reducible refine (cM.out _ hS.below).mono ?_); rintro _ w9 ⟨rfl, hk9⟩; have hS1 := hS.keepB hk9; clear hk9 hS; have hS := hS1; clear hS1)
    | (with_reducible refine wpList_box_st (L := []) hS rfl rfl rfl ?_; intro gc w1 hS1; clear hS; have hS := hS1; clear hS1)
    | (with_reducible refine wpList_alloc_st (L := [_]) hS rfl rfl (by assumption) ?_; intro go w1 hS1; clear hS; have hS := hS1; clear hS1)
    | ((with_reducible refine wpList_loadall_st (L := [_, _]) 1 hS rfl rfl rfl rfl ?_ hsc ?_); focus (simp [rowB, go_sem]; done))
    | ((with_reducible refine wpList_storerow_st 0 (vs := RX) (n := 27) hS rfl rfl rfl rfl (by kernel_rfl) rfl hrl hro rfl ?_); intro w1 hS1; clear hS; have hS := hS1; clear hS1; try simp only [List.set_cons_zero, List.set_cons_succ, List.setIfInBounds_toArray, List.take_succ_cons, List.take_zero, List.drop_succ_cons, List.drop_zero, List.nil_append, List.cons_append, List.append_nil, List.drop_nil, List.take_nil, List.length_cons, List.length_nil, Nat.zero_add, Nat.add_zero, Nat.reduceAdd] at hS))
  exact bodyPost_ret (v := .agg RX.toArray) (results_blk Tryd.results17 rfl hS 0 rfl (by kernel_rfl) (by rw [List.size_toArray, hrl]; kernel_rfl)) rfl ⟨rfl, hS.below⟩
end Go.Proofs.YtplgpbbghhlbjaaDoor
