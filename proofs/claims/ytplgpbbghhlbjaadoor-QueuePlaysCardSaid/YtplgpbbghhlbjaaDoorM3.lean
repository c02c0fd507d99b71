/- Texts laid together: Card1 Card2 Bits CardRef CardRef2 CardEq. -/
import Derived.Laws.BitsAllLaws
import Derived.Laws.StructEq
import Derived.ChangeKeysEq
import Derived.Test.YtplgpbbghhlbjaaDoorM1
import Derived.Test.YtplgpbbghhlbjaaDoorM2
section
/- Cards: Project, Of, Merge, Fresh. -/
set_option linter.unusedSimpArgs false
set_option linter.unusedVariables false
namespace Go.Proofs.YtplgpbbghhlbjaaDoor
open Go.RowKit Go.Ofp
set_option linter.unusedVariables false
set_option maxRecDepth 100000
set_option maxHeartbeats 4000000

theorem elem_card : Elem Tryd.prog 27 (.agg #[.int .i64 0, .int .i64 0, .int .u32 0, .int .i64 0, .int .i64 0, .string ⟨#[]⟩, .int .i64 0, .int .i64 0, .string ⟨#[]⟩, .int .i64 0, .int .i64 0, .string ⟨#[]⟩, .int .i64 0, .int .i64 0, .string ⟨#[]⟩, .int .i64 0, .int .i64 0, .string ⟨#[]⟩, .int .i64 0, .int .i64 0, .string ⟨#[]⟩, .int .i64 0, .int .i64 0, .string ⟨#[]⟩, .int .i64 0, .int .i64 0, .string ⟨#[]⟩]) 27 280 := Elem.mk (by kernel_rfl) (by rfl) (by decide)
theorem lab_bit (m : Nat) (hm : m < 4294967296) : (bits .and .u32 (m : Int) 256 != 0) = m.testBit 8 := by
  rw [show (256 : Int) = ((2 ^ 8 : Nat) : Int) by rfl, u32_and_nat m (2 ^ 8) hm (by decide), Bool.eq_iff_iff, bne_iff_ne]
  constructor
  · intro h
    obtain ⟨i, hi⟩ := Nat.exists_testBit_of_ne_zero (show m &&& 2 ^ 8 ≠ 0 by omega)
    rw [Nat.testBit_and, Nat.testBit_two_pow, Bool.and_eq_true, decide_eq_true_eq] at hi
    rw [hi.2]
    exact hi.1
  · intro h e
    have e' : m &&& 2 ^ 8 = 0 := by omega
    have := congrArg (fun x => Nat.testBit x 8) e'
    simp only [Nat.testBit_and, Nat.testBit_two_pow, h, Nat.zero_testBit] at this
    cases this
theorem labels_any (m : Nat) (hm : m < 4294967296) (w : World) : Calls Tryd.prog 44 #[.int .u32 m] w fun e w' => e = .returned (.bool (m.testBit 8)) ∧ w = w' := by
  have h := lab_bit m hm
  replace h := Lib.hid h
  go_enter Tryd.func44, Tryd.ntmps44
  go_wp2_with fail
  go_ret
  exact ⟨by first | rfl | (rw [← h.out]; rfl), rfl⟩
end Go.Proofs.YtplgpbbghhlbjaaDoor
end

section
/- Cards: Of, Merge, Fresh. -/
set_option linter.unusedSimpArgs false
set_option linter.unusedVariables false
namespace Go.Proofs.YtplgpbbghhlbjaaDoor
open Go.RowKit Go.Ofp
set_option linter.unusedVariables false
set_option maxRecDepth 100000
set_option maxHeartbeats 4000000

theorem foldl_put (j : Nat) : ∀ (xs : List Value) (k : Nat) (A : Array Value), j + k + xs.length ≤ A.size → (xs.zipIdx k).foldl (fun cs x => cs.setIfInBounds (j + x.2) x.1) A = (A.toList.take (j + k) ++ xs ++ A.toList.drop (j + k + xs.length)).toArray := by
  intro xs
  induction xs with
  | nil => intro k A h; simp
  | cons x xs ih =>
    intro k A h
    simp only [List.length_cons] at h
    rw [List.zipIdx_cons, List.foldl_cons, ih (k + 1) _ (by simp; omega)]
    congr 1
    simp only [Array.toList_setIfInBounds, List.length_cons]
    rw [show j + (k + 1) = j + k + 1 by omega, List.take_set, List.drop_set_of_lt (by omega), List.take_succ_eq_append_getElem (show j + k < A.toList.length by simp; omega), List.set_append_right _ _ (by simp; omega)]
    rw [show j + k - (List.take (j + k) A.toList).length = 0 by simp; omega]
    simp [show j + k + 1 + xs.length = j + k + (xs.length + 1) by omega]

theorem mg_any (c : Cd) (p : Pt) (hm : p.mask < 4294967296) (hv : -9223372036854775808 ≤ c.ver) (hf : c.f.length = 8) (hg : p.f.length = 8) (w : World) (h0 : 0 < w.heap.size) (ht : Sl w (some ⟨0, 0, none⟩) (tzTab.map vb)) :
    Calls Tryd.prog 15 #[.agg (cdRow c).toArray, .agg (ptRow p).toArray] w fun e w' => e = .returned (.agg (cdRow (c.merge p)).toArray) ∧ Below w.heap.size w w' := by
  have hS := St.start w
  have ec := elem_card
  obtain ⟨m, pl, pf⟩ := p
  obtain ⟨id, ver, lab, f⟩ := c
  simp only [cdRow, ptRow, Cd.merge] at hf hg hm hv ⊢
  have cL := Lib.hid (fun W : World => labels_any m hm W)
  have cF := Lib.hid (fun (W : World) (hb : Below w.heap.size w W) => fields_any m hm W (Nat.lt_of_lt_of_le h0 hb.size) (ht.below hb))
  have hbl : ∀ i ∈ bitsOf m, i < 8 := fun i hi => by
    have := (List.mem_filter.1 hi).1
    simpa using this
  obtain ⟨L, hL⟩ : ∃ L, bitsOf m = L := ⟨_, rfl⟩
  rw [hL] at cF hbl ⊢
  obtain ⟨n, hn⟩ : ∃ n, L.length = n := ⟨_, rfl⟩
  have hnn : (nums L).length = n := by simpa [nums] using hn
  have hn8 : n ≤ 8 := by rw [← hn, ← hL]; exact bitsOf_len m
  obtain ⟨lr, hlr⟩ : ∃ lr : Nat, (if m.testBit 8 then pl else lab) = lr := ⟨_, rfl⟩
  obtain ⟨vr, hvr⟩ : ∃ vr : Int, (if ver < 1099511627776 then ver + 1 else ver) = vr := ⟨_, rfl⟩
  rw [hlr, hvr]
  replace hlr := Lib.hid hlr
  replace hvr := Lib.hid hvr
  have hv2 := Lib.hid hv
  go_enter Tryd.func15, Tryd.ntmps15
  go_wp2_with (first
    | (go_at_call 44; (with_reducible refine (cL.out _).mono ?_); rintro _ _ ⟨rfl, rfl⟩)
    | (go_at_call 45; (with_reducible refine (cF.out _ hS.below).mono ?_); rintro _ w9 ⟨a9, c9, rfl, -, -, hk9⟩; have hS1 := hS.made hk9; clear hS hk9; have hS := hS1; clear hS1; unfold irow at hS; rw [hnn] at hS; rw [hnn])
    | (with_reducible refine wpList_box_st (L := []) hS rfl rfl rfl ?_; intro gc w1 hS1; clear hS; have hS := hS1; clear hS1)
    | (with_reducible refine wpList_box_st (L := [_]) hS rfl rfl rfl ?_; intro gp w1 hS1; clear hS; have hS := hS1; clear hS1)
    | (with_reducible refine wpList_alloc_st (L := [_, _]) hS rfl rfl (by assumption) ?_; intro go w1 hS1; clear hS; have hS := hS1; clear hS1)
    | (with_reducible refine wpList_box_st hS rfl rfl rfl ?_; intro g1 w1 hS1; clear hS; replace hS := hS1; clear hS1) | (with_reducible refine wpList_box1_st hS rfl rfl rfl ?_; intro g1 w1 hS1; clear hS; replace hS := hS1; clear hS1) | (with_reducible refine wpList_alloc_st hS rfl rfl (by assumption) ?_; intro g1 w1 hS1; clear hS; replace hS := hS1; clear hS1) | (with_reducible refine wpList_alloc1_st hS rfl rfl (by assumption) rfl ?_; intro g1 w1 hS1; clear hS; replace hS := hS1; clear hS1) | ((with_reducible refine wpList_load_st 0 hS rfl rfl rfl rfl ?_ rfl ?_); focus (simp [scalarB, go_sem]; done)) | ((with_reducible refine wpList_loadall_st 0 hS rfl rfl rfl rfl ?_ (by kernel_rfl) ?_); focus (simp [rowB, go_sem]; done)) | ((with_reducible refine wpList_store_st 0 hS rfl rfl rfl rfl (by kernel_rfl) rfl rfl ?_); intro w1 hS1; clear hS; replace hS := hS1; clear hS1; try simp only [List.set_cons_zero, List.set_cons_succ, List.setIfInBounds_toArray, List.take_succ_cons, List.take_zero, List.drop_succ_cons, List.drop_zero, List.nil_append, List.cons_append, List.append_nil, List.drop_nil, List.take_nil, List.length_cons, List.length_nil, Nat.zero_add, Nat.add_zero, Nat.reduceAdd] at hS) | ((with_reducible refine wpList_storerow_st 0 hS rfl rfl rfl rfl (by kernel_rfl) rfl rfl rfl rfl ?_); intro w1 hS1; clear hS; replace hS := hS1; clear hS1; try simp only [List.set_cons_zero, List.set_cons_succ, List.setIfInBounds_toArray, List.take_succ_cons, List.take_zero, List.drop_succ_cons, List.drop_zero, List.nil_append, List.cons_append, List.append_nil, List.drop_nil, List.take_nil, List.length_cons, List.length_nil, Nat.zero_add, Nat.add_zero, Nat.reduceAdd] at hS) | ((with_reducible refine wpList_load_st 1 hS rfl rfl rfl rfl ?_ rfl ?_); focus (simp [scalarB, go_sem]; done)) | ((with_reducible refine wpList_loadall_st 1 hS rfl rfl rfl rfl ?_ (by kernel_rfl) ?_); focus (simp [rowB, go_sem]; done)) | ((with_reducible refine wpList_store_st 1 hS rfl rfl rfl rfl (by kernel_rfl) rfl rfl ?_); intro w1 hS1; clear hS; replace hS := hS1; clear hS1; try simp only [List.set_cons_zero, List.set_cons_succ, List.setIfInBounds_toArray, List.take_succ_cons, List.take_zero, List.drop_succ_cons, List.drop_zero, List.nil_append, List.cons_append, List.append_nil, List.drop_nil, List.take_nil, List.length_cons, List.length_nil, Nat.zero_add, Nat.add_zero, Nat.reduceAdd] at hS) | ((with_reducible refine wpList_storerow_st 1 hS rfl rfl rfl rfl (by kernel_rfl) rfl rfl rfl rfl ?_); intro w1 hS1; clear hS; replace hS := hS1; clear hS1; try simp only [List.set_cons_zero, List.set_cons_succ, List.setIfInBounds_toArray, List.take_succ_cons, List.take_zero, List.drop_succ_cons, List.drop_zero, List.nil_append, List.cons_append, List.append_nil, List.drop_nil, List.take_nil, List.length_cons, List.length_nil, Nat.zero_add, Nat.add_zero, Nat.reduceAdd] at hS) | ((with_reducible refine wpList_load_st 2 hS rfl rfl rfl rfl ?_ rfl ?_); focus (simp [scalarB, go_sem]; done)) | ((with_reducible refine wpList_loadall_st 2 hS rfl rfl rfl rfl ?_ (by kernel_rfl) ?_); focus (simp [rowB, go_sem]; done)) | ((with_reducible refine wpList_store_st 2 hS rfl rfl rfl rfl (by kernel_rfl) rfl rfl ?_); intro w1 hS1; clear hS; replace hS := hS1; clear hS1; try simp only [List.set_cons_zero, List.set_cons_succ, List.setIfInBounds_toArray, List.take_succ_cons, List.take_zero, List.drop_succ_cons, List.drop_zero, List.nil_append, List.cons_append, List.append_nil, List.drop_nil, List.take_nil, List.length_cons, List.length_nil, Nat.zero_add, Nat.add_zero, Nat.reduceAdd] at hS) | ((with_reducible refine wpList_storerow_st 2 hS rfl rfl rfl rfl (by kernel_rfl) rfl rfl rfl rfl ?_); intro w1 hS1; clear hS; replace hS := hS1; clear hS1; try simp only [List.set_cons_zero, List.set_cons_succ, List.setIfInBounds_toArray, List.take_succ_cons, List.take_zero, List.drop_succ_cons, List.drop_zero, List.nil_append, List.cons_append, List.append_nil, List.drop_nil, List.take_nil, List.length_cons, List.length_nil, Nat.zero_add, Nat.add_zero, Nat.reduceAdd] at hS))
  all_goals
    obtain ⟨lb, vb', hlb, hvb, hS1⟩ : ∃ (lb : Nat) (vb' : Int), Hid (lb = lr) ∧ Hid (vb' = vr) ∧ St w [] [Ch.row 3 1 (.slice a9 n c9) n ((nums L).map vi), Ch.blk go 27 #[.int .i64 0, .int .i64 0, .int .u32 0, .int .i64 0, .int .i64 0, .string ⟨#[]⟩, .int .i64 0, .int .i64 0, .string ⟨#[]⟩, .int .i64 0, .int .i64 0, .string ⟨#[]⟩, .int .i64 0, .int .i64 0, .string ⟨#[]⟩, .int .i64 0, .int .i64 0, .string ⟨#[]⟩, .int .i64 0, .int .i64 0, .string ⟨#[]⟩, .int .i64 0, .int .i64 0, .string ⟨#[]⟩, .int .i64 0, .int .i64 0, .string ⟨#[]⟩], Ch.blk gp 29 (.int .u32 m :: .int .u32 pl :: flRow pf).toArray, Ch.blk gc 27 (.int .i64 id :: .int .i64 vb' :: .int .u32 lb :: flRow f).toArray] w9 := by
      first
        | exact ⟨pl, ver + 1, Lib.hid (by rw [← hlr.out]; simp [*]), Lib.hid (by rw [← hvr.out]; simp [*]), hS⟩
        | exact ⟨pl, ver, Lib.hid (by rw [← hlr.out]; simp [*]), Lib.hid (by rw [← hvr.out]; first | (rw [if_neg (by omega)]) | simp [*]), hS⟩
        | exact ⟨lab, ver + 1, Lib.hid (by rw [← hlr.out]; simp [*]), Lib.hid (by rw [← hvr.out]; simp [*]), hS⟩
        | exact ⟨lab, ver, Lib.hid (by rw [← hlr.out]; simp [*]), Lib.hid (by rw [← hvr.out]; first | (rw [if_neg (by omega)]) | simp [*]), hS⟩
    clear hS
    go_loopg [24] n (fun gk vx wr => ∃ k : Nat, k + gk = n ∧ vx = .int .i64 k ∧ St w [] [Ch.row 3 1 (.slice a9 n c9) n ((nums L).map vi), Ch.blk go 27 #[.int .i64 0, .int .i64 0, .int .u32 0, .int .i64 0, .int .i64 0, .string ⟨#[]⟩, .int .i64 0, .int .i64 0, .string ⟨#[]⟩, .int .i64 0, .int .i64 0, .string ⟨#[]⟩, .int .i64 0, .int .i64 0, .string ⟨#[]⟩, .int .i64 0, .int .i64 0, .string ⟨#[]⟩, .int .i64 0, .int .i64 0, .string ⟨#[]⟩, .int .i64 0, .int .i64 0, .string ⟨#[]⟩, .int .i64 0, .int .i64 0, .string ⟨#[]⟩], Ch.blk gp 29 (.int .u32 m :: .int .u32 pl :: flRow pf).toArray, Ch.blk gc 27 (.int .i64 id :: .int .i64 vb' :: .int .u32 lb :: flRow (putF pf f (L.take k))).toArray] wr)
    case atStart => exact ⟨0, Nat.zero_add _, rfl, hS1⟩
    case round =>
      clear hS1
      obtain ⟨k, hkn, rfl, hS⟩ := hrel
      by_cases hlt : k < n
      · have hkl : k < L.length := by omega
        obtain ⟨gr, cr, hrv, -⟩ := hS.rowat 0 rfl (by omega)
        cases hrv
        have hsl := hS.rowsl 0 rfl
        have hi8 := hbl L[k] (List.getElem_mem hkl)
        have hcl := hsl.add k (.int .i64 (L[k] : Nat)) (by simp [nums, vi, hkl])
        rw [Addr.add_lit, Nat.zero_add] at hcl
        have hnext := putF_snoc pf f (L.take k) L[k]
        rw [← List.take_succ_eq_append_getElem hkl] at hnext
        have hvf : pf[L[k]]? = some (pf.getD L[k] Vl.zero) := by rw [List.getD_eq_getElem?_getD, List.getElem?_eq_getElem (by omega)]; rfl
        have hpl : (putF pf f (L.take k)).length = 8 := by rw [putF_length]; exact hf
        generalize L[k] = i at *
        generalize pf.getD i Vl.zero = v at *
        have hld : ((.int .u32 m :: .int .u32 pl :: flRow pf).toArray.toList.drop (2 + i * 3)).take 3 = vlRow v := fl_at [.int .u32 m, .int .u32 pl] pf i v hvf
        have hst : ((.int .i64 id :: .int .i64 vb' :: .int .u32 lb :: flRow (putF pf f (L.take k))).toArray.toList.take (3 + i * 3) ++ vlRow v ++ (.int .i64 id :: .int .i64 vb' :: .int .u32 lb :: flRow (putF pf f (L.take k))).toArray.toList.drop (3 + i * 3 + 3)).toArray = (.int .i64 id :: .int .i64 vb' :: .int .u32 lb :: flRow (putF pf f (L.take (k + 1)))).toArray := by
          rw [hnext]
          exact congrArg List.toArray (fl_put [.int .i64 id, .int .i64 vb', .int .u32 lb] (putF pf f (L.take k)) i v (by omega))
        have hfit : Nat.ble (3 + i * 3 + 3) (Value.int .i64 id :: .int .i64 vb' :: .int .u32 lb :: flRow (putF pf f (L.take k))).toArray.size = true := by
          rw [Nat.ble_eq]
          simp only [List.size_toArray, List.length_cons, flRow_length, hpl]
          omega
        replace hld := Lib.hid hld
        replace hst := Lib.hid hst
        replace hfit := Lib.hid hfit
        clear hnext hvf
        go_wp2_with (first
          | ((with_reducible refine wpList_loadrow_st 2 hS rfl rfl rfl rfl ?_ (by kernel_rfl) hld.out rfl ?_); focus (simp [rowB, go_sem]; done))
          | ((with_reducible refine wpList_storerow_st 3 (vs := vlRow v) (n := 3) hS rfl rfl rfl rfl (by kernel_rfl) rfl (vlRow_length v) (vl_one v) hfit.out ?_); intro w1 hS1; clear hS; simp only [List.set_cons_zero, List.set_cons_succ] at hS1; rw [hst.out] at hS1; have hS := hS1; clear hS1))
        go_roundg (n - (k + 1))
        case measure => omega
        case rel => exact ⟨k + 1, by omega, by go_num, hS⟩
      · obtain rfl : k = n := by omega
        rw [← hn, List.take_length] at hS
        rw [hn] at hS
        have hpl : (putF pf f L).length = 8 := by rw [putF_length]; exact hf
        obtain ⟨q, hq⟩ : ∃ q, putF pf f L = q := ⟨_, rfl⟩
        rw [hq] at hS hpl
        replace hq := Lib.hid hq
        have hsz : (Value.int .i64 id :: .int .i64 vb' :: .int .u32 lb :: flRow q).toArray.size = 27 := by
          simp only [List.size_toArray, List.length_cons, flRow_length, hpl]
        have hone : (Value.int .i64 id :: .int .i64 vb' :: .int .u32 lb :: flRow q).all Value.oneCell' = true := by
          simp only [List.all_cons, fl_one]
          rfl
        have hlen : (Value.int .i64 id :: .int .i64 vb' :: .int .u32 lb :: flRow q).length = 27 := by simpa using hsz
        have hsB : sizeB Tryd.prog 27 (Value.int .i64 id :: .int .i64 vb' :: .int .u32 lb :: flRow q).toArray.size = true := by rw [hsz]; kernel_rfl
        go_wp2_with (first
          | ((with_reducible refine wpList_loadall_st 3 hS rfl rfl rfl rfl ?_ hsB ?_); focus (simp [rowB, go_sem]; done))
          | ((with_reducible refine wpList_storerow_st 1 (vs := Value.int .i64 id :: .int .i64 vb' :: .int .u32 lb :: flRow q) (n := 27) hS rfl rfl rfl rfl (by kernel_rfl) rfl hlen hone rfl ?_); intro w1 hS1; clear hS; have hS := hS1; clear hS1; try simp only [List.set_cons_zero, List.set_cons_succ, List.setIfInBounds_toArray, List.take_succ_cons, List.take_zero, List.drop_succ_cons, List.drop_zero, List.nil_append, List.cons_append, List.append_nil, List.drop_nil, List.take_nil, List.length_cons, List.length_nil, Nat.zero_add, Nat.add_zero, Nat.reduceAdd] at hS))
        exact bodyPost_ret (v := .agg (Value.int .i64 id :: .int .i64 vb' :: .int .u32 lb :: flRow q).toArray) (results_blk Tryd.results15 rfl hS 1 rfl (by kernel_rfl) hsB) rfl ⟨by rw [hlb.out, hvb.out, hq.out], hS.below⟩

end Go.Proofs.YtplgpbbghhlbjaaDoor
end

section
/- Sets of small numbers as bits. -/
set_option linter.unusedSimpArgs false
set_option linter.unusedVariables false
namespace Go.Ofp
end Go.Ofp
namespace Go.Proofs.YtplgpbbghhlbjaaDoor
open Go.RowKit Go.Ofp
set_option linter.unusedVariables false
set_option maxRecDepth 100000
set_option maxHeartbeats 4000000
theorem rhasb_any (s n : Nat) (w : World) (h : n < 32) (hs : s < 4294967296) : Calls Tryd.prog 20 #[.int .u32 s, .int .i64 n] w fun e w' => e = .returned (.bool (s.testBit n)) ∧ w = w' := by
  have d1 : decide ((n : Int) < 0) = false := decide_eq_false (by omega)
  have d2 : decide ((31 : Int) < (n : Int)) = false := decide_eq_false (by omega)
  go_enter Tryd.func20, Tryd.ntmps20
  go_wp2_with fail
  clear d1 d2
  go_loopg [0, 5] n (fun gk vs vx wr => ∃ k q : Nat, k + gk = n ∧ vx = .int .i64 k ∧ vs = .int .u32 q ∧ q < 4294967296 ∧ Hid (q = s / 2 ^ k) ∧ w = wr)
  case atStart => exact ⟨0, s, Nat.zero_add _, rfl, rfl, hs, Lib.hid (by simp), rfl⟩
  case round =>
    obtain ⟨k, q, hk, rfl, rfl, hq, hr, rfl⟩ := hrel
    by_cases hlt : k < n
    · go_wp2_with fail
      go_roundg (n - (k + 1))
      case measure => omega
      case rel => exact ⟨k + 1, q / 2, by omega, by go_num, rfl, by omega, Lib.hid (by rw [hr.out, Nat.pow_succ, Nat.div_div_eq_div_mul]), rfl⟩
    · obtain rfl : k = n := by omega
      have e : s.testBit k = decide (q % 2 = 1) := by rw [hr.out, Nat.testBit_eq_decide_div_mod_eq]
      clear hr
      rcases Nat.mod_two_eq_zero_or_one q with h2 | h2
      · have h3 : (q : Int) % 2 = 0 := by omega
        rw [h2] at e
        replace e := Lib.hid e
        clear h2
        go_wp2_with fail
        go_ret
        exact ⟨by rw [e.out]; rfl, rfl⟩
      · have h3 : (q : Int) % 2 = 1 := by omega
        rw [h2] at e
        replace e := Lib.hid e
        clear h2
        go_wp2_with fail
        go_ret
        exact ⟨by rw [e.out]; rfl, rfl⟩

end Go.Proofs.YtplgpbbghhlbjaaDoor
end

section
/- Cards: the document's answer: Project, Of, Merge, Fresh. -/
set_option linter.unusedSimpArgs false
set_option linter.unusedVariables false
namespace Go.Proofs.YtplgpbbghhlbjaaDoor
open Go.RowKit Go.Ofp
set_option linter.unusedVariables false
set_option maxRecDepth 100000
set_option maxHeartbeats 4000000

theorem rlabels_any (m : Nat) (hm : m < 4294967296) (w : World) : Calls Tryd.prog 21 #[.int .u32 m] w fun e w' => e = .returned (.bool (m.testBit 8)) ∧ w = w' := by
  have cH : ∀ W : World, Calls Tryd.prog 20 #[.int .u32 m, .int .i64 8] W fun e w' => e = .returned (.bool (m.testBit 8)) ∧ W = w' := fun W => rhasb_any m 8 W (by decide) hm
  replace cH := Lib.hid cH
  go_enter Tryd.func21, Tryd.ntmps21
  go_wp2_with (go_at_call 20; (with_reducible refine (cH.out _).mono ?_); rintro _ _ ⟨rfl, rfl⟩)
  go_ret
  exact ⟨rfl, rfl⟩
theorem rmcheck_any (m : Nat) (w : World) : Calls Tryd.prog 9 #[.int .u32 m] w fun e w' => e = .returned (.bool (decide (m ≤ 511))) ∧ w = w' := by
  have h : decide ((m : Int) ≤ 511) = decide (m ≤ 511) := by
    by_cases h : m ≤ 511
    · rw [decide_eq_true h, decide_eq_true (by omega)]
    · rw [decide_eq_false h, decide_eq_false (by omega)]
  go_enter Tryd.func9, Tryd.ntmps9
  go_wp2_with fail
  go_ret
  exact ⟨by first | rfl | rw [← h]; rfl, rfl⟩
/-- The first k of a mask's fields. -/
def bitsTo (m k : Nat) : List Nat := (List.range k).filter fun i => m.testBit i
theorem bitsTo_next (m k : Nat) : bitsTo m (k + 1) = if m.testBit k then bitsTo m k ++ [k] else bitsTo m k := by
  unfold bitsTo
  rw [List.range_succ, List.filter_append]
  by_cases h : m.testBit k <;> simp [h]
end Go.Proofs.YtplgpbbghhlbjaaDoor
end

section
/- Cards: the document's answer: Merge, Fresh. -/
set_option linter.unusedSimpArgs false
set_option linter.unusedVariables false
namespace Go.Proofs.YtplgpbbghhlbjaaDoor
open Go.RowKit Go.Ofp
set_option linter.unusedVariables false
set_option maxRecDepth 100000
set_option maxHeartbeats 4000000

theorem rmg_any (c : Cd) (p : Pt) (hm : p.mask < 4294967296) (hv : 0 ≤ c.ver ∧ c.ver ≤ 1099511627776) (hf : c.f.length = 8) (hg : p.f.length = 8) (w : World) :
    Calls Tryd.prog 16 #[.agg (cdRow c).toArray, .agg (ptRow p).toArray] w fun e w' => e = .returned (.agg (cdRow (c.merge p)).toArray) ∧ Below w.heap.size w w' := by
  have hS := St.start w
  have ec := elem_card
  obtain ⟨m, pl, pf⟩ := p
  have cL := (fun W : World => rlabels_any m hm W)
  have cH := Lib.hid (fun (i : Nat) (hi : i < 8) (W : World) => rhasb_any m i W (by omega) hm)
  have hcl : (cdRow c).length = 27 := by simp [cdRow, flRow_length, hf]
  have hsc : sizeB Tryd.prog 27 (cdRow c).toArray.size = true := by
    rw [List.size_toArray, hcl]
    kernel_rfl
  have hco : (cdRow c).all Value.oneCell' = true := by
    simp only [cdRow, List.all_cons, fl_one]
    rfl
  obtain ⟨id, ver, lab, f⟩ := c
  simp only [cdRow, ptRow, Cd.merge] at hf hg hv hcl hsc hco ⊢
  rw [show bitsOf m = bitsTo m 8 from rfl]
  obtain ⟨lr, hlr⟩ : ∃ lr : Nat, (if m.testBit 8 then pl else lab) = lr := ⟨_, rfl⟩
  obtain ⟨vr, hvr⟩ : ∃ vr : Int, (if ver < 1099511627776 then ver + 1 else ver) = vr := ⟨_, rfl⟩
  have hvm : (if (1099511627775 : Int) < ver then (1099511627775 : Int) else ver) + 1 = vr := by
    rw [← hvr]
    by_cases h : ver < 1099511627776
    · rw [if_pos h, if_neg (by omega)]
    · rw [if_neg h, if_pos (by omega)]
      omega
  have hvb : -9223372036854775808 ≤ vr ∧ vr ≤ 9223372036854775807 := by
    rw [← hvr]
    split <;> omega
  rw [hlr, hvr]
  replace hlr := Lib.hid hlr
  obtain ⟨vm, hvm2⟩ : ∃ vm : Int, (if (1099511627775 : Int) < ver then (1099511627775 : Int) else ver) = vm := ⟨_, rfl⟩
  rw [hvm2] at hvm
  clear hvr
  have hv2 := Lib.hid hv
  have hvb2 := Lib.hid hvb
  cases h8 : m.testBit 8
  all_goals
    have hl8 := hlr.out
    rw [h8] at cL hl8
    replace hl8 := Lib.hid hl8
    replace cL := Lib.hid cL
    clear h8 hlr
    go_enter Tryd.func16, Tryd.ntmps16
    go_wp2_with (first
      | (go_at_call 21; (with_reducible refine (cL.out _).mono ?_); rintro _ _ ⟨rfl, rfl⟩)
      | (with_reducible refine wpList_box_st (L := []) hS rfl rfl rfl ?_; intro gc w1 hS1; clear hS; have hS := hS1; clear hS1)
      | (with_reducible refine wpList_box_st (L := [_]) hS rfl rfl rfl ?_; intro gp w1 hS1; clear hS; have hS := hS1; clear hS1)
      | (with_reducible refine wpList_alloc_st (L := [_, _]) hS rfl rfl (by assumption) ?_; intro go w1 hS1; clear hS; have hS := hS1; clear hS1)
      | (with_reducible refine wpList_alloc_st (L := [_, _, _]) hS rfl rfl (by assumption) ?_; intro gx w1 hS1; clear hS; have hS := hS1; clear hS1)
      | ((with_reducible refine wpList_loadall_st (L := [_, _, _]) 2 hS rfl rfl rfl rfl ?_ hsc ?_); focus (simp [rowB, go_sem]; done))
      | ((with_reducible refine wpList_storerow_st (L := [_, _, _, _]) 0 (vs := .int .i64 id :: .int .i64 ver :: .int .u32 lab :: flRow f) (n := 27) hS rfl rfl rfl rfl (by kernel_rfl) rfl hcl hco rfl ?_); intro w1 hS1; clear hS; have hS := hS1; clear hS1; try simp only [List.set_cons_zero, List.set_cons_succ, List.setIfInBounds_toArray, List.take_succ_cons, List.take_zero, List.drop_succ_cons, List.drop_zero, List.nil_append, List.cons_append, List.append_nil, List.drop_nil, List.take_nil, List.length_cons, List.length_nil, Nat.zero_add, Nat.add_zero, Nat.reduceAdd] at hS)
      | (with_reducible refine wpList_box_st hS rfl rfl rfl ?_; intro g1 w1 hS1; clear hS; replace hS := hS1; clear hS1) | (with_reducible refine wpList_box1_st hS rfl rfl rfl ?_; intro g1 w1 hS1; clear hS; replace hS := hS1; clear hS1) | (with_reducible refine wpList_alloc_st hS rfl rfl (by assumption) ?_; intro g1 w1 hS1; clear hS; replace hS := hS1; clear hS1) | (with_reducible refine wpList_alloc1_st hS rfl rfl (by assumption) rfl ?_; intro g1 w1 hS1; clear hS; replace hS := hS1; clear hS1) | ((with_reducible refine wpList_load_st 0 hS rfl rfl rfl rfl ?_ rfl ?_); focus (simp [scalarB, go_sem]; done)) | ((with_reducible refine wpList_loadall_st 0 hS rfl rfl rfl rfl ?_ (by kernel_rfl) ?_); focus (simp [rowB, go_sem]; done)) | ((with_reducible refine wpList_store_st 0 hS rfl rfl rfl rfl (by kernel_rfl) rfl rfl ?_); intro w1 hS1; clear hS; replace hS := hS1; clear hS1; try simp only [List.set_cons_zero, List.set_cons_succ, List.setIfInBounds_toArray, List.take_succ_cons, List.take_zero, List.drop_succ_cons, List.drop_zero, List.nil_append, List.cons_append, List.append_nil, List.drop_nil, List.take_nil, List.length_cons, List.length_nil, Nat.zero_add, Nat.add_zero, Nat.reduceAdd] at hS) | ((with_reducible refine wpList_storerow_st 0 hS rfl rfl rfl rfl (by kernel_rfl) rfl rfl rfl rfl ?_); intro w1 hS1; clear hS; replace hS := hS1; clear hS1; try simp only [List.set_cons_zero, List.set_cons_succ, List.setIfInBounds_toArray, List.take_succ_cons, List.take_zero, List.drop_succ_cons, List.drop_zero, List.nil_append, List.cons_append, List.append_nil, List.drop_nil, List.take_nil, List.length_cons, List.length_nil, Nat.zero_add, Nat.add_zero, Nat.reduceAdd] at hS) | ((with_reducible refine wpList_load_st 1 hS rfl rfl rfl rfl ?_ rfl ?_); focus (simp [scalarB, go_sem]; done)) | ((with_reducible refine wpList_loadall_st 1 hS rfl rfl rfl rfl ?_ (by kernel_rfl) ?_); focus (simp [rowB, go_sem]; done)) | ((with_reducible refine wpList_store_st 1 hS rfl rfl rfl rfl (by kernel_rfl) rfl rfl ?_); intro w1 hS1; clear hS; replace hS := hS1; clear hS1; try simp only [List.set_cons_zero, List.set_cons_succ, List.setIfInBounds_toArray, List.take_succ_cons, List.take_zero, List.drop_succ_cons, List.drop_zero, List.nil_append, List.cons_append, List.append_nil, List.drop_nil, List.take_nil, List.length_cons, List.length_nil, Nat.zero_add, Nat.add_zero, Nat.reduceAdd] at hS) | ((with_reducible refine wpList_storerow_st 1 hS rfl rfl rfl rfl (by kernel_rfl) rfl rfl rfl rfl ?_); intro w1 hS1; clear hS; replace hS := hS1; clear hS1; try simp only [List.set_cons_zero, List.set_cons_succ, List.setIfInBounds_toArray, List.take_succ_cons, List.take_zero, List.drop_succ_cons, List.drop_zero, List.nil_append, List.cons_append, List.append_nil, List.drop_nil, List.take_nil, List.length_cons, List.length_nil, Nat.zero_add, Nat.add_zero, Nat.reduceAdd] at hS) | ((with_reducible refine wpList_load_st 2 hS rfl rfl rfl rfl ?_ rfl ?_); focus (simp [scalarB, go_sem]; done)) | ((with_reducible refine wpList_loadall_st 2 hS rfl rfl rfl rfl ?_ (by kernel_rfl) ?_); focus (simp [rowB, go_sem]; done)) | ((with_reducible refine wpList_store_st 2 hS rfl rfl rfl rfl (by kernel_rfl) rfl rfl ?_); intro w1 hS1; clear hS; replace hS := hS1; clear hS1; try simp only [List.set_cons_zero, List.set_cons_succ, List.setIfInBounds_toArray, List.take_succ_cons, List.take_zero, List.drop_succ_cons, List.drop_zero, List.nil_append, List.cons_append, List.append_nil, List.drop_nil, List.take_nil, List.length_cons, List.length_nil, Nat.zero_add, Nat.add_zero, Nat.reduceAdd] at hS) | ((with_reducible refine wpList_storerow_st 2 hS rfl rfl rfl rfl (by kernel_rfl) rfl rfl rfl rfl ?_); intro w1 hS1; clear hS; replace hS := hS1; clear hS1; try simp only [List.set_cons_zero, List.set_cons_succ, List.setIfInBounds_toArray, List.take_succ_cons, List.take_zero, List.drop_succ_cons, List.drop_zero, List.nil_append, List.cons_append, List.append_nil, List.drop_nil, List.take_nil, List.length_cons, List.length_nil, Nat.zero_add, Nat.add_zero, Nat.reduceAdd] at hS) | ((with_reducible refine wpList_load_st 3 hS rfl rfl rfl rfl ?_ rfl ?_); focus (simp [scalarB, go_sem]; done)) | ((with_reducible refine wpList_loadall_st 3 hS rfl rfl rfl rfl ?_ (by kernel_rfl) ?_); focus (simp [rowB, go_sem]; done)) | ((with_reducible refine wpList_store_st 3 hS rfl rfl rfl rfl (by kernel_rfl) rfl rfl ?_); intro w1 hS1; clear hS; replace hS := hS1; clear hS1; try simp only [List.set_cons_zero, List.set_cons_succ, List.setIfInBounds_toArray, List.take_succ_cons, List.take_zero, List.drop_succ_cons, List.drop_zero, List.nil_append, List.cons_append, List.append_nil, List.drop_nil, List.take_nil, List.length_cons, List.length_nil, Nat.zero_add, Nat.add_zero, Nat.reduceAdd] at hS) | ((with_reducible refine wpList_storerow_st 3 hS rfl rfl rfl rfl (by kernel_rfl) rfl rfl rfl rfl ?_); intro w1 hS1; clear hS; replace hS := hS1; clear hS1; try simp only [List.set_cons_zero, List.set_cons_succ, List.setIfInBounds_toArray, List.take_succ_cons, List.take_zero, List.drop_succ_cons, List.drop_zero, List.nil_append, List.cons_append, List.append_nil, List.drop_nil, List.take_nil, List.length_cons, List.length_nil, Nat.zero_add, Nat.add_zero, Nat.reduceAdd] at hS))
    clear hvm2 hvm hvb hv
    obtain ⟨lb, hlb, hS1⟩ : ∃ lb : Nat, Hid (lb = lr) ∧ St w [] [Ch.blk gx 27 (.int .i64 id :: .int .i64 vr :: .int .u32 lb :: flRow f).toArray, Ch.blk go 27 #[.int .i64 0, .int .i64 0, .int .u32 0, .int .i64 0, .int .i64 0, .string ⟨#[]⟩, .int .i64 0, .int .i64 0, .string ⟨#[]⟩, .int .i64 0, .int .i64 0, .string ⟨#[]⟩, .int .i64 0, .int .i64 0, .string ⟨#[]⟩, .int .i64 0, .int .i64 0, .string ⟨#[]⟩, .int .i64 0, .int .i64 0, .string ⟨#[]⟩, .int .i64 0, .int .i64 0, .string ⟨#[]⟩, .int .i64 0, .int .i64 0, .string ⟨#[]⟩], Ch.blk gp 29 (.int .u32 m :: .int .u32 pl :: flRow pf).toArray, Ch.blk gc 27 (.int .i64 id :: .int .i64 ver :: .int .u32 lab :: flRow f).toArray] _ := by
      first
        | exact ⟨pl, Lib.hid (by rw [← hl8.out]; rfl), hS⟩
        | exact ⟨lab, Lib.hid (by rw [← hl8.out]; rfl), hS⟩
    clear hS
    go_loopg [6] 8 (fun gk vx wr => ∃ k : Nat, k + gk = 8 ∧ vx = .int .i64 k ∧ St w [] [Ch.blk gx 27 (.int .i64 id :: .int .i64 vr :: .int .u32 lb :: flRow (putF pf f (bitsTo m k))).toArray, Ch.blk go 27 #[.int .i64 0, .int .i64 0, .int .u32 0, .int .i64 0, .int .i64 0, .string ⟨#[]⟩, .int .i64 0, .int .i64 0, .string ⟨#[]⟩, .int .i64 0, .int .i64 0, .string ⟨#[]⟩, .int .i64 0, .int .i64 0, .string ⟨#[]⟩, .int .i64 0, .int .i64 0, .string ⟨#[]⟩, .int .i64 0, .int .i64 0, .string ⟨#[]⟩, .int .i64 0, .int .i64 0, .string ⟨#[]⟩, .int .i64 0, .int .i64 0, .string ⟨#[]⟩], Ch.blk gp 29 (.int .u32 m :: .int .u32 pl :: flRow pf).toArray, Ch.blk gc 27 (.int .i64 id :: .int .i64 ver :: .int .u32 lab :: flRow f).toArray] wr)
    case atStart => exact ⟨0, Nat.zero_add _, rfl, hS1⟩
    case round =>
      clear hS1
      obtain ⟨k, hkn, rfl, hS⟩ := hrel
      by_cases hlt : k < 8
      · have hnext := bitsTo_next m k
        cases hb : m.testBit k with
        | false =>
          rw [hb, if_neg (by simp)] at hnext
          have cH2 := cH.out k hlt
          rw [hb] at cH2
          replace cH2 := Lib.hid cH2
          replace hnext := Lib.hid hnext
          clear hb
          go_wp2_with (first
            | (go_at_call 20; (with_reducible refine (cH2.out _).mono ?_); rintro _ _ ⟨rfl, rfl⟩)
              | ((with_reducible refine wpList_load_st 2 hS rfl rfl rfl rfl ?_ rfl ?_); focus (simp [scalarB, go_sem]; done)))
          go_roundg (8 - (k + 1))
          case measure => omega
          case rel => exact ⟨k + 1, by omega, by go_num, by rw [hnext.out]; exact hS⟩
        | true =>
          rw [hb, if_pos rfl] at hnext
          have cH2 := cH.out k hlt
          rw [hb] at cH2
          replace cH2 := Lib.hid cH2
          have hput := putF_snoc pf f (bitsTo m k) k
          rw [← hnext] at hput
          have hvf : pf[k]? = some (pf.getD k Vl.zero) := by rw [List.getD_eq_getElem?_getD, List.getElem?_eq_getElem (by omega)]; rfl
          have hpl : (putF pf f (bitsTo m k)).length = 8 := by rw [putF_length]; exact hf
          generalize pf.getD k Vl.zero = v at *
          have hld : ((.int .u32 m :: .int .u32 pl :: flRow pf).toArray.toList.drop (2 + k * 3)).take 3 = vlRow v := fl_at [.int .u32 m, .int .u32 pl] pf k v hvf
          have hst : ((.int .i64 id :: .int .i64 vr :: .int .u32 lb :: flRow (putF pf f (bitsTo m k))).toArray.toList.take (3 + k * 3) ++ vlRow v ++ (.int .i64 id :: .int .i64 vr :: .int .u32 lb :: flRow (putF pf f (bitsTo m k))).toArray.toList.drop (3 + k * 3 + 3)).toArray = (.int .i64 id :: .int .i64 vr :: .int .u32 lb :: flRow (putF pf f (bitsTo m (k + 1)))).toArray := by
            rw [hput]
            exact congrArg List.toArray (fl_put [.int .i64 id, .int .i64 vr, .int .u32 lb] (putF pf f (bitsTo m k)) k v (by omega))
          have hfit : Nat.ble (3 + k * 3 + 3) (Value.int .i64 id :: .int .i64 vr :: .int .u32 lb :: flRow (putF pf f (bitsTo m k))).toArray.size = true := by
            rw [Nat.ble_eq]
            simp only [List.size_toArray, List.length_cons, flRow_length, hpl]
            omega
          replace hld := Lib.hid hld
          replace hst := Lib.hid hst
          replace hfit := Lib.hid hfit
          clear hnext hvf hput hb
          go_wp2_with (first
            | (go_at_call 20; (with_reducible refine (cH2.out _).mono ?_); rintro _ _ ⟨rfl, rfl⟩)
            | ((with_reducible refine wpList_load_st 2 hS rfl rfl rfl rfl ?_ rfl ?_); focus (simp [scalarB, go_sem]; done))
              | ((with_reducible refine wpList_loadrow_st 2 hS rfl rfl rfl rfl ?_ (by kernel_rfl) hld.out rfl ?_); focus (simp [rowB, go_sem]; done))
            | ((with_reducible refine wpList_storerow_st 0 (vs := vlRow v) (n := 3) hS rfl rfl rfl rfl (by kernel_rfl) rfl (vlRow_length v) (vl_one v) hfit.out ?_); intro w1 hS1; clear hS; simp only [List.set_cons_zero, List.set_cons_succ] at hS1; rw [hst.out] at hS1; have hS := hS1; clear hS1))
          go_roundg (8 - (k + 1))
          case measure => omega
          case rel => exact ⟨k + 1, by omega, by go_num, hS⟩
      · obtain rfl : k = 8 := by omega
        have hpl : (putF pf f (bitsTo m 8)).length = 8 := by rw [putF_length]; exact hf
        obtain ⟨q, hq⟩ : ∃ q, putF pf f (bitsTo m 8) = q := ⟨_, rfl⟩
        rw [hq] at hS hpl
        replace hq := Lib.hid hq
        have hsz : (Value.int .i64 id :: .int .i64 vr :: .int .u32 lb :: flRow q).toArray.size = 27 := by
          simp only [List.size_toArray, List.length_cons, flRow_length, hpl]
        have hone : (Value.int .i64 id :: .int .i64 vr :: .int .u32 lb :: flRow q).all Value.oneCell' = true := by
          simp only [List.all_cons, fl_one]
          rfl
        have hlen : (Value.int .i64 id :: .int .i64 vr :: .int .u32 lb :: flRow q).length = 27 := by simpa using hsz
        have hsB : sizeB Tryd.prog 27 (Value.int .i64 id :: .int .i64 vr :: .int .u32 lb :: flRow q).toArray.size = true := by rw [hsz]; kernel_rfl
        go_wp2_with (first
          | ((with_reducible refine wpList_loadall_st 0 hS rfl rfl rfl rfl ?_ hsB ?_); focus (simp [rowB, go_sem]; done))
          | ((with_reducible refine wpList_storerow_st 1 (vs := Value.int .i64 id :: .int .i64 vr :: .int .u32 lb :: flRow q) (n := 27) hS rfl rfl rfl rfl (by kernel_rfl) rfl hlen hone rfl ?_); intro w1 hS1; clear hS; have hS := hS1; clear hS1; try simp only [List.set_cons_zero, List.set_cons_succ, List.setIfInBounds_toArray, List.take_succ_cons, List.take_zero, List.drop_succ_cons, List.drop_zero, List.nil_append, List.cons_append, List.append_nil, List.drop_nil, List.take_nil, List.length_cons, List.length_nil, Nat.zero_add, Nat.add_zero, Nat.reduceAdd] at hS))
        exact bodyPost_ret (v := .agg (Value.int .i64 id :: .int .i64 vr :: .int .u32 lb :: flRow q).toArray) (results_blk Tryd.results16 rfl hS 1 rfl (by kernel_rfl) hsB) rfl ⟨by rw [hlb.out, hq.out], hS.below⟩
end Go.Proofs.YtplgpbbghhlbjaaDoor
end

section
/- Values, fields, cards, patches compared. -/
set_option linter.unusedSimpArgs false
set_option linter.unusedVariables false
namespace Go.Ofp
open Go.RowKit
theorem run_part_row {P : Program} {t : TypeId} {n : Nat} (hu : rowB P t = true) (hsz : sizeB P t n = true) (xs : Array Value) (off : Nat) (w : World) : (part t xs off).run P w = .ok (.agg (xs.extract off (off + n))) w := by
  obtain ⟨d, h1, h2, h3⟩ := rowB_spec hu hsz
  obtain ⟨i, hi, hi2⟩ := Option.map_eq_some_iff.1 h3
  have hagg : (isAgg t).run P w = .ok true w := by
    unfold isAgg
    rw [Sem.run_bind, run_underlying h1 w]
    cases d <;> simp_all [TypeDesc.isRow]
  unfold part
  simp [hagg, sizeOf, typeInfo, hi, hi2]
theorem extract_list (l : List Value) (i n : Nat) : l.toArray.extract i (i + n) = ((l.drop i).take n).toArray := by
  apply Array.ext'
  simp
theorem fields_of {P : Program} {t : TypeId} {fs : Array Field} (h : P.underlying t = some (.struct fs)) : P.fieldsOf t = fs := by simp [Program.fieldsOf, h]
theorem ba_beq (a b : ByteArray) : (a.toList == b.toList) = decide (a = b) := by
  rw [ByteArray.toList_eq, ByteArray.toList_eq]
  by_cases h : a = b
  · subst h; simp
  · rw [decide_eq_false h, beq_eq_false_iff_ne]
    intro e
    apply h
    apply ByteArray.ext
    exact Array.ext' e
end Go.Ofp
namespace Go.Proofs.YtplgpbbghhlbjaaDoor
open Go.RowKit Go.Ofp
set_option linter.unusedVariables false
set_option maxRecDepth 100000
set_option maxHeartbeats 4000000

theorem eq_vl (d : Nat) (p q : Vl) (w : World) : (Op.equalIn (d + 2) 24 (.agg (vlRow p).toArray) (.agg (vlRow q).toArray)).run Tryd.prog w = .ok (decide (p = q)) w := by
  have hp : Tryd.prog.stoodInHeld 24 = false := by kernel_rfl
  have hf := fields_of Tryd.underlying24
  have hu : Tryd.prog.underlying 24 = some (.struct (Tryd.prog.fieldsOf 24)) := by rw [hf, Tryd.underlying24]
  rw [run_equalIn_struct w (d + 1) _ _ _ hu hp, hf]
  obtain ⟨a, b, c⟩ := p
  obtain ⟨a', b', c'⟩ := q
  have h3 := Tryd.underlying3
  have h9 := Tryd.underlying9
  have hb := ba_beq c c'
  simp only [vlRow]
  go_simp
  by_cases h1 : a = a'
  · by_cases h2 : b = b'
    · by_cases h3 : c = c' <;> simp_all
    · simp_all
  · simp_all
theorem eq_items (d : Nat) (f g : List Vl) (hl : f.length = g.length) (w : World) : ∀ m k, k + m = f.length → (Op.eqItems (d + 2) 24 3 (flRow f).toArray (flRow g).toArray (List.range' k m)).run Tryd.prog w = .ok (decide (f.drop k = g.drop k)) w := by
  intro m
  induction m with
  | zero =>
    intro k hk
    rw [List.drop_of_length_le (by omega), List.drop_of_length_le (by omega)]
    simp [Op.eqItems]
  | succ m ih =>
    intro k hk
    rw [List.range'_succ]
    have p1 := run_part_row (P := Tryd.prog) (t := 24) (n := 3) (by kernel_rfl) (by kernel_rfl) (flRow f).toArray (k * 3) w
    have p2 := run_part_row (P := Tryd.prog) (t := 24) (n := 3) (by kernel_rfl) (by kernel_rfl) (flRow g).toArray (k * 3) w
    have q1 := fl_at [] f k f[k] (List.getElem?_eq_getElem (by omega))
    have q2 := fl_at [] g k (g[k]'(by omega)) (List.getElem?_eq_getElem (by omega))
    simp only [List.nil_append, List.length_nil, Nat.zero_add] at q1 q2
    rw [extract_list, q1] at p1
    rw [extract_list, q2] at p2
    have p3 := eq_vl d f[k] (g[k]'(by omega)) w
    simp only [Op.eqItems, Sem.run_bind, p1, p2, p3, Result.andThen_ok]
    have hi := ih (k + 1) (by omega)
    have hd : (f.drop k = g.drop k) ↔ (f[k] = g[k]'(by omega) ∧ f.drop (k + 1) = g.drop (k + 1)) := by
      rw [List.drop_eq_getElem_cons (show k < f.length by omega), List.drop_eq_getElem_cons (show k < g.length by omega), List.cons.injEq]
    by_cases h : f[k] = g[k]'(by omega)
    · rw [decide_eq_true h]
      simp only [Bool.not_true, Bool.false_eq_true, if_false]
      rw [hi]
      congr 1
      rw [decide_eq_decide, hd]
      exact ⟨fun e => ⟨h, e⟩, fun e => e.2⟩
    · rw [decide_eq_false h, decide_eq_false (fun e => h (hd.1 e).1)]
      rfl
theorem eq_fl (d : Nat) (f g : List Vl) (hf : f.length = 8) (hg : g.length = 8) (w : World) : (Op.equalIn (d + 3) 25 (.agg (flRow f).toArray) (.agg (flRow g).toArray)).run Tryd.prog w = .ok (decide (f = g)) w := by
  obtain ⟨i, hi, -⟩ := elem_value
  have hc : Tryd.prog.cellsOf 24 = 3 := by kernel_rfl
  rw [run_equalIn_array w (d + 2) _ _ Tryd.underlying25 hi, hc, List.range_eq_range']
  exact eq_items d f g (by omega) w 8 0 (by omega)
theorem eq_cd (d : Nat) (p q : Cd) (hf : p.f.length = 8) (hg : q.f.length = 8) (w : World) : (Op.equalIn (d + 4) 27 (.agg (cdRow p).toArray) (.agg (cdRow q).toArray)).run Tryd.prog w = .ok (decide (p = q)) w := by
  have hp : Tryd.prog.stoodInHeld 27 = false := by kernel_rfl
  have hff := fields_of Tryd.underlying27
  have hu : Tryd.prog.underlying 27 = some (.struct (Tryd.prog.fieldsOf 27)) := by rw [hff, Tryd.underlying27]
  rw [run_equalIn_struct w (d + 3) _ _ _ hu hp, hff]
  obtain ⟨a, b, c, f⟩ := p
  obtain ⟨a', b', c', g⟩ := q
  simp only at hf hg
  have e3 := eq_fl d f g hf hg w
  have t1 : (flRow f).take 24 = flRow f := List.take_of_length_le (by rw [flRow_length]; omega)
  have t2 : (flRow g).take 24 = flRow g := List.take_of_length_le (by rw [flRow_length]; omega)
  have h3 := Tryd.underlying3
  have h9 := Tryd.underlying22
  simp only [cdRow]
  go_simp
  simp only [t1, t2, e3, Int.natCast_inj, Result.andThen_ok]
  by_cases k1 : a = a'
  · by_cases k2 : b = b'
    · by_cases k3 : c = c'
      · by_cases k4 : f = g <;> simp [k1, k2, k3, k4]
      · simp [k1, k2, k3]
    · simp [k1, k2]
  · simp [k1]
theorem eq_pt (d : Nat) (p q : Pt) (hf : p.f.length = 8) (hg : q.f.length = 8) (w : World) : (Op.equalIn (d + 4) 29 (.agg (ptRow p).toArray) (.agg (ptRow q).toArray)).run Tryd.prog w = .ok (decide (p = q)) w := by
  have hp : Tryd.prog.stoodInHeld 29 = false := by kernel_rfl
  have hff := fields_of Tryd.underlying29
  have hu : Tryd.prog.underlying 29 = some (.struct (Tryd.prog.fieldsOf 29)) := by rw [hff, Tryd.underlying29]
  rw [run_equalIn_struct w (d + 3) _ _ _ hu hp, hff]
  obtain ⟨b, c, f⟩ := p
  obtain ⟨b', c', g⟩ := q
  simp only at hf hg
  have e3 := eq_fl d f g hf hg w
  have t1 : (flRow f).take 24 = flRow f := List.take_of_length_le (by rw [flRow_length]; omega)
  have t2 : (flRow g).take 24 = flRow g := List.take_of_length_le (by rw [flRow_length]; omega)
  have h9 := Tryd.underlying22
  simp only [ptRow]
  go_simp
  simp only [t1, t2, e3, Int.natCast_inj, Result.andThen_ok]
  by_cases k2 : b = b'
  · by_cases k3 : c = c'
    · by_cases k4 : f = g <;> simp [k2, k3, k4]
    · simp [k2, k3]
  · simp [k2]

/-! ### The walk's facts -/
theorem eql_vl (p q : Vl) (w : World) : (binOp .eql 24 (.agg (vlRow p).toArray) (.agg (vlRow q).toArray)).run Tryd.prog w = .ok (.bool (decide (p = q))) w := by
  rw [run_eql_struct, eq_vl 9998 p q w]
  rfl
theorem neq_vl (p q : Vl) (w : World) : (binOp .neq 24 (.agg (vlRow p).toArray) (.agg (vlRow q).toArray)).run Tryd.prog w = .ok (.bool (!decide (p = q))) w := by
  rw [run_neq_struct, eq_vl 9998 p q w]
  rfl
theorem neq_cd (p q : Cd) (hf : p.f.length = 8) (hg : q.f.length = 8) (w : World) : (binOp .neq 27 (.agg (cdRow p).toArray) (.agg (cdRow q).toArray)).run Tryd.prog w = .ok (.bool (!decide (p = q))) w := by
  rw [run_neq_struct, eq_cd 9996 p q hf hg w]
  rfl
theorem guard_vl (op : BinOp) (x y : Operand) (xs ys : Array Value) (w : World) : (eqGuard op 24 x y (.agg xs) (.agg ys)).run Tryd.prog w = .ok () w :=
  run_eqGuard_agg w op _ x y xs ys (by kernel_rfl)
theorem guard_cd (op : BinOp) (x y : Operand) (xs ys : Array Value) (w : World) : (eqGuard op 27 x y (.agg xs) (.agg ys)).run Tryd.prog w = .ok () w :=
  run_eqGuard_agg w op _ x y xs ys (by kernel_rfl)
end Go.Proofs.YtplgpbbghhlbjaaDoor
end
