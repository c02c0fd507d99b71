/- What is unlike in cards. -/
import Derived.Test.YtplgpbbghhlbjaaDoorCardCheck3
import Derived.Test.YtplgpbbghhlbjaaDoorSt13
set_option linter.unusedSimpArgs false
set_option linter.unusedVariables false
namespace Go.Ofp
/-- The set of some numbers. -/
def maskOf (l : List Nat) : Nat := l.foldl (fun s i => s ||| 2 ^ i) 0
theorem maskOf_snoc (l : List Nat) (i : Nat) : maskOf (l ++ [i]) = maskOf l ||| 2 ^ i := by simp [maskOf]
theorem maskOf_bit (l : List Nat) (j : Nat) : (maskOf l).testBit j = decide (j ∈ l) := by
  unfold maskOf
  have key : ∀ (l : List Nat) (s : Nat), (l.foldl (fun s i => s ||| 2 ^ i) s).testBit j = (s.testBit j || decide (j ∈ l)) := by
    intro l
    induction l with
    | nil => intro s; simp
    | cons i l ih =>
      intro s
      rw [List.foldl_cons, ih, Nat.testBit_or, Nat.testBit_two_pow]
      by_cases h : i = j
      · subst h; simp
      · have h2 : j ≠ i := fun e => h e.symm
        simp [h, h2]
  rw [key]
  simp
theorem maskOf_lt (l : List Nat) (n : Nat) (h : ∀ i ∈ l, i < n) : maskOf l < 2 ^ n := by
  refine Nat.lt_pow_two_of_testBit _ fun i hi => ?_
  rw [maskOf_bit, decide_eq_false]
  intro hm
  have := h i hm
  omega
/-- The first k of what is unlike. -/
def unlikeTo (f g : List Vl) (k : Nat) : List Nat := (List.range k).filter fun i => decide (f.getD i Vl.zero ≠ g.getD i Vl.zero)
theorem unlikeTo_next (f g : List Vl) (k : Nat) : unlikeTo f g (k + 1) = if f.getD k Vl.zero = g.getD k Vl.zero then unlikeTo f g k else unlikeTo f g k ++ [k] := by
  unfold unlikeTo
  rw [List.range_succ, List.filter_append]
  by_cases h : f.getD k Vl.zero = g.getD k Vl.zero
  · rw [if_pos h, List.filter_cons, if_neg (by rw [h]; simp), List.filter_nil, List.append_nil]
  · rw [if_neg h, List.filter_cons, if_pos (by simp only [ne_eq, decide_eq_true_eq]; exact h), List.filter_nil]
theorem unlikeTo_lt (f g : List Vl) (k : Nat) : ∀ i ∈ unlikeTo f g k, i < k := fun i hi => by
  have := (List.mem_filter.1 hi).1
  simpa using this
theorem unlikeTo_len (f g : List Vl) (k : Nat) : (unlikeTo f g k).length ≤ k := by
  have := List.length_filter_le (fun i => decide (f.getD i Vl.zero ≠ g.getD i Vl.zero)) (List.range k)
  simpa [unlikeTo] using this
theorem unlikeTo_self (f : List Vl) (k : Nat) : unlikeTo f f k = [] := by simp [unlikeTo]
/-- What is unlike in cards. -/
def Cd.diff (a b : Cd) : Nat := maskOf (unlikeTo a.f b.f 8) + (if a.lab = b.lab then 0 else 256)
end Go.Ofp
namespace Go.Proofs.YtplgpbbghhlbjaaDoor
open Go.RowKit Go.Ofp
set_option linter.unusedVariables false
set_option maxRecDepth 100000
set_option maxHeartbeats 4000000

theorem bof_any (a : Option Addr) (l : List Nat) (n cap : Nat) (hn : l.length = n) (hm : n ≤ 100) (h8 : ∀ i ∈ l, i < 32) (w : World) (hs : Sl w a ((nums l).map vi)) :
    Calls Tryd.prog 63 #[.slice a n cap] w fun e w' => e = .returned (.int .u32 (maskOf l : Nat)) ∧ w = w' := by
  have cB := Lib.hid (fun (i : Nat) (hi : i < 32) (W : World) => bit_any i W hi)
  have h82 := Lib.hid h8
  have hs2 := Lib.hid hs
  go_enter Tryd.func63, Tryd.ntmps63
  go_wp2_with fail
  go_loopg [3, 8] n (fun gk vs vx wr => ∃ k q : Nat, k + gk = n ∧ vx = .int .i64 k ∧ vs = .int .u32 q ∧ q < 4294967296 ∧ Hid (q = maskOf (l.take k)) ∧ w = wr)
  case atStart => exact ⟨0, 0, Nat.zero_add _, rfl, rfl, by omega, Lib.hid rfl, rfl⟩
  case round =>
    obtain ⟨k, q, hk, rfl, rfl, hq, hr, rfl⟩ := hrel
    by_cases hlt : k < n
    · have hkl : k < l.length := by omega
      obtain ⟨b, off, rfl, hc⟩ := hs2.out k (by simp [nums]; omega)
      have hc2 : w.cell? ⟨b, off + k, none⟩ = some (.int .i64 (l[k] : Nat)) := by
        rw [hc]
        simp [nums, vi]
      have hi := h82.out l[k] (List.getElem_mem hkl)
      have hp : 2 ^ l[k] ≤ 2 ^ 31 := Nat.pow_le_pow_right (by decide) (by omega)
      have e : bits .or .u32 (q : Int) ((2 : Int) ^ l[k]) = ((q ||| 2 ^ l[k] : Nat) : Int) := by
        have := u32_or_nat q (2 ^ l[k]) hq (by omega)
        rw [← this]
        simp
      have hlt2 := or_lt q l[k] hq hi
      have hnx : (q ||| 2 ^ l[k] : Nat) = maskOf (l.take (k + 1)) := by rw [List.take_succ_eq_append_getElem hkl, maskOf_snoc, ← hr.out]
      replace e := Lib.hid e
      replace hnx := Lib.hid hnx
      clear hp hc
      generalize l[k] = i at *
      go_wp2_with (first
        | (go_at_call 73; (with_reducible refine (cB.out _ hi _).mono ?_); rintro _ _ ⟨rfl, rfl⟩))
      go_roundg (n - (k + 1))
      case measure => omega
      case rel => exact ⟨k + 1, q ||| 2 ^ i, by omega, by go_num, by rw [← e.out], hlt2, hnx, rfl⟩
    · obtain rfl : k = n := by omega
      have hr2 := hr.out
      rw [List.take_of_length_le (by omega)] at hr2
      replace hr2 := Lib.hid hr2
      go_wp2_with fail
      go_ret
      exact ⟨by rw [← hr2.out]; rfl, rfl⟩

theorem make_any (b : Bool) (a : Option Addr) (l : List Nat) (n cap : Nat) (hn : l.length = n) (hm : n ≤ 100) (h8 : ∀ i ∈ l, i < 8) (w : World) (hs : Sl w a ((nums l).map vi)) :
    Calls Tryd.prog 47 #[.bool b, .slice a n cap] w fun e w' => e = .returned (.int .u32 (maskOf l + (if b then 256 else 0) : Nat)) ∧ w = w' := by
  have cO := bof_any a l n cap hn hm (fun i hi => Nat.lt_trans (h8 i hi) (by decide)) w hs
  have hlt := maskOf_lt l 8 h8
  generalize maskOf l = q at cO hlt ⊢
  have e1 : bits .and .u32 (q : Int) 255 = (q : Int) := by
    rw [show (255 : Int) = ((255 : Nat) : Int) by rfl, u32_and_nat q 255 (by omega) (by decide), show (255 : Nat) = 2 ^ 8 - 1 by rfl, Nat.and_two_pow_sub_one_eq_mod, Nat.mod_eq_of_lt hlt]
  have e2 : bits .or .u32 (q : Int) 256 = ((q + 256 : Nat) : Int) := by
    rw [show (256 : Int) = ((2 ^ 8 : Nat) : Int) by rfl, u32_or_nat q (2 ^ 8) (by omega) (by decide), or_new q 8 (by omega) (by decide) (Nat.testBit_lt_two_pow hlt)]
  replace cO := Lib.hid cO
  cases b with
  | false =>
    have e2' := Lib.hid e2
    clear e2
    go_enter Tryd.func47, Tryd.ntmps47
    go_wp2_with (go_at_call 63; (with_reducible refine cO.out.mono ?_); rintro _ _ ⟨rfl, rfl⟩)
    go_ret
    exact ⟨rfl, rfl⟩
  | true =>
    go_enter Tryd.func47, Tryd.ntmps47
    go_wp2_with (go_at_call 63; (with_reducible refine cO.out.mono ?_); rintro _ _ ⟨rfl, rfl⟩)
    go_ret
    exact ⟨rfl, rfl⟩

theorem df_any (a b : Cd) (ha : a.f.length = 8) (hb : b.f.length = 8) (w : World) :
    Calls Tryd.prog 23 #[.agg (cdRow a).toArray, .agg (cdRow b).toArray] w fun e w' => e = .returned (.int .u32 (a.diff b : Nat)) ∧ Below w.heap.size w w' := by
  have hS := St.start w
  have ev := elem_value
  have ez := elem_i
  have hE := fun W : World => eql_fl a.f b.f ha hb W
  have hG := guard_fl
  have hG2 := guard_vl
  obtain ⟨ia, va, la, f⟩ := a
  obtain ⟨ib, vb', lb, g⟩ := b
  simp only [cdRow, Cd.diff] at *
  have hfl : (flRow f).length = 24 := by rw [flRow_length, ha]
  have hgl : (flRow g).length = 24 := by rw [flRow_length, hb]
  have hf3 : ((Value.int .i64 ia :: .int .i64 va :: .int .u32 la :: flRow f).toArray.toList.drop 3).take 24 = flRow f := List.take_of_length_le (Nat.le_of_eq hfl)
  have hg3 : ((Value.int .i64 ib :: .int .i64 vb' :: .int .u32 lb :: flRow g).toArray.toList.drop 3).take 24 = flRow g := List.take_of_length_le (Nat.le_of_eq hgl)
  obtain ⟨bl, hbl⟩ : ∃ bl : Bool, ((la : Int) != (lb : Int)) = bl := ⟨_, rfl⟩
  have hbl2 : (if la = lb then 0 else 256) = (if bl then 256 else 0 : Nat) := by
    rw [← hbl]
    by_cases h : la = lb
    · subst h; simp
    · rw [if_neg h, if_pos (by rw [bne_iff_ne]; omega)]
  rw [hbl2]
  clear hbl2
  by_cases heq : f = g
  · rw [decide_eq_true heq] at hE
    have hu : unlikeTo f g 8 = [] := by rw [heq, unlikeTo_self]
    rw [hu]
    have cM := Lib.hid (fun W : World => make_any bl none [] 0 0 rfl (by decide) (by simp) W (Sl.nil _ _))
    clear heq hu
    generalize hr : maskOf [] + (if bl then 256 else 0) = r at cM ⊢
    clear hr
    go_enter Tryd.func23, Tryd.ntmps23
    go_wp2_with (first
      | (go_at_call 47; (with_reducible refine (cM.out _).mono ?_); rintro _ _ ⟨rfl, rfl⟩)
      | (with_reducible refine wpList_box_st (L := []) hS rfl rfl rfl ?_; intro gc w1 hS1; clear hS; have hS := hS1; clear hS1)
      | (with_reducible refine wpList_box_st (L := [_]) hS rfl rfl rfl ?_; intro gp w1 hS1; clear hS; have hS := hS1; clear hS1)
      | ((with_reducible refine wpList_loadrow_st (n := 24) 1 hS rfl rfl rfl rfl ?_ (by kernel_rfl) hf3 hfl ?_); focus (simp [rowB, go_sem]; done))
      | ((with_reducible refine wpList_loadrow_st (n := 24) 0 hS rfl rfl rfl rfl ?_ (by kernel_rfl) hg3 hgl ?_); focus (simp [rowB, go_sem]; done))
      | (with_reducible refine wpList_box_st hS rfl rfl rfl ?_; intro g1 w1 hS1; clear hS; replace hS := hS1; clear hS1) | (with_reducible refine wpList_box1_st hS rfl rfl rfl ?_; intro g1 w1 hS1; clear hS; replace hS := hS1; clear hS1) | (with_reducible refine wpList_alloc_st hS rfl rfl (by assumption) ?_; intro g1 w1 hS1; clear hS; replace hS := hS1; clear hS1) | (with_reducible refine wpList_alloc1_st hS rfl rfl (by assumption) rfl ?_; intro g1 w1 hS1; clear hS; replace hS := hS1; clear hS1) | ((with_reducible refine wpList_load_st 0 hS rfl rfl rfl rfl ?_ rfl ?_); focus (simp [scalarB, go_sem]; done)) | ((with_reducible refine wpList_loadall_st 0 hS rfl rfl rfl rfl ?_ (by kernel_rfl) ?_); focus (simp [rowB, go_sem]; done)) | ((with_reducible refine wpList_store_st 0 hS rfl rfl rfl rfl (by kernel_rfl) rfl rfl ?_); intro w1 hS1; clear hS; replace hS := hS1; clear hS1; try simp only [List.set_cons_zero, List.set_cons_succ, List.setIfInBounds_toArray, List.take_succ_cons, List.take_zero, List.drop_succ_cons, List.drop_zero, List.nil_append, List.cons_append, List.append_nil, List.drop_nil, List.take_nil, List.length_cons, List.length_nil, Nat.zero_add, Nat.add_zero, Nat.reduceAdd] at hS) | ((with_reducible refine wpList_storerow_st 0 hS rfl rfl rfl rfl (by kernel_rfl) rfl rfl rfl rfl ?_); intro w1 hS1; clear hS; replace hS := hS1; clear hS1; try simp only [List.set_cons_zero, List.set_cons_succ, List.setIfInBounds_toArray, List.take_succ_cons, List.take_zero, List.drop_succ_cons, List.drop_zero, List.nil_append, List.cons_append, List.append_nil, List.drop_nil, List.take_nil, List.length_cons, List.length_nil, Nat.zero_add, Nat.add_zero, Nat.reduceAdd] at hS) | ((with_reducible refine wpList_load_st 1 hS rfl rfl rfl rfl ?_ rfl ?_); focus (simp [scalarB, go_sem]; done)) | ((with_reducible refine wpList_loadall_st 1 hS rfl rfl rfl rfl ?_ (by kernel_rfl) ?_); focus (simp [rowB, go_sem]; done)) | ((with_reducible refine wpList_store_st 1 hS rfl rfl rfl rfl (by kernel_rfl) rfl rfl ?_); intro w1 hS1; clear hS; replace hS := hS1; clear hS1; try simp only [List.set_cons_zero, List.set_cons_succ, List.setIfInBounds_toArray, List.take_succ_cons, List.take_zero, List.drop_succ_cons, List.drop_zero, List.nil_append, List.cons_append, List.append_nil, List.drop_nil, List.take_nil, List.length_cons, List.length_nil, Nat.zero_add, Nat.add_zero, Nat.reduceAdd] at hS) | ((with_reducible refine wpList_storerow_st 1 hS rfl rfl rfl rfl (by kernel_rfl) rfl rfl rfl rfl ?_); intro w1 hS1; clear hS; replace hS := hS1; clear hS1; try simp only [List.set_cons_zero, List.set_cons_succ, List.setIfInBounds_toArray, List.take_succ_cons, List.take_zero, List.drop_succ_cons, List.drop_zero, List.nil_append, List.cons_append, List.append_nil, List.drop_nil, List.take_nil, List.length_cons, List.length_nil, Nat.zero_add, Nat.add_zero, Nat.reduceAdd] at hS))
    go_ret
    exact ⟨rfl, hS.below⟩
  · rw [decide_eq_false heq] at hE
    clear heq
    generalize hr : maskOf (unlikeTo f g 8) + (if bl then 256 else 0) = r
    replace hr := Lib.hid hr
    go_enter Tryd.func23, Tryd.ntmps23
    go_wp2_with (first
      | (with_reducible refine wpList_box_st (L := []) hS rfl rfl rfl ?_; intro gc w1 hS1; clear hS; have hS := hS1; clear hS1)
      | (with_reducible refine wpList_box_st (L := [_]) hS rfl rfl rfl ?_; intro gp w1 hS1; clear hS; have hS := hS1; clear hS1)
      | ((with_reducible refine wpList_loadrow_st (n := 24) 1 hS rfl rfl rfl rfl ?_ (by kernel_rfl) hf3 hfl ?_); focus (simp [rowB, go_sem]; done))
      | ((with_reducible refine wpList_loadrow_st (n := 24) 0 hS rfl rfl rfl rfl ?_ (by kernel_rfl) hg3 hgl ?_); focus (simp [rowB, go_sem]; done))
      | (with_reducible refine wpList_box_st hS rfl rfl rfl ?_; intro g1 w1 hS1; clear hS; replace hS := hS1; clear hS1) | (with_reducible refine wpList_box1_st hS rfl rfl rfl ?_; intro g1 w1 hS1; clear hS; replace hS := hS1; clear hS1) | (with_reducible refine wpList_alloc_st hS rfl rfl (by assumption) ?_; intro g1 w1 hS1; clear hS; replace hS := hS1; clear hS1) | (with_reducible refine wpList_alloc1_st hS rfl rfl (by assumption) rfl ?_; intro g1 w1 hS1; clear hS; replace hS := hS1; clear hS1) | ((with_reducible refine wpList_load_st 0 hS rfl rfl rfl rfl ?_ rfl ?_); focus (simp [scalarB, go_sem]; done)) | ((with_reducible refine wpList_loadall_st 0 hS rfl rfl rfl rfl ?_ (by kernel_rfl) ?_); focus (simp [rowB, go_sem]; done)) | ((with_reducible refine wpList_store_st 0 hS rfl rfl rfl rfl (by kernel_rfl) rfl rfl ?_); intro w1 hS1; clear hS; replace hS := hS1; clear hS1; try simp only [List.set_cons_zero, List.set_cons_succ, List.setIfInBounds_toArray, List.take_succ_cons, List.take_zero, List.drop_succ_cons, List.drop_zero, List.nil_append, List.cons_append, List.append_nil, List.drop_nil, List.take_nil, List.length_cons, List.length_nil, Nat.zero_add, Nat.add_zero, Nat.reduceAdd] at hS) | ((with_reducible refine wpList_storerow_st 0 hS rfl rfl rfl rfl (by kernel_rfl) rfl rfl rfl rfl ?_); intro w1 hS1; clear hS; replace hS := hS1; clear hS1; try simp only [List.set_cons_zero, List.set_cons_succ, List.setIfInBounds_toArray, List.take_succ_cons, List.take_zero, List.drop_succ_cons, List.drop_zero, List.nil_append, List.cons_append, List.append_nil, List.drop_nil, List.take_nil, List.length_cons, List.length_nil, Nat.zero_add, Nat.add_zero, Nat.reduceAdd] at hS) | ((with_reducible refine wpList_load_st 1 hS rfl rfl rfl rfl ?_ rfl ?_); focus (simp [scalarB, go_sem]; done)) | ((with_reducible refine wpList_loadall_st 1 hS rfl rfl rfl rfl ?_ (by kernel_rfl) ?_); focus (simp [rowB, go_sem]; done)) | ((with_reducible refine wpList_store_st 1 hS rfl rfl rfl rfl (by kernel_rfl) rfl rfl ?_); intro w1 hS1; clear hS; replace hS := hS1; clear hS1; try simp only [List.set_cons_zero, List.set_cons_succ, List.setIfInBounds_toArray, List.take_succ_cons, List.take_zero, List.drop_succ_cons, List.drop_zero, List.nil_append, List.cons_append, List.append_nil, List.drop_nil, List.take_nil, List.length_cons, List.length_nil, Nat.zero_add, Nat.add_zero, Nat.reduceAdd] at hS) | ((with_reducible refine wpList_storerow_st 1 hS rfl rfl rfl rfl (by kernel_rfl) rfl rfl rfl rfl ?_); intro w1 hS1; clear hS; replace hS := hS1; clear hS1; try simp only [List.set_cons_zero, List.set_cons_succ, List.setIfInBounds_toArray, List.take_succ_cons, List.take_zero, List.drop_succ_cons, List.drop_zero, List.nil_append, List.cons_append, List.append_nil, List.drop_nil, List.take_nil, List.length_cons, List.length_nil, Nat.zero_add, Nat.add_zero, Nat.reduceAdd] at hS))
    clear hf3 hg3 hE
    have hS1 := hS.nilrow 3 1
    clear hS
    have hS := hS1
    clear hS1
    go_loopg [5, 21] 8 (fun gk v5 vx wr => ∃ (k q : Nat) (ao : Option Addr) (co : Nat), k + gk = 8 ∧ vx = .int .i64 k ∧ v5 = .slice ao q co ∧ Hid (q = (unlikeTo f g k).length) ∧ St w [] [Ch.row 3 1 (.slice ao q co) q ((nums (unlikeTo f g k)).map vi), Ch.blk gp 27 (Value.int .i64 ib :: .int .i64 vb' :: .int .u32 lb :: flRow g).toArray, Ch.blk gc 27 (Value.int .i64 ia :: .int .i64 va :: .int .u32 la :: flRow f).toArray] wr)
    case atStart => exact ⟨0, 0, none, 0, Nat.zero_add _, rfl, rfl, Lib.hid rfl, hS⟩
    case round =>
      clear hS
      obtain ⟨k, q, ao, co, hkn, rfl, rfl, hq, hS⟩ := hrel
      have hq8 : q ≤ 8 := by
        have := unlikeTo_len f g k
        rw [hq.out]
        omega
      by_cases hlt : k < 8
      · have hvf : f[k]? = some (f.getD k Vl.zero) := by rw [List.getD_eq_getElem?_getD, List.getElem?_eq_getElem (by omega)]; rfl
        have huf : g[k]? = some (g.getD k Vl.zero) := by rw [List.getD_eq_getElem?_getD, List.getElem?_eq_getElem (by omega)]; rfl
        have hnext := unlikeTo_next f g k
        generalize f.getD k Vl.zero = v at *
        generalize g.getD k Vl.zero = u at *
        have hix := fl_index f ha k v hvf
        have hlu : ((Value.int .i64 ib :: .int .i64 vb' :: .int .u32 lb :: flRow g).toArray.toList.drop (3 + k * 3)).take 3 = vlRow u := fl_at [.int .i64 ib, .int .i64 vb', .int .u32 lb] g k u huf
        have hE := fun W : World => neq_vl v u W
        clear hvf huf
        by_cases hvu : v = u
        · rw [decide_eq_true hvu] at hE
          rw [if_pos hvu] at hnext
          clear hvu
          obtain ⟨vk, vn, vs⟩ := v
          obtain ⟨uk, un, us⟩ := u
          simp only [vlRow] at hix hlu hE
          replace hnext := Lib.hid hnext
          replace hlu := Lib.hid hlu
          go_wp2_with (first
            | (with_reducible refine wpList_box_st hS rfl rfl rfl ?_; intro g1 w1 hS1; clear hS; replace hS := hS1; clear hS1) | (with_reducible refine wpList_box1_st hS rfl rfl rfl ?_; intro g1 w1 hS1; clear hS; replace hS := hS1; clear hS1) | (with_reducible refine wpList_alloc_st hS rfl rfl (by assumption) ?_; intro g1 w1 hS1; clear hS; replace hS := hS1; clear hS1) | (with_reducible refine wpList_alloc1_st hS rfl rfl (by assumption) rfl ?_; intro g1 w1 hS1; clear hS; replace hS := hS1; clear hS1) | ((with_reducible refine wpList_load_st 0 hS rfl rfl rfl rfl ?_ rfl ?_); focus (simp [scalarB, go_sem]; done)) | ((with_reducible refine wpList_loadall_st 0 hS rfl rfl rfl rfl ?_ (by kernel_rfl) ?_); focus (simp [rowB, go_sem]; done)) | ((with_reducible refine wpList_store_st 0 hS rfl rfl rfl rfl (by kernel_rfl) rfl rfl ?_); intro w1 hS1; clear hS; replace hS := hS1; clear hS1; try simp only [List.set_cons_zero, List.set_cons_succ, List.setIfInBounds_toArray, List.take_succ_cons, List.take_zero, List.drop_succ_cons, List.drop_zero, List.nil_append, List.cons_append, List.append_nil, List.drop_nil, List.take_nil, List.length_cons, List.length_nil, Nat.zero_add, Nat.add_zero, Nat.reduceAdd] at hS) | ((with_reducible refine wpList_storerow_st 0 hS rfl rfl rfl rfl (by kernel_rfl) rfl rfl rfl rfl ?_); intro w1 hS1; clear hS; replace hS := hS1; clear hS1; try simp only [List.set_cons_zero, List.set_cons_succ, List.setIfInBounds_toArray, List.take_succ_cons, List.take_zero, List.drop_succ_cons, List.drop_zero, List.nil_append, List.cons_append, List.append_nil, List.drop_nil, List.take_nil, List.length_cons, List.length_nil, Nat.zero_add, Nat.add_zero, Nat.reduceAdd] at hS))
          have kV := hS.krow (P := Tryd.prog) (j := 0) 0 rfl (t := 24) (by kernel_rfl) (n := 3) (vs := [.int .i64 vk, .int .i64 vn, .string vs]) (by kernel_rfl) rfl rfl
          have kU := hS.krow (P := Tryd.prog) (j := 3 + k * 3) 2 rfl (t := 24) (by kernel_rfl) (n := 3) (by kernel_rfl) hlu.out rfl
          refine mixs_begin (by kernel_rfl) hS ?_
          clear hS
          intro w2 hS
          refine mixs_take 0 (v := ?_) rfl (by kernel_rfl) (fun _ _ _ h => h) (by kernel_rfl) (by assumption) (fun s => ?hy) ?_; case hy => (refine Eq.trans (take_loadrow s rfl rfl kV) ?_; with_reducible rfl)
          try simp only [List.getElem_toArray, List.getElem_cons_succ, List.getElem_cons_zero, Act.put, List.setIfInBounds_toArray, List.set_cons_zero, List.set_cons_succ]
          refine mixs_take 1 (v := ?_) rfl (by kernel_rfl) (fun _ _ _ h => h) (by kernel_rfl) (by assumption) (fun s => ?hy) ?_; case hy => (go_simp <;> with_reducible rfl)
          try simp only [List.getElem_toArray, List.getElem_cons_succ, List.getElem_cons_zero, Act.put, List.setIfInBounds_toArray, List.set_cons_zero, List.set_cons_succ]
          refine mixs_take 2 (v := ?_) rfl (by kernel_rfl) (fun _ _ _ h => h) (by kernel_rfl) (by assumption) (fun s => ?hy) ?_; case hy => (go_simp <;> with_reducible rfl)
          try simp only [List.getElem_toArray, List.getElem_cons_succ, List.getElem_cons_zero, Act.put, List.setIfInBounds_toArray, List.set_cons_zero, List.set_cons_succ]
          refine mixs_take 3 (v := ?_) rfl (by kernel_rfl) (fun _ _ _ h => h) (by kernel_rfl) (by assumption) (fun s => ?hy) ?_; case hy => (go_simp <;> with_reducible rfl)
          try simp only [List.getElem_toArray, List.getElem_cons_succ, List.getElem_cons_zero, Act.put, List.setIfInBounds_toArray, List.set_cons_zero, List.set_cons_succ]
          refine mixs_take 4 (v := ?_) rfl (by kernel_rfl) (fun _ _ _ h => h) (by kernel_rfl) (by assumption) (fun s => ?hy) ?_; case hy => (refine Eq.trans (take_loadrow s rfl rfl kU) ?_; with_reducible rfl)
          try simp only [List.getElem_toArray, List.getElem_cons_succ, List.getElem_cons_zero, Act.put, List.setIfInBounds_toArray, List.set_cons_zero, List.set_cons_succ]
          refine mixs_take 5 (v := ?_) rfl (by kernel_rfl) (fun _ _ _ h => h) (by kernel_rfl) (by assumption) (fun s => ?hy) ?_; case hy => (go_simp <;> with_reducible rfl)
          try simp only [List.getElem_toArray, List.getElem_cons_succ, List.getElem_cons_zero, Act.put, List.setIfInBounds_toArray, List.set_cons_zero, List.set_cons_succ]
          refine wpAnyH_done (by kernel_rfl) ?_ _
          all_goals
            clear kV kU
            go_wp2_with fail
            go_roundg (8 - (k + 1))
            case measure => omega
            case rel => exact ⟨k + 1, q, ao, co, by omega, by go_num, rfl, Lib.hid (by rw [hnext.out, hq.out]), by rw [hnext.out]; exact hS.drop⟩
        · rw [decide_eq_false hvu] at hE
          rw [if_neg hvu] at hnext
          clear hvu
          have hl1 : q + 1 = (unlikeTo f g (k + 1)).length := by rw [hnext, List.length_append, hq.out]; rfl
          obtain ⟨vk, vn, vs⟩ := v
          obtain ⟨uk, un, us⟩ := u
          simp only [vlRow] at hix hlu hE
          replace hnext := Lib.hid hnext
          replace hl1 := Lib.hid hl1
          replace hlu := Lib.hid hlu
          go_wp2_with (first
            | (with_reducible refine wpList_box_st hS rfl rfl rfl ?_; intro g1 w1 hS1; clear hS; replace hS := hS1; clear hS1) | (with_reducible refine wpList_box1_st hS rfl rfl rfl ?_; intro g1 w1 hS1; clear hS; replace hS := hS1; clear hS1) | (with_reducible refine wpList_alloc_st hS rfl rfl (by assumption) ?_; intro g1 w1 hS1; clear hS; replace hS := hS1; clear hS1) | (with_reducible refine wpList_alloc1_st hS rfl rfl (by assumption) rfl ?_; intro g1 w1 hS1; clear hS; replace hS := hS1; clear hS1) | ((with_reducible refine wpList_load_st 0 hS rfl rfl rfl rfl ?_ rfl ?_); focus (simp [scalarB, go_sem]; done)) | ((with_reducible refine wpList_loadall_st 0 hS rfl rfl rfl rfl ?_ (by kernel_rfl) ?_); focus (simp [rowB, go_sem]; done)) | ((with_reducible refine wpList_store_st 0 hS rfl rfl rfl rfl (by kernel_rfl) rfl rfl ?_); intro w1 hS1; clear hS; replace hS := hS1; clear hS1; try simp only [List.set_cons_zero, List.set_cons_succ, List.setIfInBounds_toArray, List.take_succ_cons, List.take_zero, List.drop_succ_cons, List.drop_zero, List.nil_append, List.cons_append, List.append_nil, List.drop_nil, List.take_nil, List.length_cons, List.length_nil, Nat.zero_add, Nat.add_zero, Nat.reduceAdd] at hS) | ((with_reducible refine wpList_storerow_st 0 hS rfl rfl rfl rfl (by kernel_rfl) rfl rfl rfl rfl ?_); intro w1 hS1; clear hS; replace hS := hS1; clear hS1; try simp only [List.set_cons_zero, List.set_cons_succ, List.setIfInBounds_toArray, List.take_succ_cons, List.take_zero, List.drop_succ_cons, List.drop_zero, List.nil_append, List.cons_append, List.append_nil, List.drop_nil, List.take_nil, List.length_cons, List.length_nil, Nat.zero_add, Nat.add_zero, Nat.reduceAdd] at hS))
          have kV := hS.krow (P := Tryd.prog) (j := 0) 0 rfl (t := 24) (by kernel_rfl) (n := 3) (vs := [.int .i64 vk, .int .i64 vn, .string vs]) (by kernel_rfl) rfl rfl
          have kU := hS.krow (P := Tryd.prog) (j := 3 + k * 3) 2 rfl (t := 24) (by kernel_rfl) (n := 3) (by kernel_rfl) hlu.out rfl
          refine mixs_begin (by kernel_rfl) hS ?_
          clear hS
          intro w2 hS
          refine mixs_take 0 (v := ?_) rfl (by kernel_rfl) (fun _ _ _ h => h) (by kernel_rfl) (by assumption) (fun s => ?hy) ?_; case hy => (refine Eq.trans (take_loadrow s rfl rfl kV) ?_; with_reducible rfl)
          try simp only [List.getElem_toArray, List.getElem_cons_succ, List.getElem_cons_zero, Act.put, List.setIfInBounds_toArray, List.set_cons_zero, List.set_cons_succ]
          refine mixs_take 1 (v := ?_) rfl (by kernel_rfl) (fun _ _ _ h => h) (by kernel_rfl) (by assumption) (fun s => ?hy) ?_; case hy => (go_simp <;> with_reducible rfl)
          try simp only [List.getElem_toArray, List.getElem_cons_succ, List.getElem_cons_zero, Act.put, List.setIfInBounds_toArray, List.set_cons_zero, List.set_cons_succ]
          refine mixs_take 2 (v := ?_) rfl (by kernel_rfl) (fun _ _ _ h => h) (by kernel_rfl) (by assumption) (fun s => ?hy) ?_; case hy => (go_simp <;> with_reducible rfl)
          try simp only [List.getElem_toArray, List.getElem_cons_succ, List.getElem_cons_zero, Act.put, List.setIfInBounds_toArray, List.set_cons_zero, List.set_cons_succ]
          refine mixs_take 3 (v := ?_) rfl (by kernel_rfl) (fun _ _ _ h => h) (by kernel_rfl) (by assumption) (fun s => ?hy) ?_; case hy => (go_simp <;> with_reducible rfl)
          try simp only [List.getElem_toArray, List.getElem_cons_succ, List.getElem_cons_zero, Act.put, List.setIfInBounds_toArray, List.set_cons_zero, List.set_cons_succ]
          refine mixs_take 4 (v := ?_) rfl (by kernel_rfl) (fun _ _ _ h => h) (by kernel_rfl) (by assumption) (fun s => ?hy) ?_; case hy => (refine Eq.trans (take_loadrow s rfl rfl kU) ?_; with_reducible rfl)
          try simp only [List.getElem_toArray, List.getElem_cons_succ, List.getElem_cons_zero, Act.put, List.setIfInBounds_toArray, List.set_cons_zero, List.set_cons_succ]
          refine mixs_take 5 (v := ?_) rfl (by kernel_rfl) (fun _ _ _ h => h) (by kernel_rfl) (by assumption) (fun s => ?hy) ?_; case hy => (go_simp <;> with_reducible rfl)
          try simp only [List.getElem_toArray, List.getElem_cons_succ, List.getElem_cons_zero, Act.put, List.setIfInBounds_toArray, List.set_cons_zero, List.set_cons_succ]
          refine wpAnyH_done (by kernel_rfl) ?_ _
          all_goals
            clear kV kU
            go_wp2_with (first
              | ((with_reducible refine wpList_build1c_st hS rfl rfl Tryd.underlying75 elem_i rfl ?_); intro g3 w3 hS1; clear hS; have hS := hS1; clear hS1)
              | (at_builtin; (with_reducible refine wpList_app_st 2 hS rfl rfl rfl Tryd.underlying75 elem_i rfl (Src.slice Tryd.underlying75 (hS.blksl 0 rfl) rfl) rfl (vi_one [(k : Int)]) (by omega) (by unfold maxLen; omega) ?_); intro v5 w3 hS1; clear hS; have hS := hS1.drop; clear hS1; have hS1 := hS.drop; clear hS; have hS := hS1; clear hS1; obtain ⟨a5, c5, rfl, -⟩ := hS.row 0 rfl))
            go_roundg (8 - (k + 1))
            case measure => omega
            case rel => exact ⟨k + 1, q + 1, _, _, by omega, by go_num, rfl, hl1, by rw [hnext.out, nums, List.map_append, List.map_append]; exact hS⟩
      · obtain rfl : k = 8 := by omega
        have cM := make_any bl ao (unlikeTo f g 8) q co hq.out.symm (by omega) (unlikeTo_lt f g 8) wr (hS.rowsl 0 rfl)
        rw [hr.out] at cM
        clear hr
        replace cM := Lib.hid cM
        go_wp2_with (first
          | (go_at_call 47; (with_reducible refine (cM.out).mono ?_); rintro _ _ ⟨rfl, rfl⟩)
          | (with_reducible refine wpList_box_st hS rfl rfl rfl ?_; intro g1 w1 hS1; clear hS; replace hS := hS1; clear hS1) | (with_reducible refine wpList_box1_st hS rfl rfl rfl ?_; intro g1 w1 hS1; clear hS; replace hS := hS1; clear hS1) | (with_reducible refine wpList_alloc_st hS rfl rfl (by assumption) ?_; intro g1 w1 hS1; clear hS; replace hS := hS1; clear hS1) | (with_reducible refine wpList_alloc1_st hS rfl rfl (by assumption) rfl ?_; intro g1 w1 hS1; clear hS; replace hS := hS1; clear hS1) | ((with_reducible refine wpList_load_st 0 hS rfl rfl rfl rfl ?_ rfl ?_); focus (simp [scalarB, go_sem]; done)) | ((with_reducible refine wpList_loadall_st 0 hS rfl rfl rfl rfl ?_ (by kernel_rfl) ?_); focus (simp [rowB, go_sem]; done)) | ((with_reducible refine wpList_store_st 0 hS rfl rfl rfl rfl (by kernel_rfl) rfl rfl ?_); intro w1 hS1; clear hS; replace hS := hS1; clear hS1; try simp only [List.set_cons_zero, List.set_cons_succ, List.setIfInBounds_toArray, List.take_succ_cons, List.take_zero, List.drop_succ_cons, List.drop_zero, List.nil_append, List.cons_append, List.append_nil, List.drop_nil, List.take_nil, List.length_cons, List.length_nil, Nat.zero_add, Nat.add_zero, Nat.reduceAdd] at hS) | ((with_reducible refine wpList_storerow_st 0 hS rfl rfl rfl rfl (by kernel_rfl) rfl rfl rfl rfl ?_); intro w1 hS1; clear hS; replace hS := hS1; clear hS1; try simp only [List.set_cons_zero, List.set_cons_succ, List.setIfInBounds_toArray, List.take_succ_cons, List.take_zero, List.drop_succ_cons, List.drop_zero, List.nil_append, List.cons_append, List.append_nil, List.drop_nil, List.take_nil, List.length_cons, List.length_nil, Nat.zero_add, Nat.add_zero, Nat.reduceAdd] at hS) | ((with_reducible refine wpList_load_st 1 hS rfl rfl rfl rfl ?_ rfl ?_); focus (simp [scalarB, go_sem]; done)) | ((with_reducible refine wpList_loadall_st 1 hS rfl rfl rfl rfl ?_ (by kernel_rfl) ?_); focus (simp [rowB, go_sem]; done)) | ((with_reducible refine wpList_store_st 1 hS rfl rfl rfl rfl (by kernel_rfl) rfl rfl ?_); intro w1 hS1; clear hS; replace hS := hS1; clear hS1; try simp only [List.set_cons_zero, List.set_cons_succ, List.setIfInBounds_toArray, List.take_succ_cons, List.take_zero, List.drop_succ_cons, List.drop_zero, List.nil_append, List.cons_append, List.append_nil, List.drop_nil, List.take_nil, List.length_cons, List.length_nil, Nat.zero_add, Nat.add_zero, Nat.reduceAdd] at hS) | ((with_reducible refine wpList_storerow_st 1 hS rfl rfl rfl rfl (by kernel_rfl) rfl rfl rfl rfl ?_); intro w1 hS1; clear hS; replace hS := hS1; clear hS1; try simp only [List.set_cons_zero, List.set_cons_succ, List.setIfInBounds_toArray, List.take_succ_cons, List.take_zero, List.drop_succ_cons, List.drop_zero, List.nil_append, List.cons_append, List.append_nil, List.drop_nil, List.take_nil, List.length_cons, List.length_nil, Nat.zero_add, Nat.add_zero, Nat.reduceAdd] at hS) | ((with_reducible refine wpList_load_st 2 hS rfl rfl rfl rfl ?_ rfl ?_); focus (simp [scalarB, go_sem]; done)) | ((with_reducible refine wpList_loadall_st 2 hS rfl rfl rfl rfl ?_ (by kernel_rfl) ?_); focus (simp [rowB, go_sem]; done)) | ((with_reducible refine wpList_store_st 2 hS rfl rfl rfl rfl (by kernel_rfl) rfl rfl ?_); intro w1 hS1; clear hS; replace hS := hS1; clear hS1; try simp only [List.set_cons_zero, List.set_cons_succ, List.setIfInBounds_toArray, List.take_succ_cons, List.take_zero, List.drop_succ_cons, List.drop_zero, List.nil_append, List.cons_append, List.append_nil, List.drop_nil, List.take_nil, List.length_cons, List.length_nil, Nat.zero_add, Nat.add_zero, Nat.reduceAdd] at hS) | ((with_reducible refine wpList_storerow_st 2 hS rfl rfl rfl rfl (by kernel_rfl) rfl rfl rfl rfl ?_); intro w1 hS1; clear hS; replace hS := hS1; clear hS1; try simp only [List.set_cons_zero, List.set_cons_succ, List.setIfInBounds_toArray, List.take_succ_cons, List.take_zero, List.drop_succ_cons, List.drop_zero, List.nil_append, List.cons_append, List.append_nil, List.drop_nil, List.take_nil, List.length_cons, List.length_nil, Nat.zero_add, Nat.add_zero, Nat.reduceAdd] at hS))
        go_ret
        exact ⟨rfl, hS.below⟩
end Go.Proofs.YtplgpbbghhlbjaaDoor
