/- Texts laid together: Trans5 Trans6 CardLaw1 Trans7. -/
import Derived.Test.YtajldelodnjmoaaM12
import Derived.Test.YtajldelodnjmoaaM3
import Derived.Test.YtajldelodnjmoaaM7
import Derived.Test.YtajldelodnjmoaaM8
section
/- What a card's first and last turn come to. -/
set_option linter.unusedSimpArgs false
set_option linter.unusedVariables false
namespace Go.Ofp
open Go.RowKit
/-- Two results: one in a block of the call's own. -/
theorem results_blk_tmp {P : Program} {fn : Func} {a b : Tmp} {t : TypeId} (h : fn.results = #[.cell a t, .tmp b]) {tmps : Array Value} {g : Nat} (ht : tmps.getD a undef = .pointer (some ⟨g, 0, none⟩)) {w0 w : World} {F : List Nat} {L : List Ch} (hS : St w0 F L w) (i : Nat) {T : TypeId} {cs : Array Value}
    (hi : L[i]? = some (Ch.blk g T cs)) (hu : rowB P t = true) (hsz : sizeB P t cs.size = true) {v : Value} (hv : tmps.getD b undef = v) : (results fn tmps).run P w = .ok (.tuple #[.agg cs, v]) w := by
  have hr := run_loadrow (P := P) (w := w) hu hsz (g := g) (j := 0) (vs := cs.toList) (by simp) (Whole.range (hS.get i hi) 0 fun k v hk => by simpa using hk)
  have hl : (loadVar t ⟨g, 0, none⟩).run P w = .ok (.agg cs) w := by simpa [Instr.loadAt, Instr.sureAddr] using hr
  have ht' : tmps[a]?.getD undef = .pointer (some ⟨g, 0, none⟩) := by simpa using ht
  have hv' : tmps[b]?.getD undef = v := by simpa using hv
  unfold results
  simp [h, ht', asAddr, hl, hv']
end Go.Ofp
namespace Go.Proofs.Ytajldelodnjmoaa
open Go.RowKit Go.Ofp
set_option linter.unusedVariables false
set_option maxRecDepth 100000
set_option maxHeartbeats 4000000
theorem elem_item : Elem Try.prog 50 (.agg #[.int .i64 0, .int .i64 0, .int .i64 0, .int .u32 0, .int .i64 0, .int .i64 0, .string ⟨#[]⟩, .int .i64 0, .int .i64 0, .string ⟨#[]⟩, .int .i64 0, .int .i64 0, .string ⟨#[]⟩, .int .i64 0, .int .i64 0, .string ⟨#[]⟩, .int .i64 0, .int .i64 0, .string ⟨#[]⟩, .int .i64 0, .int .i64 0, .string ⟨#[]⟩, .int .i64 0, .int .i64 0, .string ⟨#[]⟩, .int .i64 0, .int .i64 0, .string ⟨#[]⟩]) 28 288 := Elem.mk (by kernel_rfl) (by rfl) (by decide)

/-- What is answered. -/
def itV : Option It → Value
  | some x => .tuple #[.agg (itRow x).toArray, .bool true]
  | none => .tuple #[.agg (itRow ⟨0, Cd.none 0⟩).toArray, .bool false]
theorem it_zero : (itRow ⟨0, Cd.none 0⟩).toArray = #[.int .i64 0, .int .i64 0, .int .i64 0, .int .u32 0, .int .i64 0, .int .i64 0, .string ⟨#[]⟩, .int .i64 0, .int .i64 0, .string ⟨#[]⟩, .int .i64 0, .int .i64 0, .string ⟨#[]⟩, .int .i64 0, .int .i64 0, .string ⟨#[]⟩, .int .i64 0, .int .i64 0, .string ⟨#[]⟩, .int .i64 0, .int .i64 0, .string ⟨#[]⟩, .int .i64 0, .int .i64 0, .string ⟨#[]⟩, .int .i64 0, .int .i64 0, .string ⟨#[]⟩] := rfl

theorem item_any (old : Int) (t : Tn) (hf : t.c.f.length = 8) (w : World) : Calls Try.prog 59 #[.int .i64 old, .agg (tnRow t).toArray] w fun e w' => e = .returned (itV (itemOf old t)) ∧ Below w.heap.size w w' := by
  have hS := St.start w
  have ei := elem_item
  have hio : itemOf old t = if old = t.new then none else if old = 0 then some ⟨1, t.c⟩ else if t.new = 0 then some ⟨2, Cd.none t.id⟩ else some ⟨3, t.c⟩ := rfl
  have hr0 : ∀ k, itRow ⟨k, t.c⟩ = .int .i64 k :: cdRow t.c := fun _ => rfl
  obtain ⟨seq, id, o1, new, c⟩ := t
  dsimp only at *
  have hcl : (cdRow c).length = 27 := cdRow_lenT c hf
  have hone : (cdRow c).all Value.oneCell' = true := by
    simp only [cdRow, List.all_cons, fl_one]
    rfl
  have htr : tnRow ⟨seq, id, o1, new, c⟩ = .int .i64 seq :: .int .i64 id :: .int .i64 o1 :: .int .i64 new :: cdRow c := rfl
  rw [htr]
  clear htr hf
  generalize cdRow c = RC at *
  have hd4 : ((Value.int .i64 seq :: .int .i64 id :: .int .i64 o1 :: .int .i64 new :: RC).toArray.toList.drop 4).take 27 = RC := List.take_of_length_le (Nat.le_of_eq hcl)
  have hb : ∀ k : Int, RC.zipIdx.foldl (fun cs x => cs.setIfInBounds (1 + x.2) x.1) #[Value.int .i64 k, .int .i64 0, .int .i64 0, .int .u32 0, .int .i64 0, .int .i64 0, .string ⟨#[]⟩, .int .i64 0, .int .i64 0, .string ⟨#[]⟩, .int .i64 0, .int .i64 0, .string ⟨#[]⟩, .int .i64 0, .int .i64 0, .string ⟨#[]⟩, .int .i64 0, .int .i64 0, .string ⟨#[]⟩, .int .i64 0, .int .i64 0, .string ⟨#[]⟩, .int .i64 0, .int .i64 0, .string ⟨#[]⟩, .int .i64 0, .int .i64 0, .string ⟨#[]⟩] = (Value.int .i64 k :: RC).toArray := fun k => by
    rw [foldl_put 1 RC 0 _ (by rw [hcl]; exact Nat.le_refl _), hcl]
    simp
  have hb1 := hb 1
  have hb3 := hb 3
  have hl1 : ∀ k : Int, (Value.int .i64 k :: RC).length = 28 := fun k => by simp [hcl]
  have ho1 : ∀ k : Int, (Value.int .i64 k :: RC).all Value.oneCell' = true := fun k => by rw [List.all_cons, hone]; rfl
  replace hl1 := Lib.hid hl1
  replace ho1 := Lib.hid ho1
  clear hb
  by_cases h1 : old = new
  · rw [if_pos h1] at hio
    have d1 : (old == new) = true := by simpa using h1
    rw [hio]
    clear hio h1
    go_enter Try.func59, Try.ntmps59
    go_wp2_with (first
      | (with_reducible refine wpList_box_st (L := []) hS rfl rfl rfl ?_; intro gc w1 hS1; clear hS; have hS := hS1; clear hS1)
      | (with_reducible refine wpList_alloc_st (L := [_]) hS rfl rfl (by assumption) ?_; intro go w1 hS1; clear hS; have hS := hS1; clear hS1)
      | ((with_reducible refine wpList_loadrow_st (n := 27) 1 hS rfl rfl rfl rfl ?_ (by kernel_rfl) hd4 hcl ?_); focus (simp [rowB, go_sem]; done))
      | ((with_reducible refine wpList_storerow_st 0 (vs := Value.int .i64 1 :: RC) (n := 28) hS rfl rfl rfl rfl (by kernel_rfl) rfl (hl1.out 1) (ho1.out 1) rfl ?_); intro w1 hS1; clear hS; have hS := hS1; clear hS1; try simp only [List.set_cons_zero, List.set_cons_succ, List.setIfInBounds_toArray, List.take_succ_cons, List.take_zero, List.drop_succ_cons, List.drop_zero, List.nil_append, List.cons_append, List.append_nil, List.drop_nil, List.take_nil, List.length_cons, List.length_nil, Nat.zero_add, Nat.add_zero, Nat.reduceAdd] at hS)
      | ((with_reducible refine wpList_storerow_st 0 (vs := Value.int .i64 3 :: RC) (n := 28) hS rfl rfl rfl rfl (by kernel_rfl) rfl (hl1.out 3) (ho1.out 3) rfl ?_); intro w1 hS1; clear hS; have hS := hS1; clear hS1; try simp only [List.set_cons_zero, List.set_cons_succ, List.setIfInBounds_toArray, List.take_succ_cons, List.take_zero, List.drop_succ_cons, List.drop_zero, List.nil_append, List.cons_append, List.append_nil, List.drop_nil, List.take_nil, List.length_cons, List.length_nil, Nat.zero_add, Nat.add_zero, Nat.reduceAdd] at hS)
      | (with_reducible refine wpList_box_st hS rfl rfl rfl ?_; intro g1 w1 hS1; clear hS; replace hS := hS1; clear hS1) | (with_reducible refine wpList_box1_st hS rfl rfl rfl ?_; intro g1 w1 hS1; clear hS; replace hS := hS1; clear hS1) | (with_reducible refine wpList_alloc_st hS rfl rfl (by assumption) ?_; intro g1 w1 hS1; clear hS; replace hS := hS1; clear hS1) | (with_reducible refine wpList_alloc1_st hS rfl rfl (by assumption) rfl ?_; intro g1 w1 hS1; clear hS; replace hS := hS1; clear hS1) | ((with_reducible refine wpList_load_st 0 hS rfl rfl rfl rfl ?_ rfl ?_); focus (simp [scalarB, go_sem]; done)) | ((with_reducible refine wpList_loadall_st 0 hS rfl rfl rfl rfl ?_ (by kernel_rfl) ?_); focus (simp [rowB, go_sem]; done)) | ((with_reducible refine wpList_store_st 0 hS rfl rfl rfl rfl (by kernel_rfl) rfl rfl ?_); intro w1 hS1; clear hS; replace hS := hS1; clear hS1; try simp only [List.set_cons_zero, List.set_cons_succ, List.setIfInBounds_toArray, List.take_succ_cons, List.take_zero, List.drop_succ_cons, List.drop_zero, List.nil_append, List.cons_append, List.append_nil, List.drop_nil, List.take_nil, List.length_cons, List.length_nil, Nat.zero_add, Nat.add_zero, Nat.reduceAdd] at hS) | ((with_reducible refine wpList_storerow_st 0 hS rfl rfl rfl rfl (by kernel_rfl) rfl rfl rfl rfl ?_); intro w1 hS1; clear hS; replace hS := hS1; clear hS1; try simp only [List.set_cons_zero, List.set_cons_succ, List.setIfInBounds_toArray, List.take_succ_cons, List.take_zero, List.drop_succ_cons, List.drop_zero, List.nil_append, List.cons_append, List.append_nil, List.drop_nil, List.take_nil, List.length_cons, List.length_nil, Nat.zero_add, Nat.add_zero, Nat.reduceAdd] at hS) | ((with_reducible refine wpList_load_st 1 hS rfl rfl rfl rfl ?_ rfl ?_); focus (simp [scalarB, go_sem]; done)) | ((with_reducible refine wpList_loadall_st 1 hS rfl rfl rfl rfl ?_ (by kernel_rfl) ?_); focus (simp [rowB, go_sem]; done)) | ((with_reducible refine wpList_store_st 1 hS rfl rfl rfl rfl (by kernel_rfl) rfl rfl ?_); intro w1 hS1; clear hS; replace hS := hS1; clear hS1; try simp only [List.set_cons_zero, List.set_cons_succ, List.setIfInBounds_toArray, List.take_succ_cons, List.take_zero, List.drop_succ_cons, List.drop_zero, List.nil_append, List.cons_append, List.append_nil, List.drop_nil, List.take_nil, List.length_cons, List.length_nil, Nat.zero_add, Nat.add_zero, Nat.reduceAdd] at hS) | ((with_reducible refine wpList_storerow_st 1 hS rfl rfl rfl rfl (by kernel_rfl) rfl rfl rfl rfl ?_); intro w1 hS1; clear hS; replace hS := hS1; clear hS1; try simp only [List.set_cons_zero, List.set_cons_succ, List.setIfInBounds_toArray, List.take_succ_cons, List.take_zero, List.drop_succ_cons, List.drop_zero, List.nil_append, List.cons_append, List.append_nil, List.drop_nil, List.take_nil, List.length_cons, List.length_nil, Nat.zero_add, Nat.add_zero, Nat.reduceAdd] at hS))
    exact bodyPost_ret (v := itV none) (by rw [itV, it_zero]; exact results_blk_tmp Try.results59 rfl hS 0 rfl (by kernel_rfl) (by kernel_rfl) rfl) rfl ⟨rfl, hS.below⟩
  have d1 : (old == new) = false := by simpa using h1
  rw [if_neg h1] at hio
  by_cases h2 : old = 0
  · rw [if_pos h2] at hio
    have d2 : (old == 0) = true := by simpa using h2
    rw [hio]
    clear hio h1 h2
    go_enter Try.func59, Try.ntmps59
    go_wp2_with (first
      | (with_reducible refine wpList_box_st (L := []) hS rfl rfl rfl ?_; intro gc w1 hS1; clear hS; have hS := hS1; clear hS1)
      | (with_reducible refine wpList_alloc_st (L := [_]) hS rfl rfl (by assumption) ?_; intro go w1 hS1; clear hS; have hS := hS1; clear hS1)
      | ((with_reducible refine wpList_loadrow_st (n := 27) 1 hS rfl rfl rfl rfl ?_ (by kernel_rfl) hd4 hcl ?_); focus (simp [rowB, go_sem]; done))
      | ((with_reducible refine wpList_storerow_st 0 (vs := Value.int .i64 1 :: RC) (n := 28) hS rfl rfl rfl rfl (by kernel_rfl) rfl (hl1.out 1) (ho1.out 1) rfl ?_); intro w1 hS1; clear hS; have hS := hS1; clear hS1; try simp only [List.set_cons_zero, List.set_cons_succ, List.setIfInBounds_toArray, List.take_succ_cons, List.take_zero, List.drop_succ_cons, List.drop_zero, List.nil_append, List.cons_append, List.append_nil, List.drop_nil, List.take_nil, List.length_cons, List.length_nil, Nat.zero_add, Nat.add_zero, Nat.reduceAdd] at hS)
      | ((with_reducible refine wpList_storerow_st 0 (vs := Value.int .i64 3 :: RC) (n := 28) hS rfl rfl rfl rfl (by kernel_rfl) rfl (hl1.out 3) (ho1.out 3) rfl ?_); intro w1 hS1; clear hS; have hS := hS1; clear hS1; try simp only [List.set_cons_zero, List.set_cons_succ, List.setIfInBounds_toArray, List.take_succ_cons, List.take_zero, List.drop_succ_cons, List.drop_zero, List.nil_append, List.cons_append, List.append_nil, List.drop_nil, List.take_nil, List.length_cons, List.length_nil, Nat.zero_add, Nat.add_zero, Nat.reduceAdd] at hS)
      | (with_reducible refine wpList_box_st hS rfl rfl rfl ?_; intro g1 w1 hS1; clear hS; replace hS := hS1; clear hS1) | (with_reducible refine wpList_box1_st hS rfl rfl rfl ?_; intro g1 w1 hS1; clear hS; replace hS := hS1; clear hS1) | (with_reducible refine wpList_alloc_st hS rfl rfl (by assumption) ?_; intro g1 w1 hS1; clear hS; replace hS := hS1; clear hS1) | (with_reducible refine wpList_alloc1_st hS rfl rfl (by assumption) rfl ?_; intro g1 w1 hS1; clear hS; replace hS := hS1; clear hS1) | ((with_reducible refine wpList_load_st 0 hS rfl rfl rfl rfl ?_ rfl ?_); focus (simp [scalarB, go_sem]; done)) | ((with_reducible refine wpList_loadall_st 0 hS rfl rfl rfl rfl ?_ (by kernel_rfl) ?_); focus (simp [rowB, go_sem]; done)) | ((with_reducible refine wpList_store_st 0 hS rfl rfl rfl rfl (by kernel_rfl) rfl rfl ?_); intro w1 hS1; clear hS; replace hS := hS1; clear hS1; try simp only [List.set_cons_zero, List.set_cons_succ, List.setIfInBounds_toArray, List.take_succ_cons, List.take_zero, List.drop_succ_cons, List.drop_zero, List.nil_append, List.cons_append, List.append_nil, List.drop_nil, List.take_nil, List.length_cons, List.length_nil, Nat.zero_add, Nat.add_zero, Nat.reduceAdd] at hS) | ((with_reducible refine wpList_storerow_st 0 hS rfl rfl rfl rfl (by kernel_rfl) rfl rfl rfl rfl ?_); intro w1 hS1; clear hS; replace hS := hS1; clear hS1; try simp only [List.set_cons_zero, List.set_cons_succ, List.setIfInBounds_toArray, List.take_succ_cons, List.take_zero, List.drop_succ_cons, List.drop_zero, List.nil_append, List.cons_append, List.append_nil, List.drop_nil, List.take_nil, List.length_cons, List.length_nil, Nat.zero_add, Nat.add_zero, Nat.reduceAdd] at hS) | ((with_reducible refine wpList_load_st 1 hS rfl rfl rfl rfl ?_ rfl ?_); focus (simp [scalarB, go_sem]; done)) | ((with_reducible refine wpList_loadall_st 1 hS rfl rfl rfl rfl ?_ (by kernel_rfl) ?_); focus (simp [rowB, go_sem]; done)) | ((with_reducible refine wpList_store_st 1 hS rfl rfl rfl rfl (by kernel_rfl) rfl rfl ?_); intro w1 hS1; clear hS; replace hS := hS1; clear hS1; try simp only [List.set_cons_zero, List.set_cons_succ, List.setIfInBounds_toArray, List.take_succ_cons, List.take_zero, List.drop_succ_cons, List.drop_zero, List.nil_append, List.cons_append, List.append_nil, List.drop_nil, List.take_nil, List.length_cons, List.length_nil, Nat.zero_add, Nat.add_zero, Nat.reduceAdd] at hS) | ((with_reducible refine wpList_storerow_st 1 hS rfl rfl rfl rfl (by kernel_rfl) rfl rfl rfl rfl ?_); intro w1 hS1; clear hS; replace hS := hS1; clear hS1; try simp only [List.set_cons_zero, List.set_cons_succ, List.setIfInBounds_toArray, List.take_succ_cons, List.take_zero, List.drop_succ_cons, List.drop_zero, List.nil_append, List.cons_append, List.append_nil, List.drop_nil, List.take_nil, List.length_cons, List.length_nil, Nat.zero_add, Nat.add_zero, Nat.reduceAdd] at hS))
    exact bodyPost_ret (v := itV (some ⟨1, c⟩)) (by rw [itV, hr0]; exact results_blk_tmp Try.results59 rfl hS 0 rfl (by kernel_rfl) (by rw [List.size_toArray, hl1.out]; kernel_rfl) rfl) rfl ⟨rfl, hS.below⟩
  have d2 : (old == 0) = false := by simpa using h2
  rw [if_neg h2] at hio
  by_cases h3 : new = 0
  · rw [if_pos h3] at hio
    have d3 : (new == 0) = true := by simpa using h3
    rw [hio]
    clear hio h1 h2 h3
    go_enter Try.func59, Try.ntmps59
    go_wp2_with (first
      | (with_reducible refine wpList_box_st (L := []) hS rfl rfl rfl ?_; intro gc w1 hS1; clear hS; have hS := hS1; clear hS1)
      | (with_reducible refine wpList_alloc_st (L := [_]) hS rfl rfl (by assumption) ?_; intro go w1 hS1; clear hS; have hS := hS1; clear hS1)
      | ((with_reducible refine wpList_loadrow_st (n := 27) 1 hS rfl rfl rfl rfl ?_ (by kernel_rfl) hd4 hcl ?_); focus (simp [rowB, go_sem]; done))
      | ((with_reducible refine wpList_storerow_st 0 (vs := Value.int .i64 1 :: RC) (n := 28) hS rfl rfl rfl rfl (by kernel_rfl) rfl (hl1.out 1) (ho1.out 1) rfl ?_); intro w1 hS1; clear hS; have hS := hS1; clear hS1; try simp only [List.set_cons_zero, List.set_cons_succ, List.setIfInBounds_toArray, List.take_succ_cons, List.take_zero, List.drop_succ_cons, List.drop_zero, List.nil_append, List.cons_append, List.append_nil, List.drop_nil, List.take_nil, List.length_cons, List.length_nil, Nat.zero_add, Nat.add_zero, Nat.reduceAdd] at hS)
      | ((with_reducible refine wpList_storerow_st 0 (vs := Value.int .i64 3 :: RC) (n := 28) hS rfl rfl rfl rfl (by kernel_rfl) rfl (hl1.out 3) (ho1.out 3) rfl ?_); intro w1 hS1; clear hS; have hS := hS1; clear hS1; try simp only [List.set_cons_zero, List.set_cons_succ, List.setIfInBounds_toArray, List.take_succ_cons, List.take_zero, List.drop_succ_cons, List.drop_zero, List.nil_append, List.cons_append, List.append_nil, List.drop_nil, List.take_nil, List.length_cons, List.length_nil, Nat.zero_add, Nat.add_zero, Nat.reduceAdd] at hS)
      | (with_reducible refine wpList_box_st hS rfl rfl rfl ?_; intro g1 w1 hS1; clear hS; replace hS := hS1; clear hS1) | (with_reducible refine wpList_box1_st hS rfl rfl rfl ?_; intro g1 w1 hS1; clear hS; replace hS := hS1; clear hS1) | (with_reducible refine wpList_alloc_st hS rfl rfl (by assumption) ?_; intro g1 w1 hS1; clear hS; replace hS := hS1; clear hS1) | (with_reducible refine wpList_alloc1_st hS rfl rfl (by assumption) rfl ?_; intro g1 w1 hS1; clear hS; replace hS := hS1; clear hS1) | ((with_reducible refine wpList_load_st 0 hS rfl rfl rfl rfl ?_ rfl ?_); focus (simp [scalarB, go_sem]; done)) | ((with_reducible refine wpList_loadall_st 0 hS rfl rfl rfl rfl ?_ (by kernel_rfl) ?_); focus (simp [rowB, go_sem]; done)) | ((with_reducible refine wpList_store_st 0 hS rfl rfl rfl rfl (by kernel_rfl) rfl rfl ?_); intro w1 hS1; clear hS; replace hS := hS1; clear hS1; try simp only [List.set_cons_zero, List.set_cons_succ, List.setIfInBounds_toArray, List.take_succ_cons, List.take_zero, List.drop_succ_cons, List.drop_zero, List.nil_append, List.cons_append, List.append_nil, List.drop_nil, List.take_nil, List.length_cons, List.length_nil, Nat.zero_add, Nat.add_zero, Nat.reduceAdd] at hS) | ((with_reducible refine wpList_storerow_st 0 hS rfl rfl rfl rfl (by kernel_rfl) rfl rfl rfl rfl ?_); intro w1 hS1; clear hS; replace hS := hS1; clear hS1; try simp only [List.set_cons_zero, List.set_cons_succ, List.setIfInBounds_toArray, List.take_succ_cons, List.take_zero, List.drop_succ_cons, List.drop_zero, List.nil_append, List.cons_append, List.append_nil, List.drop_nil, List.take_nil, List.length_cons, List.length_nil, Nat.zero_add, Nat.add_zero, Nat.reduceAdd] at hS) | ((with_reducible refine wpList_load_st 1 hS rfl rfl rfl rfl ?_ rfl ?_); focus (simp [scalarB, go_sem]; done)) | ((with_reducible refine wpList_loadall_st 1 hS rfl rfl rfl rfl ?_ (by kernel_rfl) ?_); focus (simp [rowB, go_sem]; done)) | ((with_reducible refine wpList_store_st 1 hS rfl rfl rfl rfl (by kernel_rfl) rfl rfl ?_); intro w1 hS1; clear hS; replace hS := hS1; clear hS1; try simp only [List.set_cons_zero, List.set_cons_succ, List.setIfInBounds_toArray, List.take_succ_cons, List.take_zero, List.drop_succ_cons, List.drop_zero, List.nil_append, List.cons_append, List.append_nil, List.drop_nil, List.take_nil, List.length_cons, List.length_nil, Nat.zero_add, Nat.add_zero, Nat.reduceAdd] at hS) | ((with_reducible refine wpList_storerow_st 1 hS rfl rfl rfl rfl (by kernel_rfl) rfl rfl rfl rfl ?_); intro w1 hS1; clear hS; replace hS := hS1; clear hS1; try simp only [List.set_cons_zero, List.set_cons_succ, List.setIfInBounds_toArray, List.take_succ_cons, List.take_zero, List.drop_succ_cons, List.drop_zero, List.nil_append, List.cons_append, List.append_nil, List.drop_nil, List.take_nil, List.length_cons, List.length_nil, Nat.zero_add, Nat.add_zero, Nat.reduceAdd] at hS))
    exact bodyPost_ret (v := itV (some ⟨2, Cd.none id⟩)) (by rw [itV]; exact results_blk_tmp Try.results59 rfl hS 0 rfl (by kernel_rfl) (by kernel_rfl) rfl) rfl ⟨rfl, hS.below⟩
  have d3 : (new == 0) = false := by simpa using h3
  rw [if_neg h3] at hio
  rw [hio]
  clear hio h1 h2 h3
  go_enter Try.func59, Try.ntmps59
  go_wp2_with (first
    | (with_reducible refine wpList_box_st (L := []) hS rfl rfl rfl ?_; intro gc w1 hS1; clear hS; have hS := hS1; clear hS1)
    | (with_reducible refine wpList_alloc_st (L := [_]) hS rfl rfl (by assumption) ?_; intro go w1 hS1; clear hS; have hS := hS1; clear hS1)
    | ((with_reducible refine wpList_loadrow_st (n := 27) 1 hS rfl rfl rfl rfl ?_ (by kernel_rfl) hd4 hcl ?_); focus (simp [rowB, go_sem]; done))
    | ((with_reducible refine wpList_storerow_st 0 (vs := Value.int .i64 1 :: RC) (n := 28) hS rfl rfl rfl rfl (by kernel_rfl) rfl (hl1.out 1) (ho1.out 1) rfl ?_); intro w1 hS1; clear hS; have hS := hS1; clear hS1; try simp only [List.set_cons_zero, List.set_cons_succ, List.setIfInBounds_toArray, List.take_succ_cons, List.take_zero, List.drop_succ_cons, List.drop_zero, List.nil_append, List.cons_append, List.append_nil, List.drop_nil, List.take_nil, List.length_cons, List.length_nil, Nat.zero_add, Nat.add_zero, Nat.reduceAdd] at hS)
    | ((with_reducible refine wpList_storerow_st 0 (vs := Value.int .i64 3 :: RC) (n := 28) hS rfl rfl rfl rfl (by kernel_rfl) rfl (hl1.out 3) (ho1.out 3) rfl ?_); intro w1 hS1; clear hS; have hS := hS1; clear hS1; try simp only [List.set_cons_zero, List.set_cons_succ, List.setIfInBounds_toArray, List.take_succ_cons, List.take_zero, List.drop_succ_cons, List.drop_zero, List.nil_append, List.cons_append, List.append_nil, List.drop_nil, List.take_nil, List.length_cons, List.length_nil, Nat.zero_add, Nat.add_zero, Nat.reduceAdd] at hS)
    | (with_reducible refine wpList_box_st hS rfl rfl rfl ?_; intro g1 w1 hS1; clear hS; replace hS := hS1; clear hS1) | (with_reducible refine wpList_box1_st hS rfl rfl rfl ?_; intro g1 w1 hS1; clear hS; replace hS := hS1; clear hS1) | (with_reducible refine wpList_alloc_st hS rfl rfl (by assumption) ?_; intro g1 w1 hS1; clear hS; replace hS := hS1; clear hS1) | (with_reducible refine wpList_alloc1_st hS rfl rfl (by assumption) rfl ?_; intro g1 w1 hS1; clear hS; replace hS := hS1; clear hS1) | ((with_reducible refine wpList_load_st 0 hS rfl rfl rfl rfl ?_ rfl ?_); focus (simp [scalarB, go_sem]; done)) | ((with_reducible refine wpList_loadall_st 0 hS rfl rfl rfl rfl ?_ (by kernel_rfl) ?_); focus (simp [rowB, go_sem]; done)) | ((with_reducible refine wpList_store_st 0 hS rfl rfl rfl rfl (by kernel_rfl) rfl rfl ?_); intro w1 hS1; clear hS; replace hS := hS1; clear hS1; try simp only [List.set_cons_zero, List.set_cons_succ, List.setIfInBounds_toArray, List.take_succ_cons, List.take_zero, List.drop_succ_cons, List.drop_zero, List.nil_append, List.cons_append, List.append_nil, List.drop_nil, List.take_nil, List.length_cons, List.length_nil, Nat.zero_add, Nat.add_zero, Nat.reduceAdd] at hS) | ((with_reducible refine wpList_storerow_st 0 hS rfl rfl rfl rfl (by kernel_rfl) rfl rfl rfl rfl ?_); intro w1 hS1; clear hS; replace hS := hS1; clear hS1; try simp only [List.set_cons_zero, List.set_cons_succ, List.setIfInBounds_toArray, List.take_succ_cons, List.take_zero, List.drop_succ_cons, List.drop_zero, List.nil_append, List.cons_append, List.append_nil, List.drop_nil, List.take_nil, List.length_cons, List.length_nil, Nat.zero_add, Nat.add_zero, Nat.reduceAdd] at hS) | ((with_reducible refine wpList_load_st 1 hS rfl rfl rfl rfl ?_ rfl ?_); focus (simp [scalarB, go_sem]; done)) | ((with_reducible refine wpList_loadall_st 1 hS rfl rfl rfl rfl ?_ (by kernel_rfl) ?_); focus (simp [rowB, go_sem]; done)) | ((with_reducible refine wpList_store_st 1 hS rfl rfl rfl rfl (by kernel_rfl) rfl rfl ?_); intro w1 hS1; clear hS; replace hS := hS1; clear hS1; try simp only [List.set_cons_zero, List.set_cons_succ, List.setIfInBounds_toArray, List.take_succ_cons, List.take_zero, List.drop_succ_cons, List.drop_zero, List.nil_append, List.cons_append, List.append_nil, List.drop_nil, List.take_nil, List.length_cons, List.length_nil, Nat.zero_add, Nat.add_zero, Nat.reduceAdd] at hS) | ((with_reducible refine wpList_storerow_st 1 hS rfl rfl rfl rfl (by kernel_rfl) rfl rfl rfl rfl ?_); intro w1 hS1; clear hS; replace hS := hS1; clear hS1; try simp only [List.set_cons_zero, List.set_cons_succ, List.setIfInBounds_toArray, List.take_succ_cons, List.take_zero, List.drop_succ_cons, List.drop_zero, List.nil_append, List.cons_append, List.append_nil, List.drop_nil, List.take_nil, List.length_cons, List.length_nil, Nat.zero_add, Nat.add_zero, Nat.reduceAdd] at hS))
  exact bodyPost_ret (v := itV (some ⟨3, c⟩)) (by rw [itV, hr0]; exact results_blk_tmp Try.results59 rfl hS 0 rfl (by kernel_rfl) (by rw [List.size_toArray, hl1.out]; kernel_rfl) rfl) rfl ⟨rfl, hS.below⟩
end Go.Proofs.Ytajldelodnjmoaa
end

section
/- What turns come to: the program's. -/
set_option linter.unusedSimpArgs false
set_option linter.unusedVariables false
namespace Go.Ofp
open Go.RowKit
theorem St.mapmono {P : Program} {w0 w : World} {F : List Nat} {L : List Ch} {k : TypeId} {b n m : Nat} {f : Int → Option Value} (hS : St w0 F L w) (i : Nat) (hi : L[i]? = some (Ch.map P k b n f)) (hm : n ≤ m) : St w0 F (L.set i (Ch.map P k b m f)) w :=
  hS.upd i hi (Fr.refl [] w) (by simp) ((hS.get i hi).mono hm) (by simp [Ch.map])
theorem net_snoc (l : List Tn) (ks : List Int) (j : Nat) (hj : j < ks.length) : (ks.take (j + 1)).filterMap (netAt l) = (ks.take j).filterMap (netAt l) ++ (netAt l ks[j]).toList := by
  rw [List.take_succ_eq_append_getElem hj, List.filterMap_append]
  cases h : netAt l ks[j] <;> simp [h]
theorem itemOf_len {o : Int} {t : Tn} {x : It} (h : itemOf o t = some x) (hf : t.c.f.length = 8) : x.c.f.length = 8 := by
  unfold itemOf at h
  by_cases h1 : o = t.new
  · rw [if_pos h1] at h; cases h
  · rw [if_neg h1] at h
    by_cases h2 : o = 0
    · rw [if_pos h2] at h; cases h; exact hf
    · rw [if_neg h2] at h
      by_cases h3 : t.new = 0
      · rw [if_pos h3] at h; cases h; rfl
      · rw [if_neg h3] at h; cases h; exact hf
end Go.Ofp
namespace Go.Proofs.Ytajldelodnjmoaa
open Go.RowKit Go.Ofp
set_option linter.unusedVariables false
set_option maxRecDepth 100000
set_option maxHeartbeats 4000000

theorem zero_turn (W : World) : (zeroValue 52).run Try.prog W = .ok (.agg (tnRow ⟨0, 0, 0, 0, Cd.none 0⟩).toArray) W := by kernel_rfl
theorem itRow_one (x : It) : (itRow x).all Value.oneCell' = true := by
  simp only [itRow, cdRow, List.all_cons, fl_one]
  rfl

theorem ikeys_st (mb : Option Nat) (W : World) : Calls Try.prog 58 #[.map mb] W fun e w' => ∃ B, e = .returned (.func (.func 72) #[] #[.pointer (some ⟨B, 0, none⟩)]) ∧ St W [] [Ch.blk B 81 #[.map mb]] w' :=
  (ikeys_any mb W).mono fun e w' ⟨h1, h2⟩ => ⟨_, h1, h2 ▸ (St.start W).alloc _ _⟩
theorem isorted_st {w0 w : World} {F : List Nat} {L : List Ch} (i k : Nat) {B b n : Nat} {f : Int → Option Value} (hS : St w0 F L w) (hi : L[i]? = some (Ch.blk B 81 #[.map (some b)])) (hk : L[k]? = some (Ch.map Try.prog 3 b n f)) (hn : n ≤ 100000) :
    Calls Try.prog 57 #[.func (.func 72) #[] #[.pointer (some ⟨B, 0, none⟩)]] w fun e w' => ∃ v ks, e = .returned v ∧ Hid (IsKeys f ks) ∧ Hid (ks.length ≤ n) ∧ St w [] [Ch.row 3 1 v ks.length (ks.map vi)] w' :=
  (isorted_any B b n f w (by rw [hS.cell i hi]; rfl) (hS.get k hk) hn).mono fun e w' ⟨v, ks, h1, h2, h3, h4, h5⟩ => ⟨v, ks, h1, Lib.hid h2, Lib.hid h3, (St.start w).freshB h4 h5⟩

theorem tnet_any (a : Option Addr) (n c : Nat) (l : List Tn) (w : World) (hl : Lst tnRow TnIn w a n c l) (hn : n ≤ 1000) :
    Calls Try.prog 26 #[.slice a n c] w fun e w' => ∃ a' c', e = .returned (.slice a' (netOf l).length c') ∧ St w [] [Ch.row 50 28 (.slice a' (netOf l).length c') (netOf l).length ((netOf l).map itRow).flatten] w' := by
  have hS := St.start w
  have et := elem_turn
  have ei := elem_item
  have cI := Lib.hid fun (old : Int) (t : Tn) (hf : t.c.f.length = 8) (W : World) => item_any old t hf W
  have cK := Lib.hid fun (mb : Option Nat) (W : World) => ikeys_st mb W
  have hlen := Lib.hid hl.len
  have hbase := Lib.hid (hl.base (by decide) (tn_lens hl))
  have hlens := Lib.hid (tn_lens hl)
  have hmem := Lib.hid hl.mem
  replace hl := Lib.hid hl
  obtain ⟨N, hN⟩ : ∃ N, netOf l = N := ⟨_, rfl⟩
  rw [hN]
  replace hN := Lib.hid hN
  go_enter Try.func26, Try.ntmps26
  go_wp2_with (first
    | ((with_reducible refine wpList_makemap_st (k := 3) hS rfl rfl Try.underlying81 ?_); intro gm w1 hS1; clear hS; have hS := hS1; clear hS1)
    | ((with_reducible refine wpList_makemap_st (k := 3) hS rfl rfl Try.underlying87 ?_); intro gn w1 hS1; clear hS; have hS := hS1; clear hS1))
  have hS1 : St w [] [Ch.map Try.prog 3 gm 0 (firstOldM []), Ch.map Try.prog 3 gn 0 (lastM tnRow [])] _ := hS.swap
  clear hS
  have hS := hS1
  clear hS1
  go_loopg [18] n (fun gk vx wr => ∃ j : Nat, j + gk = n ∧ vx = .int .i64 j ∧ St w [] [Ch.map Try.prog 3 gm j (firstOldM (l.take j)), Ch.map Try.prog 3 gn j (lastM tnRow (l.take j))] wr)
  case atStart => exact ⟨0, Nat.zero_add _, rfl, hS⟩
  case round =>
    clear hS
    obtain ⟨j, hj, rfl, hS⟩ := hrel
    by_cases hlt : j < n
    · have hjl : j < l.length := by rw [hlen.out]; exact hlt
      obtain ⟨b, off, rfl⟩ := hbase.out (by omega)
      have hrow := hl.out.rowb hlens.out j hjl
      have hrl := hlens.out _ (List.getElem_mem hjl)
      have hin := hmem.out _ (List.getElem_mem hjl)
      have htk : l.take (j + 1) = l.take j ++ [l[j]] := List.take_succ_eq_append_getElem hjl
      have hone := tnRow_one l[j]
      have hsz : sizeB Try.prog 52 (tnRow l[j]).toArray.size = true := by rw [List.size_toArray, hrl]; kernel_rfl
      have hps := lastM_snoc tnRow (l.take j) l[j]
      rw [← htk] at hps
      have hwf := wf_of_i64 hin.id
      have hn2 : j < maxLen := by unfold maxLen; omega
      have hlk : ∀ o : Option Tn, firstOf (l.take j) l[j].id = o → firstOldM (l.take j) l[j].id = o.map fun t => .int .i64 t.old := fun o ho => by unfold firstOldM; rw [ho]
      have hnew := firstOldM_new (l.take j) l[j]
      have hold := firstOldM_old (l.take j) l[j]
      rw [← htk] at hnew hold
      replace hrow := Lib.hid hrow
      clear htk hin hbase
      have hcells : tnRow l[j] = .int .i64 l[j].seq :: .int .i64 l[j].id :: .int .i64 l[j].old :: .int .i64 l[j].new :: cdRow l[j].c := rfl
      rw [hcells] at hrow hrl hone hsz hps
      clear hcells
      replace hps := Lib.hid hps
      generalize lastM tnRow (l.take j) = M2 at *
      cases hk : firstOf (l.take j) l[j].id with
      | none =>
        have he := hlk _ hk
        have hfo := Lib.hid (hnew hk)
        clear hlk hk hnew hold
        generalize firstOldM (l.take j) = M at *
        generalize l[j] = t at *
        obtain ⟨seq, id, old, new, cc⟩ := t
        dsimp only at *
        generalize cdRow cc = R at *
        go_wp2_with (first
          | (with_reducible refine wpList_rangerow (n := 31) (range_old hS hrow.out) rfl rfl rfl (by kernel_rfl) (by kernel_rfl) hrl ?_)
          | ((with_reducible refine wpList_alloc_st (L := [_, _]) hS rfl rfl et ?_); intro gT w1 hS1; clear hS; have hS := hS1; clear hS1)
          | ((with_reducible refine wpList_storerow_st (n := 31) (vs := .int .i64 seq :: .int .i64 id :: .int .i64 old :: .int .i64 new :: R) 0 hS rfl rfl rfl rfl (by kernel_rfl) rfl hrl hone (by kernel_rfl) ?_); intro w1 hS1; clear hS; have hS := hS1; clear hS1; try simp only [List.set_cons_zero, List.set_cons_succ, List.setIfInBounds_toArray, List.take_succ_cons, List.take_zero, List.drop_succ_cons, List.drop_zero, List.nil_append, List.cons_append, List.append_nil, List.drop_nil, List.take_nil, List.length_cons, List.length_nil, Nat.zero_add, Nat.add_zero, Nat.reduceAdd] at hS)
          | ((with_reducible refine wpList_loadall_st 0 hS rfl rfl rfl rfl ?_ hsz ?_); focus (simp [rowB, go_sem]; done))
          | ((with_reducible refine wpList_lookok_st (k := 3) 1 hS rfl rfl rfl rfl rfl Try.underlying3 Try.underlying81 zero_int hwf ?_); rw [he]; simp only [Option.map_none, Option.map_some, Option.getD_none, Option.getD_some, Option.isSome_none, Option.isSome_some])
          | ((with_reducible refine wpList_mapput_st (u := .int .i64 old) (k := 3) 1 hS rfl rfl rfl rfl rfl rfl Try.underlying3 Try.underlying81 hn2 hwf ?_); intro w5 hS1; clear hS; have hS := hS1; clear hS1; simp only [List.set_cons_zero, List.set_cons_succ] at hS)
          | ((with_reducible refine wpList_mapput_st (u := .agg (Value.int .i64 seq :: .int .i64 id :: .int .i64 old :: .int .i64 new :: R).toArray) (k := 3) 2 hS rfl rfl rfl rfl rfl rfl Try.underlying3 Try.underlying87 hn2 hwf ?_); intro w6 hS1; clear hS; have hS := hS1; clear hS1; simp only [List.set_cons_zero, List.set_cons_succ] at hS)
          | (with_reducible refine wpList_box_st hS rfl rfl rfl ?_; intro g1 w1 hS1; clear hS; replace hS := hS1; clear hS1) | (with_reducible refine wpList_box1_st hS rfl rfl rfl ?_; intro g1 w1 hS1; clear hS; replace hS := hS1; clear hS1) | (with_reducible refine wpList_alloc_st hS rfl rfl (by assumption) ?_; intro g1 w1 hS1; clear hS; replace hS := hS1; clear hS1) | (with_reducible refine wpList_alloc1_st hS rfl rfl (by assumption) rfl ?_; intro g1 w1 hS1; clear hS; replace hS := hS1; clear hS1) | ((with_reducible refine wpList_load_st 0 hS rfl rfl rfl rfl ?_ rfl ?_); focus (simp [scalarB, go_sem]; done)) | ((with_reducible refine wpList_loadall_st 0 hS rfl rfl rfl rfl ?_ (by kernel_rfl) ?_); focus (simp [rowB, go_sem]; done)) | ((with_reducible refine wpList_store_st 0 hS rfl rfl rfl rfl (by kernel_rfl) rfl rfl ?_); intro w1 hS1; clear hS; replace hS := hS1; clear hS1; try simp only [List.set_cons_zero, List.set_cons_succ, List.setIfInBounds_toArray, List.take_succ_cons, List.take_zero, List.drop_succ_cons, List.drop_zero, List.nil_append, List.cons_append, List.append_nil, List.drop_nil, List.take_nil, List.length_cons, List.length_nil, Nat.zero_add, Nat.add_zero, Nat.reduceAdd] at hS) | ((with_reducible refine wpList_storerow_st 0 hS rfl rfl rfl rfl (by kernel_rfl) rfl rfl rfl rfl ?_); intro w1 hS1; clear hS; replace hS := hS1; clear hS1; try simp only [List.set_cons_zero, List.set_cons_succ, List.setIfInBounds_toArray, List.take_succ_cons, List.take_zero, List.drop_succ_cons, List.drop_zero, List.nil_append, List.cons_append, List.append_nil, List.drop_nil, List.take_nil, List.length_cons, List.length_nil, Nat.zero_add, Nat.add_zero, Nat.reduceAdd] at hS))
        go_roundg (n - (j + 1))
        case measure => omega
        case rel => exact ⟨j + 1, by omega, by go_num, by rw [← hps.out, ← hfo.out]; exact hS.drop⟩
      | some u =>
        have he := hlk _ hk
        have hfo := Lib.hid (hold u hk)
        clear hlk hk hnew hold
        generalize firstOldM (l.take j) = M at *
        generalize l[j] = t at *
        obtain ⟨seq, id, old, new, cc⟩ := t
        dsimp only at *
        generalize cdRow cc = R at *
        go_wp2_with (first
          | (with_reducible refine wpList_rangerow (n := 31) (range_old hS hrow.out) rfl rfl rfl (by kernel_rfl) (by kernel_rfl) hrl ?_)
          | ((with_reducible refine wpList_alloc_st (L := [_, _]) hS rfl rfl et ?_); intro gT w1 hS1; clear hS; have hS := hS1; clear hS1)
          | ((with_reducible refine wpList_storerow_st (n := 31) (vs := .int .i64 seq :: .int .i64 id :: .int .i64 old :: .int .i64 new :: R) 0 hS rfl rfl rfl rfl (by kernel_rfl) rfl hrl hone (by kernel_rfl) ?_); intro w1 hS1; clear hS; have hS := hS1; clear hS1; try simp only [List.set_cons_zero, List.set_cons_succ, List.setIfInBounds_toArray, List.take_succ_cons, List.take_zero, List.drop_succ_cons, List.drop_zero, List.nil_append, List.cons_append, List.append_nil, List.drop_nil, List.take_nil, List.length_cons, List.length_nil, Nat.zero_add, Nat.add_zero, Nat.reduceAdd] at hS)
          | ((with_reducible refine wpList_loadall_st 0 hS rfl rfl rfl rfl ?_ hsz ?_); focus (simp [rowB, go_sem]; done))
          | ((with_reducible refine wpList_lookok_st (k := 3) 1 hS rfl rfl rfl rfl rfl Try.underlying3 Try.underlying81 zero_int hwf ?_); rw [he]; simp only [Option.map_none, Option.map_some, Option.getD_none, Option.getD_some, Option.isSome_none, Option.isSome_some])
          | ((with_reducible refine wpList_mapput_st (u := .int .i64 old) (k := 3) 1 hS rfl rfl rfl rfl rfl rfl Try.underlying3 Try.underlying81 hn2 hwf ?_); intro w5 hS1; clear hS; have hS := hS1; clear hS1; simp only [List.set_cons_zero, List.set_cons_succ] at hS)
          | ((with_reducible refine wpList_mapput_st (u := .agg (Value.int .i64 seq :: .int .i64 id :: .int .i64 old :: .int .i64 new :: R).toArray) (k := 3) 2 hS rfl rfl rfl rfl rfl rfl Try.underlying3 Try.underlying87 hn2 hwf ?_); intro w6 hS1; clear hS; have hS := hS1; clear hS1; simp only [List.set_cons_zero, List.set_cons_succ] at hS)
          | (with_reducible refine wpList_box_st hS rfl rfl rfl ?_; intro g1 w1 hS1; clear hS; replace hS := hS1; clear hS1) | (with_reducible refine wpList_box1_st hS rfl rfl rfl ?_; intro g1 w1 hS1; clear hS; replace hS := hS1; clear hS1) | (with_reducible refine wpList_alloc_st hS rfl rfl (by assumption) ?_; intro g1 w1 hS1; clear hS; replace hS := hS1; clear hS1) | (with_reducible refine wpList_alloc1_st hS rfl rfl (by assumption) rfl ?_; intro g1 w1 hS1; clear hS; replace hS := hS1; clear hS1) | ((with_reducible refine wpList_load_st 0 hS rfl rfl rfl rfl ?_ rfl ?_); focus (simp [scalarB, go_sem]; done)) | ((with_reducible refine wpList_loadall_st 0 hS rfl rfl rfl rfl ?_ (by kernel_rfl) ?_); focus (simp [rowB, go_sem]; done)) | ((with_reducible refine wpList_store_st 0 hS rfl rfl rfl rfl (by kernel_rfl) rfl rfl ?_); intro w1 hS1; clear hS; replace hS := hS1; clear hS1; try simp only [List.set_cons_zero, List.set_cons_succ, List.setIfInBounds_toArray, List.take_succ_cons, List.take_zero, List.drop_succ_cons, List.drop_zero, List.nil_append, List.cons_append, List.append_nil, List.drop_nil, List.take_nil, List.length_cons, List.length_nil, Nat.zero_add, Nat.add_zero, Nat.reduceAdd] at hS) | ((with_reducible refine wpList_storerow_st 0 hS rfl rfl rfl rfl (by kernel_rfl) rfl rfl rfl rfl ?_); intro w1 hS1; clear hS; replace hS := hS1; clear hS1; try simp only [List.set_cons_zero, List.set_cons_succ, List.setIfInBounds_toArray, List.take_succ_cons, List.take_zero, List.drop_succ_cons, List.drop_zero, List.nil_append, List.cons_append, List.append_nil, List.drop_nil, List.take_nil, List.length_cons, List.length_nil, Nat.zero_add, Nat.add_zero, Nat.reduceAdd] at hS))
        go_roundg (n - (j + 1))
        case measure => omega
        case rel => exact ⟨j + 1, by omega, by go_num, by rw [← hps.out, hfo.out]; exact hS.drop.mapmono 0 rfl (Nat.le_succ j)⟩
    · have hjn : j = n := by omega
      subst hjn
      have htl : l.take j = l := List.take_of_length_le (by rw [hlen.out]; exact Nat.le_refl _)
      rw [htl] at hS
      have hwfs : ∀ t ∈ l, (Lit.int .i64 t.id).wf = true := fun t ht => wf_of_i64 (hmem.out t ht).id
      have hj5 : j ≤ 100000 := by omega
      replace hwfs := Lib.hid hwfs
      clear htl hlt
      go_wp2_with (first
        | (go_at_call 58; (with_reducible refine (cK.out _ _).mono ?_); rintro _ w3 ⟨B, rfl, hk3⟩; have hS1 := hS.made hk3; clear hS hk3; have hS : St w [] [Ch.blk B 81 #[.map (some gm)], Ch.map Try.prog 3 gm j (firstOldM l), Ch.map Try.prog 3 gn j (lastM tnRow l)] w3 := hS1; clear hS1)
        | (go_at_call 57; (with_reducible refine (isorted_st 0 1 hS rfl rfl hj5).mono ?_); rintro _ w4 ⟨vk, ks, rfl, hks, hkl, hk4⟩; obtain ⟨ak, ck, rfl, -⟩ := hk4.row 0 rfl; have hS1 := hS.made hk4; clear hS hk4; have hS : St w [] [Ch.row 3 1 (.slice ak ks.length ck) ks.length (ks.map vi), Ch.blk B 81 #[.map (some gm)], Ch.map Try.prog 3 gm j (firstOldM l), Ch.map Try.prog 3 gn j (lastM tnRow l)] w4 := hS1; clear hS1))
      have hki := Lib.hid (keys_ids hwfs.out hks.out)
      have hS1 := hS.drop1.nilrow 50 28
      clear hS
      have hS := hS1
      clear hS1
      have hno := Lib.hid (show N = ks.filterMap (netAt l) by rw [← hN.out]; unfold netOf; rw [hki.out])
      go_loopg [9, 45] ks.length (fun gk vo vx wr => ∃ (q : Nat) (ao : Option Addr) (co : Nat), q + gk = ks.length ∧ vx = .int .i64 q ∧ vo = .slice ao ((ks.take q).filterMap (netAt l)).length co ∧ St w [] [Ch.row 50 28 (.slice ao ((ks.take q).filterMap (netAt l)).length co) ((ks.take q).filterMap (netAt l)).length (((ks.take q).filterMap (netAt l)).map itRow).flatten, Ch.row 3 1 (.slice ak ks.length ck) ks.length (ks.map vi), Ch.map Try.prog 3 gm j (firstOldM l), Ch.map Try.prog 3 gn j (lastM tnRow l)] wr)
      case atStart => exact ⟨0, none, 0, Nat.zero_add _, rfl, rfl, hS⟩
      case round =>
        clear hS
        obtain ⟨q, ao, co, hq, rfl, rfl, hS⟩ := hrel
        by_cases hlt : q < ks.length
        · obtain ⟨bk, ok, rfl, hck⟩ := sl_int (hS.rowsl 1 rfl) q hlt
          have hmk : ks[q] ∈ idsOf l := by rw [← hki.out]; exact List.getElem_mem hlt
          obtain ⟨t0, ht0, et0⟩ := (idsOf_spec l).2 ks[q] |>.1 hmk
          obtain ⟨a1, ha1⟩ : ∃ a1, firstOf l ks[q] = some a1 := by
            cases h : firstOf l ks[q] with
            | some a1 => exact ⟨a1, rfl⟩
            | none => exact absurd et0 (firstOf_none.1 h t0 ht0)
          obtain ⟨b1, hb1⟩ := first_last ha1
          have he1 : firstOldM l ks[q] = some (.int .i64 a1.old) := by unfold firstOldM; rw [ha1]; rfl
          have he2 : lastM tnRow l ks[q] = some (.agg (tnRow b1).toArray) := by unfold lastM; rw [hb1]; rfl
          have hwk : (Lit.int .i64 ks[q]).wf = true := by rw [← et0]; exact hwfs.out t0 ht0
          have hnet : netAt l ks[q] = itemOf a1.old b1 := by unfold netAt; rw [ha1, hb1]; rfl
          have hsn := net_snoc l ks q hlt
          rw [hnet] at hsn
          have hb1m := hmem.out b1 (lastOf_mem hb1).1
          have hIt := cI.out a1.old b1 hb1m.c.len
          have hN0 : ((ks.take q).filterMap (netAt l)).length ≤ 1000 := by
            have := List.length_filterMap_le (netAt l) (ks.take q)
            have h2 := hkl.out
            rw [List.length_take] at this
            omega
          have hq1 : q ≤ 1000 := by have := hkl.out; omega
          generalize firstOldM l = M1 at *
          generalize lastM tnRow l = M2 at *
          generalize hfs : (ks.take q).filterMap (netAt l) = fs at *
          clear hmk et0 ha1 hb1 hnet
          cases hio : itemOf a1.old b1 with
          | none =>
            rw [hio] at hIt hsn
            have hV : itV none = .tuple #[.agg (itRow ⟨0, Cd.none 0⟩).toArray, .bool false] := rfl
            rw [hV] at hIt
            simp only [Option.toList_none, List.append_nil] at hsn
            have hil : (itRow ⟨0, Cd.none 0⟩).length = 28 := rfl
            have hio1 := itRow_one ⟨0, Cd.none 0⟩
            generalize itRow ⟨0, Cd.none 0⟩ = RI at *
            generalize tnRow b1 = RB at *
            replace hsn := Lib.hid hsn
            replace hIt := Lib.hid hIt
            go_wp2_with (first
              | (go_at_call 59; (with_reducible refine (hIt.out _).mono ?_); rintro _ w9 ⟨rfl, hk9⟩; have hS1 := hS.keepB hk9; clear hk9 hS; have hS := hS1; clear hS1)
              | ((with_reducible refine wpList_look_st (k := 3) 2 hS rfl rfl rfl rfl rfl Try.underlying3 Try.underlying81 zero_int hwk ?_); rw [he1]; simp only [Option.getD_some])
              | ((with_reducible refine wpList_look_st (k := 3) 3 hS rfl rfl rfl rfl rfl Try.underlying3 Try.underlying87 zero_turn hwk ?_); rw [he2]; simp only [Option.getD_some])
              | ((with_reducible refine wpList_alloc_st (L := [_, _, _, _]) hS rfl rfl ei ?_); intro gI w1 hS1; clear hS; have hS := hS1; clear hS1)
              | ((with_reducible refine wpList_storerow_st (n := 28) (vs := RI) 0 hS rfl rfl rfl rfl (by kernel_rfl) rfl hil hio1 (by kernel_rfl) ?_); intro w1 hS1; clear hS; have hS := hS1; clear hS1; try simp only [List.set_cons_zero, List.set_cons_succ, List.setIfInBounds_toArray, List.take_succ_cons, List.take_zero, List.drop_succ_cons, List.drop_zero, List.nil_append, List.cons_append, List.append_nil, List.drop_nil, List.take_nil, List.length_cons, List.length_nil, Nat.zero_add, Nat.add_zero, Nat.reduceAdd] at hS)
              | ((with_reducible refine wpList_loadall_st 0 hS rfl rfl rfl rfl ?_ hsx ?_); focus (simp [rowB, go_sem]; done))
              | (refine wpList_of_op fun K hK => op_build1_st (by with_unfolding_all rfl) hS rfl Try.underlying27 ei (cs := RI.toArray) rfl (by simp [hil]) (by decide) ?_; intro g3 w3 hS1; refine hK _ _ ?_; clear hK hS; have hS := hS1; clear hS1)
              | ((with_reducible refine wpList_app_st (news := RI) (m := 1) 2 hS rfl rfl rfl Try.underlying27 ei rfl (Src.slice Try.underlying27 (hS.blksl2 0 rfl) (by simp [hil])) rfl (fun u hu => List.all_eq_true.1 hio1 u hu) (by omega) (by unfold maxLen; omega) ?_); intro v6 w6 hS1; clear hS; simp only [List.set_cons_zero, List.set_cons_succ] at hS1; obtain ⟨a6, c6, rfl, -⟩ := hS1.row 2 rfl; have hS := hS1; clear hS1)
              | (with_reducible refine wpList_box_st hS rfl rfl rfl ?_; intro g1 w1 hS1; clear hS; replace hS := hS1; clear hS1) | (with_reducible refine wpList_box1_st hS rfl rfl rfl ?_; intro g1 w1 hS1; clear hS; replace hS := hS1; clear hS1) | (with_reducible refine wpList_alloc_st hS rfl rfl (by assumption) ?_; intro g1 w1 hS1; clear hS; replace hS := hS1; clear hS1) | (with_reducible refine wpList_alloc1_st hS rfl rfl (by assumption) rfl ?_; intro g1 w1 hS1; clear hS; replace hS := hS1; clear hS1) | ((with_reducible refine wpList_load_st 0 hS rfl rfl rfl rfl ?_ rfl ?_); focus (simp [scalarB, go_sem]; done)) | ((with_reducible refine wpList_loadall_st 0 hS rfl rfl rfl rfl ?_ (by kernel_rfl) ?_); focus (simp [rowB, go_sem]; done)) | ((with_reducible refine wpList_store_st 0 hS rfl rfl rfl rfl (by kernel_rfl) rfl rfl ?_); intro w1 hS1; clear hS; replace hS := hS1; clear hS1; try simp only [List.set_cons_zero, List.set_cons_succ, List.setIfInBounds_toArray, List.take_succ_cons, List.take_zero, List.drop_succ_cons, List.drop_zero, List.nil_append, List.cons_append, List.append_nil, List.drop_nil, List.take_nil, List.length_cons, List.length_nil, Nat.zero_add, Nat.add_zero, Nat.reduceAdd] at hS) | ((with_reducible refine wpList_storerow_st 0 hS rfl rfl rfl rfl (by kernel_rfl) rfl rfl rfl rfl ?_); intro w1 hS1; clear hS; replace hS := hS1; clear hS1; try simp only [List.set_cons_zero, List.set_cons_succ, List.setIfInBounds_toArray, List.take_succ_cons, List.take_zero, List.drop_succ_cons, List.drop_zero, List.nil_append, List.cons_append, List.append_nil, List.drop_nil, List.take_nil, List.length_cons, List.length_nil, Nat.zero_add, Nat.add_zero, Nat.reduceAdd] at hS))
            go_roundg (ks.length - (q + 1))
            case measure => omega
            case rel => exact ⟨q + 1, ao, co, by omega, by go_num, by rw [hsn.out], by rw [hsn.out]; exact hS.drop⟩
          | some x =>
            rw [hio] at hIt hsn
            have hV : itV (some x) = .tuple #[.agg (itRow x).toArray, .bool true] := rfl
            rw [hV] at hIt
            have hil : (itRow x).length = 28 := itRow_len x (itemOf_len hio hb1m.c.len)
            have hio1 := itRow_one x
            have hsx : sizeB Try.prog 50 (itRow x).toArray.size = true := by rw [List.size_toArray, hil]; kernel_rfl
            generalize hRI : itRow x = RI at *
            generalize tnRow b1 = RB at *
            replace hsn := Lib.hid hsn
            replace hIt := Lib.hid hIt
            replace hRI := Lib.hid hRI
            go_wp2_with (first
              | (go_at_call 59; (with_reducible refine (hIt.out _).mono ?_); rintro _ w9 ⟨rfl, hk9⟩; have hS1 := hS.keepB hk9; clear hk9 hS; have hS := hS1; clear hS1)
              | ((with_reducible refine wpList_look_st (k := 3) 2 hS rfl rfl rfl rfl rfl Try.underlying3 Try.underlying81 zero_int hwk ?_); rw [he1]; simp only [Option.getD_some])
              | ((with_reducible refine wpList_look_st (k := 3) 3 hS rfl rfl rfl rfl rfl Try.underlying3 Try.underlying87 zero_turn hwk ?_); rw [he2]; simp only [Option.getD_some])
              | ((with_reducible refine wpList_alloc_st (L := [_, _, _, _]) hS rfl rfl ei ?_); intro gI w1 hS1; clear hS; have hS := hS1; clear hS1)
              | ((with_reducible refine wpList_storerow_st (n := 28) (vs := RI) 0 hS rfl rfl rfl rfl (by kernel_rfl) rfl hil hio1 (by kernel_rfl) ?_); intro w1 hS1; clear hS; have hS := hS1; clear hS1; try simp only [List.set_cons_zero, List.set_cons_succ, List.setIfInBounds_toArray, List.take_succ_cons, List.take_zero, List.drop_succ_cons, List.drop_zero, List.nil_append, List.cons_append, List.append_nil, List.drop_nil, List.take_nil, List.length_cons, List.length_nil, Nat.zero_add, Nat.add_zero, Nat.reduceAdd] at hS)
              | ((with_reducible refine wpList_loadall_st 0 hS rfl rfl rfl rfl ?_ hsx ?_); focus (simp [rowB, go_sem]; done))
              | (refine wpList_of_op fun K hK => op_build1_st (by with_unfolding_all rfl) hS rfl Try.underlying27 ei (cs := RI.toArray) rfl (by simp [hil]) (by decide) ?_; intro g3 w3 hS1; refine hK _ _ ?_; clear hK hS; have hS := hS1; clear hS1)
              | ((with_reducible refine wpList_app_st (news := RI) (m := 1) 2 hS rfl rfl rfl Try.underlying27 ei rfl (Src.slice Try.underlying27 (hS.blksl2 0 rfl) (by simp [hil])) rfl (fun u hu => List.all_eq_true.1 hio1 u hu) (by omega) (by unfold maxLen; omega) ?_); intro v6 w6 hS1; clear hS; simp only [List.set_cons_zero, List.set_cons_succ] at hS1; obtain ⟨a6, c6, rfl, -⟩ := hS1.row 2 rfl; have hS := hS1; clear hS1)
              | (with_reducible refine wpList_box_st hS rfl rfl rfl ?_; intro g1 w1 hS1; clear hS; replace hS := hS1; clear hS1) | (with_reducible refine wpList_box1_st hS rfl rfl rfl ?_; intro g1 w1 hS1; clear hS; replace hS := hS1; clear hS1) | (with_reducible refine wpList_alloc_st hS rfl rfl (by assumption) ?_; intro g1 w1 hS1; clear hS; replace hS := hS1; clear hS1) | (with_reducible refine wpList_alloc1_st hS rfl rfl (by assumption) rfl ?_; intro g1 w1 hS1; clear hS; replace hS := hS1; clear hS1) | ((with_reducible refine wpList_load_st 0 hS rfl rfl rfl rfl ?_ rfl ?_); focus (simp [scalarB, go_sem]; done)) | ((with_reducible refine wpList_loadall_st 0 hS rfl rfl rfl rfl ?_ (by kernel_rfl) ?_); focus (simp [rowB, go_sem]; done)) | ((with_reducible refine wpList_store_st 0 hS rfl rfl rfl rfl (by kernel_rfl) rfl rfl ?_); intro w1 hS1; clear hS; replace hS := hS1; clear hS1; try simp only [List.set_cons_zero, List.set_cons_succ, List.setIfInBounds_toArray, List.take_succ_cons, List.take_zero, List.drop_succ_cons, List.drop_zero, List.nil_append, List.cons_append, List.append_nil, List.drop_nil, List.take_nil, List.length_cons, List.length_nil, Nat.zero_add, Nat.add_zero, Nat.reduceAdd] at hS) | ((with_reducible refine wpList_storerow_st 0 hS rfl rfl rfl rfl (by kernel_rfl) rfl rfl rfl rfl ?_); intro w1 hS1; clear hS; replace hS := hS1; clear hS1; try simp only [List.set_cons_zero, List.set_cons_succ, List.setIfInBounds_toArray, List.take_succ_cons, List.take_zero, List.drop_succ_cons, List.drop_zero, List.nil_append, List.cons_append, List.append_nil, List.drop_nil, List.take_nil, List.length_cons, List.length_nil, Nat.zero_add, Nat.add_zero, Nat.reduceAdd] at hS))
            go_roundg (ks.length - (q + 1))
            case measure => omega
            case rel =>
              have e := hsn.out
              simp only [Option.toList_some] at e
              have e1 : (fs ++ [x]).length = fs.length + 1 := by simp
              have e2 : ((fs ++ [x]).map itRow).flatten = (fs.map itRow).flatten ++ RI := by simp [hRI.out]
              refine ⟨q + 1, a6, c6, by omega, by go_num, ?_, ?_⟩
              · rw [e, e1]
              · rw [e, e1, e2]
                exact hS.drop.drop
        · have e : ks.take q = ks := List.take_of_length_le (by omega)
          rw [e] at hS ⊢
          obtain rfl := hno.out
          go_wp2_with fail
          go_ret
          exact ⟨_, _, rfl, hS.one 0 rfl⟩
end Go.Proofs.Ytajldelodnjmoaa
end

section
/- The law CardShows: what is looked at; the walk. -/
set_option linter.unusedSimpArgs false
set_option linter.unusedVariables false
namespace Go.Ofp
/-- Texts that are longer than is looked at. -/
def largeF (f : List Vl) : Bool := f.any fun v => decide (200 < v.s.size)
end Go.Ofp
namespace Go.Proofs.Ytajldelodnjmoaa
open Go.RowKit Go.Ofp
set_option linter.unusedVariables false
set_option maxRecDepth 100000
set_option maxHeartbeats 4000000

theorem fl_str (f : List Vl) (k : Nat) (v : Vl) (hv : f[k]? = some v) : (flRow f)[k * 3 + 2]? = some (.string v.s) := by
  have h := fl_at [] f k v hv
  simp only [List.nil_append, List.length_nil, Nat.zero_add] at h
  have := congrArg (fun l => l[2]?) h
  simpa [List.getElem?_take, List.getElem?_drop, vlRow] using this
theorem large6_any (f : List Vl) (hf : f.length = 8) (w : World) : Calls Try.prog 34 #[.agg (flRow f).toArray] w fun e w' => e = .returned (.bool (largeF f)) ∧ Below w.heap.size w w' := by
  have hS := St.start w
  go_enter Try.func34, Try.ntmps34
  go_wp2_with (first
    | (with_reducible refine wpList_box_st (L := []) hS rfl rfl rfl ?_; intro gc w1 hS1; clear hS; have hS := hS1; clear hS1))
  go_loopg [3] 8 (fun gk vx wr => ∃ k : Nat, k + gk = 8 ∧ vx = .int .i64 k ∧ Hid (largeF (f.take k) = false) ∧ wr = w1)
  case atStart => exact ⟨0, Nat.zero_add _, rfl, Lib.hid rfl, rfl⟩
  case round =>
    obtain ⟨k, hk, rfl, hr, rfl⟩ := hrel
    have hc := hS.cell 0 rfl (k * 3 + 2)
    by_cases hlt : k < 8
    · obtain ⟨v, hv⟩ : ∃ v, f[k]? = some v := ⟨_, List.getElem?_eq_getElem (by omega)⟩
      rw [List.getElem?_toArray, fl_str f k v hv] at hc
      by_cases hx : 200 < v.s.size
      · go_wp2_with fail
        go_ret
        have : largeF f = true := by
          rw [largeF, List.any_eq_true]
          exact ⟨v, List.mem_of_getElem? hv, decide_eq_true hx⟩
        exact ⟨by rw [this]; rfl, hS.below⟩
      · have hnext : largeF (f.take (k + 1)) = false := by
          obtain ⟨h1, h2⟩ := List.getElem?_eq_some_iff.1 hv
          rw [List.take_succ_eq_append_getElem h1, largeF, List.any_append, h2]
          have := hr.out
          rw [largeF] at this
          rw [this]
          simpa using hx
        replace hnext := Lib.hid hnext
        have hxb : decide ((200 : Int) < (v.s.size : Int)) = false := decide_eq_false (by omega)
        clear hx hr
        go_wp2_with fail
        go_roundg (8 - (k + 1))
        case measure => omega
        case rel => exact ⟨k + 1, by omega, by go_num, hnext, rfl⟩
    · obtain rfl : k = 8 := by omega
      have hr2 := hr.out
      rw [List.take_of_length_le (by omega)] at hr2
      clear hc
      go_wp2_with fail
      go_ret
      exact ⟨by rw [hr2]; rfl, hS.below⟩

end Go.Proofs.Ytajldelodnjmoaa
end

section
/- Turns that are long; the chapter's example. -/
set_option linter.unusedSimpArgs false
set_option linter.unusedVariables false
namespace Go.Proofs.Ytajldelodnjmoaa
open Go.RowKit Go.Ofp
set_option linter.unusedVariables false
set_option maxRecDepth 100000
set_option maxHeartbeats 4000000

def largeT (l : List Tn) : Bool := decide (100 < l.length) || l.any fun t => largeF t.c.f

theorem largeT_any (a : Option Addr) (n c : Nat) (l : List Tn) (w : World) (hl : Lst tnRow TnIn w a n c l) :
    Calls Try.prog 12 #[.slice a n c] w fun e w' => e = .returned (.bool (largeT l)) ∧ Below w.heap.size w w' := by
  have hS := St.start w
  have cL := Lib.hid fun (f : List Vl) (hf : f.length = 8) (W : World) => large6_any f hf W
  have hnm : n ≤ 9223372036854775807 := by have := hl.le; have := hl.cm; unfold maxLen at this; omega
  have hlen := Lib.hid hl.len
  have hbase := Lib.hid (hl.base (by decide) (tn_lens hl))
  have hlens := Lib.hid (tn_lens hl)
  have hmem := Lib.hid hl.mem
  have hlt0 : largeT l = (decide (100 < n) || l.any fun t => largeF t.c.f) := by unfold largeT; rw [hl.len]
  rw [hlt0]
  clear hlt0
  replace hl := Lib.hid hl
  by_cases h100 : 100 < n
  · rw [decide_eq_true h100, Bool.true_or]
    have d1 : decide ((100 : Int) < (n : Int)) = true := decide_eq_true (by omega)
    have d2 : decide (100 < n) = true := decide_eq_true h100
    clear h100
    go_enter Try.func12, Try.ntmps12
    go_wp2_with fail
    go_ret
    exact ⟨rfl, hS.below⟩
  · rw [decide_eq_false h100, Bool.false_or]
    have d1 : decide ((100 : Int) < (n : Int)) = false := decide_eq_false (by omega)
    have d2 : decide (100 < n) = false := decide_eq_false h100
    obtain ⟨R, hR⟩ : ∃ R, (l.any fun t => largeF t.c.f) = R := ⟨_, rfl⟩
    rw [hR]
    replace hR := Lib.hid hR
    clear h100
    go_enter Try.func12, Try.ntmps12
    go_wp2_with fail
    go_loopg [3] n (fun gk vx wr => ∃ j : Nat, j + gk = n ∧ vx = .int .i64 j ∧ Hid ((l.take j).any (fun t => largeF t.c.f) = false) ∧ St w [] [] wr)
    case atStart => exact ⟨0, Nat.zero_add _, rfl, Lib.hid rfl, hS⟩
    case round =>
      clear hS
      obtain ⟨j, hj, rfl, hg, hS⟩ := hrel
      by_cases hlt : j < n
      · have hjl : j < l.length := by rw [hlen.out]; exact hlt
        obtain ⟨b, off, rfl⟩ := hbase.out (by omega)
        have hrow := hl.out.rowb hlens.out j hjl
        have hin := hmem.out _ (List.getElem_mem hjl)
        have hf7 : w.rangeAt b (off + j * 31 + 4 + 3) (flRow l[j].c.f) := fun i v hv => by
          have := hrow (7 + i) v (by rw [show 7 + i = i + 7 by omega]; exact hv)
          rwa [show off + j * 31 + 4 + 3 + i = off + j * 31 + (7 + i) by omega]
        have hfl : (flRow l[j].c.f).length = 24 := by rw [flRow_length, hin.c.len]
        have hlf := cL.out l[j].c.f hin.c.len
        have htk : l.take (j + 1) = l.take j ++ [l[j]] := List.take_succ_eq_append_getElem hjl
        cases hr : largeF l[j].c.f
        · rw [hr] at hlf
          have hg2 : (l.take (j + 1)).any (fun t => largeF t.c.f) = false := by rw [htk, List.any_append, hg.out]; simp [hr]
          replace hg2 := Lib.hid hg2
          clear htk hr hrow hin hg
          generalize l[j] = t at *
          generalize flRow t.c.f = RF at *
          replace hlf := Lib.hid hlf
          replace hf7 := Lib.hid hf7
          go_wp2_with (first
            | (go_at_call 34; (with_reducible refine (hlf.out _).mono ?_); rintro _ w9 ⟨rfl, hk9⟩; have hS1 := hS.keepB hk9; clear hk9 hS; have hS := hS1; clear hS1)
            | (with_reducible refine wpList_rangerow (n := 24) (range_old hS hf7.out) rfl rfl rfl (by kernel_rfl) (by kernel_rfl) hfl ?_))
          go_roundg (n - (j + 1))
          case measure => omega
          case rel => exact ⟨j + 1, by omega, by go_num, hg2, hS⟩
        · rw [hr] at hlf
          have hg2 : l.any (fun t => largeF t.c.f) = true := List.any_eq_true.2 ⟨l[j], List.getElem_mem hjl, hr⟩
          have hR2 : R = true := hR.out.symm.trans hg2
          clear htk hr hrow hin hg hg2
          generalize l[j] = t at *
          generalize flRow t.c.f = RF at *
          replace hlf := Lib.hid hlf
          replace hf7 := Lib.hid hf7
          replace hR2 := Lib.hid hR2
          go_wp2_with (first
            | (go_at_call 34; (with_reducible refine (hlf.out _).mono ?_); rintro _ w9 ⟨rfl, hk9⟩; have hS1 := hS.keepB hk9; clear hk9 hS; have hS := hS1; clear hS1)
            | (with_reducible refine wpList_rangerow (n := 24) (range_old hS hf7.out) rfl rfl rfl (by kernel_rfl) (by kernel_rfl) hfl ?_))
          go_ret
          exact ⟨by rw [hR2.out]; rfl, hS.below⟩
      · have hjn : l.take j = l := List.take_of_length_le (by rw [hlen.out]; omega)
        have hR2 : R = false := by rw [← hR.out]; have := hg.out; rwa [hjn] at this
        replace hR2 := Lib.hid hR2
        clear hjn
        go_wp2_with fail
        go_ret
        exact ⟨by rw [hR2.out]; rfl, hS.below⟩

theorem noF_in : ∀ v ∈ noF, VlIn v := by
  intro v hv
  rw [List.eq_of_mem_replicate hv]
  exact ⟨by decide, by decide, by decide⟩
end Go.Proofs.Ytajldelodnjmoaa
end
