/- Texts laid together: Disk3 Disk4 Disk5 Disk6 St6 Disk7. -/
import Derived.Test.YtlhpibniecfofaaM2
import Derived.Test.YtlhpibniecfofaaM3
section
/- The walk of Write. -/
set_option linter.unusedSimpArgs false
set_option linter.unusedVariables false
namespace Go.Proofs.Ytlhpibniecfofaa
open Go.RowKit Go.Ofp
set_option linter.unusedVariables false
set_option maxRecDepth 100000
set_option maxHeartbeats 4000000

theorem build_wt (i : Int) (w : World) : (Instr.build 125 #[(0, .int .i64 i)]).run Try.prog w = .ok (.agg (Value.int .i64 i :: scZero).toArray) w := by kernel_rfl
theorem wt_one (i : Int) : (Value.int .i64 i :: scZero).all Value.oneCell' = true := by simp [scZero, Value.oneCell']
theorem wt_len (i : Int) : (Value.int .i64 i :: scZero).length = 66 := by simp [scZero]
theorem elem_byte : Elem Try.prog 5 (.int .u8 0) 1 1 := Elem.mk (by kernel_rfl) (by rfl) (by decide)

theorem wt_copied (i : Int) (b : ByteArray) (h : b.size = 64) : ((Value.int .i64 i :: scZero).toArray.toList.take 1 ++ b.data.toList.map vb ++ (Value.int .i64 i :: scZero).toArray.toList.drop (1 + b.size)).toArray = (wtRow ⟨i, b.data.toList⟩).toArray := by
  rw [h]
  simp [wtRow, scZero]

theorem wt_stored (i : Int) : ((Value.int .i64 0 :: scZero).toArray.toList.take 0 ++ (Value.int .i64 i :: scZero) ++ (Value.int .i64 0 :: scZero).toArray.toList.drop (0 + 66)).toArray = (Value.int .i64 i :: scZero).toArray := by
  simp [scZero]

theorem wt_rowone (x : Wt) : ∀ u ∈ (wtRow x).toArray.toList, u.oneCell' = true := by
  intro u hu
  simp only [wtRow, List.mem_cons, List.mem_append, List.mem_map, List.not_mem_nil, or_false] at hu
  rcases hu with rfl | ⟨_, _, rfl⟩ | rfl <;> rfl

theorem write_main (bd : Nat) (sv wv : Value) (d : Dk) (i : Int) (b : ByteArray) (w : World) (h : St w (feet (dks bd sv wv d)) (dks bd sv wv d) w) (hr : d.ready i = 0) (hb : b.size = 64) (hw : d.wait.length ≤ 100000) (hf : -9223372036854775808 ≤ d.fuse ∧ d.fuse ≤ 9223372036854775807) :
    Calls Try.prog 17 #[.pointer (some ⟨bd, 0, none⟩), .int .i64 i, .string b] w fun e w' => e = .returned (.int .i64 (d.write i b.data.toList).2) ∧ ∃ wv', St w (feet (dks bd sv wv d)) (dks bd sv wv' (d.write i b.data.toList).1) w' := by
  have cR := ready_any bd sv wv d i w h
  rw [hr] at cR
  have hbl : b.data.toList.length = 64 := by rw [← ba_size]; exact hb
  have hd : d.write i b.data.toList = (Dk.step { d with wait := d.wait ++ [⟨i, b.data.toList⟩] }, if (Dk.step { d with wait := d.wait ++ [⟨i, b.data.toList⟩] }).dead then 15 else 0) := by rw [Dk.write, if_pos hr, if_pos hbl]
  rw [hd]
  have cS := fun (wv' : Value) (W : World) k => step_any bd sv wv' { d with wait := d.wait ++ [⟨i, b.data.toList⟩] } W k hf
  generalize Dk.step { d with wait := d.wait ++ [⟨i, b.data.toList⟩] } = d2 at cS ⊢
  obtain ⟨sd, hsd⟩ : ∃ x, d2.dead = x := ⟨_, rfl⟩
  simp only [hsd] at cS ⊢
  replace hsd := Lib.hid hsd
  have hcp := wt_copied i b hb
  have ez := elem_wt
  generalize feet (dks bd sv wv d) = F at h ⊢
  have hS := h
  clear h hr hd hf
  unfold dks at hS
  replace cR := Lib.hid cR
  replace cS := Lib.hid cS
  replace hcp := Lib.hid hcp
  replace hbl := Lib.hid hbl
  go_enter Try.func17, Try.ntmps17
  go_wp2_with (first
    | (go_at_call 71; (with_reducible refine cR.out.mono ?_); rintro _ _ ⟨rfl, rfl⟩)
    | ((with_reducible refine wpList_build1 rfl rfl (.int .i64 i) rfl (build_wt i) ?_))
    | ((with_reducible refine wpList_alloc_st hS rfl rfl (by assumption) ?_); intro g1 w1 hS1; clear hS; have hS := hS1; clear hS1)
    | ((with_reducible refine wpList_storerow_st 0 (vs := Value.int .i64 i :: scZero) (n := 66) hS rfl rfl rfl rfl (by kernel_rfl) rfl (wt_len i) (wt_one i) rfl ?_); intro w1 hS1; clear hS; simp only [List.set_cons_zero] at hS1; rw [wt_stored] at hS1; have hS := hS1; clear hS1)
    | ((with_reducible refine wpList_copytext_st 0 (b := b) hS rfl rfl rfl Try.underlying127 elem_byte Try.underlying9 rfl rfl (by omega) (by rw [hb]; simp [scZero]) ?_); intro w1 hS1; clear hS; simp only [List.set_cons_zero] at hS1; rw [hcp.out] at hS1; have hS := hS1; clear hS1))
  have hwl := wtRow_length ⟨i, b.data.toList⟩ hbl.out
  have hsz : sizeB Try.prog 125 (wtRow ⟨i, b.data.toList⟩).toArray.size = true := by rw [List.size_toArray, hwl]; kernel_rfl
  replace hwl := Lib.hid hwl
  have hrow : rowB Try.prog 125 = true := by simp [rowB, go_sem]
  refine mixs_beginE (by kernel_rfl) hS ?_
  clear hS
  intro w2 hS hC
  refine mixs_take 0 (v := ?_) rfl (by kernel_rfl) (fun _ _ _ h => h) (by kernel_rfl) (by assumption) (fun s => ?hy) ?_; case hy => (go_simp <;> with_reducible rfl)
  try simp only [List.getElem_toArray, List.getElem_cons_succ, List.getElem_cons_zero, Act.put, List.setIfInBounds_toArray, List.set_cons_zero, List.set_cons_succ]
  refine mixs_take 1 (v := ?_) rfl (by kernel_rfl) (fun _ _ _ h => h) (by kernel_rfl) (by assumption) (fun s => ?hy) ?_; case hy => (go_simp <;> with_reducible rfl)
  try simp only [List.getElem_toArray, List.getElem_cons_succ, List.getElem_cons_zero, Act.put, List.setIfInBounds_toArray, List.set_cons_zero, List.set_cons_succ]
  refine mixs_take 2 (v := ?_) rfl (by kernel_rfl) (fun _ _ _ h => h) (by kernel_rfl) (by assumption) (fun s => ?hy) ?_; case hy => (go_simp <;> with_reducible rfl)
  try simp only [List.getElem_toArray, List.getElem_cons_succ, List.getElem_cons_zero, Act.put, List.setIfInBounds_toArray, List.set_cons_zero, List.set_cons_succ]
  refine mixs_take 3 (v := ?_) rfl (by kernel_rfl) (fun _ _ _ h => h) (by kernel_rfl) (by assumption) (fun s => ?hy) ?_; case hy => (go_simp <;> with_reducible rfl)
  try simp only [List.getElem_toArray, List.getElem_cons_succ, List.getElem_cons_zero, Act.put, List.setIfInBounds_toArray, List.set_cons_zero, List.set_cons_succ]
  refine mixs_two 4 5 (by kernel_rfl) rfl rfl (fun K hK => ?_) (fun K hK => ?_)
  ·
    refine op_load_st (by kernel_rfl) 1 hS rfl rfl rfl (by simp [scalarB, go_sem]) rfl ?_
    try clear hC
    refine hK.out _ _ _ (fun _ h => h) (by first | exact hS | exact hS.drop | exact hS.drop.drop | exact hS.drop.drop.drop | exact hS.drop.drop.drop.drop | exact hS.empty | exact hS.one 0 rfl | exact hS.one 1 rfl | exact hS.one 2 rfl | exact hS.one 3 rfl | exact hS.one 4 rfl | exact hS.one 5 rfl | exact hS.one 6 rfl | exact hS.one 7 rfl | exact hS.one 8 rfl | exact hS.one 9 rfl | exact hS.one 10 rfl | exact hS.one 11 rfl) (fun hC => ?_)
    clear hK K
    try simp only [List.getElem_toArray, List.getElem_cons_succ, List.getElem_cons_zero, Act.put, List.setIfInBounds_toArray, List.set_cons_zero, List.set_cons_succ]
    refine mixs_one 5 (by kernel_rfl) rfl (fun K hK => ?_)
    (refine op_loadall_st (by kernel_rfl) 0 hS rfl rfl rfl hrow hsz ?_)
    try clear hC
    refine hK.out _ _ _ (fun _ h => h) (by first | exact hS | exact hS.drop | exact hS.drop.drop | exact hS.drop.drop.drop | exact hS.drop.drop.drop.drop | exact hS.empty | exact hS.one 0 rfl | exact hS.one 1 rfl | exact hS.one 2 rfl | exact hS.one 3 rfl | exact hS.one 4 rfl | exact hS.one 5 rfl | exact hS.one 6 rfl | exact hS.one 7 rfl | exact hS.one 8 rfl | exact hS.one 9 rfl | exact hS.one 10 rfl | exact hS.one 11 rfl) (fun hC => ?_)
    clear hK K
    try simp only [List.getElem_toArray, List.getElem_cons_succ, List.getElem_cons_zero, Act.put, List.setIfInBounds_toArray, List.set_cons_zero, List.set_cons_succ]
    refine mixs_one 6 (by kernel_rfl) rfl (fun K hK => ?_)
    ( first | (refine op_build1_st (by kernel_rfl) hS rfl Try.underlying115 elem_wt rfl (by simpa using hwl.out) (by omega) ?_; intro g2 w3 hS1; clear hS; have hS := hS1; clear hS1) | (refine op_app_st (by kernel_rfl) 4 hS rfl rfl Try.underlying115 elem_wt rfl (Src.slice Try.underlying115 (hS.blksl 0 rfl) (by simpa using hwl.out)) rfl (wt_rowone _) (by omega) (by unfold maxLen; omega) ?_; intro wv' w3 hS1; clear hS; simp only [List.set_cons_zero, List.set_cons_succ] at hS1; obtain ⟨a3, c3, rfl, -⟩ := hS1.row 4 rfl; have hS := hS1; clear hS1) )
    try clear hC
    refine hK.out _ _ _ (fun _ h => h) (by first | exact hS | exact hS.drop | exact hS.drop.drop | exact hS.drop.drop.drop | exact hS.drop.drop.drop.drop | exact hS.empty | exact hS.one 0 rfl | exact hS.one 1 rfl | exact hS.one 2 rfl | exact hS.one 3 rfl | exact hS.one 4 rfl | exact hS.one 5 rfl | exact hS.one 6 rfl | exact hS.one 7 rfl | exact hS.one 8 rfl | exact hS.one 9 rfl | exact hS.one 10 rfl | exact hS.one 11 rfl) (fun hC => ?_)
    clear hK K
    try simp only [List.getElem_toArray, List.getElem_cons_succ, List.getElem_cons_zero, Act.put, List.setIfInBounds_toArray, List.set_cons_zero, List.set_cons_succ]
    refine mixs_one 7 (by kernel_rfl) rfl (fun K hK => ?_)
    ( first | (refine op_build1_st (by kernel_rfl) hS rfl Try.underlying115 elem_wt rfl (by simpa using hwl.out) (by omega) ?_; intro g2 w3 hS1; clear hS; have hS := hS1; clear hS1) | (refine op_app_st (by kernel_rfl) 4 hS rfl rfl Try.underlying115 elem_wt rfl (Src.slice Try.underlying115 (hS.blksl 0 rfl) (by simpa using hwl.out)) rfl (wt_rowone _) (by omega) (by unfold maxLen; omega) ?_; intro wv' w3 hS1; clear hS; simp only [List.set_cons_zero, List.set_cons_succ] at hS1; obtain ⟨a3, c3, rfl, -⟩ := hS1.row 4 rfl; have hS := hS1; clear hS1) )
    try clear hC
    refine hK.out _ _ _ (fun _ h => h) (by first | exact hS | exact hS.drop | exact hS.drop.drop | exact hS.drop.drop.drop | exact hS.drop.drop.drop.drop | exact hS.empty | exact hS.one 0 rfl | exact hS.one 1 rfl | exact hS.one 2 rfl | exact hS.one 3 rfl | exact hS.one 4 rfl | exact hS.one 5 rfl | exact hS.one 6 rfl | exact hS.one 7 rfl | exact hS.one 8 rfl | exact hS.one 9 rfl | exact hS.one 10 rfl | exact hS.one 11 rfl) (fun hC => ?_)
    clear hK K
    try simp only [List.getElem_toArray, List.getElem_cons_succ, List.getElem_cons_zero, Act.put, List.setIfInBounds_toArray, List.set_cons_zero, List.set_cons_succ]
    refine mixs_take 8 (v := ?_) rfl (by kernel_rfl) (fun _ _ _ h => h) (by kernel_rfl) (by assumption) (fun s => ?hy) ?_; case hy => (go_simp <;> with_reducible rfl)
    try simp only [List.getElem_toArray, List.getElem_cons_succ, List.getElem_cons_zero, Act.put, List.setIfInBounds_toArray, List.set_cons_zero, List.set_cons_succ]
    refine mixs_take 9 (v := ?_) rfl (by kernel_rfl) (fun _ _ _ h => h) (by kernel_rfl) (by assumption) (fun s => ?hy) ?_; case hy => (go_simp <;> with_reducible rfl)
    try simp only [List.getElem_toArray, List.getElem_cons_succ, List.getElem_cons_zero, Act.put, List.setIfInBounds_toArray, List.set_cons_zero, List.set_cons_succ]
    refine mixs_one 10 (by kernel_rfl) rfl (fun K hK => ?_)
    refine op_store_st (by kernel_rfl) 2 hS rfl rfl rfl (by kernel_rfl) rfl rfl ?_
    intro w1 hS1; clear hS; have hS := hS1; clear hS1; try simp only [List.set_cons_zero, List.set_cons_succ, List.setIfInBounds_toArray, List.take_succ_cons, List.take_zero, List.drop_succ_cons, List.drop_zero, List.nil_append, List.cons_append, List.append_nil, List.drop_nil, List.take_nil, List.length_cons, List.length_nil, Nat.zero_add, Nat.add_zero, Nat.reduceAdd] at hS
    try clear hC
    refine hK.out _ _ _ (fun _ h => h) (by first | exact hS | exact hS.drop | exact hS.drop.drop | exact hS.drop.drop.drop | exact hS.drop.drop.drop.drop | exact hS.empty | exact hS.one 0 rfl | exact hS.one 1 rfl | exact hS.one 2 rfl | exact hS.one 3 rfl | exact hS.one 4 rfl | exact hS.one 5 rfl | exact hS.one 6 rfl | exact hS.one 7 rfl | exact hS.one 8 rfl | exact hS.one 9 rfl | exact hS.one 10 rfl | exact hS.one 11 rfl) (fun hC => ?_)
    clear hK K
    try simp only [List.getElem_toArray, List.getElem_cons_succ, List.getElem_cons_zero, Act.put, List.setIfInBounds_toArray, List.set_cons_zero, List.set_cons_succ]
    refine wpAnyH_done (by kernel_rfl) ?_ _
    try clear hC
    have e1 : (d.wait.map wtRow).flatten ++ wtRow ⟨i, b.data.toList⟩ = ((d.wait ++ [(⟨i, b.data.toList⟩ : Wt)]).map wtRow).flatten := by simp
    have e2 : d.wait.length + 1 = (d.wait ++ [(⟨i, b.data.toList⟩ : Wt)]).length := by simp
    rw [e1, e2] at hS
    clear e1 e2
    have hS' : St w F (dks bd sv (.slice a3 (d.wait ++ [(⟨i, b.data.toList⟩ : Wt)]).length c3) { d with wait := d.wait ++ [⟨i, b.data.toList⟩] }) _ := hS.drop.drop
    clear hS
    have cT := cS.out _ _ (hS'.pre _ [] (List.append_nil _).symm)
    have hfr := fun (A' : List Ch) (W : World) k => hS'.call (A' := A') (w' := W) _ [] (List.append_nil _).symm k
    simp only [List.append_nil] at hfr
    replace cT := Lib.hid cT
    replace hfr := Lib.hid hfr
    clear hS' hcp ez cR cS hwl
    cases sd
    all_goals
      go_wp2_with (go_at_call 72; (refine cT.out.mono ?_); rintro _ w4 ⟨rfl, hb3⟩; replace hb3 := hfr.out _ _ hb3; replace hb3 := Lib.hid hb3)
      go_ret
      exact ⟨rfl, _, hb3.out⟩
  ·
    (refine op_loadall_st (by kernel_rfl) 0 hS rfl rfl rfl hrow hsz ?_)
    try clear hC
    refine hK.out _ _ _ (fun _ h => h) (by first | exact hS | exact hS.drop | exact hS.drop.drop | exact hS.drop.drop.drop | exact hS.drop.drop.drop.drop | exact hS.empty | exact hS.one 0 rfl | exact hS.one 1 rfl | exact hS.one 2 rfl | exact hS.one 3 rfl | exact hS.one 4 rfl | exact hS.one 5 rfl | exact hS.one 6 rfl | exact hS.one 7 rfl | exact hS.one 8 rfl | exact hS.one 9 rfl | exact hS.one 10 rfl | exact hS.one 11 rfl) (fun hC => ?_)
    clear hK K
    try simp only [List.getElem_toArray, List.getElem_cons_succ, List.getElem_cons_zero, Act.put, List.setIfInBounds_toArray, List.set_cons_zero, List.set_cons_succ]
    refine mixs_two 4 6 (by kernel_rfl) rfl rfl (fun K hK => ?_) (fun K hK => ?_)
    ·
      refine op_load_st (by kernel_rfl) 1 hS rfl rfl rfl (by simp [scalarB, go_sem]) rfl ?_
      try clear hC
      refine hK.out _ _ _ (fun _ h => h) (by first | exact hS | exact hS.drop | exact hS.drop.drop | exact hS.drop.drop.drop | exact hS.drop.drop.drop.drop | exact hS.empty | exact hS.one 0 rfl | exact hS.one 1 rfl | exact hS.one 2 rfl | exact hS.one 3 rfl | exact hS.one 4 rfl | exact hS.one 5 rfl | exact hS.one 6 rfl | exact hS.one 7 rfl | exact hS.one 8 rfl | exact hS.one 9 rfl | exact hS.one 10 rfl | exact hS.one 11 rfl) (fun hC => ?_)
      clear hK K
      try simp only [List.getElem_toArray, List.getElem_cons_succ, List.getElem_cons_zero, Act.put, List.setIfInBounds_toArray, List.set_cons_zero, List.set_cons_succ]
      refine mixs_one 6 (by kernel_rfl) rfl (fun K hK => ?_)
      ( first | (refine op_build1_st (by kernel_rfl) hS rfl Try.underlying115 elem_wt rfl (by simpa using hwl.out) (by omega) ?_; intro g2 w3 hS1; clear hS; have hS := hS1; clear hS1) | (refine op_app_st (by kernel_rfl) 4 hS rfl rfl Try.underlying115 elem_wt rfl (Src.slice Try.underlying115 (hS.blksl 0 rfl) (by simpa using hwl.out)) rfl (wt_rowone _) (by omega) (by unfold maxLen; omega) ?_; intro wv' w3 hS1; clear hS; simp only [List.set_cons_zero, List.set_cons_succ] at hS1; obtain ⟨a3, c3, rfl, -⟩ := hS1.row 4 rfl; have hS := hS1; clear hS1) )
      try clear hC
      refine hK.out _ _ _ (fun _ h => h) (by first | exact hS | exact hS.drop | exact hS.drop.drop | exact hS.drop.drop.drop | exact hS.drop.drop.drop.drop | exact hS.empty | exact hS.one 0 rfl | exact hS.one 1 rfl | exact hS.one 2 rfl | exact hS.one 3 rfl | exact hS.one 4 rfl | exact hS.one 5 rfl | exact hS.one 6 rfl | exact hS.one 7 rfl | exact hS.one 8 rfl | exact hS.one 9 rfl | exact hS.one 10 rfl | exact hS.one 11 rfl) (fun hC => ?_)
      clear hK K
      try simp only [List.getElem_toArray, List.getElem_cons_succ, List.getElem_cons_zero, Act.put, List.setIfInBounds_toArray, List.set_cons_zero, List.set_cons_succ]
      refine mixs_one 7 (by kernel_rfl) rfl (fun K hK => ?_)
      ( first | (refine op_build1_st (by kernel_rfl) hS rfl Try.underlying115 elem_wt rfl (by simpa using hwl.out) (by omega) ?_; intro g2 w3 hS1; clear hS; have hS := hS1; clear hS1) | (refine op_app_st (by kernel_rfl) 4 hS rfl rfl Try.underlying115 elem_wt rfl (Src.slice Try.underlying115 (hS.blksl 0 rfl) (by simpa using hwl.out)) rfl (wt_rowone _) (by omega) (by unfold maxLen; omega) ?_; intro wv' w3 hS1; clear hS; simp only [List.set_cons_zero, List.set_cons_succ] at hS1; obtain ⟨a3, c3, rfl, -⟩ := hS1.row 4 rfl; have hS := hS1; clear hS1) )
      try clear hC
      refine hK.out _ _ _ (fun _ h => h) (by first | exact hS | exact hS.drop | exact hS.drop.drop | exact hS.drop.drop.drop | exact hS.drop.drop.drop.drop | exact hS.empty | exact hS.one 0 rfl | exact hS.one 1 rfl | exact hS.one 2 rfl | exact hS.one 3 rfl | exact hS.one 4 rfl | exact hS.one 5 rfl | exact hS.one 6 rfl | exact hS.one 7 rfl | exact hS.one 8 rfl | exact hS.one 9 rfl | exact hS.one 10 rfl | exact hS.one 11 rfl) (fun hC => ?_)
      clear hK K
      try simp only [List.getElem_toArray, List.getElem_cons_succ, List.getElem_cons_zero, Act.put, List.setIfInBounds_toArray, List.set_cons_zero, List.set_cons_succ]
      refine mixs_take 8 (v := ?_) rfl (by kernel_rfl) (fun _ _ _ h => h) (by kernel_rfl) (by assumption) (fun s => ?hy) ?_; case hy => (go_simp <;> with_reducible rfl)
      try simp only [List.getElem_toArray, List.getElem_cons_succ, List.getElem_cons_zero, Act.put, List.setIfInBounds_toArray, List.set_cons_zero, List.set_cons_succ]
      refine mixs_take 9 (v := ?_) rfl (by kernel_rfl) (fun _ _ _ h => h) (by kernel_rfl) (by assumption) (fun s => ?hy) ?_; case hy => (go_simp <;> with_reducible rfl)
      try simp only [List.getElem_toArray, List.getElem_cons_succ, List.getElem_cons_zero, Act.put, List.setIfInBounds_toArray, List.set_cons_zero, List.set_cons_succ]
      refine mixs_one 10 (by kernel_rfl) rfl (fun K hK => ?_)
      refine op_store_st (by kernel_rfl) 2 hS rfl rfl rfl (by kernel_rfl) rfl rfl ?_
      intro w1 hS1; clear hS; have hS := hS1; clear hS1; try simp only [List.set_cons_zero, List.set_cons_succ, List.setIfInBounds_toArray, List.take_succ_cons, List.take_zero, List.drop_succ_cons, List.drop_zero, List.nil_append, List.cons_append, List.append_nil, List.drop_nil, List.take_nil, List.length_cons, List.length_nil, Nat.zero_add, Nat.add_zero, Nat.reduceAdd] at hS
      try clear hC
      refine hK.out _ _ _ (fun _ h => h) (by first | exact hS | exact hS.drop | exact hS.drop.drop | exact hS.drop.drop.drop | exact hS.drop.drop.drop.drop | exact hS.empty | exact hS.one 0 rfl | exact hS.one 1 rfl | exact hS.one 2 rfl | exact hS.one 3 rfl | exact hS.one 4 rfl | exact hS.one 5 rfl | exact hS.one 6 rfl | exact hS.one 7 rfl | exact hS.one 8 rfl | exact hS.one 9 rfl | exact hS.one 10 rfl | exact hS.one 11 rfl) (fun hC => ?_)
      clear hK K
      try simp only [List.getElem_toArray, List.getElem_cons_succ, List.getElem_cons_zero, Act.put, List.setIfInBounds_toArray, List.set_cons_zero, List.set_cons_succ]
      refine wpAnyH_done (by kernel_rfl) ?_ _
      try clear hC
      have e1 : (d.wait.map wtRow).flatten ++ wtRow ⟨i, b.data.toList⟩ = ((d.wait ++ [(⟨i, b.data.toList⟩ : Wt)]).map wtRow).flatten := by simp
      have e2 : d.wait.length + 1 = (d.wait ++ [(⟨i, b.data.toList⟩ : Wt)]).length := by simp
      rw [e1, e2] at hS
      clear e1 e2
      have hS' : St w F (dks bd sv (.slice a3 (d.wait ++ [(⟨i, b.data.toList⟩ : Wt)]).length c3) { d with wait := d.wait ++ [⟨i, b.data.toList⟩] }) _ := hS.drop.drop
      clear hS
      have cT := cS.out _ _ (hS'.pre _ [] (List.append_nil _).symm)
      have hfr := fun (A' : List Ch) (W : World) k => hS'.call (A' := A') (w' := W) _ [] (List.append_nil _).symm k
      simp only [List.append_nil] at hfr
      replace cT := Lib.hid cT
      replace hfr := Lib.hid hfr
      clear hS' hcp ez cR cS hwl
      cases sd
      all_goals
        go_wp2_with (go_at_call 72; (refine cT.out.mono ?_); rintro _ w4 ⟨rfl, hb3⟩; replace hb3 := hfr.out _ _ hb3; replace hb3 := Lib.hid hb3)
        go_ret
        exact ⟨rfl, _, hb3.out⟩
    ·
      ( first | (refine op_build1_st (by kernel_rfl) hS rfl Try.underlying115 elem_wt rfl (by simpa using hwl.out) (by omega) ?_; intro g2 w3 hS1; clear hS; have hS := hS1; clear hS1) | (refine op_app_st (by kernel_rfl) 4 hS rfl rfl Try.underlying115 elem_wt rfl (Src.slice Try.underlying115 (hS.blksl 0 rfl) (by simpa using hwl.out)) rfl (wt_rowone _) (by omega) (by unfold maxLen; omega) ?_; intro wv' w3 hS1; clear hS; simp only [List.set_cons_zero, List.set_cons_succ] at hS1; obtain ⟨a3, c3, rfl, -⟩ := hS1.row 4 rfl; have hS := hS1; clear hS1) )
      try clear hC
      refine hK.out _ _ _ (fun _ h => h) (by first | exact hS | exact hS.drop | exact hS.drop.drop | exact hS.drop.drop.drop | exact hS.drop.drop.drop.drop | exact hS.empty | exact hS.one 0 rfl | exact hS.one 1 rfl | exact hS.one 2 rfl | exact hS.one 3 rfl | exact hS.one 4 rfl | exact hS.one 5 rfl | exact hS.one 6 rfl | exact hS.one 7 rfl | exact hS.one 8 rfl | exact hS.one 9 rfl | exact hS.one 10 rfl | exact hS.one 11 rfl) (fun hC => ?_)
      clear hK K
      try simp only [List.getElem_toArray, List.getElem_cons_succ, List.getElem_cons_zero, Act.put, List.setIfInBounds_toArray, List.set_cons_zero, List.set_cons_succ]
      refine mixs_one 4 (by kernel_rfl) rfl (fun K hK => ?_)
      refine op_load_st (by kernel_rfl) 2 hS rfl rfl rfl (by simp [scalarB, go_sem]) rfl ?_
      try clear hC
      refine hK.out _ _ _ (fun _ h => h) (by first | exact hS | exact hS.drop | exact hS.drop.drop | exact hS.drop.drop.drop | exact hS.drop.drop.drop.drop | exact hS.empty | exact hS.one 0 rfl | exact hS.one 1 rfl | exact hS.one 2 rfl | exact hS.one 3 rfl | exact hS.one 4 rfl | exact hS.one 5 rfl | exact hS.one 6 rfl | exact hS.one 7 rfl | exact hS.one 8 rfl | exact hS.one 9 rfl | exact hS.one 10 rfl | exact hS.one 11 rfl) (fun hC => ?_)
      clear hK K
      try simp only [List.getElem_toArray, List.getElem_cons_succ, List.getElem_cons_zero, Act.put, List.setIfInBounds_toArray, List.set_cons_zero, List.set_cons_succ]
      refine mixs_one 7 (by kernel_rfl) rfl (fun K hK => ?_)
      ( first | (refine op_build1_st (by kernel_rfl) hS rfl Try.underlying115 elem_wt rfl (by simpa using hwl.out) (by omega) ?_; intro g2 w3 hS1; clear hS; have hS := hS1; clear hS1) | (refine op_app_st (by kernel_rfl) 4 hS rfl rfl Try.underlying115 elem_wt rfl (Src.slice Try.underlying115 (hS.blksl 0 rfl) (by simpa using hwl.out)) rfl (wt_rowone _) (by omega) (by unfold maxLen; omega) ?_; intro wv' w3 hS1; clear hS; simp only [List.set_cons_zero, List.set_cons_succ] at hS1; obtain ⟨a3, c3, rfl, -⟩ := hS1.row 4 rfl; have hS := hS1; clear hS1) )
      try clear hC
      refine hK.out _ _ _ (fun _ h => h) (by first | exact hS | exact hS.drop | exact hS.drop.drop | exact hS.drop.drop.drop | exact hS.drop.drop.drop.drop | exact hS.empty | exact hS.one 0 rfl | exact hS.one 1 rfl | exact hS.one 2 rfl | exact hS.one 3 rfl | exact hS.one 4 rfl | exact hS.one 5 rfl | exact hS.one 6 rfl | exact hS.one 7 rfl | exact hS.one 8 rfl | exact hS.one 9 rfl | exact hS.one 10 rfl | exact hS.one 11 rfl) (fun hC => ?_)
      clear hK K
      try simp only [List.getElem_toArray, List.getElem_cons_succ, List.getElem_cons_zero, Act.put, List.setIfInBounds_toArray, List.set_cons_zero, List.set_cons_succ]
      refine mixs_take 8 (v := ?_) rfl (by kernel_rfl) (fun _ _ _ h => h) (by kernel_rfl) (by assumption) (fun s => ?hy) ?_; case hy => (go_simp <;> with_reducible rfl)
      try simp only [List.getElem_toArray, List.getElem_cons_succ, List.getElem_cons_zero, Act.put, List.setIfInBounds_toArray, List.set_cons_zero, List.set_cons_succ]
      refine mixs_take 9 (v := ?_) rfl (by kernel_rfl) (fun _ _ _ h => h) (by kernel_rfl) (by assumption) (fun s => ?hy) ?_; case hy => (go_simp <;> with_reducible rfl)
      try simp only [List.getElem_toArray, List.getElem_cons_succ, List.getElem_cons_zero, Act.put, List.setIfInBounds_toArray, List.set_cons_zero, List.set_cons_succ]
      refine mixs_one 10 (by kernel_rfl) rfl (fun K hK => ?_)
      refine op_store_st (by kernel_rfl) 2 hS rfl rfl rfl (by kernel_rfl) rfl rfl ?_
      intro w1 hS1; clear hS; have hS := hS1; clear hS1; try simp only [List.set_cons_zero, List.set_cons_succ, List.setIfInBounds_toArray, List.take_succ_cons, List.take_zero, List.drop_succ_cons, List.drop_zero, List.nil_append, List.cons_append, List.append_nil, List.drop_nil, List.take_nil, List.length_cons, List.length_nil, Nat.zero_add, Nat.add_zero, Nat.reduceAdd] at hS
      try clear hC
      refine hK.out _ _ _ (fun _ h => h) (by first | exact hS | exact hS.drop | exact hS.drop.drop | exact hS.drop.drop.drop | exact hS.drop.drop.drop.drop | exact hS.empty | exact hS.one 0 rfl | exact hS.one 1 rfl | exact hS.one 2 rfl | exact hS.one 3 rfl | exact hS.one 4 rfl | exact hS.one 5 rfl | exact hS.one 6 rfl | exact hS.one 7 rfl | exact hS.one 8 rfl | exact hS.one 9 rfl | exact hS.one 10 rfl | exact hS.one 11 rfl) (fun hC => ?_)
      clear hK K
      try simp only [List.getElem_toArray, List.getElem_cons_succ, List.getElem_cons_zero, Act.put, List.setIfInBounds_toArray, List.set_cons_zero, List.set_cons_succ]
      refine wpAnyH_done (by kernel_rfl) ?_ _
      try clear hC
      have e1 : (d.wait.map wtRow).flatten ++ wtRow ⟨i, b.data.toList⟩ = ((d.wait ++ [(⟨i, b.data.toList⟩ : Wt)]).map wtRow).flatten := by simp
      have e2 : d.wait.length + 1 = (d.wait ++ [(⟨i, b.data.toList⟩ : Wt)]).length := by simp
      rw [e1, e2] at hS
      clear e1 e2
      have hS' : St w F (dks bd sv (.slice a3 (d.wait ++ [(⟨i, b.data.toList⟩ : Wt)]).length c3) { d with wait := d.wait ++ [⟨i, b.data.toList⟩] }) _ := hS.drop.drop
      clear hS
      have cT := cS.out _ _ (hS'.pre _ [] (List.append_nil _).symm)
      have hfr := fun (A' : List Ch) (W : World) k => hS'.call (A' := A') (w' := W) _ [] (List.append_nil _).symm k
      simp only [List.append_nil] at hfr
      replace cT := Lib.hid cT
      replace hfr := Lib.hid hfr
      clear hS' hcp ez cR cS hwl
      cases sd
      all_goals
        go_wp2_with (go_at_call 72; (refine cT.out.mono ?_); rintro _ w4 ⟨rfl, hb3⟩; replace hb3 := hfr.out _ _ hb3; replace hb3 := Lib.hid hb3)
        go_ret
        exact ⟨rfl, _, hb3.out⟩


theorem write_any (bd : Nat) (sv wv : Value) (d : Dk) (i : Int) (b : ByteArray) (w : World) (h : St w (feet (dks bd sv wv d)) (dks bd sv wv d) w) (hbm : b.size ≤ maxLen) (hw : d.wait.length ≤ 100000) (hf : -9223372036854775808 ≤ d.fuse ∧ d.fuse ≤ 9223372036854775807) :
    Calls Try.prog 17 #[.pointer (some ⟨bd, 0, none⟩), .int .i64 i, .string b] w fun e w' => e = .returned (.int .i64 (d.write i b.data.toList).2) ∧ ∃ wv', St w (feet (dks bd sv wv d)) (dks bd sv wv' (d.write i b.data.toList).1) w' := by
  by_cases hr : d.ready i = 0
  · by_cases hb : b.size = 64
    · exact write_main bd sv wv d i b w h hr hb hw hf
    · have cR := ready_any bd sv wv d i w h
      rw [hr] at cR
      have hd : d.write i b.data.toList = (d, 1) := by rw [Dk.write, if_pos hr, if_neg (by rw [← ba_size]; exact hb)]
      rw [hd]
      clear hr hd hf
      unfold maxLen at hbm
      replace cR := Lib.hid cR
      replace h := Lib.hid h
      have hb2 : ((b.size : Int) == 64) = false := by rw [beq_eq_false_iff_ne]; omega
      go_enter Try.func17, Try.ntmps17
      go_wp2_with (go_at_call 71; (with_reducible refine cR.out.mono ?_); rintro _ _ ⟨rfl, rfl⟩)
      go_ret
      exact ⟨rfl, wv, h.out⟩
  · have cR := ready_any bd sv wv d i w h
    have hd : d.write i b.data.toList = (d, d.ready i) := by rw [Dk.write, if_neg hr]
    rw [hd]
    have hz : (d.ready i == 0) = false := by rw [beq_eq_false_iff_ne]; exact hr
    generalize d.ready i = q at *
    clear hr hd hf hbm
    replace cR := Lib.hid cR
    replace h := Lib.hid h
    go_enter Try.func17, Try.ntmps17
    go_wp2_with (go_at_call 71; (with_reducible refine cR.out.mono ?_); rintro _ _ ⟨rfl, rfl⟩)
    go_ret
    exact ⟨rfl, wv, h.out⟩

end Go.Proofs.Ytlhpibniecfofaa
end

section
/- The law's sectors. -/
set_option linter.unusedSimpArgs false
set_option linter.unusedVariables false
namespace Go.Proofs.Ytlhpibniecfofaa
open Go.RowKit Go.Ofp
set_option linter.unusedVariables false
set_option maxRecDepth 100000
set_option maxHeartbeats 4000000

end Go.Proofs.Ytlhpibniecfofaa
end

section
/- The reference's disks: a sector of 0s. -/
set_option linter.unusedSimpArgs false
set_option linter.unusedVariables false
namespace Go.Proofs.Ytlhpibniecfofaa
open Go.RowKit Go.Ofp
set_option linter.unusedVariables false
set_option maxRecDepth 100000
set_option maxHeartbeats 4000000

end Go.Proofs.Ytlhpibniecfofaa
end

section
/- Sectors and writes as rows; the walk of Read. -/
set_option linter.unusedSimpArgs false
set_option linter.unusedVariables false
namespace Go.Ofp
theorem flat_take {α : Type} (k : Nat) (R : List (List α)) (h : ∀ r ∈ R, r.length = k) (j : Nat) : R.flatten.take (j * k) = (R.take j).flatten := by
  induction R generalizing j with
  | nil => simp
  | cons r R ih =>
    cases j with
    | zero => simp
    | succ j =>
      have hr := h r (by simp)
      rw [List.flatten_cons, List.take_succ_cons, List.flatten_cons, ← ih (fun x hx => h x (by simp [hx])), List.take_append, List.take_of_length_le (by rw [hr, Nat.add_mul]; omega), hr, show (j + 1) * k - k = j * k by rw [Nat.add_mul]; omega]
theorem flat_drop {α : Type} (k : Nat) (R : List (List α)) (h : ∀ r ∈ R, r.length = k) (j : Nat) : R.flatten.drop (j * k) = (R.drop j).flatten := by
  induction R generalizing j with
  | nil => simp
  | cons r R ih =>
    cases j with
    | zero => simp
    | succ j =>
      have hr := h r (by simp)
      rw [List.flatten_cons, List.drop_succ_cons, ← ih (fun x hx => h x (by simp [hx])), List.drop_append, List.drop_of_length_le (by rw [hr, Nat.add_mul]; omega), List.nil_append, hr, show (j + 1) * k - k = j * k by rw [Nat.add_mul]; omega]
theorem flat_elem {α : Type} (k : Nat) (R : List (List α)) (h : ∀ r ∈ R, r.length = k) (j : Nat) (hj : j < R.length) : (R.flatten.drop (j * k)).take k = R[j] := by
  have hr := h _ (List.getElem_mem hj)
  rw [flat_drop k R h, List.drop_eq_getElem_cons hj, List.flatten_cons, List.take_left' hr]
theorem flat_set {α : Type} (k : Nat) (R : List (List α)) (h : ∀ r ∈ R, r.length = k) (j : Nat) (hj : j < R.length) (x : List α) : R.flatten.take (j * k) ++ x ++ R.flatten.drop (j * k + k) = (R.set j x).flatten := by
  rw [flat_take k R h, show j * k + k = (j + 1) * k by rw [Nat.add_mul]; omega, flat_drop k R h, List.set_eq_take_append_cons_drop, if_pos hj]
  simp
/-- What is told of a sector. -/
def Dk.told (s : Sc) : List UInt8 × Int := if s.bad then ([], 16) else (s.b, 0)
/-- A write over what a sector has. -/
def Dk.over (i : Int) (s : Sc) (w : Wt) : Sc := if w.place = i then ⟨w.b, false⟩ else s
theorem over_len (i : Int) (l : List Wt) (h : ∀ w ∈ l, w.b.length = 64) (s : Sc) (hs : s.b.length = 64) : (l.foldl (Dk.over i) s).b.length = 64 := by
  induction l generalizing s with
  | nil => exact hs
  | cons x l ih =>
    rw [List.foldl_cons]
    refine ih (fun w hw => h w (by simp [hw])) _ ?_
    unfold Dk.over
    split
    · exact h x (by simp)
    · exact hs
theorem over_next (i : Int) (l : List Wt) (s : Sc) (j : Nat) (hj : j < l.length) : (l.take (j + 1)).foldl (Dk.over i) s = Dk.over i ((l.take j).foldl (Dk.over i) s) l[j] := by
  rw [List.take_succ_eq_append_getElem hj, List.foldl_append]
  rfl
end Go.Ofp
namespace Go.Proofs.Ytlhpibniecfofaa
open Go.RowKit Go.Ofp
set_option linter.unusedVariables false
set_option maxRecDepth 100000
set_option maxHeartbeats 4000000

theorem sc_each {d : Dk} (h : d.Ok) : ∀ r ∈ d.sec.map scRow, r.length = 65 := by
  intro r hr
  obtain ⟨s, hs, rfl⟩ := List.mem_map.1 hr
  exact scRow_length s (h.sec s hs)
theorem wt_each {d : Dk} (h : d.Ok) : ∀ r ∈ d.wait.map wtRow, r.length = 66 := by
  intro r hr
  obtain ⟨s, hs, rfl⟩ := List.mem_map.1 hr
  exact wtRow_length s (h.wait s hs).2.2
theorem sc_rowone (s : Sc) : (scRow s).all Value.oneCell' = true := by
  rw [List.all_eq_true]
  intro u hu
  simp only [scRow, List.mem_append, List.mem_map, List.mem_singleton] at hu
  rcases hu with ⟨_, _, rfl⟩ | rfl <;> rfl
theorem sc_bad (s : Sc) (h : s.b.length = 64) : (scRow s).toArray[64]? = some (.bool s.bad) := by
  simp [scRow, h]
theorem sc_bytes (s : Sc) (h : s.b.length = 64) : (scRow s).take 64 = s.b.map vb := by
  simp [scRow, h]
theorem wt_sector (x : Wt) (h : x.b.length = 64) : ((wtRow x).drop 1).take 65 = scRow ⟨x.b, false⟩ := by
  rw [List.take_of_length_le (by simp [wtRow, h])]
  simp [wtRow, scRow]
theorem store_whole {xs ys : List Value} {n : Nat} (h : xs.length = n) (hy : ys.length = n) : (xs.toArray.toList.take 0 ++ ys ++ xs.toArray.toList.drop (0 + n)).toArray = ys.toArray := by
  subst h
  simp

theorem read_main (bd : Nat) (sv wv : Value) (d : Dk) (k : Nat) (w : World) (h : St w (feet (dks bd sv wv d)) (dks bd sv wv d) w) (hok : d.Ok) (hr : d.ready k = 0) (hw : d.wait.length ≤ 100000) :
    Calls Try.prog 22 #[.pointer (some ⟨bd, 0, none⟩), .int .i64 k] w fun e w' => e = .returned (.tuple #[.string (str (d.read k).1), .int .i64 (d.read k).2]) ∧ St w (feet (dks bd sv wv d)) (dks bd sv wv d) w' := by
  have cR := ready_any bd sv wv d k w h
  obtain ⟨-, -, hkl⟩ := Dk.ready_zero hr
  replace hkl : k < d.sec.length := by omega
  rw [hr] at cR
  have hrd : d.read k = Dk.told (d.see k) := by rw [Dk.read, if_pos hr]; rfl
  rw [hrd]
  clear hrd
  have hse := sc_each hok
  have hwe := wt_each hok
  have hsl : (d.sec.map scRow).length = d.sec.length := List.length_map _
  have hwl : (d.wait.map wtRow).length = d.wait.length := List.length_map _
  have hload0 := flat_elem 65 _ hse k (by rw [hsl]; exact hkl)
  have hsk := hok.sec d.sec[k] (List.getElem_mem hkl)
  have hload : (((d.sec.map scRow).flatten).drop (k * 65)).take 65 = scRow d.sec[k] := by rw [hload0, List.getElem_map]
  have hsee : d.see k = d.wait.foldl (Dk.over k) d.sec[k] := by
    unfold Dk.see
    rw [List.getD_eq_getElem?_getD, Int.toNat_natCast, List.getElem?_eq_getElem hkl]
    rfl
  rw [hsee]
  have hwload : ∀ j (hj : j < d.wait.length), (((d.wait.map wtRow).flatten).drop (j * 66)).take 66 = wtRow d.wait[j] := by
    intro j hj
    rw [flat_elem 66 _ hwe j (by rw [hwl]; exact hj), List.getElem_map]
  have hwok := hok.wait
  generalize feet (dks bd sv wv d) = F at h ⊢
  have hS := h
  clear h hr hok hse hwe hsl hwl hload0 hsee
  unfold dks at hS ⊢
  obtain ⟨gs, cs, rfl, -⟩ := hS.rowat 1 rfl (by omega)
  obtain ⟨aw, cw, rfl, -⟩ := hS.row 2 rfl
  have ez := elem_sc
  have ew := elem_wt
  have hz0 := store_whole (xs := scZero) (ys := scRow d.sec[k]) (n := 65) (by simp [scZero]) (scRow_length _ hsk)
  generalize (d.sec.map scRow).flatten = R1 at *
  generalize (d.wait.map wtRow).flatten = R2 at *
  generalize d.sec[k] = s0 at *
  generalize d.wait = wl at *
  obtain ⟨n, hn⟩ : ∃ n, wl.length = n := ⟨_, rfl⟩
  rw [hn] at hS hw ⊢
  generalize d.sec.length = ns at *
  have hrl := scRow_length _ hsk
  have hro := sc_rowone s0
  replace cR := Lib.hid cR
  replace hload := Lib.hid hload
  replace hwload := Lib.hid hwload
  replace hwok := Lib.hid hwok
  replace hz0 := Lib.hid hz0
  replace hrl := Lib.hid hrl
  replace hro := Lib.hid hro
  replace hsk := Lib.hid hsk
  replace hn := Lib.hid hn
  go_enter Try.func22, Try.ntmps22
  go_wp2_with (first
    | (go_at_call 71; (with_reducible refine cR.out.mono ?_); rintro _ _ ⟨rfl, rfl⟩)
    | ((with_reducible refine wpList_loadelem_st 1 k hS rfl rfl rfl rfl rfl ?_ (by kernel_rfl) hload.out hrl.out ?_); focus (simp [rowB, go_sem]; done))
    | ((with_reducible refine wpList_alloc_st hS rfl rfl ez ?_); intro g1 w1 hS1; clear hS; have hS := hS1; clear hS1)
    | ((with_reducible refine wpList_storerow_st 0 (vs := scRow s0) (n := 65) hS rfl rfl rfl rfl (by kernel_rfl) rfl hrl.out hro.out rfl ?_); intro w1 hS1; clear hS; simp only [List.set_cons_zero] at hS1; rw [hz0.out] at hS1; have hS := hS1; clear hS1)
    | ((with_reducible refine wpList_load_st 0 hS rfl rfl rfl rfl ?_ rfl ?_); focus (simp [scalarB, go_sem]; done))
    | ((with_reducible refine wpList_load_st 1 hS rfl rfl rfl rfl ?_ rfl ?_); focus (simp [scalarB, go_sem]; done)))
  clear hro hrl hz0 hload cR
  go_loopg [28] n (fun gk vx wr => ∃ (j : Nat) (s : Sc), j + gk = n ∧ vx = .int .i64 j ∧ Hid (s = (wl.take j).foldl (Dk.over k) s0 ∧ s.b.length = 64) ∧ St w F [Ch.blk g1 122 (scRow s).toArray, Ch.blk bd 117 #[.slice (some ⟨gs, 0, none⟩) ns cs, .slice aw n cw, .int .i64 d.fuse, .bool d.dead], Ch.row 122 65 (.slice (some ⟨gs, 0, none⟩) ns cs) ns R1, Ch.row 125 66 (.slice aw n cw) n R2] wr)
  case atStart => exact ⟨0, s0, Nat.zero_add _, rfl, Lib.hid ⟨rfl, hsk.out⟩, hS⟩
  case round =>
    clear hS
    obtain ⟨j, s, hjn, rfl, hs, hS⟩ := hrel
    by_cases hlt : j < n
    · have hj' : j < wl.length := by have := hn.out; omega
      have hl2 := hwload.out j hj'
      have hw2 := (hwok.out wl[j] (List.getElem_mem hj')).2.2
      have hnext := over_next k wl s0 j hj'
      rw [← hs.out.1] at hnext
      have hlen := hs.out.2
      obtain ⟨gw, cw', hwv, -⟩ := hS.rowat 3 rfl (by omega)
      cases hwv
      generalize wl[j] = x at hl2 hw2 hnext
      have hp0 : (wtRow x).toArray[0]? = some (.int .i64 x.place) := rfl
      have hxl := wtRow_length x hw2
      have hxo : (wtRow x).all Value.oneCell' = true := by rw [List.all_eq_true]; exact wt_rowone x
      have hz1 := store_whole (xs := Value.int .i64 0 :: scZero) (ys := wtRow x) (n := 66) (by simp [scZero]) hxl
      have hsec := wt_sector x hw2
      have hz2 := store_whole (xs := scRow s) (ys := scRow ⟨x.b, false⟩) (n := 65) (scRow_length _ hlen) (scRow_length ⟨x.b, false⟩ hw2)
      have hsl2 := scRow_length ⟨x.b, false⟩ hw2
      have hso2 := sc_rowone ⟨x.b, false⟩
      have hsz2 : Nat.ble (0 + 65) (scRow s).toArray.size = true := by rw [List.size_toArray, scRow_length _ hlen]; rfl
      replace hl2 := Lib.hid hl2
      replace hp0 := Lib.hid hp0
      replace hxl := Lib.hid hxl
      replace hxo := Lib.hid hxo
      replace hz1 := Lib.hid hz1
      replace hsec := Lib.hid hsec
      replace hz2 := Lib.hid hz2
      replace hsl2 := Lib.hid hsl2
      replace hso2 := Lib.hid hso2
      replace hsz2 := Lib.hid hsz2
      replace hnext := Lib.hid hnext
      replace hlen := Lib.hid hlen
      replace hw2 := Lib.hid hw2
      clear hs hwok hwload  hn ez
      by_cases hp : x.place = (k : Int)
      · have hov : Dk.over k s x = ⟨x.b, false⟩ := by rw [Dk.over, if_pos hp]
        rw [hp] at hp0
        replace hov := Lib.hid hov
        clear hp
        go_wp2_with (first
          | ((with_reducible refine wpList_loadelem_st 3 j hS rfl rfl rfl rfl rfl ?_ (by kernel_rfl) hl2.out hxl.out ?_); focus (simp [rowB, go_sem]; done))
          | ((with_reducible refine wpList_alloc_st hS rfl rfl ew ?_); intro g3 w1 hS1; clear hS; have hS := hS1; clear hS1)
          | ((with_reducible refine wpList_storerow_st 0 (vs := wtRow x) (n := 66) hS rfl rfl rfl rfl (by kernel_rfl) rfl hxl.out hxo.out rfl ?_); intro w1 hS1; clear hS; simp only [List.set_cons_zero] at hS1; rw [hz1.out] at hS1; have hS := hS1; clear hS1)
          | ((with_reducible refine wpList_load_st 0 hS rfl rfl rfl rfl ?_ hp0.out ?_); focus (simp [scalarB, go_sem]; done))
          | ((with_reducible refine wpList_loadrow_st 0 hS rfl rfl rfl rfl ?_ (by kernel_rfl) hsec.out hsl2.out ?_); focus (simp [rowB, go_sem]; done))
          | ((with_reducible refine wpList_storerow_st 1 (vs := scRow ⟨x.b, false⟩) (n := 65) hS rfl rfl rfl rfl (by kernel_rfl) rfl hsl2.out hso2.out hsz2.out ?_); intro w1 hS1; clear hS; simp only [List.set_cons_succ, List.set_cons_zero] at hS1; rw [hz2.out] at hS1; have hS := hS1; clear hS1))
        go_roundg (n - (j + 1))
        case measure => omega
        case rel => exact ⟨j + 1, _, by omega, by go_num, Lib.hid ⟨by rw [hnext.out, hov.out], hw2.out⟩, hS.drop⟩
      · have hov : Dk.over k s x = s := by rw [Dk.over, if_neg hp]
        have hpb : (x.place == (k : Int)) = false := by rw [beq_eq_false_iff_ne]; exact hp
        replace hov := Lib.hid hov
        clear hp
        go_wp2_with (first
          | ((with_reducible refine wpList_loadelem_st 3 j hS rfl rfl rfl rfl rfl ?_ (by kernel_rfl) hl2.out hxl.out ?_); focus (simp [rowB, go_sem]; done))
          | ((with_reducible refine wpList_alloc_st hS rfl rfl ew ?_); intro g3 w1 hS1; clear hS; have hS := hS1; clear hS1)
          | ((with_reducible refine wpList_storerow_st 0 (vs := wtRow x) (n := 66) hS rfl rfl rfl rfl (by kernel_rfl) rfl hxl.out hxo.out rfl ?_); intro w1 hS1; clear hS; simp only [List.set_cons_zero] at hS1; rw [hz1.out] at hS1; have hS := hS1; clear hS1)
          | ((with_reducible refine wpList_load_st 0 hS rfl rfl rfl rfl ?_ hp0.out ?_); focus (simp [scalarB, go_sem]; done)))
        go_roundg (n - (j + 1))
        case measure => omega
        case rel => exact ⟨j + 1, s, by omega, by go_num, Lib.hid ⟨by rw [hnext.out, hov.out], hlen.out⟩, hS.drop⟩
    · have hfin : wl.foldl (Dk.over k) s0 = s := by
        rw [hs.out.1, List.take_of_length_le (by have := hn.out; omega)]
      have hlen := hs.out.2
      have hb0 := sc_bad s hlen
      have hsl : Sl wr (some ⟨g1, 0, none⟩) (s.b.map vb) := by
        have := (hS.blksl 0 rfl).take 64
        rwa [List.toList_toArray, sc_bytes s hlen] at this
      replace hb0 := Lib.hid hb0
      replace hsl := Lib.hid hsl
      replace hfin := Lib.hid hfin
      clear hs hwok hwload  hn ez ew
      obtain ⟨sb, hsb⟩ : ∃ x, s.bad = x := ⟨_, rfl⟩
      rw [hsb] at hb0
      replace hsb := Lib.hid hsb
      cases sb
      all_goals
        go_wp2_with (first
          | ((with_reducible refine wpList_load_st 0 hS rfl rfl rfl rfl ?_ hb0.out ?_); focus (simp [scalarB, go_sem]; done))
          | (with_reducible refine wpList_bts (src := 127) (dst := 9) (x := .tmp 42) (l := s.b) rfl rfl Try.underlying127 Try.underlying5 Try.underlying9 rfl hsl.out (by rw [hlen]) ?_))
        go_ret2
        exact ⟨by rw [hfin.out, Dk.told, hsb.out]; rfl, hS.drop⟩

theorem read_any (bd : Nat) (sv wv : Value) (d : Dk) (i : Int) (w : World) (h : St w (feet (dks bd sv wv d)) (dks bd sv wv d) w) (hok : d.Ok) (hw : d.wait.length ≤ 100000) :
    Calls Try.prog 22 #[.pointer (some ⟨bd, 0, none⟩), .int .i64 i] w fun e w' => e = .returned (.tuple #[.string (str (d.read i).1), .int .i64 (d.read i).2]) ∧ St w (feet (dks bd sv wv d)) (dks bd sv wv d) w' := by
  by_cases hr : d.ready i = 0
  · obtain ⟨-, h0, -⟩ := Dk.ready_zero hr
    obtain ⟨k, rfl⟩ := Int.eq_ofNat_of_zero_le h0
    exact read_main bd sv wv d k w h hok hr hw
  · have cR := ready_any bd sv wv d i w h
    have hd : d.read i = ([], d.ready i) := by rw [Dk.read, if_neg hr]
    rw [hd]
    have hz : (d.ready i == 0) = false := by rw [beq_eq_false_iff_ne]; exact hr
    generalize d.ready i = q at *
    clear hr hd hok hw
    replace cR := Lib.hid cR
    replace h := Lib.hid h
    go_enter Try.func22, Try.ntmps22
    go_wp2_with (go_at_call 71; (with_reducible refine cR.out.mono ?_); rintro _ _ ⟨rfl, rfl⟩)
    go_ret2
    exact ⟨rfl, h.out⟩
end Go.Proofs.Ytlhpibniecfofaa
end

section
/- Slices written out; what a callee hands back that made memory of its own. -/
set_option linter.unusedSimpArgs false
set_option linter.unusedVariables false
namespace Go.Ofp
open Go.RowKit

section
variable {P : Program} {w : World}
theorem run_build0 (w : World) (t e : TypeId) (ht : P.underlying t = some (.slice e)) {z : Value} {size bytes : Nat} (he : Elem P e z size bytes) :
    (Instr.buildSlice t 0 #[]).run P w = .ok (.slice (some ⟨w.heap.size, 0, none⟩) 0 0) (w.alloc (.cells #[] e)) := by
  obtain ⟨i, hi, hz, hsz, hby, hzs, hpos⟩ := he
  simp [Instr.buildSlice, run_underlying ht, sizeOf, typeInfo, hi, Instr.fill]
  rw [show (Array.map (fun (_ : Nat) => (default : Value)) (Array.range 0)) = #[] by simp]
  rfl

theorem own_build0 (w : World) (e : TypeId) (size : Nat) : (w.alloc (.cells #[] e)).ownsRow 0 e size (.slice (some ⟨w.heap.size, 0, none⟩) 0 0) 0 [] := by
  refine ⟨by simp, .inr ⟨w.heap.size, 0, #[], rfl, Nat.zero_le _, heap_alloc_new w _, Nat.le_refl _, by unfold maxLen; omega, by simp, by simp⟩⟩

variable {w0 : World} {F : List Nat} {L : List Ch} {ops : Array Oper} {rest : List Oper} {o : Oper} {a : Act} {Q : Exit → Act → World → Prop} {K : Act → World → Prop}

theorem St.build0 (hS : St w0 F L w) (e : TypeId) (size : Nat) : St w0 F (Ch.row e size (.slice (some ⟨w.heap.size, 0, none⟩) 0 0) 0 [] :: L) (w.alloc (.cells #[] e)) :=
  hS.push (Fr.alloc _ _) (own_build0 w e size) (by simp [Ch.row, Value.ownBlock])

/-- []T{}. -/
theorem wpList_build0_st (hS : St w0 F L w) (hgd : o.guard = none) {t : TypeId} (ho : o.op = .buildSlice t 0 #[]) {e : TypeId} (ht : P.underlying t = some (.slice e)) {z : Value} {size bytes : Nat} (he : Elem P e z size bytes)
    (h : ∀ g w', St w0 F (Ch.row e size (.slice (some ⟨g, 0, none⟩) 0 0) 0 [] :: L) w' → wpList P ops Q rest (a.put o.dst (.slice (some ⟨g, 0, none⟩) 0 0)) w') : wpList P ops Q (o :: rest) a w := by
  refine wpList_plain hgd fun K hK => ?_
  have hr := run_build0 (P := P) w t e ht he
  unfold Oper.wp execOp
  simp only [ho, List.map_toArray, List.map_nil, Sem.run_bind, hr, Result.andThen_ok, Sem.run_pure]
  exact hK _ _ (h _ _ (hS.build0 e size))

/-- []T{x}, x of one cell. -/
theorem wpList_build1c_st (hS : St w0 F L w) (hgd : o.guard = none) {t : TypeId} {x : Operand} (ho : o.op = .buildSlice t 1 #[(0, x)]) {e : TypeId} (ht : P.underlying t = some (.slice e)) {z : Value} {bytes : Nat} (he : Elem P e z 1 bytes)
    {v : Value} (hx : Value.scal (a.eval x) = some v)
    (h : ∀ g w', St w0 F (Ch.blk g e #[v] :: L) w' → wpList P ops Q rest (a.put o.dst (.slice (some ⟨g, 0, none⟩) 1 1)) w') : wpList P ops Q (o :: rest) a w := by
  refine wpList_plain hgd fun K hK => ?_
  obtain ⟨h1, h2, -⟩ := Value.scal_spec hx
  rw [h1] at h2
  have hr := run_build1 w t e ht he (v := v) (by rw [h2]; rfl) (by omega)
  unfold Oper.wp execOp
  simp only [ho, List.map_toArray, List.map_cons, List.map_nil, h1, Sem.run_bind, hr, Result.andThen_ok, Sem.run_pure]
  refine hK _ _ (h _ _ ?_)
  rw [← h2]
  exact hS.alloc v.cells e
theorem St.blksl2 {g t : Nat} {xs : List Value} (h : St w0 F L w) (i : Nat) (hi : L[i]? = some (Ch.blk g t xs.toArray)) : Sl w (some ⟨g, 0, none⟩) xs := by
  have := h.blksl i hi
  simpa using this

/-- Behind a callee that made memory of its own and wrote to none that was there. -/
theorem St.made {A : List Ch} {w1 : World} (h : St w0 F L w) (k : St w [] A w1) : St w0 F (A ++ L) w1 := h.call (A := []) (A' := A) (w' := w1) L rfl k
end
end Go.Ofp
end

section
/- A store into a part of a row of the call's own; the walk of Sync. -/
set_option linter.unusedSimpArgs false
set_option linter.unusedVariables false
namespace Go.Ofp
open Go.RowKit
section
variable {P : Program} {w w0 : World} {F : List Nat} {L : List Ch} {ops : Array Oper} {rest : List Oper} {o : Oper} {a : Act} {Q : Exit → Act → World → Prop} {K : Act → World → Prop}

theorem ownsRow_put {e size n c g k : Nat} {xs vs : List Value} (h : w.ownsRow 0 e size (.slice (some ⟨g, 0, none⟩) n c) n xs) (hk : k + vs.length ≤ n * size) (h1 : ∀ v ∈ vs, v.oneCell' = true) :
    ∃ w', (storeCells ⟨g, k, none⟩ vs 0).run P w = .ok () w' ∧ w'.ownsRow 0 e size (.slice (some ⟨g, 0, none⟩) n c) n (xs.take k ++ vs ++ xs.drop (k + vs.length)) ∧ Fr [g] w w' := by
  rcases h.2 with ⟨h, _⟩ | ⟨g', cap, cur, hv, _, hgc, hnc, hcm, hcs, htake⟩
  · cases h
  cases hv
  have hmul2 : n * size ≤ c * size := Nat.mul_le_mul_right _ hnc
  have hst := run_storeCells_at P g k e vs 0 cur w hgc (by omega) h1
  simp only [Nat.add_zero] at hst
  refine ⟨_, hst, ⟨?_, .inr ⟨g, c, _, rfl, Nat.zero_le _, setRow_heap w g cur _ e _ hgc, hnc, hcm, ?_, ?_⟩⟩, Fr.of_grown ⟨rfl, rfl, rfl, by simp, fun k _ hk => setRow_other w g k _ (fun e => hk (by simp [e]))⟩⟩
  · have := h.1
    simp only [List.length_append, List.length_take, List.length_drop]
    omega
  · simp only [List.size_toArray, List.length_append, List.length_take, List.length_drop, Array.length_toList]
    omega
  · have hlc : cur.toList.length = c * size := by simpa using hcs
    rw [← htake]
    simp only [List.take_take, Nat.min_eq_left (show k ≤ n * size by omega)]
    rw [List.take_append, List.take_of_length_le (by simp only [List.length_append, List.length_take]; omega), List.drop_take]
    congr 1
    simp only [List.length_append, List.length_take]
    congr 1
    omega

/-- An element of a slice of the call's own is written. -/
theorem op_storeelem_st (hw : Region.wanted o (yielded ops a.tmps) = true) (i j : Nat) {e size n c g k : Nat} {xs : List Value} (hS : St w0 F L w) (hi : L[i]? = some (Ch.row e size (.slice (some ⟨g, 0, none⟩) n c) n xs)) {t : TypeId} {x y : Operand} (ho : o.op = .store t x y) (hx : a.eval x = .pointer (some ⟨g, k, none⟩)) (hk : k = j * size)
    (hsz : sizeB P t size = true) {vs : List Value} (hy : a.eval y = .agg vs.toArray) (hl : vs.length = size) (hv : vs.all Value.oneCell' = true) (hj : j < n)
    (h : ∀ w', St w0 F (L.set i (Ch.row e size (.slice (some ⟨g, 0, none⟩) n c) n (xs.take (j * size) ++ vs ++ xs.drop (j * size + size)))) w' → K (a.put o.dst undef) w') : if Region.wanted o (yielded ops a.tmps) = true then Oper.wp P o a w K Q else K (a.put o.dst undef) w := by
  rw [if_pos hw]
  subst hk
  have h3 : (P.info? t).map (·.size) = some size := by simpa [sizeB] using hsz
  obtain ⟨ii, hii, hi1⟩ := Option.map_eq_some_iff.1 h3
  obtain ⟨w', k1, k2, k3⟩ := ownsRow_set (P := P) (hS.get i hi) hj hl (fun v hv' => List.all_eq_true.1 hv v hv')
  have hr : (Instr.storeAt t (.pointer (some ⟨g, j * size, none⟩)) (.agg vs.toArray)).run P w = .ok () w' := by
    simp [Instr.storeAt, Instr.sureAddr, storeVar, sizeOf, typeInfo, hii, hi1, Value.cells, hl, k1]
  unfold Oper.wp execOp
  simp only [ho, hx, hy, Sem.run_bind, hr, Result.andThen_ok, Sem.run_pure]
  exact h _ (hS.upd i hi k3 (by simp [Ch.row, Value.ownBlock]) k2 (by simp [Ch.row, Value.ownBlock]))

/-- A single cell in a slice of the call's own is written. -/
theorem op_storecell_st (hw : Region.wanted o (yielded ops a.tmps) = true) (i : Nat) {e size n c g k : Nat} {xs : List Value} (hS : St w0 F L w) (hi : L[i]? = some (Ch.row e size (.slice (some ⟨g, 0, none⟩) n c) n xs)) {t : TypeId} {x y : Operand} (ho : o.op = .store t x y) (hx : a.eval x = .pointer (some ⟨g, k, none⟩))
    (hsz : sizeB P t 1 = true) {v : Value} (hy : Value.scal (a.eval y) = some v) (hk : k + 1 ≤ n * size)
    (h : ∀ w', St w0 F (L.set i (Ch.row e size (.slice (some ⟨g, 0, none⟩) n c) n (xs.take k ++ [v] ++ xs.drop (k + 1)))) w' → K (a.put o.dst undef) w') : if Region.wanted o (yielded ops a.tmps) = true then Oper.wp P o a w K Q else K (a.put o.dst undef) w := by
  rw [if_pos hw]
  have h3 : (P.info? t).map (·.size) = some 1 := by simpa [sizeB] using hsz
  obtain ⟨ii, hii, hi1⟩ := Option.map_eq_some_iff.1 h3
  obtain ⟨hy, -, hv⟩ := Value.scal_spec hy
  have hcs : v.cells = #[v] := by cases v <;> simp_all [Value.cells, Value.oneCell']
  obtain ⟨w', k1, k2, k3⟩ := ownsRow_put (P := P) (vs := [v]) (hS.get i hi) (by simpa using hk) (by simpa using hv)
  have hr : (Instr.storeAt t (.pointer (some ⟨g, k, none⟩)) v).run P w = .ok () w' := by
    simp [Instr.storeAt, Instr.sureAddr, storeVar, sizeOf, typeInfo, hii, hi1, hcs, k1]
  unfold Oper.wp execOp
  simp only [ho, hx, hy, Sem.run_bind, hr, Result.andThen_ok, Sem.run_pure]
  exact h _ (hS.upd i hi k3 (by simp [Ch.row, Value.ownBlock]) k2 (by simp [Ch.row, Value.ownBlock]))
end
theorem St.front {w0 w : World} {F : List Nat} {A R : List Ch} (h : St w0 F (A ++ R) w) : St w0 F A w :=
  h.pick (fun i => i) (fun i c hc => by rw [List.getElem?_append_left (List.getElem?_eq_some_iff.1 hc).1]; exact hc) (fun _ _ _ _ h => h)
end Go.Ofp
namespace Go.Proofs.Ytlhpibniecfofaa
open Go.RowKit Go.Ofp
set_option linter.unusedVariables false
set_option maxRecDepth 100000
set_option maxHeartbeats 4000000

theorem done_next (sec : List Sc) (l : List Wt) (j : Nat) (hj : j < l.length) : Dk.done sec (l.take (j + 1)) = (Dk.done sec (l.take j)).set l[j].place.toNat ⟨l[j].b, false⟩ := by
  unfold Dk.done
  rw [List.take_succ_eq_append_getElem hj, List.foldl_append]
  rfl
theorem sc_map_each {l : List Sc} (h : ∀ s ∈ l, s.b.length = 64) : ∀ r ∈ l.map scRow, r.length = 65 := by
  intro r hr
  obtain ⟨s, hs, rfl⟩ := List.mem_map.1 hr
  exact scRow_length s (h s hs)

theorem sync_main (bd : Nat) (sv wv : Value) (d : Dk) (w : World) (h : St w (feet (dks bd sv wv d)) (dks bd sv wv d) w) (hok : d.Ok) (hr : d.ready 0 = 0) (hsd : d.step.dead = false) (hw : d.wait.length ≤ 100000) (hf : -9223372036854775808 ≤ d.fuse ∧ d.fuse ≤ 9223372036854775807) :
    Calls Try.prog 19 #[.pointer (some ⟨bd, 0, none⟩)] w fun e w' => e = .returned (.int .i64 0) ∧ ∃ wv', St w (feet (dks bd sv wv d)) (dks bd sv wv' { d.step with sec := Dk.done d.sec d.wait, wait := [] }) w' := by
  have cR := ready_any bd sv wv d 0 w h
  rw [hr] at cR
  have cS := step_any bd sv wv d w h hf
  rw [hsd] at cS
  have hwe := wt_each hok
  have hwl : (d.wait.map wtRow).length = d.wait.length := List.length_map _
  have hwload : ∀ j (hj : j < d.wait.length), (((d.wait.map wtRow).flatten).drop (j * 66)).take 66 = wtRow d.wait[j] := by
    intro j hj
    rw [flat_elem 66 _ hwe j (by rw [hwl]; exact hj), List.getElem_map]
  have hwok := hok.wait
  have hso := hok.sec
  have hpos := hok.pos
  have ew := elem_wt
  generalize feet (dks bd sv wv d) = F at cS ⊢
  clear h hr hok hf
  unfold dks at cS ⊢
  simp only [Dk.step_sec, Dk.step_wait, Dk.done_length, List.map_nil, List.flatten_nil, List.length_nil, hsd] at cS ⊢
  generalize d.step.fuse = fz at cS ⊢
  clear hsd
  generalize d.wait = wl at *
  generalize d.sec = sec at *
  generalize (wl.map wtRow).flatten = R2 at *
  obtain ⟨n, hn⟩ : ∃ n, wl.length = n := ⟨_, rfl⟩
  obtain ⟨ns, hns⟩ : ∃ n, sec.length = n := ⟨_, rfl⟩
  rw [hn] at hw
  rw [hns] at hpos hwok ⊢
  rw [hn, hns] at cS
  replace cR := Lib.hid cR
  replace cS := Lib.hid cS
  replace hwload := Lib.hid hwload
  replace hwok := Lib.hid hwok
  replace hso := Lib.hid hso
  replace hn := Lib.hid hn
  replace hns := Lib.hid hns
  go_enter Try.func19, Try.ntmps19
  go_wp2_with (first
    | (go_at_call 71; (with_reducible refine cR.out.mono ?_); rintro _ _ ⟨rfl, rfl⟩)
    | (go_at_call 72; (with_reducible refine cS.out.mono ?_); rintro _ w4 ⟨rfl, hS⟩; obtain ⟨gs, cs, rfl, -⟩ := hS.rowat 1 rfl hpos; obtain ⟨aw, cw, rfl, -⟩ := hS.row 2 rfl)
    | ((with_reducible refine wpList_load_st 0 hS rfl rfl rfl rfl ?_ rfl ?_); focus (simp [scalarB, go_sem]; done)))
  clear cS cR
  go_loopg [19] n (fun gk vx wr => ∃ (j : Nat) (l : List Sc), j + gk = n ∧ vx = .int .i64 j ∧ Hid (l = Dk.done sec (wl.take j)) ∧ St w F [Ch.blk bd 117 #[.slice (some ⟨gs, 0, none⟩) ns cs, .slice aw n cw, .int .i64 fz, .bool false], Ch.row 122 65 (.slice (some ⟨gs, 0, none⟩) ns cs) ns (l.map scRow).flatten, Ch.row 125 66 (.slice aw n cw) n R2] wr)
  case atStart => exact ⟨0, sec, Nat.zero_add _, rfl, Lib.hid rfl, hS⟩
  case round =>
    clear hS
    obtain ⟨j, l, hjn, rfl, hl, hS⟩ := hrel
    by_cases hlt : j < n
    · have hj' : j < wl.length := by have := hn.out; omega
      have hl2 := hwload.out j hj'
      obtain ⟨hp1, hp2, hw2⟩ := hwok.out wl[j] (List.getElem_mem hj')
      have hnext := done_next sec wl j hj'
      rw [← hl.out] at hnext
      have hll : l.length = ns := by rw [hl.out, Dk.done_length, hns.out]
      have hle : ∀ s ∈ l, s.b.length = 64 := by
        rw [hl.out]
        exact Dk.done_ok hso.out fun x hx => (hwok.out x (List.mem_of_mem_take hx)).2.2
      have hle2 := sc_map_each hle
      obtain ⟨gw, cw', hwv, -⟩ := hS.rowat 2 rfl (by omega)
      cases hwv
      generalize wl[j] = x at hl2 hw2 hnext hp1 hp2
      obtain ⟨q, hq⟩ := Int.eq_ofNat_of_zero_le hp1
      have hqn : q < ns := by omega
      rw [hq, Int.toNat_natCast] at hnext
      have hp0 : (wtRow x).toArray[0]? = some (.int .i64 q) := by rw [← hq]; rfl
      have hxl := wtRow_length x hw2
      have hxo : (wtRow x).all Value.oneCell' = true := by rw [List.all_eq_true]; exact wt_rowone x
      have hz1 := store_whole (xs := Value.int .i64 0 :: scZero) (ys := wtRow x) (n := 66) (by simp [scZero]) hxl
      have hsec : ((wtRow x).toArray.toList.drop 1).take 65 = scRow ⟨x.b, false⟩ := wt_sector x hw2
      have hset := flat_set 65 _ hle2 q (by rw [List.length_map, hll]; exact hqn) (scRow ⟨x.b, false⟩)
      rw [← List.map_set, ← hnext] at hset
      have hsl2 := scRow_length ⟨x.b, false⟩ hw2
      have hso2 := sc_rowone ⟨x.b, false⟩
      replace hl2 := Lib.hid hl2
      replace hp0 := Lib.hid hp0
      replace hxl := Lib.hid hxl
      replace hxo := Lib.hid hxo
      replace hz1 := Lib.hid hz1
      replace hsec := Lib.hid hsec
      replace hsl2 := Lib.hid hsl2
      replace hso2 := Lib.hid hso2
      replace hset := Lib.hid hset
      clear hwok hwload hn hns hl hso hle hle2 hll hp1 hp2 hq hnext hw2
      generalize (l.map scRow).flatten = R1 at *
      go_wp2_with (first
        | ((with_reducible refine wpList_loadelem_st 2 j hS rfl rfl rfl rfl rfl ?_ (by kernel_rfl) hl2.out hxl.out ?_); focus (simp [rowB, go_sem]; done))
        | ((with_reducible refine wpList_alloc_st hS rfl rfl ew ?_); intro g3 w1 hS1; clear hS; have hS := hS1; clear hS1)
        | ((with_reducible refine wpList_storerow_st 0 (vs := wtRow x) (n := 66) hS rfl rfl rfl rfl (by kernel_rfl) rfl hxl.out hxo.out rfl ?_); intro w1 hS1; clear hS; simp only [List.set_cons_zero] at hS1; rw [hz1.out] at hS1; have hS := hS1; clear hS1))
      have hr65 : rowB Try.prog 122 = true := by simp [rowB, go_sem]
      refine mixs_beginE (by kernel_rfl) hS ?_
      clear hS
      intro w2 hS hC
      have hsc : scalarB Try.prog 3 = true := by simp [scalarB, go_sem]
      refine mixs_take 0 (v := ?_) rfl (by kernel_rfl) (fun _ _ _ h => h) (by kernel_rfl) (by assumption) (fun s => ?hy) ?_; case hy => (go_simp <;> with_reducible rfl)
      try simp only [List.getElem_toArray, List.getElem_cons_succ, List.getElem_cons_zero, Act.put, List.setIfInBounds_toArray, List.set_cons_zero, List.set_cons_succ]
      refine mixs_take 1 (v := ?_) rfl (by kernel_rfl) (fun _ _ _ h => h) (by kernel_rfl) (by assumption) (fun s => ?hy) ?_; case hy => (go_simp <;> with_reducible rfl)
      try simp only [List.getElem_toArray, List.getElem_cons_succ, List.getElem_cons_zero, Act.put, List.setIfInBounds_toArray, List.set_cons_zero, List.set_cons_succ]
      refine mixs_take 2 (v := ?_) rfl (by kernel_rfl) (fun _ _ _ h => h) (by kernel_rfl) (by assumption) (fun s => ?hy) ?_; case hy => (go_simp <;> with_reducible rfl)
      try simp only [List.getElem_toArray, List.getElem_cons_succ, List.getElem_cons_zero, Act.put, List.setIfInBounds_toArray, List.set_cons_zero, List.set_cons_succ]
      refine mixs_take 4 (v := ?_) rfl (by kernel_rfl) (fun _ _ _ h => h) (by kernel_rfl) (by assumption) (fun s => ?hy) ?_; case hy => (go_simp <;> with_reducible rfl)
      try simp only [List.getElem_toArray, List.getElem_cons_succ, List.getElem_cons_zero, Act.put, List.setIfInBounds_toArray, List.set_cons_zero, List.set_cons_succ]
      refine mixs_take 6 (v := ?_) rfl (by kernel_rfl) (fun _ _ _ h => h) (by kernel_rfl) (by assumption) (fun s => ?hy) ?_; case hy => (go_simp <;> with_reducible rfl)
      try simp only [List.getElem_toArray, List.getElem_cons_succ, List.getElem_cons_zero, Act.put, List.setIfInBounds_toArray, List.set_cons_zero, List.set_cons_succ]
      refine mixs_three 3 5 7 (by kernel_rfl) rfl rfl rfl (fun K hK => ?_) (fun K hK => ?_) (fun K hK => ?_)
      ·
        refine op_load_st (by kernel_rfl) 1 hS rfl rfl rfl (by simp [scalarB, go_sem]) rfl ?_
        try clear hC
        refine hK.out _ _ _ (fun _ h => h) (by first | exact hS | exact hS.drop | exact hS.drop.drop | exact hS.drop.drop.drop | exact hS.drop.drop.drop.drop | exact hS.empty | exact hS.one 0 rfl | exact hS.one 1 rfl | exact hS.one 2 rfl | exact hS.one 3 rfl | exact hS.one 4 rfl | exact hS.one 5 rfl | exact hS.one 6 rfl | exact hS.one 7 rfl | exact hS.one 8 rfl | exact hS.one 9 rfl | exact hS.one 10 rfl | exact hS.one 11 rfl) (fun hC => ?_)
        clear hK K
        try simp only [List.getElem_toArray, List.getElem_cons_succ, List.getElem_cons_zero, Act.put, List.setIfInBounds_toArray, List.set_cons_zero, List.set_cons_succ]
        refine mixs_two 5 7 (by kernel_rfl) rfl rfl (fun K hK => ?_) (fun K hK => ?_)
        ·
          (refine op_load_st (by kernel_rfl) 0 hS rfl rfl rfl hsc hp0.out ?_)
          try clear hC
          refine hK.out _ _ _ (fun _ h => h) (by first | exact hS | exact hS.drop | exact hS.drop.drop | exact hS.drop.drop.drop | exact hS.drop.drop.drop.drop | exact hS.empty | exact hS.one 0 rfl | exact hS.one 1 rfl | exact hS.one 2 rfl | exact hS.one 3 rfl | exact hS.one 4 rfl | exact hS.one 5 rfl | exact hS.one 6 rfl | exact hS.one 7 rfl | exact hS.one 8 rfl | exact hS.one 9 rfl | exact hS.one 10 rfl | exact hS.one 11 rfl) (fun hC => ?_)
          clear hK K
          try simp only [List.getElem_toArray, List.getElem_cons_succ, List.getElem_cons_zero, Act.put, List.setIfInBounds_toArray, List.set_cons_zero, List.set_cons_succ]
          refine mixs_one 7 (by kernel_rfl) rfl (fun K hK => ?_)
          (refine op_loadrow_st (by kernel_rfl) 0 hS rfl rfl rfl hr65 (by kernel_rfl) hsec.out hsl2.out ?_)
          try clear hC
          refine hK.out _ _ _ (fun _ h => h) (by first | exact hS | exact hS.drop | exact hS.drop.drop | exact hS.drop.drop.drop | exact hS.drop.drop.drop.drop | exact hS.empty | exact hS.one 0 rfl | exact hS.one 1 rfl | exact hS.one 2 rfl | exact hS.one 3 rfl | exact hS.one 4 rfl | exact hS.one 5 rfl | exact hS.one 6 rfl | exact hS.one 7 rfl | exact hS.one 8 rfl | exact hS.one 9 rfl | exact hS.one 10 rfl | exact hS.one 11 rfl) (fun hC => ?_)
          clear hK K
          try simp only [List.getElem_toArray, List.getElem_cons_succ, List.getElem_cons_zero, Act.put, List.setIfInBounds_toArray, List.set_cons_zero, List.set_cons_succ]
          refine mixs_take 8 (v := ?_) rfl (by kernel_rfl) (fun _ _ _ h => h) (by kernel_rfl) (by assumption) (fun s => ?hy) ?_; case hy => (go_simp <;> with_reducible rfl)
          try simp only [List.getElem_toArray, List.getElem_cons_succ, List.getElem_cons_zero, Act.put, List.setIfInBounds_toArray, List.set_cons_zero, List.set_cons_succ]
          refine mixs_one 9 (by kernel_rfl) rfl (fun K hK => ?_)
          (refine op_storeelem_st (by kernel_rfl) 2 q hS rfl rfl rfl rfl (by kernel_rfl) rfl hsl2.out hso2.out hqn ?_; intro w3 hS1; clear hS; simp only [List.set_cons_succ, List.set_cons_zero] at hS1; rw [hset.out] at hS1; have hS := hS1; clear hS1)
          try clear hC
          refine hK.out _ _ _ (fun _ h => h) (by first | exact hS | exact hS.drop | exact hS.drop.drop | exact hS.drop.drop.drop | exact hS.drop.drop.drop.drop | exact hS.empty | exact hS.one 0 rfl | exact hS.one 1 rfl | exact hS.one 2 rfl | exact hS.one 3 rfl | exact hS.one 4 rfl | exact hS.one 5 rfl | exact hS.one 6 rfl | exact hS.one 7 rfl | exact hS.one 8 rfl | exact hS.one 9 rfl | exact hS.one 10 rfl | exact hS.one 11 rfl) (fun hC => ?_)
          clear hK K
          try simp only [List.getElem_toArray, List.getElem_cons_succ, List.getElem_cons_zero, Act.put, List.setIfInBounds_toArray, List.set_cons_zero, List.set_cons_succ]
          refine wpAnyH_done (by kernel_rfl) ?_ _
          try clear hC
          go_wp2_with fail
          go_roundg (n - (j + 1))
          case measure => omega
          case rel => exact ⟨j + 1, _, by omega, by go_num, Lib.hid rfl, hS.drop⟩
        ·
          (refine op_loadrow_st (by kernel_rfl) 0 hS rfl rfl rfl hr65 (by kernel_rfl) hsec.out hsl2.out ?_)
          try clear hC
          refine hK.out _ _ _ (fun _ h => h) (by first | exact hS | exact hS.drop | exact hS.drop.drop | exact hS.drop.drop.drop | exact hS.drop.drop.drop.drop | exact hS.empty | exact hS.one 0 rfl | exact hS.one 1 rfl | exact hS.one 2 rfl | exact hS.one 3 rfl | exact hS.one 4 rfl | exact hS.one 5 rfl | exact hS.one 6 rfl | exact hS.one 7 rfl | exact hS.one 8 rfl | exact hS.one 9 rfl | exact hS.one 10 rfl | exact hS.one 11 rfl) (fun hC => ?_)
          clear hK K
          try simp only [List.getElem_toArray, List.getElem_cons_succ, List.getElem_cons_zero, Act.put, List.setIfInBounds_toArray, List.set_cons_zero, List.set_cons_succ]
          refine mixs_one 5 (by kernel_rfl) rfl (fun K hK => ?_)
          (refine op_load_st (by kernel_rfl) 0 hS rfl rfl rfl hsc hp0.out ?_)
          try clear hC
          refine hK.out _ _ _ (fun _ h => h) (by first | exact hS | exact hS.drop | exact hS.drop.drop | exact hS.drop.drop.drop | exact hS.drop.drop.drop.drop | exact hS.empty | exact hS.one 0 rfl | exact hS.one 1 rfl | exact hS.one 2 rfl | exact hS.one 3 rfl | exact hS.one 4 rfl | exact hS.one 5 rfl | exact hS.one 6 rfl | exact hS.one 7 rfl | exact hS.one 8 rfl | exact hS.one 9 rfl | exact hS.one 10 rfl | exact hS.one 11 rfl) (fun hC => ?_)
          clear hK K
          try simp only [List.getElem_toArray, List.getElem_cons_succ, List.getElem_cons_zero, Act.put, List.setIfInBounds_toArray, List.set_cons_zero, List.set_cons_succ]
          refine mixs_take 8 (v := ?_) rfl (by kernel_rfl) (fun _ _ _ h => h) (by kernel_rfl) (by assumption) (fun s => ?hy) ?_; case hy => (go_simp <;> with_reducible rfl)
          try simp only [List.getElem_toArray, List.getElem_cons_succ, List.getElem_cons_zero, Act.put, List.setIfInBounds_toArray, List.set_cons_zero, List.set_cons_succ]
          refine mixs_one 9 (by kernel_rfl) rfl (fun K hK => ?_)
          (refine op_storeelem_st (by kernel_rfl) 2 q hS rfl rfl rfl rfl (by kernel_rfl) rfl hsl2.out hso2.out hqn ?_; intro w3 hS1; clear hS; simp only [List.set_cons_succ, List.set_cons_zero] at hS1; rw [hset.out] at hS1; have hS := hS1; clear hS1)
          try clear hC
          refine hK.out _ _ _ (fun _ h => h) (by first | exact hS | exact hS.drop | exact hS.drop.drop | exact hS.drop.drop.drop | exact hS.drop.drop.drop.drop | exact hS.empty | exact hS.one 0 rfl | exact hS.one 1 rfl | exact hS.one 2 rfl | exact hS.one 3 rfl | exact hS.one 4 rfl | exact hS.one 5 rfl | exact hS.one 6 rfl | exact hS.one 7 rfl | exact hS.one 8 rfl | exact hS.one 9 rfl | exact hS.one 10 rfl | exact hS.one 11 rfl) (fun hC => ?_)
          clear hK K
          try simp only [List.getElem_toArray, List.getElem_cons_succ, List.getElem_cons_zero, Act.put, List.setIfInBounds_toArray, List.set_cons_zero, List.set_cons_succ]
          refine wpAnyH_done (by kernel_rfl) ?_ _
          try clear hC
          go_wp2_with fail
          go_roundg (n - (j + 1))
          case measure => omega
          case rel => exact ⟨j + 1, _, by omega, by go_num, Lib.hid rfl, hS.drop⟩
      ·
        (refine op_load_st (by kernel_rfl) 0 hS rfl rfl rfl hsc hp0.out ?_)
        try clear hC
        refine hK.out _ _ _ (fun _ h => h) (by first | exact hS | exact hS.drop | exact hS.drop.drop | exact hS.drop.drop.drop | exact hS.drop.drop.drop.drop | exact hS.empty | exact hS.one 0 rfl | exact hS.one 1 rfl | exact hS.one 2 rfl | exact hS.one 3 rfl | exact hS.one 4 rfl | exact hS.one 5 rfl | exact hS.one 6 rfl | exact hS.one 7 rfl | exact hS.one 8 rfl | exact hS.one 9 rfl | exact hS.one 10 rfl | exact hS.one 11 rfl) (fun hC => ?_)
        clear hK K
        try simp only [List.getElem_toArray, List.getElem_cons_succ, List.getElem_cons_zero, Act.put, List.setIfInBounds_toArray, List.set_cons_zero, List.set_cons_succ]
        refine mixs_two 3 7 (by kernel_rfl) rfl rfl (fun K hK => ?_) (fun K hK => ?_)
        ·
          refine op_load_st (by kernel_rfl) 1 hS rfl rfl rfl (by simp [scalarB, go_sem]) rfl ?_
          try clear hC
          refine hK.out _ _ _ (fun _ h => h) (by first | exact hS | exact hS.drop | exact hS.drop.drop | exact hS.drop.drop.drop | exact hS.drop.drop.drop.drop | exact hS.empty | exact hS.one 0 rfl | exact hS.one 1 rfl | exact hS.one 2 rfl | exact hS.one 3 rfl | exact hS.one 4 rfl | exact hS.one 5 rfl | exact hS.one 6 rfl | exact hS.one 7 rfl | exact hS.one 8 rfl | exact hS.one 9 rfl | exact hS.one 10 rfl | exact hS.one 11 rfl) (fun hC => ?_)
          clear hK K
          try simp only [List.getElem_toArray, List.getElem_cons_succ, List.getElem_cons_zero, Act.put, List.setIfInBounds_toArray, List.set_cons_zero, List.set_cons_succ]
          refine mixs_one 7 (by kernel_rfl) rfl (fun K hK => ?_)
          (refine op_loadrow_st (by kernel_rfl) 0 hS rfl rfl rfl hr65 (by kernel_rfl) hsec.out hsl2.out ?_)
          try clear hC
          refine hK.out _ _ _ (fun _ h => h) (by first | exact hS | exact hS.drop | exact hS.drop.drop | exact hS.drop.drop.drop | exact hS.drop.drop.drop.drop | exact hS.empty | exact hS.one 0 rfl | exact hS.one 1 rfl | exact hS.one 2 rfl | exact hS.one 3 rfl | exact hS.one 4 rfl | exact hS.one 5 rfl | exact hS.one 6 rfl | exact hS.one 7 rfl | exact hS.one 8 rfl | exact hS.one 9 rfl | exact hS.one 10 rfl | exact hS.one 11 rfl) (fun hC => ?_)
          clear hK K
          try simp only [List.getElem_toArray, List.getElem_cons_succ, List.getElem_cons_zero, Act.put, List.setIfInBounds_toArray, List.set_cons_zero, List.set_cons_succ]
          refine mixs_take 8 (v := ?_) rfl (by kernel_rfl) (fun _ _ _ h => h) (by kernel_rfl) (by assumption) (fun s => ?hy) ?_; case hy => (go_simp <;> with_reducible rfl)
          try simp only [List.getElem_toArray, List.getElem_cons_succ, List.getElem_cons_zero, Act.put, List.setIfInBounds_toArray, List.set_cons_zero, List.set_cons_succ]
          refine mixs_one 9 (by kernel_rfl) rfl (fun K hK => ?_)
          (refine op_storeelem_st (by kernel_rfl) 2 q hS rfl rfl rfl rfl (by kernel_rfl) rfl hsl2.out hso2.out hqn ?_; intro w3 hS1; clear hS; simp only [List.set_cons_succ, List.set_cons_zero] at hS1; rw [hset.out] at hS1; have hS := hS1; clear hS1)
          try clear hC
          refine hK.out _ _ _ (fun _ h => h) (by first | exact hS | exact hS.drop | exact hS.drop.drop | exact hS.drop.drop.drop | exact hS.drop.drop.drop.drop | exact hS.empty | exact hS.one 0 rfl | exact hS.one 1 rfl | exact hS.one 2 rfl | exact hS.one 3 rfl | exact hS.one 4 rfl | exact hS.one 5 rfl | exact hS.one 6 rfl | exact hS.one 7 rfl | exact hS.one 8 rfl | exact hS.one 9 rfl | exact hS.one 10 rfl | exact hS.one 11 rfl) (fun hC => ?_)
          clear hK K
          try simp only [List.getElem_toArray, List.getElem_cons_succ, List.getElem_cons_zero, Act.put, List.setIfInBounds_toArray, List.set_cons_zero, List.set_cons_succ]
          refine wpAnyH_done (by kernel_rfl) ?_ _
          try clear hC
          go_wp2_with fail
          go_roundg (n - (j + 1))
          case measure => omega
          case rel => exact ⟨j + 1, _, by omega, by go_num, Lib.hid rfl, hS.drop⟩
        ·
          (refine op_loadrow_st (by kernel_rfl) 0 hS rfl rfl rfl hr65 (by kernel_rfl) hsec.out hsl2.out ?_)
          try clear hC
          refine hK.out _ _ _ (fun _ h => h) (by first | exact hS | exact hS.drop | exact hS.drop.drop | exact hS.drop.drop.drop | exact hS.drop.drop.drop.drop | exact hS.empty | exact hS.one 0 rfl | exact hS.one 1 rfl | exact hS.one 2 rfl | exact hS.one 3 rfl | exact hS.one 4 rfl | exact hS.one 5 rfl | exact hS.one 6 rfl | exact hS.one 7 rfl | exact hS.one 8 rfl | exact hS.one 9 rfl | exact hS.one 10 rfl | exact hS.one 11 rfl) (fun hC => ?_)
          clear hK K
          try simp only [List.getElem_toArray, List.getElem_cons_succ, List.getElem_cons_zero, Act.put, List.setIfInBounds_toArray, List.set_cons_zero, List.set_cons_succ]
          refine mixs_one 3 (by kernel_rfl) rfl (fun K hK => ?_)
          refine op_load_st (by kernel_rfl) 1 hS rfl rfl rfl (by simp [scalarB, go_sem]) rfl ?_
          try clear hC
          refine hK.out _ _ _ (fun _ h => h) (by first | exact hS | exact hS.drop | exact hS.drop.drop | exact hS.drop.drop.drop | exact hS.drop.drop.drop.drop | exact hS.empty | exact hS.one 0 rfl | exact hS.one 1 rfl | exact hS.one 2 rfl | exact hS.one 3 rfl | exact hS.one 4 rfl | exact hS.one 5 rfl | exact hS.one 6 rfl | exact hS.one 7 rfl | exact hS.one 8 rfl | exact hS.one 9 rfl | exact hS.one 10 rfl | exact hS.one 11 rfl) (fun hC => ?_)
          clear hK K
          try simp only [List.getElem_toArray, List.getElem_cons_succ, List.getElem_cons_zero, Act.put, List.setIfInBounds_toArray, List.set_cons_zero, List.set_cons_succ]
          refine mixs_take 8 (v := ?_) rfl (by kernel_rfl) (fun _ _ _ h => h) (by kernel_rfl) (by assumption) (fun s => ?hy) ?_; case hy => (go_simp <;> with_reducible rfl)
          try simp only [List.getElem_toArray, List.getElem_cons_succ, List.getElem_cons_zero, Act.put, List.setIfInBounds_toArray, List.set_cons_zero, List.set_cons_succ]
          refine mixs_one 9 (by kernel_rfl) rfl (fun K hK => ?_)
          (refine op_storeelem_st (by kernel_rfl) 2 q hS rfl rfl rfl rfl (by kernel_rfl) rfl hsl2.out hso2.out hqn ?_; intro w3 hS1; clear hS; simp only [List.set_cons_succ, List.set_cons_zero] at hS1; rw [hset.out] at hS1; have hS := hS1; clear hS1)
          try clear hC
          refine hK.out _ _ _ (fun _ h => h) (by first | exact hS | exact hS.drop | exact hS.drop.drop | exact hS.drop.drop.drop | exact hS.drop.drop.drop.drop | exact hS.empty | exact hS.one 0 rfl | exact hS.one 1 rfl | exact hS.one 2 rfl | exact hS.one 3 rfl | exact hS.one 4 rfl | exact hS.one 5 rfl | exact hS.one 6 rfl | exact hS.one 7 rfl | exact hS.one 8 rfl | exact hS.one 9 rfl | exact hS.one 10 rfl | exact hS.one 11 rfl) (fun hC => ?_)
          clear hK K
          try simp only [List.getElem_toArray, List.getElem_cons_succ, List.getElem_cons_zero, Act.put, List.setIfInBounds_toArray, List.set_cons_zero, List.set_cons_succ]
          refine wpAnyH_done (by kernel_rfl) ?_ _
          try clear hC
          go_wp2_with fail
          go_roundg (n - (j + 1))
          case measure => omega
          case rel => exact ⟨j + 1, _, by omega, by go_num, Lib.hid rfl, hS.drop⟩
      ·
        (refine op_loadrow_st (by kernel_rfl) 0 hS rfl rfl rfl hr65 (by kernel_rfl) hsec.out hsl2.out ?_)
        try clear hC
        refine hK.out _ _ _ (fun _ h => h) (by first | exact hS | exact hS.drop | exact hS.drop.drop | exact hS.drop.drop.drop | exact hS.drop.drop.drop.drop | exact hS.empty | exact hS.one 0 rfl | exact hS.one 1 rfl | exact hS.one 2 rfl | exact hS.one 3 rfl | exact hS.one 4 rfl | exact hS.one 5 rfl | exact hS.one 6 rfl | exact hS.one 7 rfl | exact hS.one 8 rfl | exact hS.one 9 rfl | exact hS.one 10 rfl | exact hS.one 11 rfl) (fun hC => ?_)
        clear hK K
        try simp only [List.getElem_toArray, List.getElem_cons_succ, List.getElem_cons_zero, Act.put, List.setIfInBounds_toArray, List.set_cons_zero, List.set_cons_succ]
        refine mixs_two 3 5 (by kernel_rfl) rfl rfl (fun K hK => ?_) (fun K hK => ?_)
        ·
          refine op_load_st (by kernel_rfl) 1 hS rfl rfl rfl (by simp [scalarB, go_sem]) rfl ?_
          try clear hC
          refine hK.out _ _ _ (fun _ h => h) (by first | exact hS | exact hS.drop | exact hS.drop.drop | exact hS.drop.drop.drop | exact hS.drop.drop.drop.drop | exact hS.empty | exact hS.one 0 rfl | exact hS.one 1 rfl | exact hS.one 2 rfl | exact hS.one 3 rfl | exact hS.one 4 rfl | exact hS.one 5 rfl | exact hS.one 6 rfl | exact hS.one 7 rfl | exact hS.one 8 rfl | exact hS.one 9 rfl | exact hS.one 10 rfl | exact hS.one 11 rfl) (fun hC => ?_)
          clear hK K
          try simp only [List.getElem_toArray, List.getElem_cons_succ, List.getElem_cons_zero, Act.put, List.setIfInBounds_toArray, List.set_cons_zero, List.set_cons_succ]
          refine mixs_one 5 (by kernel_rfl) rfl (fun K hK => ?_)
          (refine op_load_st (by kernel_rfl) 0 hS rfl rfl rfl hsc hp0.out ?_)
          try clear hC
          refine hK.out _ _ _ (fun _ h => h) (by first | exact hS | exact hS.drop | exact hS.drop.drop | exact hS.drop.drop.drop | exact hS.drop.drop.drop.drop | exact hS.empty | exact hS.one 0 rfl | exact hS.one 1 rfl | exact hS.one 2 rfl | exact hS.one 3 rfl | exact hS.one 4 rfl | exact hS.one 5 rfl | exact hS.one 6 rfl | exact hS.one 7 rfl | exact hS.one 8 rfl | exact hS.one 9 rfl | exact hS.one 10 rfl | exact hS.one 11 rfl) (fun hC => ?_)
          clear hK K
          try simp only [List.getElem_toArray, List.getElem_cons_succ, List.getElem_cons_zero, Act.put, List.setIfInBounds_toArray, List.set_cons_zero, List.set_cons_succ]
          refine mixs_take 8 (v := ?_) rfl (by kernel_rfl) (fun _ _ _ h => h) (by kernel_rfl) (by assumption) (fun s => ?hy) ?_; case hy => (go_simp <;> with_reducible rfl)
          try simp only [List.getElem_toArray, List.getElem_cons_succ, List.getElem_cons_zero, Act.put, List.setIfInBounds_toArray, List.set_cons_zero, List.set_cons_succ]
          refine mixs_one 9 (by kernel_rfl) rfl (fun K hK => ?_)
          (refine op_storeelem_st (by kernel_rfl) 2 q hS rfl rfl rfl rfl (by kernel_rfl) rfl hsl2.out hso2.out hqn ?_; intro w3 hS1; clear hS; simp only [List.set_cons_succ, List.set_cons_zero] at hS1; rw [hset.out] at hS1; have hS := hS1; clear hS1)
          try clear hC
          refine hK.out _ _ _ (fun _ h => h) (by first | exact hS | exact hS.drop | exact hS.drop.drop | exact hS.drop.drop.drop | exact hS.drop.drop.drop.drop | exact hS.empty | exact hS.one 0 rfl | exact hS.one 1 rfl | exact hS.one 2 rfl | exact hS.one 3 rfl | exact hS.one 4 rfl | exact hS.one 5 rfl | exact hS.one 6 rfl | exact hS.one 7 rfl | exact hS.one 8 rfl | exact hS.one 9 rfl | exact hS.one 10 rfl | exact hS.one 11 rfl) (fun hC => ?_)
          clear hK K
          try simp only [List.getElem_toArray, List.getElem_cons_succ, List.getElem_cons_zero, Act.put, List.setIfInBounds_toArray, List.set_cons_zero, List.set_cons_succ]
          refine wpAnyH_done (by kernel_rfl) ?_ _
          try clear hC
          go_wp2_with fail
          go_roundg (n - (j + 1))
          case measure => omega
          case rel => exact ⟨j + 1, _, by omega, by go_num, Lib.hid rfl, hS.drop⟩
        ·
          (refine op_load_st (by kernel_rfl) 0 hS rfl rfl rfl hsc hp0.out ?_)
          try clear hC
          refine hK.out _ _ _ (fun _ h => h) (by first | exact hS | exact hS.drop | exact hS.drop.drop | exact hS.drop.drop.drop | exact hS.drop.drop.drop.drop | exact hS.empty | exact hS.one 0 rfl | exact hS.one 1 rfl | exact hS.one 2 rfl | exact hS.one 3 rfl | exact hS.one 4 rfl | exact hS.one 5 rfl | exact hS.one 6 rfl | exact hS.one 7 rfl | exact hS.one 8 rfl | exact hS.one 9 rfl | exact hS.one 10 rfl | exact hS.one 11 rfl) (fun hC => ?_)
          clear hK K
          try simp only [List.getElem_toArray, List.getElem_cons_succ, List.getElem_cons_zero, Act.put, List.setIfInBounds_toArray, List.set_cons_zero, List.set_cons_succ]
          refine mixs_one 3 (by kernel_rfl) rfl (fun K hK => ?_)
          refine op_load_st (by kernel_rfl) 1 hS rfl rfl rfl (by simp [scalarB, go_sem]) rfl ?_
          try clear hC
          refine hK.out _ _ _ (fun _ h => h) (by first | exact hS | exact hS.drop | exact hS.drop.drop | exact hS.drop.drop.drop | exact hS.drop.drop.drop.drop | exact hS.empty | exact hS.one 0 rfl | exact hS.one 1 rfl | exact hS.one 2 rfl | exact hS.one 3 rfl | exact hS.one 4 rfl | exact hS.one 5 rfl | exact hS.one 6 rfl | exact hS.one 7 rfl | exact hS.one 8 rfl | exact hS.one 9 rfl | exact hS.one 10 rfl | exact hS.one 11 rfl) (fun hC => ?_)
          clear hK K
          try simp only [List.getElem_toArray, List.getElem_cons_succ, List.getElem_cons_zero, Act.put, List.setIfInBounds_toArray, List.set_cons_zero, List.set_cons_succ]
          refine mixs_take 8 (v := ?_) rfl (by kernel_rfl) (fun _ _ _ h => h) (by kernel_rfl) (by assumption) (fun s => ?hy) ?_; case hy => (go_simp <;> with_reducible rfl)
          try simp only [List.getElem_toArray, List.getElem_cons_succ, List.getElem_cons_zero, Act.put, List.setIfInBounds_toArray, List.set_cons_zero, List.set_cons_succ]
          refine mixs_one 9 (by kernel_rfl) rfl (fun K hK => ?_)
          (refine op_storeelem_st (by kernel_rfl) 2 q hS rfl rfl rfl rfl (by kernel_rfl) rfl hsl2.out hso2.out hqn ?_; intro w3 hS1; clear hS; simp only [List.set_cons_succ, List.set_cons_zero] at hS1; rw [hset.out] at hS1; have hS := hS1; clear hS1)
          try clear hC
          refine hK.out _ _ _ (fun _ h => h) (by first | exact hS | exact hS.drop | exact hS.drop.drop | exact hS.drop.drop.drop | exact hS.drop.drop.drop.drop | exact hS.empty | exact hS.one 0 rfl | exact hS.one 1 rfl | exact hS.one 2 rfl | exact hS.one 3 rfl | exact hS.one 4 rfl | exact hS.one 5 rfl | exact hS.one 6 rfl | exact hS.one 7 rfl | exact hS.one 8 rfl | exact hS.one 9 rfl | exact hS.one 10 rfl | exact hS.one 11 rfl) (fun hC => ?_)
          clear hK K
          try simp only [List.getElem_toArray, List.getElem_cons_succ, List.getElem_cons_zero, Act.put, List.setIfInBounds_toArray, List.set_cons_zero, List.set_cons_succ]
          refine wpAnyH_done (by kernel_rfl) ?_ _
          try clear hC
          go_wp2_with fail
          go_roundg (n - (j + 1))
          case measure => omega
          case rel => exact ⟨j + 1, _, by omega, by go_num, Lib.hid rfl, hS.drop⟩
    · have hfin : l = Dk.done sec wl := by
        rw [hl.out, List.take_of_length_le (by have := hn.out; omega)]
      rw [hfin] at hS
      clear hl hfin hwok hwload hn ew
      go_wp2_with ((with_reducible refine wpList_store_st 0 hS rfl rfl rfl rfl (by kernel_rfl) rfl rfl ?_); intro w1 hS1; clear hS; simp only [List.set_cons_zero, List.setIfInBounds_toArray, List.set_cons_succ] at hS1; have hS := hS1; clear hS1)
      go_ret
      have hk := (hS.nilrow 125 66).rot3
      exact ⟨rfl, _, hk.front (A := [_, _, _])⟩

theorem sync_any (bd : Nat) (sv wv : Value) (d : Dk) (w : World) (h : St w (feet (dks bd sv wv d)) (dks bd sv wv d) w) (hok : d.Ok) (hw : d.wait.length ≤ 100000) (hf : -9223372036854775808 ≤ d.fuse ∧ d.fuse ≤ 9223372036854775807) :
    Calls Try.prog 19 #[.pointer (some ⟨bd, 0, none⟩)] w fun e w' => e = .returned (.int .i64 d.sync.2) ∧ ∃ wv', St w (feet (dks bd sv wv d)) (dks bd sv wv' d.sync.1) w' := by
  have cR := ready_any bd sv wv d 0 w h
  by_cases hr : d.ready 0 = 0
  · cases hsd : d.step.dead with
    | false =>
      have hd : d.sync = ({ d.step with sec := Dk.done d.sec d.wait, wait := [] }, 0) := by rw [Dk.sync, if_pos hr, if_neg (by rw [hsd]; simp)]
      rw [hd]
      exact sync_main bd sv wv d w h hok hr hsd hw hf
    | true =>
      have hd : d.sync = (d.step, 15) := by rw [Dk.sync, if_pos hr, if_pos hsd]
      rw [hd]
      have cS := step_any bd sv wv d w h hf
      rw [hsd] at cS
      rw [hr] at cR
      generalize d.step = d2 at *
      generalize feet (dks bd sv wv d) = F at *
      clear hr hsd hd hok hw hf h
      replace cR := Lib.hid cR
      replace cS := Lib.hid cS
      go_enter Try.func19, Try.ntmps19
      go_wp2_with (first
        | (go_at_call 71; (with_reducible refine cR.out.mono ?_); rintro _ _ ⟨rfl, rfl⟩)
        | (go_at_call 72; (with_reducible refine cS.out.mono ?_); rintro _ w4 ⟨rfl, hS⟩; replace hS := Lib.hid hS))
      go_ret
      exact ⟨rfl, wv, hS.out⟩
  · have hd : d.sync = (d, d.ready 0) := by rw [Dk.sync, if_neg hr]
    rw [hd]
    have hz : (d.ready 0 == 0) = false := by rw [beq_eq_false_iff_ne]; exact hr
    generalize d.ready 0 = q at *
    clear hr hd hok hw hf
    replace cR := Lib.hid cR
    replace h := Lib.hid h
    go_enter Try.func19, Try.ntmps19
    go_wp2_with (go_at_call 71; (with_reducible refine cR.out.mono ?_); rintro _ _ ⟨rfl, rfl⟩)
    go_ret
    exact ⟨rfl, wv, h.out⟩
end Go.Proofs.Ytlhpibniecfofaa
end
