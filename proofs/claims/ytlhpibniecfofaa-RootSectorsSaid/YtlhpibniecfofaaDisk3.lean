/- The walk of Write. -/
import Derived.Test.YtlhpibniecfofaaDisk2
import Derived.Test.YtlhpibniecfofaaSt5
set_option linter.unusedSimpArgs false
set_option linter.unusedVariables false
namespace Go.Proofs.Ytlhpibniecfofaa
open Go.RowKit Go.Ofp
set_option linter.unusedVariables false
set_option maxRecDepth 100000
set_option maxHeartbeats 4000000

theorem build_wt (i : Int) (w : World) : (Instr.build 125 #[(0, .int .i64 i)]).run Try.prog w = .ok (.agg (Value.int .i64 i :: scZero).toArray) w := by kernel_rfl
theorem wt_one (i : Int) : (Value.int .i64 i :: scZero).all Value.oneCell' = true := by simp [scZero, Value.oneCell']
theorem wt_len (i : Int) : (Value.int .i64 i :: scZero).length = 66 := by simp [scZero]
theorem elem_byte : Elem Try.prog 5 (.int .u8 0) 1 1 := Elem.mk (by kernel_rfl) (by rfl) (by decide)

theorem wt_copied (i : Int) (b : ByteArray) (h : b.size = 64) : ((Value.int .i64 i :: scZero).toArray.toList.take 1 ++ b.data.toList.map vb ++ (Value.int .i64 i :: scZero).toArray.toList.drop (1 + b.size)).toArray = (wtRow ⟨i, b.data.toList⟩).toArray := by
  rw [h]
  simp [wtRow, scZero]

theorem wt_stored (i : Int) : ((Value.int .i64 0 :: scZero).toArray.toList.take 0 ++ (Value.int .i64 i :: scZero) ++ (Value.int .i64 0 :: scZero).toArray.toList.drop (0 + 66)).toArray = (Value.int .i64 i :: scZero).toArray := by
  simp [scZero]

theorem wt_rowone (x : Wt) : ∀ u ∈ (wtRow x).toArray.toList, u.oneCell' = true := by
  intro u hu
  simp only [wtRow, List.mem_cons, List.mem_append, List.mem_map, List.not_mem_nil, or_false] at hu
  rcases hu with rfl | ⟨_, _, rfl⟩ | rfl <;> rfl

theorem write_main (bd : Nat) (sv wv : Value) (d : Dk) (i : Int) (b : ByteArray) (w : World) (h : St w (feet (dks bd sv wv d)) (dks bd sv wv d) w) (hr : d.ready i = 0) (hb : b.size = 64) (hw : d.wait.length ≤ 100000) (hf : -9223372036854775808 ≤ d.fuse ∧ d.fuse ≤ 9223372036854775807) :
    Calls Try.prog 17 #[.pointer (some ⟨bd, 0, none⟩), .int .i64 i, .string b] w fun e w' => e = .returned (.int .i64 (d.write i b.data.toList).2) ∧ ∃ wv', St w (feet (dks bd sv wv d)) (dks bd sv wv' (d.write i b.data.toList).1) w' := by
  have cR := ready_any bd sv wv d i w h
  rw [hr] at cR
  have hbl : b.data.toList.length = 64 := by rw [← ba_size]; exact hb
  have hd : d.write i b.data.toList = (Dk.step { d with wait := d.wait ++ [⟨i, b.data.toList⟩] }, if (Dk.step { d with wait := d.wait ++ [⟨i, b.data.toList⟩] }).dead then 15 else 0) := by rw [Dk.write, if_pos hr, if_pos hbl]
  rw [hd]
  have cS := fun (wv' : Value) (W : World) k => step_any bd sv wv' { d with wait := d.wait ++ [⟨i, b.data.toList⟩] } W k hf
  generalize Dk.step { d with wait := d.wait ++ [⟨i, b.data.toList⟩] } = d2 at cS ⊢
  obtain ⟨sd, hsd⟩ : ∃ x, d2.dead = x := ⟨_, rfl⟩
  simp only [hsd] at cS ⊢
  replace hsd := Lib.hid hsd
  have hcp := wt_copied i b hb
  have ez := elem_wt
  generalize feet (dks bd sv wv d) = F at h ⊢
  have hS := h
  clear h hr hd hf
  unfold dks at hS
  replace cR := Lib.hid cR
  replace cS := Lib.hid cS
  replace hcp := Lib.hid hcp
  replace hbl := Lib.hid hbl
  go_enter Try.func17, Try.ntmps17
  go_wp2_with (first
    | (go_at_call 71; (with_reducible refine cR.out.mono ?_); rintro _ _ ⟨rfl, rfl⟩)
    | ((with_reducible refine wpList_build1 rfl rfl (.int .i64 i) rfl (build_wt i) ?_))
    | ((with_reducible refine wpList_alloc_st hS rfl rfl (by assumption) ?_); intro g1 w1 hS1; clear hS; have hS := hS1; clear hS1)
    | ((with_reducible refine wpList_storerow_st 0 (vs := Value.int .i64 i :: scZero) (n := 66) hS rfl rfl rfl rfl (by kernel_rfl) rfl (wt_len i) (wt_one i) rfl ?_); intro w1 hS1; clear hS; simp only [List.set_cons_zero] at hS1; rw [wt_stored] at hS1; have hS := hS1; clear hS1)
    | ((with_reducible refine wpList_copytext_st 0 (b := b) hS rfl rfl rfl Try.underlying127 elem_byte Try.underlying9 rfl rfl (by omega) (by rw [hb]; simp [scZero]) ?_); intro w1 hS1; clear hS; simp only [List.set_cons_zero] at hS1; rw [hcp.out] at hS1; have hS := hS1; clear hS1))
  have hwl := wtRow_length ⟨i, b.data.toList⟩ hbl.out
  have hsz : sizeB Try.prog 125 (wtRow ⟨i, b.data.toList⟩).toArray.size = true := by rw [List.size_toArray, hwl]; kernel_rfl
  replace hwl := Lib.hid hwl
  have hrow : rowB Try.prog 125 = true := by simp [rowB, go_sem]
  refine mixs_beginE (by kernel_rfl) hS ?_
  clear hS
  intro w2 hS hC
  refine mixs_take 0 (v := ?_) rfl (by kernel_rfl) (fun _ _ _ h => h) (by kernel_rfl) (by assumption) (fun s => ?hy) ?_; case hy => (go_simp <;> with_reducible rfl)
  try simp only [List.getElem_toArray, List.getElem_cons_succ, List.getElem_cons_zero, Act.put, List.setIfInBounds_toArray, List.set_cons_zero, List.set_cons_succ]
  refine mixs_take 1 (v := ?_) rfl (by kernel_rfl) (fun _ _ _ h => h) (by kernel_rfl) (by assumption) (fun s => ?hy) ?_; case hy => (go_simp <;> with_reducible rfl)
  try simp only [List.getElem_toArray, List.getElem_cons_succ, List.getElem_cons_zero, Act.put, List.setIfInBounds_toArray, List.set_cons_zero, List.set_cons_succ]
  refine mixs_take 2 (v := ?_) rfl (by kernel_rfl) (fun _ _ _ h => h) (by kernel_rfl) (by assumption) (fun s => ?hy) ?_; case hy => (go_simp <;> with_reducible rfl)
  try simp only [List.getElem_toArray, List.getElem_cons_succ, List.getElem_cons_zero, Act.put, List.setIfInBounds_toArray, List.set_cons_zero, List.set_cons_succ]
  refine mixs_take 3 (v := ?_) rfl (by kernel_rfl) (fun _ _ _ h => h) (by kernel_rfl) (by assumption) (fun s => ?hy) ?_; case hy => (go_simp <;> with_reducible rfl)
  try simp only [List.getElem_toArray, List.getElem_cons_succ, List.getElem_cons_zero, Act.put, List.setIfInBounds_toArray, List.set_cons_zero, List.set_cons_succ]
  refine mixs_two 4 5 (by kernel_rfl) rfl rfl (fun K hK => ?_) (fun K hK => ?_)
  ·
    refine op_load_st (by kernel_rfl) 1 hS rfl rfl rfl (by simp [scalarB, go_sem]) rfl ?_
    try clear hC
    refine hK.out _ _ _ (fun _ h => h) (by first | exact hS | exact hS.drop | exact hS.drop.drop | exact hS.drop.drop.drop | exact hS.drop.drop.drop.drop | exact hS.empty | exact hS.one 0 rfl | exact hS.one 1 rfl | exact hS.one 2 rfl | exact hS.one 3 rfl | exact hS.one 4 rfl | exact hS.one 5 rfl | exact hS.one 6 rfl | exact hS.one 7 rfl | exact hS.one 8 rfl | exact hS.one 9 rfl | exact hS.one 10 rfl | exact hS.one 11 rfl) (fun hC => ?_)
    clear hK K
    try simp only [List.getElem_toArray, List.getElem_cons_succ, List.getElem_cons_zero, Act.put, List.setIfInBounds_toArray, List.set_cons_zero, List.set_cons_succ]
    refine mixs_one 5 (by kernel_rfl) rfl (fun K hK => ?_)
    (refine op_loadall_st (by kernel_rfl) 0 hS rfl rfl rfl hrow hsz ?_)
    try clear hC
    refine hK.out _ _ _ (fun _ h => h) (by first | exact hS | exact hS.drop | exact hS.drop.drop | exact hS.drop.drop.drop | exact hS.drop.drop.drop.drop | exact hS.empty | exact hS.one 0 rfl | exact hS.one 1 rfl | exact hS.one 2 rfl | exact hS.one 3 rfl | exact hS.one 4 rfl | exact hS.one 5 rfl | exact hS.one 6 rfl | exact hS.one 7 rfl | exact hS.one 8 rfl | exact hS.one 9 rfl | exact hS.one 10 rfl | exact hS.one 11 rfl) (fun hC => ?_)
    clear hK K
    try simp only [List.getElem_toArray, List.getElem_cons_succ, List.getElem_cons_zero, Act.put, List.setIfInBounds_toArray, List.set_cons_zero, List.set_cons_succ]
    refine mixs_one 6 (by kernel_rfl) rfl (fun K hK => ?_)
    ( first | (refine op_build1_st (by kernel_rfl) hS rfl Try.underlying115 elem_wt rfl (by simpa using hwl.out) (by omega) ?_; intro g2 w3 hS1; clear hS; have hS := hS1; clear hS1) | (refine op_app_st (by kernel_rfl) 4 hS rfl rfl Try.underlying115 elem_wt rfl (Src.slice Try.underlying115 (hS.blksl 0 rfl) (by simpa using hwl.out)) rfl (wt_rowone _) (by omega) (by unfold maxLen; omega) ?_; intro wv' w3 hS1; clear hS; simp only [List.set_cons_zero, List.set_cons_succ] at hS1; obtain ⟨a3, c3, rfl, -⟩ := hS1.row 4 rfl; have hS := hS1; clear hS1) )
    try clear hC
    refine hK.out _ _ _ (fun _ h => h) (by first | exact hS | exact hS.drop | exact hS.drop.drop | exact hS.drop.drop.drop | exact hS.drop.drop.drop.drop | exact hS.empty | exact hS.one 0 rfl | exact hS.one 1 rfl | exact hS.one 2 rfl | exact hS.one 3 rfl | exact hS.one 4 rfl | exact hS.one 5 rfl | exact hS.one 6 rfl | exact hS.one 7 rfl | exact hS.one 8 rfl | exact hS.one 9 rfl | exact hS.one 10 rfl | exact hS.one 11 rfl) (fun hC => ?_)
    clear hK K
    try simp only [List.getElem_toArray, List.getElem_cons_succ, List.getElem_cons_zero, Act.put, List.setIfInBounds_toArray, List.set_cons_zero, List.set_cons_succ]
    refine mixs_one 7 (by kernel_rfl) rfl (fun K hK => ?_)
    ( first | (refine op_build1_st (by kernel_rfl) hS rfl Try.underlying115 elem_wt rfl (by simpa using hwl.out) (by omega) ?_; intro g2 w3 hS1; clear hS; have hS := hS1; clear hS1) | (refine op_app_st (by kernel_rfl) 4 hS rfl rfl Try.underlying115 elem_wt rfl (Src.slice Try.underlying115 (hS.blksl 0 rfl) (by simpa using hwl.out)) rfl (wt_rowone _) (by omega) (by unfold maxLen; omega) ?_; intro wv' w3 hS1; clear hS; simp only [List.set_cons_zero, List.set_cons_succ] at hS1; obtain ⟨a3, c3, rfl, -⟩ := hS1.row 4 rfl; have hS := hS1; clear hS1) )
    try clear hC
    refine hK.out _ _ _ (fun _ h => h) (by first | exact hS | exact hS.drop | exact hS.drop.drop | exact hS.drop.drop.drop | exact hS.drop.drop.drop.drop | exact hS.empty | exact hS.one 0 rfl | exact hS.one 1 rfl | exact hS.one 2 rfl | exact hS.one 3 rfl | exact hS.one 4 rfl | exact hS.one 5 rfl | exact hS.one 6 rfl | exact hS.one 7 rfl | exact hS.one 8 rfl | exact hS.one 9 rfl | exact hS.one 10 rfl | exact hS.one 11 rfl) (fun hC => ?_)
    clear hK K
    try simp only [List.getElem_toArray, List.getElem_cons_succ, List.getElem_cons_zero, Act.put, List.setIfInBounds_toArray, List.set_cons_zero, List.set_cons_succ]
    refine mixs_take 8 (v := ?_) rfl (by kernel_rfl) (fun _ _ _ h => h) (by kernel_rfl) (by assumption) (fun s => ?hy) ?_; case hy => (go_simp <;> with_reducible rfl)
    try simp only [List.getElem_toArray, List.getElem_cons_succ, List.getElem_cons_zero, Act.put, List.setIfInBounds_toArray, List.set_cons_zero, List.set_cons_succ]
    refine mixs_take 9 (v := ?_) rfl (by kernel_rfl) (fun _ _ _ h => h) (by kernel_rfl) (by assumption) (fun s => ?hy) ?_; case hy => (go_simp <;> with_reducible rfl)
    try simp only [List.getElem_toArray, List.getElem_cons_succ, List.getElem_cons_zero, Act.put, List.setIfInBounds_toArray, List.set_cons_zero, List.set_cons_succ]
    refine mixs_one 10 (by kernel_rfl) rfl (fun K hK => ?_)
    refine op_store_st (by kernel_rfl) 2 hS rfl rfl rfl (by kernel_rfl) rfl rfl ?_
    intro w1 hS1; clear hS; have hS := hS1; clear hS1; try simp only [List.set_cons_zero, List.set_cons_succ, List.setIfInBounds_toArray, List.take_succ_cons, List.take_zero, List.drop_succ_cons, List.drop_zero, List.nil_append, List.cons_append, List.append_nil, List.drop_nil, List.take_nil, List.length_cons, List.length_nil, Nat.zero_add, Nat.add_zero, Nat.reduceAdd] at hS
    try clear hC
    refine hK.out _ _ _ (fun _ h => h) (by first | exact hS | exact hS.drop | exact hS.drop.drop | exact hS.drop.drop.drop | exact hS.drop.drop.drop.drop | exact hS.empty | exact hS.one 0 rfl | exact hS.one 1 rfl | exact hS.one 2 rfl | exact hS.one 3 rfl | exact hS.one 4 rfl | exact hS.one 5 rfl | exact hS.one 6 rfl | exact hS.one 7 rfl | exact hS.one 8 rfl | exact hS.one 9 rfl | exact hS.one 10 rfl | exact hS.one 11 rfl) (fun hC => ?_)
    clear hK K
    try simp only [List.getElem_toArray, List.getElem_cons_succ, List.getElem_cons_zero, Act.put, List.setIfInBounds_toArray, List.set_cons_zero, List.set_cons_succ]
    refine wpAnyH_done (by kernel_rfl) ?_ _
    try clear hC
    have e1 : (d.wait.map wtRow).flatten ++ wtRow ⟨i, b.data.toList⟩ = ((d.wait ++ [(⟨i, b.data.toList⟩ : Wt)]).map wtRow).flatten := by simp
    have e2 : d.wait.length + 1 = (d.wait ++ [(⟨i, b.data.toList⟩ : Wt)]).length := by simp
    rw [e1, e2] at hS
    clear e1 e2
    have hS' : St w F (dks bd sv (.slice a3 (d.wait ++ [(⟨i, b.data.toList⟩ : Wt)]).length c3) { d with wait := d.wait ++ [⟨i, b.data.toList⟩] }) _ := hS.drop.drop
    clear hS
    have cT := cS.out _ _ (hS'.pre _ [] (List.append_nil _).symm)
    have hfr := fun (A' : List Ch) (W : World) k => hS'.call (A' := A') (w' := W) _ [] (List.append_nil _).symm k
    simp only [List.append_nil] at hfr
    replace cT := Lib.hid cT
    replace hfr := Lib.hid hfr
    clear hS' hcp ez cR cS hwl
    cases sd
    all_goals
      go_wp2_with (go_at_call 72; (refine cT.out.mono ?_); rintro _ w4 ⟨rfl, hb3⟩; replace hb3 := hfr.out _ _ hb3; replace hb3 := Lib.hid hb3)
      go_ret
      exact ⟨rfl, _, hb3.out⟩
  ·
    (refine op_loadall_st (by kernel_rfl) 0 hS rfl rfl rfl hrow hsz ?_)
    try clear hC
    refine hK.out _ _ _ (fun _ h => h) (by first | exact hS | exact hS.drop | exact hS.drop.drop | exact hS.drop.drop.drop | exact hS.drop.drop.drop.drop | exact hS.empty | exact hS.one 0 rfl | exact hS.one 1 rfl | exact hS.one 2 rfl | exact hS.one 3 rfl | exact hS.one 4 rfl | exact hS.one 5 rfl | exact hS.one 6 rfl | exact hS.one 7 rfl | exact hS.one 8 rfl | exact hS.one 9 rfl | exact hS.one 10 rfl | exact hS.one 11 rfl) (fun hC => ?_)
    clear hK K
    try simp only [List.getElem_toArray, List.getElem_cons_succ, List.getElem_cons_zero, Act.put, List.setIfInBounds_toArray, List.set_cons_zero, List.set_cons_succ]
    refine mixs_two 4 6 (by kernel_rfl) rfl rfl (fun K hK => ?_) (fun K hK => ?_)
    ·
      refine op_load_st (by kernel_rfl) 1 hS rfl rfl rfl (by simp [scalarB, go_sem]) rfl ?_
      try clear hC
      refine hK.out _ _ _ (fun _ h => h) (by first | exact hS | exact hS.drop | exact hS.drop.drop | exact hS.drop.drop.drop | exact hS.drop.drop.drop.drop | exact hS.empty | exact hS.one 0 rfl | exact hS.one 1 rfl | exact hS.one 2 rfl | exact hS.one 3 rfl | exact hS.one 4 rfl | exact hS.one 5 rfl | exact hS.one 6 rfl | exact hS.one 7 rfl | exact hS.one 8 rfl | exact hS.one 9 rfl | exact hS.one 10 rfl | exact hS.one 11 rfl) (fun hC => ?_)
      clear hK K
      try simp only [List.getElem_toArray, List.getElem_cons_succ, List.getElem_cons_zero, Act.put, List.setIfInBounds_toArray, List.set_cons_zero, List.set_cons_succ]
      refine mixs_one 6 (by kernel_rfl) rfl (fun K hK => ?_)
      ( first | (refine op_build1_st (by kernel_rfl) hS rfl Try.underlying115 elem_wt rfl (by simpa using hwl.out) (by omega) ?_; intro g2 w3 hS1; clear hS; have hS := hS1; clear hS1) | (refine op_app_st (by kernel_rfl) 4 hS rfl rfl Try.underlying115 elem_wt rfl (Src.slice Try.underlying115 (hS.blksl 0 rfl) (by simpa using hwl.out)) rfl (wt_rowone _) (by omega) (by unfold maxLen; omega) ?_; intro wv' w3 hS1; clear hS; simp only [List.set_cons_zero, List.set_cons_succ] at hS1; obtain ⟨a3, c3, rfl, -⟩ := hS1.row 4 rfl; have hS := hS1; clear hS1) )
      try clear hC
      refine hK.out _ _ _ (fun _ h => h) (by first | exact hS | exact hS.drop | exact hS.drop.drop | exact hS.drop.drop.drop | exact hS.drop.drop.drop.drop | exact hS.empty | exact hS.one 0 rfl | exact hS.one 1 rfl | exact hS.one 2 rfl | exact hS.one 3 rfl | exact hS.one 4 rfl | exact hS.one 5 rfl | exact hS.one 6 rfl | exact hS.one 7 rfl | exact hS.one 8 rfl | exact hS.one 9 rfl | exact hS.one 10 rfl | exact hS.one 11 rfl) (fun hC => ?_)
      clear hK K
      try simp only [List.getElem_toArray, List.getElem_cons_succ, List.getElem_cons_zero, Act.put, List.setIfInBounds_toArray, List.set_cons_zero, List.set_cons_succ]
      refine mixs_one 7 (by kernel_rfl) rfl (fun K hK => ?_)
      ( first | (refine op_build1_st (by kernel_rfl) hS rfl Try.underlying115 elem_wt rfl (by simpa using hwl.out) (by omega) ?_; intro g2 w3 hS1; clear hS; have hS := hS1; clear hS1) | (refine op_app_st (by kernel_rfl) 4 hS rfl rfl Try.underlying115 elem_wt rfl (Src.slice Try.underlying115 (hS.blksl 0 rfl) (by simpa using hwl.out)) rfl (wt_rowone _) (by omega) (by unfold maxLen; omega) ?_; intro wv' w3 hS1; clear hS; simp only [List.set_cons_zero, List.set_cons_succ] at hS1; obtain ⟨a3, c3, rfl, -⟩ := hS1.row 4 rfl; have hS := hS1; clear hS1) )
      try clear hC
      refine hK.out _ _ _ (fun _ h => h) (by first | exact hS | exact hS.drop | exact hS.drop.drop | exact hS.drop.drop.drop | exact hS.drop.drop.drop.drop | exact hS.empty | exact hS.one 0 rfl | exact hS.one 1 rfl | exact hS.one 2 rfl | exact hS.one 3 rfl | exact hS.one 4 rfl | exact hS.one 5 rfl | exact hS.one 6 rfl | exact hS.one 7 rfl | exact hS.one 8 rfl | exact hS.one 9 rfl | exact hS.one 10 rfl | exact hS.one 11 rfl) (fun hC => ?_)
      clear hK K
      try simp only [List.getElem_toArray, List.getElem_cons_succ, List.getElem_cons_zero, Act.put, List.setIfInBounds_toArray, List.set_cons_zero, List.set_cons_succ]
      refine mixs_take 8 (v := ?_) rfl (by kernel_rfl) (fun _ _ _ h => h) (by kernel_rfl) (by assumption) (fun s => ?hy) ?_; case hy => (go_simp <;> with_reducible rfl)
      try simp only [List.getElem_toArray, List.getElem_cons_succ, List.getElem_cons_zero, Act.put, List.setIfInBounds_toArray, List.set_cons_zero, List.set_cons_succ]
      refine mixs_take 9 (v := ?_) rfl (by kernel_rfl) (fun _ _ _ h => h) (by kernel_rfl) (by assumption) (fun s => ?hy) ?_; case hy => (go_simp <;> with_reducible rfl)
      try simp only [List.getElem_toArray, List.getElem_cons_succ, List.getElem_cons_zero, Act.put, List.setIfInBounds_toArray, List.set_cons_zero, List.set_cons_succ]
      refine mixs_one 10 (by kernel_rfl) rfl (fun K hK => ?_)
      refine op_store_st (by kernel_rfl) 2 hS rfl rfl rfl (by kernel_rfl) rfl rfl ?_
      intro w1 hS1; clear hS; have hS := hS1; clear hS1; try simp only [List.set_cons_zero, List.set_cons_succ, List.setIfInBounds_toArray, List.take_succ_cons, List.take_zero, List.drop_succ_cons, List.drop_zero, List.nil_append, List.cons_append, List.append_nil, List.drop_nil, List.take_nil, List.length_cons, List.length_nil, Nat.zero_add, Nat.add_zero, Nat.reduceAdd] at hS
      try clear hC
      refine hK.out _ _ _ (fun _ h => h) (by first | exact hS | exact hS.drop | exact hS.drop.drop | exact hS.drop.drop.drop | exact hS.drop.drop.drop.drop | exact hS.empty | exact hS.one 0 rfl | exact hS.one 1 rfl | exact hS.one 2 rfl | exact hS.one 3 rfl | exact hS.one 4 rfl | exact hS.one 5 rfl | exact hS.one 6 rfl | exact hS.one 7 rfl | exact hS.one 8 rfl | exact hS.one 9 rfl | exact hS.one 10 rfl | exact hS.one 11 rfl) (fun hC => ?_)
      clear hK K
      try simp only [List.getElem_toArray, List.getElem_cons_succ, List.getElem_cons_zero, Act.put, List.setIfInBounds_toArray, List.set_cons_zero, List.set_cons_succ]
      refine wpAnyH_done (by kernel_rfl) ?_ _
      try clear hC
      have e1 : (d.wait.map wtRow).flatten ++ wtRow ⟨i, b.data.toList⟩ = ((d.wait ++ [(⟨i, b.data.toList⟩ : Wt)]).map wtRow).flatten := by simp
      have e2 : d.wait.length + 1 = (d.wait ++ [(⟨i, b.data.toList⟩ : Wt)]).length := by simp
      rw [e1, e2] at hS
      clear e1 e2
      have hS' : St w F (dks bd sv (.slice a3 (d.wait ++ [(⟨i, b.data.toList⟩ : Wt)]).length c3) { d with wait := d.wait ++ [⟨i, b.data.toList⟩] }) _ := hS.drop.drop
      clear hS
      have cT := cS.out _ _ (hS'.pre _ [] (List.append_nil _).symm)
      have hfr := fun (A' : List Ch) (W : World) k => hS'.call (A' := A') (w' := W) _ [] (List.append_nil _).symm k
      simp only [List.append_nil] at hfr
      replace cT := Lib.hid cT
      replace hfr := Lib.hid hfr
      clear hS' hcp ez cR cS hwl
      cases sd
      all_goals
        go_wp2_with (go_at_call 72; (refine cT.out.mono ?_); rintro _ w4 ⟨rfl, hb3⟩; replace hb3 := hfr.out _ _ hb3; replace hb3 := Lib.hid hb3)
        go_ret
        exact ⟨rfl, _, hb3.out⟩
    ·
      ( first | (refine op_build1_st (by kernel_rfl) hS rfl Try.underlying115 elem_wt rfl (by simpa using hwl.out) (by omega) ?_; intro g2 w3 hS1; clear hS; have hS := hS1; clear hS1) | (refine op_app_st (by kernel_rfl) 4 hS rfl rfl Try.underlying115 elem_wt rfl (Src.slice Try.underlying115 (hS.blksl 0 rfl) (by simpa using hwl.out)) rfl (wt_rowone _) (by omega) (by unfold maxLen; omega) ?_; intro wv' w3 hS1; clear hS; simp only [List.set_cons_zero, List.set_cons_succ] at hS1; obtain ⟨a3, c3, rfl, -⟩ := hS1.row 4 rfl; have hS := hS1; clear hS1) )
      try clear hC
      refine hK.out _ _ _ (fun _ h => h) (by first | exact hS | exact hS.drop | exact hS.drop.drop | exact hS.drop.drop.drop | exact hS.drop.drop.drop.drop | exact hS.empty | exact hS.one 0 rfl | exact hS.one 1 rfl | exact hS.one 2 rfl | exact hS.one 3 rfl | exact hS.one 4 rfl | exact hS.one 5 rfl | exact hS.one 6 rfl | exact hS.one 7 rfl | exact hS.one 8 rfl | exact hS.one 9 rfl | exact hS.one 10 rfl | exact hS.one 11 rfl) (fun hC => ?_)
      clear hK K
      try simp only [List.getElem_toArray, List.getElem_cons_succ, List.getElem_cons_zero, Act.put, List.setIfInBounds_toArray, List.set_cons_zero, List.set_cons_succ]
      refine mixs_one 4 (by kernel_rfl) rfl (fun K hK => ?_)
      refine op_load_st (by kernel_rfl) 2 hS rfl rfl rfl (by simp [scalarB, go_sem]) rfl ?_
      try clear hC
      refine hK.out _ _ _ (fun _ h => h) (by first | exact hS | exact hS.drop | exact hS.drop.drop | exact hS.drop.drop.drop | exact hS.drop.drop.drop.drop | exact hS.empty | exact hS.one 0 rfl | exact hS.one 1 rfl | exact hS.one 2 rfl | exact hS.one 3 rfl | exact hS.one 4 rfl | exact hS.one 5 rfl | exact hS.one 6 rfl | exact hS.one 7 rfl | exact hS.one 8 rfl | exact hS.one 9 rfl | exact hS.one 10 rfl | exact hS.one 11 rfl) (fun hC => ?_)
      clear hK K
      try simp only [List.getElem_toArray, List.getElem_cons_succ, List.getElem_cons_zero, Act.put, List.setIfInBounds_toArray, List.set_cons_zero, List.set_cons_succ]
      refine mixs_one 7 (by kernel_rfl) rfl (fun K hK => ?_)
      ( first | (refine op_build1_st (by kernel_rfl) hS rfl Try.underlying115 elem_wt rfl (by simpa using hwl.out) (by omega) ?_; intro g2 w3 hS1; clear hS; have hS := hS1; clear hS1) | (refine op_app_st (by kernel_rfl) 4 hS rfl rfl Try.underlying115 elem_wt rfl (Src.slice Try.underlying115 (hS.blksl 0 rfl) (by simpa using hwl.out)) rfl (wt_rowone _) (by omega) (by unfold maxLen; omega) ?_; intro wv' w3 hS1; clear hS; simp only [List.set_cons_zero, List.set_cons_succ] at hS1; obtain ⟨a3, c3, rfl, -⟩ := hS1.row 4 rfl; have hS := hS1; clear hS1) )
      try clear hC
      refine hK.out _ _ _ (fun _ h => h) (by first | exact hS | exact hS.drop | exact hS.drop.drop | exact hS.drop.drop.drop | exact hS.drop.drop.drop.drop | exact hS.empty | exact hS.one 0 rfl | exact hS.one 1 rfl | exact hS.one 2 rfl | exact hS.one 3 rfl | exact hS.one 4 rfl | exact hS.one 5 rfl | exact hS.one 6 rfl | exact hS.one 7 rfl | exact hS.one 8 rfl | exact hS.one 9 rfl | exact hS.one 10 rfl | exact hS.one 11 rfl) (fun hC => ?_)
      clear hK K
      try simp only [List.getElem_toArray, List.getElem_cons_succ, List.getElem_cons_zero, Act.put, List.setIfInBounds_toArray, List.set_cons_zero, List.set_cons_succ]
      refine mixs_take 8 (v := ?_) rfl (by kernel_rfl) (fun _ _ _ h => h) (by kernel_rfl) (by assumption) (fun s => ?hy) ?_; case hy => (go_simp <;> with_reducible rfl)
      try simp only [List.getElem_toArray, List.getElem_cons_succ, List.getElem_cons_zero, Act.put, List.setIfInBounds_toArray, List.set_cons_zero, List.set_cons_succ]
      refine mixs_take 9 (v := ?_) rfl (by kernel_rfl) (fun _ _ _ h => h) (by kernel_rfl) (by assumption) (fun s => ?hy) ?_; case hy => (go_simp <;> with_reducible rfl)
      try simp only [List.getElem_toArray, List.getElem_cons_succ, List.getElem_cons_zero, Act.put, List.setIfInBounds_toArray, List.set_cons_zero, List.set_cons_succ]
      refine mixs_one 10 (by kernel_rfl) rfl (fun K hK => ?_)
      refine op_store_st (by kernel_rfl) 2 hS rfl rfl rfl (by kernel_rfl) rfl rfl ?_
      intro w1 hS1; clear hS; have hS := hS1; clear hS1; try simp only [List.set_cons_zero, List.set_cons_succ, List.setIfInBounds_toArray, List.take_succ_cons, List.take_zero, List.drop_succ_cons, List.drop_zero, List.nil_append, List.cons_append, List.append_nil, List.drop_nil, List.take_nil, List.length_cons, List.length_nil, Nat.zero_add, Nat.add_zero, Nat.reduceAdd] at hS
      try clear hC
      refine hK.out _ _ _ (fun _ h => h) (by first | exact hS | exact hS.drop | exact hS.drop.drop | exact hS.drop.drop.drop | exact hS.drop.drop.drop.drop | exact hS.empty | exact hS.one 0 rfl | exact hS.one 1 rfl | exact hS.one 2 rfl | exact hS.one 3 rfl | exact hS.one 4 rfl | exact hS.one 5 rfl | exact hS.one 6 rfl | exact hS.one 7 rfl | exact hS.one 8 rfl | exact hS.one 9 rfl | exact hS.one 10 rfl | exact hS.one 11 rfl) (fun hC => ?_)
      clear hK K
      try simp only [List.getElem_toArray, List.getElem_cons_succ, List.getElem_cons_zero, Act.put, List.setIfInBounds_toArray, List.set_cons_zero, List.set_cons_succ]
      refine wpAnyH_done (by kernel_rfl) ?_ _
      try clear hC
      have e1 : (d.wait.map wtRow).flatten ++ wtRow ⟨i, b.data.toList⟩ = ((d.wait ++ [(⟨i, b.data.toList⟩ : Wt)]).map wtRow).flatten := by simp
      have e2 : d.wait.length + 1 = (d.wait ++ [(⟨i, b.data.toList⟩ : Wt)]).length := by simp
      rw [e1, e2] at hS
      clear e1 e2
      have hS' : St w F (dks bd sv (.slice a3 (d.wait ++ [(⟨i, b.data.toList⟩ : Wt)]).length c3) { d with wait := d.wait ++ [⟨i, b.data.toList⟩] }) _ := hS.drop.drop
      clear hS
      have cT := cS.out _ _ (hS'.pre _ [] (List.append_nil _).symm)
      have hfr := fun (A' : List Ch) (W : World) k => hS'.call (A' := A') (w' := W) _ [] (List.append_nil _).symm k
      simp only [List.append_nil] at hfr
      replace cT := Lib.hid cT
      replace hfr := Lib.hid hfr
      clear hS' hcp ez cR cS hwl
      cases sd
      all_goals
        go_wp2_with (go_at_call 72; (refine cT.out.mono ?_); rintro _ w4 ⟨rfl, hb3⟩; replace hb3 := hfr.out _ _ hb3; replace hb3 := Lib.hid hb3)
        go_ret
        exact ⟨rfl, _, hb3.out⟩


theorem write_nil (i : Int) (b : ByteArray) (w : World) : Calls Try.prog 17 #[.pointer none, .int .i64 i, .string b] w fun e w' => e = .returned (.int .i64 14) ∧ w = w' := by
  have cR := ready_nil i w
  replace cR := Lib.hid cR
  go_enter Try.func17, Try.ntmps17
  go_wp2_with (go_at_call 71; (with_reducible refine cR.out.mono ?_); rintro _ _ ⟨rfl, rfl⟩)
  go_ret
  exact ⟨rfl, rfl⟩

theorem write_any (bd : Nat) (sv wv : Value) (d : Dk) (i : Int) (b : ByteArray) (w : World) (h : St w (feet (dks bd sv wv d)) (dks bd sv wv d) w) (hbm : b.size ≤ maxLen) (hw : d.wait.length ≤ 100000) (hf : -9223372036854775808 ≤ d.fuse ∧ d.fuse ≤ 9223372036854775807) :
    Calls Try.prog 17 #[.pointer (some ⟨bd, 0, none⟩), .int .i64 i, .string b] w fun e w' => e = .returned (.int .i64 (d.write i b.data.toList).2) ∧ ∃ wv', St w (feet (dks bd sv wv d)) (dks bd sv wv' (d.write i b.data.toList).1) w' := by
  by_cases hr : d.ready i = 0
  · by_cases hb : b.size = 64
    · exact write_main bd sv wv d i b w h hr hb hw hf
    · have cR := ready_any bd sv wv d i w h
      rw [hr] at cR
      have hd : d.write i b.data.toList = (d, 1) := by rw [Dk.write, if_pos hr, if_neg (by rw [← ba_size]; exact hb)]
      rw [hd]
      clear hr hd hf
      unfold maxLen at hbm
      replace cR := Lib.hid cR
      replace h := Lib.hid h
      have hb2 : ((b.size : Int) == 64) = false := by rw [beq_eq_false_iff_ne]; omega
      go_enter Try.func17, Try.ntmps17
      go_wp2_with (go_at_call 71; (with_reducible refine cR.out.mono ?_); rintro _ _ ⟨rfl, rfl⟩)
      go_ret
      exact ⟨rfl, wv, h.out⟩
  · have cR := ready_any bd sv wv d i w h
    have hd : d.write i b.data.toList = (d, d.ready i) := by rw [Dk.write, if_neg hr]
    rw [hd]
    have hz : (d.ready i == 0) = false := by rw [beq_eq_false_iff_ne]; exact hr
    generalize d.ready i = q at *
    clear hr hd hf hbm
    replace cR := Lib.hid cR
    replace h := Lib.hid h
    go_enter Try.func17, Try.ntmps17
    go_wp2_with (go_at_call 71; (with_reducible refine cR.out.mono ?_); rintro _ _ ⟨rfl, rfl⟩)
    go_ret
    exact ⟨rfl, wv, h.out⟩

end Go.Proofs.Ytlhpibniecfofaa
