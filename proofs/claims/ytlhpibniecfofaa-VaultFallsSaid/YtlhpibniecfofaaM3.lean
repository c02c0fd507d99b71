/- Texts laid together: Disk3 Disk4 Disk5 Open Open2 Flat Disk6 RootDk VaultMath Open3 Piece Sec Sum Sec2. -/
import Derived.ProofKit
import Derived.OpenShut
import Derived.ShutString
import Derived.Deep.RegionHeld
import Derived.Test.YtlhpibniecfofaaM1
import Derived.Test.YtlhpibniecfofaaM2
section
/- The walk of Write. -/
set_option linter.unusedSimpArgs false
set_option linter.unusedVariables false
namespace Go.Proofs.Ytlhpibniecfofaa
open Go.RowKit Go.Ofp
set_option linter.unusedVariables false
set_option maxRecDepth 100000
set_option maxHeartbeats 4000000

theorem build_wt (i : Int) (w : World) : (Instr.build 125 #[(0, .int .i64 i)]).run Try.prog w = .ok (.agg (Value.int .i64 i :: scZero).toArray) w := by kernel_rfl
theorem wt_one (i : Int) : (Value.int .i64 i :: scZero).all Value.oneCell' = true := by simp [scZero, Value.oneCell']
theorem wt_len (i : Int) : (Value.int .i64 i :: scZero).length = 66 := by simp [scZero]
theorem elem_byte : Elem Try.prog 5 (.int .u8 0) 1 1 := Elem.mk (by kernel_rfl) (by rfl) (by decide)

theorem wt_copied (i : Int) (b : ByteArray) (h : b.size = 64) : ((Value.int .i64 i :: scZero).toArray.toList.take 1 ++ b.data.toList.map vb ++ (Value.int .i64 i :: scZero).toArray.toList.drop (1 + b.size)).toArray = (wtRow ⟨i, b.data.toList⟩).toArray := by
  rw [h]
  simp [wtRow, scZero]

theorem wt_stored (i : Int) : ((Value.int .i64 0 :: scZero).toArray.toList.take 0 ++ (Value.int .i64 i :: scZero) ++ (Value.int .i64 0 :: scZero).toArray.toList.drop (0 + 66)).toArray = (Value.int .i64 i :: scZero).toArray := by
  simp [scZero]

theorem wt_rowone (x : Wt) : ∀ u ∈ (wtRow x).toArray.toList, u.oneCell' = true := by
  intro u hu
  simp only [wtRow, List.mem_cons, List.mem_append, List.mem_map, List.not_mem_nil, or_false] at hu
  rcases hu with rfl | ⟨_, _, rfl⟩ | rfl <;> rfl

theorem write_main (bd : Nat) (sv wv : Value) (d : Dk) (i : Int) (b : ByteArray) (w : World) (h : St w (feet (dks bd sv wv d)) (dks bd sv wv d) w) (hr : d.ready i = 0) (hb : b.size = 64) (hw : d.wait.length ≤ 100000) (hf : -9223372036854775808 ≤ d.fuse ∧ d.fuse ≤ 9223372036854775807) :
    Calls Try.prog 17 #[.pointer (some ⟨bd, 0, none⟩), .int .i64 i, .string b] w fun e w' => e = .returned (.int .i64 (d.write i b.data.toList).2) ∧ ∃ wv', St w (feet (dks bd sv wv d)) (dks bd sv wv' (d.write i b.data.toList).1) w' := by
  have cR := ready_any bd sv wv d i w h
  rw [hr] at cR
  have hbl : b.data.toList.length = 64 := by rw [← ba_size]; exact hb
  have hd : d.write i b.data.toList = (Dk.step { d with wait := d.wait ++ [⟨i, b.data.toList⟩] }, if (Dk.step { d with wait := d.wait ++ [⟨i, b.data.toList⟩] }).dead then 15 else 0) := by rw [Dk.write, if_pos hr, if_pos hbl]
  rw [hd]
  have cS := fun (wv' : Value) (W : World) k => step_any bd sv wv' { d with wait := d.wait ++ [⟨i, b.data.toList⟩] } W k hf
  generalize Dk.step { d with wait := d.wait ++ [⟨i, b.data.toList⟩] } = d2 at cS ⊢
  obtain ⟨sd, hsd⟩ : ∃ x, d2.dead = x := ⟨_, rfl⟩
  simp only [hsd] at cS ⊢
  replace hsd := Lib.hid hsd
  have hcp := wt_copied i b hb
  have ez := elem_wt
  generalize feet (dks bd sv wv d) = F at h ⊢
  have hS := h
  clear h hr hd hf
  unfold dks at hS
  replace cR := Lib.hid cR
  replace cS := Lib.hid cS
  replace hcp := Lib.hid hcp
  replace hbl := Lib.hid hbl
  go_enter Try.func17, Try.ntmps17
  go_wp2_with (first
    | (go_at_call 71; (with_reducible refine cR.out.mono ?_); rintro _ _ ⟨rfl, rfl⟩)
    | ((with_reducible refine wpList_build1 rfl rfl (.int .i64 i) rfl (build_wt i) ?_))
    | ((with_reducible refine wpList_alloc_st hS rfl rfl (by assumption) ?_); intro g1 w1 hS1; clear hS; have hS := hS1; clear hS1)
    | ((with_reducible refine wpList_storerow_st 0 (vs := Value.int .i64 i :: scZero) (n := 66) hS rfl rfl rfl rfl (by kernel_rfl) rfl (wt_len i) (wt_one i) rfl ?_); intro w1 hS1; clear hS; simp only [List.set_cons_zero] at hS1; rw [wt_stored] at hS1; have hS := hS1; clear hS1)
    | ((with_reducible refine wpList_copytext_st 0 (b := b) hS rfl rfl rfl Try.underlying127 elem_byte Try.underlying9 rfl rfl (by omega) (by rw [hb]; simp [scZero]) ?_); intro w1 hS1; clear hS; simp only [List.set_cons_zero] at hS1; rw [hcp.out] at hS1; have hS := hS1; clear hS1))
  have hwl := wtRow_length ⟨i, b.data.toList⟩ hbl.out
  have hsz : sizeB Try.prog 125 (wtRow ⟨i, b.data.toList⟩).toArray.size = true := by rw [List.size_toArray, hwl]; kernel_rfl
  replace hwl := Lib.hid hwl
  have hrow : rowB Try.prog 125 = true := by simp [rowB, go_sem]
  refine mixs_beginE (by kernel_rfl) hS ?_
  clear hS
  intro w2 hS hC
  refine mixs_take 0 (v := ?_) rfl (by kernel_rfl) (fun _ _ _ h => h) (by kernel_rfl) (by assumption) (fun s => ?hy) ?_; case hy => (go_simp <;> with_reducible rfl)
  try simp only [List.getElem_toArray, List.getElem_cons_succ, List.getElem_cons_zero, Act.put, List.setIfInBounds_toArray, List.set_cons_zero, List.set_cons_succ]
  refine mixs_take 1 (v := ?_) rfl (by kernel_rfl) (fun _ _ _ h => h) (by kernel_rfl) (by assumption) (fun s => ?hy) ?_; case hy => (go_simp <;> with_reducible rfl)
  try simp only [List.getElem_toArray, List.getElem_cons_succ, List.getElem_cons_zero, Act.put, List.setIfInBounds_toArray, List.set_cons_zero, List.set_cons_succ]
  refine mixs_take 2 (v := ?_) rfl (by kernel_rfl) (fun _ _ _ h => h) (by kernel_rfl) (by assumption) (fun s => ?hy) ?_; case hy => (go_simp <;> with_reducible rfl)
  try simp only [List.getElem_toArray, List.getElem_cons_succ, List.getElem_cons_zero, Act.put, List.setIfInBounds_toArray, List.set_cons_zero, List.set_cons_succ]
  refine mixs_take 3 (v := ?_) rfl (by kernel_rfl) (fun _ _ _ h => h) (by kernel_rfl) (by assumption) (fun s => ?hy) ?_; case hy => (go_simp <;> with_reducible rfl)
  try simp only [List.getElem_toArray, List.getElem_cons_succ, List.getElem_cons_zero, Act.put, List.setIfInBounds_toArray, List.set_cons_zero, List.set_cons_succ]
  refine mixs_two 4 5 (by kernel_rfl) rfl rfl (fun K hK => ?_) (fun K hK => ?_)
  ·
    refine op_load_st (by kernel_rfl) 1 hS rfl rfl rfl (by simp [scalarB, go_sem]) rfl ?_
    try clear hC
    refine hK.out _ _ _ (fun _ h => h) (by first | exact hS | exact hS.drop | exact hS.drop.drop | exact hS.drop.drop.drop | exact hS.drop.drop.drop.drop | exact hS.empty | exact hS.one 0 rfl | exact hS.one 1 rfl | exact hS.one 2 rfl | exact hS.one 3 rfl | exact hS.one 4 rfl | exact hS.one 5 rfl | exact hS.one 6 rfl | exact hS.one 7 rfl | exact hS.one 8 rfl | exact hS.one 9 rfl | exact hS.one 10 rfl | exact hS.one 11 rfl) (fun hC => ?_)
    clear hK K
    try simp only [List.getElem_toArray, List.getElem_cons_succ, List.getElem_cons_zero, Act.put, List.setIfInBounds_toArray, List.set_cons_zero, List.set_cons_succ]
    refine mixs_one 5 (by kernel_rfl) rfl (fun K hK => ?_)
    (refine op_loadall_st (by kernel_rfl) 0 hS rfl rfl rfl hrow hsz ?_)
    try clear hC
    refine hK.out _ _ _ (fun _ h => h) (by first | exact hS | exact hS.drop | exact hS.drop.drop | exact hS.drop.drop.drop | exact hS.drop.drop.drop.drop | exact hS.empty | exact hS.one 0 rfl | exact hS.one 1 rfl | exact hS.one 2 rfl | exact hS.one 3 rfl | exact hS.one 4 rfl | exact hS.one 5 rfl | exact hS.one 6 rfl | exact hS.one 7 rfl | exact hS.one 8 rfl | exact hS.one 9 rfl | exact hS.one 10 rfl | exact hS.one 11 rfl) (fun hC => ?_)
    clear hK K
    try simp only [List.getElem_toArray, List.getElem_cons_succ, List.getElem_cons_zero, Act.put, List.setIfInBounds_toArray, List.set_cons_zero, List.set_cons_succ]
    refine mixs_one 6 (by kernel_rfl) rfl (fun K hK => ?_)
    ( first | (refine op_build1_st (by kernel_rfl) hS rfl Try.underlying115 elem_wt rfl (by simpa using hwl.out) (by omega) ?_; intro g2 w3 hS1; clear hS; have hS := hS1; clear hS1) | (refine op_app_st (by kernel_rfl) 4 hS rfl rfl Try.underlying115 elem_wt rfl (Src.slice Try.underlying115 (hS.blksl 0 rfl) (by simpa using hwl.out)) rfl (wt_rowone _) (by omega) (by unfold maxLen; omega) ?_; intro wv' w3 hS1; clear hS; simp only [List.set_cons_zero, List.set_cons_succ] at hS1; obtain ⟨a3, c3, rfl, -⟩ := hS1.row 4 rfl; have hS := hS1; clear hS1) )
    try clear hC
    refine hK.out _ _ _ (fun _ h => h) (by first | exact hS | exact hS.drop | exact hS.drop.drop | exact hS.drop.drop.drop | exact hS.drop.drop.drop.drop | exact hS.empty | exact hS.one 0 rfl | exact hS.one 1 rfl | exact hS.one 2 rfl | exact hS.one 3 rfl | exact hS.one 4 rfl | exact hS.one 5 rfl | exact hS.one 6 rfl | exact hS.one 7 rfl | exact hS.one 8 rfl | exact hS.one 9 rfl | exact hS.one 10 rfl | exact hS.one 11 rfl) (fun hC => ?_)
    clear hK K
    try simp only [List.getElem_toArray, List.getElem_cons_succ, List.getElem_cons_zero, Act.put, List.setIfInBounds_toArray, List.set_cons_zero, List.set_cons_succ]
    refine mixs_one 7 (by kernel_rfl) rfl (fun K hK => ?_)
    ( first | (refine op_build1_st (by kernel_rfl) hS rfl Try.underlying115 elem_wt rfl (by simpa using hwl.out) (by omega) ?_; intro g2 w3 hS1; clear hS; have hS := hS1; clear hS1) | (refine op_app_st (by kernel_rfl) 4 hS rfl rfl Try.underlying115 elem_wt rfl (Src.slice Try.underlying115 (hS.blksl 0 rfl) (by simpa using hwl.out)) rfl (wt_rowone _) (by omega) (by unfold maxLen; omega) ?_; intro wv' w3 hS1; clear hS; simp only [List.set_cons_zero, List.set_cons_succ] at hS1; obtain ⟨a3, c3, rfl, -⟩ := hS1.row 4 rfl; have hS := hS1; clear hS1) )
    try clear hC
    refine hK.out _ _ _ (fun _ h => h) (by first | exact hS | exact hS.drop | exact hS.drop.drop | exact hS.drop.drop.drop | exact hS.drop.drop.drop.drop | exact hS.empty | exact hS.one 0 rfl | exact hS.one 1 rfl | exact hS.one 2 rfl | exact hS.one 3 rfl | exact hS.one 4 rfl | exact hS.one 5 rfl | exact hS.one 6 rfl | exact hS.one 7 rfl | exact hS.one 8 rfl | exact hS.one 9 rfl | exact hS.one 10 rfl | exact hS.one 11 rfl) (fun hC => ?_)
    clear hK K
    try simp only [List.getElem_toArray, List.getElem_cons_succ, List.getElem_cons_zero, Act.put, List.setIfInBounds_toArray, List.set_cons_zero, List.set_cons_succ]
    refine mixs_take 8 (v := ?_) rfl (by kernel_rfl) (fun _ _ _ h => h) (by kernel_rfl) (by assumption) (fun s => ?hy) ?_; case hy => (go_simp <;> with_reducible rfl)
    try simp only [List.getElem_toArray, List.getElem_cons_succ, List.getElem_cons_zero, Act.put, List.setIfInBounds_toArray, List.set_cons_zero, List.set_cons_succ]
    refine mixs_take 9 (v := ?_) rfl (by kernel_rfl) (fun _ _ _ h => h) (by kernel_rfl) (by assumption) (fun s => ?hy) ?_; case hy => (go_simp <;> with_reducible rfl)
    try simp only [List.getElem_toArray, List.getElem_cons_succ, List.getElem_cons_zero, Act.put, List.setIfInBounds_toArray, List.set_cons_zero, List.set_cons_succ]
    refine mixs_one 10 (by kernel_rfl) rfl (fun K hK => ?_)
    refine op_store_st (by kernel_rfl) 2 hS rfl rfl rfl (by kernel_rfl) rfl rfl ?_
    intro w1 hS1; clear hS; have hS := hS1; clear hS1; try simp only [List.set_cons_zero, List.set_cons_succ, List.setIfInBounds_toArray, List.take_succ_cons, List.take_zero, List.drop_succ_cons, List.drop_zero, List.nil_append, List.cons_append, List.append_nil, List.drop_nil, List.take_nil, List.length_cons, List.length_nil, Nat.zero_add, Nat.add_zero, Nat.reduceAdd] at hS
    try clear hC
    refine hK.out _ _ _ (fun _ h => h) (by first | exact hS | exact hS.drop | exact hS.drop.drop | exact hS.drop.drop.drop | exact hS.drop.drop.drop.drop | exact hS.empty | exact hS.one 0 rfl | exact hS.one 1 rfl | exact hS.one 2 rfl | exact hS.one 3 rfl | exact hS.one 4 rfl | exact hS.one 5 rfl | exact hS.one 6 rfl | exact hS.one 7 rfl | exact hS.one 8 rfl | exact hS.one 9 rfl | exact hS.one 10 rfl | exact hS.one 11 rfl) (fun hC => ?_)
    clear hK K
    try simp only [List.getElem_toArray, List.getElem_cons_succ, List.getElem_cons_zero, Act.put, List.setIfInBounds_toArray, List.set_cons_zero, List.set_cons_succ]
    refine wpAnyH_done (by kernel_rfl) ?_ _
    try clear hC
    have e1 : (d.wait.map wtRow).flatten ++ wtRow ⟨i, b.data.toList⟩ = ((d.wait ++ [(⟨i, b.data.toList⟩ : Wt)]).map wtRow).flatten := by simp
    have e2 : d.wait.length + 1 = (d.wait ++ [(⟨i, b.data.toList⟩ : Wt)]).length := by simp
    rw [e1, e2] at hS
    clear e1 e2
    have hS' : St w F (dks bd sv (.slice a3 (d.wait ++ [(⟨i, b.data.toList⟩ : Wt)]).length c3) { d with wait := d.wait ++ [⟨i, b.data.toList⟩] }) _ := hS.drop.drop
    clear hS
    have cT := cS.out _ _ (hS'.pre _ [] (List.append_nil _).symm)
    have hfr := fun (A' : List Ch) (W : World) k => hS'.call (A' := A') (w' := W) _ [] (List.append_nil _).symm k
    simp only [List.append_nil] at hfr
    replace cT := Lib.hid cT
    replace hfr := Lib.hid hfr
    clear hS' hcp ez cR cS hwl
    cases sd
    all_goals
      go_wp2_with (go_at_call 72; (refine cT.out.mono ?_); rintro _ w4 ⟨rfl, hb3⟩; replace hb3 := hfr.out _ _ hb3; replace hb3 := Lib.hid hb3)
      go_ret
      exact ⟨rfl, _, hb3.out⟩
  ·
    (refine op_loadall_st (by kernel_rfl) 0 hS rfl rfl rfl hrow hsz ?_)
    try clear hC
    refine hK.out _ _ _ (fun _ h => h) (by first | exact hS | exact hS.drop | exact hS.drop.drop | exact hS.drop.drop.drop | exact hS.drop.drop.drop.drop | exact hS.empty | exact hS.one 0 rfl | exact hS.one 1 rfl | exact hS.one 2 rfl | exact hS.one 3 rfl | exact hS.one 4 rfl | exact hS.one 5 rfl | exact hS.one 6 rfl | exact hS.one 7 rfl | exact hS.one 8 rfl | exact hS.one 9 rfl | exact hS.one 10 rfl | exact hS.one 11 rfl) (fun hC => ?_)
    clear hK K
    try simp only [List.getElem_toArray, List.getElem_cons_succ, List.getElem_cons_zero, Act.put, List.setIfInBounds_toArray, List.set_cons_zero, List.set_cons_succ]
    refine mixs_two 4 6 (by kernel_rfl) rfl rfl (fun K hK => ?_) (fun K hK => ?_)
    ·
      refine op_load_st (by kernel_rfl) 1 hS rfl rfl rfl (by simp [scalarB, go_sem]) rfl ?_
      try clear hC
      refine hK.out _ _ _ (fun _ h => h) (by first | exact hS | exact hS.drop | exact hS.drop.drop | exact hS.drop.drop.drop | exact hS.drop.drop.drop.drop | exact hS.empty | exact hS.one 0 rfl | exact hS.one 1 rfl | exact hS.one 2 rfl | exact hS.one 3 rfl | exact hS.one 4 rfl | exact hS.one 5 rfl | exact hS.one 6 rfl | exact hS.one 7 rfl | exact hS.one 8 rfl | exact hS.one 9 rfl | exact hS.one 10 rfl | exact hS.one 11 rfl) (fun hC => ?_)
      clear hK K
      try simp only [List.getElem_toArray, List.getElem_cons_succ, List.getElem_cons_zero, Act.put, List.setIfInBounds_toArray, List.set_cons_zero, List.set_cons_succ]
      refine mixs_one 6 (by kernel_rfl) rfl (fun K hK => ?_)
      ( first | (refine op_build1_st (by kernel_rfl) hS rfl Try.underlying115 elem_wt rfl (by simpa using hwl.out) (by omega) ?_; intro g2 w3 hS1; clear hS; have hS := hS1; clear hS1) | (refine op_app_st (by kernel_rfl) 4 hS rfl rfl Try.underlying115 elem_wt rfl (Src.slice Try.underlying115 (hS.blksl 0 rfl) (by simpa using hwl.out)) rfl (wt_rowone _) (by omega) (by unfold maxLen; omega) ?_; intro wv' w3 hS1; clear hS; simp only [List.set_cons_zero, List.set_cons_succ] at hS1; obtain ⟨a3, c3, rfl, -⟩ := hS1.row 4 rfl; have hS := hS1; clear hS1) )
      try clear hC
      refine hK.out _ _ _ (fun _ h => h) (by first | exact hS | exact hS.drop | exact hS.drop.drop | exact hS.drop.drop.drop | exact hS.drop.drop.drop.drop | exact hS.empty | exact hS.one 0 rfl | exact hS.one 1 rfl | exact hS.one 2 rfl | exact hS.one 3 rfl | exact hS.one 4 rfl | exact hS.one 5 rfl | exact hS.one 6 rfl | exact hS.one 7 rfl | exact hS.one 8 rfl | exact hS.one 9 rfl | exact hS.one 10 rfl | exact hS.one 11 rfl) (fun hC => ?_)
      clear hK K
      try simp only [List.getElem_toArray, List.getElem_cons_succ, List.getElem_cons_zero, Act.put, List.setIfInBounds_toArray, List.set_cons_zero, List.set_cons_succ]
      refine mixs_one 7 (by kernel_rfl) rfl (fun K hK => ?_)
      ( first | (refine op_build1_st (by kernel_rfl) hS rfl Try.underlying115 elem_wt rfl (by simpa using hwl.out) (by omega) ?_; intro g2 w3 hS1; clear hS; have hS := hS1; clear hS1) | (refine op_app_st (by kernel_rfl) 4 hS rfl rfl Try.underlying115 elem_wt rfl (Src.slice Try.underlying115 (hS.blksl 0 rfl) (by simpa using hwl.out)) rfl (wt_rowone _) (by omega) (by unfold maxLen; omega) ?_; intro wv' w3 hS1; clear hS; simp only [List.set_cons_zero, List.set_cons_succ] at hS1; obtain ⟨a3, c3, rfl, -⟩ := hS1.row 4 rfl; have hS := hS1; clear hS1) )
      try clear hC
      refine hK.out _ _ _ (fun _ h => h) (by first | exact hS | exact hS.drop | exact hS.drop.drop | exact hS.drop.drop.drop | exact hS.drop.drop.drop.drop | exact hS.empty | exact hS.one 0 rfl | exact hS.one 1 rfl | exact hS.one 2 rfl | exact hS.one 3 rfl | exact hS.one 4 rfl | exact hS.one 5 rfl | exact hS.one 6 rfl | exact hS.one 7 rfl | exact hS.one 8 rfl | exact hS.one 9 rfl | exact hS.one 10 rfl | exact hS.one 11 rfl) (fun hC => ?_)
      clear hK K
      try simp only [List.getElem_toArray, List.getElem_cons_succ, List.getElem_cons_zero, Act.put, List.setIfInBounds_toArray, List.set_cons_zero, List.set_cons_succ]
      refine mixs_take 8 (v := ?_) rfl (by kernel_rfl) (fun _ _ _ h => h) (by kernel_rfl) (by assumption) (fun s => ?hy) ?_; case hy => (go_simp <;> with_reducible rfl)
      try simp only [List.getElem_toArray, List.getElem_cons_succ, List.getElem_cons_zero, Act.put, List.setIfInBounds_toArray, List.set_cons_zero, List.set_cons_succ]
      refine mixs_take 9 (v := ?_) rfl (by kernel_rfl) (fun _ _ _ h => h) (by kernel_rfl) (by assumption) (fun s => ?hy) ?_; case hy => (go_simp <;> with_reducible rfl)
      try simp only [List.getElem_toArray, List.getElem_cons_succ, List.getElem_cons_zero, Act.put, List.setIfInBounds_toArray, List.set_cons_zero, List.set_cons_succ]
      refine mixs_one 10 (by kernel_rfl) rfl (fun K hK => ?_)
      refine op_store_st (by kernel_rfl) 2 hS rfl rfl rfl (by kernel_rfl) rfl rfl ?_
      intro w1 hS1; clear hS; have hS := hS1; clear hS1; try simp only [List.set_cons_zero, List.set_cons_succ, List.setIfInBounds_toArray, List.take_succ_cons, List.take_zero, List.drop_succ_cons, List.drop_zero, List.nil_append, List.cons_append, List.append_nil, List.drop_nil, List.take_nil, List.length_cons, List.length_nil, Nat.zero_add, Nat.add_zero, Nat.reduceAdd] at hS
      try clear hC
      refine hK.out _ _ _ (fun _ h => h) (by first | exact hS | exact hS.drop | exact hS.drop.drop | exact hS.drop.drop.drop | exact hS.drop.drop.drop.drop | exact hS.empty | exact hS.one 0 rfl | exact hS.one 1 rfl | exact hS.one 2 rfl | exact hS.one 3 rfl | exact hS.one 4 rfl | exact hS.one 5 rfl | exact hS.one 6 rfl | exact hS.one 7 rfl | exact hS.one 8 rfl | exact hS.one 9 rfl | exact hS.one 10 rfl | exact hS.one 11 rfl) (fun hC => ?_)
      clear hK K
      try simp only [List.getElem_toArray, List.getElem_cons_succ, List.getElem_cons_zero, Act.put, List.setIfInBounds_toArray, List.set_cons_zero, List.set_cons_succ]
      refine wpAnyH_done (by kernel_rfl) ?_ _
      try clear hC
      have e1 : (d.wait.map wtRow).flatten ++ wtRow ⟨i, b.data.toList⟩ = ((d.wait ++ [(⟨i, b.data.toList⟩ : Wt)]).map wtRow).flatten := by simp
      have e2 : d.wait.length + 1 = (d.wait ++ [(⟨i, b.data.toList⟩ : Wt)]).length := by simp
      rw [e1, e2] at hS
      clear e1 e2
      have hS' : St w F (dks bd sv (.slice a3 (d.wait ++ [(⟨i, b.data.toList⟩ : Wt)]).length c3) { d with wait := d.wait ++ [⟨i, b.data.toList⟩] }) _ := hS.drop.drop
      clear hS
      have cT := cS.out _ _ (hS'.pre _ [] (List.append_nil _).symm)
      have hfr := fun (A' : List Ch) (W : World) k => hS'.call (A' := A') (w' := W) _ [] (List.append_nil _).symm k
      simp only [List.append_nil] at hfr
      replace cT := Lib.hid cT
      replace hfr := Lib.hid hfr
      clear hS' hcp ez cR cS hwl
      cases sd
      all_goals
        go_wp2_with (go_at_call 72; (refine cT.out.mono ?_); rintro _ w4 ⟨rfl, hb3⟩; replace hb3 := hfr.out _ _ hb3; replace hb3 := Lib.hid hb3)
        go_ret
        exact ⟨rfl, _, hb3.out⟩
    ·
      ( first | (refine op_build1_st (by kernel_rfl) hS rfl Try.underlying115 elem_wt rfl (by simpa using hwl.out) (by omega) ?_; intro g2 w3 hS1; clear hS; have hS := hS1; clear hS1) | (refine op_app_st (by kernel_rfl) 4 hS rfl rfl Try.underlying115 elem_wt rfl (Src.slice Try.underlying115 (hS.blksl 0 rfl) (by simpa using hwl.out)) rfl (wt_rowone _) (by omega) (by unfold maxLen; omega) ?_; intro wv' w3 hS1; clear hS; simp only [List.set_cons_zero, List.set_cons_succ] at hS1; obtain ⟨a3, c3, rfl, -⟩ := hS1.row 4 rfl; have hS := hS1; clear hS1) )
      try clear hC
      refine hK.out _ _ _ (fun _ h => h) (by first | exact hS | exact hS.drop | exact hS.drop.drop | exact hS.drop.drop.drop | exact hS.drop.drop.drop.drop | exact hS.empty | exact hS.one 0 rfl | exact hS.one 1 rfl | exact hS.one 2 rfl | exact hS.one 3 rfl | exact hS.one 4 rfl | exact hS.one 5 rfl | exact hS.one 6 rfl | exact hS.one 7 rfl | exact hS.one 8 rfl | exact hS.one 9 rfl | exact hS.one 10 rfl | exact hS.one 11 rfl) (fun hC => ?_)
      clear hK K
      try simp only [List.getElem_toArray, List.getElem_cons_succ, List.getElem_cons_zero, Act.put, List.setIfInBounds_toArray, List.set_cons_zero, List.set_cons_succ]
      refine mixs_one 4 (by kernel_rfl) rfl (fun K hK => ?_)
      refine op_load_st (by kernel_rfl) 2 hS rfl rfl rfl (by simp [scalarB, go_sem]) rfl ?_
      try clear hC
      refine hK.out _ _ _ (fun _ h => h) (by first | exact hS | exact hS.drop | exact hS.drop.drop | exact hS.drop.drop.drop | exact hS.drop.drop.drop.drop | exact hS.empty | exact hS.one 0 rfl | exact hS.one 1 rfl | exact hS.one 2 rfl | exact hS.one 3 rfl | exact hS.one 4 rfl | exact hS.one 5 rfl | exact hS.one 6 rfl | exact hS.one 7 rfl | exact hS.one 8 rfl | exact hS.one 9 rfl | exact hS.one 10 rfl | exact hS.one 11 rfl) (fun hC => ?_)
      clear hK K
      try simp only [List.getElem_toArray, List.getElem_cons_succ, List.getElem_cons_zero, Act.put, List.setIfInBounds_toArray, List.set_cons_zero, List.set_cons_succ]
      refine mixs_one 7 (by kernel_rfl) rfl (fun K hK => ?_)
      ( first | (refine op_build1_st (by kernel_rfl) hS rfl Try.underlying115 elem_wt rfl (by simpa using hwl.out) (by omega) ?_; intro g2 w3 hS1; clear hS; have hS := hS1; clear hS1) | (refine op_app_st (by kernel_rfl) 4 hS rfl rfl Try.underlying115 elem_wt rfl (Src.slice Try.underlying115 (hS.blksl 0 rfl) (by simpa using hwl.out)) rfl (wt_rowone _) (by omega) (by unfold maxLen; omega) ?_; intro wv' w3 hS1; clear hS; simp only [List.set_cons_zero, List.set_cons_succ] at hS1; obtain ⟨a3, c3, rfl, -⟩ := hS1.row 4 rfl; have hS := hS1; clear hS1) )
      try clear hC
      refine hK.out _ _ _ (fun _ h => h) (by first | exact hS | exact hS.drop | exact hS.drop.drop | exact hS.drop.drop.drop | exact hS.drop.drop.drop.drop | exact hS.empty | exact hS.one 0 rfl | exact hS.one 1 rfl | exact hS.one 2 rfl | exact hS.one 3 rfl | exact hS.one 4 rfl | exact hS.one 5 rfl | exact hS.one 6 rfl | exact hS.one 7 rfl | exact hS.one 8 rfl | exact hS.one 9 rfl | exact hS.one 10 rfl | exact hS.one 11 rfl) (fun hC => ?_)
      clear hK K
      try simp only [List.getElem_toArray, List.getElem_cons_succ, List.getElem_cons_zero, Act.put, List.setIfInBounds_toArray, List.set_cons_zero, List.set_cons_succ]
      refine mixs_take 8 (v := ?_) rfl (by kernel_rfl) (fun _ _ _ h => h) (by kernel_rfl) (by assumption) (fun s => ?hy) ?_; case hy => (go_simp <;> with_reducible rfl)
      try simp only [List.getElem_toArray, List.getElem_cons_succ, List.getElem_cons_zero, Act.put, List.setIfInBounds_toArray, List.set_cons_zero, List.set_cons_succ]
      refine mixs_take 9 (v := ?_) rfl (by kernel_rfl) (fun _ _ _ h => h) (by kernel_rfl) (by assumption) (fun s => ?hy) ?_; case hy => (go_simp <;> with_reducible rfl)
      try simp only [List.getElem_toArray, List.getElem_cons_succ, List.getElem_cons_zero, Act.put, List.setIfInBounds_toArray, List.set_cons_zero, List.set_cons_succ]
      refine mixs_one 10 (by kernel_rfl) rfl (fun K hK => ?_)
      refine op_store_st (by kernel_rfl) 2 hS rfl rfl rfl (by kernel_rfl) rfl rfl ?_
      intro w1 hS1; clear hS; have hS := hS1; clear hS1; try simp only [List.set_cons_zero, List.set_cons_succ, List.setIfInBounds_toArray, List.take_succ_cons, List.take_zero, List.drop_succ_cons, List.drop_zero, List.nil_append, List.cons_append, List.append_nil, List.drop_nil, List.take_nil, List.length_cons, List.length_nil, Nat.zero_add, Nat.add_zero, Nat.reduceAdd] at hS
      try clear hC
      refine hK.out _ _ _ (fun _ h => h) (by first | exact hS | exact hS.drop | exact hS.drop.drop | exact hS.drop.drop.drop | exact hS.drop.drop.drop.drop | exact hS.empty | exact hS.one 0 rfl | exact hS.one 1 rfl | exact hS.one 2 rfl | exact hS.one 3 rfl | exact hS.one 4 rfl | exact hS.one 5 rfl | exact hS.one 6 rfl | exact hS.one 7 rfl | exact hS.one 8 rfl | exact hS.one 9 rfl | exact hS.one 10 rfl | exact hS.one 11 rfl) (fun hC => ?_)
      clear hK K
      try simp only [List.getElem_toArray, List.getElem_cons_succ, List.getElem_cons_zero, Act.put, List.setIfInBounds_toArray, List.set_cons_zero, List.set_cons_succ]
      refine wpAnyH_done (by kernel_rfl) ?_ _
      try clear hC
      have e1 : (d.wait.map wtRow).flatten ++ wtRow ⟨i, b.data.toList⟩ = ((d.wait ++ [(⟨i, b.data.toList⟩ : Wt)]).map wtRow).flatten := by simp
      have e2 : d.wait.length + 1 = (d.wait ++ [(⟨i, b.data.toList⟩ : Wt)]).length := by simp
      rw [e1, e2] at hS
      clear e1 e2
      have hS' : St w F (dks bd sv (.slice a3 (d.wait ++ [(⟨i, b.data.toList⟩ : Wt)]).length c3) { d with wait := d.wait ++ [⟨i, b.data.toList⟩] }) _ := hS.drop.drop
      clear hS
      have cT := cS.out _ _ (hS'.pre _ [] (List.append_nil _).symm)
      have hfr := fun (A' : List Ch) (W : World) k => hS'.call (A' := A') (w' := W) _ [] (List.append_nil _).symm k
      simp only [List.append_nil] at hfr
      replace cT := Lib.hid cT
      replace hfr := Lib.hid hfr
      clear hS' hcp ez cR cS hwl
      cases sd
      all_goals
        go_wp2_with (go_at_call 72; (refine cT.out.mono ?_); rintro _ w4 ⟨rfl, hb3⟩; replace hb3 := hfr.out _ _ hb3; replace hb3 := Lib.hid hb3)
        go_ret
        exact ⟨rfl, _, hb3.out⟩


theorem write_any (bd : Nat) (sv wv : Value) (d : Dk) (i : Int) (b : ByteArray) (w : World) (h : St w (feet (dks bd sv wv d)) (dks bd sv wv d) w) (hbm : b.size ≤ maxLen) (hw : d.wait.length ≤ 100000) (hf : -9223372036854775808 ≤ d.fuse ∧ d.fuse ≤ 9223372036854775807) :
    Calls Try.prog 17 #[.pointer (some ⟨bd, 0, none⟩), .int .i64 i, .string b] w fun e w' => e = .returned (.int .i64 (d.write i b.data.toList).2) ∧ ∃ wv', St w (feet (dks bd sv wv d)) (dks bd sv wv' (d.write i b.data.toList).1) w' := by
  by_cases hr : d.ready i = 0
  · by_cases hb : b.size = 64
    · exact write_main bd sv wv d i b w h hr hb hw hf
    · have cR := ready_any bd sv wv d i w h
      rw [hr] at cR
      have hd : d.write i b.data.toList = (d, 1) := by rw [Dk.write, if_pos hr, if_neg (by rw [← ba_size]; exact hb)]
      rw [hd]
      clear hr hd hf
      unfold maxLen at hbm
      replace cR := Lib.hid cR
      replace h := Lib.hid h
      have hb2 : ((b.size : Int) == 64) = false := by rw [beq_eq_false_iff_ne]; omega
      go_enter Try.func17, Try.ntmps17
      go_wp2_with (go_at_call 71; (with_reducible refine cR.out.mono ?_); rintro _ _ ⟨rfl, rfl⟩)
      go_ret
      exact ⟨rfl, wv, h.out⟩
  · have cR := ready_any bd sv wv d i w h
    have hd : d.write i b.data.toList = (d, d.ready i) := by rw [Dk.write, if_neg hr]
    rw [hd]
    have hz : (d.ready i == 0) = false := by rw [beq_eq_false_iff_ne]; exact hr
    generalize d.ready i = q at *
    clear hr hd hf hbm
    replace cR := Lib.hid cR
    replace h := Lib.hid h
    go_enter Try.func17, Try.ntmps17
    go_wp2_with (go_at_call 71; (with_reducible refine cR.out.mono ?_); rintro _ _ ⟨rfl, rfl⟩)
    go_ret
    exact ⟨rfl, wv, h.out⟩

end Go.Proofs.Ytlhpibniecfofaa
end

section
/- The law's sectors. -/
set_option linter.unusedSimpArgs false
set_option linter.unusedVariables false
namespace Go.Proofs.Ytlhpibniecfofaa
open Go.RowKit Go.Ofp
set_option linter.unusedVariables false
set_option maxRecDepth 100000
set_option maxHeartbeats 4000000

end Go.Proofs.Ytlhpibniecfofaa
end

section
/- The reference's disks: a sector of 0s. -/
set_option linter.unusedSimpArgs false
set_option linter.unusedVariables false
namespace Go.Proofs.Ytlhpibniecfofaa
open Go.RowKit Go.Ofp
set_option linter.unusedVariables false
set_option maxRecDepth 100000
set_option maxHeartbeats 4000000

end Go.Proofs.Ytlhpibniecfofaa
end

section
/- What came in, opened: arrays of integers, structs, slices of structs. -/
set_option linter.unusedSimpArgs false
set_option linter.unusedVariables false
namespace Go.Ofp
open Go.RowKit

section
variable {H : Type} {enc : TypeId × Value → H} {P : Program} {w : World} {base : Nat} {spare : Nat → Bool} {held : Bool} {t e : TypeId}

end

theorem wf_u8 {z : Int} (h : (Lit.int .u8 z).wf = true) : ∃ x : UInt8, z = x.toNat := by
  have hb : 0 ≤ z ∧ z ≤ 255 := by simpa [Lit.wf, IntKind.min, IntKind.max, IntKind.bits, IntKind.signed] using h
  refine ⟨UInt8.ofNat z.toNat, ?_⟩
  simp only [UInt8.toNat_ofNat']
  omega

theorem wf_i64 {z : Int} (h : (Lit.int .i64 z).wf = true) : -9223372036854775808 ≤ z ∧ z ≤ 9223372036854775807 := by
  simpa [Lit.wf, IntKind.min, IntKind.max, IntKind.bits, IntKind.signed] using h

end Go.Ofp
end

section
/- Slices of structs that came in: rows of cells. -/
set_option linter.unusedSimpArgs false
set_option linter.unusedVariables false
namespace Go.Ofp
open Go.RowKit Go.WideShapes

/-- The cells of a slice whose elements have several cells each. -/
structure Rw (w : World) (a : Option Addr) (size : Nat) (rows : List (List Value)) : Prop where
  sl : Sl w a rows.flatten
  each : ∀ r ∈ rows, r.length = size

theorem flatten_get {α : Type} (size : Nat) : ∀ (rows : List (List α)), (∀ r ∈ rows, r.length = size) → ∀ j t (hj : j < rows.length) (ht : t < size), rows.flatten[j * size + t]? = rows[j][t]?
  | [], _, j, t, hj, _ => by simp at hj
  | r :: rows, h, 0, t, _, ht => by
    have := h r (by simp)
    simp only [List.flatten_cons, Nat.zero_mul, Nat.zero_add, List.getElem_cons_zero]
    rw [List.getElem?_append_left (by omega)]
  | r :: rows, h, j + 1, t, hj, ht => by
    have hr := h r (by simp)
    simp only [List.flatten_cons, List.getElem_cons_succ]
    rw [List.getElem?_append_right (by rw [hr, Nat.add_mul]; omega), show (j + 1) * size + t - r.length = j * size + t by rw [hr, Nat.add_mul]; omega]
    exact flatten_get size rows (fun x hx => h x (by simp [hx])) j t (by simpa using hj) ht

theorem Rw.get {w : World} {a : Option Addr} {size : Nat} {rows : List (List Value)} (h : Rw w a size rows) (j : Nat) (hj : j < rows.length) (h0 : 0 < size) :
    ∃ b off, a = some ⟨b, off, none⟩ ∧ ∀ t v, rows[j][t]? = some v → w.cell? ⟨b, off + (j * size + t), none⟩ = some v := by
  have hl : rows.flatten.length = rows.length * size := by
    have : ∀ (rs : List (List Value)), (∀ r ∈ rs, r.length = size) → rs.flatten.length = rs.length * size := by
      intro rs
      induction rs with
      | nil => intro _; simp
      | cons r rs ih => intro h; rw [List.flatten_cons, List.length_append, ih (fun x hx => h x (by simp [hx])), h r (by simp), List.length_cons, Nat.add_mul]; omega
    exact this rows h.each
  have hpos : rows.flatten ≠ [] := by
    intro e
    rw [e, List.length_nil] at hl
    have := Nat.mul_pos (show 0 < rows.length by omega) h0
    omega
  obtain ⟨b, off, rfl⟩ := h.sl.cells hpos
  refine ⟨b, off, rfl, fun t v hv => ?_⟩
  have ht : t < size := by
    have := (List.getElem?_eq_some_iff.1 hv).1
    rwa [h.each _ (List.getElem_mem hj)] at this
  have := h.sl.add (j * size + t) v (by rw [flatten_get size rows h.each j t hj ht]; exact hv)
  rwa [Addr.add_lit] at this

theorem Rw.below {w w' : World} {a : Option Addr} {size : Nat} {rows : List (List Value)} (h : Rw w a size rows) (hb : Below w.heap.size w w') : Rw w' a size rows := ⟨h.sl.below hb, h.each⟩

section
variable {H : Type} {enc : TypeId × Value → H} {P : Program} {w : World} {base : Nat} {spare : Nat → Bool} {held : Bool} {t e : TypeId}

/-- A slice that came in: its elements' cells, each read as an element. -/
theorem open_rows {r : Reach} {b0 : Nat} {v : Value} {d : DataW H} {ps : List MemPlace} (ht : P.underlying t = some (.slice e)) (ho : Value.okWide P w r b0 t v) (h : DataW.Trod enc P w base spare held t v d ps) (hp : 0 < P.cellsOf e) :
    ∃ a n cap, v = .slice a n cap ∧ n ≤ cap ∧ cap ≤ maxLen ∧ ∃ rows, rows.length = n ∧ Rw w a (P.cellsOf e) rows ∧ ∀ cs ∈ rows, ∃ fuel x, DataW.trod enc P w base spare held fuel e cs = some x := by
  obtain ⟨a, n, cap, rfl⟩ := okWide_slice ht ho
  obtain ⟨fuel, hf⟩ := h
  rcases DataW.trod_slice ht hf with ⟨hc, _⟩ | ⟨ad, len, c, elems, rest, m, _, hc, _, _, hlc, hcm, hle, hel, _, _⟩
  · simp only [Value.cells, List.cons.injEq, Value.slice.injEq, and_true] at hc
    obtain ⟨rfl, rfl, rfl⟩ := hc
    exact ⟨none, 0, 0, rfl, Nat.le_refl _, Nat.zero_le _, [], rfl, ⟨Sl.nil _ _, by simp⟩, by simp⟩
  · simp only [Value.cells, List.cons.injEq, Value.slice.injEq, and_true] at hc
    obtain ⟨rfl, rfl, rfl⟩ := hc
    have key : ∀ i, i < n → ∃ cs x, w.cells? base (ad.add (i * P.cellsOf e)) (P.cellsOf e) = some cs ∧ DataW.trod enc P w base spare held m e cs = some x := by
      intro i hi
      have h1 := hel i hi
      rw [List.getElem?_eq_getElem (by omega)] at h1
      obtain ⟨cs, h2, h3⟩ := Option.bind_eq_some_iff.1 h1
      exact ⟨cs, _, h2, h3⟩
    have cell : ∀ i (hi : i < n) cs, w.cells? base (ad.add (i * P.cellsOf e)) (P.cellsOf e) = some cs → cs.length = P.cellsOf e ∧ ∀ t, t < P.cellsOf e → w.cell? ((ad.add (i * P.cellsOf e)).add t) = cs[t]? := by
      intro i hi cs h1
      unfold World.cells? at h1
      split at h1
      · exact ⟨by simpa using mapM_some_length h1, fun t ht => mapM_some_get h1 t t (by simp [ht])⟩
      · cases h1
    refine ⟨some ad, n, cap, rfl, hlc, hcm, (List.range n).map fun i => (w.cells? base (ad.add (i * P.cellsOf e)) (P.cellsOf e)).getD [], by simp, ?_, ?_⟩
    · have heach : ∀ r ∈ (List.range n).map (fun i => (w.cells? base (ad.add (i * P.cellsOf e)) (P.cellsOf e)).getD []), r.length = P.cellsOf e := by
        intro r hr
        obtain ⟨i, hi, rfl⟩ := List.mem_map.1 hr
        rw [List.mem_range] at hi
        obtain ⟨cs, x, h1, _⟩ := key i hi
        rw [h1]
        exact (cell i hi cs h1).1
      refine ⟨?_, heach⟩
      by_cases hn : n = 0
      · subst hn
        exact Sl.nil _ _
      · obtain ⟨b, off, spot⟩ := ad
        have hs : spot = none := by
          obtain ⟨cs, x, h1, _⟩ := key 0 (by omega)
          obtain ⟨hl, hc⟩ := cell 0 (by omega) cs h1
          have := hc 0 hp
          rw [List.getElem?_eq_getElem (by omega)] at this
          simp only [Nat.zero_mul, Addr.add, if_true] at this
          exact World.cell?_spot this
        subst hs
        intro q hq
        have hfl : ∀ (rs : List (List Value)), (∀ r ∈ rs, r.length = P.cellsOf e) → rs.flatten.length = rs.length * P.cellsOf e := by
          intro rs
          induction rs with
          | nil => intro _; simp
          | cons r rs ih => intro h; rw [List.flatten_cons, List.length_append, ih (fun x hx => h x (by simp [hx])), h r (by simp), List.length_cons, Nat.add_mul]; omega
        have hq2 := hq
        rw [hfl _ heach, List.length_map, List.length_range] at hq2
        have hj : q / P.cellsOf e < n := Nat.div_lt_of_lt_mul (by rw [Nat.mul_comm]; exact hq2)
        have ht : q % P.cellsOf e < P.cellsOf e := Nat.mod_lt _ hp
        have hqe : q / P.cellsOf e * P.cellsOf e + q % P.cellsOf e = q := by rw [Nat.mul_comm]; exact Nat.div_add_mod q _
        obtain ⟨cs, x, h1, _⟩ := key _ hj
        obtain ⟨hl, hc⟩ := cell _ hj cs h1
        have hc' := hc _ ht
        have hget := flatten_get (P.cellsOf e) _ heach (q / P.cellsOf e) (q % P.cellsOf e) (by simpa using hj) ht
        rw [hqe] at hget
        simp only [List.getElem_map, List.getElem_range, h1, Option.getD_some] at hget
        refine ⟨b, off, rfl, ?_⟩
        rw [← List.getElem?_eq_getElem hq, hget, ← hc', Addr.add_lit, Addr.add_lit]
        congr 2
        omega
    · intro cs hcs
      obtain ⟨i, hi, rfl⟩ := List.mem_map.1 hcs
      rw [List.mem_range] at hi
      obtain ⟨cs, x, h1, h2⟩ := key i hi
      rw [h1]
      exact ⟨m, x, h2⟩
end

end Go.Ofp
end

section
/- Rows of one length, one behind the other. -/
set_option linter.unusedSimpArgs false
set_option linter.unusedVariables false
namespace Go.Ofp
theorem flat_take {α : Type} (k : Nat) (R : List (List α)) (h : ∀ r ∈ R, r.length = k) (j : Nat) : R.flatten.take (j * k) = (R.take j).flatten := by
  induction R generalizing j with
  | nil => simp
  | cons r R ih =>
    cases j with
    | zero => simp
    | succ j =>
      have hr := h r (by simp)
      rw [List.flatten_cons, List.take_succ_cons, List.flatten_cons, ← ih (fun x hx => h x (by simp [hx])), List.take_append, List.take_of_length_le (by rw [hr, Nat.add_mul]; omega), hr, show (j + 1) * k - k = j * k by rw [Nat.add_mul]; omega]
theorem flat_drop {α : Type} (k : Nat) (R : List (List α)) (h : ∀ r ∈ R, r.length = k) (j : Nat) : R.flatten.drop (j * k) = (R.drop j).flatten := by
  induction R generalizing j with
  | nil => simp
  | cons r R ih =>
    cases j with
    | zero => simp
    | succ j =>
      have hr := h r (by simp)
      rw [List.flatten_cons, List.drop_succ_cons, ← ih (fun x hx => h x (by simp [hx])), List.drop_append, List.drop_of_length_le (by rw [hr, Nat.add_mul]; omega), List.nil_append, hr, show (j + 1) * k - k = j * k by rw [Nat.add_mul]; omega]
theorem flat_elem {α : Type} (k : Nat) (R : List (List α)) (h : ∀ r ∈ R, r.length = k) (j : Nat) (hj : j < R.length) : (R.flatten.drop (j * k)).take k = R[j] := by
  have hr := h _ (List.getElem_mem hj)
  rw [flat_drop k R h, List.drop_eq_getElem_cons hj, List.flatten_cons, List.take_left' hr]
theorem flat_set {α : Type} (k : Nat) (R : List (List α)) (h : ∀ r ∈ R, r.length = k) (j : Nat) (hj : j < R.length) (x : List α) : R.flatten.take (j * k) ++ x ++ R.flatten.drop (j * k + k) = (R.set j x).flatten := by
  rw [flat_take k R h, show j * k + k = (j + 1) * k by rw [Nat.add_mul]; omega, flat_drop k R h, List.set_eq_take_append_cons_drop, if_pos hj]
  simp
end Go.Ofp
end

section
/- Sectors and writes as rows; the walk of Read. -/
set_option linter.unusedSimpArgs false
set_option linter.unusedVariables false
namespace Go.Ofp
/-- What is told of a sector. -/
def Dk.told (s : Sc) : List UInt8 × Int := if s.bad then ([], 16) else (s.b, 0)
/-- A write over what a sector has. -/
def Dk.over (i : Int) (s : Sc) (w : Wt) : Sc := if w.place = i then ⟨w.b, false⟩ else s
theorem over_len (i : Int) (l : List Wt) (h : ∀ w ∈ l, w.b.length = 64) (s : Sc) (hs : s.b.length = 64) : (l.foldl (Dk.over i) s).b.length = 64 := by
  induction l generalizing s with
  | nil => exact hs
  | cons x l ih =>
    rw [List.foldl_cons]
    refine ih (fun w hw => h w (by simp [hw])) _ ?_
    unfold Dk.over
    split
    · exact h x (by simp)
    · exact hs
theorem over_next (i : Int) (l : List Wt) (s : Sc) (j : Nat) (hj : j < l.length) : (l.take (j + 1)).foldl (Dk.over i) s = Dk.over i ((l.take j).foldl (Dk.over i) s) l[j] := by
  rw [List.take_succ_eq_append_getElem hj, List.foldl_append]
  rfl
end Go.Ofp
namespace Go.Proofs.Ytlhpibniecfofaa
open Go.RowKit Go.Ofp
set_option linter.unusedVariables false
set_option maxRecDepth 100000
set_option maxHeartbeats 4000000

theorem sc_each {d : Dk} (h : d.Ok) : ∀ r ∈ d.sec.map scRow, r.length = 65 := by
  intro r hr
  obtain ⟨s, hs, rfl⟩ := List.mem_map.1 hr
  exact scRow_length s (h.sec s hs)
theorem wt_each {d : Dk} (h : d.Ok) : ∀ r ∈ d.wait.map wtRow, r.length = 66 := by
  intro r hr
  obtain ⟨s, hs, rfl⟩ := List.mem_map.1 hr
  exact wtRow_length s (h.wait s hs).2.2
theorem sc_rowone (s : Sc) : (scRow s).all Value.oneCell' = true := by
  rw [List.all_eq_true]
  intro u hu
  simp only [scRow, List.mem_append, List.mem_map, List.mem_singleton] at hu
  rcases hu with ⟨_, _, rfl⟩ | rfl <;> rfl
theorem sc_bad (s : Sc) (h : s.b.length = 64) : (scRow s).toArray[64]? = some (.bool s.bad) := by
  simp [scRow, h]
theorem sc_bytes (s : Sc) (h : s.b.length = 64) : (scRow s).take 64 = s.b.map vb := by
  simp [scRow, h]
theorem wt_sector (x : Wt) (h : x.b.length = 64) : ((wtRow x).drop 1).take 65 = scRow ⟨x.b, false⟩ := by
  rw [List.take_of_length_le (by simp [wtRow, h])]
  simp [wtRow, scRow]
theorem store_whole {xs ys : List Value} {n : Nat} (h : xs.length = n) (hy : ys.length = n) : (xs.toArray.toList.take 0 ++ ys ++ xs.toArray.toList.drop (0 + n)).toArray = ys.toArray := by
  subst h
  simp

theorem read_main (bd : Nat) (sv wv : Value) (d : Dk) (k : Nat) (w : World) (h : St w (feet (dks bd sv wv d)) (dks bd sv wv d) w) (hok : d.Ok) (hr : d.ready k = 0) (hw : d.wait.length ≤ 100000) :
    Calls Try.prog 22 #[.pointer (some ⟨bd, 0, none⟩), .int .i64 k] w fun e w' => e = .returned (.tuple #[.string (str (d.read k).1), .int .i64 (d.read k).2]) ∧ St w (feet (dks bd sv wv d)) (dks bd sv wv d) w' := by
  have cR := ready_any bd sv wv d k w h
  obtain ⟨-, -, hkl⟩ := Dk.ready_zero hr
  replace hkl : k < d.sec.length := by omega
  rw [hr] at cR
  have hrd : d.read k = Dk.told (d.see k) := by rw [Dk.read, if_pos hr]; rfl
  rw [hrd]
  clear hrd
  have hse := sc_each hok
  have hwe := wt_each hok
  have hsl : (d.sec.map scRow).length = d.sec.length := List.length_map _
  have hwl : (d.wait.map wtRow).length = d.wait.length := List.length_map _
  have hload0 := flat_elem 65 _ hse k (by rw [hsl]; exact hkl)
  have hsk := hok.sec d.sec[k] (List.getElem_mem hkl)
  have hload : (((d.sec.map scRow).flatten).drop (k * 65)).take 65 = scRow d.sec[k] := by rw [hload0, List.getElem_map]
  have hsee : d.see k = d.wait.foldl (Dk.over k) d.sec[k] := by
    unfold Dk.see
    rw [List.getD_eq_getElem?_getD, Int.toNat_natCast, List.getElem?_eq_getElem hkl]
    rfl
  rw [hsee]
  have hwload : ∀ j (hj : j < d.wait.length), (((d.wait.map wtRow).flatten).drop (j * 66)).take 66 = wtRow d.wait[j] := by
    intro j hj
    rw [flat_elem 66 _ hwe j (by rw [hwl]; exact hj), List.getElem_map]
  have hwok := hok.wait
  generalize feet (dks bd sv wv d) = F at h ⊢
  have hS := h
  clear h hr hok hse hwe hsl hwl hload0 hsee
  unfold dks at hS ⊢
  obtain ⟨gs, cs, rfl, -⟩ := hS.rowat 1 rfl (by omega)
  obtain ⟨aw, cw, rfl, -⟩ := hS.row 2 rfl
  have ez := elem_sc
  have ew := elem_wt
  have hz0 := store_whole (xs := scZero) (ys := scRow d.sec[k]) (n := 65) (by simp [scZero]) (scRow_length _ hsk)
  generalize (d.sec.map scRow).flatten = R1 at *
  generalize (d.wait.map wtRow).flatten = R2 at *
  generalize d.sec[k] = s0 at *
  generalize d.wait = wl at *
  obtain ⟨n, hn⟩ : ∃ n, wl.length = n := ⟨_, rfl⟩
  rw [hn] at hS hw ⊢
  generalize d.sec.length = ns at *
  have hrl := scRow_length _ hsk
  have hro := sc_rowone s0
  replace cR := Lib.hid cR
  replace hload := Lib.hid hload
  replace hwload := Lib.hid hwload
  replace hwok := Lib.hid hwok
  replace hz0 := Lib.hid hz0
  replace hrl := Lib.hid hrl
  replace hro := Lib.hid hro
  replace hsk := Lib.hid hsk
  replace hn := Lib.hid hn
  go_enter Try.func22, Try.ntmps22
  go_wp2_with (first
    | (go_at_call 71; (with_reducible refine cR.out.mono ?_); rintro _ _ ⟨rfl, rfl⟩)
    | ((with_reducible refine wpList_loadelem_st 1 k hS rfl rfl rfl rfl rfl ?_ (by kernel_rfl) hload.out hrl.out ?_); focus (simp [rowB, go_sem]; done))
    | ((with_reducible refine wpList_alloc_st hS rfl rfl ez ?_); intro g1 w1 hS1; clear hS; have hS := hS1; clear hS1)
    | ((with_reducible refine wpList_storerow_st 0 (vs := scRow s0) (n := 65) hS rfl rfl rfl rfl (by kernel_rfl) rfl hrl.out hro.out rfl ?_); intro w1 hS1; clear hS; simp only [List.set_cons_zero] at hS1; rw [hz0.out] at hS1; have hS := hS1; clear hS1)
    | ((with_reducible refine wpList_load_st 0 hS rfl rfl rfl rfl ?_ rfl ?_); focus (simp [scalarB, go_sem]; done))
    | ((with_reducible refine wpList_load_st 1 hS rfl rfl rfl rfl ?_ rfl ?_); focus (simp [scalarB, go_sem]; done)))
  clear hro hrl hz0 hload cR
  go_loopg [28] n (fun gk vx wr => ∃ (j : Nat) (s : Sc), j + gk = n ∧ vx = .int .i64 j ∧ Hid (s = (wl.take j).foldl (Dk.over k) s0 ∧ s.b.length = 64) ∧ St w F [Ch.blk g1 122 (scRow s).toArray, Ch.blk bd 117 #[.slice (some ⟨gs, 0, none⟩) ns cs, .slice aw n cw, .int .i64 d.fuse, .bool d.dead], Ch.row 122 65 (.slice (some ⟨gs, 0, none⟩) ns cs) ns R1, Ch.row 125 66 (.slice aw n cw) n R2] wr)
  case atStart => exact ⟨0, s0, Nat.zero_add _, rfl, Lib.hid ⟨rfl, hsk.out⟩, hS⟩
  case round =>
    clear hS
    obtain ⟨j, s, hjn, rfl, hs, hS⟩ := hrel
    by_cases hlt : j < n
    · have hj' : j < wl.length := by have := hn.out; omega
      have hl2 := hwload.out j hj'
      have hw2 := (hwok.out wl[j] (List.getElem_mem hj')).2.2
      have hnext := over_next k wl s0 j hj'
      rw [← hs.out.1] at hnext
      have hlen := hs.out.2
      obtain ⟨gw, cw', hwv, -⟩ := hS.rowat 3 rfl (by omega)
      cases hwv
      generalize wl[j] = x at hl2 hw2 hnext
      have hp0 : (wtRow x).toArray[0]? = some (.int .i64 x.place) := rfl
      have hxl := wtRow_length x hw2
      have hxo : (wtRow x).all Value.oneCell' = true := by rw [List.all_eq_true]; exact wt_rowone x
      have hz1 := store_whole (xs := Value.int .i64 0 :: scZero) (ys := wtRow x) (n := 66) (by simp [scZero]) hxl
      have hsec := wt_sector x hw2
      have hz2 := store_whole (xs := scRow s) (ys := scRow ⟨x.b, false⟩) (n := 65) (scRow_length _ hlen) (scRow_length ⟨x.b, false⟩ hw2)
      have hsl2 := scRow_length ⟨x.b, false⟩ hw2
      have hso2 := sc_rowone ⟨x.b, false⟩
      have hsz2 : Nat.ble (0 + 65) (scRow s).toArray.size = true := by rw [List.size_toArray, scRow_length _ hlen]; rfl
      replace hl2 := Lib.hid hl2
      replace hp0 := Lib.hid hp0
      replace hxl := Lib.hid hxl
      replace hxo := Lib.hid hxo
      replace hz1 := Lib.hid hz1
      replace hsec := Lib.hid hsec
      replace hz2 := Lib.hid hz2
      replace hsl2 := Lib.hid hsl2
      replace hso2 := Lib.hid hso2
      replace hsz2 := Lib.hid hsz2
      replace hnext := Lib.hid hnext
      replace hlen := Lib.hid hlen
      replace hw2 := Lib.hid hw2
      clear hs hwok hwload  hn ez
      by_cases hp : x.place = (k : Int)
      · have hov : Dk.over k s x = ⟨x.b, false⟩ := by rw [Dk.over, if_pos hp]
        rw [hp] at hp0
        replace hov := Lib.hid hov
        clear hp
        go_wp2_with (first
          | ((with_reducible refine wpList_loadelem_st 3 j hS rfl rfl rfl rfl rfl ?_ (by kernel_rfl) hl2.out hxl.out ?_); focus (simp [rowB, go_sem]; done))
          | ((with_reducible refine wpList_alloc_st hS rfl rfl ew ?_); intro g3 w1 hS1; clear hS; have hS := hS1; clear hS1)
          | ((with_reducible refine wpList_storerow_st 0 (vs := wtRow x) (n := 66) hS rfl rfl rfl rfl (by kernel_rfl) rfl hxl.out hxo.out rfl ?_); intro w1 hS1; clear hS; simp only [List.set_cons_zero] at hS1; rw [hz1.out] at hS1; have hS := hS1; clear hS1)
          | ((with_reducible refine wpList_load_st 0 hS rfl rfl rfl rfl ?_ hp0.out ?_); focus (simp [scalarB, go_sem]; done))
          | ((with_reducible refine wpList_loadrow_st 0 hS rfl rfl rfl rfl ?_ (by kernel_rfl) hsec.out hsl2.out ?_); focus (simp [rowB, go_sem]; done))
          | ((with_reducible refine wpList_storerow_st 1 (vs := scRow ⟨x.b, false⟩) (n := 65) hS rfl rfl rfl rfl (by kernel_rfl) rfl hsl2.out hso2.out hsz2.out ?_); intro w1 hS1; clear hS; simp only [List.set_cons_succ, List.set_cons_zero] at hS1; rw [hz2.out] at hS1; have hS := hS1; clear hS1))
        go_roundg (n - (j + 1))
        case measure => omega
        case rel => exact ⟨j + 1, _, by omega, by go_num, Lib.hid ⟨by rw [hnext.out, hov.out], hw2.out⟩, hS.drop⟩
      · have hov : Dk.over k s x = s := by rw [Dk.over, if_neg hp]
        have hpb : (x.place == (k : Int)) = false := by rw [beq_eq_false_iff_ne]; exact hp
        replace hov := Lib.hid hov
        clear hp
        go_wp2_with (first
          | ((with_reducible refine wpList_loadelem_st 3 j hS rfl rfl rfl rfl rfl ?_ (by kernel_rfl) hl2.out hxl.out ?_); focus (simp [rowB, go_sem]; done))
          | ((with_reducible refine wpList_alloc_st hS rfl rfl ew ?_); intro g3 w1 hS1; clear hS; have hS := hS1; clear hS1)
          | ((with_reducible refine wpList_storerow_st 0 (vs := wtRow x) (n := 66) hS rfl rfl rfl rfl (by kernel_rfl) rfl hxl.out hxo.out rfl ?_); intro w1 hS1; clear hS; simp only [List.set_cons_zero] at hS1; rw [hz1.out] at hS1; have hS := hS1; clear hS1)
          | ((with_reducible refine wpList_load_st 0 hS rfl rfl rfl rfl ?_ hp0.out ?_); focus (simp [scalarB, go_sem]; done)))
        go_roundg (n - (j + 1))
        case measure => omega
        case rel => exact ⟨j + 1, s, by omega, by go_num, Lib.hid ⟨by rw [hnext.out, hov.out], hlen.out⟩, hS.drop⟩
    · have hfin : wl.foldl (Dk.over k) s0 = s := by
        rw [hs.out.1, List.take_of_length_le (by have := hn.out; omega)]
      have hlen := hs.out.2
      have hb0 := sc_bad s hlen
      have hsl : Sl wr (some ⟨g1, 0, none⟩) (s.b.map vb) := by
        have := (hS.blksl 0 rfl).take 64
        rwa [List.toList_toArray, sc_bytes s hlen] at this
      replace hb0 := Lib.hid hb0
      replace hsl := Lib.hid hsl
      replace hfin := Lib.hid hfin
      clear hs hwok hwload  hn ez ew
      obtain ⟨sb, hsb⟩ : ∃ x, s.bad = x := ⟨_, rfl⟩
      rw [hsb] at hb0
      replace hsb := Lib.hid hsb
      cases sb
      all_goals
        go_wp2_with (first
          | ((with_reducible refine wpList_load_st 0 hS rfl rfl rfl rfl ?_ hb0.out ?_); focus (simp [scalarB, go_sem]; done))
          | (with_reducible refine wpList_bts (src := 127) (dst := 9) (x := .tmp 42) (l := s.b) rfl rfl Try.underlying127 Try.underlying5 Try.underlying9 rfl hsl.out (by rw [hlen]) ?_))
        go_ret2
        exact ⟨by rw [hfin.out, Dk.told, hsb.out]; rfl, hS.drop⟩

theorem read_any (bd : Nat) (sv wv : Value) (d : Dk) (i : Int) (w : World) (h : St w (feet (dks bd sv wv d)) (dks bd sv wv d) w) (hok : d.Ok) (hw : d.wait.length ≤ 100000) :
    Calls Try.prog 22 #[.pointer (some ⟨bd, 0, none⟩), .int .i64 i] w fun e w' => e = .returned (.tuple #[.string (str (d.read i).1), .int .i64 (d.read i).2]) ∧ St w (feet (dks bd sv wv d)) (dks bd sv wv d) w' := by
  by_cases hr : d.ready i = 0
  · obtain ⟨-, h0, -⟩ := Dk.ready_zero hr
    obtain ⟨k, rfl⟩ := Int.eq_ofNat_of_zero_le h0
    exact read_main bd sv wv d k w h hok hr hw
  · have cR := ready_any bd sv wv d i w h
    have hd : d.read i = ([], d.ready i) := by rw [Dk.read, if_neg hr]
    rw [hd]
    have hz : (d.ready i == 0) = false := by rw [beq_eq_false_iff_ne]; exact hr
    generalize d.ready i = q at *
    clear hr hd hok hw
    replace cR := Lib.hid cR
    replace h := Lib.hid h
    go_enter Try.func22, Try.ntmps22
    go_wp2_with (go_at_call 71; (with_reducible refine cR.out.mono ?_); rintro _ _ ⟨rfl, rfl⟩)
    go_ret2
    exact ⟨rfl, h.out⟩
end Go.Proofs.Ytlhpibniecfofaa
end

section
/- A disk's root: plain law. -/
set_option linter.unusedSimpArgs false
set_option linter.unusedVariables false
namespace Go.Ofp
namespace Dk
/-- The better one of a root and that of a sector. -/
def better (d : Dk) (b : Rt) (i : Int) : Rt := if (d.read i).2 = 0 ∧ (Rt.getB (d.read i).1).2 = true ∧ b.seq < (Rt.getB (d.read i).1).1.seq then (Rt.getB (d.read i).1).1 else b
def best (d : Dk) : Nat → Rt
  | 0 => Rt.none
  | j + 1 => d.better (d.best j) j
/-- A disk's root, or why there is none. -/
def load (d : Dk) : Rt × Int := if d.dead then (Rt.none, 15) else if (d.best 2).seq = 0 then (Rt.none, 16) else (d.best 2, 0)
/-- A root is stored. -/
def store (d : Dk) (x : Rt) : Dk × Int :=
  if x.ok = false ∨ d.sec.length < 2 then (d, 1) else if (d.write (x.seq % 2) x.putB).2 = 0 then (d.write (x.seq % 2) x.putB).1.sync else ((d.write (x.seq % 2) x.putB).1, (d.write (x.seq % 2) x.putB).2)
theorem read_len {d : Dk} (h : d.Ok) (i : Int) : (d.read i).1.length ≤ 64 := by
  unfold Dk.read
  split
  · rename_i hr
    obtain ⟨-, h0, h1⟩ := ready_zero hr
    split
    · simp
    · have hs : (d.see i).b.length = 64 := by
        have e : d.see i = d.wait.foldl (over i) (d.sec.getD i.toNat ⟨[], true⟩) := rfl
        rw [e]
        refine over_len i d.wait (fun w hw => (h.wait w hw).2.2) _ ?_
        have hl : i.toNat < d.sec.length := by omega
        rw [List.getD_eq_getElem?_getD, List.getElem?_eq_getElem hl]
        exact h.sec _ (List.getElem_mem hl)
      exact Nat.le_of_eq hs
  · simp
theorem Fit.store {d : Dk} {n k : Nat} (h : d.Fit n k) (x : Rt) : (d.store x).1.Fit n (k + 1) := by
  unfold Dk.store
  split
  · exact h.mono (by omega)
  · split
    · exact (h.write _ _).sync
    · exact h.write _ _
end Dk
end Go.Ofp
end

section
/- Vaults: a text, and records behind it: plain law. -/
set_option linter.unusedSimpArgs false
set_option linter.unusedVariables false
namespace Go.Ofp
/-- A ring's record of a text that is known whole. -/
def wholeB (s : ByteArray) : ByteArray := ⟨#[0]⟩ ++ s
/-- A ring's record of a vault's record. -/
def stepB (s : ByteArray) : ByteArray := ⟨#[1]⟩ ++ s
theorem whole_size (s : ByteArray) : (wholeB s).size = s.size + 1 := by
  unfold wholeB
  rw [ByteArray.size_append]
  exact Nat.add_comm _ _
theorem step_size (s : ByteArray) : (stepB s).size = s.size + 1 := by
  unfold stepB
  rw [ByteArray.size_append]
  exact Nat.add_comm _ _
/-- The first byte of a record. -/
def firstB (s : ByteArray) : Nat := (s.data.toList.headD 0).toNat
def restB (s : ByteArray) : ByteArray := s.extract 1 s.size
/-- A vault's records of a ring's. -/
def vsteps : List ByteArray → Option (List ByteArray)
  | [] => some []
  | s :: l => if s.size = 0 ∨ 1 < firstB s then none else (vsteps l).map fun m => if firstB s = 1 then restB s :: m else m
/-- The text, and the vault's records, of a ring's. -/
def splitB : List ByteArray → Option (ByteArray × List ByteArray)
  | [] => none
  | s :: l => if s.size = 0 ∨ firstB s ≠ 0 then none else (vsteps l).map fun m => (restB s, m)
namespace Dk
/-- A record is put behind all, and synced. -/
def vput (d : Dk) (r : Rg) (s : ByteArray) : Rg × Dk × Int :=
  if (r.add d s).2.2 = 0 then ((r.add d s).1, (r.add d s).2.1.sync.1, (r.add d s).2.1.sync.2) else ((r.add d s).1, (r.add d s).2.1, (r.add d s).2.2)
/-- The ring of a disk's root. -/
def vring (d : Dk) (x : Rt) : Rg := ⟨2, d.sec.length - 2, x.head.toNat, x.head.toNat, x.life.toNat⟩
def vformat (d : Dk) (text : ByteArray) : Dk × Int :=
  if d.sec.length < 3 then (d, 1) else if (d.vput (d.vring ⟨1, 1, 0⟩) (wholeB text)).2.2 = 0 then (d.vput (d.vring ⟨1, 1, 0⟩) (wholeB text)).2.1.store ⟨1, 1, 0⟩ else ((d.vput (d.vring ⟨1, 1, 0⟩) (wholeB text)).2.1, (d.vput (d.vring ⟨1, 1, 0⟩) (wholeB text)).2.2)
/-- A vault's record of the ring: the ring, the disk, whether the vault is of no use any more, and the error. -/
def vadd (d : Dk) (r : Rg) (gone : Bool) (s : ByteArray) : Rg × Dk × Bool × Int :=
  if (r.add d s).2.2 = 8 then ((r.add d s).1, (r.add d s).2.1, gone, 8) else if (r.add d s).2.2 = 0 then ((r.add d s).1, (r.add d s).2.1.sync.1, (r.add d s).2.1.sync.2 != 0, (r.add d s).2.1.sync.2) else ((r.add d s).1, (r.add d s).2.1, true, (r.add d s).2.2)
theorem Fit.vadd {d : Dk} {n k : Nat} (h : d.Fit n k) (r : Rg) (gone : Bool) (s : ByteArray) : (d.vadd r gone s).2.1.Fit n (k + manyB s.size) := by
  unfold Dk.vadd
  split
  · exact h.add r s
  · split
    · exact (h.add r s).sync
    · exact h.add r s
theorem Fit.vput {d : Dk} {n k : Nat} (h : d.Fit n k) (r : Rg) (s : ByteArray) : (d.vput r s).2.1.Fit n (k + manyB s.size) := by
  unfold Dk.vput
  split
  · exact (h.add r s).sync
  · exact h.add r s
theorem Fit.vformat {d : Dk} {n k : Nat} (h : d.Fit n k) (s : ByteArray) : (d.vformat s).1.Fit n (k + manyB (s.size + 1) + 1) := by
  unfold Dk.vformat
  split
  · exact h.mono (by omega)
  · have hv := h.vput (d.vring ⟨1, 1, 0⟩) (wholeB s)
    rw [whole_size] at hv
    split
    · exact hv.store _
    · exact hv.mono (by omega)
/-- Add of a vault. -/
def vmore (d : Dk) (r : Rg) (gone : Bool) (s : ByteArray) : Rg × Dk × Bool × Int := if gone = true then (r, d, gone, 14) else d.vadd r gone (stepB s)
/-- Renew of a vault: its ring, its disk, its root, whether it is of no use any more, the error. -/
def vrenew (d : Dk) (r : Rg) (x : Rt) (gone : Bool) (s : ByteArray) : Rg × Dk × Rt × Bool × Int :=
  if gone = true then (r, d, x, gone, 14) else if x.seq = 4294967295 then (r, d, x, gone, 8)
  else if (d.vadd r gone (wholeB s)).2.2.2 = 0 then
    (if ((d.vadd r gone (wholeB s)).2.1.store ⟨x.seq + 1, x.life, r.tail⟩).2 = 0 then (((d.vadd r gone (wholeB s)).1.move r.tail).1, ((d.vadd r gone (wholeB s)).2.1.store ⟨x.seq + 1, x.life, r.tail⟩).1, ⟨x.seq + 1, x.life, r.tail⟩, (d.vadd r gone (wholeB s)).2.2.1, 0)
    else ((d.vadd r gone (wholeB s)).1, ((d.vadd r gone (wholeB s)).2.1.store ⟨x.seq + 1, x.life, r.tail⟩).1, ⟨x.seq + 1, x.life, r.tail⟩, true, ((d.vadd r gone (wholeB s)).2.1.store ⟨x.seq + 1, x.life, r.tail⟩).2))
  else ((d.vadd r gone (wholeB s)).1, (d.vadd r gone (wholeB s)).2.1, x, (d.vadd r gone (wholeB s)).2.2.1, (d.vadd r gone (wholeB s)).2.2.2)
end Dk
end Go.Ofp
end

section
/- Structs whose fields are integers, strings, bools: their cells. -/
set_option linter.unusedSimpArgs false
set_option linter.unusedVariables false
namespace Go.Ofp
open Go.RowKit Go.WideShapes

section
variable {H : Type} {enc : TypeId × Value → H} {P : Program} {w : World} {base : Nat} {spare : Nat → Bool} {held : Bool}

/-- A field of a struct, read. -/
theorem field_read {t : TypeId} {fs : Array Field} {fuel : Nat} {cs : List Value} {x : DataW H × List MemPlace} (ht : P.underlying t = some (.struct fs)) (h : DataW.trod enc P w base spare held fuel t cs = some x) :
    cs.length = P.cellsOf t ∧ ∀ (i : Nat) (f : Field), fs[i]? = some f → ∃ n y, DataW.trod enc P w base spare held n f.type ((cs.drop f.offset).take (P.cellsOf f.type)) = some y := by
  obtain ⟨xs, n, _, rfl, hl, hlen, hf⟩ := DataW.trod_struct ht h
  refine ⟨hl, fun i f hi => ?_⟩
  have hi' : i < xs.length := by
    have := (Array.getElem?_eq_some_iff.1 hi).1
    omega
  refine ⟨n, xs[i], ?_⟩
  rw [hf i f hi, List.getElem?_eq_getElem hi']

theorem field_int {f : TypeId} {k : IntKind} {o n : Nat} {cs : List Value} {y : DataW H × List MemPlace} (hf : P.underlying f = some (.int k)) (hc : P.cellsOf f = 1) (ho : o < cs.length)
    (h : DataW.trod enc P w base spare held n f ((cs.drop o).take (P.cellsOf f)) = some y) : ∃ z, cs[o]? = some (.int k z) ∧ (Lit.int k z).wf = true := by
  obtain ⟨z, hz, _, hw⟩ := DataW.trod_int hf h
  rw [hc, List.drop_eq_getElem_cons ho] at hz
  simp only [List.take_succ_cons, List.take_zero, List.cons.injEq, and_true] at hz
  exact ⟨z, by rw [List.getElem?_eq_getElem ho, hz], hw⟩
end
end Go.Ofp
end

section
/- The walks of pieces: which may be, how many there are, and what lists of pieces are in memory. -/
set_option linter.unusedSimpArgs false
set_option linter.unusedVariables false
namespace Go.Proofs.Ytlhpibniecfofaa
open Go.RowKit Go.Ofp
set_option linter.unusedVariables false
set_option maxRecDepth 100000
set_option maxHeartbeats 4000000

theorem many_any (n : Nat) (w : World) (hn : n ≤ maxLen) : Calls Try.prog 83 #[.int .i64 n] w fun e w' => e = .returned (.int .i64 (manyB n)) ∧ w = w' := by
  unfold maxLen at hn
  rcases manyB_eq n with ⟨h, e⟩ | ⟨h, e⟩
  · rw [e]
    go_enter Try.func83, Try.ntmps83
    go_wp2_with fail
    go_ret
    exact ⟨rfl, rfl⟩
  · rw [e]
    go_enter Try.func83, Try.ntmps83
    go_wp2_with fail
    go_ret
    have e2 : ((n - 1 : Nat) : Int) = (n : Int) - 1 := by omega
    refine ⟨congrArg (fun z => Ending.returned (.int .i64 z)) ?_, rfl⟩
    have e3 : (((n - 1) / 52 + 1 : Nat) : Int) = (n - 1 : Nat) / 52 + 1 := by omega
    rw [e3, e2]
    omega

theorem check_any (p : Pc) (w : World) : Calls Try.prog 101 #[p.val] w fun e w' => e = .returned (.bool p.ok) ∧ Below w.heap.size w w' := by
  have hok := Pc.ok_iff p
  generalize p.ok = b at hok ⊢
  obtain ⟨life, place, first, last, body⟩ := p
  simp only [Pc.val, Pc.row] at hok ⊢
  replace hok := Lib.hid hok
  go_enter Try.func101, Try.ntmps101
  go_wp2_with fail
  all_goals
    go_ret
    refine ⟨?_, (Below.refl _ _).alloc (Nat.le_refl _) _⟩
    refine congrArg (fun z => Ending.returned (.bool z)) ?_
    rw [Bool.eq_iff_iff, hok.out]
    simp
    omega

/-- A list of pieces in memory. -/
def Ps (w : World) (a : Option Addr) (ps : List Pc) : Prop := Sl w a (ps.map Pc.row).flatten

theorem rows_one (ps : List Pc) : ∀ u ∈ (ps.map Pc.row).flatten, u.oneCell' = true := by
  intro u hu
  obtain ⟨r, hr, hu⟩ := List.mem_flatten.1 hu
  obtain ⟨p, _, rfl⟩ := List.mem_map.1 hr
  simp only [Pc.row, List.mem_cons, List.not_mem_nil, or_false] at hu
  rcases hu with rfl | rfl | rfl | rfl | rfl <;> rfl

theorem row_one (p : Pc) : ∀ u ∈ p.row, u.oneCell' = true := by
  have := rows_one [p]
  simpa using this

theorem Ps.below {w w' : World} {a : Option Addr} {ps : List Pc} (h : Ps w a ps) (hb : Below w.heap.size w w') : Ps w' a ps := Sl.below h hb

theorem Ps.get {w : World} {a : Option Addr} {ps : List Pc} (h : Ps w a ps) (j : Nat) (p : Pc) (hj : ps[j]? = some p) :
    ∃ b off, a = some ⟨b, off, none⟩ ∧ w.cell? ⟨b, off + j * 5, none⟩ = some (.int .i64 p.life) ∧ w.cell? ⟨b, off + j * 5 + 1, none⟩ = some (.int .i64 p.place) ∧
      w.cell? ⟨b, off + j * 5 + 2, none⟩ = some (.bool p.first) ∧ w.cell? ⟨b, off + j * 5 + 3, none⟩ = some (.bool p.last) ∧ w.cell? ⟨b, off + j * 5 + 4, none⟩ = some (.string p.body) := by
  obtain ⟨hl, rfl⟩ := List.getElem?_eq_some_iff.1 hj
  have hr : Rw w a 5 (ps.map Pc.row) := ⟨h, fun r hr => by obtain ⟨p, _, rfl⟩ := List.mem_map.1 hr; rfl⟩
  obtain ⟨b, off, rfl, hc⟩ := hr.get j (by simpa using hl) (by decide)
  simp only [List.getElem_map] at hc
  refine ⟨b, off, rfl, ?_, ?_, ?_, ?_, ?_⟩
  · exact hc 0 _ rfl
  · exact hc 1 _ rfl
  · exact hc 2 _ rfl
  · exact hc 3 _ rfl
  · exact hc 4 _ rfl

theorem elem_pc : Elem Try.prog 148 (.agg #[.int .i64 0, .int .i64 0, .bool false, .bool false, .string ⟨#[]⟩]) 5 40 := Elem.mk (by kernel_rfl) (by rfl) (by decide)
end Go.Proofs.Ytlhpibniecfofaa
end

section
/- The walks of sectors: low bytes, numbers, flags. -/
set_option linter.unusedSimpArgs false
set_option linter.unusedVariables false
namespace Go.Proofs.Ytlhpibniecfofaa
open Go.RowKit Go.Ofp
set_option linter.unusedVariables false
set_option maxRecDepth 100000
set_option maxHeartbeats 4000000

theorem le_snoc (n k : Nat) : le n (k + 1) = le n k ++ [UInt8.ofNat (n / 256 ^ k)] := by
  induction k generalizing n with
  | zero => simp [le]
  | succ k ih => rw [le, ih, le, Nat.div_div_eq_div_mul, Nat.pow_succ, Nat.mul_comm (256 ^ k)]; rfl

theorem set_mid (A L D : List UInt8) (x : UInt8) : (A ++ (L ++ D)).set (A.length + L.length) x = A ++ (L ++ D.set 0 x) := by
  rw [List.set_append_right _ _ (by omega), Nat.add_sub_cancel_left, List.set_append_right _ _ (by omega), Nat.sub_self]

/-- The bytes of a block, when the lowest j bytes of n were laid at a place. -/
def laidAt (bs : List UInt8) (off n j : Nat) : List UInt8 := bs.take off ++ (le n j ++ bs.drop (off + j))

theorem laidAt_length (bs : List UInt8) (off n j : Nat) (h : off + j ≤ bs.length) : (laidAt bs off n j).length = bs.length := by
  simp only [laidAt, List.length_append, List.length_take, le_length, List.length_drop]
  omega

theorem laidAt_set (bs : List UInt8) (off n j : Nat) (h : off + j < bs.length) : (laidAt bs off n j).set (off + j) (UInt8.ofNat (n / 256 ^ j)) = laidAt bs off n (j + 1) := by
  have h1 : (bs.take off).length = off := by rw [List.length_take]; omega
  have h2 := set_mid (bs.take off) (le n j) (bs.drop (off + j)) (UInt8.ofNat (n / 256 ^ j))
  rw [h1, le_length] at h2
  rw [laidAt, h2, laidAt, le_snoc]
  have h3 : bs.drop (off + j) = bs[off + j] :: bs.drop (off + j + 1) := List.drop_eq_getElem_cons h
  rw [h3]
  simp [Nat.add_assoc]

/-- The row of an array of bytes. -/
def bytesOf (bs : List UInt8) : Array Value := (bs.map vb).toArray

theorem bytesOf_set (bs : List UInt8) (i : Nat) (x : UInt8) : (bytesOf bs).setIfInBounds i (vb x) = bytesOf (bs.set i x) := by
  simp [bytesOf, List.map_set]

theorem bytesOf_get (bs : List UInt8) (i : Nat) (h : i < bs.length) : (bytesOf bs)[i]? = some (.int .u8 (bs[i].toNat : Int)) := by
  simp [bytesOf, h, vb]

theorem low_any (g off k cap n : Nat) (t : TypeId) (bs : List UInt8) (w : World) (hw : Whole w g t (bytesOf bs)) (hk : off + k ≤ bs.length) (hb : bs.length ≤ 1000) (hn : n < 9223372036854775808) :
    Calls Try.prog 102 #[.slice (some ⟨g, off, none⟩) k cap, .int .i64 n] w fun e w' => e = .returned (.tuple #[]) ∧ Whole w' g t (bytesOf (laidAt bs off n k)) ∧ w.grownBy w' (some g) := by
  replace hw := Lib.hid hw
  go_enter Try.func102, Try.ntmps102
  go_wp2_with fail
  go_loopg [1, 7] k (fun gk vn vi wr => ∃ j : Nat, j + gk = k ∧ vi = .int .i64 j ∧ vn = .int .i64 ((n / 256 ^ j : Nat) : Int) ∧ Whole wr g t (bytesOf (laidAt bs off n j)) ∧ w.grownBy wr (some g))
  case atStart => exact ⟨0, by omega, rfl, by simp, by simpa [laidAt, le] using hw.out, grown_refl _ _⟩
  case round =>
    obtain ⟨j, hjk, rfl, rfl, hwr, hg⟩ := hrel
    by_cases hj : j < k
    · have hlen := laidAt_length bs off n j (by omega)
      have c0 := hwr.cell (off + j)
      rw [bytesOf_get _ _ (by omega)] at c0
      have f0 := hwr.frozen (off + j)
      have hmn : n / 256 ^ j < 9223372036854775808 := Nat.lt_of_le_of_lt (Nat.div_le_self _ _) hn
      have hset := laidAt_set bs off n j (by omega)
      have hvb := vb_ofNat (n / 256 ^ j)
      have hdd : n / 256 ^ j / 256 = n / 256 ^ (j + 1) := by rw [Nat.div_div_eq_div_mul, Nat.pow_succ]
      generalize n / 256 ^ j = m at hmn hset hvb hdd ⊢
      replace hwr := Lib.hid hwr
      replace hset := Lib.hid hset
      replace hvb := Lib.hid hvb
      replace hdd := Lib.hid hdd
      go_wp2_with fail
      go_roundg (k - (j + 1))
      case measure => omega
      case rel =>
        refine ⟨j + 1, by omega, rfl, ?_, ?_, grown_trans hg (grown_set _ _ _ _)⟩
        · rw [← hdd.out]
          exact congrArg (Value.int .i64) (by omega)
        · have h2 := hwr.out.set (off + j) (vb (UInt8.ofNat m))
          rw [bytesOf_set, hset.out, hvb.out] at h2
          exact h2
    · have e : j = k := by omega
      subst e
      go_wp2_with fail
      exact bodyPost_end (results_none rfl _ _ _) rfl ⟨rfl, hwr, hg⟩

theorem numLE_snoc (l : List UInt8) (b : UInt8) : numLE (l ++ [b]) = numLE l + 256 ^ l.length * b.toNat := by
  induction l with
  | nil => simp [numLE]
  | cons c l ih =>
    simp only [List.cons_append, numLE, ih, List.length_cons, Nat.pow_succ, Nat.mul_add]
    rw [Nat.mul_comm (256 ^ l.length) 256, Nat.mul_assoc]
    omega

theorem numLE_take (l : List UInt8) (j : Nat) (h : j < l.length) : numLE (l.take (j + 1)) = numLE (l.take j) + 256 ^ j * l[j].toNat := by
  rw [List.take_add_one, List.getElem?_eq_getElem h, Option.toList_some, numLE_snoc, List.length_take, Nat.min_eq_left (by omega)]

/-- One byte more of a number, as the walk spells it. -/
theorem or_byte (v c j : Nat) (hv : v < 256 ^ j) (hj : j ≤ 6) (hc : c < 256) : bits .or .i64 (v : Int) (((c * 2 ^ (8 * j) : Nat)) : Int) = ((v + 256 ^ j * c : Nat) : Int) := by
  have e : (256 : Nat) ^ j = 2 ^ (8 * j) := by rw [Nat.pow_mul]
  rw [e] at hv ⊢
  have hp : 2 ^ (8 * j) ≤ 2 ^ 48 := Nat.pow_le_pow_right (by decide) (by omega)
  have hx : c * 2 ^ (8 * j) ≤ 256 * 2 ^ 48 := Nat.mul_le_mul (by omega) hp
  rw [i64_or_nat _ _ (by omega) (by omega), Nat.or_comm, nat_join (8 * j) _ _ (Nat.mul_mod_left _ _) hv, Nat.mul_comm, Nat.add_comm]

theorem number_step (v c j : Nat) (hv : v < 256 ^ j) (hj : j ≤ 6) (hc : c < 256) : bits .or .i64 (v : Int) (wrap64 (wrap64 (c : Int) * 2 ^ (8 * j))) = ((v + 256 ^ j * c : Nat) : Int) := by
  have hp : 2 ^ (8 * j) ≤ 2 ^ 48 := Nat.pow_le_pow_right (by decide) (by omega)
  have hx : c * 2 ^ (8 * j) ≤ 256 * 2 ^ 48 := Nat.mul_le_mul (by omega) hp
  rw [← IntWalk.i64_left, ← IntWalk.i64_left, wrap_i64_nat _ (by omega), show (c : Int) * 2 ^ (8 * j) = ((c * 2 ^ (8 * j) : Nat) : Int) by simp, wrap_i64_nat _ (by omega)]
  exact or_byte v c j hv hj hc

theorem number_any (s : ByteArray) (w : World) (hs : s.size ≤ 7) : Calls Try.prog 111 #[.string s] w fun e w' => e = .returned (.int .i64 (numLE s.data.toList)) ∧ w = w' := by
  go_enter Try.func111, Try.ntmps111
  go_wp2_with fail
  go_loopg [3, 7] s.size (fun gk vn vi wr => ∃ j : Nat, j + gk = s.size ∧ vi = .int .i64 j ∧ vn = .int .i64 (numLE (s.data.toList.take j)) ∧ w = wr)
  case atStart => exact ⟨0, by omega, rfl, rfl, rfl⟩
  case round =>
    obtain ⟨j, hjk, rfl, rfl, rfl⟩ := hrel
    by_cases hj : j < s.size
    · have hlt := numLE_lt (s.data.toList.take j)
      rw [List.length_take, ← ba_size, Nat.min_eq_left (by omega)] at hlt
      have hj' : j < s.data.toList.length := by rw [← ba_size]; exact hj
      have hnx := numLE_take s.data.toList j hj'
      generalize numLE (s.data.toList.take j) = v at hlt hnx ⊢
      have hor := number_step v (s.data.toList[j].toNat) j hlt (by omega) (by have := s.data.toList[j].toNat_lt; omega)
      replace hor := Lib.hid hor
      replace hnx := Lib.hid hnx
      replace hlt := Lib.hid hlt
      go_wp2_with fail
      go_roundg (s.size - (j + 1))
      case measure => omega
      case rel =>
        refine ⟨j + 1, by omega, rfl, ?_, rfl⟩
        rw [hnx.out]
        exact congrArg (Value.int .i64) hor.out
    · have e : j = s.size := by omega
      subst e
      have hfull : s.data.toList.take s.size = s.data.toList := List.take_of_length_le (by rw [ba_size]; omega)
      rw [hfull]
      go_wp2_with fail
      go_ret
      exact ⟨rfl, rfl⟩

theorem flags_any (a : Option Addr) (cap : Nat) (x y : Bool) (w : World) (h : Sl w a [.bool x, .bool y]) : Calls Try.prog 103 #[.slice a 2 cap] w fun e w' => e = .returned (.int .i64 ((if x then 64 else 0) + (if y then 128 else 0))) ∧ w = w' := by
  obtain ⟨b, off, rfl⟩ := h.cells (by simp)
  have c0 := h.add 0 (.bool x) rfl
  have c1 := h.add 1 (.bool y) rfl
  rw [Addr.add_lit] at c0 c1
  simp only [Nat.add_zero] at c0
  clear h
  go_enter Try.func103, Try.ntmps103
  go_wp2_with fail
  go_loopg [3, 8] 2 (fun gk vn vi wr => w = wr ∧ ((gk = 2 ∧ vi = .int .i64 0 ∧ vn = .int .i64 0) ∨ (gk = 1 ∧ vi = .int .i64 1 ∧ vn = .int .i64 (if x then 64 else 0)) ∨ (gk = 0 ∧ vi = .int .i64 2 ∧ vn = .int .i64 ((if x then 64 else 0) + (if y then 128 else 0)))))
  case atStart => exact ⟨rfl, .inl ⟨rfl, rfl, rfl⟩⟩
  case round =>
    obtain ⟨rfl, ⟨rfl, rfl, rfl⟩ | ⟨rfl, rfl, rfl⟩ | ⟨rfl, rfl, rfl⟩⟩ := hrel
    · cases x
      · go_wp2_with fail
        go_roundg 1
        case measure => omega
        case rel => exact ⟨rfl, .inr (.inl ⟨rfl, rfl, rfl⟩)⟩
      · go_wp2_with fail
        go_roundg 1
        case measure => omega
        case rel => exact ⟨rfl, .inr (.inl ⟨rfl, rfl, rfl⟩)⟩
    · cases x <;> cases y
      · go_wp2_with fail
        go_roundg 0
        case measure => omega
        case rel => exact ⟨rfl, .inr (.inr ⟨rfl, rfl, rfl⟩)⟩
      · go_wp2_with fail
        go_roundg 0
        case measure => omega
        case rel => exact ⟨rfl, .inr (.inr ⟨rfl, rfl, rfl⟩)⟩
      · go_wp2_with fail
        go_roundg 0
        case measure => omega
        case rel => exact ⟨rfl, .inr (.inr ⟨rfl, rfl, rfl⟩)⟩
      · go_wp2_with fail
        go_roundg 0
        case measure => omega
        case rel => exact ⟨rfl, .inr (.inr ⟨rfl, rfl, rfl⟩)⟩
    · go_wp2_with fail
      all_goals
        go_ret
        first
          | exact ⟨rfl, rfl⟩
          | simp_all

end Go.Proofs.Ytlhpibniecfofaa
end

section
/- The walks of package sum and of its reference: what each function computes. -/
set_option linter.unusedSimpArgs false
set_option linter.unusedVariables false
namespace Go.Proofs.Ytlhpibniecfofaa
open Go.RowKit Go.Ofp

theorem bits_xor_bv (a b : B32) : bits .xor .u32 (a.toNat : Int) (b.toNat : Int) = ((a ^^^ b).toNat : Int) := by
  rw [u32_xor_nat _ _ a.isLt b.isLt, BitVec.toNat_xor]

theorem half_int (s : B32) : bits .xor .u32 ((s.toNat : Int) / 2) (bits .and .u32 2197175160 (-bits .and .u32 (s.toNat : Int) 1 % 4294967296)) = ((half s).toNat : Int) := by
  have e1 : bits .and .u32 (s.toNat : Int) 1 = ((s.toNat % 2 : Nat) : Int) := by
    have := u32_and_nat s.toNat 1 s.isLt (by decide)
    rw [show ((1 : Nat) : Int) = 1 from rfl] at this
    rw [this, nat_mask1]
  have e2 : (s.toNat : Int) / (2 : Int) = ((s >>> 1).toNat : Int) := by simp [Nat.shiftRight_eq_div_pow]
  rw [e1, e2]
  have hb : s.getLsbD 0 = decide (s.toNat % 2 = 1) := by simp [BitVec.getLsbD, Nat.testBit_zero]
  unfold half
  rw [hb, ← bits_xor_bv]
  congr 1
  rcases Nat.mod_two_eq_zero_or_one s.toNat with h | h <;> rw [h] <;> decide

theorem half_any (s : B32) (w : World) :
    Calls Try.prog 110 #[.int .u32 s.toNat] w fun e w' => e = .returned (.int .u32 (half s).toNat) ∧ w = w' := by
  have h1 := s.isLt
  have e := Lib.hid (half_int s)
  go_enter Try.func110, Try.ntmps110
  go_wp2
  go_ret
  rw [← e.out]
  exact ⟨rfl, rfl⟩

theorem step_byte (s : B32) (b : UInt8) : bits .xor .u32 (s.toNat : Int) (b.toNat : Int) = ((s ^^^ bv b).toNat : Int) := by
  have h := b.toNat_lt
  have e : b.toNat = (bv b).toNat := by simp only [bv, BitVec.toNat_ofNat]; omega
  rw [e, bits_xor_bv]

theorem not_int (x : B32) : bits .xor .u32 IntKind.u32.max (x.toNat : Int) = ((~~~ x).toNat : Int) := by
  rw [show IntKind.u32.max = ((ones.toNat : Nat) : Int) from by decide, bits_xor_bv, ones, BitVec.not_zero, BitVec.allOnes_xor]

theorem take_snoc {α : Type} (l : List α) (k : Nat) (h : k < l.length) : l.take (k + 1) = l.take k ++ [l[k]] := by
  rw [List.take_succ_eq_append_getElem h]

theorem ret_val {a b : Value} (h : a = b) : Ending.returned a = .returned b := by rw [h]

set_option maxHeartbeats 400000 in
theorem of_any (a : Option Addr) (l : List UInt8) (cap : Nat) (w : World) (h : Sl w a (l.map vb)) (hl : l.length ≤ maxLen) :
    Calls Try.prog 104 #[.slice a l.length cap] w fun e w' => e = .returned (.int .u32 (crc l).toNat) ∧ w = w' := by
  unfold maxLen at hl
  have H := Lib.hid h
  clear h
  go_enter Try.func104, Try.ntmps104
  go_wp2
  go_loop [3, 8] (fun s i => ∃ k : Nat, k ≤ l.length ∧ i = .int .i64 k ∧ s = .int .u32 (reg ones (l.take k)).toNat) (fun _ i => l.length - (intOf i).toNat)
  case atStart => exact ⟨0, Nat.zero_le _, rfl, rfl⟩
  case round =>
    obtain ⟨k, hk, rfl, rfl⟩ := hrel
    by_cases hlt : k < l.length
    · obtain ⟨b, off, rfl, hc⟩ := H.out.get k hlt
      have hb := l[k].toNat_lt
      have hx := step_byte (reg ones (l.take k)) l[k]
      go_wp2_with fail
      go_loop [3, 16] (fun s i => ∃ j : Nat, j ≤ 8 ∧ i = .int .i64 j ∧ s = .int .u32 (steps j (reg ones (l.take k) ^^^ bv l[k])).toNat) (fun _ i => 8 - (intOf i).toNat)
      case atStart => exact ⟨0, by omega, rfl, by rw [steps, BitVec.toNat_xor]⟩
      case round =>
        obtain ⟨j, hj, rfl, rfl⟩ := hrel
        clear hx
        by_cases hj8 : j < 8
        · go_wp2_with (go_at_call 110; refine (half_any _ _).mono ?_; rintro e w' ⟨rfl, rfl⟩)
          go_round
          case rel => exact ⟨j + 1, by omega, by go_num, by rw [← steps_succ']⟩
          case measure => simp [intOf]; omega
        · go_wp2_with fail
          go_round
          case rel => exact ⟨k + 1, by omega, by go_num, by rw [take_snoc l k hlt, reg_snoc, show j = 8 by omega]; rfl⟩
          case measure => simp [intOf]; omega
    · go_wp2
      go_ret
      refine ⟨ret_val ?_, rfl⟩
      rw [List.take_of_length_le (by omega)]
      show Value.int .u32 (bits .xor .u32 IntKind.u32.max ((reg ones l).toNat : Int)) = _
      rw [not_int]
      rfl

/-- What Join makes of two sums. -/
def joined (a b : B32) (n : Int) : B32 := if n < 0 ∨ n > 1048576 then 0#32 else steps (8 * n.toNat) a ^^^ b

theorem le4_cells (x : B32) : (le4 x).map vb = [.int .u8 ((x.toNat : Int) % 256), .int .u8 ((x.toNat : Int) / 256 % 256), .int .u8 ((x.toNat : Int) / 65536 % 256), .int .u8 ((x.toNat : Int) / 16777216)] := by
  have := x.isLt
  simp only [le4, List.map_cons, List.map_nil, vb_ofNat, List.cons.injEq, Value.int.injEq, true_and, and_true]
  omega

theorem elem_u8 : Elem Try.prog 5 (.int .u8 0) 1 1 := Elem.mk (by kernel_rfl) (by rfl) (by decide)

theorem u8_wrap (x : B32) : (x.toNat : Int) / 16777216 % 256 = (x.toNat : Int) / 16777216 := by have := x.isLt; omega

set_option maxRecDepth 10000 in
set_option maxHeartbeats 400000 in
theorem seal_any (a : Option Addr) (l : List UInt8) (cap : Nat) (w : World) (h : Sl w a (l.map vb)) (hl : l.length ≤ 100000) :
    Calls Try.prog 98 #[.slice a l.length cap] w fun e w' => ∃ v, e = .returned v ∧ w'.ownsRow w.heap.size 5 1 v (l.length + 4) ((sealed l).map vb) ∧ Below w.heap.size w w' := by
  have H := Lib.hid h
  clear h
  have hw := Lib.hid (u8_wrap (crc l))
  have hb := (crc l).isLt
  go_enter Try.func98, Try.ntmps98
  go_wp2_with (first
    | (go_at_call 104; refine (of_any _ _ _ _ H.out (by unfold maxLen; omega)).mono ?_; rintro e w' ⟨rfl, rfl⟩)
    | (at_make; refine wpList_mk rfl rfl Try.underlying127 elem_u8 rfl rfl (l.length + 4) (by simp) (by omega) (by unfold maxLen; omega) ?_; intro w1 ho1 hg1)
    | (at_builtin; refine wpList_app (s := .tmp 10) (x := .tmp 11) rfl rfl Try.underlying127 elem_u8 ho1 rfl (Src.slice Try.underlying127 (H.out.below (below_grown hg1)) (by simp)) rfl (vb_one _) (by omega) (by unfold maxLen; omega) (hg1 none).size ?_; intro v2 w2 ho2 hB2 hg2 hv2)
    | (at_builtin; refine wpList_app (s := .tmp 13) (x := .tmp 25) rfl rfl Try.underlying127 elem_u8 (ho2.alloc _) rfl (Src.slice Try.underlying127 (Sl.new _ _ _ _) (by simp)) rfl (by simp [Value.oneCell']) (by omega) (by unfold maxLen; omega) (by have := (hg1 none).size; have := hB2.size; simp; omega) ?_; intro v3 w3 ho3 hB3 hg3 hv3))
  go_ret
  have hle := le4_cells (crc l)
  refine ⟨_, rfl, ?_, ?_⟩
  · simp only [sealed, List.map_append, hle]
    simpa [hw.out] using ho3
  · exact (((below_grown hg1).trans hB2).alloc (Nat.le_trans (hg1 none).size hB2.size) _).trans hB3

/-- What opening bytes gives. -/
def opened (l : List UInt8) : Option (List UInt8) :=
  if l.length < 4 then none else if sealed (l.take (l.length - 4)) = l then some (l.take (l.length - 4)) else none

theorem of_at (a : Option Addr) (l : List UInt8) (cap : Nat) (w : World) (n : Nat) (hn : n = l.length) (h : Sl w a (l.map vb)) (hl : n ≤ maxLen) :
    Calls Try.prog 104 #[.slice a n cap] w fun e w' => e = .returned (.int .u32 (crc l).toNat) ∧ w = w' := by
  subst hn
  exact of_any a l cap w h hl

end Go.Proofs.Ytlhpibniecfofaa
end

section
/- The walks of sectors: the reference's low bytes; sectors put. -/
set_option linter.unusedSimpArgs false
set_option linter.unusedVariables false
namespace Go.Proofs.Ytlhpibniecfofaa
open Go.RowKit Go.Ofp
set_option linter.unusedVariables false
set_option maxRecDepth 100000
set_option maxHeartbeats 4000000

section
variable {P : Program} {w : World} {ops : Array Oper} {rest : List Oper} {o : Oper} {a : Act} {Q : Exit → Act → World → Prop}

theorem run_alloc_row (w : World) (t : TypeId) {z : Value} (hz : (P.info? t).map (fun i => i.zero) = some (some z)) :
    (Instr.alloc t true (.tuple #[])).run P w = .ok (.pointer (some ⟨w.heap.size, 0, none⟩)) (w.alloc (.cells z.cells t)) := by
  obtain ⟨i, hi, hz'⟩ := Option.map_eq_some_iff.1 hz
  simp [Instr.alloc, zeroValue, typeInfo, hi, hz', go_sem]

/-- The walk's law: a new variable, whose cells are not opened. -/
theorem wpList_alloc_row (hg : o.guard = none) {t : TypeId} (ho : o.op = .alloc t) {z : Value} (hz : (P.info? t).map (fun i => i.zero) = some (some z))
    (h : ∀ w', Whole w' w.heap.size t z.cells → Below w.heap.size w w' → w'.heap.size = w.heap.size + 1 → wpList P ops Q rest (a.put o.dst (.pointer (some ⟨w.heap.size, 0, none⟩))) w') : wpList P ops Q (o :: rest) a w := by
  refine wpList_plain hg fun K hK => ?_
  have hr := run_alloc_row (P := P) w t hz
  unfold Oper.wp execOp
  simp only [ho, Sem.run_bind, hr, Result.andThen_ok, Sem.run_pure]
  exact hK _ _ (h _ (Whole.new _ _ _) ((Below.refl _ _).alloc (Nat.le_refl _) _) (by simp))

/-- A text copied into a place of a row that is known whole. -/
theorem run_copy_str (w : World) (t tx ty e : TypeId) (ht : P.underlying t = some (.slice e)) {z : Value} {bytes : Nat} (he : Elem P e z 1 bytes) (htx : P.underlying tx = some .string)
    {g off n c : Nat} {T : TypeId} {cs : Array Value} (hw : Whole w g T cs) (s : ByteArray) (hs : s.size ≤ n) (hfit : off + s.size ≤ cs.size) :
    ∃ w', (Builtin.copy_ #[t, tx] ty #[.slice (some ⟨g, off, none⟩) n c, .string s]).run P w = .ok (.int .i64 s.size) w' ∧ Whole w' g T (cs.toList.take off ++ s.data.toList.map vb ++ cs.toList.drop (off + s.size)).toArray ∧ w.grownBy w' (some g) := by
  obtain ⟨i, hi, hz, h1, rfl, hzs, hpos⟩ := he
  have hx := Src.string (P := P) w htx s
  have hcells := hx.cells w (fun _ => rfl)
  have hl : (s.data.toList.map vb).length = s.size := by simp
  have hst := run_storeCells_at P g off T (s.data.toList.map vb) 0 cs w hw (by rw [hl]; omega) (vb_one _)
  simp only [Nat.add_zero, hl] at hst
  have hm : s.size.min n = s.size := Nat.min_eq_left hs
  simp only [List.append_assoc] at hst
  refine ⟨w.setRow g (cs.toList.take off ++ s.data.toList.map vb ++ cs.toList.drop (off + s.size)).toArray, ?_, setRow_heap w g cs _ T _ hw, ⟨rfl, rfl, rfl, by simp, fun k _ hk => setRow_other w g k _ (fun e => hk (by simp [e]))⟩⟩
  simp [Builtin.copy_, run_underlying ht, sizeOf, typeInfo, hi, h1, hx.len, hcells, hst, goInt, hm]
end

end Go.Proofs.Ytlhpibniecfofaa
end
