/- Roots: Put, in the program and in the reference. -/
import Derived.Test.YtlhpibniecfofaaRoot2
import Derived.Test.YtlhpibniecfofaaSt6
set_option linter.unusedSimpArgs false
set_option linter.unusedVariables false
namespace Go.Proofs.Ytlhpibniecfofaa
open Go.RowKit Go.Ofp
set_option linter.unusedVariables false
set_option maxRecDepth 100000
set_option maxHeartbeats 4000000

theorem tput_any (x : Rt) (w : World) : Calls Try.prog 32 #[.agg #[.int .i64 x.seq, .int .i64 x.life, .int .i64 x.head]] w fun e w' => e = .returned (.string (str x.putB)) ∧ Below w.heap.size w w' := by
  have hS := St.start w
  have cK := fun W => tcheck_any x W
  have cO := fun W => of_root x W
  have hsl := x.secB_length
  unfold Rt.putB
  have es := elem_sector
  generalize hz : ((zeros 64).map vb).toArray = z64 at es
  have hall : ((z64.toList.take 0 ++ x.secB.map vb ++ z64.toList.drop (0 + 64)).toArray : Array Value) = (x.secB.map vb).toArray := by
    rw [← hz]
    simp [zeros]
  have hsz64 : z64.size = 64 := by rw [← hz]; simp [zeros]
  generalize x.secB = SB at *
  have hone' : (SB.map vb).all Value.oneCell' = true := List.all_eq_true.2 (vb_one SB)
  have hsl2 : (SB.map vb).length = 64 := by rw [List.length_map, hsl]
  have hble : Nat.ble (0 + 64) z64.size = true := by rw [hsz64]; rfl
  obtain ⟨b, hb⟩ : ∃ b, x.ok = b := ⟨_, rfl⟩
  rw [hb] at cK ⊢
  clear hz hsz64 hb
  replace cK := Lib.hid cK
  replace cO := Lib.hid cO
  replace hall := Lib.hid hall
  replace hone' := Lib.hid hone'
  replace hsl := Lib.hid hsl
  replace hsl2 := Lib.hid hsl2
  replace hble := Lib.hid hble
  cases b with
  | false =>
    simp only [Bool.false_eq_true, if_false]
    go_enter Try.func32, Try.ntmps32
    go_wp2_with (first
      | (with_reducible refine wpList_box_st hS rfl rfl rfl ?_; intro g1 w1 hS1; clear hS; replace hS := hS1; clear hS1) | (with_reducible refine wpList_box1_st hS rfl rfl rfl ?_; intro g1 w1 hS1; clear hS; replace hS := hS1; clear hS1) | (with_reducible refine wpList_alloc_st hS rfl rfl (by assumption) ?_; intro g1 w1 hS1; clear hS; replace hS := hS1; clear hS1) | (with_reducible refine wpList_alloc1_st hS rfl rfl (by assumption) rfl ?_; intro g1 w1 hS1; clear hS; replace hS := hS1; clear hS1) | ((with_reducible refine wpList_load_st 0 hS rfl rfl rfl rfl ?_ rfl ?_); focus (simp [scalarB, go_sem]; done)) | ((with_reducible refine wpList_loadall_st 0 hS rfl rfl rfl rfl ?_ (by kernel_rfl) ?_); focus (simp [rowB, go_sem]; done)) | ((with_reducible refine wpList_store_st 0 hS rfl rfl rfl rfl (by kernel_rfl) rfl rfl ?_); intro w1 hS1; clear hS; replace hS := hS1; clear hS1; try simp only [List.set_cons_zero, List.set_cons_succ, List.setIfInBounds_toArray, List.take_succ_cons, List.take_zero, List.drop_succ_cons, List.drop_zero, List.nil_append, List.cons_append, List.append_nil, List.drop_nil, List.take_nil, List.length_cons, List.length_nil, Nat.zero_add, Nat.add_zero, Nat.reduceAdd] at hS) | ((with_reducible refine wpList_storerow_st 0 hS rfl rfl rfl rfl (by kernel_rfl) rfl rfl rfl rfl ?_); intro w1 hS1; clear hS; replace hS := hS1; clear hS1; try simp only [List.set_cons_zero, List.set_cons_succ, List.setIfInBounds_toArray, List.take_succ_cons, List.take_zero, List.drop_succ_cons, List.drop_zero, List.nil_append, List.cons_append, List.append_nil, List.drop_nil, List.take_nil, List.length_cons, List.length_nil, Nat.zero_add, Nat.add_zero, Nat.reduceAdd] at hS)
      | (go_at_call 29; (with_reducible refine (cK.out _).mono ?_); rintro _ w3 ⟨rfl, hb3⟩; have hS1 := hS.keepB hb3; clear hb3 hS; have hS := hS1; clear hS1))
    go_ret
    exact ⟨rfl, hS.below⟩
  | true =>
    simp only [if_true]
    go_enter Try.func32, Try.ntmps32
    go_wp2_with (first
      | (go_at_call 29; (with_reducible refine (cK.out _).mono ?_); rintro _ w3 ⟨rfl, hb3⟩; have hS1 := hS.keepB hb3; clear hb3 hS; have hS := hS1; clear hS1)
      | (go_at_call 76; (with_reducible refine (cO.out _).mono ?_); rintro _ w4 ⟨rfl, hb4⟩; have hS1 := hS.keepB hb4; clear hb4 hS; have hS := hS1; clear hS1)
      | ((with_reducible refine wpList_storerow_st 0 (vs := SB.map vb) (n := 64) hS rfl rfl rfl rfl (by kernel_rfl) rfl hsl2.out hone'.out hble.out ?_); intro w10 hS1; clear hS; simp only [List.set_cons_succ, List.set_cons_zero] at hS1; rw [hall.out] at hS1; have hS := hS1; clear hS1)
      | (with_reducible refine wpList_bts (l := SB) rfl rfl Try.underlying127 Try.underlying5 Try.underlying9 rfl (hS.blksl2 0 rfl) hsl.out.symm ?_)
      | (with_reducible refine wpList_box_st hS rfl rfl rfl ?_; intro g1 w1 hS1; clear hS; replace hS := hS1; clear hS1) | (with_reducible refine wpList_box1_st hS rfl rfl rfl ?_; intro g1 w1 hS1; clear hS; replace hS := hS1; clear hS1) | (with_reducible refine wpList_alloc_st hS rfl rfl (by assumption) ?_; intro g1 w1 hS1; clear hS; replace hS := hS1; clear hS1) | (with_reducible refine wpList_alloc1_st hS rfl rfl (by assumption) rfl ?_; intro g1 w1 hS1; clear hS; replace hS := hS1; clear hS1) | ((with_reducible refine wpList_load_st 0 hS rfl rfl rfl rfl ?_ rfl ?_); focus (simp [scalarB, go_sem]; done)) | ((with_reducible refine wpList_loadall_st 0 hS rfl rfl rfl rfl ?_ (by kernel_rfl) ?_); focus (simp [rowB, go_sem]; done)) | ((with_reducible refine wpList_store_st 0 hS rfl rfl rfl rfl (by kernel_rfl) rfl rfl ?_); intro w1 hS1; clear hS; replace hS := hS1; clear hS1; try simp only [List.set_cons_zero, List.set_cons_succ, List.setIfInBounds_toArray, List.take_succ_cons, List.take_zero, List.drop_succ_cons, List.drop_zero, List.nil_append, List.cons_append, List.append_nil, List.drop_nil, List.take_nil, List.length_cons, List.length_nil, Nat.zero_add, Nat.add_zero, Nat.reduceAdd] at hS) | ((with_reducible refine wpList_storerow_st 0 hS rfl rfl rfl rfl (by kernel_rfl) rfl rfl rfl rfl ?_); intro w1 hS1; clear hS; replace hS := hS1; clear hS1; try simp only [List.set_cons_zero, List.set_cons_succ, List.setIfInBounds_toArray, List.take_succ_cons, List.take_zero, List.drop_succ_cons, List.drop_zero, List.nil_append, List.cons_append, List.append_nil, List.drop_nil, List.take_nil, List.length_cons, List.length_nil, Nat.zero_add, Nat.add_zero, Nat.reduceAdd] at hS))
    go_ret
    exact ⟨rfl, hS.below⟩

theorem rtput_any (x : Rt) (w : World) : Calls Try.prog 33 #[.agg #[.int .i64 x.seq, .int .i64 x.life, .int .i64 x.head]] w fun e w' => e = .returned (.string (str x.putB)) ∧ Below w.heap.size w w' := by
  have hS := St.start w
  have cK := fun W => rtcheck_any x W
  unfold Rt.putB
  obtain ⟨b, hb⟩ : ∃ b, x.ok = b := ⟨_, rfl⟩
  have hq := (Rt.ok_iff x).1
  rw [hb] at cK hq ⊢
  clear hb
  replace cK := Lib.hid cK
  cases b with
  | false =>
    simp only [Bool.false_eq_true, if_false]
    go_enter Try.func33, Try.ntmps33
    go_wp2_with (first
      | (with_reducible refine wpList_box_st hS rfl rfl rfl ?_; intro g1 w1 hS1; clear hS; replace hS := hS1; clear hS1) | (with_reducible refine wpList_box1_st hS rfl rfl rfl ?_; intro g1 w1 hS1; clear hS; replace hS := hS1; clear hS1) | (with_reducible refine wpList_alloc_st hS rfl rfl (by assumption) ?_; intro g1 w1 hS1; clear hS; replace hS := hS1; clear hS1) | (with_reducible refine wpList_alloc1_st hS rfl rfl (by assumption) rfl ?_; intro g1 w1 hS1; clear hS; replace hS := hS1; clear hS1) | ((with_reducible refine wpList_load_st 0 hS rfl rfl rfl rfl ?_ rfl ?_); focus (simp [scalarB, go_sem]; done)) | ((with_reducible refine wpList_loadall_st 0 hS rfl rfl rfl rfl ?_ (by kernel_rfl) ?_); focus (simp [rowB, go_sem]; done)) | ((with_reducible refine wpList_store_st 0 hS rfl rfl rfl rfl (by kernel_rfl) rfl rfl ?_); intro w1 hS1; clear hS; replace hS := hS1; clear hS1; try simp only [List.set_cons_zero, List.set_cons_succ, List.setIfInBounds_toArray, List.take_succ_cons, List.take_zero, List.drop_succ_cons, List.drop_zero, List.nil_append, List.cons_append, List.append_nil, List.drop_nil, List.take_nil, List.length_cons, List.length_nil, Nat.zero_add, Nat.add_zero, Nat.reduceAdd] at hS) | ((with_reducible refine wpList_storerow_st 0 hS rfl rfl rfl rfl (by kernel_rfl) rfl rfl rfl rfl ?_); intro w1 hS1; clear hS; replace hS := hS1; clear hS1; try simp only [List.set_cons_zero, List.set_cons_succ, List.setIfInBounds_toArray, List.take_succ_cons, List.take_zero, List.drop_succ_cons, List.drop_zero, List.nil_append, List.cons_append, List.append_nil, List.drop_nil, List.take_nil, List.length_cons, List.length_nil, Nat.zero_add, Nat.add_zero, Nat.reduceAdd] at hS)
      | (go_at_call 31; (with_reducible refine (cK.out _).mono ?_); rintro _ w3 ⟨rfl, hb3⟩; have hS1 := hS.keepB hb3; clear hb3 hS; have hS := hS1; clear hS1))
    go_ret
    exact ⟨rfl, hS.below⟩
  | true =>
    simp only [if_true]
    obtain ⟨q1, q2, q3, q4, q5, q6⟩ := hq rfl
    have n1 := fun W => rnum_any x.seq W (by omega)
    have n2 := fun W => rnum_any x.life W (by omega)
    have n3 := fun W => rnum_any x.head W (by omega)
    clear hq q1 q2 q3 q4 q5 q6
    have hfl := x.front_length
    have hfr : (⟨#[114, 111, 111, 116]⟩ : ByteArray) ++ str (numB (clampN x.seq)) ++ str (numB (clampN x.life)) ++ str (numB (clampN x.head)) = str x.front := by
      apply ba_ext
      simp [Rt.front, str]
    have hbody : str x.front ++ str (zeros (60 - x.front.length)) = str x.body := by
      apply ba_ext
      simp [Rt.body, str, zeros]
    have hsec : sealed (str x.body).data.toList = x.secB := by rw [str_data]; rfl
    have hbl : (str x.body).size = 60 := by rw [str_size, x.body_length]
    have hfsz : (str x.front).size = x.front.length := str_size _
    have cS := fun W => rseal_any (str x.body) W (by omega)
    rw [hsec] at cS
    generalize x.front = F at *
    generalize str x.body = B at *
    generalize x.secB = SB at *
    have z1 : (str (numB (clampN x.seq))).size ≤ 6 := by rw [str_size]; exact numB_six _ (clampN_le _)
    have z2 : (str (numB (clampN x.life))).size ≤ 6 := by rw [str_size]; exact numB_six _ (clampN_le _)
    have z3 : (str (numB (clampN x.head))).size ≤ 6 := by rw [str_size]; exact numB_six _ (clampN_le _)
    generalize str (numB (clampN x.seq)) = s1 at *
    generalize str (numB (clampN x.life)) = s2 at *
    generalize str (numB (clampN x.head)) = s3 at *
    have eb : Elem Try.prog 5 (.int .u8 0) 1 1 := elem_u8
    have hmz : (madeCells (Value.int .u8 0).cells ((60 - F.length) * 1)).toList = (zeros (60 - F.length)).map vb := by
      have := made_rows [Value.int .u8 0] (60 - F.length) (by decide)
      refine this.trans ?_
      simp [zeros, vb]
    have hi : (60 : Int) - (F.length : Int) = ((60 - F.length : Nat) : Int) := by omega
    have hzl : (zeros (60 - F.length)).length = 60 - F.length := by simp [zeros]
    obtain ⟨k, hk⟩ : ∃ k, 60 - F.length = k := ⟨_, rfl⟩
    rw [hk] at hmz hi hbody hzl
    have hk60 : k ≤ 60 := by omega
    generalize zeros k = Z at *
    clear hsec hk
    replace n1 := Lib.hid n1
    replace n2 := Lib.hid n2
    replace n3 := Lib.hid n3
    replace cS := Lib.hid cS
    replace hfr := Lib.hid hfr
    replace hbody := Lib.hid hbody
    replace hmz := Lib.hid hmz
    replace hzl := Lib.hid hzl
    have e1 : ¬ 9223372036854775807 < 4 + s1.size := by omega
    have e2 : ¬ 9223372036854775807 < 4 + s1.size + s2.size := by omega
    have e3 : ¬ 9223372036854775807 < 4 + s1.size + s2.size + s3.size := by omega
    clear z1 z2 z3
    have hfsz2 : Hid ((str F).size = F.length) := Lib.hid hfsz
    clear hfsz hbl
    go_enter Try.func33, Try.ntmps33
    go_wp2_with (first
      | (with_reducible refine wpList_box_st hS rfl rfl rfl ?_; intro g1 w1 hS1; clear hS; replace hS := hS1; clear hS1) | (with_reducible refine wpList_box1_st hS rfl rfl rfl ?_; intro g1 w1 hS1; clear hS; replace hS := hS1; clear hS1) | (with_reducible refine wpList_alloc_st hS rfl rfl (by assumption) ?_; intro g1 w1 hS1; clear hS; replace hS := hS1; clear hS1) | (with_reducible refine wpList_alloc1_st hS rfl rfl (by assumption) rfl ?_; intro g1 w1 hS1; clear hS; replace hS := hS1; clear hS1) | ((with_reducible refine wpList_load_st 0 hS rfl rfl rfl rfl ?_ rfl ?_); focus (simp [scalarB, go_sem]; done)) | ((with_reducible refine wpList_loadall_st 0 hS rfl rfl rfl rfl ?_ (by kernel_rfl) ?_); focus (simp [rowB, go_sem]; done)) | ((with_reducible refine wpList_store_st 0 hS rfl rfl rfl rfl (by kernel_rfl) rfl rfl ?_); intro w1 hS1; clear hS; replace hS := hS1; clear hS1; try simp only [List.set_cons_zero, List.set_cons_succ, List.setIfInBounds_toArray, List.take_succ_cons, List.take_zero, List.drop_succ_cons, List.drop_zero, List.nil_append, List.cons_append, List.append_nil, List.drop_nil, List.take_nil, List.length_cons, List.length_nil, Nat.zero_add, Nat.add_zero, Nat.reduceAdd] at hS) | ((with_reducible refine wpList_storerow_st 0 hS rfl rfl rfl rfl (by kernel_rfl) rfl rfl rfl rfl ?_); intro w1 hS1; clear hS; replace hS := hS1; clear hS1; try simp only [List.set_cons_zero, List.set_cons_succ, List.setIfInBounds_toArray, List.take_succ_cons, List.take_zero, List.drop_succ_cons, List.drop_zero, List.nil_append, List.cons_append, List.append_nil, List.drop_nil, List.take_nil, List.length_cons, List.length_nil, Nat.zero_add, Nat.add_zero, Nat.reduceAdd] at hS)
      | (go_at_call 31; (with_reducible refine (cK.out _).mono ?_); rintro _ w3 ⟨rfl, hb3⟩; have hS1 := hS.keepB hb3; clear hb3 hS; have hS := hS1; clear hS1))
    refine mixs_beginC 0 (by kernel_rfl) hS rfl ?_
    clear hS
    intro w2 hS hC
    have kC := hC.kblk 0 rfl
    refine mixs_take 0 (v := ?_) rfl (by kernel_rfl) (fun _ _ _ h => h) (by kernel_rfl) (by assumption) (fun s => ?hy) ?_; case hy => (go_simp <;> with_reducible rfl)
    try simp only [List.getElem_toArray, List.getElem_cons_succ, List.getElem_cons_zero, Act.put, List.setIfInBounds_toArray, List.set_cons_zero, List.set_cons_succ]
    refine mixs_take 1 (v := ?_) rfl (by kernel_rfl) (fun _ _ _ h => h) (by kernel_rfl) (by assumption) (fun s => ?hy) ?_; case hy => (go_simp <;> with_reducible rfl)
    try simp only [List.getElem_toArray, List.getElem_cons_succ, List.getElem_cons_zero, Act.put, List.setIfInBounds_toArray, List.set_cons_zero, List.set_cons_succ]
    refine mixs_take 4 (v := ?_) rfl (by kernel_rfl) (fun _ _ _ h => h) (by kernel_rfl) (by assumption) (fun s => ?hy) ?_; case hy => (go_simp <;> with_reducible rfl)
    try simp only [List.getElem_toArray, List.getElem_cons_succ, List.getElem_cons_zero, Act.put, List.setIfInBounds_toArray, List.set_cons_zero, List.set_cons_succ]
    refine mixs_take 5 (v := ?_) rfl (by kernel_rfl) (fun _ _ _ h => h) (by kernel_rfl) (by assumption) (fun s => ?hy) ?_; case hy => (go_simp <;> with_reducible rfl)
    try simp only [List.getElem_toArray, List.getElem_cons_succ, List.getElem_cons_zero, Act.put, List.setIfInBounds_toArray, List.set_cons_zero, List.set_cons_succ]
    refine mixs_take 8 (v := ?_) rfl (by kernel_rfl) (fun _ _ _ h => h) (by kernel_rfl) (by assumption) (fun s => ?hy) ?_; case hy => (go_simp <;> with_reducible rfl)
    try simp only [List.getElem_toArray, List.getElem_cons_succ, List.getElem_cons_zero, Act.put, List.setIfInBounds_toArray, List.set_cons_zero, List.set_cons_succ]
    refine mixs_take 9 (v := ?_) rfl (by kernel_rfl) (fun _ _ _ h => h) (by kernel_rfl) (by assumption) (fun s => ?hy) ?_; case hy => (go_simp <;> with_reducible rfl)
    try simp only [List.getElem_toArray, List.getElem_cons_succ, List.getElem_cons_zero, Act.put, List.setIfInBounds_toArray, List.set_cons_zero, List.set_cons_succ]
    refine mixs_one 2 (by kernel_rfl) rfl (fun K hK => ?_)
    go_simp
    ( first | (go_at_call 78; (first | (with_reducible refine (n1.out _).mono ?_) | (with_reducible refine (n2.out _).mono ?_) | (with_reducible refine (n3.out _).mono ?_)); rintro _ w5 ⟨rfl, hb5⟩; have hS1 := hS.keepB hb5; clear hb5 hS; have hS := hS1; clear hS1) )
    try clear hC
    refine hK.out _ _ _ (fun _ h => h) (by first | exact hS | exact hS.drop | exact hS.drop.drop | exact hS.drop.drop.drop | exact hS.drop.drop.drop.drop | exact hS.empty | exact hS.one 0 rfl | exact hS.one 1 rfl | exact hS.one 2 rfl | exact hS.one 3 rfl | exact hS.one 4 rfl | exact hS.one 5 rfl | exact hS.one 6 rfl | exact hS.one 7 rfl | exact hS.one 8 rfl | exact hS.one 9 rfl | exact hS.one 10 rfl | exact hS.one 11 rfl) (fun hC => ?_)
    clear hK K
    try simp only [List.getElem_toArray, List.getElem_cons_succ, List.getElem_cons_zero, Act.put, List.setIfInBounds_toArray, List.set_cons_zero, List.set_cons_succ]
    refine mixs_take 3 (v := ?_) rfl (by kernel_rfl) (fun _ _ _ h => h) (by kernel_rfl) (by assumption) (fun s => ?hy) ?_; case hy => (go_simp <;> with_reducible rfl)
    try simp only [List.getElem_toArray, List.getElem_cons_succ, List.getElem_cons_zero, Act.put, List.setIfInBounds_toArray, List.set_cons_zero, List.set_cons_succ]
    refine mixs_one 6 (by kernel_rfl) rfl (fun K hK => ?_)
    go_simp
    ( first | (go_at_call 78; (first | (with_reducible refine (n1.out _).mono ?_) | (with_reducible refine (n2.out _).mono ?_) | (with_reducible refine (n3.out _).mono ?_)); rintro _ w5 ⟨rfl, hb5⟩; have hS1 := hS.keepB hb5; clear hb5 hS; have hS := hS1; clear hS1) )
    try clear hC
    refine hK.out _ _ _ (fun _ h => h) (by first | exact hS | exact hS.drop | exact hS.drop.drop | exact hS.drop.drop.drop | exact hS.drop.drop.drop.drop | exact hS.empty | exact hS.one 0 rfl | exact hS.one 1 rfl | exact hS.one 2 rfl | exact hS.one 3 rfl | exact hS.one 4 rfl | exact hS.one 5 rfl | exact hS.one 6 rfl | exact hS.one 7 rfl | exact hS.one 8 rfl | exact hS.one 9 rfl | exact hS.one 10 rfl | exact hS.one 11 rfl) (fun hC => ?_)
    clear hK K
    try simp only [List.getElem_toArray, List.getElem_cons_succ, List.getElem_cons_zero, Act.put, List.setIfInBounds_toArray, List.set_cons_zero, List.set_cons_succ]
    refine mixs_take 7 (v := ?_) rfl (by kernel_rfl) (fun _ _ _ h => h) (by kernel_rfl) (by assumption) (fun s => ?hy) ?_; case hy => (go_simp <;> with_reducible rfl)
    try simp only [List.getElem_toArray, List.getElem_cons_succ, List.getElem_cons_zero, Act.put, List.setIfInBounds_toArray, List.set_cons_zero, List.set_cons_succ]
    refine mixs_one 10 (by kernel_rfl) rfl (fun K hK => ?_)
    go_simp
    ( first | (go_at_call 78; (first | (with_reducible refine (n1.out _).mono ?_) | (with_reducible refine (n2.out _).mono ?_) | (with_reducible refine (n3.out _).mono ?_)); rintro _ w5 ⟨rfl, hb5⟩; have hS1 := hS.keepB hb5; clear hb5 hS; have hS := hS1; clear hS1) )
    try clear hC
    refine hK.out _ _ _ (fun _ h => h) (by first | exact hS | exact hS.drop | exact hS.drop.drop | exact hS.drop.drop.drop | exact hS.drop.drop.drop.drop | exact hS.empty | exact hS.one 0 rfl | exact hS.one 1 rfl | exact hS.one 2 rfl | exact hS.one 3 rfl | exact hS.one 4 rfl | exact hS.one 5 rfl | exact hS.one 6 rfl | exact hS.one 7 rfl | exact hS.one 8 rfl | exact hS.one 9 rfl | exact hS.one 10 rfl | exact hS.one 11 rfl) (fun hC => ?_)
    clear hK K
    try simp only [List.getElem_toArray, List.getElem_cons_succ, List.getElem_cons_zero, Act.put, List.setIfInBounds_toArray, List.set_cons_zero, List.set_cons_succ]
    refine mixs_take 11 (v := ?_) rfl (by kernel_rfl) (fun _ _ _ h => h) (by kernel_rfl) (by assumption) (fun s => ?hy) ?_; case hy => (go_simp <;> with_reducible rfl)
    try simp only [List.getElem_toArray, List.getElem_cons_succ, List.getElem_cons_zero, Act.put, List.setIfInBounds_toArray, List.set_cons_zero, List.set_cons_succ]
    refine mixs_take 12 (v := ?_) rfl (by kernel_rfl) (fun _ _ _ h => h) (by kernel_rfl) (by assumption) (fun s => ?hy) ?_; case hy => (go_simp <;> with_reducible rfl)
    try simp only [List.getElem_toArray, List.getElem_cons_succ, List.getElem_cons_zero, Act.put, List.setIfInBounds_toArray, List.set_cons_zero, List.set_cons_succ]
    refine wpAnyH_done (by kernel_rfl) ?_ _
    try clear hC
    try clear kC
    have hfe : (str F).size = F.length := hfsz2.out
    have hze : (str Z).size = k := by rw [str_size, hzl.out]
    have e4 : ¬ 9223372036854775807 < F.length + k := by omega
    go_wp2_with (first
      | (rw [hfr.out])
      | (at_make; refine wpList_mkfull_st hS rfl rfl Try.underlying127 eb rfl rfl k (by first | rfl | exact hi) (by first | rfl | exact hi) (by omega) (by unfold maxLen; omega) ?_; intro g7 w7 hS1; clear hS; have hS := hS1; clear hS1)
      | (with_reducible refine wpList_bts (l := Z) rfl rfl Try.underlying127 Try.underlying5 Try.underlying9 rfl (hmz.out ▸ hS.rowsl 0 rfl) hzl.out.symm ?_)
      | (go_at_call 79; rw [hbody.out]; (with_reducible refine (cS.out _).mono ?_); rintro _ w8 ⟨rfl, hb8⟩; have hS1 := hS.keepB hb8; clear hb8 hS; have hS := hS1; clear hS1))
    go_ret
    exact ⟨rfl, hS.below⟩
end Go.Proofs.Ytlhpibniecfofaa
