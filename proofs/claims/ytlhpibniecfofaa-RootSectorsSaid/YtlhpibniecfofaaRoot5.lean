/- Roots: Get, in the reference. -/
import Derived.Test.YtlhpibniecfofaaRoot3
import Derived.Test.YtlhpibniecfofaaReads2
set_option linter.unusedSimpArgs false
set_option linter.unusedVariables false
namespace Go.Proofs.Ytlhpibniecfofaa
open Go.RowKit Go.Ofp
set_option linter.unusedVariables false
set_option maxRecDepth 100000
set_option maxHeartbeats 4000000

theorem rdNum_length (r : List UInt8) (e m : Int) : (rdNum r e m).2.1.length ≤ r.length := by
  unfold rdNum
  split
  · exact Nat.le_refl _
  · simp
theorem rrnum_blk (g : Nat) (r : List UInt8) (e most : Int) (w : World) (hw : Whole w g 134 #[.string (str r), .int .i64 e]) (hl : r.length ≤ 1000000) :
    Calls Try.prog 77 #[.pointer (some ⟨g, 0, none⟩), .int .i64 most] w fun x w' =>
      x = .returned (.int .i64 (rdNum r e most).1) ∧ Whole w' g 134 #[.string (str (rdNum r e most).2.1), .int .i64 (rdNum r e most).2.2] ∧ w.grownBy w' (some g) :=
  (rr_num g r e most w ⟨hw, hl⟩).mono fun _ _ h => ⟨h.1, h.2.1.1, h.2.2⟩
theorem elem_rroot : Elem Try.prog 49 (.agg #[.int .i64 0, .int .i64 0, .int .i64 0]) 3 24 := Elem.mk (by kernel_rfl) (by rfl) (by decide)
theorem build_rroot (a : Int) (w : World) : (Instr.build 49 #[(0, .int .i64 a)]).run Try.prog w = .ok (.agg #[.int .i64 a, .int .i64 0, .int .i64 0]) w := by kernel_rfl
theorem build_rrd (a : ByteArray) (w : World) : (Instr.build 134 #[(0, .string a)]).run Try.prog w = .ok (.agg #[.string a, .int .i64 0]) w := by kernel_rfl

theorem rtget_no (s : ByteArray) (w : World) (hs : s.size ≤ maxLen) (h : ¬ (s.data.toList.length = 64 ∧ s.data.toList.take 4 = [114, 111, 111, 116])) :
    Calls Try.prog 28 #[.string s] w fun e w' => e = .returned (.tuple #[.agg #[.int .i64 0, .int .i64 0, .int .i64 0], .bool false]) ∧ Below w.heap.size w w' := by
  have hS := St.start w
  have ez := elem_rroot
  unfold maxLen at hs
  rw [← ba_size] at h
  by_cases h64 : s.size = 64
  · have hp : ¬ (s.extract 0 4).data.toList = [114, 111, 111, 116] := by
      intro e
      refine h ⟨h64, ?_⟩
      rw [← e, extract_list]
      simp
    clear h
    have hi : ((s.size : Int) != 64) = false := by simp [h64]
    have hpb : ((s.extract 0 4).toList == [114, 111, 111, 116]) = false := by rw [beq_eq_false_iff_ne, ByteArray.toList_eq]; exact hp
    clear hp
    go_enter Try.func28, Try.ntmps28
    go_wp2_with (first | (with_reducible refine wpList_box_st hS rfl rfl rfl ?_; intro g1 w1 hS1; clear hS; replace hS := hS1; clear hS1) | (with_reducible refine wpList_box1_st hS rfl rfl rfl ?_; intro g1 w1 hS1; clear hS; replace hS := hS1; clear hS1) | (with_reducible refine wpList_alloc_st hS rfl rfl (by assumption) ?_; intro g1 w1 hS1; clear hS; replace hS := hS1; clear hS1) | (with_reducible refine wpList_alloc1_st hS rfl rfl (by assumption) rfl ?_; intro g1 w1 hS1; clear hS; replace hS := hS1; clear hS1) | ((with_reducible refine wpList_load_st 0 hS rfl rfl rfl rfl ?_ rfl ?_); focus (simp [scalarB, go_sem]; done)) | ((with_reducible refine wpList_loadall_st 0 hS rfl rfl rfl rfl ?_ (by kernel_rfl) ?_); focus (simp [rowB, go_sem]; done)) | ((with_reducible refine wpList_store_st 0 hS rfl rfl rfl rfl (by kernel_rfl) rfl rfl ?_); intro w1 hS1; clear hS; replace hS := hS1; clear hS1; try simp only [List.set_cons_zero, List.set_cons_succ, List.setIfInBounds_toArray, List.take_succ_cons, List.take_zero, List.drop_succ_cons, List.drop_zero, List.nil_append, List.cons_append, List.append_nil, List.drop_nil, List.take_nil, List.length_cons, List.length_nil, Nat.zero_add, Nat.add_zero, Nat.reduceAdd] at hS) | ((with_reducible refine wpList_storerow_st 0 hS rfl rfl rfl rfl (by kernel_rfl) rfl rfl rfl rfl ?_); intro w1 hS1; clear hS; replace hS := hS1; clear hS1; try simp only [List.set_cons_zero, List.set_cons_succ, List.setIfInBounds_toArray, List.take_succ_cons, List.take_zero, List.drop_succ_cons, List.drop_zero, List.nil_append, List.cons_append, List.append_nil, List.drop_nil, List.take_nil, List.length_cons, List.length_nil, Nat.zero_add, Nat.add_zero, Nat.reduceAdd] at hS))
    have c := hS.cell 0 rfl
    exact bodyPost_ret (by simp [results, Try.results28, go_sem, c]) rfl ⟨rfl, hS.below⟩
  · clear h
    have hi : ((s.size : Int) != 64) = true := by simp; omega
    go_enter Try.func28, Try.ntmps28
    go_wp2_with (first | (with_reducible refine wpList_box_st hS rfl rfl rfl ?_; intro g1 w1 hS1; clear hS; replace hS := hS1; clear hS1) | (with_reducible refine wpList_box1_st hS rfl rfl rfl ?_; intro g1 w1 hS1; clear hS; replace hS := hS1; clear hS1) | (with_reducible refine wpList_alloc_st hS rfl rfl (by assumption) ?_; intro g1 w1 hS1; clear hS; replace hS := hS1; clear hS1) | (with_reducible refine wpList_alloc1_st hS rfl rfl (by assumption) rfl ?_; intro g1 w1 hS1; clear hS; replace hS := hS1; clear hS1) | ((with_reducible refine wpList_load_st 0 hS rfl rfl rfl rfl ?_ rfl ?_); focus (simp [scalarB, go_sem]; done)) | ((with_reducible refine wpList_loadall_st 0 hS rfl rfl rfl rfl ?_ (by kernel_rfl) ?_); focus (simp [rowB, go_sem]; done)) | ((with_reducible refine wpList_store_st 0 hS rfl rfl rfl rfl (by kernel_rfl) rfl rfl ?_); intro w1 hS1; clear hS; replace hS := hS1; clear hS1; try simp only [List.set_cons_zero, List.set_cons_succ, List.setIfInBounds_toArray, List.take_succ_cons, List.take_zero, List.drop_succ_cons, List.drop_zero, List.nil_append, List.cons_append, List.append_nil, List.drop_nil, List.take_nil, List.length_cons, List.length_nil, Nat.zero_add, Nat.add_zero, Nat.reduceAdd] at hS) | ((with_reducible refine wpList_storerow_st 0 hS rfl rfl rfl rfl (by kernel_rfl) rfl rfl rfl rfl ?_); intro w1 hS1; clear hS; replace hS := hS1; clear hS1; try simp only [List.set_cons_zero, List.set_cons_succ, List.setIfInBounds_toArray, List.take_succ_cons, List.take_zero, List.drop_succ_cons, List.drop_zero, List.nil_append, List.cons_append, List.append_nil, List.drop_nil, List.take_nil, List.length_cons, List.length_nil, Nat.zero_add, Nat.add_zero, Nat.reduceAdd] at hS))
    have c := hS.cell 0 rfl
    exact bodyPost_ret (by simp [results, Try.results28, go_sem, c]) rfl ⟨rfl, hS.below⟩

theorem rtget_yes (s : ByteArray) (w : World) (h64 : s.size = 64) (hp : s.data.toList.take 4 = [114, 111, 111, 116]) :
    Calls Try.prog 28 #[.string s] w fun e w' => e = .returned (.tuple #[.agg #[.int .i64 (Rt.getB s.data.toList).1.seq, .int .i64 (Rt.getB s.data.toList).1.life, .int .i64 (Rt.getB s.data.toList).1.head], .bool (Rt.getB s.data.toList).2]) ∧ Below w.heap.size w w' := by
  have hS := St.start w
  have ez := elem_rroot
  have hpb : ((s.extract 0 4).toList == [114, 111, 111, 116]) = true := by rw [beq_iff_eq, ByteArray.toList_eq, extract_list]; simpa using hp
  have hi : ((s.size : Int) != 64) = false := by simp [h64]
  have hex : s.extract 4 64 = str (s.data.toList.drop 4) := by
    apply ba_ext
    rw [extract_list, str_data]
    exact List.take_of_length_le (by rw [List.length_drop, ← ba_size]; omega)
  have hLl : s.data.toList.length = 64 := by rw [← ba_size]; exact h64
  obtain ⟨a1, r1, e1, h1⟩ : ∃ a r e, rdNum (s.data.toList.drop 4) 0 4294967295 = (a, r, e) := ⟨_, _, _, rfl⟩
  obtain ⟨a2, r2, e2, h2⟩ : ∃ a r e, rdNum r1 e1 4294967295 = (a, r, e) := ⟨_, _, _, rfl⟩
  obtain ⟨a3, r3, e3, h3⟩ : ∃ a r e, rdNum r2 e2 1099511627775 = (a, r, e) := ⟨_, _, _, rfl⟩
  have hrd : Rt.read s.data.toList = (⟨a1, a2, a3⟩, e3) := by simp only [Rt.read, h1, h2, h3]
  have hg : Rt.getB s.data.toList = if e3 = 0 ∧ (⟨a1, a2, a3⟩ : Rt).putB = s.data.toList then (⟨a1, a2, a3⟩, true) else (Rt.none, false) := by
    rw [Rt.getB, Rt.isB, hrd]
    unfold Rt.putB
    cases hok : (⟨a1, a2, a3⟩ : Rt).ok with
    | true => simp [hLl, hp]
    | false =>
      have : ¬ (([] : List UInt8) = s.data.toList) := by intro e; rw [← e] at hLl; simp at hLl
      simp only [Bool.false_eq_true, if_false, false_and, and_false, decide_false]
      rw [if_neg]
      exact fun h => this h.2
  have l0 : (s.data.toList.drop 4).length ≤ 1000000 := by rw [List.length_drop]; omega
  have l1 : r1.length ≤ 1000000 := by have := rdNum_length (s.data.toList.drop 4) 0 4294967295; rw [h1] at this; simp only at this; omega
  have l2 : r2.length ≤ 1000000 := by have := rdNum_length r1 e1 4294967295; rw [h2] at this; simp only at this; omega
  have c1 := fun g W h => rrnum_blk g (s.data.toList.drop 4) 0 4294967295 W h l0
  have c2 := fun g W h => rrnum_blk g r1 e1 4294967295 W h l1
  have c3 := fun g W h => rrnum_blk g r2 e2 1099511627775 W h l2
  rw [h1] at c1
  rw [h2] at c2
  rw [h3] at c3
  simp only at c1 c2 c3
  have cP := fun W => rtput_any ⟨a1, a2, a3⟩ W
  simp only at cP
  have hPs : ((⟨a1, a2, a3⟩ : Rt).putB = s.data.toList) ↔ ((str (⟨a1, a2, a3⟩ : Rt).putB).toList == s.toList) = true := by
    rw [beq_iff_eq, str_toList, ByteArray.toList_eq]
  generalize (⟨a1, a2, a3⟩ : Rt).putB = PB at *
  generalize str PB = PS at *
  generalize s.data.toList.drop 4 = D4 at *
  generalize hLL : s.data.toList = LL at *
  replace hex := Lib.hid hex
  clear h1 h2 h3 hrd hp hLl l0 l1 l2
  replace c1 := Lib.hid c1
  replace c2 := Lib.hid c2
  replace c3 := Lib.hid c3
  replace cP := Lib.hid cP
  replace hLL := Lib.hid hLL
  have hzz : ∀ (W : World) (a : Int), (Instr.build 49 #[(0, .int .i64 a)]).run Try.prog W = .ok (.agg #[.int .i64 a, .int .i64 0, .int .i64 0]) W := fun W a => build_rroot a W
  have hzr : ∀ (W : World) (a : ByteArray), (Instr.build 134 #[(0, .string a)]).run Try.prog W = .ok (.agg #[.string a, .int .i64 0]) W := fun W a => build_rrd a W
  have hmain : ∀ (b : Bool), (PS.toList == s.toList) = b → Hid (Rt.getB LL = if e3 = 0 ∧ b = true then (⟨a1, a2, a3⟩, true) else (Rt.none, false)) := fun b hb => Lib.hid (by rw [hg, ← hb]; simp only [hPs])
  clear hg hPs
  obtain ⟨b, hb⟩ : ∃ b, (PS.toList == s.toList) = b := ⟨_, rfl⟩
  have hg := hmain b hb
  clear hmain
  by_cases he : e3 = 0
  · subst he
    cases b with
    | true =>
      have hg2 : Rt.getB LL = (⟨a1, a2, a3⟩, true) := by rw [hg.out, if_pos ⟨rfl, rfl⟩]
      clear hg
      replace hg2 := Lib.hid hg2
      go_enter Try.func28, Try.ntmps28
      go_wp2_with (first
        | (go_at_call 77; (with_reducible refine (c1.out _ _ (hS.get 0 rfl)).mono ?_); rintro _ w6 ⟨rfl, hR6, hg6⟩; have hS1 := hS.upd (d := Ch.blk _ _ _) 0 rfl (Fr.of_grown hg6) (by simp [Ch.blk]) hR6 (by simp [Ch.blk]); clear hS hR6 hg6; simp only [List.set_cons_zero, List.set_cons_succ] at hS1; have hS := hS1; clear hS1)
        | (go_at_call 77; (with_reducible refine (c2.out _ _ (hS.get 1 rfl)).mono ?_); rintro _ w6 ⟨rfl, hR6, hg6⟩; have hS1 := hS.upd (d := Ch.blk _ _ _) 1 rfl (Fr.of_grown hg6) (by simp [Ch.blk]) hR6 (by simp [Ch.blk]); clear hS hR6 hg6; simp only [List.set_cons_zero, List.set_cons_succ] at hS1; have hS := hS1; clear hS1)
        | (go_at_call 77; (with_reducible refine (c3.out _ _ (hS.get 1 rfl)).mono ?_); rintro _ w6 ⟨rfl, hR6, hg6⟩; have hS1 := hS.upd (d := Ch.blk _ _ _) 1 rfl (Fr.of_grown hg6) (by simp [Ch.blk]) hR6 (by simp [Ch.blk]); clear hS hR6 hg6; simp only [List.set_cons_zero, List.set_cons_succ] at hS1; have hS := hS1; clear hS1)
        | (go_at_call 33; (with_reducible refine (cP.out _).mono ?_); rintro _ w7 ⟨rfl, hb7⟩; have hS1 := hS.keepB hb7; clear hb7 hS; have hS := hS1; clear hS1)
        | ((with_reducible refine wpList_box_st hS rfl rfl rfl ?_); intro g1 w1 hS1; clear hS; rw [hex.out] at hS1; have hS := hS1; clear hS1)
        | ((with_reducible refine wpList_store_st 0 hS rfl rfl rfl rfl (by kernel_rfl) rfl rfl ?_); intro w1 hS1; clear hS; have hS := hS1; clear hS1; try simp only [List.set_cons_zero, List.set_cons_succ, List.setIfInBounds_toArray, List.take_succ_cons, List.take_zero, List.drop_succ_cons, List.drop_zero, List.nil_append, List.cons_append, List.append_nil, List.drop_nil, List.take_nil, List.length_cons, List.length_nil, Nat.zero_add, Nat.add_zero, Nat.reduceAdd] at hS; have hcl := hS.cell 0 rfl)
        | (with_reducible refine wpList_box_st hS rfl rfl rfl ?_; intro g1 w1 hS1; clear hS; replace hS := hS1; clear hS1) | (with_reducible refine wpList_box1_st hS rfl rfl rfl ?_; intro g1 w1 hS1; clear hS; replace hS := hS1; clear hS1) | (with_reducible refine wpList_alloc_st hS rfl rfl (by assumption) ?_; intro g1 w1 hS1; clear hS; replace hS := hS1; clear hS1) | (with_reducible refine wpList_alloc1_st hS rfl rfl (by assumption) rfl ?_; intro g1 w1 hS1; clear hS; replace hS := hS1; clear hS1) | ((with_reducible refine wpList_load_st 0 hS rfl rfl rfl rfl ?_ rfl ?_); focus (simp [scalarB, go_sem]; done)) | ((with_reducible refine wpList_loadall_st 0 hS rfl rfl rfl rfl ?_ (by kernel_rfl) ?_); focus (simp [rowB, go_sem]; done)) | ((with_reducible refine wpList_store_st 0 hS rfl rfl rfl rfl (by kernel_rfl) rfl rfl ?_); intro w1 hS1; clear hS; replace hS := hS1; clear hS1; try simp only [List.set_cons_zero, List.set_cons_succ, List.setIfInBounds_toArray, List.take_succ_cons, List.take_zero, List.drop_succ_cons, List.drop_zero, List.nil_append, List.cons_append, List.append_nil, List.drop_nil, List.take_nil, List.length_cons, List.length_nil, Nat.zero_add, Nat.add_zero, Nat.reduceAdd] at hS) | ((with_reducible refine wpList_storerow_st 0 hS rfl rfl rfl rfl (by kernel_rfl) rfl rfl rfl rfl ?_); intro w1 hS1; clear hS; replace hS := hS1; clear hS1; try simp only [List.set_cons_zero, List.set_cons_succ, List.setIfInBounds_toArray, List.take_succ_cons, List.take_zero, List.drop_succ_cons, List.drop_zero, List.nil_append, List.cons_append, List.append_nil, List.drop_nil, List.take_nil, List.length_cons, List.length_nil, Nat.zero_add, Nat.add_zero, Nat.reduceAdd] at hS) | ((with_reducible refine wpList_load_st 1 hS rfl rfl rfl rfl ?_ rfl ?_); focus (simp [scalarB, go_sem]; done)) | ((with_reducible refine wpList_loadall_st 1 hS rfl rfl rfl rfl ?_ (by kernel_rfl) ?_); focus (simp [rowB, go_sem]; done)) | ((with_reducible refine wpList_store_st 1 hS rfl rfl rfl rfl (by kernel_rfl) rfl rfl ?_); intro w1 hS1; clear hS; replace hS := hS1; clear hS1; try simp only [List.set_cons_zero, List.set_cons_succ, List.setIfInBounds_toArray, List.take_succ_cons, List.take_zero, List.drop_succ_cons, List.drop_zero, List.nil_append, List.cons_append, List.append_nil, List.drop_nil, List.take_nil, List.length_cons, List.length_nil, Nat.zero_add, Nat.add_zero, Nat.reduceAdd] at hS) | ((with_reducible refine wpList_storerow_st 1 hS rfl rfl rfl rfl (by kernel_rfl) rfl rfl rfl rfl ?_); intro w1 hS1; clear hS; replace hS := hS1; clear hS1; try simp only [List.set_cons_zero, List.set_cons_succ, List.setIfInBounds_toArray, List.take_succ_cons, List.take_zero, List.drop_succ_cons, List.drop_zero, List.nil_append, List.cons_append, List.append_nil, List.drop_nil, List.take_nil, List.length_cons, List.length_nil, Nat.zero_add, Nat.add_zero, Nat.reduceAdd] at hS) | ((with_reducible refine wpList_load_st 2 hS rfl rfl rfl rfl ?_ rfl ?_); focus (simp [scalarB, go_sem]; done)) | ((with_reducible refine wpList_loadall_st 2 hS rfl rfl rfl rfl ?_ (by kernel_rfl) ?_); focus (simp [rowB, go_sem]; done)) | ((with_reducible refine wpList_store_st 2 hS rfl rfl rfl rfl (by kernel_rfl) rfl rfl ?_); intro w1 hS1; clear hS; replace hS := hS1; clear hS1; try simp only [List.set_cons_zero, List.set_cons_succ, List.setIfInBounds_toArray, List.take_succ_cons, List.take_zero, List.drop_succ_cons, List.drop_zero, List.nil_append, List.cons_append, List.append_nil, List.drop_nil, List.take_nil, List.length_cons, List.length_nil, Nat.zero_add, Nat.add_zero, Nat.reduceAdd] at hS) | ((with_reducible refine wpList_storerow_st 2 hS rfl rfl rfl rfl (by kernel_rfl) rfl rfl rfl rfl ?_); intro w1 hS1; clear hS; replace hS := hS1; clear hS1; try simp only [List.set_cons_zero, List.set_cons_succ, List.setIfInBounds_toArray, List.take_succ_cons, List.take_zero, List.drop_succ_cons, List.drop_zero, List.nil_append, List.cons_append, List.append_nil, List.drop_nil, List.take_nil, List.length_cons, List.length_nil, Nat.zero_add, Nat.add_zero, Nat.reduceAdd] at hS))
      have c := hS.cell 2 rfl
      exact bodyPost_ret (v := .tuple #[.agg #[.int .i64 a1, .int .i64 a2, .int .i64 a3], .bool true]) (by simp [results, Try.results28, go_sem, c]) rfl ⟨by first | (rw [hg2.out]; done) | (rw [hg2.out]; rfl), hS.below⟩
    | false =>
      have hg2 : Rt.getB LL = (Rt.none, false) := by rw [hg.out, if_neg (by simp)]
      clear hg
      replace hg2 := Lib.hid hg2
      go_enter Try.func28, Try.ntmps28
      go_wp2_with (first
        | (go_at_call 77; (with_reducible refine (c1.out _ _ (hS.get 0 rfl)).mono ?_); rintro _ w6 ⟨rfl, hR6, hg6⟩; have hS1 := hS.upd (d := Ch.blk _ _ _) 0 rfl (Fr.of_grown hg6) (by simp [Ch.blk]) hR6 (by simp [Ch.blk]); clear hS hR6 hg6; simp only [List.set_cons_zero, List.set_cons_succ] at hS1; have hS := hS1; clear hS1)
        | (go_at_call 77; (with_reducible refine (c2.out _ _ (hS.get 1 rfl)).mono ?_); rintro _ w6 ⟨rfl, hR6, hg6⟩; have hS1 := hS.upd (d := Ch.blk _ _ _) 1 rfl (Fr.of_grown hg6) (by simp [Ch.blk]) hR6 (by simp [Ch.blk]); clear hS hR6 hg6; simp only [List.set_cons_zero, List.set_cons_succ] at hS1; have hS := hS1; clear hS1)
        | (go_at_call 77; (with_reducible refine (c3.out _ _ (hS.get 1 rfl)).mono ?_); rintro _ w6 ⟨rfl, hR6, hg6⟩; have hS1 := hS.upd (d := Ch.blk _ _ _) 1 rfl (Fr.of_grown hg6) (by simp [Ch.blk]) hR6 (by simp [Ch.blk]); clear hS hR6 hg6; simp only [List.set_cons_zero, List.set_cons_succ] at hS1; have hS := hS1; clear hS1)
        | (go_at_call 33; (with_reducible refine (cP.out _).mono ?_); rintro _ w7 ⟨rfl, hb7⟩; have hS1 := hS.keepB hb7; clear hb7 hS; have hS := hS1; clear hS1)
        | ((with_reducible refine wpList_box_st hS rfl rfl rfl ?_); intro g1 w1 hS1; clear hS; rw [hex.out] at hS1; have hS := hS1; clear hS1)
        | ((with_reducible refine wpList_store_st 0 hS rfl rfl rfl rfl (by kernel_rfl) rfl rfl ?_); intro w1 hS1; clear hS; have hS := hS1; clear hS1; try simp only [List.set_cons_zero, List.set_cons_succ, List.setIfInBounds_toArray, List.take_succ_cons, List.take_zero, List.drop_succ_cons, List.drop_zero, List.nil_append, List.cons_append, List.append_nil, List.drop_nil, List.take_nil, List.length_cons, List.length_nil, Nat.zero_add, Nat.add_zero, Nat.reduceAdd] at hS; have hcl := hS.cell 0 rfl)
        | (with_reducible refine wpList_box_st hS rfl rfl rfl ?_; intro g1 w1 hS1; clear hS; replace hS := hS1; clear hS1) | (with_reducible refine wpList_box1_st hS rfl rfl rfl ?_; intro g1 w1 hS1; clear hS; replace hS := hS1; clear hS1) | (with_reducible refine wpList_alloc_st hS rfl rfl (by assumption) ?_; intro g1 w1 hS1; clear hS; replace hS := hS1; clear hS1) | (with_reducible refine wpList_alloc1_st hS rfl rfl (by assumption) rfl ?_; intro g1 w1 hS1; clear hS; replace hS := hS1; clear hS1) | ((with_reducible refine wpList_load_st 0 hS rfl rfl rfl rfl ?_ rfl ?_); focus (simp [scalarB, go_sem]; done)) | ((with_reducible refine wpList_loadall_st 0 hS rfl rfl rfl rfl ?_ (by kernel_rfl) ?_); focus (simp [rowB, go_sem]; done)) | ((with_reducible refine wpList_store_st 0 hS rfl rfl rfl rfl (by kernel_rfl) rfl rfl ?_); intro w1 hS1; clear hS; replace hS := hS1; clear hS1; try simp only [List.set_cons_zero, List.set_cons_succ, List.setIfInBounds_toArray, List.take_succ_cons, List.take_zero, List.drop_succ_cons, List.drop_zero, List.nil_append, List.cons_append, List.append_nil, List.drop_nil, List.take_nil, List.length_cons, List.length_nil, Nat.zero_add, Nat.add_zero, Nat.reduceAdd] at hS) | ((with_reducible refine wpList_storerow_st 0 hS rfl rfl rfl rfl (by kernel_rfl) rfl rfl rfl rfl ?_); intro w1 hS1; clear hS; replace hS := hS1; clear hS1; try simp only [List.set_cons_zero, List.set_cons_succ, List.setIfInBounds_toArray, List.take_succ_cons, List.take_zero, List.drop_succ_cons, List.drop_zero, List.nil_append, List.cons_append, List.append_nil, List.drop_nil, List.take_nil, List.length_cons, List.length_nil, Nat.zero_add, Nat.add_zero, Nat.reduceAdd] at hS) | ((with_reducible refine wpList_load_st 1 hS rfl rfl rfl rfl ?_ rfl ?_); focus (simp [scalarB, go_sem]; done)) | ((with_reducible refine wpList_loadall_st 1 hS rfl rfl rfl rfl ?_ (by kernel_rfl) ?_); focus (simp [rowB, go_sem]; done)) | ((with_reducible refine wpList_store_st 1 hS rfl rfl rfl rfl (by kernel_rfl) rfl rfl ?_); intro w1 hS1; clear hS; replace hS := hS1; clear hS1; try simp only [List.set_cons_zero, List.set_cons_succ, List.setIfInBounds_toArray, List.take_succ_cons, List.take_zero, List.drop_succ_cons, List.drop_zero, List.nil_append, List.cons_append, List.append_nil, List.drop_nil, List.take_nil, List.length_cons, List.length_nil, Nat.zero_add, Nat.add_zero, Nat.reduceAdd] at hS) | ((with_reducible refine wpList_storerow_st 1 hS rfl rfl rfl rfl (by kernel_rfl) rfl rfl rfl rfl ?_); intro w1 hS1; clear hS; replace hS := hS1; clear hS1; try simp only [List.set_cons_zero, List.set_cons_succ, List.setIfInBounds_toArray, List.take_succ_cons, List.take_zero, List.drop_succ_cons, List.drop_zero, List.nil_append, List.cons_append, List.append_nil, List.drop_nil, List.take_nil, List.length_cons, List.length_nil, Nat.zero_add, Nat.add_zero, Nat.reduceAdd] at hS) | ((with_reducible refine wpList_load_st 2 hS rfl rfl rfl rfl ?_ rfl ?_); focus (simp [scalarB, go_sem]; done)) | ((with_reducible refine wpList_loadall_st 2 hS rfl rfl rfl rfl ?_ (by kernel_rfl) ?_); focus (simp [rowB, go_sem]; done)) | ((with_reducible refine wpList_store_st 2 hS rfl rfl rfl rfl (by kernel_rfl) rfl rfl ?_); intro w1 hS1; clear hS; replace hS := hS1; clear hS1; try simp only [List.set_cons_zero, List.set_cons_succ, List.setIfInBounds_toArray, List.take_succ_cons, List.take_zero, List.drop_succ_cons, List.drop_zero, List.nil_append, List.cons_append, List.append_nil, List.drop_nil, List.take_nil, List.length_cons, List.length_nil, Nat.zero_add, Nat.add_zero, Nat.reduceAdd] at hS) | ((with_reducible refine wpList_storerow_st 2 hS rfl rfl rfl rfl (by kernel_rfl) rfl rfl rfl rfl ?_); intro w1 hS1; clear hS; replace hS := hS1; clear hS1; try simp only [List.set_cons_zero, List.set_cons_succ, List.setIfInBounds_toArray, List.take_succ_cons, List.take_zero, List.drop_succ_cons, List.drop_zero, List.nil_append, List.cons_append, List.append_nil, List.drop_nil, List.take_nil, List.length_cons, List.length_nil, Nat.zero_add, Nat.add_zero, Nat.reduceAdd] at hS))
      have c := hS.cell 2 rfl
      exact bodyPost_ret (v := .tuple #[.agg #[.int .i64 0, .int .i64 0, .int .i64 0], .bool false]) (by simp [results, Try.results28, go_sem, c]) rfl ⟨by first | (rw [hg2.out]; done) | (rw [hg2.out]; rfl), hS.below⟩
  · have hg2 : Rt.getB LL = (Rt.none, false) := by rw [hg.out, if_neg (by simp [he])]
    have heb : (e3 != 0) = true := by simp [he]
    clear hg he
    replace hg2 := Lib.hid hg2
    go_enter Try.func28, Try.ntmps28
    go_wp2_with (first
      | (go_at_call 77; (with_reducible refine (c1.out _ _ (hS.get 0 rfl)).mono ?_); rintro _ w6 ⟨rfl, hR6, hg6⟩; have hS1 := hS.upd (d := Ch.blk _ _ _) 0 rfl (Fr.of_grown hg6) (by simp [Ch.blk]) hR6 (by simp [Ch.blk]); clear hS hR6 hg6; simp only [List.set_cons_zero, List.set_cons_succ] at hS1; have hS := hS1; clear hS1)
      | (go_at_call 77; (with_reducible refine (c2.out _ _ (hS.get 1 rfl)).mono ?_); rintro _ w6 ⟨rfl, hR6, hg6⟩; have hS1 := hS.upd (d := Ch.blk _ _ _) 1 rfl (Fr.of_grown hg6) (by simp [Ch.blk]) hR6 (by simp [Ch.blk]); clear hS hR6 hg6; simp only [List.set_cons_zero, List.set_cons_succ] at hS1; have hS := hS1; clear hS1)
      | (go_at_call 77; (with_reducible refine (c3.out _ _ (hS.get 1 rfl)).mono ?_); rintro _ w6 ⟨rfl, hR6, hg6⟩; have hS1 := hS.upd (d := Ch.blk _ _ _) 1 rfl (Fr.of_grown hg6) (by simp [Ch.blk]) hR6 (by simp [Ch.blk]); clear hS hR6 hg6; simp only [List.set_cons_zero, List.set_cons_succ] at hS1; have hS := hS1; clear hS1)
      | (go_at_call 33; (with_reducible refine (cP.out _).mono ?_); rintro _ w7 ⟨rfl, hb7⟩; have hS1 := hS.keepB hb7; clear hb7 hS; have hS := hS1; clear hS1)
      | ((with_reducible refine wpList_box_st hS rfl rfl rfl ?_); intro g1 w1 hS1; clear hS; rw [hex.out] at hS1; have hS := hS1; clear hS1)
      | ((with_reducible refine wpList_store_st 0 hS rfl rfl rfl rfl (by kernel_rfl) rfl rfl ?_); intro w1 hS1; clear hS; have hS := hS1; clear hS1; try simp only [List.set_cons_zero, List.set_cons_succ, List.setIfInBounds_toArray, List.take_succ_cons, List.take_zero, List.drop_succ_cons, List.drop_zero, List.nil_append, List.cons_append, List.append_nil, List.drop_nil, List.take_nil, List.length_cons, List.length_nil, Nat.zero_add, Nat.add_zero, Nat.reduceAdd] at hS; have hcl := hS.cell 0 rfl)
        | (with_reducible refine wpList_box_st hS rfl rfl rfl ?_; intro g1 w1 hS1; clear hS; replace hS := hS1; clear hS1) | (with_reducible refine wpList_box1_st hS rfl rfl rfl ?_; intro g1 w1 hS1; clear hS; replace hS := hS1; clear hS1) | (with_reducible refine wpList_alloc_st hS rfl rfl (by assumption) ?_; intro g1 w1 hS1; clear hS; replace hS := hS1; clear hS1) | (with_reducible refine wpList_alloc1_st hS rfl rfl (by assumption) rfl ?_; intro g1 w1 hS1; clear hS; replace hS := hS1; clear hS1) | ((with_reducible refine wpList_load_st 0 hS rfl rfl rfl rfl ?_ rfl ?_); focus (simp [scalarB, go_sem]; done)) | ((with_reducible refine wpList_loadall_st 0 hS rfl rfl rfl rfl ?_ (by kernel_rfl) ?_); focus (simp [rowB, go_sem]; done)) | ((with_reducible refine wpList_store_st 0 hS rfl rfl rfl rfl (by kernel_rfl) rfl rfl ?_); intro w1 hS1; clear hS; replace hS := hS1; clear hS1; try simp only [List.set_cons_zero, List.set_cons_succ, List.setIfInBounds_toArray, List.take_succ_cons, List.take_zero, List.drop_succ_cons, List.drop_zero, List.nil_append, List.cons_append, List.append_nil, List.drop_nil, List.take_nil, List.length_cons, List.length_nil, Nat.zero_add, Nat.add_zero, Nat.reduceAdd] at hS) | ((with_reducible refine wpList_storerow_st 0 hS rfl rfl rfl rfl (by kernel_rfl) rfl rfl rfl rfl ?_); intro w1 hS1; clear hS; replace hS := hS1; clear hS1; try simp only [List.set_cons_zero, List.set_cons_succ, List.setIfInBounds_toArray, List.take_succ_cons, List.take_zero, List.drop_succ_cons, List.drop_zero, List.nil_append, List.cons_append, List.append_nil, List.drop_nil, List.take_nil, List.length_cons, List.length_nil, Nat.zero_add, Nat.add_zero, Nat.reduceAdd] at hS) | ((with_reducible refine wpList_load_st 1 hS rfl rfl rfl rfl ?_ rfl ?_); focus (simp [scalarB, go_sem]; done)) | ((with_reducible refine wpList_loadall_st 1 hS rfl rfl rfl rfl ?_ (by kernel_rfl) ?_); focus (simp [rowB, go_sem]; done)) | ((with_reducible refine wpList_store_st 1 hS rfl rfl rfl rfl (by kernel_rfl) rfl rfl ?_); intro w1 hS1; clear hS; replace hS := hS1; clear hS1; try simp only [List.set_cons_zero, List.set_cons_succ, List.setIfInBounds_toArray, List.take_succ_cons, List.take_zero, List.drop_succ_cons, List.drop_zero, List.nil_append, List.cons_append, List.append_nil, List.drop_nil, List.take_nil, List.length_cons, List.length_nil, Nat.zero_add, Nat.add_zero, Nat.reduceAdd] at hS) | ((with_reducible refine wpList_storerow_st 1 hS rfl rfl rfl rfl (by kernel_rfl) rfl rfl rfl rfl ?_); intro w1 hS1; clear hS; replace hS := hS1; clear hS1; try simp only [List.set_cons_zero, List.set_cons_succ, List.setIfInBounds_toArray, List.take_succ_cons, List.take_zero, List.drop_succ_cons, List.drop_zero, List.nil_append, List.cons_append, List.append_nil, List.drop_nil, List.take_nil, List.length_cons, List.length_nil, Nat.zero_add, Nat.add_zero, Nat.reduceAdd] at hS) | ((with_reducible refine wpList_load_st 2 hS rfl rfl rfl rfl ?_ rfl ?_); focus (simp [scalarB, go_sem]; done)) | ((with_reducible refine wpList_loadall_st 2 hS rfl rfl rfl rfl ?_ (by kernel_rfl) ?_); focus (simp [rowB, go_sem]; done)) | ((with_reducible refine wpList_store_st 2 hS rfl rfl rfl rfl (by kernel_rfl) rfl rfl ?_); intro w1 hS1; clear hS; replace hS := hS1; clear hS1; try simp only [List.set_cons_zero, List.set_cons_succ, List.setIfInBounds_toArray, List.take_succ_cons, List.take_zero, List.drop_succ_cons, List.drop_zero, List.nil_append, List.cons_append, List.append_nil, List.drop_nil, List.take_nil, List.length_cons, List.length_nil, Nat.zero_add, Nat.add_zero, Nat.reduceAdd] at hS) | ((with_reducible refine wpList_storerow_st 2 hS rfl rfl rfl rfl (by kernel_rfl) rfl rfl rfl rfl ?_); intro w1 hS1; clear hS; replace hS := hS1; clear hS1; try simp only [List.set_cons_zero, List.set_cons_succ, List.setIfInBounds_toArray, List.take_succ_cons, List.take_zero, List.drop_succ_cons, List.drop_zero, List.nil_append, List.cons_append, List.append_nil, List.drop_nil, List.take_nil, List.length_cons, List.length_nil, Nat.zero_add, Nat.add_zero, Nat.reduceAdd] at hS))
    have c := hS.cell 2 rfl
    exact bodyPost_ret (v := .tuple #[.agg #[.int .i64 0, .int .i64 0, .int .i64 0], .bool false]) (by simp [results, Try.results28, go_sem, c]) rfl ⟨by first | (rw [hg2.out]; done) | (rw [hg2.out]; rfl), hS.below⟩

theorem rtget_any (s : ByteArray) (w : World) (hs : s.size ≤ maxLen) :
    Calls Try.prog 28 #[.string s] w fun e w' => e = .returned (.tuple #[.agg #[.int .i64 (Rt.getB s.data.toList).1.seq, .int .i64 (Rt.getB s.data.toList).1.life, .int .i64 (Rt.getB s.data.toList).1.head], .bool (Rt.getB s.data.toList).2]) ∧ Below w.heap.size w w' := by
  by_cases h : s.data.toList.length = 64 ∧ s.data.toList.take 4 = [114, 111, 111, 116]
  · exact rtget_yes s w (by rw [ba_size]; exact h.1) h.2
  · have hg : Rt.getB s.data.toList = (Rt.none, false) := by
      rw [Rt.getB, Rt.isB, if_neg]
      rw [decide_eq_true_eq]
      intro k
      exact h ⟨k.1, k.2.1⟩
    rw [hg]
    exact rtget_no s w hs h
end Go.Proofs.Ytlhpibniecfofaa
