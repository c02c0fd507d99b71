/- Texts laid together: DiskP37. -/
import Derived.Test.YtlhpibniecfofaaM13
import Derived.Test.YtlhpibniecfofaaM4
section
/- The reference's disk as a part of a greater struct: step, put, Write, Sync, Crash. -/
set_option linter.unusedSimpArgs false
set_option linter.unusedVariables false
namespace Go.Proofs.Ytlhpibniecfofaa
open Go.RowKit Go.Ofp
set_option linter.unusedVariables false
set_option maxRecDepth 100000
set_option maxHeartbeats 4000000

/-- What stands beside the disk. -/
structure Pl37 where
  a0 : Value
  a1 : Value
  b0 : Value
  b1 : Value
  b2 : Value
  b3 : Value
  b4 : Value
/-- The reference's disk, in a greater struct. -/
def rdp37 (pq : Pl37) (g : Nat) (sv wv : Value) (d : Dk) : List Ch :=
  [Ch.blk g 94 #[pq.a0, pq.a1, sv, wv, .int .i64 d.fuse, .bool d.dead, pq.b0, pq.b1, pq.b2, pq.b3, pq.b4], Ch.row 9 1 sv d.sec.length (d.sec.map rsc), Ch.row 141 2 wv d.wait.length (d.wait.map rwt).flatten]

theorem rstep_any37 (pq : Pl37) (g : Nat) (sv wv : Value) (d : Dk) (w : World) (h : St w (feet (rdp37 pq g sv wv d)) (rdp37 pq g sv wv d) w) (hf : -9223372036854775808 ≤ d.fuse ∧ d.fuse ≤ 9223372036854775807) (hd : d.dead = false) :
    Calls Try.prog 81 #[.pointer (some ⟨g, 2, none⟩)] w fun e w' => e = .returned (.bool d.step.dead) ∧ St w (feet (rdp37 pq g sv wv d)) (rdp37 pq g sv wv d.step) w' := by
  generalize feet (rdp37 pq g sv wv d) = F at h ⊢
  have hS := h
  clear h
  unfold rdp37 at hS ⊢
  rw [Dk.step_sec, Dk.step_wait]
  unfold Dk.step
  obtain ⟨sec, wait, fuse, dead⟩ := d
  simp only at hS hf hd ⊢
  subst hd
  generalize List.map rsc sec = R1 at hS ⊢
  generalize (List.map rwt wait).flatten = R2 at hS ⊢
  by_cases h0 : fuse = 0
  · subst h0
    go_enter Try.func81, Try.ntmps81
    go_wp2_with (first | (with_reducible refine wpList_box_st hS rfl rfl rfl ?_; intro g1 w1 hS1; clear hS; replace hS := hS1; clear hS1) | (with_reducible refine wpList_box1_st hS rfl rfl rfl ?_; intro g1 w1 hS1; clear hS; replace hS := hS1; clear hS1) | (with_reducible refine wpList_alloc_st hS rfl rfl (by assumption) ?_; intro g1 w1 hS1; clear hS; replace hS := hS1; clear hS1) | (with_reducible refine wpList_alloc1_st hS rfl rfl (by assumption) rfl ?_; intro g1 w1 hS1; clear hS; replace hS := hS1; clear hS1) | ((with_reducible refine wpList_load_st 0 hS rfl rfl rfl rfl ?_ rfl ?_); focus (simp [scalarB, go_sem]; done)) | ((with_reducible refine wpList_loadall_st 0 hS rfl rfl rfl rfl ?_ (by kernel_rfl) ?_); focus (simp [rowB, go_sem]; done)) | ((with_reducible refine wpList_store_st 0 hS rfl rfl rfl rfl (by kernel_rfl) rfl rfl ?_); intro w1 hS1; clear hS; replace hS := hS1; clear hS1; try simp only [List.set_cons_zero, List.set_cons_succ, List.setIfInBounds_toArray, List.take_succ_cons, List.take_zero, List.drop_succ_cons, List.drop_zero, List.nil_append, List.cons_append, List.append_nil, List.drop_nil, List.take_nil, List.length_cons, List.length_nil, Nat.zero_add, Nat.add_zero, Nat.reduceAdd] at hS) | ((with_reducible refine wpList_storerow_st 0 hS rfl rfl rfl rfl (by kernel_rfl) rfl rfl rfl rfl ?_); intro w1 hS1; clear hS; replace hS := hS1; clear hS1; try simp only [List.set_cons_zero, List.set_cons_succ, List.setIfInBounds_toArray, List.take_succ_cons, List.take_zero, List.drop_succ_cons, List.drop_zero, List.nil_append, List.cons_append, List.append_nil, List.drop_nil, List.take_nil, List.length_cons, List.length_nil, Nat.zero_add, Nat.add_zero, Nat.reduceAdd] at hS))
    go_ret
    exact ⟨rfl, hS⟩
  · rw [if_neg h0]
    have b0 : (fuse == 0) = false := by rw [beq_eq_false_iff_ne]; exact h0
    by_cases h1 : 0 < fuse
    · rw [if_pos h1]
      have hw : IntKind.i64.wrap (fuse - 1) = fuse - 1 := IntWalk.i64_in _ (by omega)
      clear h0
      go_enter Try.func81, Try.ntmps81
      go_wp2_with (first | (with_reducible refine wpList_box_st hS rfl rfl rfl ?_; intro g1 w1 hS1; clear hS; replace hS := hS1; clear hS1) | (with_reducible refine wpList_box1_st hS rfl rfl rfl ?_; intro g1 w1 hS1; clear hS; replace hS := hS1; clear hS1) | (with_reducible refine wpList_alloc_st hS rfl rfl (by assumption) ?_; intro g1 w1 hS1; clear hS; replace hS := hS1; clear hS1) | (with_reducible refine wpList_alloc1_st hS rfl rfl (by assumption) rfl ?_; intro g1 w1 hS1; clear hS; replace hS := hS1; clear hS1) | ((with_reducible refine wpList_load_st 0 hS rfl rfl rfl rfl ?_ rfl ?_); focus (simp [scalarB, go_sem]; done)) | ((with_reducible refine wpList_loadall_st 0 hS rfl rfl rfl rfl ?_ (by kernel_rfl) ?_); focus (simp [rowB, go_sem]; done)) | ((with_reducible refine wpList_store_st 0 hS rfl rfl rfl rfl (by kernel_rfl) rfl rfl ?_); intro w1 hS1; clear hS; replace hS := hS1; clear hS1; try simp only [List.set_cons_zero, List.set_cons_succ, List.setIfInBounds_toArray, List.take_succ_cons, List.take_zero, List.drop_succ_cons, List.drop_zero, List.nil_append, List.cons_append, List.append_nil, List.drop_nil, List.take_nil, List.length_cons, List.length_nil, Nat.zero_add, Nat.add_zero, Nat.reduceAdd] at hS) | ((with_reducible refine wpList_storerow_st 0 hS rfl rfl rfl rfl (by kernel_rfl) rfl rfl rfl rfl ?_); intro w1 hS1; clear hS; replace hS := hS1; clear hS1; try simp only [List.set_cons_zero, List.set_cons_succ, List.setIfInBounds_toArray, List.take_succ_cons, List.take_zero, List.drop_succ_cons, List.drop_zero, List.nil_append, List.cons_append, List.append_nil, List.drop_nil, List.take_nil, List.length_cons, List.length_nil, Nat.zero_add, Nat.add_zero, Nat.reduceAdd] at hS))
      go_ret
      exact ⟨rfl, hS⟩
    · rw [if_neg h1]
      clear h0
      have h2 : fuse ≤ 0 := by omega
      clear h1
      go_enter Try.func81, Try.ntmps81
      go_wp2_with (first | (with_reducible refine wpList_box_st hS rfl rfl rfl ?_; intro g1 w1 hS1; clear hS; replace hS := hS1; clear hS1) | (with_reducible refine wpList_box1_st hS rfl rfl rfl ?_; intro g1 w1 hS1; clear hS; replace hS := hS1; clear hS1) | (with_reducible refine wpList_alloc_st hS rfl rfl (by assumption) ?_; intro g1 w1 hS1; clear hS; replace hS := hS1; clear hS1) | (with_reducible refine wpList_alloc1_st hS rfl rfl (by assumption) rfl ?_; intro g1 w1 hS1; clear hS; replace hS := hS1; clear hS1) | ((with_reducible refine wpList_load_st 0 hS rfl rfl rfl rfl ?_ rfl ?_); focus (simp [scalarB, go_sem]; done)) | ((with_reducible refine wpList_loadall_st 0 hS rfl rfl rfl rfl ?_ (by kernel_rfl) ?_); focus (simp [rowB, go_sem]; done)) | ((with_reducible refine wpList_store_st 0 hS rfl rfl rfl rfl (by kernel_rfl) rfl rfl ?_); intro w1 hS1; clear hS; replace hS := hS1; clear hS1; try simp only [List.set_cons_zero, List.set_cons_succ, List.setIfInBounds_toArray, List.take_succ_cons, List.take_zero, List.drop_succ_cons, List.drop_zero, List.nil_append, List.cons_append, List.append_nil, List.drop_nil, List.take_nil, List.length_cons, List.length_nil, Nat.zero_add, Nat.add_zero, Nat.reduceAdd] at hS) | ((with_reducible refine wpList_storerow_st 0 hS rfl rfl rfl rfl (by kernel_rfl) rfl rfl rfl rfl ?_); intro w1 hS1; clear hS; replace hS := hS1; clear hS1; try simp only [List.set_cons_zero, List.set_cons_succ, List.setIfInBounds_toArray, List.take_succ_cons, List.take_zero, List.drop_succ_cons, List.drop_zero, List.nil_append, List.cons_append, List.append_nil, List.drop_nil, List.take_nil, List.length_cons, List.length_nil, Nat.zero_add, Nat.add_zero, Nat.reduceAdd] at hS))
      go_ret
      exact ⟨rfl, hS⟩

theorem rput_d37 (pq : Pl37) (g : Nat) (sv wv : Value) (d : Dk) (i : Nat) (b : ByteArray) (s : Sc) (w : World) (h : St w (feet (rdp37 pq g sv wv d)) (rdp37 pq g sv wv d) w) (hi : i < d.sec.length) (hl : d.sec.length ≤ 100000) (hb : rsc s = .string b) :
    Calls Try.prog 80 #[.pointer (some ⟨g, 2, none⟩), .int .i64 i, .string b] w fun e w' => e = .returned (.tuple #[]) ∧ ∃ sv', St w (feet (rdp37 pq g sv wv d)) (rdp37 pq g sv' wv { d with sec := d.sec.set i s }) w' := by
  have hset : (d.sec.set i s).map rsc = (d.sec.map rsc).take i ++ .string b :: (d.sec.map rsc).drop (i + 1) := by
    rw [List.map_set, hb, List.set_eq_take_append_cons_drop, if_pos (by simpa using hi)]
  have hlen : (d.sec.map rsc).length = d.sec.length := List.length_map _
  have hone := rsc_all d.sec
  have hS := h
  generalize feet (rdp37 pq g sv wv d) = F at hS ⊢
  clear h hb
  unfold rdp37 at hS ⊢
  simp only [List.length_set]
  rw [hset]
  clear hset
  generalize d.sec.map rsc = R1 at *
  generalize (d.wait.map rwt).flatten = R2 at *
  generalize d.sec.length = n at *
  generalize d.wait.length = m at *
  generalize d.fuse = fu at *
  generalize d.dead = de at *
  obtain ⟨av, cs, rfl, -⟩ := hS.row 1 rfl
  replace hlen := Lib.hid hlen
  have ez := elem_str
  go_enter Try.func80, Try.ntmps80
  go_wp2_with (first
    | ((with_reducible refine wpList_build0_st hS rfl rfl Try.underlying26 elem_str ?_); intro g1 w3 hS1; clear hS; have hS := hS1; clear hS1)
    | ((with_reducible refine wpList_load_st 1 hS rfl rfl rfl rfl ?_ rfl ?_); focus (simp [scalarB, go_sem]; done))
    | (at_builtin; (with_reducible refine wpList_app_st 0 hS rfl rfl rfl Try.underlying26 elem_str rfl (Src.slice Try.underlying26 (hS.rowsl 2 rfl) (by rw [hlen.out, Nat.mul_one])) rfl hone (by omega) (by unfold maxLen; omega) ?_); intro v5 w3 hS1; clear hS; simp only [List.set_cons_zero, Nat.zero_add, List.nil_append] at hS1; have hS := hS1; clear hS1; obtain ⟨g5, c5, rfl, -⟩ := hS.rowat 0 rfl (by omega))
    | ((with_reducible refine wpList_storeelem1_st 0 i hS rfl rfl rfl rfl (by omega) (by kernel_rfl) rfl hi ?_); intro w6 hS1; clear hS; simp only [List.set_cons_zero] at hS1; have hS := hS1; clear hS1)
    | ((with_reducible refine wpList_store_st 1 hS rfl rfl rfl rfl (by kernel_rfl) rfl rfl ?_); intro w6 hS1; clear hS; have hS := hS1; clear hS1; try simp only [List.set_cons_zero, List.set_cons_succ, List.setIfInBounds_toArray, List.take_succ_cons, List.take_zero, List.drop_succ_cons, List.drop_zero, List.nil_append, List.cons_append, List.append_nil, List.drop_nil, List.take_nil, List.length_cons, List.length_nil, Nat.zero_add, Nat.add_zero, Nat.reduceAdd] at hS))
  simp only [List.append_assoc, List.singleton_append, List.cons_append, List.nil_append] at hS
  exact bodyPost_end (results_none rfl _ _ _) rfl ⟨rfl, _, hS.pick3 1 0 3 rfl rfl rfl (by omega)⟩

theorem rwrite_any37 (pq : Pl37) (g : Nat) (sv wv : Value) (d : Dk) (i : Int) (b : ByteArray) (w : World) (h : St w (feet (rdp37 pq g sv wv d)) (rdp37 pq g sv wv d) w) (hbm : b.size ≤ maxLen) (hl : d.sec.length ≤ 100000) (hw : d.wait.length ≤ 100000) (hf : -9223372036854775808 ≤ d.fuse ∧ d.fuse ≤ 9223372036854775807) :
    Calls Try.prog 38 #[.pointer (some ⟨g, 2, none⟩), .int .i64 i, .string b] w fun e w' => e = .returned (.int .i64 (d.write i b.data.toList).2) ∧ ∃ wv', St w (feet (rdp37 pq g sv wv d)) (rdp37 pq g sv wv' (d.write i b.data.toList).1) w' := by
  unfold maxLen at hbm
  by_cases hr : d.ready i = 0
  · by_cases hb : b.size = 64
    · have hbl : b.data.toList.length = 64 := by rw [← ba_size]; exact hb
      have hd : d.write i b.data.toList = (Dk.step { d with wait := d.wait ++ [⟨i, b.data.toList⟩] }, if (Dk.step { d with wait := d.wait ++ [⟨i, b.data.toList⟩] }).dead then 15 else 0) := by rw [Dk.write, if_pos hr, if_pos hbl]
      rw [hd]
      obtain ⟨hdd, h0, h1⟩ := Dk.ready_zero hr
      have cS := fun (wv' : Value) (W : World) k => rstep_any37 pq g sv wv' { d with wait := d.wait ++ [⟨i, b.data.toList⟩] } W k hf hdd
      generalize Dk.step { d with wait := d.wait ++ [⟨i, b.data.toList⟩] } = d2 at cS ⊢
      obtain ⟨sd, hsd⟩ : ∃ x, d2.dead = x := ⟨_, rfl⟩
      simp only [hsd] at cS ⊢
      replace hsd := Lib.hid hsd
      have hlen := rwt_len d.wait
      have hone := rwt_all d.wait
      have e1 : (d.wait.map rwt).flatten ++ rwt ⟨i, b.data.toList⟩ = ((d.wait ++ [(⟨i, b.data.toList⟩ : Wt)]).map rwt).flatten := by simp
      have e2 : d.wait.length + 1 = (d.wait ++ [(⟨i, b.data.toList⟩ : Wt)]).length := by simp
      have hstr : str b.data.toList = b := by apply ba_ext; simp [str]
      generalize feet (rdp37 pq g sv wv d) = F at h ⊢
      have hS := h
      clear h hr hd hf hbl
      unfold rdp37 at hS
      rw [hdd] at hS
      obtain ⟨av, cs, rfl, -⟩ := hS.row 1 rfl
      obtain ⟨aw, cw, rfl, -⟩ := hS.row 2 rfl
      replace cS := Lib.hid cS
      replace hlen := Lib.hid hlen
      have hn64 : ((b.size : Int) != 64) = false := by simp [hb]
      replace e1 := Lib.hid e1
      replace e2 := Lib.hid e2
      replace hstr := Lib.hid hstr
      go_enter Try.func38, Try.ntmps38
      have hcl := hS.cell 0 rfl
      go_wp2_with (first
        | ((with_reducible refine wpList_build0_st hS rfl rfl Try.underlying27 elem_rwt ?_); intro g1 w3 hS1; clear hS; have hS := hS1; clear hS1)
        | ((with_reducible refine wpList_load_st 0 hS rfl rfl rfl rfl ?_ rfl ?_); focus (simp [scalarB, go_sem]; done))
        | ((with_reducible refine wpList_load_st 1 hS rfl rfl rfl rfl ?_ rfl ?_); focus (simp [scalarB, go_sem]; done))
        | (at_builtin; (with_reducible refine wpList_app_st 0 hS rfl rfl rfl Try.underlying27 elem_rwt rfl (Src.slice Try.underlying27 (hS.rowsl 3 rfl) hlen.out) rfl hone (by omega) (by unfold maxLen; omega) ?_); intro v5 w3 hS1; clear hS; simp only [List.set_cons_zero, Nat.zero_add, List.nil_append] at hS1; have hS := hS1; clear hS1; obtain ⟨a5, c5, rfl, -⟩ := hS.row 0 rfl)
        | (at_builtin; have hA := hS.alloc #[.int .i64 i, .string b] 141; clear hS; have hS := hA; clear hA; (with_reducible refine wpList_app_st 1 (news := [.int .i64 i, .string b]) hS rfl rfl rfl Try.underlying27 elem_rwt rfl (Src.slice Try.underlying27 (hS.blksl2 0 rfl) rfl) rfl (by simp [Value.oneCell']) (by omega) (by unfold maxLen; omega) ?_); intro v6 w5 hS1; clear hS; simp only [List.set_cons_zero, List.set_cons_succ] at hS1; have hS := hS1; clear hS1; obtain ⟨a6, c6, rfl, -⟩ := hS.row 1 rfl)
        | ((with_reducible refine wpList_store_st 2 hS rfl rfl rfl rfl (by kernel_rfl) rfl rfl ?_); intro w6 hS1; clear hS; have hS := hS1; clear hS1; try simp only [List.set_cons_zero, List.set_cons_succ, List.setIfInBounds_toArray, List.take_succ_cons, List.take_zero, List.drop_succ_cons, List.drop_zero, List.nil_append, List.cons_append, List.append_nil, List.drop_nil, List.take_nil, List.length_cons, List.length_nil, Nat.zero_add, Nat.add_zero, Nat.reduceAdd] at hS))
      have hS1 : St w F (rdp37 pq g (.slice av d.sec.length cs) (.slice a6 (d.wait.length + 1) c6) { d with wait := d.wait ++ [⟨i, b.data.toList⟩] }) w6 := by
        unfold rdp37
        simp only []
        rw [← e1.out, ← e2.out, hdd, rwt, hstr.out]
        exact hS.pick3 2 3 1 rfl rfl rfl (by omega)
      clear hS
      have cT := cS.out _ _ hS1.pre0
      have hfr := fun (A' : List Ch) (W : World) k => hS1.call0 (A' := A') (w' := W) k
      replace cT := Lib.hid cT
      replace hfr := Lib.hid hfr
      clear hS1 cS e1 e2 hlen hone hstr
      cases sd
      all_goals
        go_wp2_with (go_at_call 81; (refine cT.out.mono ?_); rintro _ w4 ⟨rfl, hb3⟩; replace hb3 := hfr.out _ _ hb3; replace hb3 := Lib.hid hb3)
        go_ret
        exact ⟨rfl, _, hb3.out⟩
    · have hd : d.write i b.data.toList = (d, 1) := by rw [Dk.write, if_pos hr, if_neg (by rw [← ba_size]; exact hb)]
      rw [hd]
      obtain ⟨hdd, h0, h1⟩ := Dk.ready_zero hr
      have hS := h.pre0
      unfold rdp37 at hS
      rw [hdd] at hS
      obtain ⟨av, cs, rfl, -⟩ := hS.row 1 rfl
      obtain ⟨aw, cw, rfl, -⟩ := hS.row 2 rfl
      have c := hS.cell 0 rfl
      replace h := Lib.hid h
      clear hr hd hf hS
      have hb2 : ((b.size : Int) != 64) = true := by simp; omega
      go_enter Try.func38, Try.ntmps38
      go_wp2_with fail
      go_ret
      exact ⟨rfl, _, h.out⟩
  · have hd : d.write i b.data.toList = (d, d.ready i) := by rw [Dk.write, if_neg hr]
    rw [hd]
    have hS := h.pre0
    unfold rdp37 at hS
    obtain ⟨av, cs, rfl, -⟩ := hS.row 1 rfl
    obtain ⟨aw, cw, rfl, -⟩ := hS.row 2 rfl
    have c := hS.cell 0 rfl
    have hkeep := Lib.hid h
    clear h
    clear hd hf hS
    unfold Dk.ready at hr ⊢
    obtain ⟨n, hn⟩ : ∃ n, d.sec.length = n := ⟨_, rfl⟩
    rw [hn] at c hl hr ⊢
    obtain ⟨dd, hdd⟩ : ∃ n, d.dead = n := ⟨_, rfl⟩
    rw [hdd] at c hr ⊢
    replace hn := Lib.hid hn
    replace hdd := Lib.hid hdd
    cases dd with
    | true =>
      clear hr
      go_enter Try.func38, Try.ntmps38
      go_wp2_with fail
      go_ret
      exact ⟨rfl, _, by rw [← hn.out]; exact hkeep.out⟩
    | false =>
      rw [if_neg (by simp)] at hr ⊢
      by_cases h1 : i < 0
      · rw [if_pos (.inl h1)]
        clear hr
        go_enter Try.func38, Try.ntmps38
        go_wp2_with fail
        go_ret
        exact ⟨rfl, _, by rw [← hn.out]; exact hkeep.out⟩
      · by_cases h2 : (n : Int) ≤ i
        · rw [if_pos (.inr h2)]
          clear hr
          go_enter Try.func38, Try.ntmps38
          go_wp2_with fail
          go_ret
          exact ⟨rfl, _, by rw [← hn.out]; exact hkeep.out⟩
        · exact absurd (if_neg (by omega)) hr

theorem rsync_main37 (pq : Pl37) (g : Nat) (sv wv : Value) (d : Dk) (w : World) (h : St w (feet (rdp37 pq g sv wv d)) (rdp37 pq g sv wv d) w) (hok : d.Ok) (hdd : d.dead = false) (hsd : d.step.dead = false) (hl : d.sec.length ≤ 100000) (hw : d.wait.length ≤ 100000) (hf : -9223372036854775808 ≤ d.fuse ∧ d.fuse ≤ 9223372036854775807) :
    Calls Try.prog 67 #[.pointer (some ⟨g, 2, none⟩)] w fun e w' => e = .returned (.int .i64 0) ∧ ∃ sv' wv', St w (feet (rdp37 pq g sv wv d)) (rdp37 pq g sv' wv' { d.step with sec := Dk.done d.sec d.wait, wait := [] }) w' := by
  have cS := rstep_any37 pq g sv wv d w h hf hdd
  rw [hsd] at cS
  have hcell := rwt_cell d.wait
  have hwok := hok.wait
  have cP : ∀ (sv' : Value) (l : List Sc) (q : Nat) (x : List UInt8) (W : World), St W (feet (rdp37 pq g sv' wv { d.step with sec := l })) (rdp37 pq g sv' wv { d.step with sec := l }) W → q < l.length → l.length ≤ 100000 →
      Calls Try.prog 80 #[.pointer (some ⟨g, 2, none⟩), .int .i64 q, .string (str x)] W fun e w' => e = .returned (.tuple #[]) ∧ ∃ sv'', St W (feet (rdp37 pq g sv' wv { d.step with sec := l })) (rdp37 pq g sv'' wv { d.step with sec := l.set q ⟨x, false⟩ }) w' :=
    fun sv' l q x W h hq hl => rput_d37 pq g sv' wv { d.step with sec := l } q (str x) ⟨x, false⟩ W h hq hl (by simp [rsc])
  generalize feet (rdp37 pq g sv wv d) = F at cS h ⊢
  have hS0 := h
  unfold rdp37 at cS cP hS0 ⊢
  simp only [Dk.step_sec, Dk.step_wait, Dk.done_length, List.length_set, List.map_nil, List.flatten_nil, List.length_nil, hsd, hdd] at cS cP hS0 ⊢
  have c := hS0.cell 0 rfl
  clear h hok hf hS0
  generalize d.step.fuse = fz at cS cP ⊢
  clear hsd
  generalize d.wait = wl at *
  generalize d.sec = sec at *
  generalize (wl.map rwt).flatten = R2 at *
  obtain ⟨n, hn⟩ : ∃ n, wl.length = n := ⟨_, rfl⟩
  obtain ⟨ns, hns⟩ : ∃ n, sec.length = n := ⟨_, rfl⟩
  rw [hn] at hw
  rw [hns] at hwok hl ⊢
  rw [hn, hns] at cS
  rw [hn] at cP
  replace cS := Lib.hid cS
  replace cP := Lib.hid cP
  replace hcell := Lib.hid hcell
  replace hwok := Lib.hid hwok
  replace hn := Lib.hid hn
  replace hns := Lib.hid hns
  go_enter Try.func67, Try.ntmps67
  go_wp2_with (first
    | (go_at_call 81; (with_reducible refine cS.out.mono ?_); rintro _ w4 ⟨rfl, hS⟩; obtain ⟨av, cv, rfl, -⟩ := hS.row 1 rfl; obtain ⟨aw, cw, rfl, -⟩ := hS.row 2 rfl))
  clear cS
  go_loopg [3] n (fun gk vx wr => ∃ (j : Nat) (l : List Sc) (sv' : Value), j + gk = n ∧ vx = .int .i64 j ∧ Hid (l = Dk.done sec (wl.take j)) ∧ St w F [Ch.blk g 94 #[pq.a0, pq.a1, sv', .slice aw n cw, .int .i64 fz, .bool false, pq.b0, pq.b1, pq.b2, pq.b3, pq.b4], Ch.row 9 1 sv' l.length (l.map rsc), Ch.row 141 2 (.slice aw n cw) n R2] wr)
  case atStart => exact ⟨0, sec, _, Nat.zero_add _, rfl, Lib.hid rfl, by rw [hns.out]; exact hS⟩
  case round =>
    clear hS
    obtain ⟨j, l, sv', hjn, rfl, hl', hS⟩ := hrel
    have hll : l.length = ns := by rw [hl'.out, Dk.done_length, hns.out]
    by_cases hlt : j < n
    · have hj' : j < wl.length := by have := hn.out; omega
      obtain ⟨hc0, hc1⟩ := hcell.out j hj'
      obtain ⟨hp1, hp2, hw2⟩ := hwok.out wl[j] (List.getElem_mem hj')
      have hnext := done_next sec wl j hj'
      rw [← hl'.out] at hnext
      obtain ⟨gw, cw', hwv, -⟩ := hS.rowat 2 rfl (by omega)
      cases hwv
      generalize wl[j] = x at *
      obtain ⟨xp, xb⟩ := x
      simp only at hc0 hc1 hp1 hp2 hnext
      obtain ⟨q, rfl⟩ := Int.eq_ofNat_of_zero_le hp1
      rw [Int.toNat_natCast] at hnext
      have hq : q < l.length := by omega
      have cPj := fun W h => cP.out sv' l q xb W h hq (by omega)
      replace cPj := Lib.hid cPj
      replace hc0 := Lib.hid hc0
      replace hc1 := Lib.hid hc1
      replace hnext := Lib.hid hnext
      replace hll := Lib.hid hll
      obtain ⟨av', cv', hsv, -⟩ := hS.row 1 rfl
      subst hsv
      clear hcell hwok hl' hp1 hp2
      go_wp2_with (first | (with_reducible refine wpList_box_st hS rfl rfl rfl ?_; intro g1 w1 hS1; clear hS; replace hS := hS1; clear hS1) | (with_reducible refine wpList_box1_st hS rfl rfl rfl ?_; intro g1 w1 hS1; clear hS; replace hS := hS1; clear hS1) | (with_reducible refine wpList_alloc_st hS rfl rfl (by assumption) ?_; intro g1 w1 hS1; clear hS; replace hS := hS1; clear hS1) | (with_reducible refine wpList_alloc1_st hS rfl rfl (by assumption) rfl ?_; intro g1 w1 hS1; clear hS; replace hS := hS1; clear hS1) | ((with_reducible refine wpList_load_st 0 hS rfl rfl rfl rfl ?_ rfl ?_); focus (simp [scalarB, go_sem]; done)) | ((with_reducible refine wpList_loadall_st 0 hS rfl rfl rfl rfl ?_ (by kernel_rfl) ?_); focus (simp [rowB, go_sem]; done)) | ((with_reducible refine wpList_store_st 0 hS rfl rfl rfl rfl (by kernel_rfl) rfl rfl ?_); intro w1 hS1; clear hS; replace hS := hS1; clear hS1; try simp only [List.set_cons_zero, List.set_cons_succ, List.setIfInBounds_toArray, List.take_succ_cons, List.take_zero, List.drop_succ_cons, List.drop_zero, List.nil_append, List.cons_append, List.append_nil, List.drop_nil, List.take_nil, List.length_cons, List.length_nil, Nat.zero_add, Nat.add_zero, Nat.reduceAdd] at hS) | ((with_reducible refine wpList_storerow_st 0 hS rfl rfl rfl rfl (by kernel_rfl) rfl rfl rfl rfl ?_); intro w1 hS1; clear hS; replace hS := hS1; clear hS1; try simp only [List.set_cons_zero, List.set_cons_succ, List.setIfInBounds_toArray, List.take_succ_cons, List.take_zero, List.drop_succ_cons, List.drop_zero, List.nil_append, List.cons_append, List.append_nil, List.drop_nil, List.take_nil, List.length_cons, List.length_nil, Nat.zero_add, Nat.add_zero, Nat.reduceAdd] at hS))
      have hsi : scalarB Try.prog 3 = true := by simp [scalarB, go_sem]
      have hss : scalarB Try.prog 9 = true := by simp [scalarB, go_sem]
      refine mixs_beginE (by kernel_rfl) hS ?_
      clear hS
      intro w2 hS hC
      refine mixs_take 0 (v := ?_) rfl (by kernel_rfl) (fun _ _ _ h => h) (by kernel_rfl) (by assumption) (fun s => ?hy) ?_; case hy => (go_simp <;> with_reducible rfl)
      try simp only [List.getElem_toArray, List.getElem_cons_succ, List.getElem_cons_zero, Act.put, List.setIfInBounds_toArray, List.set_cons_zero, List.set_cons_succ]
      refine mixs_take 1 (v := ?_) rfl (by kernel_rfl) (fun _ _ _ h => h) (by kernel_rfl) (by assumption) (fun s => ?hy) ?_; case hy => (go_simp <;> with_reducible rfl)
      try simp only [List.getElem_toArray, List.getElem_cons_succ, List.getElem_cons_zero, Act.put, List.setIfInBounds_toArray, List.set_cons_zero, List.set_cons_succ]
      refine mixs_take 2 (v := ?_) rfl (by kernel_rfl) (fun _ _ _ h => h) (by kernel_rfl) (by assumption) (fun s => ?hy) ?_; case hy => (go_simp <;> with_reducible rfl)
      try simp only [List.getElem_toArray, List.getElem_cons_succ, List.getElem_cons_zero, Act.put, List.setIfInBounds_toArray, List.set_cons_zero, List.set_cons_succ]
      refine mixs_take 3 (v := ?_) rfl (by kernel_rfl) (fun _ _ _ h => h) (by kernel_rfl) (by assumption) (fun s => ?hy) ?_; case hy => (go_simp <;> with_reducible rfl)
      try simp only [List.getElem_toArray, List.getElem_cons_succ, List.getElem_cons_zero, Act.put, List.setIfInBounds_toArray, List.set_cons_zero, List.set_cons_succ]
      refine mixs_take 5 (v := ?_) rfl (by kernel_rfl) (fun _ _ _ h => h) (by kernel_rfl) (by assumption) (fun s => ?hy) ?_; case hy => (go_simp <;> with_reducible rfl)
      try simp only [List.getElem_toArray, List.getElem_cons_succ, List.getElem_cons_zero, Act.put, List.setIfInBounds_toArray, List.set_cons_zero, List.set_cons_succ]
      refine mixs_take 9 (v := ?_) rfl (by kernel_rfl) (fun _ _ _ h => h) (by kernel_rfl) (by assumption) (fun s => ?hy) ?_; case hy => (go_simp <;> with_reducible rfl)
      try simp only [List.getElem_toArray, List.getElem_cons_succ, List.getElem_cons_zero, Act.put, List.setIfInBounds_toArray, List.set_cons_zero, List.set_cons_succ]
      refine mixs_take 10 (v := ?_) rfl (by kernel_rfl) (fun _ _ _ h => h) (by kernel_rfl) (by assumption) (fun s => ?hy) ?_; case hy => (go_simp <;> with_reducible rfl)
      try simp only [List.getElem_toArray, List.getElem_cons_succ, List.getElem_cons_zero, Act.put, List.setIfInBounds_toArray, List.set_cons_zero, List.set_cons_succ]
      refine mixs_take 11 (v := ?_) rfl (by kernel_rfl) (fun _ _ _ h => h) (by kernel_rfl) (by assumption) (fun s => ?hy) ?_; case hy => (go_simp <;> with_reducible rfl)
      try simp only [List.getElem_toArray, List.getElem_cons_succ, List.getElem_cons_zero, Act.put, List.setIfInBounds_toArray, List.set_cons_zero, List.set_cons_succ]
      refine mixs_take 13 (v := ?_) rfl (by kernel_rfl) (fun _ _ _ h => h) (by kernel_rfl) (by assumption) (fun s => ?hy) ?_; case hy => (go_simp <;> with_reducible rfl)
      try simp only [List.getElem_toArray, List.getElem_cons_succ, List.getElem_cons_zero, Act.put, List.setIfInBounds_toArray, List.set_cons_zero, List.set_cons_succ]
      refine mixs_two 4 12 (by kernel_rfl) rfl rfl (fun K hK => ?_) (fun K hK => ?_)
      ·
        refine op_load_st (by kernel_rfl) 0 hS rfl rfl rfl (by simp [scalarB, go_sem]) rfl ?_
        try clear hC
        refine hK.out _ _ _ (fun _ h => h) (by first | exact hS | exact hS.drop | exact hS.drop.drop | exact hS.drop.drop.drop | exact hS.drop.drop.drop.drop | exact hS.empty | exact hS.one 0 rfl | exact hS.one 1 rfl | exact hS.one 2 rfl | exact hS.one 3 rfl | exact hS.one 4 rfl | exact hS.one 5 rfl | exact hS.one 6 rfl | exact hS.one 7 rfl | exact hS.one 8 rfl | exact hS.one 9 rfl | exact hS.one 10 rfl | exact hS.one 11 rfl) (fun hC => ?_)
        clear hK K
        try simp only [List.getElem_toArray, List.getElem_cons_succ, List.getElem_cons_zero, Act.put, List.setIfInBounds_toArray, List.set_cons_zero, List.set_cons_succ]
        refine mixs_take 6 (v := ?_) rfl (by kernel_rfl) (fun _ _ _ h => h) (by kernel_rfl) (by assumption) (fun s => ?hy) ?_; case hy => (go_simp <;> with_reducible rfl)
        try simp only [List.getElem_toArray, List.getElem_cons_succ, List.getElem_cons_zero, Act.put, List.setIfInBounds_toArray, List.set_cons_zero, List.set_cons_succ]
        refine mixs_take 7 (v := ?_) rfl (by kernel_rfl) (fun _ _ _ h => h) (by kernel_rfl) (by assumption) (fun s => ?hy) ?_; case hy => (go_simp <;> with_reducible rfl)
        try simp only [List.getElem_toArray, List.getElem_cons_succ, List.getElem_cons_zero, Act.put, List.setIfInBounds_toArray, List.set_cons_zero, List.set_cons_succ]
        refine mixs_two 8 12 (by kernel_rfl) rfl rfl (fun K hK => ?_) (fun K hK => ?_)
        ·
          ( first | (refine op_loadcell_st (by kernel_rfl) 2 hS rfl rfl rfl hsi hc0.out ?_) | (refine op_loadcell_st (by kernel_rfl) 2 hS rfl rfl rfl hss hc1.out ?_) | (go_at_call 80; (with_reducible refine (cPj.out _ hS.pre0).mono ?_); rintro _ w5 ⟨rfl, sv5, hk⟩; have hS1 := hS.call0 hk; clear hS hk; have hS := hS1; clear hS1) )
          try clear hC
          refine hK.out _ _ _ (fun _ h => h) (by first | exact hS | exact hS.drop | exact hS.drop.drop | exact hS.drop.drop.drop | exact hS.drop.drop.drop.drop | exact hS.empty | exact hS.one 0 rfl | exact hS.one 1 rfl | exact hS.one 2 rfl | exact hS.one 3 rfl | exact hS.one 4 rfl | exact hS.one 5 rfl | exact hS.one 6 rfl | exact hS.one 7 rfl | exact hS.one 8 rfl | exact hS.one 9 rfl | exact hS.one 10 rfl | exact hS.one 11 rfl) (fun hC => ?_)
          clear hK K
          try simp only [List.getElem_toArray, List.getElem_cons_succ, List.getElem_cons_zero, Act.put, List.setIfInBounds_toArray, List.set_cons_zero, List.set_cons_succ]
          refine mixs_one 12 (by kernel_rfl) rfl (fun K hK => ?_)
          refine op_load_st (by kernel_rfl) 0 hS rfl rfl rfl (by simp [scalarB, go_sem]) rfl ?_
          try clear hC
          refine hK.out _ _ _ (fun _ h => h) (by first | exact hS | exact hS.drop | exact hS.drop.drop | exact hS.drop.drop.drop | exact hS.drop.drop.drop.drop | exact hS.empty | exact hS.one 0 rfl | exact hS.one 1 rfl | exact hS.one 2 rfl | exact hS.one 3 rfl | exact hS.one 4 rfl | exact hS.one 5 rfl | exact hS.one 6 rfl | exact hS.one 7 rfl | exact hS.one 8 rfl | exact hS.one 9 rfl | exact hS.one 10 rfl | exact hS.one 11 rfl) (fun hC => ?_)
          clear hK K
          try simp only [List.getElem_toArray, List.getElem_cons_succ, List.getElem_cons_zero, Act.put, List.setIfInBounds_toArray, List.set_cons_zero, List.set_cons_succ]
          refine mixs_take 14 (v := ?_) rfl (by kernel_rfl) (fun _ _ _ h => h) (by kernel_rfl) (by assumption) (fun s => ?hy) ?_; case hy => (go_simp <;> with_reducible rfl)
          try simp only [List.getElem_toArray, List.getElem_cons_succ, List.getElem_cons_zero, Act.put, List.setIfInBounds_toArray, List.set_cons_zero, List.set_cons_succ]
          refine mixs_take 15 (v := ?_) rfl (by kernel_rfl) (fun _ _ _ h => h) (by kernel_rfl) (by assumption) (fun s => ?hy) ?_; case hy => (go_simp <;> with_reducible rfl)
          try simp only [List.getElem_toArray, List.getElem_cons_succ, List.getElem_cons_zero, Act.put, List.setIfInBounds_toArray, List.set_cons_zero, List.set_cons_succ]
          refine mixs_one 16 (by kernel_rfl) rfl (fun K hK => ?_)
          ( first | (refine op_loadcell_st (by kernel_rfl) 2 hS rfl rfl rfl hsi hc0.out ?_) | (refine op_loadcell_st (by kernel_rfl) 2 hS rfl rfl rfl hss hc1.out ?_) | (go_at_call 80; (with_reducible refine (cPj.out _ hS.pre0).mono ?_); rintro _ w5 ⟨rfl, sv5, hk⟩; have hS1 := hS.call0 hk; clear hS hk; have hS := hS1; clear hS1) )
          try clear hC
          refine hK.out _ _ _ (fun _ h => h) (by first | exact hS | exact hS.drop | exact hS.drop.drop | exact hS.drop.drop.drop | exact hS.drop.drop.drop.drop | exact hS.empty | exact hS.one 0 rfl | exact hS.one 1 rfl | exact hS.one 2 rfl | exact hS.one 3 rfl | exact hS.one 4 rfl | exact hS.one 5 rfl | exact hS.one 6 rfl | exact hS.one 7 rfl | exact hS.one 8 rfl | exact hS.one 9 rfl | exact hS.one 10 rfl | exact hS.one 11 rfl) (fun hC => ?_)
          clear hK K
          try simp only [List.getElem_toArray, List.getElem_cons_succ, List.getElem_cons_zero, Act.put, List.setIfInBounds_toArray, List.set_cons_zero, List.set_cons_succ]
          refine mixs_one 17 (by kernel_rfl) rfl (fun K hK => ?_)
          go_simp
          ( first | (refine op_loadcell_st (by kernel_rfl) 2 hS rfl rfl rfl hsi hc0.out ?_) | (refine op_loadcell_st (by kernel_rfl) 2 hS rfl rfl rfl hss hc1.out ?_) | (go_at_call 80; (with_reducible refine (cPj.out _ hS.pre0).mono ?_); rintro _ w5 ⟨rfl, sv5, hk⟩; have hS1 := hS.call0 hk; clear hS hk; have hS := hS1; clear hS1) )
          try clear hC
          refine hK.out _ _ _ (fun _ h => h) (by first | exact hS | exact hS.drop | exact hS.drop.drop | exact hS.drop.drop.drop | exact hS.drop.drop.drop.drop | exact hS.empty | exact hS.one 0 rfl | exact hS.one 1 rfl | exact hS.one 2 rfl | exact hS.one 3 rfl | exact hS.one 4 rfl | exact hS.one 5 rfl | exact hS.one 6 rfl | exact hS.one 7 rfl | exact hS.one 8 rfl | exact hS.one 9 rfl | exact hS.one 10 rfl | exact hS.one 11 rfl) (fun hC => ?_)
          clear hK K
          try simp only [List.getElem_toArray, List.getElem_cons_succ, List.getElem_cons_zero, Act.put, List.setIfInBounds_toArray, List.set_cons_zero, List.set_cons_succ]
          refine wpAnyH_done (by kernel_rfl) ?_ _
          try clear hC
          go_wp2_with fail
          go_roundg (n - (j + 1))
          case measure => omega
          case rel => exact ⟨j + 1, l.set q ⟨xb, false⟩, _, by omega, by go_num, Lib.hid hnext.out.symm, by rw [List.length_set]; exact hS⟩
        ·
          refine op_load_st (by kernel_rfl) 0 hS rfl rfl rfl (by simp [scalarB, go_sem]) rfl ?_
          try clear hC
          refine hK.out _ _ _ (fun _ h => h) (by first | exact hS | exact hS.drop | exact hS.drop.drop | exact hS.drop.drop.drop | exact hS.drop.drop.drop.drop | exact hS.empty | exact hS.one 0 rfl | exact hS.one 1 rfl | exact hS.one 2 rfl | exact hS.one 3 rfl | exact hS.one 4 rfl | exact hS.one 5 rfl | exact hS.one 6 rfl | exact hS.one 7 rfl | exact hS.one 8 rfl | exact hS.one 9 rfl | exact hS.one 10 rfl | exact hS.one 11 rfl) (fun hC => ?_)
          clear hK K
          try simp only [List.getElem_toArray, List.getElem_cons_succ, List.getElem_cons_zero, Act.put, List.setIfInBounds_toArray, List.set_cons_zero, List.set_cons_succ]
          refine mixs_take 14 (v := ?_) rfl (by kernel_rfl) (fun _ _ _ h => h) (by kernel_rfl) (by assumption) (fun s => ?hy) ?_; case hy => (go_simp <;> with_reducible rfl)
          try simp only [List.getElem_toArray, List.getElem_cons_succ, List.getElem_cons_zero, Act.put, List.setIfInBounds_toArray, List.set_cons_zero, List.set_cons_succ]
          refine mixs_take 15 (v := ?_) rfl (by kernel_rfl) (fun _ _ _ h => h) (by kernel_rfl) (by assumption) (fun s => ?hy) ?_; case hy => (go_simp <;> with_reducible rfl)
          try simp only [List.getElem_toArray, List.getElem_cons_succ, List.getElem_cons_zero, Act.put, List.setIfInBounds_toArray, List.set_cons_zero, List.set_cons_succ]
          refine mixs_two 8 16 (by kernel_rfl) rfl rfl (fun K hK => ?_) (fun K hK => ?_)
          ·
            ( first | (refine op_loadcell_st (by kernel_rfl) 2 hS rfl rfl rfl hsi hc0.out ?_) | (refine op_loadcell_st (by kernel_rfl) 2 hS rfl rfl rfl hss hc1.out ?_) | (go_at_call 80; (with_reducible refine (cPj.out _ hS.pre0).mono ?_); rintro _ w5 ⟨rfl, sv5, hk⟩; have hS1 := hS.call0 hk; clear hS hk; have hS := hS1; clear hS1) )
            try clear hC
            refine hK.out _ _ _ (fun _ h => h) (by first | exact hS | exact hS.drop | exact hS.drop.drop | exact hS.drop.drop.drop | exact hS.drop.drop.drop.drop | exact hS.empty | exact hS.one 0 rfl | exact hS.one 1 rfl | exact hS.one 2 rfl | exact hS.one 3 rfl | exact hS.one 4 rfl | exact hS.one 5 rfl | exact hS.one 6 rfl | exact hS.one 7 rfl | exact hS.one 8 rfl | exact hS.one 9 rfl | exact hS.one 10 rfl | exact hS.one 11 rfl) (fun hC => ?_)
            clear hK K
            try simp only [List.getElem_toArray, List.getElem_cons_succ, List.getElem_cons_zero, Act.put, List.setIfInBounds_toArray, List.set_cons_zero, List.set_cons_succ]
            refine mixs_one 16 (by kernel_rfl) rfl (fun K hK => ?_)
            ( first | (refine op_loadcell_st (by kernel_rfl) 2 hS rfl rfl rfl hsi hc0.out ?_) | (refine op_loadcell_st (by kernel_rfl) 2 hS rfl rfl rfl hss hc1.out ?_) | (go_at_call 80; (with_reducible refine (cPj.out _ hS.pre0).mono ?_); rintro _ w5 ⟨rfl, sv5, hk⟩; have hS1 := hS.call0 hk; clear hS hk; have hS := hS1; clear hS1) )
            try clear hC
            refine hK.out _ _ _ (fun _ h => h) (by first | exact hS | exact hS.drop | exact hS.drop.drop | exact hS.drop.drop.drop | exact hS.drop.drop.drop.drop | exact hS.empty | exact hS.one 0 rfl | exact hS.one 1 rfl | exact hS.one 2 rfl | exact hS.one 3 rfl | exact hS.one 4 rfl | exact hS.one 5 rfl | exact hS.one 6 rfl | exact hS.one 7 rfl | exact hS.one 8 rfl | exact hS.one 9 rfl | exact hS.one 10 rfl | exact hS.one 11 rfl) (fun hC => ?_)
            clear hK K
            try simp only [List.getElem_toArray, List.getElem_cons_succ, List.getElem_cons_zero, Act.put, List.setIfInBounds_toArray, List.set_cons_zero, List.set_cons_succ]
            refine mixs_one 17 (by kernel_rfl) rfl (fun K hK => ?_)
            go_simp
            ( first | (refine op_loadcell_st (by kernel_rfl) 2 hS rfl rfl rfl hsi hc0.out ?_) | (refine op_loadcell_st (by kernel_rfl) 2 hS rfl rfl rfl hss hc1.out ?_) | (go_at_call 80; (with_reducible refine (cPj.out _ hS.pre0).mono ?_); rintro _ w5 ⟨rfl, sv5, hk⟩; have hS1 := hS.call0 hk; clear hS hk; have hS := hS1; clear hS1) )
            try clear hC
            refine hK.out _ _ _ (fun _ h => h) (by first | exact hS | exact hS.drop | exact hS.drop.drop | exact hS.drop.drop.drop | exact hS.drop.drop.drop.drop | exact hS.empty | exact hS.one 0 rfl | exact hS.one 1 rfl | exact hS.one 2 rfl | exact hS.one 3 rfl | exact hS.one 4 rfl | exact hS.one 5 rfl | exact hS.one 6 rfl | exact hS.one 7 rfl | exact hS.one 8 rfl | exact hS.one 9 rfl | exact hS.one 10 rfl | exact hS.one 11 rfl) (fun hC => ?_)
            clear hK K
            try simp only [List.getElem_toArray, List.getElem_cons_succ, List.getElem_cons_zero, Act.put, List.setIfInBounds_toArray, List.set_cons_zero, List.set_cons_succ]
            refine wpAnyH_done (by kernel_rfl) ?_ _
            try clear hC
            go_wp2_with fail
            go_roundg (n - (j + 1))
            case measure => omega
            case rel => exact ⟨j + 1, l.set q ⟨xb, false⟩, _, by omega, by go_num, Lib.hid hnext.out.symm, by rw [List.length_set]; exact hS⟩
          ·
            ( first | (refine op_loadcell_st (by kernel_rfl) 2 hS rfl rfl rfl hsi hc0.out ?_) | (refine op_loadcell_st (by kernel_rfl) 2 hS rfl rfl rfl hss hc1.out ?_) | (go_at_call 80; (with_reducible refine (cPj.out _ hS.pre0).mono ?_); rintro _ w5 ⟨rfl, sv5, hk⟩; have hS1 := hS.call0 hk; clear hS hk; have hS := hS1; clear hS1) )
            try clear hC
            refine hK.out _ _ _ (fun _ h => h) (by first | exact hS | exact hS.drop | exact hS.drop.drop | exact hS.drop.drop.drop | exact hS.drop.drop.drop.drop | exact hS.empty | exact hS.one 0 rfl | exact hS.one 1 rfl | exact hS.one 2 rfl | exact hS.one 3 rfl | exact hS.one 4 rfl | exact hS.one 5 rfl | exact hS.one 6 rfl | exact hS.one 7 rfl | exact hS.one 8 rfl | exact hS.one 9 rfl | exact hS.one 10 rfl | exact hS.one 11 rfl) (fun hC => ?_)
            clear hK K
            try simp only [List.getElem_toArray, List.getElem_cons_succ, List.getElem_cons_zero, Act.put, List.setIfInBounds_toArray, List.set_cons_zero, List.set_cons_succ]
            refine mixs_one 8 (by kernel_rfl) rfl (fun K hK => ?_)
            ( first | (refine op_loadcell_st (by kernel_rfl) 2 hS rfl rfl rfl hsi hc0.out ?_) | (refine op_loadcell_st (by kernel_rfl) 2 hS rfl rfl rfl hss hc1.out ?_) | (go_at_call 80; (with_reducible refine (cPj.out _ hS.pre0).mono ?_); rintro _ w5 ⟨rfl, sv5, hk⟩; have hS1 := hS.call0 hk; clear hS hk; have hS := hS1; clear hS1) )
            try clear hC
            refine hK.out _ _ _ (fun _ h => h) (by first | exact hS | exact hS.drop | exact hS.drop.drop | exact hS.drop.drop.drop | exact hS.drop.drop.drop.drop | exact hS.empty | exact hS.one 0 rfl | exact hS.one 1 rfl | exact hS.one 2 rfl | exact hS.one 3 rfl | exact hS.one 4 rfl | exact hS.one 5 rfl | exact hS.one 6 rfl | exact hS.one 7 rfl | exact hS.one 8 rfl | exact hS.one 9 rfl | exact hS.one 10 rfl | exact hS.one 11 rfl) (fun hC => ?_)
            clear hK K
            try simp only [List.getElem_toArray, List.getElem_cons_succ, List.getElem_cons_zero, Act.put, List.setIfInBounds_toArray, List.set_cons_zero, List.set_cons_succ]
            refine mixs_one 17 (by kernel_rfl) rfl (fun K hK => ?_)
            go_simp
            ( first | (refine op_loadcell_st (by kernel_rfl) 2 hS rfl rfl rfl hsi hc0.out ?_) | (refine op_loadcell_st (by kernel_rfl) 2 hS rfl rfl rfl hss hc1.out ?_) | (go_at_call 80; (with_reducible refine (cPj.out _ hS.pre0).mono ?_); rintro _ w5 ⟨rfl, sv5, hk⟩; have hS1 := hS.call0 hk; clear hS hk; have hS := hS1; clear hS1) )
            try clear hC
            refine hK.out _ _ _ (fun _ h => h) (by first | exact hS | exact hS.drop | exact hS.drop.drop | exact hS.drop.drop.drop | exact hS.drop.drop.drop.drop | exact hS.empty | exact hS.one 0 rfl | exact hS.one 1 rfl | exact hS.one 2 rfl | exact hS.one 3 rfl | exact hS.one 4 rfl | exact hS.one 5 rfl | exact hS.one 6 rfl | exact hS.one 7 rfl | exact hS.one 8 rfl | exact hS.one 9 rfl | exact hS.one 10 rfl | exact hS.one 11 rfl) (fun hC => ?_)
            clear hK K
            try simp only [List.getElem_toArray, List.getElem_cons_succ, List.getElem_cons_zero, Act.put, List.setIfInBounds_toArray, List.set_cons_zero, List.set_cons_succ]
            refine wpAnyH_done (by kernel_rfl) ?_ _
            try clear hC
            go_wp2_with fail
            go_roundg (n - (j + 1))
            case measure => omega
            case rel => exact ⟨j + 1, l.set q ⟨xb, false⟩, _, by omega, by go_num, Lib.hid hnext.out.symm, by rw [List.length_set]; exact hS⟩
      ·
        refine op_load_st (by kernel_rfl) 0 hS rfl rfl rfl (by simp [scalarB, go_sem]) rfl ?_
        try clear hC
        refine hK.out _ _ _ (fun _ h => h) (by first | exact hS | exact hS.drop | exact hS.drop.drop | exact hS.drop.drop.drop | exact hS.drop.drop.drop.drop | exact hS.empty | exact hS.one 0 rfl | exact hS.one 1 rfl | exact hS.one 2 rfl | exact hS.one 3 rfl | exact hS.one 4 rfl | exact hS.one 5 rfl | exact hS.one 6 rfl | exact hS.one 7 rfl | exact hS.one 8 rfl | exact hS.one 9 rfl | exact hS.one 10 rfl | exact hS.one 11 rfl) (fun hC => ?_)
        clear hK K
        try simp only [List.getElem_toArray, List.getElem_cons_succ, List.getElem_cons_zero, Act.put, List.setIfInBounds_toArray, List.set_cons_zero, List.set_cons_succ]
        refine mixs_take 14 (v := ?_) rfl (by kernel_rfl) (fun _ _ _ h => h) (by kernel_rfl) (by assumption) (fun s => ?hy) ?_; case hy => (go_simp <;> with_reducible rfl)
        try simp only [List.getElem_toArray, List.getElem_cons_succ, List.getElem_cons_zero, Act.put, List.setIfInBounds_toArray, List.set_cons_zero, List.set_cons_succ]
        refine mixs_take 15 (v := ?_) rfl (by kernel_rfl) (fun _ _ _ h => h) (by kernel_rfl) (by assumption) (fun s => ?hy) ?_; case hy => (go_simp <;> with_reducible rfl)
        try simp only [List.getElem_toArray, List.getElem_cons_succ, List.getElem_cons_zero, Act.put, List.setIfInBounds_toArray, List.set_cons_zero, List.set_cons_succ]
        refine mixs_two 4 16 (by kernel_rfl) rfl rfl (fun K hK => ?_) (fun K hK => ?_)
        ·
          refine op_load_st (by kernel_rfl) 0 hS rfl rfl rfl (by simp [scalarB, go_sem]) rfl ?_
          try clear hC
          refine hK.out _ _ _ (fun _ h => h) (by first | exact hS | exact hS.drop | exact hS.drop.drop | exact hS.drop.drop.drop | exact hS.drop.drop.drop.drop | exact hS.empty | exact hS.one 0 rfl | exact hS.one 1 rfl | exact hS.one 2 rfl | exact hS.one 3 rfl | exact hS.one 4 rfl | exact hS.one 5 rfl | exact hS.one 6 rfl | exact hS.one 7 rfl | exact hS.one 8 rfl | exact hS.one 9 rfl | exact hS.one 10 rfl | exact hS.one 11 rfl) (fun hC => ?_)
          clear hK K
          try simp only [List.getElem_toArray, List.getElem_cons_succ, List.getElem_cons_zero, Act.put, List.setIfInBounds_toArray, List.set_cons_zero, List.set_cons_succ]
          refine mixs_take 6 (v := ?_) rfl (by kernel_rfl) (fun _ _ _ h => h) (by kernel_rfl) (by assumption) (fun s => ?hy) ?_; case hy => (go_simp <;> with_reducible rfl)
          try simp only [List.getElem_toArray, List.getElem_cons_succ, List.getElem_cons_zero, Act.put, List.setIfInBounds_toArray, List.set_cons_zero, List.set_cons_succ]
          refine mixs_take 7 (v := ?_) rfl (by kernel_rfl) (fun _ _ _ h => h) (by kernel_rfl) (by assumption) (fun s => ?hy) ?_; case hy => (go_simp <;> with_reducible rfl)
          try simp only [List.getElem_toArray, List.getElem_cons_succ, List.getElem_cons_zero, Act.put, List.setIfInBounds_toArray, List.set_cons_zero, List.set_cons_succ]
          refine mixs_two 8 16 (by kernel_rfl) rfl rfl (fun K hK => ?_) (fun K hK => ?_)
          ·
            ( first | (refine op_loadcell_st (by kernel_rfl) 2 hS rfl rfl rfl hsi hc0.out ?_) | (refine op_loadcell_st (by kernel_rfl) 2 hS rfl rfl rfl hss hc1.out ?_) | (go_at_call 80; (with_reducible refine (cPj.out _ hS.pre0).mono ?_); rintro _ w5 ⟨rfl, sv5, hk⟩; have hS1 := hS.call0 hk; clear hS hk; have hS := hS1; clear hS1) )
            try clear hC
            refine hK.out _ _ _ (fun _ h => h) (by first | exact hS | exact hS.drop | exact hS.drop.drop | exact hS.drop.drop.drop | exact hS.drop.drop.drop.drop | exact hS.empty | exact hS.one 0 rfl | exact hS.one 1 rfl | exact hS.one 2 rfl | exact hS.one 3 rfl | exact hS.one 4 rfl | exact hS.one 5 rfl | exact hS.one 6 rfl | exact hS.one 7 rfl | exact hS.one 8 rfl | exact hS.one 9 rfl | exact hS.one 10 rfl | exact hS.one 11 rfl) (fun hC => ?_)
            clear hK K
            try simp only [List.getElem_toArray, List.getElem_cons_succ, List.getElem_cons_zero, Act.put, List.setIfInBounds_toArray, List.set_cons_zero, List.set_cons_succ]
            refine mixs_one 16 (by kernel_rfl) rfl (fun K hK => ?_)
            ( first | (refine op_loadcell_st (by kernel_rfl) 2 hS rfl rfl rfl hsi hc0.out ?_) | (refine op_loadcell_st (by kernel_rfl) 2 hS rfl rfl rfl hss hc1.out ?_) | (go_at_call 80; (with_reducible refine (cPj.out _ hS.pre0).mono ?_); rintro _ w5 ⟨rfl, sv5, hk⟩; have hS1 := hS.call0 hk; clear hS hk; have hS := hS1; clear hS1) )
            try clear hC
            refine hK.out _ _ _ (fun _ h => h) (by first | exact hS | exact hS.drop | exact hS.drop.drop | exact hS.drop.drop.drop | exact hS.drop.drop.drop.drop | exact hS.empty | exact hS.one 0 rfl | exact hS.one 1 rfl | exact hS.one 2 rfl | exact hS.one 3 rfl | exact hS.one 4 rfl | exact hS.one 5 rfl | exact hS.one 6 rfl | exact hS.one 7 rfl | exact hS.one 8 rfl | exact hS.one 9 rfl | exact hS.one 10 rfl | exact hS.one 11 rfl) (fun hC => ?_)
            clear hK K
            try simp only [List.getElem_toArray, List.getElem_cons_succ, List.getElem_cons_zero, Act.put, List.setIfInBounds_toArray, List.set_cons_zero, List.set_cons_succ]
            refine mixs_one 17 (by kernel_rfl) rfl (fun K hK => ?_)
            go_simp
            ( first | (refine op_loadcell_st (by kernel_rfl) 2 hS rfl rfl rfl hsi hc0.out ?_) | (refine op_loadcell_st (by kernel_rfl) 2 hS rfl rfl rfl hss hc1.out ?_) | (go_at_call 80; (with_reducible refine (cPj.out _ hS.pre0).mono ?_); rintro _ w5 ⟨rfl, sv5, hk⟩; have hS1 := hS.call0 hk; clear hS hk; have hS := hS1; clear hS1) )
            try clear hC
            refine hK.out _ _ _ (fun _ h => h) (by first | exact hS | exact hS.drop | exact hS.drop.drop | exact hS.drop.drop.drop | exact hS.drop.drop.drop.drop | exact hS.empty | exact hS.one 0 rfl | exact hS.one 1 rfl | exact hS.one 2 rfl | exact hS.one 3 rfl | exact hS.one 4 rfl | exact hS.one 5 rfl | exact hS.one 6 rfl | exact hS.one 7 rfl | exact hS.one 8 rfl | exact hS.one 9 rfl | exact hS.one 10 rfl | exact hS.one 11 rfl) (fun hC => ?_)
            clear hK K
            try simp only [List.getElem_toArray, List.getElem_cons_succ, List.getElem_cons_zero, Act.put, List.setIfInBounds_toArray, List.set_cons_zero, List.set_cons_succ]
            refine wpAnyH_done (by kernel_rfl) ?_ _
            try clear hC
            go_wp2_with fail
            go_roundg (n - (j + 1))
            case measure => omega
            case rel => exact ⟨j + 1, l.set q ⟨xb, false⟩, _, by omega, by go_num, Lib.hid hnext.out.symm, by rw [List.length_set]; exact hS⟩
          ·
            ( first | (refine op_loadcell_st (by kernel_rfl) 2 hS rfl rfl rfl hsi hc0.out ?_) | (refine op_loadcell_st (by kernel_rfl) 2 hS rfl rfl rfl hss hc1.out ?_) | (go_at_call 80; (with_reducible refine (cPj.out _ hS.pre0).mono ?_); rintro _ w5 ⟨rfl, sv5, hk⟩; have hS1 := hS.call0 hk; clear hS hk; have hS := hS1; clear hS1) )
            try clear hC
            refine hK.out _ _ _ (fun _ h => h) (by first | exact hS | exact hS.drop | exact hS.drop.drop | exact hS.drop.drop.drop | exact hS.drop.drop.drop.drop | exact hS.empty | exact hS.one 0 rfl | exact hS.one 1 rfl | exact hS.one 2 rfl | exact hS.one 3 rfl | exact hS.one 4 rfl | exact hS.one 5 rfl | exact hS.one 6 rfl | exact hS.one 7 rfl | exact hS.one 8 rfl | exact hS.one 9 rfl | exact hS.one 10 rfl | exact hS.one 11 rfl) (fun hC => ?_)
            clear hK K
            try simp only [List.getElem_toArray, List.getElem_cons_succ, List.getElem_cons_zero, Act.put, List.setIfInBounds_toArray, List.set_cons_zero, List.set_cons_succ]
            refine mixs_one 8 (by kernel_rfl) rfl (fun K hK => ?_)
            ( first | (refine op_loadcell_st (by kernel_rfl) 2 hS rfl rfl rfl hsi hc0.out ?_) | (refine op_loadcell_st (by kernel_rfl) 2 hS rfl rfl rfl hss hc1.out ?_) | (go_at_call 80; (with_reducible refine (cPj.out _ hS.pre0).mono ?_); rintro _ w5 ⟨rfl, sv5, hk⟩; have hS1 := hS.call0 hk; clear hS hk; have hS := hS1; clear hS1) )
            try clear hC
            refine hK.out _ _ _ (fun _ h => h) (by first | exact hS | exact hS.drop | exact hS.drop.drop | exact hS.drop.drop.drop | exact hS.drop.drop.drop.drop | exact hS.empty | exact hS.one 0 rfl | exact hS.one 1 rfl | exact hS.one 2 rfl | exact hS.one 3 rfl | exact hS.one 4 rfl | exact hS.one 5 rfl | exact hS.one 6 rfl | exact hS.one 7 rfl | exact hS.one 8 rfl | exact hS.one 9 rfl | exact hS.one 10 rfl | exact hS.one 11 rfl) (fun hC => ?_)
            clear hK K
            try simp only [List.getElem_toArray, List.getElem_cons_succ, List.getElem_cons_zero, Act.put, List.setIfInBounds_toArray, List.set_cons_zero, List.set_cons_succ]
            refine mixs_one 17 (by kernel_rfl) rfl (fun K hK => ?_)
            go_simp
            ( first | (refine op_loadcell_st (by kernel_rfl) 2 hS rfl rfl rfl hsi hc0.out ?_) | (refine op_loadcell_st (by kernel_rfl) 2 hS rfl rfl rfl hss hc1.out ?_) | (go_at_call 80; (with_reducible refine (cPj.out _ hS.pre0).mono ?_); rintro _ w5 ⟨rfl, sv5, hk⟩; have hS1 := hS.call0 hk; clear hS hk; have hS := hS1; clear hS1) )
            try clear hC
            refine hK.out _ _ _ (fun _ h => h) (by first | exact hS | exact hS.drop | exact hS.drop.drop | exact hS.drop.drop.drop | exact hS.drop.drop.drop.drop | exact hS.empty | exact hS.one 0 rfl | exact hS.one 1 rfl | exact hS.one 2 rfl | exact hS.one 3 rfl | exact hS.one 4 rfl | exact hS.one 5 rfl | exact hS.one 6 rfl | exact hS.one 7 rfl | exact hS.one 8 rfl | exact hS.one 9 rfl | exact hS.one 10 rfl | exact hS.one 11 rfl) (fun hC => ?_)
            clear hK K
            try simp only [List.getElem_toArray, List.getElem_cons_succ, List.getElem_cons_zero, Act.put, List.setIfInBounds_toArray, List.set_cons_zero, List.set_cons_succ]
            refine wpAnyH_done (by kernel_rfl) ?_ _
            try clear hC
            go_wp2_with fail
            go_roundg (n - (j + 1))
            case measure => omega
            case rel => exact ⟨j + 1, l.set q ⟨xb, false⟩, _, by omega, by go_num, Lib.hid hnext.out.symm, by rw [List.length_set]; exact hS⟩
        ·
          ( first | (refine op_loadcell_st (by kernel_rfl) 2 hS rfl rfl rfl hsi hc0.out ?_) | (refine op_loadcell_st (by kernel_rfl) 2 hS rfl rfl rfl hss hc1.out ?_) | (go_at_call 80; (with_reducible refine (cPj.out _ hS.pre0).mono ?_); rintro _ w5 ⟨rfl, sv5, hk⟩; have hS1 := hS.call0 hk; clear hS hk; have hS := hS1; clear hS1) )
          try clear hC
          refine hK.out _ _ _ (fun _ h => h) (by first | exact hS | exact hS.drop | exact hS.drop.drop | exact hS.drop.drop.drop | exact hS.drop.drop.drop.drop | exact hS.empty | exact hS.one 0 rfl | exact hS.one 1 rfl | exact hS.one 2 rfl | exact hS.one 3 rfl | exact hS.one 4 rfl | exact hS.one 5 rfl | exact hS.one 6 rfl | exact hS.one 7 rfl | exact hS.one 8 rfl | exact hS.one 9 rfl | exact hS.one 10 rfl | exact hS.one 11 rfl) (fun hC => ?_)
          clear hK K
          try simp only [List.getElem_toArray, List.getElem_cons_succ, List.getElem_cons_zero, Act.put, List.setIfInBounds_toArray, List.set_cons_zero, List.set_cons_succ]
          refine mixs_one 4 (by kernel_rfl) rfl (fun K hK => ?_)
          refine op_load_st (by kernel_rfl) 0 hS rfl rfl rfl (by simp [scalarB, go_sem]) rfl ?_
          try clear hC
          refine hK.out _ _ _ (fun _ h => h) (by first | exact hS | exact hS.drop | exact hS.drop.drop | exact hS.drop.drop.drop | exact hS.drop.drop.drop.drop | exact hS.empty | exact hS.one 0 rfl | exact hS.one 1 rfl | exact hS.one 2 rfl | exact hS.one 3 rfl | exact hS.one 4 rfl | exact hS.one 5 rfl | exact hS.one 6 rfl | exact hS.one 7 rfl | exact hS.one 8 rfl | exact hS.one 9 rfl | exact hS.one 10 rfl | exact hS.one 11 rfl) (fun hC => ?_)
          clear hK K
          try simp only [List.getElem_toArray, List.getElem_cons_succ, List.getElem_cons_zero, Act.put, List.setIfInBounds_toArray, List.set_cons_zero, List.set_cons_succ]
          refine mixs_take 6 (v := ?_) rfl (by kernel_rfl) (fun _ _ _ h => h) (by kernel_rfl) (by assumption) (fun s => ?hy) ?_; case hy => (go_simp <;> with_reducible rfl)
          try simp only [List.getElem_toArray, List.getElem_cons_succ, List.getElem_cons_zero, Act.put, List.setIfInBounds_toArray, List.set_cons_zero, List.set_cons_succ]
          refine mixs_take 7 (v := ?_) rfl (by kernel_rfl) (fun _ _ _ h => h) (by kernel_rfl) (by assumption) (fun s => ?hy) ?_; case hy => (go_simp <;> with_reducible rfl)
          try simp only [List.getElem_toArray, List.getElem_cons_succ, List.getElem_cons_zero, Act.put, List.setIfInBounds_toArray, List.set_cons_zero, List.set_cons_succ]
          refine mixs_one 8 (by kernel_rfl) rfl (fun K hK => ?_)
          ( first | (refine op_loadcell_st (by kernel_rfl) 2 hS rfl rfl rfl hsi hc0.out ?_) | (refine op_loadcell_st (by kernel_rfl) 2 hS rfl rfl rfl hss hc1.out ?_) | (go_at_call 80; (with_reducible refine (cPj.out _ hS.pre0).mono ?_); rintro _ w5 ⟨rfl, sv5, hk⟩; have hS1 := hS.call0 hk; clear hS hk; have hS := hS1; clear hS1) )
          try clear hC
          refine hK.out _ _ _ (fun _ h => h) (by first | exact hS | exact hS.drop | exact hS.drop.drop | exact hS.drop.drop.drop | exact hS.drop.drop.drop.drop | exact hS.empty | exact hS.one 0 rfl | exact hS.one 1 rfl | exact hS.one 2 rfl | exact hS.one 3 rfl | exact hS.one 4 rfl | exact hS.one 5 rfl | exact hS.one 6 rfl | exact hS.one 7 rfl | exact hS.one 8 rfl | exact hS.one 9 rfl | exact hS.one 10 rfl | exact hS.one 11 rfl) (fun hC => ?_)
          clear hK K
          try simp only [List.getElem_toArray, List.getElem_cons_succ, List.getElem_cons_zero, Act.put, List.setIfInBounds_toArray, List.set_cons_zero, List.set_cons_succ]
          refine mixs_one 17 (by kernel_rfl) rfl (fun K hK => ?_)
          go_simp
          ( first | (refine op_loadcell_st (by kernel_rfl) 2 hS rfl rfl rfl hsi hc0.out ?_) | (refine op_loadcell_st (by kernel_rfl) 2 hS rfl rfl rfl hss hc1.out ?_) | (go_at_call 80; (with_reducible refine (cPj.out _ hS.pre0).mono ?_); rintro _ w5 ⟨rfl, sv5, hk⟩; have hS1 := hS.call0 hk; clear hS hk; have hS := hS1; clear hS1) )
          try clear hC
          refine hK.out _ _ _ (fun _ h => h) (by first | exact hS | exact hS.drop | exact hS.drop.drop | exact hS.drop.drop.drop | exact hS.drop.drop.drop.drop | exact hS.empty | exact hS.one 0 rfl | exact hS.one 1 rfl | exact hS.one 2 rfl | exact hS.one 3 rfl | exact hS.one 4 rfl | exact hS.one 5 rfl | exact hS.one 6 rfl | exact hS.one 7 rfl | exact hS.one 8 rfl | exact hS.one 9 rfl | exact hS.one 10 rfl | exact hS.one 11 rfl) (fun hC => ?_)
          clear hK K
          try simp only [List.getElem_toArray, List.getElem_cons_succ, List.getElem_cons_zero, Act.put, List.setIfInBounds_toArray, List.set_cons_zero, List.set_cons_succ]
          refine wpAnyH_done (by kernel_rfl) ?_ _
          try clear hC
          go_wp2_with fail
          go_roundg (n - (j + 1))
          case measure => omega
          case rel => exact ⟨j + 1, l.set q ⟨xb, false⟩, _, by omega, by go_num, Lib.hid hnext.out.symm, by rw [List.length_set]; exact hS⟩
    · have hT : wl.take j = wl := List.take_of_length_le (by have := hn.out; omega)
      rw [hT] at hl'
      obtain ⟨av', cv', hsv, -⟩ := hS.row 1 rfl
      subst hsv
      go_wp2_with (first | (with_reducible refine wpList_box_st hS rfl rfl rfl ?_; intro g1 w1 hS1; clear hS; replace hS := hS1; clear hS1) | (with_reducible refine wpList_box1_st hS rfl rfl rfl ?_; intro g1 w1 hS1; clear hS; replace hS := hS1; clear hS1) | (with_reducible refine wpList_alloc_st hS rfl rfl (by assumption) ?_; intro g1 w1 hS1; clear hS; replace hS := hS1; clear hS1) | (with_reducible refine wpList_alloc1_st hS rfl rfl (by assumption) rfl ?_; intro g1 w1 hS1; clear hS; replace hS := hS1; clear hS1) | ((with_reducible refine wpList_load_st 0 hS rfl rfl rfl rfl ?_ rfl ?_); focus (simp [scalarB, go_sem]; done)) | ((with_reducible refine wpList_loadall_st 0 hS rfl rfl rfl rfl ?_ (by kernel_rfl) ?_); focus (simp [rowB, go_sem]; done)) | ((with_reducible refine wpList_store_st 0 hS rfl rfl rfl rfl (by kernel_rfl) rfl rfl ?_); intro w1 hS1; clear hS; replace hS := hS1; clear hS1; try simp only [List.set_cons_zero, List.set_cons_succ, List.setIfInBounds_toArray, List.take_succ_cons, List.take_zero, List.drop_succ_cons, List.drop_zero, List.nil_append, List.cons_append, List.append_nil, List.drop_nil, List.take_nil, List.length_cons, List.length_nil, Nat.zero_add, Nat.add_zero, Nat.reduceAdd] at hS) | ((with_reducible refine wpList_storerow_st 0 hS rfl rfl rfl rfl (by kernel_rfl) rfl rfl rfl rfl ?_); intro w1 hS1; clear hS; replace hS := hS1; clear hS1; try simp only [List.set_cons_zero, List.set_cons_succ, List.setIfInBounds_toArray, List.take_succ_cons, List.take_zero, List.drop_succ_cons, List.drop_zero, List.nil_append, List.cons_append, List.append_nil, List.drop_nil, List.take_nil, List.length_cons, List.length_nil, Nat.zero_add, Nat.add_zero, Nat.reduceAdd] at hS))
      go_ret
      rw [hl'.out, Dk.done_length, hns.out] at hS
      exact ⟨rfl, _, _, (hS.nilrow 141 2).rot3.front (A := [_, _, _])⟩

theorem rsync_any37 (pq : Pl37) (g : Nat) (sv wv : Value) (d : Dk) (w : World) (h : St w (feet (rdp37 pq g sv wv d)) (rdp37 pq g sv wv d) w) (hok : d.Ok) (hl : d.sec.length ≤ 100000) (hw : d.wait.length ≤ 100000) (hf : -9223372036854775808 ≤ d.fuse ∧ d.fuse ≤ 9223372036854775807) :
    Calls Try.prog 67 #[.pointer (some ⟨g, 2, none⟩)] w fun e w' => e = .returned (.int .i64 d.sync.2) ∧ ∃ sv' wv', St w (feet (rdp37 pq g sv wv d)) (rdp37 pq g sv' wv' d.sync.1) w' := by
  have hpos := hok.pos
  by_cases hdd : d.dead = true
  · have hd : d.sync = (d, 15) := by
      have hr : d.ready 0 = 15 := by rw [Dk.ready, if_pos hdd]
      rw [Dk.sync, hr, if_neg (by omega)]
    rw [hd]
    have hS := h
    unfold rdp37 at hS
    rw [hdd] at hS
    have c := hS.cell 0 rfl
    have hkeep := Lib.hid h
    clear h hS hd hok hf
    obtain ⟨av, cv, rfl, -⟩ := hkeep.out.row 1 rfl
    obtain ⟨aw, cw, rfl, -⟩ := hkeep.out.row 2 rfl
    go_enter Try.func67, Try.ntmps67
    go_wp2_with fail
    go_ret
    exact ⟨rfl, _, _, hkeep.out⟩
  · replace hdd : d.dead = false := by simpa using hdd
    have hr : d.ready 0 = 0 := by rw [Dk.ready, if_neg (by simp [hdd]), if_neg (by omega)]
    cases hsd : d.step.dead with
    | false =>
      have hd : d.sync = ({ d.step with sec := Dk.done d.sec d.wait, wait := [] }, 0) := by rw [Dk.sync, if_pos hr, if_neg (by simp [hsd])]
      rw [hd]
      exact rsync_main37 pq g sv wv d w h hok hdd hsd hl hw hf
    | true =>
      have hd : d.sync = (d.step, 15) := by rw [Dk.sync, if_pos hr, if_pos hsd]
      rw [hd]
      have cS := rstep_any37 pq g sv wv d w h hf hdd
      rw [hsd] at cS
      have hS := h
      unfold rdp37 at hS
      rw [hdd] at hS
      have c := hS.cell 0 rfl
      obtain ⟨av, cv, rfl, -⟩ := h.row 1 rfl
      obtain ⟨aw, cw, rfl, -⟩ := h.row 2 rfl
      clear hd hok hf hS h hr hsd
      replace cS := Lib.hid cS
      go_enter Try.func67, Try.ntmps67
      go_wp2_with (first
        | (go_at_call 81; (with_reducible refine cS.out.mono ?_); rintro _ w4 ⟨rfl, hk⟩; replace hk := Lib.hid hk))
      go_ret
      exact ⟨rfl, _, _, hk.out⟩

theorem rcrash_any37 (pq : Pl37) (g : Nat) (sv wv : Value) (d : Dk) (ak : Option Addr) (keep : List Int) (nk ck : Nat) (w : World) (h : St w (feet (rdp37 pq g sv wv d)) (rdp37 pq g sv wv d) w) (hok : d.Ok) (hl : d.sec.length ≤ 100000) (hw : d.wait.length ≤ 100000)
    (hks : Sl w ak (keep.map vi)) (hkb : ∀ z ∈ keep, z ≤ 9223372036854775807) (hkn : keep.length = nk) (hkm : nk ≤ maxLen) (hap : 0 < nk → ∀ b o, ak = some ⟨b, o, none⟩ → b ∉ feet (rdp37 pq g sv wv d)) :
    Calls Try.prog 37 #[.pointer (some ⟨g, 2, none⟩), .slice ak nk ck] w fun e w' => e = .returned (.tuple #[]) ∧ ∃ sv' wv', St w (feet (rdp37 pq g sv wv d)) (rdp37 pq g sv' wv' (d.crash keep)) w' := by
  have hcell := rwt_cell d.wait
  have hwok := hok.wait
  have hfl := (Dk.fall_ok keep d.wait 0 d.sec hok.sec fun w hw => (hok.wait w hw).2.2).2
  have cP : ∀ (sv' : Value) (l : List Sc) (q : Nat) (x : List UInt8) (W : World), St W (feet (rdp37 pq g sv' wv { d with sec := l })) (rdp37 pq g sv' wv { d with sec := l }) W → q < l.length → l.length ≤ 100000 →
      Calls Try.prog 80 #[.pointer (some ⟨g, 2, none⟩), .int .i64 q, .string (str x)] W fun e w' => e = .returned (.tuple #[]) ∧ ∃ sv'', St W (feet (rdp37 pq g sv' wv { d with sec := l })) (rdp37 pq g sv'' wv { d with sec := l.set q ⟨x, false⟩ }) w' :=
    fun sv' l q x W h hq hl => rput_d37 pq g sv' wv { d with sec := l } q (str x) ⟨x, false⟩ W h hq hl (by simp [rsc])
  have cB : ∀ (sv' : Value) (l : List Sc) (q : Nat) (x : List UInt8) (W : World), St W (feet (rdp37 pq g sv' wv { d with sec := l })) (rdp37 pq g sv' wv { d with sec := l }) W → q < l.length → l.length ≤ 100000 →
      Calls Try.prog 80 #[.pointer (some ⟨g, 2, none⟩), .int .i64 q, .string ⟨#[]⟩] W fun e w' => e = .returned (.tuple #[]) ∧ ∃ sv'', St W (feet (rdp37 pq g sv' wv { d with sec := l })) (rdp37 pq g sv'' wv { d with sec := l.set q ⟨x, true⟩ }) w' :=
    fun sv' l q x W h hq hl => rput_d37 pq g sv' wv { d with sec := l } q ⟨#[]⟩ ⟨x, true⟩ W h hq hl (by simp [rsc]; rfl)
  have hS := h
  generalize feet (rdp37 pq g sv wv d) = F at hS hap ⊢
  clear h hok
  unfold rdp37 at cP cB hS ⊢
  unfold Dk.crash
  simp only [hfl, List.map_nil, List.flatten_nil, List.length_nil, List.length_set] at cP cB hS ⊢
  clear hfl
  obtain ⟨av, cv, rfl, -⟩ := hS.row 1 rfl
  obtain ⟨aw, cw, rfl, -⟩ := hS.row 2 rfl
  generalize d.wait = wl at *
  generalize d.sec = sec at *
  generalize d.fuse = fz at *
  generalize d.dead = dd at *
  generalize (wl.map rwt).flatten = R2 at *
  obtain ⟨n, hn⟩ : ∃ n, wl.length = n := ⟨_, rfl⟩
  obtain ⟨ns, hns⟩ : ∃ n, sec.length = n := ⟨_, rfl⟩
  rw [hn] at hw hS cP cB
  rw [hns] at hwok hl hS ⊢
  unfold maxLen at hkm
  replace cP := Lib.hid cP
  replace cB := Lib.hid cB
  replace hcell := Lib.hid hcell
  replace hwok := Lib.hid hwok
  replace hn := Lib.hid hn
  replace hns := Lib.hid hns
  replace hkn := Lib.hid hkn
  replace hks := Lib.hid hks
  replace hap := Lib.hid hap
  replace hkb := Lib.hid hkb
  have hsi : scalarB Try.prog 3 = true := by simp [scalarB, go_sem]
  have hss : scalarB Try.prog 9 = true := by simp [scalarB, go_sem]
  go_enter Try.func37, Try.ntmps37
  go_wp2_with fail
  go_loopg [4] n (fun gk vx wr => ∃ (j : Nat) (l : List Sc) (sv' : Value), j + gk = n ∧ vx = .int .i64 j ∧ Hid (Dk.fall keep 0 sec wl = Dk.fall keep j l (wl.drop j) ∧ l.length = ns) ∧ St w F [Ch.blk g 94 #[pq.a0, pq.a1, sv', .slice aw n cw, .int .i64 fz, .bool dd, pq.b0, pq.b1, pq.b2, pq.b3, pq.b4], Ch.row 9 1 sv' l.length (l.map rsc), Ch.row 141 2 (.slice aw n cw) n R2] wr)
  case atStart => exact ⟨0, sec, _, Nat.zero_add _, rfl, Lib.hid ⟨rfl, hns.out⟩, by rw [hns.out]; exact hS⟩
  case round =>
    clear hS
    obtain ⟨j, l, sv', hjn, rfl, hl', hS⟩ := hrel
    obtain ⟨av', cv', hsv, -⟩ := hS.row 1 rfl
    subst hsv
    obtain ⟨hfa, hll⟩ := hl'.out
    clear hl'
    by_cases hlt : j < n
    · have hj' : j < wl.length := by have := hn.out; omega
      obtain ⟨hc0, hc1⟩ := hcell.out j hj'
      obtain ⟨hp1, hp2, hw2⟩ := hwok.out wl[j] (List.getElem_mem hj')
      rw [List.drop_eq_getElem_cons hj', fall_cons] at hfa
      obtain ⟨gw, cw', hwv, -⟩ := hS.rowat 2 rfl (by omega)
      cases hwv
      generalize wl[j] = x at *
      obtain ⟨xp, xb⟩ := x
      simp only at hc0 hc1 hp1 hp2
      obtain ⟨q, rfl⟩ := Int.eq_ofNat_of_zero_le hp1
      have hq : q < l.length := by omega
      have hmod := modify_bad l q hq
      have hf1 : Dk.fall1 keep l j ⟨q, xb⟩ = if Dk.fate keep j = 1 then l.set q ⟨xb, false⟩ else if Dk.fate keep j = 2 then l.set q ⟨l[q].b, true⟩ else l := by
        rw [Dk.fall1, Int.toNat_natCast, hmod]
      rw [hf1] at hfa
      have cPj := fun W h => cP.out (.slice av' l.length cv') l q xb W h hq (by omega)
      have cBj := fun W h => cB.out (.slice av' l.length cv') l q l[q].b W h hq (by omega)
      have hl1 : (l.set q ⟨xb, false⟩).length = ns := by rw [List.length_set, hll]
      have hl2 : (l.set q ⟨l[q].b, true⟩).length = ns := by rw [List.length_set, hll]
      have hl1' : (l.set q ⟨xb, false⟩).length = l.length := List.length_set ..
      have hl2' : (l.set q ⟨l[q].b, true⟩).length = l.length := List.length_set ..
      generalize l.set q ⟨xb, false⟩ = L1 at *
      generalize l.set q ⟨l[q].b, true⟩ = L2 at *
      replace cPj := Lib.hid cPj
      replace cBj := Lib.hid cBj
      replace hc0 := Lib.hid hc0
      replace hc1 := Lib.hid hc1
      replace hll := Lib.hid hll
      replace hl1 := Lib.hid hl1
      replace hl2 := Lib.hid hl2
      replace hl1' := Lib.hid hl1'
      replace hl2' := Lib.hid hl2'
      clear hcell hwok hp1 hp2 hmod hf1
      by_cases hjk : j < nk
      · have hjl : j < keep.length := by rw [hkn.out]; exact hjk
        obtain ⟨bk, ok, rfl, hcz⟩ := sl_int hks.out j hjl
        have hft : Dk.fate keep j = if 0 ≤ keep[j] then keep[j] % 3 else 0 := by
          unfold Dk.fate
          have : keep.getD j 0 = keep[j] := by rw [List.getD_eq_getElem?_getD, List.getElem?_eq_getElem hjl]; rfl
          rw [this]
          simp [hjl]
        have hzb := hkb.out keep[j] (List.getElem_mem hjl)
        have hcz2 := hS.old hcz (hap.out (by omega) bk ok rfl)
        generalize keep[j] = z at hcz hcz2 hft hzb
        clear hks hkb hkn hcz
        by_cases h0 : 0 ≤ z
        · rw [if_pos h0] at hft
          have h3 : z % 3 = 0 ∨ z % 3 = 1 ∨ z % 3 = 2 := by omega
          rcases h3 with h3 | h3 | h3
          · have hfv : Dk.fate keep j = 0 := hft.trans h3
            rw [hfv, if_neg (by omega), if_neg (by omega)] at hfa
            replace hfa := Lib.hid hfa
            clear hft hfv
            go_wp2_with (first | (with_reducible refine wpList_box_st hS rfl rfl rfl ?_; intro g1 w1 hS1; clear hS; replace hS := hS1; clear hS1) | (with_reducible refine wpList_box1_st hS rfl rfl rfl ?_; intro g1 w1 hS1; clear hS; replace hS := hS1; clear hS1) | (with_reducible refine wpList_alloc_st hS rfl rfl (by assumption) ?_; intro g1 w1 hS1; clear hS; replace hS := hS1; clear hS1) | (with_reducible refine wpList_alloc1_st hS rfl rfl (by assumption) rfl ?_; intro g1 w1 hS1; clear hS; replace hS := hS1; clear hS1) | ((with_reducible refine wpList_load_st 0 hS rfl rfl rfl rfl ?_ rfl ?_); focus (simp [scalarB, go_sem]; done)) | ((with_reducible refine wpList_loadall_st 0 hS rfl rfl rfl rfl ?_ (by kernel_rfl) ?_); focus (simp [rowB, go_sem]; done)) | ((with_reducible refine wpList_store_st 0 hS rfl rfl rfl rfl (by kernel_rfl) rfl rfl ?_); intro w1 hS1; clear hS; replace hS := hS1; clear hS1; try simp only [List.set_cons_zero, List.set_cons_succ, List.setIfInBounds_toArray, List.take_succ_cons, List.take_zero, List.drop_succ_cons, List.drop_zero, List.nil_append, List.cons_append, List.append_nil, List.drop_nil, List.take_nil, List.length_cons, List.length_nil, Nat.zero_add, Nat.add_zero, Nat.reduceAdd] at hS) | ((with_reducible refine wpList_storerow_st 0 hS rfl rfl rfl rfl (by kernel_rfl) rfl rfl rfl rfl ?_); intro w1 hS1; clear hS; replace hS := hS1; clear hS1; try simp only [List.set_cons_zero, List.set_cons_succ, List.setIfInBounds_toArray, List.take_succ_cons, List.take_zero, List.drop_succ_cons, List.drop_zero, List.nil_append, List.cons_append, List.append_nil, List.drop_nil, List.take_nil, List.length_cons, List.length_nil, Nat.zero_add, Nat.add_zero, Nat.reduceAdd] at hS))
            go_roundg (n - (j + 1))
            case measure => omega
            case rel => exact ⟨j + 1, l, _, by omega, by go_num, Lib.hid ⟨hfa.out, hll.out⟩, hS⟩
          · have hfv : Dk.fate keep j = 1 := hft.trans h3
            rw [hfv, if_pos rfl] at hfa
            replace hfa := Lib.hid hfa
            clear hft hfv
            go_wp2_with (first | (with_reducible refine wpList_box_st hS rfl rfl rfl ?_; intro g1 w1 hS1; clear hS; replace hS := hS1; clear hS1) | (with_reducible refine wpList_box1_st hS rfl rfl rfl ?_; intro g1 w1 hS1; clear hS; replace hS := hS1; clear hS1) | (with_reducible refine wpList_alloc_st hS rfl rfl (by assumption) ?_; intro g1 w1 hS1; clear hS; replace hS := hS1; clear hS1) | (with_reducible refine wpList_alloc1_st hS rfl rfl (by assumption) rfl ?_; intro g1 w1 hS1; clear hS; replace hS := hS1; clear hS1) | ((with_reducible refine wpList_load_st 0 hS rfl rfl rfl rfl ?_ rfl ?_); focus (simp [scalarB, go_sem]; done)) | ((with_reducible refine wpList_loadall_st 0 hS rfl rfl rfl rfl ?_ (by kernel_rfl) ?_); focus (simp [rowB, go_sem]; done)) | ((with_reducible refine wpList_store_st 0 hS rfl rfl rfl rfl (by kernel_rfl) rfl rfl ?_); intro w1 hS1; clear hS; replace hS := hS1; clear hS1; try simp only [List.set_cons_zero, List.set_cons_succ, List.setIfInBounds_toArray, List.take_succ_cons, List.take_zero, List.drop_succ_cons, List.drop_zero, List.nil_append, List.cons_append, List.append_nil, List.drop_nil, List.take_nil, List.length_cons, List.length_nil, Nat.zero_add, Nat.add_zero, Nat.reduceAdd] at hS) | ((with_reducible refine wpList_storerow_st 0 hS rfl rfl rfl rfl (by kernel_rfl) rfl rfl rfl rfl ?_); intro w1 hS1; clear hS; replace hS := hS1; clear hS1; try simp only [List.set_cons_zero, List.set_cons_succ, List.setIfInBounds_toArray, List.take_succ_cons, List.take_zero, List.drop_succ_cons, List.drop_zero, List.nil_append, List.cons_append, List.append_nil, List.drop_nil, List.take_nil, List.length_cons, List.length_nil, Nat.zero_add, Nat.add_zero, Nat.reduceAdd] at hS))
            refine mixs_beginE (by kernel_rfl) hS ?_
            clear hS
            intro w2 hS hC
            refine mixs_take 0 (v := ?_) rfl (by kernel_rfl) (fun _ _ _ h => h) (by kernel_rfl) (by assumption) (fun s => ?hy) ?_; case hy => (go_simp <;> with_reducible rfl)
            try simp only [List.getElem_toArray, List.getElem_cons_succ, List.getElem_cons_zero, Act.put, List.setIfInBounds_toArray, List.set_cons_zero, List.set_cons_succ]
            refine mixs_take 1 (v := ?_) rfl (by kernel_rfl) (fun _ _ _ h => h) (by kernel_rfl) (by assumption) (fun s => ?hy) ?_; case hy => (go_simp <;> with_reducible rfl)
            try simp only [List.getElem_toArray, List.getElem_cons_succ, List.getElem_cons_zero, Act.put, List.setIfInBounds_toArray, List.set_cons_zero, List.set_cons_succ]
            refine mixs_take 2 (v := ?_) rfl (by kernel_rfl) (fun _ _ _ h => h) (by kernel_rfl) (by assumption) (fun s => ?hy) ?_; case hy => (go_simp <;> with_reducible rfl)
            try simp only [List.getElem_toArray, List.getElem_cons_succ, List.getElem_cons_zero, Act.put, List.setIfInBounds_toArray, List.set_cons_zero, List.set_cons_succ]
            refine mixs_take 3 (v := ?_) rfl (by kernel_rfl) (fun _ _ _ h => h) (by kernel_rfl) (by assumption) (fun s => ?hy) ?_; case hy => (go_simp <;> with_reducible rfl)
            try simp only [List.getElem_toArray, List.getElem_cons_succ, List.getElem_cons_zero, Act.put, List.setIfInBounds_toArray, List.set_cons_zero, List.set_cons_succ]
            refine mixs_take 5 (v := ?_) rfl (by kernel_rfl) (fun _ _ _ h => h) (by kernel_rfl) (by assumption) (fun s => ?hy) ?_; case hy => (go_simp <;> with_reducible rfl)
            try simp only [List.getElem_toArray, List.getElem_cons_succ, List.getElem_cons_zero, Act.put, List.setIfInBounds_toArray, List.set_cons_zero, List.set_cons_succ]
            refine mixs_take 9 (v := ?_) rfl (by kernel_rfl) (fun _ _ _ h => h) (by kernel_rfl) (by assumption) (fun s => ?hy) ?_; case hy => (go_simp <;> with_reducible rfl)
            try simp only [List.getElem_toArray, List.getElem_cons_succ, List.getElem_cons_zero, Act.put, List.setIfInBounds_toArray, List.set_cons_zero, List.set_cons_succ]
            refine mixs_take 10 (v := ?_) rfl (by kernel_rfl) (fun _ _ _ h => h) (by kernel_rfl) (by assumption) (fun s => ?hy) ?_; case hy => (go_simp <;> with_reducible rfl)
            try simp only [List.getElem_toArray, List.getElem_cons_succ, List.getElem_cons_zero, Act.put, List.setIfInBounds_toArray, List.set_cons_zero, List.set_cons_succ]
            refine mixs_take 11 (v := ?_) rfl (by kernel_rfl) (fun _ _ _ h => h) (by kernel_rfl) (by assumption) (fun s => ?hy) ?_; case hy => (go_simp <;> with_reducible rfl)
            try simp only [List.getElem_toArray, List.getElem_cons_succ, List.getElem_cons_zero, Act.put, List.setIfInBounds_toArray, List.set_cons_zero, List.set_cons_succ]
            refine mixs_take 13 (v := ?_) rfl (by kernel_rfl) (fun _ _ _ h => h) (by kernel_rfl) (by assumption) (fun s => ?hy) ?_; case hy => (go_simp <;> with_reducible rfl)
            try simp only [List.getElem_toArray, List.getElem_cons_succ, List.getElem_cons_zero, Act.put, List.setIfInBounds_toArray, List.set_cons_zero, List.set_cons_succ]
            refine mixs_two 4 12 (by kernel_rfl) rfl rfl (fun K hK => ?_) (fun K hK => ?_)
            ·
              refine op_load_st (by kernel_rfl) 0 hS rfl rfl rfl (by simp [scalarB, go_sem]) rfl ?_
              try clear hC
              refine hK.out _ _ _ (fun _ h => h) (by first | exact hS | exact hS.drop | exact hS.drop.drop | exact hS.drop.drop.drop | exact hS.drop.drop.drop.drop | exact hS.empty | exact hS.one 0 rfl | exact hS.one 1 rfl | exact hS.one 2 rfl | exact hS.one 3 rfl | exact hS.one 4 rfl | exact hS.one 5 rfl | exact hS.one 6 rfl | exact hS.one 7 rfl | exact hS.one 8 rfl | exact hS.one 9 rfl | exact hS.one 10 rfl | exact hS.one 11 rfl) (fun hC => ?_)
              clear hK K
              try simp only [List.getElem_toArray, List.getElem_cons_succ, List.getElem_cons_zero, Act.put, List.setIfInBounds_toArray, List.set_cons_zero, List.set_cons_succ]
              refine mixs_take 6 (v := ?_) rfl (by kernel_rfl) (fun _ _ _ h => h) (by kernel_rfl) (by assumption) (fun s => ?hy) ?_; case hy => (go_simp <;> with_reducible rfl)
              try simp only [List.getElem_toArray, List.getElem_cons_succ, List.getElem_cons_zero, Act.put, List.setIfInBounds_toArray, List.set_cons_zero, List.set_cons_succ]
              refine mixs_take 7 (v := ?_) rfl (by kernel_rfl) (fun _ _ _ h => h) (by kernel_rfl) (by assumption) (fun s => ?hy) ?_; case hy => (go_simp <;> with_reducible rfl)
              try simp only [List.getElem_toArray, List.getElem_cons_succ, List.getElem_cons_zero, Act.put, List.setIfInBounds_toArray, List.set_cons_zero, List.set_cons_succ]
              refine mixs_two 8 12 (by kernel_rfl) rfl rfl (fun K hK => ?_) (fun K hK => ?_)
              ·
                ( first | (refine op_loadcell_st (by kernel_rfl) 2 hS rfl rfl rfl hsi hc0.out ?_) | (refine op_loadcell_st (by kernel_rfl) 2 hS rfl rfl rfl hss hc1.out ?_) | (go_at_call 80; (with_reducible refine (cPj.out _ hS.pre0).mono ?_); rintro _ w5 ⟨rfl, sv5, hk⟩; have hS1 := hS.call0 hk; clear hS hk; have hS := hS1; clear hS1) )
                try clear hC
                refine hK.out _ _ _ (fun _ h => h) (by first | exact hS | exact hS.drop | exact hS.drop.drop | exact hS.drop.drop.drop | exact hS.drop.drop.drop.drop | exact hS.empty | exact hS.one 0 rfl | exact hS.one 1 rfl | exact hS.one 2 rfl | exact hS.one 3 rfl | exact hS.one 4 rfl | exact hS.one 5 rfl | exact hS.one 6 rfl | exact hS.one 7 rfl | exact hS.one 8 rfl | exact hS.one 9 rfl | exact hS.one 10 rfl | exact hS.one 11 rfl) (fun hC => ?_)
                clear hK K
                try simp only [List.getElem_toArray, List.getElem_cons_succ, List.getElem_cons_zero, Act.put, List.setIfInBounds_toArray, List.set_cons_zero, List.set_cons_succ]
                refine mixs_one 12 (by kernel_rfl) rfl (fun K hK => ?_)
                refine op_load_st (by kernel_rfl) 0 hS rfl rfl rfl (by simp [scalarB, go_sem]) rfl ?_
                try clear hC
                refine hK.out _ _ _ (fun _ h => h) (by first | exact hS | exact hS.drop | exact hS.drop.drop | exact hS.drop.drop.drop | exact hS.drop.drop.drop.drop | exact hS.empty | exact hS.one 0 rfl | exact hS.one 1 rfl | exact hS.one 2 rfl | exact hS.one 3 rfl | exact hS.one 4 rfl | exact hS.one 5 rfl | exact hS.one 6 rfl | exact hS.one 7 rfl | exact hS.one 8 rfl | exact hS.one 9 rfl | exact hS.one 10 rfl | exact hS.one 11 rfl) (fun hC => ?_)
                clear hK K
                try simp only [List.getElem_toArray, List.getElem_cons_succ, List.getElem_cons_zero, Act.put, List.setIfInBounds_toArray, List.set_cons_zero, List.set_cons_succ]
                refine mixs_take 14 (v := ?_) rfl (by kernel_rfl) (fun _ _ _ h => h) (by kernel_rfl) (by assumption) (fun s => ?hy) ?_; case hy => (go_simp <;> with_reducible rfl)
                try simp only [List.getElem_toArray, List.getElem_cons_succ, List.getElem_cons_zero, Act.put, List.setIfInBounds_toArray, List.set_cons_zero, List.set_cons_succ]
                refine mixs_take 15 (v := ?_) rfl (by kernel_rfl) (fun _ _ _ h => h) (by kernel_rfl) (by assumption) (fun s => ?hy) ?_; case hy => (go_simp <;> with_reducible rfl)
                try simp only [List.getElem_toArray, List.getElem_cons_succ, List.getElem_cons_zero, Act.put, List.setIfInBounds_toArray, List.set_cons_zero, List.set_cons_succ]
                refine mixs_one 16 (by kernel_rfl) rfl (fun K hK => ?_)
                ( first | (refine op_loadcell_st (by kernel_rfl) 2 hS rfl rfl rfl hsi hc0.out ?_) | (refine op_loadcell_st (by kernel_rfl) 2 hS rfl rfl rfl hss hc1.out ?_) | (go_at_call 80; (with_reducible refine (cPj.out _ hS.pre0).mono ?_); rintro _ w5 ⟨rfl, sv5, hk⟩; have hS1 := hS.call0 hk; clear hS hk; have hS := hS1; clear hS1) )
                try clear hC
                refine hK.out _ _ _ (fun _ h => h) (by first | exact hS | exact hS.drop | exact hS.drop.drop | exact hS.drop.drop.drop | exact hS.drop.drop.drop.drop | exact hS.empty | exact hS.one 0 rfl | exact hS.one 1 rfl | exact hS.one 2 rfl | exact hS.one 3 rfl | exact hS.one 4 rfl | exact hS.one 5 rfl | exact hS.one 6 rfl | exact hS.one 7 rfl | exact hS.one 8 rfl | exact hS.one 9 rfl | exact hS.one 10 rfl | exact hS.one 11 rfl) (fun hC => ?_)
                clear hK K
                try simp only [List.getElem_toArray, List.getElem_cons_succ, List.getElem_cons_zero, Act.put, List.setIfInBounds_toArray, List.set_cons_zero, List.set_cons_succ]
                refine mixs_one 17 (by kernel_rfl) rfl (fun K hK => ?_)
                go_simp
                ( first | (refine op_loadcell_st (by kernel_rfl) 2 hS rfl rfl rfl hsi hc0.out ?_) | (refine op_loadcell_st (by kernel_rfl) 2 hS rfl rfl rfl hss hc1.out ?_) | (go_at_call 80; (with_reducible refine (cPj.out _ hS.pre0).mono ?_); rintro _ w5 ⟨rfl, sv5, hk⟩; have hS1 := hS.call0 hk; clear hS hk; have hS := hS1; clear hS1) )
                try clear hC
                refine hK.out _ _ _ (fun _ h => h) (by first | exact hS | exact hS.drop | exact hS.drop.drop | exact hS.drop.drop.drop | exact hS.drop.drop.drop.drop | exact hS.empty | exact hS.one 0 rfl | exact hS.one 1 rfl | exact hS.one 2 rfl | exact hS.one 3 rfl | exact hS.one 4 rfl | exact hS.one 5 rfl | exact hS.one 6 rfl | exact hS.one 7 rfl | exact hS.one 8 rfl | exact hS.one 9 rfl | exact hS.one 10 rfl | exact hS.one 11 rfl) (fun hC => ?_)
                clear hK K
                try simp only [List.getElem_toArray, List.getElem_cons_succ, List.getElem_cons_zero, Act.put, List.setIfInBounds_toArray, List.set_cons_zero, List.set_cons_succ]
                refine wpAnyH_done (by kernel_rfl) ?_ _
                try clear hC
                go_wp2_with fail
                go_roundg (n - (j + 1))
                case measure => omega
                case rel => exact ⟨j + 1, L1, _, by omega, by go_num, Lib.hid ⟨hfa.out, hl1.out⟩, by rw [hl1'.out]; exact hS⟩
              ·
                refine op_load_st (by kernel_rfl) 0 hS rfl rfl rfl (by simp [scalarB, go_sem]) rfl ?_
                try clear hC
                refine hK.out _ _ _ (fun _ h => h) (by first | exact hS | exact hS.drop | exact hS.drop.drop | exact hS.drop.drop.drop | exact hS.drop.drop.drop.drop | exact hS.empty | exact hS.one 0 rfl | exact hS.one 1 rfl | exact hS.one 2 rfl | exact hS.one 3 rfl | exact hS.one 4 rfl | exact hS.one 5 rfl | exact hS.one 6 rfl | exact hS.one 7 rfl | exact hS.one 8 rfl | exact hS.one 9 rfl | exact hS.one 10 rfl | exact hS.one 11 rfl) (fun hC => ?_)
                clear hK K
                try simp only [List.getElem_toArray, List.getElem_cons_succ, List.getElem_cons_zero, Act.put, List.setIfInBounds_toArray, List.set_cons_zero, List.set_cons_succ]
                refine mixs_take 14 (v := ?_) rfl (by kernel_rfl) (fun _ _ _ h => h) (by kernel_rfl) (by assumption) (fun s => ?hy) ?_; case hy => (go_simp <;> with_reducible rfl)
                try simp only [List.getElem_toArray, List.getElem_cons_succ, List.getElem_cons_zero, Act.put, List.setIfInBounds_toArray, List.set_cons_zero, List.set_cons_succ]
                refine mixs_take 15 (v := ?_) rfl (by kernel_rfl) (fun _ _ _ h => h) (by kernel_rfl) (by assumption) (fun s => ?hy) ?_; case hy => (go_simp <;> with_reducible rfl)
                try simp only [List.getElem_toArray, List.getElem_cons_succ, List.getElem_cons_zero, Act.put, List.setIfInBounds_toArray, List.set_cons_zero, List.set_cons_succ]
                refine mixs_two 8 16 (by kernel_rfl) rfl rfl (fun K hK => ?_) (fun K hK => ?_)
                ·
                  ( first | (refine op_loadcell_st (by kernel_rfl) 2 hS rfl rfl rfl hsi hc0.out ?_) | (refine op_loadcell_st (by kernel_rfl) 2 hS rfl rfl rfl hss hc1.out ?_) | (go_at_call 80; (with_reducible refine (cPj.out _ hS.pre0).mono ?_); rintro _ w5 ⟨rfl, sv5, hk⟩; have hS1 := hS.call0 hk; clear hS hk; have hS := hS1; clear hS1) )
                  try clear hC
                  refine hK.out _ _ _ (fun _ h => h) (by first | exact hS | exact hS.drop | exact hS.drop.drop | exact hS.drop.drop.drop | exact hS.drop.drop.drop.drop | exact hS.empty | exact hS.one 0 rfl | exact hS.one 1 rfl | exact hS.one 2 rfl | exact hS.one 3 rfl | exact hS.one 4 rfl | exact hS.one 5 rfl | exact hS.one 6 rfl | exact hS.one 7 rfl | exact hS.one 8 rfl | exact hS.one 9 rfl | exact hS.one 10 rfl | exact hS.one 11 rfl) (fun hC => ?_)
                  clear hK K
                  try simp only [List.getElem_toArray, List.getElem_cons_succ, List.getElem_cons_zero, Act.put, List.setIfInBounds_toArray, List.set_cons_zero, List.set_cons_succ]
                  refine mixs_one 16 (by kernel_rfl) rfl (fun K hK => ?_)
                  ( first | (refine op_loadcell_st (by kernel_rfl) 2 hS rfl rfl rfl hsi hc0.out ?_) | (refine op_loadcell_st (by kernel_rfl) 2 hS rfl rfl rfl hss hc1.out ?_) | (go_at_call 80; (with_reducible refine (cPj.out _ hS.pre0).mono ?_); rintro _ w5 ⟨rfl, sv5, hk⟩; have hS1 := hS.call0 hk; clear hS hk; have hS := hS1; clear hS1) )
                  try clear hC
                  refine hK.out _ _ _ (fun _ h => h) (by first | exact hS | exact hS.drop | exact hS.drop.drop | exact hS.drop.drop.drop | exact hS.drop.drop.drop.drop | exact hS.empty | exact hS.one 0 rfl | exact hS.one 1 rfl | exact hS.one 2 rfl | exact hS.one 3 rfl | exact hS.one 4 rfl | exact hS.one 5 rfl | exact hS.one 6 rfl | exact hS.one 7 rfl | exact hS.one 8 rfl | exact hS.one 9 rfl | exact hS.one 10 rfl | exact hS.one 11 rfl) (fun hC => ?_)
                  clear hK K
                  try simp only [List.getElem_toArray, List.getElem_cons_succ, List.getElem_cons_zero, Act.put, List.setIfInBounds_toArray, List.set_cons_zero, List.set_cons_succ]
                  refine mixs_one 17 (by kernel_rfl) rfl (fun K hK => ?_)
                  go_simp
                  ( first | (refine op_loadcell_st (by kernel_rfl) 2 hS rfl rfl rfl hsi hc0.out ?_) | (refine op_loadcell_st (by kernel_rfl) 2 hS rfl rfl rfl hss hc1.out ?_) | (go_at_call 80; (with_reducible refine (cPj.out _ hS.pre0).mono ?_); rintro _ w5 ⟨rfl, sv5, hk⟩; have hS1 := hS.call0 hk; clear hS hk; have hS := hS1; clear hS1) )
                  try clear hC
                  refine hK.out _ _ _ (fun _ h => h) (by first | exact hS | exact hS.drop | exact hS.drop.drop | exact hS.drop.drop.drop | exact hS.drop.drop.drop.drop | exact hS.empty | exact hS.one 0 rfl | exact hS.one 1 rfl | exact hS.one 2 rfl | exact hS.one 3 rfl | exact hS.one 4 rfl | exact hS.one 5 rfl | exact hS.one 6 rfl | exact hS.one 7 rfl | exact hS.one 8 rfl | exact hS.one 9 rfl | exact hS.one 10 rfl | exact hS.one 11 rfl) (fun hC => ?_)
                  clear hK K
                  try simp only [List.getElem_toArray, List.getElem_cons_succ, List.getElem_cons_zero, Act.put, List.setIfInBounds_toArray, List.set_cons_zero, List.set_cons_succ]
                  refine wpAnyH_done (by kernel_rfl) ?_ _
                  try clear hC
                  go_wp2_with fail
                  go_roundg (n - (j + 1))
                  case measure => omega
                  case rel => exact ⟨j + 1, L1, _, by omega, by go_num, Lib.hid ⟨hfa.out, hl1.out⟩, by rw [hl1'.out]; exact hS⟩
                ·
                  ( first | (refine op_loadcell_st (by kernel_rfl) 2 hS rfl rfl rfl hsi hc0.out ?_) | (refine op_loadcell_st (by kernel_rfl) 2 hS rfl rfl rfl hss hc1.out ?_) | (go_at_call 80; (with_reducible refine (cPj.out _ hS.pre0).mono ?_); rintro _ w5 ⟨rfl, sv5, hk⟩; have hS1 := hS.call0 hk; clear hS hk; have hS := hS1; clear hS1) )
                  try clear hC
                  refine hK.out _ _ _ (fun _ h => h) (by first | exact hS | exact hS.drop | exact hS.drop.drop | exact hS.drop.drop.drop | exact hS.drop.drop.drop.drop | exact hS.empty | exact hS.one 0 rfl | exact hS.one 1 rfl | exact hS.one 2 rfl | exact hS.one 3 rfl | exact hS.one 4 rfl | exact hS.one 5 rfl | exact hS.one 6 rfl | exact hS.one 7 rfl | exact hS.one 8 rfl | exact hS.one 9 rfl | exact hS.one 10 rfl | exact hS.one 11 rfl) (fun hC => ?_)
                  clear hK K
                  try simp only [List.getElem_toArray, List.getElem_cons_succ, List.getElem_cons_zero, Act.put, List.setIfInBounds_toArray, List.set_cons_zero, List.set_cons_succ]
                  refine mixs_one 8 (by kernel_rfl) rfl (fun K hK => ?_)
                  ( first | (refine op_loadcell_st (by kernel_rfl) 2 hS rfl rfl rfl hsi hc0.out ?_) | (refine op_loadcell_st (by kernel_rfl) 2 hS rfl rfl rfl hss hc1.out ?_) | (go_at_call 80; (with_reducible refine (cPj.out _ hS.pre0).mono ?_); rintro _ w5 ⟨rfl, sv5, hk⟩; have hS1 := hS.call0 hk; clear hS hk; have hS := hS1; clear hS1) )
                  try clear hC
                  refine hK.out _ _ _ (fun _ h => h) (by first | exact hS | exact hS.drop | exact hS.drop.drop | exact hS.drop.drop.drop | exact hS.drop.drop.drop.drop | exact hS.empty | exact hS.one 0 rfl | exact hS.one 1 rfl | exact hS.one 2 rfl | exact hS.one 3 rfl | exact hS.one 4 rfl | exact hS.one 5 rfl | exact hS.one 6 rfl | exact hS.one 7 rfl | exact hS.one 8 rfl | exact hS.one 9 rfl | exact hS.one 10 rfl | exact hS.one 11 rfl) (fun hC => ?_)
                  clear hK K
                  try simp only [List.getElem_toArray, List.getElem_cons_succ, List.getElem_cons_zero, Act.put, List.setIfInBounds_toArray, List.set_cons_zero, List.set_cons_succ]
                  refine mixs_one 17 (by kernel_rfl) rfl (fun K hK => ?_)
                  go_simp
                  ( first | (refine op_loadcell_st (by kernel_rfl) 2 hS rfl rfl rfl hsi hc0.out ?_) | (refine op_loadcell_st (by kernel_rfl) 2 hS rfl rfl rfl hss hc1.out ?_) | (go_at_call 80; (with_reducible refine (cPj.out _ hS.pre0).mono ?_); rintro _ w5 ⟨rfl, sv5, hk⟩; have hS1 := hS.call0 hk; clear hS hk; have hS := hS1; clear hS1) )
                  try clear hC
                  refine hK.out _ _ _ (fun _ h => h) (by first | exact hS | exact hS.drop | exact hS.drop.drop | exact hS.drop.drop.drop | exact hS.drop.drop.drop.drop | exact hS.empty | exact hS.one 0 rfl | exact hS.one 1 rfl | exact hS.one 2 rfl | exact hS.one 3 rfl | exact hS.one 4 rfl | exact hS.one 5 rfl | exact hS.one 6 rfl | exact hS.one 7 rfl | exact hS.one 8 rfl | exact hS.one 9 rfl | exact hS.one 10 rfl | exact hS.one 11 rfl) (fun hC => ?_)
                  clear hK K
                  try simp only [List.getElem_toArray, List.getElem_cons_succ, List.getElem_cons_zero, Act.put, List.setIfInBounds_toArray, List.set_cons_zero, List.set_cons_succ]
                  refine wpAnyH_done (by kernel_rfl) ?_ _
                  try clear hC
                  go_wp2_with fail
                  go_roundg (n - (j + 1))
                  case measure => omega
                  case rel => exact ⟨j + 1, L1, _, by omega, by go_num, Lib.hid ⟨hfa.out, hl1.out⟩, by rw [hl1'.out]; exact hS⟩
            ·
              refine op_load_st (by kernel_rfl) 0 hS rfl rfl rfl (by simp [scalarB, go_sem]) rfl ?_
              try clear hC
              refine hK.out _ _ _ (fun _ h => h) (by first | exact hS | exact hS.drop | exact hS.drop.drop | exact hS.drop.drop.drop | exact hS.drop.drop.drop.drop | exact hS.empty | exact hS.one 0 rfl | exact hS.one 1 rfl | exact hS.one 2 rfl | exact hS.one 3 rfl | exact hS.one 4 rfl | exact hS.one 5 rfl | exact hS.one 6 rfl | exact hS.one 7 rfl | exact hS.one 8 rfl | exact hS.one 9 rfl | exact hS.one 10 rfl | exact hS.one 11 rfl) (fun hC => ?_)
              clear hK K
              try simp only [List.getElem_toArray, List.getElem_cons_succ, List.getElem_cons_zero, Act.put, List.setIfInBounds_toArray, List.set_cons_zero, List.set_cons_succ]
              refine mixs_take 14 (v := ?_) rfl (by kernel_rfl) (fun _ _ _ h => h) (by kernel_rfl) (by assumption) (fun s => ?hy) ?_; case hy => (go_simp <;> with_reducible rfl)
              try simp only [List.getElem_toArray, List.getElem_cons_succ, List.getElem_cons_zero, Act.put, List.setIfInBounds_toArray, List.set_cons_zero, List.set_cons_succ]
              refine mixs_take 15 (v := ?_) rfl (by kernel_rfl) (fun _ _ _ h => h) (by kernel_rfl) (by assumption) (fun s => ?hy) ?_; case hy => (go_simp <;> with_reducible rfl)
              try simp only [List.getElem_toArray, List.getElem_cons_succ, List.getElem_cons_zero, Act.put, List.setIfInBounds_toArray, List.set_cons_zero, List.set_cons_succ]
              refine mixs_two 4 16 (by kernel_rfl) rfl rfl (fun K hK => ?_) (fun K hK => ?_)
              ·
                refine op_load_st (by kernel_rfl) 0 hS rfl rfl rfl (by simp [scalarB, go_sem]) rfl ?_
                try clear hC
                refine hK.out _ _ _ (fun _ h => h) (by first | exact hS | exact hS.drop | exact hS.drop.drop | exact hS.drop.drop.drop | exact hS.drop.drop.drop.drop | exact hS.empty | exact hS.one 0 rfl | exact hS.one 1 rfl | exact hS.one 2 rfl | exact hS.one 3 rfl | exact hS.one 4 rfl | exact hS.one 5 rfl | exact hS.one 6 rfl | exact hS.one 7 rfl | exact hS.one 8 rfl | exact hS.one 9 rfl | exact hS.one 10 rfl | exact hS.one 11 rfl) (fun hC => ?_)
                clear hK K
                try simp only [List.getElem_toArray, List.getElem_cons_succ, List.getElem_cons_zero, Act.put, List.setIfInBounds_toArray, List.set_cons_zero, List.set_cons_succ]
                refine mixs_take 6 (v := ?_) rfl (by kernel_rfl) (fun _ _ _ h => h) (by kernel_rfl) (by assumption) (fun s => ?hy) ?_; case hy => (go_simp <;> with_reducible rfl)
                try simp only [List.getElem_toArray, List.getElem_cons_succ, List.getElem_cons_zero, Act.put, List.setIfInBounds_toArray, List.set_cons_zero, List.set_cons_succ]
                refine mixs_take 7 (v := ?_) rfl (by kernel_rfl) (fun _ _ _ h => h) (by kernel_rfl) (by assumption) (fun s => ?hy) ?_; case hy => (go_simp <;> with_reducible rfl)
                try simp only [List.getElem_toArray, List.getElem_cons_succ, List.getElem_cons_zero, Act.put, List.setIfInBounds_toArray, List.set_cons_zero, List.set_cons_succ]
                refine mixs_two 8 16 (by kernel_rfl) rfl rfl (fun K hK => ?_) (fun K hK => ?_)
                ·
                  ( first | (refine op_loadcell_st (by kernel_rfl) 2 hS rfl rfl rfl hsi hc0.out ?_) | (refine op_loadcell_st (by kernel_rfl) 2 hS rfl rfl rfl hss hc1.out ?_) | (go_at_call 80; (with_reducible refine (cPj.out _ hS.pre0).mono ?_); rintro _ w5 ⟨rfl, sv5, hk⟩; have hS1 := hS.call0 hk; clear hS hk; have hS := hS1; clear hS1) )
                  try clear hC
                  refine hK.out _ _ _ (fun _ h => h) (by first | exact hS | exact hS.drop | exact hS.drop.drop | exact hS.drop.drop.drop | exact hS.drop.drop.drop.drop | exact hS.empty | exact hS.one 0 rfl | exact hS.one 1 rfl | exact hS.one 2 rfl | exact hS.one 3 rfl | exact hS.one 4 rfl | exact hS.one 5 rfl | exact hS.one 6 rfl | exact hS.one 7 rfl | exact hS.one 8 rfl | exact hS.one 9 rfl | exact hS.one 10 rfl | exact hS.one 11 rfl) (fun hC => ?_)
                  clear hK K
                  try simp only [List.getElem_toArray, List.getElem_cons_succ, List.getElem_cons_zero, Act.put, List.setIfInBounds_toArray, List.set_cons_zero, List.set_cons_succ]
                  refine mixs_one 16 (by kernel_rfl) rfl (fun K hK => ?_)
                  ( first | (refine op_loadcell_st (by kernel_rfl) 2 hS rfl rfl rfl hsi hc0.out ?_) | (refine op_loadcell_st (by kernel_rfl) 2 hS rfl rfl rfl hss hc1.out ?_) | (go_at_call 80; (with_reducible refine (cPj.out _ hS.pre0).mono ?_); rintro _ w5 ⟨rfl, sv5, hk⟩; have hS1 := hS.call0 hk; clear hS hk; have hS := hS1; clear hS1) )
                  try clear hC
                  refine hK.out _ _ _ (fun _ h => h) (by first | exact hS | exact hS.drop | exact hS.drop.drop | exact hS.drop.drop.drop | exact hS.drop.drop.drop.drop | exact hS.empty | exact hS.one 0 rfl | exact hS.one 1 rfl | exact hS.one 2 rfl | exact hS.one 3 rfl | exact hS.one 4 rfl | exact hS.one 5 rfl | exact hS.one 6 rfl | exact hS.one 7 rfl | exact hS.one 8 rfl | exact hS.one 9 rfl | exact hS.one 10 rfl | exact hS.one 11 rfl) (fun hC => ?_)
                  clear hK K
                  try simp only [List.getElem_toArray, List.getElem_cons_succ, List.getElem_cons_zero, Act.put, List.setIfInBounds_toArray, List.set_cons_zero, List.set_cons_succ]
                  refine mixs_one 17 (by kernel_rfl) rfl (fun K hK => ?_)
                  go_simp
                  ( first | (refine op_loadcell_st (by kernel_rfl) 2 hS rfl rfl rfl hsi hc0.out ?_) | (refine op_loadcell_st (by kernel_rfl) 2 hS rfl rfl rfl hss hc1.out ?_) | (go_at_call 80; (with_reducible refine (cPj.out _ hS.pre0).mono ?_); rintro _ w5 ⟨rfl, sv5, hk⟩; have hS1 := hS.call0 hk; clear hS hk; have hS := hS1; clear hS1) )
                  try clear hC
                  refine hK.out _ _ _ (fun _ h => h) (by first | exact hS | exact hS.drop | exact hS.drop.drop | exact hS.drop.drop.drop | exact hS.drop.drop.drop.drop | exact hS.empty | exact hS.one 0 rfl | exact hS.one 1 rfl | exact hS.one 2 rfl | exact hS.one 3 rfl | exact hS.one 4 rfl | exact hS.one 5 rfl | exact hS.one 6 rfl | exact hS.one 7 rfl | exact hS.one 8 rfl | exact hS.one 9 rfl | exact hS.one 10 rfl | exact hS.one 11 rfl) (fun hC => ?_)
                  clear hK K
                  try simp only [List.getElem_toArray, List.getElem_cons_succ, List.getElem_cons_zero, Act.put, List.setIfInBounds_toArray, List.set_cons_zero, List.set_cons_succ]
                  refine wpAnyH_done (by kernel_rfl) ?_ _
                  try clear hC
                  go_wp2_with fail
                  go_roundg (n - (j + 1))
                  case measure => omega
                  case rel => exact ⟨j + 1, L1, _, by omega, by go_num, Lib.hid ⟨hfa.out, hl1.out⟩, by rw [hl1'.out]; exact hS⟩
                ·
                  ( first | (refine op_loadcell_st (by kernel_rfl) 2 hS rfl rfl rfl hsi hc0.out ?_) | (refine op_loadcell_st (by kernel_rfl) 2 hS rfl rfl rfl hss hc1.out ?_) | (go_at_call 80; (with_reducible refine (cPj.out _ hS.pre0).mono ?_); rintro _ w5 ⟨rfl, sv5, hk⟩; have hS1 := hS.call0 hk; clear hS hk; have hS := hS1; clear hS1) )
                  try clear hC
                  refine hK.out _ _ _ (fun _ h => h) (by first | exact hS | exact hS.drop | exact hS.drop.drop | exact hS.drop.drop.drop | exact hS.drop.drop.drop.drop | exact hS.empty | exact hS.one 0 rfl | exact hS.one 1 rfl | exact hS.one 2 rfl | exact hS.one 3 rfl | exact hS.one 4 rfl | exact hS.one 5 rfl | exact hS.one 6 rfl | exact hS.one 7 rfl | exact hS.one 8 rfl | exact hS.one 9 rfl | exact hS.one 10 rfl | exact hS.one 11 rfl) (fun hC => ?_)
                  clear hK K
                  try simp only [List.getElem_toArray, List.getElem_cons_succ, List.getElem_cons_zero, Act.put, List.setIfInBounds_toArray, List.set_cons_zero, List.set_cons_succ]
                  refine mixs_one 8 (by kernel_rfl) rfl (fun K hK => ?_)
                  ( first | (refine op_loadcell_st (by kernel_rfl) 2 hS rfl rfl rfl hsi hc0.out ?_) | (refine op_loadcell_st (by kernel_rfl) 2 hS rfl rfl rfl hss hc1.out ?_) | (go_at_call 80; (with_reducible refine (cPj.out _ hS.pre0).mono ?_); rintro _ w5 ⟨rfl, sv5, hk⟩; have hS1 := hS.call0 hk; clear hS hk; have hS := hS1; clear hS1) )
                  try clear hC
                  refine hK.out _ _ _ (fun _ h => h) (by first | exact hS | exact hS.drop | exact hS.drop.drop | exact hS.drop.drop.drop | exact hS.drop.drop.drop.drop | exact hS.empty | exact hS.one 0 rfl | exact hS.one 1 rfl | exact hS.one 2 rfl | exact hS.one 3 rfl | exact hS.one 4 rfl | exact hS.one 5 rfl | exact hS.one 6 rfl | exact hS.one 7 rfl | exact hS.one 8 rfl | exact hS.one 9 rfl | exact hS.one 10 rfl | exact hS.one 11 rfl) (fun hC => ?_)
                  clear hK K
                  try simp only [List.getElem_toArray, List.getElem_cons_succ, List.getElem_cons_zero, Act.put, List.setIfInBounds_toArray, List.set_cons_zero, List.set_cons_succ]
                  refine mixs_one 17 (by kernel_rfl) rfl (fun K hK => ?_)
                  go_simp
                  ( first | (refine op_loadcell_st (by kernel_rfl) 2 hS rfl rfl rfl hsi hc0.out ?_) | (refine op_loadcell_st (by kernel_rfl) 2 hS rfl rfl rfl hss hc1.out ?_) | (go_at_call 80; (with_reducible refine (cPj.out _ hS.pre0).mono ?_); rintro _ w5 ⟨rfl, sv5, hk⟩; have hS1 := hS.call0 hk; clear hS hk; have hS := hS1; clear hS1) )
                  try clear hC
                  refine hK.out _ _ _ (fun _ h => h) (by first | exact hS | exact hS.drop | exact hS.drop.drop | exact hS.drop.drop.drop | exact hS.drop.drop.drop.drop | exact hS.empty | exact hS.one 0 rfl | exact hS.one 1 rfl | exact hS.one 2 rfl | exact hS.one 3 rfl | exact hS.one 4 rfl | exact hS.one 5 rfl | exact hS.one 6 rfl | exact hS.one 7 rfl | exact hS.one 8 rfl | exact hS.one 9 rfl | exact hS.one 10 rfl | exact hS.one 11 rfl) (fun hC => ?_)
                  clear hK K
                  try simp only [List.getElem_toArray, List.getElem_cons_succ, List.getElem_cons_zero, Act.put, List.setIfInBounds_toArray, List.set_cons_zero, List.set_cons_succ]
                  refine wpAnyH_done (by kernel_rfl) ?_ _
                  try clear hC
                  go_wp2_with fail
                  go_roundg (n - (j + 1))
                  case measure => omega
                  case rel => exact ⟨j + 1, L1, _, by omega, by go_num, Lib.hid ⟨hfa.out, hl1.out⟩, by rw [hl1'.out]; exact hS⟩
              ·
                ( first | (refine op_loadcell_st (by kernel_rfl) 2 hS rfl rfl rfl hsi hc0.out ?_) | (refine op_loadcell_st (by kernel_rfl) 2 hS rfl rfl rfl hss hc1.out ?_) | (go_at_call 80; (with_reducible refine (cPj.out _ hS.pre0).mono ?_); rintro _ w5 ⟨rfl, sv5, hk⟩; have hS1 := hS.call0 hk; clear hS hk; have hS := hS1; clear hS1) )
                try clear hC
                refine hK.out _ _ _ (fun _ h => h) (by first | exact hS | exact hS.drop | exact hS.drop.drop | exact hS.drop.drop.drop | exact hS.drop.drop.drop.drop | exact hS.empty | exact hS.one 0 rfl | exact hS.one 1 rfl | exact hS.one 2 rfl | exact hS.one 3 rfl | exact hS.one 4 rfl | exact hS.one 5 rfl | exact hS.one 6 rfl | exact hS.one 7 rfl | exact hS.one 8 rfl | exact hS.one 9 rfl | exact hS.one 10 rfl | exact hS.one 11 rfl) (fun hC => ?_)
                clear hK K
                try simp only [List.getElem_toArray, List.getElem_cons_succ, List.getElem_cons_zero, Act.put, List.setIfInBounds_toArray, List.set_cons_zero, List.set_cons_succ]
                refine mixs_one 4 (by kernel_rfl) rfl (fun K hK => ?_)
                refine op_load_st (by kernel_rfl) 0 hS rfl rfl rfl (by simp [scalarB, go_sem]) rfl ?_
                try clear hC
                refine hK.out _ _ _ (fun _ h => h) (by first | exact hS | exact hS.drop | exact hS.drop.drop | exact hS.drop.drop.drop | exact hS.drop.drop.drop.drop | exact hS.empty | exact hS.one 0 rfl | exact hS.one 1 rfl | exact hS.one 2 rfl | exact hS.one 3 rfl | exact hS.one 4 rfl | exact hS.one 5 rfl | exact hS.one 6 rfl | exact hS.one 7 rfl | exact hS.one 8 rfl | exact hS.one 9 rfl | exact hS.one 10 rfl | exact hS.one 11 rfl) (fun hC => ?_)
                clear hK K
                try simp only [List.getElem_toArray, List.getElem_cons_succ, List.getElem_cons_zero, Act.put, List.setIfInBounds_toArray, List.set_cons_zero, List.set_cons_succ]
                refine mixs_take 6 (v := ?_) rfl (by kernel_rfl) (fun _ _ _ h => h) (by kernel_rfl) (by assumption) (fun s => ?hy) ?_; case hy => (go_simp <;> with_reducible rfl)
                try simp only [List.getElem_toArray, List.getElem_cons_succ, List.getElem_cons_zero, Act.put, List.setIfInBounds_toArray, List.set_cons_zero, List.set_cons_succ]
                refine mixs_take 7 (v := ?_) rfl (by kernel_rfl) (fun _ _ _ h => h) (by kernel_rfl) (by assumption) (fun s => ?hy) ?_; case hy => (go_simp <;> with_reducible rfl)
                try simp only [List.getElem_toArray, List.getElem_cons_succ, List.getElem_cons_zero, Act.put, List.setIfInBounds_toArray, List.set_cons_zero, List.set_cons_succ]
                refine mixs_one 8 (by kernel_rfl) rfl (fun K hK => ?_)
                ( first | (refine op_loadcell_st (by kernel_rfl) 2 hS rfl rfl rfl hsi hc0.out ?_) | (refine op_loadcell_st (by kernel_rfl) 2 hS rfl rfl rfl hss hc1.out ?_) | (go_at_call 80; (with_reducible refine (cPj.out _ hS.pre0).mono ?_); rintro _ w5 ⟨rfl, sv5, hk⟩; have hS1 := hS.call0 hk; clear hS hk; have hS := hS1; clear hS1) )
                try clear hC
                refine hK.out _ _ _ (fun _ h => h) (by first | exact hS | exact hS.drop | exact hS.drop.drop | exact hS.drop.drop.drop | exact hS.drop.drop.drop.drop | exact hS.empty | exact hS.one 0 rfl | exact hS.one 1 rfl | exact hS.one 2 rfl | exact hS.one 3 rfl | exact hS.one 4 rfl | exact hS.one 5 rfl | exact hS.one 6 rfl | exact hS.one 7 rfl | exact hS.one 8 rfl | exact hS.one 9 rfl | exact hS.one 10 rfl | exact hS.one 11 rfl) (fun hC => ?_)
                clear hK K
                try simp only [List.getElem_toArray, List.getElem_cons_succ, List.getElem_cons_zero, Act.put, List.setIfInBounds_toArray, List.set_cons_zero, List.set_cons_succ]
                refine mixs_one 17 (by kernel_rfl) rfl (fun K hK => ?_)
                go_simp
                ( first | (refine op_loadcell_st (by kernel_rfl) 2 hS rfl rfl rfl hsi hc0.out ?_) | (refine op_loadcell_st (by kernel_rfl) 2 hS rfl rfl rfl hss hc1.out ?_) | (go_at_call 80; (with_reducible refine (cPj.out _ hS.pre0).mono ?_); rintro _ w5 ⟨rfl, sv5, hk⟩; have hS1 := hS.call0 hk; clear hS hk; have hS := hS1; clear hS1) )
                try clear hC
                refine hK.out _ _ _ (fun _ h => h) (by first | exact hS | exact hS.drop | exact hS.drop.drop | exact hS.drop.drop.drop | exact hS.drop.drop.drop.drop | exact hS.empty | exact hS.one 0 rfl | exact hS.one 1 rfl | exact hS.one 2 rfl | exact hS.one 3 rfl | exact hS.one 4 rfl | exact hS.one 5 rfl | exact hS.one 6 rfl | exact hS.one 7 rfl | exact hS.one 8 rfl | exact hS.one 9 rfl | exact hS.one 10 rfl | exact hS.one 11 rfl) (fun hC => ?_)
                clear hK K
                try simp only [List.getElem_toArray, List.getElem_cons_succ, List.getElem_cons_zero, Act.put, List.setIfInBounds_toArray, List.set_cons_zero, List.set_cons_succ]
                refine wpAnyH_done (by kernel_rfl) ?_ _
                try clear hC
                go_wp2_with fail
                go_roundg (n - (j + 1))
                case measure => omega
                case rel => exact ⟨j + 1, L1, _, by omega, by go_num, Lib.hid ⟨hfa.out, hl1.out⟩, by rw [hl1'.out]; exact hS⟩
          · have hfv : Dk.fate keep j = 2 := hft.trans h3
            rw [hfv, if_neg (by omega), if_pos rfl] at hfa
            replace hfa := Lib.hid hfa
            clear hft hfv
            go_wp2_with (first
              | (with_reducible refine wpList_box_st hS rfl rfl rfl ?_; intro g1 w1 hS1; clear hS; replace hS := hS1; clear hS1) | (with_reducible refine wpList_box1_st hS rfl rfl rfl ?_; intro g1 w1 hS1; clear hS; replace hS := hS1; clear hS1) | (with_reducible refine wpList_alloc_st hS rfl rfl (by assumption) ?_; intro g1 w1 hS1; clear hS; replace hS := hS1; clear hS1) | (with_reducible refine wpList_alloc1_st hS rfl rfl (by assumption) rfl ?_; intro g1 w1 hS1; clear hS; replace hS := hS1; clear hS1) | ((with_reducible refine wpList_load_st 0 hS rfl rfl rfl rfl ?_ rfl ?_); focus (simp [scalarB, go_sem]; done)) | ((with_reducible refine wpList_loadall_st 0 hS rfl rfl rfl rfl ?_ (by kernel_rfl) ?_); focus (simp [rowB, go_sem]; done)) | ((with_reducible refine wpList_store_st 0 hS rfl rfl rfl rfl (by kernel_rfl) rfl rfl ?_); intro w1 hS1; clear hS; replace hS := hS1; clear hS1; try simp only [List.set_cons_zero, List.set_cons_succ, List.setIfInBounds_toArray, List.take_succ_cons, List.take_zero, List.drop_succ_cons, List.drop_zero, List.nil_append, List.cons_append, List.append_nil, List.drop_nil, List.take_nil, List.length_cons, List.length_nil, Nat.zero_add, Nat.add_zero, Nat.reduceAdd] at hS) | ((with_reducible refine wpList_storerow_st 0 hS rfl rfl rfl rfl (by kernel_rfl) rfl rfl rfl rfl ?_); intro w1 hS1; clear hS; replace hS := hS1; clear hS1; try simp only [List.set_cons_zero, List.set_cons_succ, List.setIfInBounds_toArray, List.take_succ_cons, List.take_zero, List.drop_succ_cons, List.drop_zero, List.nil_append, List.cons_append, List.append_nil, List.drop_nil, List.take_nil, List.length_cons, List.length_nil, Nat.zero_add, Nat.add_zero, Nat.reduceAdd] at hS)
              | (with_reducible refine wpList_loadcell_st 2 hS rfl rfl rfl rfl hsi hc0.out ?_)
              | (go_at_call 80; (with_reducible refine (cBj.out _ hS.pre0).mono ?_); rintro _ w5 ⟨rfl, sv5, hk⟩; have hS1 := hS.call0 hk; clear hS hk; have hS := hS1; clear hS1))
            go_roundg (n - (j + 1))
            case measure => omega
            case rel => exact ⟨j + 1, L2, _, by omega, by go_num, Lib.hid ⟨hfa.out, hl2.out⟩, by rw [hl2'.out]; exact hS⟩
        · rw [if_neg h0] at hft
          rw [hft, if_neg (by omega), if_neg (by omega)] at hfa
          have h1 : z < 0 := by omega
          clear h0 hft
          replace hfa := Lib.hid hfa
          go_wp2_with (first | (with_reducible refine wpList_box_st hS rfl rfl rfl ?_; intro g1 w1 hS1; clear hS; replace hS := hS1; clear hS1) | (with_reducible refine wpList_box1_st hS rfl rfl rfl ?_; intro g1 w1 hS1; clear hS; replace hS := hS1; clear hS1) | (with_reducible refine wpList_alloc_st hS rfl rfl (by assumption) ?_; intro g1 w1 hS1; clear hS; replace hS := hS1; clear hS1) | (with_reducible refine wpList_alloc1_st hS rfl rfl (by assumption) rfl ?_; intro g1 w1 hS1; clear hS; replace hS := hS1; clear hS1) | ((with_reducible refine wpList_load_st 0 hS rfl rfl rfl rfl ?_ rfl ?_); focus (simp [scalarB, go_sem]; done)) | ((with_reducible refine wpList_loadall_st 0 hS rfl rfl rfl rfl ?_ (by kernel_rfl) ?_); focus (simp [rowB, go_sem]; done)) | ((with_reducible refine wpList_store_st 0 hS rfl rfl rfl rfl (by kernel_rfl) rfl rfl ?_); intro w1 hS1; clear hS; replace hS := hS1; clear hS1; try simp only [List.set_cons_zero, List.set_cons_succ, List.setIfInBounds_toArray, List.take_succ_cons, List.take_zero, List.drop_succ_cons, List.drop_zero, List.nil_append, List.cons_append, List.append_nil, List.drop_nil, List.take_nil, List.length_cons, List.length_nil, Nat.zero_add, Nat.add_zero, Nat.reduceAdd] at hS) | ((with_reducible refine wpList_storerow_st 0 hS rfl rfl rfl rfl (by kernel_rfl) rfl rfl rfl rfl ?_); intro w1 hS1; clear hS; replace hS := hS1; clear hS1; try simp only [List.set_cons_zero, List.set_cons_succ, List.setIfInBounds_toArray, List.take_succ_cons, List.take_zero, List.drop_succ_cons, List.drop_zero, List.nil_append, List.cons_append, List.append_nil, List.drop_nil, List.take_nil, List.length_cons, List.length_nil, Nat.zero_add, Nat.add_zero, Nat.reduceAdd] at hS))
          go_roundg (n - (j + 1))
          case measure => omega
          case rel => exact ⟨j + 1, l, _, by omega, by go_num, Lib.hid ⟨hfa.out, hll.out⟩, hS⟩
      · have hfv : Dk.fate keep j = 0 := by rw [Dk.fate, if_neg (by rw [hkn.out]; omega)]
        clear hks hkb hkn
        rw [hfv, if_neg (by omega), if_neg (by omega)] at hfa
        clear hfv
        replace hfa := Lib.hid hfa
        go_wp2_with (first | (with_reducible refine wpList_box_st hS rfl rfl rfl ?_; intro g1 w1 hS1; clear hS; replace hS := hS1; clear hS1) | (with_reducible refine wpList_box1_st hS rfl rfl rfl ?_; intro g1 w1 hS1; clear hS; replace hS := hS1; clear hS1) | (with_reducible refine wpList_alloc_st hS rfl rfl (by assumption) ?_; intro g1 w1 hS1; clear hS; replace hS := hS1; clear hS1) | (with_reducible refine wpList_alloc1_st hS rfl rfl (by assumption) rfl ?_; intro g1 w1 hS1; clear hS; replace hS := hS1; clear hS1) | ((with_reducible refine wpList_load_st 0 hS rfl rfl rfl rfl ?_ rfl ?_); focus (simp [scalarB, go_sem]; done)) | ((with_reducible refine wpList_loadall_st 0 hS rfl rfl rfl rfl ?_ (by kernel_rfl) ?_); focus (simp [rowB, go_sem]; done)) | ((with_reducible refine wpList_store_st 0 hS rfl rfl rfl rfl (by kernel_rfl) rfl rfl ?_); intro w1 hS1; clear hS; replace hS := hS1; clear hS1; try simp only [List.set_cons_zero, List.set_cons_succ, List.setIfInBounds_toArray, List.take_succ_cons, List.take_zero, List.drop_succ_cons, List.drop_zero, List.nil_append, List.cons_append, List.append_nil, List.drop_nil, List.take_nil, List.length_cons, List.length_nil, Nat.zero_add, Nat.add_zero, Nat.reduceAdd] at hS) | ((with_reducible refine wpList_storerow_st 0 hS rfl rfl rfl rfl (by kernel_rfl) rfl rfl rfl rfl ?_); intro w1 hS1; clear hS; replace hS := hS1; clear hS1; try simp only [List.set_cons_zero, List.set_cons_succ, List.setIfInBounds_toArray, List.take_succ_cons, List.take_zero, List.drop_succ_cons, List.drop_zero, List.nil_append, List.cons_append, List.append_nil, List.drop_nil, List.take_nil, List.length_cons, List.length_nil, Nat.zero_add, Nat.add_zero, Nat.reduceAdd] at hS))
        go_roundg (n - (j + 1))
        case measure => omega
        case rel => exact ⟨j + 1, l, _, by omega, by go_num, Lib.hid ⟨hfa.out, hll.out⟩, hS⟩
    · have hfin : Dk.fall keep 0 sec wl = l := by
        rw [hfa, List.drop_of_length_le (by have := hn.out; omega)]
        rfl
      rw [hll, ← hfin] at hS
      replace hfin := Lib.hid hfin
      clear hfa hll hwok hcell hn hks hkb hkn
      go_wp2_with (first | (with_reducible refine wpList_box_st hS rfl rfl rfl ?_; intro g1 w1 hS1; clear hS; replace hS := hS1; clear hS1) | (with_reducible refine wpList_box1_st hS rfl rfl rfl ?_; intro g1 w1 hS1; clear hS; replace hS := hS1; clear hS1) | (with_reducible refine wpList_alloc_st hS rfl rfl (by assumption) ?_; intro g1 w1 hS1; clear hS; replace hS := hS1; clear hS1) | (with_reducible refine wpList_alloc1_st hS rfl rfl (by assumption) rfl ?_; intro g1 w1 hS1; clear hS; replace hS := hS1; clear hS1) | ((with_reducible refine wpList_load_st 0 hS rfl rfl rfl rfl ?_ rfl ?_); focus (simp [scalarB, go_sem]; done)) | ((with_reducible refine wpList_loadall_st 0 hS rfl rfl rfl rfl ?_ (by kernel_rfl) ?_); focus (simp [rowB, go_sem]; done)) | ((with_reducible refine wpList_store_st 0 hS rfl rfl rfl rfl (by kernel_rfl) rfl rfl ?_); intro w1 hS1; clear hS; replace hS := hS1; clear hS1; try simp only [List.set_cons_zero, List.set_cons_succ, List.setIfInBounds_toArray, List.take_succ_cons, List.take_zero, List.drop_succ_cons, List.drop_zero, List.nil_append, List.cons_append, List.append_nil, List.drop_nil, List.take_nil, List.length_cons, List.length_nil, Nat.zero_add, Nat.add_zero, Nat.reduceAdd] at hS) | ((with_reducible refine wpList_storerow_st 0 hS rfl rfl rfl rfl (by kernel_rfl) rfl rfl rfl rfl ?_); intro w1 hS1; clear hS; replace hS := hS1; clear hS1; try simp only [List.set_cons_zero, List.set_cons_succ, List.setIfInBounds_toArray, List.take_succ_cons, List.take_zero, List.drop_succ_cons, List.drop_zero, List.nil_append, List.cons_append, List.append_nil, List.drop_nil, List.take_nil, List.length_cons, List.length_nil, Nat.zero_add, Nat.add_zero, Nat.reduceAdd] at hS))
      exact bodyPost_end (results_none rfl _ _ _) rfl ⟨rfl, _, _, (hS.nilrow 141 2).rot3.front (A := [_, _, _])⟩
end Go.Proofs.Ytlhpibniecfofaa
end
