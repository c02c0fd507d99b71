import Derived.Test.YtneolmnpebiifaaGreatDoorM39
set_option linter.unusedVariables false
set_option linter.unusedSimpArgs false
set_option maxRecDepth 100000
section
namespace Go.Proofs.YtneolmnpebiifaaGreatDoor
open Go.RowKit Go.Ofp
set_option maxHeartbeats 8000000
theorem others20_any (m1 m2 : Nat) (a b : BkS) (r t : RV) (ta : Option Addr) (k tc : Nat) (T : List Int) (w : World) (ha : r.at a w) (hb : t.at b w) (hoa : BkOk m1 a) (hob : BkOk m2 b) (hm1 : m1 ≤ 2000) (hm2 : m2 ≤ 2000) (hT : Sl w ta (T.map vi)) (hk : T.length = k) (hk1 : k ≤ 100000) (hsame : ∀ x, x ∉ T → lookC b.sh.m x = lookC a.sh.m x ∧ ofK b.ks x = ofK a.ks x) :
 Calls Tryz.prog 13 #[.agg (bdRow a r).toArray, .agg (bdRow b t).toArray, .slice ta k tc] w fun e w' => e = .returned (.bool true) ∧ Below w.heap.size w w' := by
 have hS := St.start w
 have ec := elem_card
 have eb := elem_rb
 have hG := guard_cd
 rw [bdRow_eq, bdRow_eq]
 have cF1 := Lib.hid fun W => rbof_any a r W
 have cF2 := Lib.hid fun W => rbof_any b t W
 have hka : OkK (keys r.grs) := by rw [ha.ks]; exact hoa.ks.ok hm1
 have hkb : OkK (keys t.grs) := by rw [hb.ks]; exact hob.ks.ok hm2
 have cA := fun x W (h : Below w.heap.size w W) => rsget_any a.sh r.ca r.cc r.da r.dc x W (ha.lc.below h) (ha.ld.below h)
 have cB := fun x W (h : Below w.heap.size w W) => rsget_any b.sh t.ca t.cc t.da t.dc x W (hb.lc.below h) (hb.ld.below h)
 have cOA := fun x W (h : Below w.heap.size w W) => rgof_any r.ga r.grs r.grs.length r.gc x W (ha.deep.below h) (by have := hka.nn; omega) hka.no
 have cOB := fun x W (h : Below w.heap.size w W) => rgof_any t.ga t.grs t.grs.length t.gc x W (hb.deep.below h) (by have := hkb.nn; omega) hkb.no
 rw [ha.ks] at cOA
 rw [hb.ks] at cOB
 have hR1 : rsRow a.sh r.ca r.cc r.da r.dc = [.int .i64 a.sh.next, .slice r.ca a.sh.m.length r.cc, .slice r.da a.sh.dead.length r.dc] := rfl
 have hR2 : rsRow b.sh t.ca t.cc t.da t.dc = [.int .i64 b.sh.next, .slice t.ca b.sh.m.length t.cc, .slice t.da b.sh.dead.length t.dc] := rfl
 rw [hR1] at cA
 rw [hR2] at cB
 have hfa := Lib.hid fun x => get_f hoa.sh x
 have sza := hoa.sz
 have szb := hob.sz
 have hx1 : IntKind.i64.wrap ((a.sh.m.length : Int) + (b.sh.m.length : Int)) = (a.sh.m.length : Int) + b.sh.m.length := IntWalk.i64_in _ (by omega)
 have hx2 : IntKind.i64.wrap ((a.sh.m.length : Int) + (b.sh.m.length : Int) + (a.sh.dead.length : Int)) = (a.sh.m.length : Int) + b.sh.m.length + a.sh.dead.length := IntWalk.i64_in _ (by omega)
 have hx3 : IntKind.i64.wrap ((a.sh.m.length : Int) + (b.sh.m.length : Int) + (a.sh.dead.length : Int) + 2) = (a.sh.m.length : Int) + b.sh.m.length + a.sh.dead.length + 2 := IntWalk.i64_in _ (by omega)
 have hbase : 0 < k → ∃ b o, ta = some ⟨b, o, none⟩ := fun h => Sl.cells hT (by intro e; have h2 := congrArg List.length e; rw [List.length_map, hk] at h2; rw [h2] at h; exact absurd h (Nat.lt_irrefl 0))
 have hgs : ∀ x, x ∉ T → (b.sh.get x).1 = (a.sh.get x).1 ∧ ((a.sh.get x).2 = 0 → (b.sh.get x).2 = 0) ∧ ofK b.ks x = ofK a.ks x := fun x hx => ⟨(get_same (hsame x hx).1).1, (get_same (hsame x hx).1).2, (hsame x hx).2⟩
 have hfb := Lib.hid fun x => get_f hob.sh x
 replace hbase := Lib.hid hbase
 replace hT := Lib.hid hT
 replace hk := Lib.hid hk
 replace hgs := Lib.hid hgs
 replace cA := Lib.hid cA
 replace cB := Lib.hid cB
 replace cOA := Lib.hid cOA
 replace cOB := Lib.hid cOB
 clear ha hb hoa hob hka hkb hR1 hR2 hsame
 have hN : ∃ N : Nat, N = a.sh.m.length + b.sh.m.length + a.sh.dead.length + 2 := ⟨_, rfl⟩
 obtain ⟨N, hN⟩ := hN
 go_enter Tryz.func13, Tryz.ntmps13
 go_upto_region 1 with (first | (with_reducible refine wpList_box_st (L := []) hS rfl rfl rfl ?_; clear hS; intro g3 w1 hS) | (with_reducible refine wpList_box_st (L := [_]) hS rfl rfl rfl ?_; clear hS; intro g4 w2 hS))
 go_cut [7, 8] from 16 to 19 (fun v7 v8 wc => ∃ (g7 g8 : Nat), v7 = .pointer (some ⟨g7, 0, none⟩) ∧ v8 = .pointer (some ⟨g8, 0, none⟩) ∧ St w [] [Ch.blk g8 53 #[.int .i64 b.seq, .int .i64 b.sh.next, .slice t.ca b.sh.m.length t.cc, .slice t.da b.sh.dead.length t.dc, .slice t.ga t.grs.length t.gc], Ch.blk g7 53 #[.int .i64 a.seq, .int .i64 a.sh.next, .slice r.ca a.sh.m.length r.cc, .slice r.da a.sh.dead.length r.dc, .slice r.ga r.grs.length r.gc], Ch.blk g4 31 #[.int .i64 b.seq, .int .i64 b.sh.next, .slice t.ca b.sh.m.length t.cc, .slice t.da b.sh.dead.length t.dc, .slice t.ga t.grs.length t.gc], Ch.blk g3 31 #[.int .i64 a.seq, .int .i64 a.sh.next, .slice r.ca a.sh.m.length r.cc, .slice r.da a.sh.dead.length r.dc, .slice r.ga r.grs.length r.gc]] wc)
 case first =>
  have k3 := hS.krow (P := Tryz.prog) (j := 0) 1 rfl (t := 31) (by kernel_rfl) (n := 5) (by kernel_rfl) (vs := [.int .i64 a.seq, .int .i64 a.sh.next, .slice r.ca a.sh.m.length r.cc, .slice r.da a.sh.dead.length r.dc, .slice r.ga r.grs.length r.gc]) rfl rfl
  have k4 := hS.krow (P := Tryz.prog) (j := 0) 0 rfl (t := 31) (by kernel_rfl) (n := 5) (by kernel_rfl) (vs := [.int .i64 b.seq, .int .i64 b.sh.next, .slice t.ca b.sh.m.length t.cc, .slice t.da b.sh.dead.length t.dc, .slice t.ga t.grs.length t.gc]) rfl rfl
  refine mixs_begin (by kernel_rfl) hS ?_
  clear hS
  intro w5 hS
  refine tkr 0 k3 ?_
  refine tkr 2 k4 ?_
  refine mixs_three 1 4 5 (by kernel_rfl) rfl rfl rfl (fun K hK => ?_) (fun K hK => ?_) (fun K hK => ?_)
  ·
   go_simp
   (go_at_call 31; (with_reducible refine (cF1.out _).mono ?_); rintro _ w3 ⟨rfl, hk9⟩; replace hS := hS.keepB hk9; clear hk9)
   try clear hC
   refine cl hK (fun hC => ?_)
   clear hK K
   refine mixs_three 3 4 5 (by kernel_rfl) rfl rfl rfl (fun K hK => ?_) (fun K hK => ?_) (fun K hK => ?_)
   ·
    go_simp
    (go_at_call 31; (with_reducible refine (cF2.out _).mono ?_); rintro _ w3 ⟨rfl, hk9⟩; replace hS := hS.keepB hk9; clear hk9)
    try clear hC
    refine cl hK (fun hC => ?_)
    clear hK K
    refine mixs_two 4 5 (by kernel_rfl) rfl rfl (fun K hK => ?_) (fun K hK => ?_)
    ·
     refine op_alloc_st (by kernel_rfl) rfl (by assumption) hS ?_
     clear hS; intro g1 w1 hS
     try clear hC
     refine cl hK (fun hC => ?_)
     clear hK K
     refine mixs_one 5 (by kernel_rfl) rfl (fun K hK => ?_)
     refine op_alloc_st (by kernel_rfl) rfl (by assumption) hS ?_
     clear hS; intro g1 w1 hS
     try clear hC
     refine cl hK (fun hC => ?_)
     clear hK K
     refine mixs_one 6 (by kernel_rfl) rfl (fun K hK => ?_)
     refine op_storerow_st (by kernel_rfl) 1 hS rfl rfl rfl (by kernel_rfl) rfl rfl rfl rfl ?_
     clear hS; intro w1 hS; try simp only [List.set_cons_zero, List.set_cons_succ, List.setIfInBounds_toArray, List.take_succ_cons, List.take_zero, List.drop_succ_cons, List.drop_zero, List.nil_append, List.cons_append, List.append_nil, List.drop_nil, List.take_nil, List.length_cons, List.length_nil, Nat.zero_add, Nat.add_zero, Nat.reduceAdd] at hS
     try clear hC
     refine cl hK (fun hC => ?_)
     clear hK K
     refine mixs_one 7 (by kernel_rfl) rfl (fun K hK => ?_)
     refine op_storerow_st (by kernel_rfl) 0 hS rfl rfl rfl (by kernel_rfl) rfl rfl rfl rfl ?_
     clear hS; intro w1 hS; try simp only [List.set_cons_zero, List.set_cons_succ, List.setIfInBounds_toArray, List.take_succ_cons, List.take_zero, List.drop_succ_cons, List.drop_zero, List.nil_append, List.cons_append, List.append_nil, List.drop_nil, List.take_nil, List.length_cons, List.length_nil, Nat.zero_add, Nat.add_zero, Nat.reduceAdd] at hS
     try clear hC
     refine cl hK (fun hC => ?_)
     clear hK K
     refine wpAnyH_done (by kernel_rfl) ?_ _
     clear k3 k4
     go_wp2_with fail
     go_meet
     first | exact ⟨_, _, rfl, rfl, hS⟩ | exact ⟨_, _, rfl, rfl, hS.swap⟩
    ·
     refine op_alloc_st (by kernel_rfl) rfl (by assumption) hS ?_
     clear hS; intro g1 w1 hS
     try clear hC
     refine cl hK (fun hC => ?_)
     clear hK K
     refine mixs_one 4 (by kernel_rfl) rfl (fun K hK => ?_)
     refine op_alloc_st (by kernel_rfl) rfl (by assumption) hS ?_
     clear hS; intro g1 w1 hS
     try clear hC
     refine cl hK (fun hC => ?_)
     clear hK K
     refine mixs_one 6 (by kernel_rfl) rfl (fun K hK => ?_)
     refine op_storerow_st (by kernel_rfl) 0 hS rfl rfl rfl (by kernel_rfl) rfl rfl rfl rfl ?_
     clear hS; intro w1 hS; try simp only [List.set_cons_zero, List.set_cons_succ, List.setIfInBounds_toArray, List.take_succ_cons, List.take_zero, List.drop_succ_cons, List.drop_zero, List.nil_append, List.cons_append, List.append_nil, List.drop_nil, List.take_nil, List.length_cons, List.length_nil, Nat.zero_add, Nat.add_zero, Nat.reduceAdd] at hS
     try clear hC
     refine cl hK (fun hC => ?_)
     clear hK K
     refine mixs_one 7 (by kernel_rfl) rfl (fun K hK => ?_)
     refine op_storerow_st (by kernel_rfl) 1 hS rfl rfl rfl (by kernel_rfl) rfl rfl rfl rfl ?_
     clear hS; intro w1 hS; try simp only [List.set_cons_zero, List.set_cons_succ, List.setIfInBounds_toArray, List.take_succ_cons, List.take_zero, List.drop_succ_cons, List.drop_zero, List.nil_append, List.cons_append, List.append_nil, List.drop_nil, List.take_nil, List.length_cons, List.length_nil, Nat.zero_add, Nat.add_zero, Nat.reduceAdd] at hS
     try clear hC
     refine cl hK (fun hC => ?_)
     clear hK K
     refine wpAnyH_done (by kernel_rfl) ?_ _
     clear k3 k4
     go_wp2_with fail
     go_meet
     first | exact ⟨_, _, rfl, rfl, hS⟩ | exact ⟨_, _, rfl, rfl, hS.swap⟩
   ·
    refine op_alloc_st (by kernel_rfl) rfl (by assumption) hS ?_
    clear hS; intro g1 w1 hS
    try clear hC
    refine cl hK (fun hC => ?_)
    clear hK K
    refine mixs_two 3 5 (by kernel_rfl) rfl rfl (fun K hK => ?_) (fun K hK => ?_)
    ·
     go_simp
     (go_at_call 31; (with_reducible refine (cF2.out _).mono ?_); rintro _ w3 ⟨rfl, hk9⟩; replace hS := hS.keepB hk9; clear hk9)
     try clear hC
     refine cl hK (fun hC => ?_)
     clear hK K
     refine mixs_one 5 (by kernel_rfl) rfl (fun K hK => ?_)
     refine op_alloc_st (by kernel_rfl) rfl (by assumption) hS ?_
     clear hS; intro g1 w1 hS
     try clear hC
     refine cl hK (fun hC => ?_)
     clear hK K
     refine mixs_one 6 (by kernel_rfl) rfl (fun K hK => ?_)
     refine op_storerow_st (by kernel_rfl) 1 hS rfl rfl rfl (by kernel_rfl) rfl rfl rfl rfl ?_
     clear hS; intro w1 hS; try simp only [List.set_cons_zero, List.set_cons_succ, List.setIfInBounds_toArray, List.take_succ_cons, List.take_zero, List.drop_succ_cons, List.drop_zero, List.nil_append, List.cons_append, List.append_nil, List.drop_nil, List.take_nil, List.length_cons, List.length_nil, Nat.zero_add, Nat.add_zero, Nat.reduceAdd] at hS
     try clear hC
     refine cl hK (fun hC => ?_)
     clear hK K
     refine mixs_one 7 (by kernel_rfl) rfl (fun K hK => ?_)
     refine op_storerow_st (by kernel_rfl) 0 hS rfl rfl rfl (by kernel_rfl) rfl rfl rfl rfl ?_
     clear hS; intro w1 hS; try simp only [List.set_cons_zero, List.set_cons_succ, List.setIfInBounds_toArray, List.take_succ_cons, List.take_zero, List.drop_succ_cons, List.drop_zero, List.nil_append, List.cons_append, List.append_nil, List.drop_nil, List.take_nil, List.length_cons, List.length_nil, Nat.zero_add, Nat.add_zero, Nat.reduceAdd] at hS
     try clear hC
     refine cl hK (fun hC => ?_)
     clear hK K
     refine wpAnyH_done (by kernel_rfl) ?_ _
     clear k3 k4
     go_wp2_with fail
     go_meet
     first | exact ⟨_, _, rfl, rfl, hS⟩ | exact ⟨_, _, rfl, rfl, hS.swap⟩
    ·
     refine op_alloc_st (by kernel_rfl) rfl (by assumption) hS ?_
     clear hS; intro g1 w1 hS
     try clear hC
     refine cl hK (fun hC => ?_)
     clear hK K
     refine mixs_one 3 (by kernel_rfl) rfl (fun K hK => ?_)
     go_simp
     (go_at_call 31; (with_reducible refine (cF2.out _).mono ?_); rintro _ w3 ⟨rfl, hk9⟩; replace hS := hS.keepB hk9; clear hk9)
     try clear hC
     refine cl hK (fun hC => ?_)
     clear hK K
     refine mixs_one 6 (by kernel_rfl) rfl (fun K hK => ?_)
     refine op_storerow_st (by kernel_rfl) 1 hS rfl rfl rfl (by kernel_rfl) rfl rfl rfl rfl ?_
     clear hS; intro w1 hS; try simp only [List.set_cons_zero, List.set_cons_succ, List.setIfInBounds_toArray, List.take_succ_cons, List.take_zero, List.drop_succ_cons, List.drop_zero, List.nil_append, List.cons_append, List.append_nil, List.drop_nil, List.take_nil, List.length_cons, List.length_nil, Nat.zero_add, Nat.add_zero, Nat.reduceAdd] at hS
     try clear hC
     refine cl hK (fun hC => ?_)
     clear hK K
     refine mixs_one 7 (by kernel_rfl) rfl (fun K hK => ?_)
     refine op_storerow_st (by kernel_rfl) 0 hS rfl rfl rfl (by kernel_rfl) rfl rfl rfl rfl ?_
     clear hS; intro w1 hS; try simp only [List.set_cons_zero, List.set_cons_succ, List.setIfInBounds_toArray, List.take_succ_cons, List.take_zero, List.drop_succ_cons, List.drop_zero, List.nil_append, List.cons_append, List.append_nil, List.drop_nil, List.take_nil, List.length_cons, List.length_nil, Nat.zero_add, Nat.add_zero, Nat.reduceAdd] at hS
     try clear hC
     refine cl hK (fun hC => ?_)
     clear hK K
     refine wpAnyH_done (by kernel_rfl) ?_ _
     clear k3 k4
     go_wp2_with fail
     go_meet
     first | exact ⟨_, _, rfl, rfl, hS⟩ | exact ⟨_, _, rfl, rfl, hS.swap⟩
   ·
    refine op_alloc_st (by kernel_rfl) rfl (by assumption) hS ?_
    clear hS; intro g1 w1 hS
    try clear hC
    refine cl hK (fun hC => ?_)
    clear hK K
    refine mixs_two 3 4 (by kernel_rfl) rfl rfl (fun K hK => ?_) (fun K hK => ?_)
    ·
     go_simp
     (go_at_call 31; (with_reducible refine (cF2.out _).mono ?_); rintro _ w3 ⟨rfl, hk9⟩; replace hS := hS.keepB hk9; clear hk9)
     try clear hC
     refine cl hK (fun hC => ?_)
     clear hK K
     refine mixs_one 4 (by kernel_rfl) rfl (fun K hK => ?_)
     refine op_alloc_st (by kernel_rfl) rfl (by assumption) hS ?_
     clear hS; intro g1 w1 hS
     try clear hC
     refine cl hK (fun hC => ?_)
     clear hK K
     refine mixs_one 6 (by kernel_rfl) rfl (fun K hK => ?_)
     refine op_storerow_st (by kernel_rfl) 0 hS rfl rfl rfl (by kernel_rfl) rfl rfl rfl rfl ?_
     clear hS; intro w1 hS; try simp only [List.set_cons_zero, List.set_cons_succ, List.setIfInBounds_toArray, List.take_succ_cons, List.take_zero, List.drop_succ_cons, List.drop_zero, List.nil_append, List.cons_append, List.append_nil, List.drop_nil, List.take_nil, List.length_cons, List.length_nil, Nat.zero_add, Nat.add_zero, Nat.reduceAdd] at hS
     try clear hC
     refine cl hK (fun hC => ?_)
     clear hK K
     refine mixs_one 7 (by kernel_rfl) rfl (fun K hK => ?_)
     refine op_storerow_st (by kernel_rfl) 1 hS rfl rfl rfl (by kernel_rfl) rfl rfl rfl rfl ?_
     clear hS; intro w1 hS; try simp only [List.set_cons_zero, List.set_cons_succ, List.setIfInBounds_toArray, List.take_succ_cons, List.take_zero, List.drop_succ_cons, List.drop_zero, List.nil_append, List.cons_append, List.append_nil, List.drop_nil, List.take_nil, List.length_cons, List.length_nil, Nat.zero_add, Nat.add_zero, Nat.reduceAdd] at hS
     try clear hC
     refine cl hK (fun hC => ?_)
     clear hK K
     refine wpAnyH_done (by kernel_rfl) ?_ _
     clear k3 k4
     go_wp2_with fail
     go_meet
     first | exact ⟨_, _, rfl, rfl, hS⟩ | exact ⟨_, _, rfl, rfl, hS.swap⟩
    ·
     refine op_alloc_st (by kernel_rfl) rfl (by assumption) hS ?_
     clear hS; intro g1 w1 hS
     try clear hC
     refine cl hK (fun hC => ?_)
     clear hK K
     refine mixs_one 3 (by kernel_rfl) rfl (fun K hK => ?_)
     go_simp
     (go_at_call 31; (with_reducible refine (cF2.out _).mono ?_); rintro _ w3 ⟨rfl, hk9⟩; replace hS := hS.keepB hk9; clear hk9)
     try clear hC
     refine cl hK (fun hC => ?_)
     clear hK K
     refine mixs_one 6 (by kernel_rfl) rfl (fun K hK => ?_)
     refine op_storerow_st (by kernel_rfl) 0 hS rfl rfl rfl (by kernel_rfl) rfl rfl rfl rfl ?_
     clear hS; intro w1 hS; try simp only [List.set_cons_zero, List.set_cons_succ, List.setIfInBounds_toArray, List.take_succ_cons, List.take_zero, List.drop_succ_cons, List.drop_zero, List.nil_append, List.cons_append, List.append_nil, List.drop_nil, List.take_nil, List.length_cons, List.length_nil, Nat.zero_add, Nat.add_zero, Nat.reduceAdd] at hS
     try clear hC
     refine cl hK (fun hC => ?_)
     clear hK K
     refine mixs_one 7 (by kernel_rfl) rfl (fun K hK => ?_)
     refine op_storerow_st (by kernel_rfl) 1 hS rfl rfl rfl (by kernel_rfl) rfl rfl rfl rfl ?_
     clear hS; intro w1 hS; try simp only [List.set_cons_zero, List.set_cons_succ, List.setIfInBounds_toArray, List.take_succ_cons, List.take_zero, List.drop_succ_cons, List.drop_zero, List.nil_append, List.cons_append, List.append_nil, List.drop_nil, List.take_nil, List.length_cons, List.length_nil, Nat.zero_add, Nat.add_zero, Nat.reduceAdd] at hS
     try clear hC
     refine cl hK (fun hC => ?_)
     clear hK K
     refine wpAnyH_done (by kernel_rfl) ?_ _
     clear k3 k4
     go_wp2_with fail
     go_meet
     first | exact ⟨_, _, rfl, rfl, hS⟩ | exact ⟨_, _, rfl, rfl, hS.swap⟩
  ·
   refine op_alloc_st (by kernel_rfl) rfl (by assumption) hS ?_
   clear hS; intro g1 w1 hS
   try clear hC
   refine cl hK (fun hC => ?_)
   clear hK K
   refine mixs_two 1 5 (by kernel_rfl) rfl rfl (fun K hK => ?_) (fun K hK => ?_)
   ·
    go_simp
    (go_at_call 31; (with_reducible refine (cF1.out _).mono ?_); rintro _ w3 ⟨rfl, hk9⟩; replace hS := hS.keepB hk9; clear hk9)
    try clear hC
    refine cl hK (fun hC => ?_)
    clear hK K
    refine mixs_two 3 5 (by kernel_rfl) rfl rfl (fun K hK => ?_) (fun K hK => ?_)
    ·
     go_simp
     (go_at_call 31; (with_reducible refine (cF2.out _).mono ?_); rintro _ w3 ⟨rfl, hk9⟩; replace hS := hS.keepB hk9; clear hk9)
     try clear hC
     refine cl hK (fun hC => ?_)
     clear hK K
     refine mixs_one 5 (by kernel_rfl) rfl (fun K hK => ?_)
     refine op_alloc_st (by kernel_rfl) rfl (by assumption) hS ?_
     clear hS; intro g1 w1 hS
     try clear hC
     refine cl hK (fun hC => ?_)
     clear hK K
     refine mixs_one 6 (by kernel_rfl) rfl (fun K hK => ?_)
     refine op_storerow_st (by kernel_rfl) 1 hS rfl rfl rfl (by kernel_rfl) rfl rfl rfl rfl ?_
     clear hS; intro w1 hS; try simp only [List.set_cons_zero, List.set_cons_succ, List.setIfInBounds_toArray, List.take_succ_cons, List.take_zero, List.drop_succ_cons, List.drop_zero, List.nil_append, List.cons_append, List.append_nil, List.drop_nil, List.take_nil, List.length_cons, List.length_nil, Nat.zero_add, Nat.add_zero, Nat.reduceAdd] at hS
     try clear hC
     refine cl hK (fun hC => ?_)
     clear hK K
     refine mixs_one 7 (by kernel_rfl) rfl (fun K hK => ?_)
     refine op_storerow_st (by kernel_rfl) 0 hS rfl rfl rfl (by kernel_rfl) rfl rfl rfl rfl ?_
     clear hS; intro w1 hS; try simp only [List.set_cons_zero, List.set_cons_succ, List.setIfInBounds_toArray, List.take_succ_cons, List.take_zero, List.drop_succ_cons, List.drop_zero, List.nil_append, List.cons_append, List.append_nil, List.drop_nil, List.take_nil, List.length_cons, List.length_nil, Nat.zero_add, Nat.add_zero, Nat.reduceAdd] at hS
     try clear hC
     refine cl hK (fun hC => ?_)
     clear hK K
     refine wpAnyH_done (by kernel_rfl) ?_ _
     clear k3 k4
     go_wp2_with fail
     go_meet
     first | exact ⟨_, _, rfl, rfl, hS⟩ | exact ⟨_, _, rfl, rfl, hS.swap⟩
    ·
     refine op_alloc_st (by kernel_rfl) rfl (by assumption) hS ?_
     clear hS; intro g1 w1 hS
     try clear hC
     refine cl hK (fun hC => ?_)
     clear hK K
     refine mixs_one 3 (by kernel_rfl) rfl (fun K hK => ?_)
     go_simp
     (go_at_call 31; (with_reducible refine (cF2.out _).mono ?_); rintro _ w3 ⟨rfl, hk9⟩; replace hS := hS.keepB hk9; clear hk9)
     try clear hC
     refine cl hK (fun hC => ?_)
     clear hK K
     refine mixs_one 6 (by kernel_rfl) rfl (fun K hK => ?_)
     refine op_storerow_st (by kernel_rfl) 1 hS rfl rfl rfl (by kernel_rfl) rfl rfl rfl rfl ?_
     clear hS; intro w1 hS; try simp only [List.set_cons_zero, List.set_cons_succ, List.setIfInBounds_toArray, List.take_succ_cons, List.take_zero, List.drop_succ_cons, List.drop_zero, List.nil_append, List.cons_append, List.append_nil, List.drop_nil, List.take_nil, List.length_cons, List.length_nil, Nat.zero_add, Nat.add_zero, Nat.reduceAdd] at hS
     try clear hC
     refine cl hK (fun hC => ?_)
     clear hK K
     refine mixs_one 7 (by kernel_rfl) rfl (fun K hK => ?_)
     refine op_storerow_st (by kernel_rfl) 0 hS rfl rfl rfl (by kernel_rfl) rfl rfl rfl rfl ?_
     clear hS; intro w1 hS; try simp only [List.set_cons_zero, List.set_cons_succ, List.setIfInBounds_toArray, List.take_succ_cons, List.take_zero, List.drop_succ_cons, List.drop_zero, List.nil_append, List.cons_append, List.append_nil, List.drop_nil, List.take_nil, List.length_cons, List.length_nil, Nat.zero_add, Nat.add_zero, Nat.reduceAdd] at hS
     try clear hC
     refine cl hK (fun hC => ?_)
     clear hK K
     refine wpAnyH_done (by kernel_rfl) ?_ _
     clear k3 k4
     go_wp2_with fail
     go_meet
     first | exact ⟨_, _, rfl, rfl, hS⟩ | exact ⟨_, _, rfl, rfl, hS.swap⟩
   ·
    refine op_alloc_st (by kernel_rfl) rfl (by assumption) hS ?_
    clear hS; intro g1 w1 hS
    try clear hC
    refine cl hK (fun hC => ?_)
    clear hK K
    refine mixs_one 1 (by kernel_rfl) rfl (fun K hK => ?_)
    go_simp
    (go_at_call 31; (with_reducible refine (cF1.out _).mono ?_); rintro _ w3 ⟨rfl, hk9⟩; replace hS := hS.keepB hk9; clear hk9)
    try clear hC
    refine cl hK (fun hC => ?_)
    clear hK K
    refine mixs_one 3 (by kernel_rfl) rfl (fun K hK => ?_)
    go_simp
    (go_at_call 31; (with_reducible refine (cF2.out _).mono ?_); rintro _ w3 ⟨rfl, hk9⟩; replace hS := hS.keepB hk9; clear hk9)
    try clear hC
    refine cl hK (fun hC => ?_)
    clear hK K
    refine mixs_one 6 (by kernel_rfl) rfl (fun K hK => ?_)
    refine op_storerow_st (by kernel_rfl) 1 hS rfl rfl rfl (by kernel_rfl) rfl rfl rfl rfl ?_
    clear hS; intro w1 hS; try simp only [List.set_cons_zero, List.set_cons_succ, List.setIfInBounds_toArray, List.take_succ_cons, List.take_zero, List.drop_succ_cons, List.drop_zero, List.nil_append, List.cons_append, List.append_nil, List.drop_nil, List.take_nil, List.length_cons, List.length_nil, Nat.zero_add, Nat.add_zero, Nat.reduceAdd] at hS
    try clear hC
    refine cl hK (fun hC => ?_)
    clear hK K
    refine mixs_one 7 (by kernel_rfl) rfl (fun K hK => ?_)
    refine op_storerow_st (by kernel_rfl) 0 hS rfl rfl rfl (by kernel_rfl) rfl rfl rfl rfl ?_
    clear hS; intro w1 hS; try simp only [List.set_cons_zero, List.set_cons_succ, List.setIfInBounds_toArray, List.take_succ_cons, List.take_zero, List.drop_succ_cons, List.drop_zero, List.nil_append, List.cons_append, List.append_nil, List.drop_nil, List.take_nil, List.length_cons, List.length_nil, Nat.zero_add, Nat.add_zero, Nat.reduceAdd] at hS
    try clear hC
    refine cl hK (fun hC => ?_)
    clear hK K
    refine wpAnyH_done (by kernel_rfl) ?_ _
    clear k3 k4
    go_wp2_with fail
    go_meet
    first | exact ⟨_, _, rfl, rfl, hS⟩ | exact ⟨_, _, rfl, rfl, hS.swap⟩
  ·
   refine op_alloc_st (by kernel_rfl) rfl (by assumption) hS ?_
   clear hS; intro g1 w1 hS
   try clear hC
   refine cl hK (fun hC => ?_)
   clear hK K
   refine mixs_two 1 4 (by kernel_rfl) rfl rfl (fun K hK => ?_) (fun K hK => ?_)
   ·
    go_simp
    (go_at_call 31; (with_reducible refine (cF1.out _).mono ?_); rintro _ w3 ⟨rfl, hk9⟩; replace hS := hS.keepB hk9; clear hk9)
    try clear hC
    refine cl hK (fun hC => ?_)
    clear hK K
    refine mixs_two 3 4 (by kernel_rfl) rfl rfl (fun K hK => ?_) (fun K hK => ?_)
    ·
     go_simp
     (go_at_call 31; (with_reducible refine (cF2.out _).mono ?_); rintro _ w3 ⟨rfl, hk9⟩; replace hS := hS.keepB hk9; clear hk9)
     try clear hC
     refine cl hK (fun hC => ?_)
     clear hK K
     refine mixs_one 4 (by kernel_rfl) rfl (fun K hK => ?_)
     refine op_alloc_st (by kernel_rfl) rfl (by assumption) hS ?_
     clear hS; intro g1 w1 hS
     try clear hC
     refine cl hK (fun hC => ?_)
     clear hK K
     refine mixs_one 6 (by kernel_rfl) rfl (fun K hK => ?_)
     refine op_storerow_st (by kernel_rfl) 0 hS rfl rfl rfl (by kernel_rfl) rfl rfl rfl rfl ?_
     clear hS; intro w1 hS; try simp only [List.set_cons_zero, List.set_cons_succ, List.setIfInBounds_toArray, List.take_succ_cons, List.take_zero, List.drop_succ_cons, List.drop_zero, List.nil_append, List.cons_append, List.append_nil, List.drop_nil, List.take_nil, List.length_cons, List.length_nil, Nat.zero_add, Nat.add_zero, Nat.reduceAdd] at hS
     try clear hC
     refine cl hK (fun hC => ?_)
     clear hK K
     refine mixs_one 7 (by kernel_rfl) rfl (fun K hK => ?_)
     refine op_storerow_st (by kernel_rfl) 1 hS rfl rfl rfl (by kernel_rfl) rfl rfl rfl rfl ?_
     clear hS; intro w1 hS; try simp only [List.set_cons_zero, List.set_cons_succ, List.setIfInBounds_toArray, List.take_succ_cons, List.take_zero, List.drop_succ_cons, List.drop_zero, List.nil_append, List.cons_append, List.append_nil, List.drop_nil, List.take_nil, List.length_cons, List.length_nil, Nat.zero_add, Nat.add_zero, Nat.reduceAdd] at hS
     try clear hC
     refine cl hK (fun hC => ?_)
     clear hK K
     refine wpAnyH_done (by kernel_rfl) ?_ _
     clear k3 k4
     go_wp2_with fail
     go_meet
     first | exact ⟨_, _, rfl, rfl, hS⟩ | exact ⟨_, _, rfl, rfl, hS.swap⟩
    ·
     refine op_alloc_st (by kernel_rfl) rfl (by assumption) hS ?_
     clear hS; intro g1 w1 hS
     try clear hC
     refine cl hK (fun hC => ?_)
     clear hK K
     refine mixs_one 3 (by kernel_rfl) rfl (fun K hK => ?_)
     go_simp
     (go_at_call 31; (with_reducible refine (cF2.out _).mono ?_); rintro _ w3 ⟨rfl, hk9⟩; replace hS := hS.keepB hk9; clear hk9)
     try clear hC
     refine cl hK (fun hC => ?_)
     clear hK K
     refine mixs_one 6 (by kernel_rfl) rfl (fun K hK => ?_)
     refine op_storerow_st (by kernel_rfl) 0 hS rfl rfl rfl (by kernel_rfl) rfl rfl rfl rfl ?_
     clear hS; intro w1 hS; try simp only [List.set_cons_zero, List.set_cons_succ, List.setIfInBounds_toArray, List.take_succ_cons, List.take_zero, List.drop_succ_cons, List.drop_zero, List.nil_append, List.cons_append, List.append_nil, List.drop_nil, List.take_nil, List.length_cons, List.length_nil, Nat.zero_add, Nat.add_zero, Nat.reduceAdd] at hS
     try clear hC
     refine cl hK (fun hC => ?_)
     clear hK K
     refine mixs_one 7 (by kernel_rfl) rfl (fun K hK => ?_)
     refine op_storerow_st (by kernel_rfl) 1 hS rfl rfl rfl (by kernel_rfl) rfl rfl rfl rfl ?_
     clear hS; intro w1 hS; try simp only [List.set_cons_zero, List.set_cons_succ, List.setIfInBounds_toArray, List.take_succ_cons, List.take_zero, List.drop_succ_cons, List.drop_zero, List.nil_append, List.cons_append, List.append_nil, List.drop_nil, List.take_nil, List.length_cons, List.length_nil, Nat.zero_add, Nat.add_zero, Nat.reduceAdd] at hS
     try clear hC
     refine cl hK (fun hC => ?_)
     clear hK K
     refine wpAnyH_done (by kernel_rfl) ?_ _
     clear k3 k4
     go_wp2_with fail
     go_meet
     first | exact ⟨_, _, rfl, rfl, hS⟩ | exact ⟨_, _, rfl, rfl, hS.swap⟩
   ·
    refine op_alloc_st (by kernel_rfl) rfl (by assumption) hS ?_
    clear hS; intro g1 w1 hS
    try clear hC
    refine cl hK (fun hC => ?_)
    clear hK K
    refine mixs_one 1 (by kernel_rfl) rfl (fun K hK => ?_)
    go_simp
    (go_at_call 31; (with_reducible refine (cF1.out _).mono ?_); rintro _ w3 ⟨rfl, hk9⟩; replace hS := hS.keepB hk9; clear hk9)
    try clear hC
    refine cl hK (fun hC => ?_)
    clear hK K
    refine mixs_one 3 (by kernel_rfl) rfl (fun K hK => ?_)
    go_simp
    (go_at_call 31; (with_reducible refine (cF2.out _).mono ?_); rintro _ w3 ⟨rfl, hk9⟩; replace hS := hS.keepB hk9; clear hk9)
    try clear hC
    refine cl hK (fun hC => ?_)
    clear hK K
    refine mixs_one 6 (by kernel_rfl) rfl (fun K hK => ?_)
    refine op_storerow_st (by kernel_rfl) 0 hS rfl rfl rfl (by kernel_rfl) rfl rfl rfl rfl ?_
    clear hS; intro w1 hS; try simp only [List.set_cons_zero, List.set_cons_succ, List.setIfInBounds_toArray, List.take_succ_cons, List.take_zero, List.drop_succ_cons, List.drop_zero, List.nil_append, List.cons_append, List.append_nil, List.drop_nil, List.take_nil, List.length_cons, List.length_nil, Nat.zero_add, Nat.add_zero, Nat.reduceAdd] at hS
    try clear hC
    refine cl hK (fun hC => ?_)
    clear hK K
    refine mixs_one 7 (by kernel_rfl) rfl (fun K hK => ?_)
    refine op_storerow_st (by kernel_rfl) 1 hS rfl rfl rfl (by kernel_rfl) rfl rfl rfl rfl ?_
    clear hS; intro w1 hS; try simp only [List.set_cons_zero, List.set_cons_succ, List.setIfInBounds_toArray, List.take_succ_cons, List.take_zero, List.drop_succ_cons, List.drop_zero, List.nil_append, List.cons_append, List.append_nil, List.drop_nil, List.take_nil, List.length_cons, List.length_nil, Nat.zero_add, Nat.add_zero, Nat.reduceAdd] at hS
    try clear hC
    refine cl hK (fun hC => ?_)
    clear hK K
    refine wpAnyH_done (by kernel_rfl) ?_ _
    clear k3 k4
    go_wp2_with fail
    go_meet
    first | exact ⟨_, _, rfl, rfl, hS⟩ | exact ⟨_, _, rfl, rfl, hS.swap⟩
 case rest =>
  clear hS
  obtain ⟨g7, g8, rfl, rfl, hS⟩ := hcut
  go_wp2_with fail
  go_loopg [9] N (fun gk vx wr => ∃ i : Nat, i + gk = N ∧ vx = .int .i64 ((i : Int) + 1) ∧ St w [] [Ch.blk g8 53 #[.int .i64 b.seq, .int .i64 b.sh.next, .slice t.ca b.sh.m.length t.cc, .slice t.da b.sh.dead.length t.dc, .slice t.ga t.grs.length t.gc], Ch.blk g7 53 #[.int .i64 a.seq, .int .i64 a.sh.next, .slice r.ca a.sh.m.length r.cc, .slice r.da a.sh.dead.length r.dc, .slice r.ga r.grs.length r.gc], Ch.blk g4 31 #[.int .i64 b.seq, .int .i64 b.sh.next, .slice t.ca b.sh.m.length t.cc, .slice t.da b.sh.dead.length t.dc, .slice t.ga t.grs.length t.gc], Ch.blk g3 31 #[.int .i64 a.seq, .int .i64 a.sh.next, .slice r.ca a.sh.m.length r.cc, .slice r.da a.sh.dead.length r.dc, .slice r.ga r.grs.length r.gc]] wr)
  case atStart => exact ⟨0, Nat.zero_add _, rfl, hS⟩
  case round =>
   clear hS
   obtain ⟨i, hi, rfl, hS⟩ := hrel
   by_cases hlt : i < N
   case neg =>
    have d1 : decide ((i : Int) + 1 ≤ (a.sh.m.length : Int) + (b.sh.m.length : Int) + (a.sh.dead.length : Int) + 2) = false := decide_eq_false (by omega)
    go_wp2_with (first | (with_reducible refine ld 2 hS rfl rfl rfl rfl rfl ?_) | (with_reducible refine ld 3 hS rfl rfl rfl rfl rfl ?_))
    go_ret
    exact ⟨rfl, hS.below⟩
   have d1 : decide ((i : Int) + 1 ≤ (a.sh.m.length : Int) + (b.sh.m.length : Int) + (a.sh.dead.length : Int) + 2) = true := decide_eq_true (by omega)
   obtain ⟨x, hxi⟩ : ∃ x : Int, x = (i : Int) + 1 := ⟨_, rfl⟩
   rw [← hxi] at d1 ⊢
   have hwx : IntKind.i64.wrap (x + 1) = x + 1 := IntWalk.i64_in _ (by omega)
   replace hxi := Lib.hid hxi
   replace hi := Lib.hid hi
   replace hlt := Lib.hid hlt
   replace hN := Lib.hid hN
   go_wp2_with (first | (with_reducible refine ld 2 hS rfl rfl rfl rfl rfl ?_) | (with_reducible refine ld 3 hS rfl rfl rfl rfl rfl ?_))
   go_loopg [10, 11] k (fun gk2 vb vk wr => ∃ (z : Nat) (bb : Bool), z + gk2 = k ∧ vk = .int .i64 z ∧ vb = .bool bb ∧ Hid (bb = decide (x ∈ T.take z)) ∧ St w [] [Ch.blk g8 53 #[.int .i64 b.seq, .int .i64 b.sh.next, .slice t.ca b.sh.m.length t.cc, .slice t.da b.sh.dead.length t.dc, .slice t.ga t.grs.length t.gc], Ch.blk g7 53 #[.int .i64 a.seq, .int .i64 a.sh.next, .slice r.ca a.sh.m.length r.cc, .slice r.da a.sh.dead.length r.dc, .slice r.ga r.grs.length r.gc], Ch.blk g4 31 #[.int .i64 b.seq, .int .i64 b.sh.next, .slice t.ca b.sh.m.length t.cc, .slice t.da b.sh.dead.length t.dc, .slice t.ga t.grs.length t.gc], Ch.blk g3 31 #[.int .i64 a.seq, .int .i64 a.sh.next, .slice r.ca a.sh.m.length r.cc, .slice r.da a.sh.dead.length r.dc, .slice r.ga r.grs.length r.gc]] wr)
   case atStart => exact ⟨0, false, Nat.zero_add _, rfl, rfl, Lib.hid (by simp), hS⟩
   case round =>
    clear hS
    obtain ⟨z, bb, hz, rfl, rfl, hbb, hS⟩ := hrel
    by_cases hlz : z < k
    · obtain ⟨b1, o1, rfl⟩ := hbase.out (by omega)
      have hzl : z < T.length := by rw [hk.out]; exact hlz
      have z0 := (hS.sl hT.out).add z (.int .i64 T[z]) (by simp [vi, hzl])
      rw [Addr.add_lit] at z0
      have htk : T.take (z + 1) = T.take z ++ [T[z]] := List.take_succ_eq_append_getElem hzl
      have hn1 : bb = true → true = decide (x ∈ T.take (z + 1)) := fun h => by
       have h2 := hbb.out
       rw [h] at h2
       have h3 := of_decide_eq_true h2.symm
       exact (decide_eq_true (by rw [htk]; exact List.mem_append_left _ h3)).symm
      have hn2 : T[z] = x → true = decide (x ∈ T.take (z + 1)) := fun h => (decide_eq_true (by rw [htk, h]; simp)).symm
      have hn3 : bb = false → T[z] ≠ x → false = decide (x ∈ T.take (z + 1)) := fun h h1 => by
       have h2 := hbb.out
       rw [h] at h2
       have h3 := of_decide_eq_false h2.symm
       refine (decide_eq_false ?_).symm
       rw [htk, List.mem_append]
       rintro (h4 | h4)
       · exact h3 h4
       · exact h1 (List.mem_singleton.1 h4).symm
      clear htk hbb
      generalize T[z] = tz at *
      cases bb
      case true =>
       replace hn1 := Lib.hid (hn1 rfl)
       clear hn2 hn3
       go_wp2_with fail
       go_roundg (k - (z + 1))
       case measure => omega
       case rel => exact ⟨z + 1, true, by omega, by go_num, rfl, hn1, hS⟩
      clear hn1
      by_cases hq : tz = x
      case pos =>
       have q1 : (tz == x) = true := by simpa using hq
       replace hn2 := Lib.hid (hn2 hq)
       clear hn3 hq
       go_wp2_with fail
       go_roundg (k - (z + 1))
       case measure => omega
       case rel => exact ⟨z + 1, true, by omega, by go_num, rfl, hn2, hS⟩
      have q1 : (tz == x) = false := by simpa using hq
      replace hn3 := Lib.hid (hn3 rfl hq)
      clear hn2 hq
      go_wp2_with fail
      go_roundg (k - (z + 1))
      case measure => omega
      case rel => exact ⟨z + 1, false, by omega, by go_num, rfl, hn3, hS⟩
    have hzk : z = k := by omega
    subst hzk
    rw [List.take_of_length_le (by rw [hk.out]; exact Nat.le_refl _)] at hbb
    have cA1 := fun W h => cA.out x W h
    have cB1 := fun W h => cB.out x W h
    rw [show sgV (a.sh.get x) = .tuple #[.agg (cdRow (a.sh.get x).1).toArray, .int .i64 (a.sh.get x).2] from rfl] at cA1
    rw [show sgV (b.sh.get x) = .tuple #[.agg (cdRow (b.sh.get x).1).toArray, .int .i64 (b.sh.get x).2] from rfl] at cB1
    have cOA1 := fun W h => cOA.out x W h
    have cOB1 := fun W h => cOB.out x W h
    have hla := cdRow_lenT _ (hfa.out x)
    have hoa1 := cdRow_oneT (a.sh.get x).1
    have hlb := cdRow_lenT _ (hfb.out x)
    have hob1 := cdRow_oneT (b.sh.get x).1
    have hE := fun W => neq_cd (a.sh.get x).1 (a.sh.get x).1 (hfa.out x) (hfa.out x) W
    simp only [decide_true, Bool.not_true] at hE
    cases bb
    case true =>
     clear hE hbb
     generalize cdRow (a.sh.get x).1 = GA at *
     generalize cdRow (b.sh.get x).1 = GB at *
     generalize (a.sh.get x).2 = ea at *
     generalize (b.sh.get x).2 = fb at *
     replace cA1 := Lib.hid cA1
     replace cB1 := Lib.hid cB1
     go_wp2_with (first | (go_at_call 17; (with_reducible refine (cA1.out _ hS.below).mono ?_); rintro _ w3 ⟨rfl, hk9⟩; replace hS := hS.keepB hk9; clear hk9) | (go_at_call 17; (with_reducible refine (cB1.out _ hS.below).mono ?_); rintro _ w3 ⟨rfl, hk9⟩; replace hS := hS.keepB hk9; clear hk9) | ((with_reducible refine wpList_loadrow_st (t := 51) (n := 3) (j := 1) (vs := [.int .i64 a.sh.next, .slice r.ca a.sh.m.length r.cc, .slice r.da a.sh.dead.length r.dc]) 1 hS rfl rfl rfl rfl (by kernel_rfl) (by kernel_rfl) rfl rfl ?_)) | ((with_reducible refine wpList_loadrow_st (t := 51) (n := 3) (j := 1) (vs := [.int .i64 b.sh.next, .slice t.ca b.sh.m.length t.cc, .slice t.da b.sh.dead.length t.dc]) 1 hS rfl rfl rfl rfl (by kernel_rfl) (by kernel_rfl) rfl rfl ?_)) | (with_reducible refine wpList_alloc_st (t := 58) hS rfl rfl ec ?_; clear hS; intro gc1 w1 hS) | ((with_reducible refine wpList_storerow_st (t := 58) (n := 27) (vs := GA) 0 hS rfl rfl rfl rfl (by kernel_rfl) rfl hla hoa1 (by kernel_rfl) ?_); clear hS; intro w1 hS; try simp only [List.set_cons_zero, List.set_cons_succ, List.setIfInBounds_toArray, List.take_succ_cons, List.take_zero, List.drop_succ_cons, List.drop_zero, List.nil_append, List.cons_append, List.append_nil, List.drop_nil, List.take_nil, List.length_cons, List.length_nil, Nat.zero_add, Nat.add_zero, Nat.reduceAdd] at hS) | ((with_reducible refine wpList_storerow_st (t := 58) (n := 27) (vs := GB) 0 hS rfl rfl rfl rfl (by kernel_rfl) rfl hlb hob1 (by kernel_rfl) ?_); clear hS; intro w1 hS; try simp only [List.set_cons_zero, List.set_cons_succ, List.setIfInBounds_toArray, List.take_succ_cons, List.take_zero, List.drop_succ_cons, List.drop_zero, List.nil_append, List.cons_append, List.append_nil, List.drop_nil, List.take_nil, List.length_cons, List.length_nil, Nat.zero_add, Nat.add_zero, Nat.reduceAdd] at hS))
     refine mixs_begin (by kernel_rfl) hS ?_
     clear hS
     intro w7 hS
     refine tk 0 ?_
     refine tk 1 ?_
     refine tk 2 ?_
     refine sk 3 ?_
     refine sk 4 ?_
     refine sk 5 ?_
     refine sk 6 ?_
     refine sk 7 ?_
     refine sk 8 ?_
     refine sk 9 ?_
     refine sk 10 ?_
     refine sk 11 ?_
     refine sk 12 ?_
     refine sk 13 ?_
     refine sk 14 ?_
     refine sk 15 ?_
     refine sk 16 ?_
     refine sk 17 ?_
     refine sk 18 ?_
     refine sk 19 ?_
     refine sk 20 ?_
     refine sk 21 ?_
     refine sk 22 ?_
     refine sk 23 ?_
     refine sk 24 ?_
     refine tk 25 ?_
     refine wpAnyH_done (by kernel_rfl) ?_ _
     go_wp2_with fail
     have hi2 := hi.out
     have hlt2 := hlt.out
     go_roundg (N - (i + 1))
     case measure => omega
     case rel => exact ⟨i + 1, by omega, by rw [hxi.out]; rfl, hS.drop.drop⟩
    obtain ⟨s1, s2, s3⟩ := hgs.out x (of_decide_eq_false hbb.out.symm)
    rw [s1] at cB1 hlb hob1
    rw [s3] at cOB1
    clear s1 s3 hbb
    generalize cdRow (a.sh.get x).1 = GA at *
    generalize (a.sh.get x).2 = ea at *
    generalize (b.sh.get x).2 = fb at *
    generalize ofK a.ks x = og at *
    have hra : (GA.toArray.toList.drop 0).take 27 = GA := by simp [← hla]
    replace cA1 := Lib.hid cA1
    replace cB1 := Lib.hid cB1
    replace cOA1 := Lib.hid cOA1
    replace cOB1 := Lib.hid cOB1
    by_cases hea : ea = 0
    case pos =>
     have hf0 := s2 hea
     subst hea hf0
     clear s2
     go_wp2_with (first | (go_at_call 17; (with_reducible refine (cA1.out _ hS.below).mono ?_); rintro _ w3 ⟨rfl, hk9⟩; replace hS := hS.keepB hk9; clear hk9) | (go_at_call 17; (with_reducible refine (cB1.out _ hS.below).mono ?_); rintro _ w3 ⟨rfl, hk9⟩; replace hS := hS.keepB hk9; clear hk9) | ((with_reducible refine wpList_loadrow_st (t := 51) (n := 3) (j := 1) (vs := [.int .i64 a.sh.next, .slice r.ca a.sh.m.length r.cc, .slice r.da a.sh.dead.length r.dc]) 1 hS rfl rfl rfl rfl (by kernel_rfl) (by kernel_rfl) rfl rfl ?_)) | ((with_reducible refine wpList_loadrow_st (t := 51) (n := 3) (j := 1) (vs := [.int .i64 b.sh.next, .slice t.ca b.sh.m.length t.cc, .slice t.da b.sh.dead.length t.dc]) 1 hS rfl rfl rfl rfl (by kernel_rfl) (by kernel_rfl) rfl rfl ?_)) | (with_reducible refine wpList_alloc_st (t := 58) hS rfl rfl ec ?_; clear hS; intro gc1 w1 hS) | ((with_reducible refine wpList_storerow_st (t := 58) (n := 27) (vs := GA) 0 hS rfl rfl rfl rfl (by kernel_rfl) rfl hla hoa1 (by kernel_rfl) ?_); clear hS; intro w1 hS; try simp only [List.set_cons_zero, List.set_cons_succ, List.setIfInBounds_toArray, List.take_succ_cons, List.take_zero, List.drop_succ_cons, List.drop_zero, List.nil_append, List.cons_append, List.append_nil, List.drop_nil, List.take_nil, List.length_cons, List.length_nil, Nat.zero_add, Nat.add_zero, Nat.reduceAdd] at hS))
     have k8 := hS.krow (P := Tryz.prog) (j := 0) 1 rfl (t := 58) (by kernel_rfl) (n := 27) (by kernel_rfl) hra hla
     have k9 := hS.krow (P := Tryz.prog) (j := 0) 0 rfl (t := 58) (by kernel_rfl) (n := 27) (by kernel_rfl) hra hla
     have k3 := hS.kblk 5 rfl
     have k4 := hS.kblk 4 rfl
     refine mixs_begin (by kernel_rfl) hS ?_
     clear hS
     intro w7 hS
     refine tk 0 ?_
     refine tk 1 ?_
     refine tk 2 ?_
     refine tkr 3 k8 ?_
     refine tkr 4 k9 ?_
     refine tk 5 ?_
     refine tk 6 ?_
     refine tk 7 ?_
     refine tk 8 ?_
     refine tk 9 ?_
     refine tk 10 ?_
     refine tk 11 ?_
     refine tk 12 ?_
     refine tk 13 ?_
     refine tk 14 ?_
     refine tk 15 ?_
     refine tk 16 ?_
     refine tk 17 ?_
     refine tk 19 ?_
     refine tk 20 ?_
     refine tk 21 ?_
     refine mixs_one 18 (by kernel_rfl) rfl (fun K hK => ?_)
     go_simp
     (go_at_call 19; (with_reducible refine (cOA1.out _ hS.below).mono ?_); rintro _ _ ⟨rfl, rfl⟩)
     try clear hC
     refine cl hK (fun hC => ?_)
     clear hK K
     refine mixs_one 22 (by kernel_rfl) rfl (fun K hK => ?_)
     go_simp
     (go_at_call 19; (with_reducible refine (cOB1.out _ hS.below).mono ?_); rintro _ _ ⟨rfl, rfl⟩)
     try clear hC
     refine cl hK (fun hC => ?_)
     clear hK K
     refine tk 23 ?_
     refine tk 24 ?_
     refine tk 25 ?_
     refine wpAnyH_done (by kernel_rfl) ?_ _
     clear k8 k9 k3 k4
     go_wp2_with fail
     have hi2 := hi.out
     have hlt2 := hlt.out
     go_roundg (N - (i + 1))
     case measure => omega
     case rel => exact ⟨i + 1, by omega, by rw [hxi.out]; rfl, hS.drop.drop⟩
    have q1 : (ea == 0) = false := by simpa using hea
    clear s2 hea
    go_wp2_with (first | (go_at_call 17; (with_reducible refine (cA1.out _ hS.below).mono ?_); rintro _ w3 ⟨rfl, hk9⟩; replace hS := hS.keepB hk9; clear hk9) | (go_at_call 17; (with_reducible refine (cB1.out _ hS.below).mono ?_); rintro _ w3 ⟨rfl, hk9⟩; replace hS := hS.keepB hk9; clear hk9) | ((with_reducible refine wpList_loadrow_st (t := 51) (n := 3) (j := 1) (vs := [.int .i64 a.sh.next, .slice r.ca a.sh.m.length r.cc, .slice r.da a.sh.dead.length r.dc]) 1 hS rfl rfl rfl rfl (by kernel_rfl) (by kernel_rfl) rfl rfl ?_)) | ((with_reducible refine wpList_loadrow_st (t := 51) (n := 3) (j := 1) (vs := [.int .i64 b.sh.next, .slice t.ca b.sh.m.length t.cc, .slice t.da b.sh.dead.length t.dc]) 1 hS rfl rfl rfl rfl (by kernel_rfl) (by kernel_rfl) rfl rfl ?_)) | (with_reducible refine wpList_alloc_st (t := 58) hS rfl rfl ec ?_; clear hS; intro gc1 w1 hS) | ((with_reducible refine wpList_storerow_st (t := 58) (n := 27) (vs := GA) 0 hS rfl rfl rfl rfl (by kernel_rfl) rfl hla hoa1 (by kernel_rfl) ?_); clear hS; intro w1 hS; try simp only [List.set_cons_zero, List.set_cons_succ, List.setIfInBounds_toArray, List.take_succ_cons, List.take_zero, List.drop_succ_cons, List.drop_zero, List.nil_append, List.cons_append, List.append_nil, List.drop_nil, List.take_nil, List.length_cons, List.length_nil, Nat.zero_add, Nat.add_zero, Nat.reduceAdd] at hS))
    have k8 := hS.krow (P := Tryz.prog) (j := 0) 1 rfl (t := 58) (by kernel_rfl) (n := 27) (by kernel_rfl) hra hla
    have k9 := hS.krow (P := Tryz.prog) (j := 0) 0 rfl (t := 58) (by kernel_rfl) (n := 27) (by kernel_rfl) hra hla
    have k3 := hS.kblk 5 rfl
    have k4 := hS.kblk 4 rfl
    refine mixs_begin (by kernel_rfl) hS ?_
    clear hS
    intro w7 hS
    refine tk 0 ?_
    refine tk 1 ?_
    refine tk 2 ?_
    refine tkr 3 k8 ?_
    refine tkr 4 k9 ?_
    refine tk 5 ?_
    refine tk 6 ?_
    refine tk 7 ?_
    refine tk 8 ?_
    refine tk 9 ?_
    refine sk 10 ?_
    refine sk 11 ?_
    refine tk 12 ?_
    refine tk 13 ?_
    refine tk 14 ?_
    refine tk 15 ?_
    refine tk 16 ?_
    refine tk 17 ?_
    refine tk 19 ?_
    refine tk 20 ?_
    refine tk 21 ?_
    refine mixs_one 18 (by kernel_rfl) rfl (fun K hK => ?_)
    go_simp
    (go_at_call 19; (with_reducible refine (cOA1.out _ hS.below).mono ?_); rintro _ _ ⟨rfl, rfl⟩)
    try clear hC
    refine cl hK (fun hC => ?_)
    clear hK K
    refine mixs_one 22 (by kernel_rfl) rfl (fun K hK => ?_)
    go_simp
    (go_at_call 19; (with_reducible refine (cOB1.out _ hS.below).mono ?_); rintro _ _ ⟨rfl, rfl⟩)
    try clear hC
    refine cl hK (fun hC => ?_)
    clear hK K
    refine tk 23 ?_
    refine tk 24 ?_
    refine tk 25 ?_
    refine wpAnyH_done (by kernel_rfl) ?_ _
    clear k8 k9 k3 k4
    go_wp2_with fail
    have hi2 := hi.out
    have hlt2 := hlt.out
    go_roundg (N - (i + 1))
    case measure => omega
    case rel => exact ⟨i + 1, by omega, by rw [hxi.out]; rfl, hS.drop.drop⟩
end Go.Proofs.YtneolmnpebiifaaGreatDoor
end
