import Derived.Test.YtneolmnpebiifaaGreatDoorM43
set_option linter.unusedVariables false
set_option linter.unusedSimpArgs false
set_option maxRecDepth 100000
section
namespace Go.Proofs.YtneolmnpebiifaaGreatDoor
open Go.RowKit Go.Ofp
set_option maxHeartbeats 8000000
theorem rbright_any (b : BkS) (r : RV) (w : World) (h : r.at b w) (hkl : b.ks.length ≤ 1000) (hkm : ∀ k ∈ b.ks, k.2.length ≤ 10000) :
 Calls Tryz.prog 29 #[.agg (bdRow b r).toArray] w fun e w' => e = .returned (.bool b.right) ∧ Below w.heap.size w w' := by
 have hS := St.start w
 have er := elem_rb
 rw [bdRow_eq]
 have cOf := Lib.hid fun W => rbof_any b r W
 obtain ⟨RB, hRB⟩ : ∃ c, b.right = c := ⟨_, rfl⟩
 rw [hRB]
 replace hRB := Lib.hid hRB
 obtain ⟨rca, rcc, rda, rdc, rga, rgc, rgrs⟩ := r
 have hlc0 : LC w b.sh rca rcc := h.lc
 have hld0 : LD w b.sh rda rdc := h.ld
 have hde : Deep w rga rgrs.length rgc rgrs := h.deep
 have hks : keys rgrs = b.ks := h.ks
 clear h
 dsimp only at *
 have hno := Lib.hid fun W (h1 : b.right = false) (h2 : Below w.heap.size w W) => show Ending.returned (.bool false) = .returned (.bool RB) ∧ Below w.heap.size w W from ⟨by rw [← hRB.out, h1], h2⟩
 have hgl : rgrs.length ≤ 1000 := by have e := congrArg List.length hks; simp [keys] at e; omega
 have cS := fun W (k : Below w.heap.size w W) => rsright_any b.sh.next b.sh.m b.sh.dead rca rcc rda rdc W (hlc0.below k) (hld0.below k)
 have cK := fun W (k : Below w.heap.size w W) => rgcheck_any rga rgrs rgrs.length rgc W (hde.below k) (by omega)
 rw [hks] at cK
 have e0 : rsRow ⟨b.sh.next, b.sh.m, b.sh.dead⟩ rca rcc rda rdc = [.int .i64 b.sh.next, .slice rca b.sh.m.length rcc, .slice rda b.sh.dead.length rdc] := rfl
 rw [e0] at cS
 clear e0
 obtain ⟨ck, hck⟩ : ∃ c, chkK b.ks = c := ⟨_, rfl⟩
 rw [hck] at cK
 replace cK := Lib.hid cK
 cases hE1 : b.sh.right
 case false =>
  have hr := Lib.hid (right_sh hE1)
  have hE2 : (ShS.mk b.sh.next b.sh.m b.sh.dead).right = false := hE1
  rw [hE2] at cS
  replace cS := Lib.hid cS
  clear hE1 hE2 hck hlc0 hld0 hde hks
  go_enter Tryz.func29, Tryz.ntmps29
  go_wp2_with (first | (with_reducible refine wpList_box_st (L := []) hS rfl rfl rfl ?_; clear hS; intro gb w1 hS) | ((with_reducible refine wpList_gloadrow_st (t := 31) (n := 5) (j := 0) (vs := [.int .i64 b.seq, .int .i64 b.sh.next, .slice rca b.sh.m.length rcc, .slice rda b.sh.dead.length rdc, .slice rga rgrs.length rgc]) 0 hS rfl (by with_unfolding_all rfl) rfl rfl ?_ (by kernel_rfl) rfl rfl ?_); focus (simp [rowB, go_sem]; done)) | (go_at_call 31; (with_reducible refine (cOf.out _).mono ?_); rintro _ w3 ⟨rfl, hk9⟩; replace hS := hS.keepB hk9; clear hk9) | (with_reducible refine wpList_alloc_st (t := 53) hS rfl rfl er ?_; clear hS; intro gB w1 hS) | ((with_reducible refine wpList_storerow_st (t := 53) (n := 5) (vs := [.int .i64 b.seq, .int .i64 b.sh.next, .slice rca b.sh.m.length rcc, .slice rda b.sh.dead.length rdc, .slice rga rgrs.length rgc]) 0 hS rfl rfl rfl rfl (by kernel_rfl) rfl rfl rfl (by kernel_rfl) ?_); clear hS; intro w1 hS; try simp only [List.set_cons_zero, List.set_cons_succ, List.setIfInBounds_toArray, List.take_succ_cons, List.take_zero, List.drop_succ_cons, List.drop_zero, List.nil_append, List.cons_append, List.append_nil, List.drop_nil, List.take_nil, List.length_cons, List.length_nil, Nat.zero_add, Nat.add_zero, Nat.reduceAdd] at hS; have y0 : World.cell? _ ⟨gb, 0, none⟩ = some (.int .i64 b.seq) := hS.cell 1 rfl 0; have y4 : World.cell? _ ⟨gb, 4, none⟩ = some (.slice rga rgrs.length rgc) := hS.cell 1 rfl 4) | ((with_reducible refine wpList_gloadrow_st (t := 51) (n := 3) (j := 1) (vs := [.int .i64 b.sh.next, .slice rca b.sh.m.length rcc, .slice rda b.sh.dead.length rdc]) 0 hS rfl (by with_unfolding_all rfl) rfl rfl ?_ (by kernel_rfl) rfl rfl ?_); focus (simp [rowB, go_sem]; done)) | (go_at_call 59; (with_reducible refine (cS.out _ hS.below).mono ?_); rintro _ w3 ⟨rfl, hk9⟩; clear y0 y4; replace hS := hS.keepB hk9; clear hk9; have y0 : World.cell? _ ⟨gb, 0, none⟩ = some (.int .i64 b.seq) := hS.cell 1 rfl 0; have y4 : World.cell? _ ⟨gb, 4, none⟩ = some (.slice rga rgrs.length rgc) := hS.cell 1 rfl 4))
  go_ret
  exact hno.out _ hr.out hS.below
 have hE2 : (ShS.mk b.sh.next b.sh.m b.sh.dead).right = true := hE1
 rw [hE2] at cS
 replace cS := Lib.hid cS
 clear hE2
 by_cases h2 : b.seq < 0
 case pos =>
  have d2 : decide (b.seq < 0) = true := decide_eq_true h2
  have hr := Lib.hid (right_neg h2)
  clear h2 hE1 hck hlc0 hld0 hde hks
  go_enter Tryz.func29, Tryz.ntmps29
  go_wp2_with (first | (with_reducible refine wpList_box_st (L := []) hS rfl rfl rfl ?_; clear hS; intro gb w1 hS) | ((with_reducible refine wpList_gloadrow_st (t := 31) (n := 5) (j := 0) (vs := [.int .i64 b.seq, .int .i64 b.sh.next, .slice rca b.sh.m.length rcc, .slice rda b.sh.dead.length rdc, .slice rga rgrs.length rgc]) 0 hS rfl (by with_unfolding_all rfl) rfl rfl ?_ (by kernel_rfl) rfl rfl ?_); focus (simp [rowB, go_sem]; done)) | (go_at_call 31; (with_reducible refine (cOf.out _).mono ?_); rintro _ w3 ⟨rfl, hk9⟩; replace hS := hS.keepB hk9; clear hk9) | (with_reducible refine wpList_alloc_st (t := 53) hS rfl rfl er ?_; clear hS; intro gB w1 hS) | ((with_reducible refine wpList_storerow_st (t := 53) (n := 5) (vs := [.int .i64 b.seq, .int .i64 b.sh.next, .slice rca b.sh.m.length rcc, .slice rda b.sh.dead.length rdc, .slice rga rgrs.length rgc]) 0 hS rfl rfl rfl rfl (by kernel_rfl) rfl rfl rfl (by kernel_rfl) ?_); clear hS; intro w1 hS; try simp only [List.set_cons_zero, List.set_cons_succ, List.setIfInBounds_toArray, List.take_succ_cons, List.take_zero, List.drop_succ_cons, List.drop_zero, List.nil_append, List.cons_append, List.append_nil, List.drop_nil, List.take_nil, List.length_cons, List.length_nil, Nat.zero_add, Nat.add_zero, Nat.reduceAdd] at hS; have y0 : World.cell? _ ⟨gb, 0, none⟩ = some (.int .i64 b.seq) := hS.cell 1 rfl 0; have y4 : World.cell? _ ⟨gb, 4, none⟩ = some (.slice rga rgrs.length rgc) := hS.cell 1 rfl 4) | ((with_reducible refine wpList_gloadrow_st (t := 51) (n := 3) (j := 1) (vs := [.int .i64 b.sh.next, .slice rca b.sh.m.length rcc, .slice rda b.sh.dead.length rdc]) 0 hS rfl (by with_unfolding_all rfl) rfl rfl ?_ (by kernel_rfl) rfl rfl ?_); focus (simp [rowB, go_sem]; done)) | (go_at_call 59; (with_reducible refine (cS.out _ hS.below).mono ?_); rintro _ w3 ⟨rfl, hk9⟩; clear y0 y4; replace hS := hS.keepB hk9; clear hk9; have y0 : World.cell? _ ⟨gb, 0, none⟩ = some (.int .i64 b.seq) := hS.cell 1 rfl 0; have y4 : World.cell? _ ⟨gb, 4, none⟩ = some (.slice rga rgrs.length rgc) := hS.cell 1 rfl 4))
  go_ret
  exact hno.out _ hr.out hS.below
 have d2 : decide (b.seq < 0) = false := decide_eq_false h2
 by_cases h3 : 1099511627776 < b.seq
 case pos =>
  have d3 : decide (1099511627776 < b.seq) = true := decide_eq_true h3
  have hr := Lib.hid (right_big h3)
  clear h2 h3 hE1 hck hlc0 hld0 hde hks
  go_enter Tryz.func29, Tryz.ntmps29
  go_wp2_with (first | (with_reducible refine wpList_box_st (L := []) hS rfl rfl rfl ?_; clear hS; intro gb w1 hS) | ((with_reducible refine wpList_gloadrow_st (t := 31) (n := 5) (j := 0) (vs := [.int .i64 b.seq, .int .i64 b.sh.next, .slice rca b.sh.m.length rcc, .slice rda b.sh.dead.length rdc, .slice rga rgrs.length rgc]) 0 hS rfl (by with_unfolding_all rfl) rfl rfl ?_ (by kernel_rfl) rfl rfl ?_); focus (simp [rowB, go_sem]; done)) | (go_at_call 31; (with_reducible refine (cOf.out _).mono ?_); rintro _ w3 ⟨rfl, hk9⟩; replace hS := hS.keepB hk9; clear hk9) | (with_reducible refine wpList_alloc_st (t := 53) hS rfl rfl er ?_; clear hS; intro gB w1 hS) | ((with_reducible refine wpList_storerow_st (t := 53) (n := 5) (vs := [.int .i64 b.seq, .int .i64 b.sh.next, .slice rca b.sh.m.length rcc, .slice rda b.sh.dead.length rdc, .slice rga rgrs.length rgc]) 0 hS rfl rfl rfl rfl (by kernel_rfl) rfl rfl rfl (by kernel_rfl) ?_); clear hS; intro w1 hS; try simp only [List.set_cons_zero, List.set_cons_succ, List.setIfInBounds_toArray, List.take_succ_cons, List.take_zero, List.drop_succ_cons, List.drop_zero, List.nil_append, List.cons_append, List.append_nil, List.drop_nil, List.take_nil, List.length_cons, List.length_nil, Nat.zero_add, Nat.add_zero, Nat.reduceAdd] at hS; have y0 : World.cell? _ ⟨gb, 0, none⟩ = some (.int .i64 b.seq) := hS.cell 1 rfl 0; have y4 : World.cell? _ ⟨gb, 4, none⟩ = some (.slice rga rgrs.length rgc) := hS.cell 1 rfl 4) | ((with_reducible refine wpList_gloadrow_st (t := 51) (n := 3) (j := 1) (vs := [.int .i64 b.sh.next, .slice rca b.sh.m.length rcc, .slice rda b.sh.dead.length rdc]) 0 hS rfl (by with_unfolding_all rfl) rfl rfl ?_ (by kernel_rfl) rfl rfl ?_); focus (simp [rowB, go_sem]; done)) | (go_at_call 59; (with_reducible refine (cS.out _ hS.below).mono ?_); rintro _ w3 ⟨rfl, hk9⟩; clear y0 y4; replace hS := hS.keepB hk9; clear hk9; have y0 : World.cell? _ ⟨gb, 0, none⟩ = some (.int .i64 b.seq) := hS.cell 1 rfl 0; have y4 : World.cell? _ ⟨gb, 4, none⟩ = some (.slice rga rgrs.length rgc) := hS.cell 1 rfl 4))
  go_ret
  exact hno.out _ hr.out hS.below
 have d3 : decide (1099511627776 < b.seq) = false := decide_eq_false h3
 cases ck
 case false =>
  have hr := Lib.hid (right_chk hck)
  clear h2 h3 hE1 hck hlc0 hld0 hde hks
  go_enter Tryz.func29, Tryz.ntmps29
  go_wp2_with (first | (with_reducible refine wpList_box_st (L := []) hS rfl rfl rfl ?_; clear hS; intro gb w1 hS) | ((with_reducible refine wpList_gloadrow_st (t := 31) (n := 5) (j := 0) (vs := [.int .i64 b.seq, .int .i64 b.sh.next, .slice rca b.sh.m.length rcc, .slice rda b.sh.dead.length rdc, .slice rga rgrs.length rgc]) 0 hS rfl (by with_unfolding_all rfl) rfl rfl ?_ (by kernel_rfl) rfl rfl ?_); focus (simp [rowB, go_sem]; done)) | (go_at_call 31; (with_reducible refine (cOf.out _).mono ?_); rintro _ w3 ⟨rfl, hk9⟩; replace hS := hS.keepB hk9; clear hk9) | (with_reducible refine wpList_alloc_st (t := 53) hS rfl rfl er ?_; clear hS; intro gB w1 hS) | ((with_reducible refine wpList_storerow_st (t := 53) (n := 5) (vs := [.int .i64 b.seq, .int .i64 b.sh.next, .slice rca b.sh.m.length rcc, .slice rda b.sh.dead.length rdc, .slice rga rgrs.length rgc]) 0 hS rfl rfl rfl rfl (by kernel_rfl) rfl rfl rfl (by kernel_rfl) ?_); clear hS; intro w1 hS; try simp only [List.set_cons_zero, List.set_cons_succ, List.setIfInBounds_toArray, List.take_succ_cons, List.take_zero, List.drop_succ_cons, List.drop_zero, List.nil_append, List.cons_append, List.append_nil, List.drop_nil, List.take_nil, List.length_cons, List.length_nil, Nat.zero_add, Nat.add_zero, Nat.reduceAdd] at hS; have y0 : World.cell? _ ⟨gb, 0, none⟩ = some (.int .i64 b.seq) := hS.cell 1 rfl 0; have y4 : World.cell? _ ⟨gb, 4, none⟩ = some (.slice rga rgrs.length rgc) := hS.cell 1 rfl 4) | ((with_reducible refine wpList_gloadrow_st (t := 51) (n := 3) (j := 1) (vs := [.int .i64 b.sh.next, .slice rca b.sh.m.length rcc, .slice rda b.sh.dead.length rdc]) 0 hS rfl (by with_unfolding_all rfl) rfl rfl ?_ (by kernel_rfl) rfl rfl ?_); focus (simp [rowB, go_sem]; done)) | (go_at_call 59; (with_reducible refine (cS.out _ hS.below).mono ?_); rintro _ w3 ⟨rfl, hk9⟩; clear y0 y4; replace hS := hS.keepB hk9; clear hk9; have y0 : World.cell? _ ⟨gb, 0, none⟩ = some (.int .i64 b.seq) := hS.cell 1 rfl 0; have y4 : World.cell? _ ⟨gb, 4, none⟩ = some (.slice rga rgrs.length rgc) := hS.cell 1 rfl 4) | (go_at_call 60; (with_reducible refine (cK.out _ hS.below).mono ?_); rintro _ w3 ⟨rfl, hk9⟩; clear y0 y4; replace hS := hS.keepB hk9; clear hk9))
  go_ret
  exact hno.out _ hr.out hS.below
 have hld := Lib.hid hld0
 have hlc := Lib.hid hlc0
 replace hde := Lib.hid hde
 replace hks := Lib.hid hks
 clear hlc0 hld0
 replace hck := Lib.hid hck
 replace hE1 := Lib.hid hE1
 have h2r := Lib.hid h2
 have h3r := Lib.hid h3
 clear h2 h3
 have hlens := Lib.hid (show ∀ y ∈ b.sh.m, (cdRow y).length = 27 from fun y hy => cdRow_lenT y (hlc.out.mem y hy))
 have hcb := Lib.hid (hlc.out.base (by decide) hlens.out)
 have hdb := Lib.hid (hld.out.base (by decide) (fun y _ => ddRow_len y))
 have hml : b.sh.m.length ≤ 48 := ((right_iff b.sh).1 hE1.out).2.2.1
 have hdl : b.sh.dead.length ≤ 40 := ((right_iff b.sh).1 hE1.out).2.2.2.1
 go_enter Tryz.func29, Tryz.ntmps29
 go_wp2_with (first | (with_reducible refine wpList_box_st (L := []) hS rfl rfl rfl ?_; clear hS; intro gb w1 hS) | ((with_reducible refine wpList_gloadrow_st (t := 31) (n := 5) (j := 0) (vs := [.int .i64 b.seq, .int .i64 b.sh.next, .slice rca b.sh.m.length rcc, .slice rda b.sh.dead.length rdc, .slice rga rgrs.length rgc]) 0 hS rfl (by with_unfolding_all rfl) rfl rfl ?_ (by kernel_rfl) rfl rfl ?_); focus (simp [rowB, go_sem]; done)) | (go_at_call 31; (with_reducible refine (cOf.out _).mono ?_); rintro _ w3 ⟨rfl, hk9⟩; replace hS := hS.keepB hk9; clear hk9) | (with_reducible refine wpList_alloc_st (t := 53) hS rfl rfl er ?_; clear hS; intro gB w1 hS) | ((with_reducible refine wpList_storerow_st (t := 53) (n := 5) (vs := [.int .i64 b.seq, .int .i64 b.sh.next, .slice rca b.sh.m.length rcc, .slice rda b.sh.dead.length rdc, .slice rga rgrs.length rgc]) 0 hS rfl rfl rfl rfl (by kernel_rfl) rfl rfl rfl (by kernel_rfl) ?_); clear hS; intro w1 hS; try simp only [List.set_cons_zero, List.set_cons_succ, List.setIfInBounds_toArray, List.take_succ_cons, List.take_zero, List.drop_succ_cons, List.drop_zero, List.nil_append, List.cons_append, List.append_nil, List.drop_nil, List.take_nil, List.length_cons, List.length_nil, Nat.zero_add, Nat.add_zero, Nat.reduceAdd] at hS; have y0 : World.cell? _ ⟨gb, 0, none⟩ = some (.int .i64 b.seq) := hS.cell 1 rfl 0; have y4 : World.cell? _ ⟨gb, 4, none⟩ = some (.slice rga rgrs.length rgc) := hS.cell 1 rfl 4) | ((with_reducible refine wpList_gloadrow_st (t := 51) (n := 3) (j := 1) (vs := [.int .i64 b.sh.next, .slice rca b.sh.m.length rcc, .slice rda b.sh.dead.length rdc]) 0 hS rfl (by with_unfolding_all rfl) rfl rfl ?_ (by kernel_rfl) rfl rfl ?_); focus (simp [rowB, go_sem]; done)) | (go_at_call 59; (with_reducible refine (cS.out _ hS.below).mono ?_); rintro _ w3 ⟨rfl, hk9⟩; clear y0 y4; replace hS := hS.keepB hk9; clear hk9; have y0 : World.cell? _ ⟨gb, 0, none⟩ = some (.int .i64 b.seq) := hS.cell 1 rfl 0; have y4 : World.cell? _ ⟨gb, 4, none⟩ = some (.slice rga rgrs.length rgc) := hS.cell 1 rfl 4) | (go_at_call 60; (with_reducible refine (cK.out _ hS.below).mono ?_); rintro _ w3 ⟨rfl, hk9⟩; clear y0 y4; replace hS := hS.keepB hk9; clear hk9))
 clear d2 d3
 go_loopg [4] b.sh.dead.length (fun gk vx wr => ∃ (k : Nat), k + gk = b.sh.dead.length ∧ vx = .int .i64 k ∧ Hid (∀ d ∈ b.sh.dead.take k, d.seq ≤ b.seq) ∧ St w [] [Ch.blk gB 53 #[.int .i64 b.seq, .int .i64 b.sh.next, .slice rca b.sh.m.length rcc, .slice rda b.sh.dead.length rdc, .slice rga rgrs.length rgc], Ch.blk gb 31 #[.int .i64 b.seq, .int .i64 b.sh.next, .slice rca b.sh.m.length rcc, .slice rda b.sh.dead.length rdc, .slice rga rgrs.length rgc]] wr)
 case atStart => exact ⟨0, Nat.zero_add _, rfl, Lib.hid (by simp), hS⟩
 case round =>
  clear hS
  obtain ⟨k, hk, rfl, hin, hS⟩ := hrel
  by_cases hlt : k < b.sh.dead.length
  case pos =>
   obtain ⟨b2, o2, rfl⟩ := hdb.out (by omega)
   have hr := hld.out.rowb (fun y _ => ddRow_len y) k hlt
   have c7 : w.cell? ⟨b2, o2 + k * 3 + 2, none⟩ = some (.int .i64 b.sh.dead[k].seq) := hr 2 _ rfl
   have hts : b.sh.dead.take (k + 1) = b.sh.dead.take k ++ [b.sh.dead[k]] := List.take_succ_eq_append_getElem hlt
   have hbad := fun h => right_deadAt (b := b) (List.getElem_mem hlt) h
   generalize b.sh.dead[k] = x at *
   have hnx : x.seq ≤ b.seq → ∀ d ∈ b.sh.dead.take (k + 1), d.seq ≤ b.seq := fun h1 d hd => by
    rw [hts] at hd
    rcases List.mem_append.1 hd with hd | hd
    · exact hin.out d hd
    · rw [List.mem_singleton.1 hd]; exact h1
   clear hr hts
   generalize x.seq = xs at *
   go_wp2_with (((with_reducible refine wpList_load_st 1 hS rfl rfl rfl rfl ?_ rfl ?_); focus (simp [scalarB, go_sem]; done)))
   have kb := hS.kblk 1 rfl
   have kz := hS.kold0 c7
   by_cases hq : b.seq < xs
   case pos =>
    have d4 : decide (b.seq < xs) = true := decide_eq_true hq
    have hr := Lib.hid (hbad hq)
    clear hbad hnx hq
    refine mixs_begin (by kernel_rfl) hS ?_
    clear hS
    intro w2 hS
    refine tk 0 ?_
    refine tk 1 ?_
    refine tk 2 ?_
    refine tk 3 ?_
    refine tk 4 ?_
    refine tk 5 ?_
    refine tk 6 ?_
    refine tk 7 ?_
    refine tk 8 ?_
    refine wpAnyH_done (by kernel_rfl) ?_ _
    clear kb kz
    go_wp2_with fail
    go_ret
    exact hno.out _ hr.out hS.below
   have d4 : decide (b.seq < xs) = false := decide_eq_false hq
   have hnx1 := Lib.hid (hnx (by omega))
   clear hbad hnx hq
   refine mixs_begin (by kernel_rfl) hS ?_
   clear hS
   intro w2 hS
   refine tk 0 ?_
   refine tk 1 ?_
   refine tk 2 ?_
   refine tk 3 ?_
   refine tk 4 ?_
   refine tk 5 ?_
   refine tk 6 ?_
   refine tk 7 ?_
   refine tk 8 ?_
   refine wpAnyH_done (by kernel_rfl) ?_ _
   clear kb kz
   go_wp2_with fail
   go_roundg (b.sh.dead.length - (k + 1))
   case measure => omega
   case rel => exact ⟨k + 1, by omega, by go_num, hnx1, hS⟩
  have hkn : k = b.sh.dead.length := by omega
  subst hkn
  have hdd := hin.out
  rw [List.take_length] at hdd
  have hls := Lib.hid (((seq_last hE1.out).2 ⟨by have := h2r.out; omega, hdd⟩).1)
  clear hdd hin hk
  go_wp2_with (first | ((with_reducible refine wpList_build0_st hS rfl rfl Tryz.underlying46 elem_i ?_); clear hS; intro g9 w7 hS) | ((with_reducible refine wpList_load_st 1 hS rfl rfl rfl rfl ?_ rfl ?_); focus (simp [scalarB, go_sem]; done)))
  go_loopg [5, 6] b.sh.m.length (fun gk vt vx wr => ∃ (j : Nat) (ta : Option Addr) (tc : Nat), j + gk = b.sh.m.length ∧ vx = .int .i64 j ∧ vt = .slice ta j tc ∧ St w [] [Ch.row 3 1 (.slice ta j tc) j ((b.sh.m.take j).map fun y => .int .i64 y.id), Ch.blk gB 53 #[.int .i64 b.seq, .int .i64 b.sh.next, .slice rca b.sh.m.length rcc, .slice rda b.sh.dead.length rdc, .slice rga rgrs.length rgc], Ch.blk gb 31 #[.int .i64 b.seq, .int .i64 b.sh.next, .slice rca b.sh.m.length rcc, .slice rda b.sh.dead.length rdc, .slice rga rgrs.length rgc]] wr)
  case atStart => exact ⟨0, _, _, Nat.zero_add _, rfl, rfl, hS⟩
  case round =>
   clear hS
   obtain ⟨j, ta, tc, hj, rfl, rfl, hS⟩ := hrel
   by_cases hlt : j < b.sh.m.length
   · obtain ⟨bc, oc, rfl⟩ := hcb.out (by omega)
     have hr := hlc.out.rowb hlens.out j hlt
     have z0 : w.cell? ⟨bc, oc + j * 27, none⟩ = some (.int .i64 b.sh.m[j].id) := by simpa using hr 0 _ rfl
     have hnx := Lib.hid (show (b.sh.m.take (j + 1)).map (fun y => Value.int .i64 y.id) = (b.sh.m.take j).map (fun y => .int .i64 y.id) ++ [.int .i64 b.sh.m[j].id] from by rw [List.take_succ_eq_append_getElem hlt, List.map_append]; rfl)
     clear hr
     generalize b.sh.m[j].id = ci at *
     have c2 := hS.old z0 (by simp)
     go_wp2_with (first | ((with_reducible refine wpList_build1c_st hS rfl rfl Tryz.underlying46 elem_i rfl ?_); clear hS; intro g7 w7 hS) | (at_builtin; (with_reducible refine wpList_app_st (news := [.int .i64 ci]) (m := 1) 1 hS rfl rfl rfl Tryz.underlying46 elem_i rfl (Src.slice Tryz.underlying46 (hS.blksl2 0 rfl) rfl) rfl (by simp [Value.oneCell']) (by omega) (by unfold maxLen; omega) ?_); intro v6 w6 hS1; clear hS; simp only [List.set_cons_zero, List.set_cons_succ] at hS1; obtain ⟨a6, c6, rfl, -⟩ := hS1.row 1 rfl; have hS := hS1.drop; clear hS1) | ((with_reducible refine wpList_load_st 2 hS rfl rfl rfl rfl ?_ rfl ?_); focus (simp [scalarB, go_sem]; done)))
     go_roundg (b.sh.m.length - (j + 1))
     case measure => omega
     case rel => exact ⟨j + 1, a6, c6, by omega, by go_num, rfl, by rw [hnx.out]; exact hS⟩
   have hjn : j = b.sh.m.length := by omega
   subst hjn
   rw [List.take_length] at hS
   have hids : (b.sh.m.map fun y => Value.int .i64 y.id) = (b.sh.m.map (·.id)).map vi := by rw [List.map_map]; rfl
   have hris := (right_ok hE1.out (fun c hc => hlc.out.mem c hc)).ris
   have hkn : keys rgrs = b.ks := hks.out
   have hget := Lib.hid hde.out.get
   have hM := Lib.hid (fun j (hj : j < rgrs.length) => hde.out.mem rgrs[j] (List.getElem_mem hj))
   have hgm := Lib.hid (fun j (hj : j < rgrs.length) => show rgrs[j].mem.length ≤ 10000 from hkm rgrs[j].key (by rw [← hkn]; exact List.mem_map_of_mem (List.getElem_mem hj)))
   have hgu := Lib.hid (fun j (hj : j < rgrs.length) => show Ids.Up rgrs[j].mem from (((chkK_iff _).1 hck.out).2.2 rgrs[j].key (by rw [← hkn]; exact List.mem_map_of_mem (List.getElem_mem hj))).1)
   replace hris := Lib.hid hris
   replace hkn := Lib.hid hkn
   clear hlens hcb hj
   go_wp2_with (((with_reducible refine wpList_load_st 2 hS rfl rfl rfl rfl ?_ rfl ?_); focus (simp [scalarB, go_sem]; done)))
   go_loopg [7] rgrs.length (fun gk vx wr => ∃ (j : Nat), j + gk = rgrs.length ∧ vx = .int .i64 j ∧ Hid (memGo b.sh.m ((keys rgrs).take j) = true) ∧ St w [] [Ch.row 3 1 (.slice ta b.sh.m.length tc) b.sh.m.length (b.sh.m.map fun y => .int .i64 y.id), Ch.blk gB 53 #[.int .i64 b.seq, .int .i64 b.sh.next, .slice rca b.sh.m.length rcc, .slice rda b.sh.dead.length rdc, .slice rga rgrs.length rgc], Ch.blk gb 31 #[.int .i64 b.seq, .int .i64 b.sh.next, .slice rca b.sh.m.length rcc, .slice rda b.sh.dead.length rdc, .slice rga rgrs.length rgc]] wr)
   case atStart => exact ⟨0, Nat.zero_add _, rfl, Lib.hid rfl, hS⟩
   case round =>
    clear hS
    obtain ⟨j, hj, rfl, hmg, hS⟩ := hrel
    by_cases hlt : j < rgrs.length
    case neg =>
     obtain rfl : j = rgrs.length := by omega
     have h6 := hmg.out
     rw [List.take_of_length_le (by simp [keys]), hkn.out] at h6
     have hyes := Lib.hid (show RB = true from by rw [← hRB.out]; exact right_all hE1.out (by have := h2r.out; omega) (by have := h3r.out; omega) hck.out (by have := hls.out; omega) h6)
     clear h6
     go_wp2_with (((with_reducible refine wpList_load_st 2 hS rfl rfl rfl rfl ?_ rfl ?_); focus (simp [scalarB, go_sem]; done)))
     go_ret
     exact ⟨by rw [hyes.out]; rfl, hS.below⟩
    have hjk : j < (keys rgrs).length := by simpa [keys] using hlt
    obtain ⟨bb, off, rfl, q0, q1⟩ := hget.out j hlt
    have hMj := hM.out j hlt
    have hmlj := hgm.out j hlt
    have huj := hgu.out j hlt
    have t1 : (keys rgrs).take (j + 1) = (keys rgrs).take j ++ [(rgrs[j].no, rgrs[j].mem)] := by
     rw [List.take_succ_eq_append_getElem hjk]; simp [keys, Gr.key]
    generalize rgrs[j] = x at q0 q1 hMj hmlj huj t1
    obtain ⟨xn, xa, xc, xm⟩ := x
    simp only at *
    have hmn := minus_none (m := b.sh.m) huj hris.out
    have e1 := Ids.along_minus xm (b.sh.m.map (·.id)) huj (ids_up hris.out)
    obtain ⟨Q, hQ⟩ : ∃ Q, Ids.along true false false xm (b.sh.m.map (·.id)) = Q := ⟨_, rfl⟩
    have cMi := fun W h1 (h2 : Sl W ta (b.sh.m.map fun y => .int .i64 y.id)) => rminus_any xa ta xm (b.sh.m.map (·.id)) xm.length b.sh.m.length xc tc W h1 (by rw [← hids]; exact h2) (by simp) (by unfold maxLen; omega) rfl (by omega)
    rw [← e1, hQ] at cMi
    rw [hQ] at hmn
    clear hQ e1
    have cMi := fun W h1 h2 => (cMi W h1 h2).mono (show ∀ e w', IntsRet Q W e w' → ∃ a c, e = .returned (.slice a Q.length c) ∧ Below W.heap.size W w' from fun e w' ⟨a, c, h1, _, _, h2⟩ => ⟨a, c, h1, h2.below⟩)
    obtain ⟨qn, hqn⟩ : ∃ n, Q.length = n := ⟨_, rfl⟩
    simp only [hqn] at cMi hmn
    clear hqn
    have hsl := Lib.hid (fun W (h : St w [] [] W) => h.sl hMj.sl)
    have hmg2 : memGo b.sh.m ((keys rgrs).take (j + 1)) = xm.all fun x => (lookC b.sh.m x).isSome := by
     rw [t1, memGo_snoc, hmg.out]
     rfl
    replace cMi := Lib.hid cMi
    have c2 := hS.old q1 (by simp)
    clear hMj t1 q0 hmlj huj
    cases hal : xm.all fun x => (lookC b.sh.m x).isSome
    case false =>
     have hQn : 0 < qn := Nat.pos_of_ne_zero fun h => by rw [hmn.1 h] at hal; cases hal
     have d7 : decide ((0 : Int) < (qn : Int)) = true := decide_eq_true (by omega)
     have d7b : decide (0 < qn) = true := decide_eq_true hQn
     rw [hal] at hmg2
     have hrm := Lib.hid (right_mem (by rw [← hkn.out]; exact memGo_take (j + 1) hmg2))
     clear hal hmn hmg2 hmg hQn
     go_wp2_with (first | (go_at_call 61; (with_reducible refine (cMi.out _ (hsl.out _ hS.empty) (hS.rowsl 0 rfl)).mono ?_); rintro _ w3 ⟨a7, c7, rfl, hk9⟩; replace hS := hS.keepB hk9; clear hk9) | ((with_reducible refine wpList_load_st 2 hS rfl rfl rfl rfl ?_ rfl ?_); focus (simp [scalarB, go_sem]; done)))
     go_ret
     exact hno.out _ hrm.out hS.below
    have hQn : qn = 0 := hmn.2 hal
    have d7 : decide ((0 : Int) < (qn : Int)) = false := decide_eq_false (by omega)
    have d7b : decide (0 < qn) = false := decide_eq_false (by omega)
    rw [hal] at hmg2
    replace hmg2 := Lib.hid hmg2
    clear hal hmn hmg hQn
    go_wp2_with (first | (go_at_call 61; (with_reducible refine (cMi.out _ (hsl.out _ hS.empty) (hS.rowsl 0 rfl)).mono ?_); rintro _ w3 ⟨a7, c7, rfl, hk9⟩; replace hS := hS.keepB hk9; clear hk9) | ((with_reducible refine wpList_load_st 2 hS rfl rfl rfl rfl ?_ rfl ?_); focus (simp [scalarB, go_sem]; done)))
    go_roundg (rgrs.length - (j + 1))
    case measure => omega
    case rel => exact ⟨j + 1, by omega, by go_num, hmg2, hS⟩
end Go.Proofs.YtneolmnpebiifaaGreatDoor
end
