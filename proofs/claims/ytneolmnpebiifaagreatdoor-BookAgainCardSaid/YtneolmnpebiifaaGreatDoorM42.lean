import Derived.Test.YtneolmnpebiifaaGreatDoorM41
set_option linter.unusedVariables false
set_option linter.unusedSimpArgs false
set_option maxRecDepth 100000
section
namespace Go.Proofs.YtneolmnpebiifaaGreatDoor
open Go.RowKit Go.Ofp
set_option maxHeartbeats 8000000
def Loads20 (b : BkS) (w : World) (e : Ending) (w' : World) : Prop :=
 (b.right = true ∧ ∃ (g gs gm : Nat) (p : PV) (L : List Ch), e = .returned (.tuple #[.pointer (some ⟨g, 0, none⟩), .bool true]) ∧ St w [] (bkV g gs gm b p ++ L) w' ∧ Stp (fun _ => True) (p.at b) L) ∨ (b.right = false ∧ e = .returned (.tuple #[.pointer none, .bool false]) ∧ Below w.heap.size w w')
theorem bload_any (b : BkS) (r : RV) (w : World) (h : r.at b w) (hkl : b.ks.length ≤ 1000) (hkm : ∀ k ∈ b.ks, k.2.length ≤ 10000) :
 Calls Tryz.prog 26 #[.agg (bdRow b r).toArray] w (Loads20 b w) := by
 have hS := St.start w
 rw [bdRow_eq]
 obtain ⟨rca, rcc, rda, rdc, rga, rgc, rgrs⟩ := r
 have hlc0 : LC w b.sh rca rcc := h.lc
 have hld0 : LD w b.sh rda rdc := h.ld
 have hde : Deep w rga rgrs.length rgc rgrs := h.deep
 have hks : keys rgrs = b.ks := h.ks
 clear h
 dsimp only
 have hno := Lib.hid fun W (h1 : b.right = false) (h2 : Below w.heap.size w W) => show Loads20 b w (.returned (.tuple #[.pointer none, .bool false])) W from .inr ⟨h1, rfl, h2⟩
 have cSh := fun W (k : Below w.heap.size w W) => sload_any b.sh.next rca b.sh.m.length rcc b.sh.m rda b.sh.dead.length rdc b.sh.dead W (hlc0.below k) (hld0.below k)
 cases hE1 : b.sh.right
 case false =>
  have cS0 := Lib.hid fun W (k : Below w.heap.size w W) => (cSh W k).mono (show ∀ e w', Loads18 b.sh W e w' → e = .returned (.tuple #[.pointer none, .bool false]) ∧ Below W.heap.size W w' from by
   rintro e w' (⟨h1, -⟩ | ⟨-, h2, h3⟩)
   · rw [hE1] at h1; cases h1
   · exact ⟨h2, h3⟩)
  have hr := Lib.hid (right_sh hE1)
  clear cSh hE1 hlc0 hld0 hde hks
  go_enter Tryz.func26, Tryz.ntmps26
  go_wp2_with (first | (go_at_call 55; (with_reducible refine (cS0.out _ hS.below).mono ?_); rintro _ w3 ⟨rfl, hk9⟩; replace hS := hS.keepB hk9; clear hk9) | (with_reducible refine wpList_box_st hS rfl rfl rfl ?_; clear hS; intro g1 w1 hS) | (with_reducible refine ld 0 hS rfl rfl rfl rfl rfl ?_))
  go_ret2
  exact hno.out _ hr.out hS.below
 have cS1 := Lib.hid fun W (k : Below w.heap.size w W) => (cSh W k).mono (show ∀ e w', Loads18 b.sh W e w' → ∃ gs gm da dc, e = .returned (.tuple #[.pointer (some ⟨gs, 0, none⟩), .bool true]) ∧ St W [] (shA gs gm b.sh da dc) w' from by
  rintro e w' (⟨-, h1⟩ | ⟨h1, -⟩)
  · exact h1
  · rw [hE1] at h1; cases h1)
 have cK := fun W (k : Below w.heap.size w W) => gcheck_any rga rgrs rgrs.length rgc W (hde.below k) (by have e := congrArg List.length hks; simp [keys] at e; omega) (by
  intro x hx
  have := hkm x.key (by rw [← hks]; exact List.mem_map_of_mem hx)
  exact this)
 rw [hks] at cK
 obtain ⟨ck, hck⟩ : ∃ c, chkK b.ks = c := ⟨_, rfl⟩
 rw [hck] at cK
 replace cK := Lib.hid cK
 clear cSh
 by_cases h2 : b.seq < 0
 case pos =>
  have d2 : decide (b.seq < 0) = true := decide_eq_true h2
  have hr := Lib.hid (right_neg h2)
  clear h2 hE1 hck hlc0 hld0 hde hks
  go_enter Tryz.func26, Tryz.ntmps26
  go_wp2_with (first | (with_reducible refine wpList_box_st (L := []) hS rfl rfl rfl ?_; clear hS; intro gb w1 hS) | (go_at_call 55; (with_reducible refine (cS1.out _ hS.below).mono ?_); rintro _ w3 ⟨gs, gm, da, dc, rfl, hk9⟩; have hS1 : St w [] (Ch.blk gb 31 #[.int .i64 b.seq, .int .i64 b.sh.next, .slice rca b.sh.m.length rcc, .slice rda b.sh.dead.length rdc, .slice rga rgrs.length rgc] :: shA gs gm b.sh da dc) w3 := St.rot (A := shA gs gm b.sh da dc) (hS.made hk9); clear hS hk9; have hS := hS1; clear hS1; have z0 := hS.cell 0 rfl) | (with_reducible refine ld 0 hS rfl rfl rfl rfl rfl ?_))
  go_ret2
  exact hno.out _ hr.out hS.below
 have d2 : decide (b.seq < 0) = false := decide_eq_false h2
 by_cases h3 : 1099511627776 < b.seq
 case pos =>
  have d3 : decide (1099511627776 < b.seq) = true := decide_eq_true h3
  have hr := Lib.hid (right_big h3)
  clear h2 h3 hE1 hck hlc0 hld0 hde hks
  go_enter Tryz.func26, Tryz.ntmps26
  go_wp2_with (first | (with_reducible refine wpList_box_st (L := []) hS rfl rfl rfl ?_; clear hS; intro gb w1 hS) | (go_at_call 55; (with_reducible refine (cS1.out _ hS.below).mono ?_); rintro _ w3 ⟨gs, gm, da, dc, rfl, hk9⟩; have hS1 : St w [] (Ch.blk gb 31 #[.int .i64 b.seq, .int .i64 b.sh.next, .slice rca b.sh.m.length rcc, .slice rda b.sh.dead.length rdc, .slice rga rgrs.length rgc] :: shA gs gm b.sh da dc) w3 := St.rot (A := shA gs gm b.sh da dc) (hS.made hk9); clear hS hk9; have hS := hS1; clear hS1; have z0 := hS.cell 0 rfl) | (with_reducible refine ld 0 hS rfl rfl rfl rfl rfl ?_))
  go_ret2
  exact hno.out _ hr.out hS.below
 have d3 : decide (1099511627776 < b.seq) = false := decide_eq_false h3
 cases ck
 case false =>
  have hr := Lib.hid (right_chk hck)
  clear h2 h3 hE1 hck hlc0 hld0 hde hks
  go_enter Tryz.func26, Tryz.ntmps26
  go_wp2_with (first | (with_reducible refine wpList_box_st (L := []) hS rfl rfl rfl ?_; clear hS; intro gb w1 hS) | (go_at_call 55; (with_reducible refine (cS1.out _ hS.below).mono ?_); rintro _ w3 ⟨gs, gm, da, dc, rfl, hk9⟩; have hS1 : St w [] (Ch.blk gb 31 #[.int .i64 b.seq, .int .i64 b.sh.next, .slice rca b.sh.m.length rcc, .slice rda b.sh.dead.length rdc, .slice rga rgrs.length rgc] :: shA gs gm b.sh da dc) w3 := St.rot (A := shA gs gm b.sh da dc) (hS.made hk9); clear hS hk9; have hS := hS1; clear hS1; have z0 := hS.cell 0 rfl) | (go_at_call 56; (with_reducible refine (cK.out _ hS.below).mono ?_); rintro _ w4 ⟨rfl, hk9⟩; clear z0; replace hS := hS.keepB hk9; clear hk9; have z0 := hS.cell 0 rfl) | (with_reducible refine ld 0 hS rfl rfl rfl rfl rfl ?_))
  go_ret2
  exact hno.out _ hr.out hS.below
 have hld := Lib.hid hld0
 have hlc := Lib.hid hlc0
 replace hde := Lib.hid hde
 replace hks := Lib.hid hks
 clear hlc0 hld0
 obtain ⟨BB, hBB⟩ : ∃ c, decide (b.seq < lastSq b.sh.dead) = c := ⟨_, rfl⟩
 replace hBB := Lib.hid hBB
 replace hck := Lib.hid hck
 replace hE1 := Lib.hid hE1
 have h2r := Lib.hid h2
 have h3r := Lib.hid h3
 clear h2 h3
 go_enter Tryz.func26, Tryz.ntmps26
 go_upto_region 5 with (first | (with_reducible refine wpList_box_st (L := []) hS rfl rfl rfl ?_; clear hS; intro gb w1 hS) | (go_at_call 55; (with_reducible refine (cS1.out _ hS.below).mono ?_); rintro _ w3 ⟨gs, gm, da, dc, rfl, hk9⟩; have hS1 : St w [] (Ch.blk gb 31 #[.int .i64 b.seq, .int .i64 b.sh.next, .slice rca b.sh.m.length rcc, .slice rda b.sh.dead.length rdc, .slice rga rgrs.length rgc] :: shA gs gm b.sh da dc) w3 := St.rot (A := shA gs gm b.sh da dc) (hS.made hk9); clear hS hk9; have hS := hS1; clear hS1; have z0 := hS.cell 0 rfl) | (go_at_call 56; (with_reducible refine (cK.out _ hS.below).mono ?_); rintro _ w4 ⟨rfl, hk9⟩; clear z0; replace hS := hS.keepB hk9; clear hk9; have z0 := hS.cell 0 rfl) | (with_reducible refine ld 0 hS rfl rfl rfl rfl rfl ?_))
 clear z0
 go_cut [57] from 44 to 57 (fun v57 wc => v57 = .bool BB ∧ St w [] (Ch.blk gb 31 #[.int .i64 b.seq, .int .i64 b.sh.next, .slice rca b.sh.m.length rcc, .slice rda b.sh.dead.length rdc, .slice rga rgrs.length rgc] :: shA gs gm b.sh da dc) wc)
 case first =>
  rcases List.eq_nil_or_concat b.sh.dead with hD | ⟨A, x, hD⟩
  · have hb : BB = false := by rw [← hBB.out, hD]; exact d2
    subst hb
    have hn0 : b.sh.dead.length = 0 := by rw [hD]; rfl
    have d5 : decide ((0 : Int) < (b.sh.dead.length : Int)) = false := decide_eq_false (by omega)
    have d5b : decide (0 < b.sh.dead.length) = false := decide_eq_false (by omega)
    clear hD hn0
    refine mixs_beginC 0 (by kernel_rfl) hS rfl ?_
    clear hS
    intro w5 hS hC
    have kC := hC.kblk 0 rfl
    refine tk 0 ?_
    refine tk 1 ?_
    refine tk 2 ?_
    refine sk 3 ?_
    refine sk 4 ?_
    refine sk 5 ?_
    refine sk 6 ?_
    refine sk 7 ?_
    refine sk 8 ?_
    refine sk 9 ?_
    refine sk 10 ?_
    refine sk 11 ?_
    refine sk 12 ?_
    refine tk 13 ?_
    refine wpAnyH_done (by kernel_rfl) ?_ _
    clear kC
    go_wp2_with fail
    go_meet
    exact ⟨rfl, hS⟩
  · rw [List.concat_eq_append] at hD
    have hn0 : b.sh.dead.length = A.length + 1 := by rw [hD]; simp
    have hls : lastSq b.sh.dead = x.seq := by rw [hD]; exact lastSq_snoc _ _
    have hAl : A.length < b.sh.dead.length := by omega
    have hAx : b.sh.dead[A.length] = x := by simp [hD]
    obtain ⟨b2, o2, rfl⟩ := hld.out.base (by decide) (fun y _ => ddRow_len y) (by omega)
    have hr := hld.out.rowb (fun y _ => ddRow_len y) A.length hAl
    rw [hAx] at hr
    have c7 : w.cell? ⟨b2, o2 + A.length * 3 + 2, none⟩ = some (.int .i64 x.seq) := hr 2 _ rfl
    have hdl := hld.out.le
    have hdm := hld.out.cm
    have d5 : decide ((0 : Int) < (b.sh.dead.length : Int)) = true := decide_eq_true (by omega)
    have d5b : decide (0 < b.sh.dead.length) = true := decide_eq_true (by omega)
    have hsub : IntKind.i64.wrap ((b.sh.dead.length : Int) - 1) = (A.length : Int) := by rw [IntWalk.i64_in _ (by unfold maxLen at hdm; omega)]; omega
    have hb : decide (b.seq < x.seq) = BB := by rw [← hls]; exact hBB.out
    clear hr hD hls hAx hdl hdm hn0
    generalize A.length = an at *
    generalize b.sh.dead.length = dn at *
    generalize x.seq = xs at *
    refine mixs_beginC 0 (by kernel_rfl) hS rfl ?_
    clear hS
    intro w5 hS hC
    have kC := hC.kblk 0 rfl
    have k7 := hC.kold0 c7
    refine tk 0 ?_
    refine tk 1 ?_
    refine tk 2 ?_
    refine tk 3 ?_
    refine tk 4 ?_
    refine tk 5 ?_
    refine tk 6 ?_
    refine tk 7 ?_
    refine tk 8 ?_
    refine tk 9 ?_
    refine tk 10 ?_
    refine tk 11 ?_
    refine tk 12 ?_
    refine tk 13 ?_
    refine wpAnyH_done (by kernel_rfl) ?_ _
    clear kC k7
    go_wp2_with fail
    go_meet
    exact ⟨rfl, hS⟩
 case rest =>
  clear hS
  obtain ⟨rfl, hS⟩ := hcut
  cases BB
  case true =>
   have hr := Lib.hid (right_deadB (of_decide_eq_true hBB.out))
   go_wp2_with fail
   go_ret2
   exact hno.out _ hr.out hS.below
  have hdd := Lib.hid (of_decide_eq_false hBB.out)
  clear hBB
  have hlens := Lib.hid (show ∀ y ∈ b.sh.m, (cdRow y).length = 27 from fun y hy => cdRow_lenT y (hlc.out.mem y hy))
  have hcb := Lib.hid (hlc.out.base (by decide) hlens.out)
  have hml : b.sh.m.length ≤ 48 := ((right_iff b.sh).1 hE1.out).2.2.1
  have ec := elem_card
  go_wp2_with (first | (with_reducible refine wpList_box_st (L := _ :: shA gs gm b.sh da dc) hS rfl rfl rfl ?_; clear hS; intro g w6 hS) | (with_reducible refine ld 0 hS rfl rfl rfl rfl rfl ?_) | (with_reducible refine ld 1 hS rfl rfl rfl rfl rfl ?_))
  have hS1 := hS.nilrow 3 1
  clear hS
  have hS := hS1
  clear hS1
  go_loopg [8, 66] b.sh.m.length (fun gk vt vx wr => ∃ (j : Nat) (ta : Option Addr) (tc : Nat), j + gk = b.sh.m.length ∧ vx = .int .i64 j ∧ vt = .slice ta j tc ∧ St w [] (Ch.row 3 1 (.slice ta j tc) j ((b.sh.m.take j).map fun y => .int .i64 y.id) :: bkB g b.seq gs none 0 0 :: Ch.blk gb 31 #[.int .i64 b.seq, .int .i64 b.sh.next, .slice rca b.sh.m.length rcc, .slice rda b.sh.dead.length rdc, .slice rga rgrs.length rgc] :: shA gs gm b.sh da dc) wr)
  case atStart => exact ⟨0, none, 0, Nat.zero_add _, rfl, rfl, hS⟩
  case round =>
   clear hS
   obtain ⟨j, ta, tc, hj, rfl, rfl, hS⟩ := hrel
   by_cases hlt : j < b.sh.m.length
   · obtain ⟨bc, oc, rfl⟩ := hcb.out (by omega)
     have hr := Lib.hid (hlc.out.rowb hlens.out j hlt)
     have hrl := hlens.out _ (List.getElem_mem hlt)
     have hro := cdRow_oneT b.sh.m[j]
     have hnx := Lib.hid (show (b.sh.m.take (j + 1)).map (fun y => Value.int .i64 y.id) = (b.sh.m.take j).map (fun y => .int .i64 y.id) ++ [.int .i64 b.sh.m[j].id] from by rw [List.take_succ_eq_append_getElem hlt, List.map_append]; rfl)
     obtain ⟨CT, hCT⟩ : ∃ CT, cdRow b.sh.m[j] = .int .i64 b.sh.m[j].id :: CT := ⟨_, rfl⟩
     rw [hCT] at hr hrl hro
     clear hCT
     generalize b.sh.m[j].id = ci at *
     go_wp2_with (first | (with_reducible refine wpList_rangerow (t := 58) (n := 27) (range_old hS hr.out) rfl rfl rfl (by kernel_rfl) (by kernel_rfl) hrl ?_) | (with_reducible refine wpList_alloc_st (t := 58) hS rfl rfl ec ?_; clear hS; intro gc1 w1 hS) | ((with_reducible refine wpList_storerow_st (t := 58) (n := 27) (vs := Value.int .i64 ci :: CT) 0 hS rfl rfl rfl rfl (by kernel_rfl) rfl hrl hro (by kernel_rfl) ?_); clear hS; intro w1 hS; try simp only [List.set_cons_zero, List.set_cons_succ, List.setIfInBounds_toArray, List.take_succ_cons, List.take_zero, List.drop_succ_cons, List.drop_zero, List.nil_append, List.cons_append, List.append_nil, List.drop_nil, List.take_nil, List.length_cons, List.length_nil, Nat.zero_add, Nat.add_zero, Nat.reduceAdd] at hS) | ((with_reducible refine wpList_build1c_st hS rfl rfl Tryz.underlying46 elem_i rfl ?_); clear hS; intro g7 w7 hS) | (at_builtin; (with_reducible refine wpList_app_st (news := [.int .i64 ci]) (m := 1) 2 hS rfl rfl rfl Tryz.underlying46 elem_i rfl (Src.slice Tryz.underlying46 (hS.blksl2 0 rfl) rfl) rfl (by simp [Value.oneCell']) (by omega) (by unfold maxLen; omega) ?_); intro v6 w6 hS1; clear hS; simp only [List.set_cons_zero, List.set_cons_succ] at hS1; obtain ⟨a6, c6, rfl, -⟩ := hS1.row 2 rfl; have hS := hS1.drop.drop; clear hS1) | (with_reducible refine ld 0 hS rfl rfl rfl rfl rfl ?_))
     go_roundg (b.sh.m.length - (j + 1))
     case measure => omega
     case rel => exact ⟨j + 1, a6, c6, by omega, by go_num, rfl, by rw [hnx.out]; exact hS⟩
   have hjn : j = b.sh.m.length := by omega
   subst hjn
   rw [List.take_length] at hS
   have hids : (b.sh.m.map fun y => Value.int .i64 y.id) = (b.sh.m.map (·.id)).map vi := by rw [List.map_map]; rfl
   have hris := (right_ok hE1.out (fun c hc => hlc.out.mem c hc)).ris
   have hkn : keys rgrs = b.ks := hks.out
   have hgl : rgrs.length ≤ 1000 := by have e := congrArg List.length hkn; simp [keys] at e; omega
   have hget := Lib.hid hde.out.get
   have hM := Lib.hid (fun j (hj : j < rgrs.length) => hde.out.mem rgrs[j] (List.getElem_mem hj))
   have hgm := Lib.hid (fun j (hj : j < rgrs.length) => show rgrs[j].mem.length ≤ 10000 from hkm rgrs[j].key (by rw [← hkn]; exact List.mem_map_of_mem (List.getElem_mem hj)))
   have hgu := Lib.hid (fun j (hj : j < rgrs.length) => show Ids.Up rgrs[j].mem from (((chkK_iff _).1 hck.out).2.2 rgrs[j].key (by rw [← hkn]; exact List.mem_map_of_mem (List.getElem_mem hj))).1)
   have ez := elem_g
   have hS1 : St w [] (bkB g b.seq gs none 0 0 :: Ch.blk gb 31 #[.int .i64 b.seq, .int .i64 b.sh.next, .slice rca b.sh.m.length rcc, .slice rda b.sh.dead.length rdc, .slice rga rgrs.length rgc] :: Ch.row 3 1 (.slice ta b.sh.m.length tc) b.sh.m.length (b.sh.m.map fun y => .int .i64 y.id) :: shA gs gm b.sh da dc) wr := St.mid (A := []) (B := [_]) (C := [_, _]) (R := shA gs gm b.sh da dc) hS
   clear hS
   have hS := (hS1.nilrow 82 2).swap
   clear hS1
   replace hris := Lib.hid hris
   replace hkn := Lib.hid hkn
   clear hlens hcb
   go_wp2_with ((with_reducible refine ld 2 hS rfl rfl rfl rfl rfl ?_))
   go_loopg [79] rgrs.length (fun gk vx wr => ∃ (j : Nat) (ao : Option Addr) (co : Nat) (new : List Gr), j + gk = rgrs.length ∧ vx = .int .i64 j ∧ Hid (new.length = j ∧ keys new = (keys rgrs).take j) ∧ Hid (memGo b.sh.m ((keys rgrs).take j) = true) ∧ St w [] (bkB g b.seq gs ao j co :: Ch.row 82 2 (.slice ao j co) j (grows new) :: Ch.blk gb 31 #[.int .i64 b.seq, .int .i64 b.sh.next, .slice rca b.sh.m.length rcc, .slice rda b.sh.dead.length rdc, .slice rga rgrs.length rgc] :: Ch.row 3 1 (.slice ta b.sh.m.length tc) b.sh.m.length (b.sh.m.map fun y => .int .i64 y.id) :: (shA gs gm b.sh da dc ++ new.reverse.map gp)) wr)
   case atStart => exact ⟨0, none, 0, [], Nat.zero_add _, rfl, Lib.hid ⟨rfl, by simp [keys]⟩, Lib.hid rfl, hS⟩
   case round =>
    clear hS
    obtain ⟨j, ao, co, new, hj, rfl, hr, hmg, hS⟩ := hrel
    by_cases hlt : j < rgrs.length
    case neg =>
     obtain rfl : j = rgrs.length := by omega
     obtain ⟨r1, r2⟩ := hr.out
     have h6 := hmg.out
     rw [List.take_of_length_le (by simp [keys])] at r2 h6
     have hS1 : St w [] ([bkB g b.seq gs ao rgrs.length co] ++ ([Ch.row 82 2 (.slice ao rgrs.length co) rgrs.length (grows new), Ch.blk gb 31 #[.int .i64 b.seq, .int .i64 b.sh.next, .slice rca b.sh.m.length rcc, .slice rda b.sh.dead.length rdc, .slice rga rgrs.length rgc], Ch.row 3 1 (.slice ta b.sh.m.length tc) b.sh.m.length (b.sh.m.map fun y => .int .i64 y.id)] ++ (shA gs gm b.sh da dc ++ new.reverse.map gp))) wr := hS
     have hS2 := St.mid (A := [bkB g b.seq gs ao rgrs.length co]) (B := [Ch.row 82 2 (.slice ao rgrs.length co) rgrs.length (grows new), Ch.blk gb 31 #[.int .i64 b.seq, .int .i64 b.sh.next, .slice rca b.sh.m.length rcc, .slice rda b.sh.dead.length rdc, .slice rga rgrs.length rgc], Ch.row 3 1 (.slice ta b.sh.m.length tc) b.sh.m.length (b.sh.m.map fun y => .int .i64 y.id)]) (C := shA gs gm b.sh da dc) (R := new.reverse.map gp) hS1
     clear hS hS1
     have hS := hS2
     clear hS2
     have hG := deepK_of (gs0 := []) (gs := new) (St.back (A := bkB g b.seq gs ao rgrs.length co :: shA gs gm b.sh da dc) hS) rfl r1 (fun x hx => .inl (List.mem_cons_of_mem _ (List.mem_cons_of_mem _ (List.mem_map.2 ⟨x, by simpa using hx, rfl⟩))))
     have hfin := Lib.hid fun W (hW : St w [] (bkV g gs gm b ⟨ao, co, new, da, dc⟩ ++ ([Ch.row 82 2 (.slice ao rgrs.length co) rgrs.length (grows new), Ch.blk gb 31 #[.int .i64 b.seq, .int .i64 b.sh.next, .slice rca b.sh.m.length rcc, .slice rda b.sh.dead.length rdc, .slice rga rgrs.length rgc], Ch.row 3 1 (.slice ta b.sh.m.length tc) b.sh.m.length (b.sh.m.map fun y => .int .i64 y.id)] ++ new.reverse.map gp)) W) =>
      show Loads20 b w (.returned (.tuple #[.pointer (some ⟨g, 0, none⟩), .bool true])) W from
      .inl ⟨right_all hE1.out (by have := h2r.out; omega) (by have := h3r.out; omega) hck.out (by have := hdd.out; omega) (by rw [← hkn.out]; exact h6), g, gs, gm, ⟨ao, co, new, da, dc⟩, _, rfl, hW, fun w0 F A B W2 hW2 _ => ⟨r2.trans hkn.out, by
       have := hG w0 F A B W2 hW2 (by simp)
       rw [← r1] at this
       exact this⟩⟩
     have hS1 : St w [] (bkV g gs gm b ⟨ao, co, new, da, dc⟩ ++ ([Ch.row 82 2 (.slice ao rgrs.length co) rgrs.length (grows new), Ch.blk gb 31 #[.int .i64 b.seq, .int .i64 b.sh.next, .slice rca b.sh.m.length rcc, .slice rda b.sh.dead.length rdc, .slice rga rgrs.length rgc], Ch.row 3 1 (.slice ta b.sh.m.length tc) b.sh.m.length (b.sh.m.map fun y => .int .i64 y.id)] ++ new.reverse.map gp)) wr := by
      have h9 := hS
      rw [← r1] at h9 ⊢
      exact h9
     clear hS hG r1 r2 h6
     have hS := hS1
     clear hS1
     go_wp2_with fail
     go_ret2
     exact hfin.out _ hS
    have hjk : j < (keys rgrs).length := by simpa [keys] using hlt
    obtain ⟨bb, off, rfl, q0, q1⟩ := hget.out j hlt
    have hMj := hM.out j hlt
    have hmlj := hgm.out j hlt
    have huj := hgu.out j hlt
    have t1 : (keys rgrs).take (j + 1) = (keys rgrs).take j ++ [(rgrs[j].no, rgrs[j].mem)] := by
     rw [List.take_succ_eq_append_getElem hjk]; simp [keys, Gr.key]
    have zrow := Lib.hid (grow_range q0 q1)
    generalize rgrs[j] = x at q0 q1 hMj hmlj huj t1 zrow
    obtain ⟨xn, xa, xc, xm⟩ := x
    simp only at *
    have hmn := minus_none (m := b.sh.m) huj hris.out
    obtain ⟨Q, hQ⟩ : ∃ Q, Ids.along true false false xm (b.sh.m.map (·.id)) = Q := ⟨_, rfl⟩
    have cMi := fun W h1 (h2 : Sl W ta (b.sh.m.map fun y => .int .i64 y.id)) => minus_any xa ta xm (b.sh.m.map (·.id)) xm.length b.sh.m.length xc tc W h1 (by rw [← hids]; exact h2) rfl (by simp) hmlj (by omega)
    rw [hQ] at cMi hmn
    clear hQ
    have cMi := fun W h1 h2 => (cMi W h1 h2).mono (show ∀ e w', IntsRet Q W e w' → ∃ a c, e = .returned (.slice a Q.length c) ∧ Below W.heap.size W w' from fun e w' ⟨a, c, h1, _, _, h2⟩ => ⟨a, c, h1, h2.below⟩)
    obtain ⟨qn, hqn⟩ : ∃ n, Q.length = n := ⟨_, rfl⟩
    simp only [hqn] at cMi hmn
    clear hqn
    have cI := fun W h => clone_any xa xm xm.length xc W h rfl (by omega) hMj.nz
    have hsl := Lib.hid (fun W (h : St w [] [] W) => h.sl hMj.sl)
    have hbg := fun A N C W => build_g2 xn A N C W
    have hnew : ∀ (a5 : Option Addr) (c5 : Nat), (new ++ [(⟨xn, a5, c5, xm⟩ : Gr)]).length = j + 1 ∧ keys (new ++ [(⟨xn, a5, c5, xm⟩ : Gr)]) = (keys rgrs).take (j + 1) := by
     intro a5 c5
     obtain ⟨r1, r2⟩ := hr.out
     refine ⟨by simp [r1], ?_⟩
     rw [t1, ← r2]
     simp [keys, Gr.key]
    have hmg2 : memGo b.sh.m ((keys rgrs).take (j + 1)) = xm.all fun x => (lookC b.sh.m x).isSome := by
     rw [t1, memGo_snoc, hmg.out]
     rfl
    replace hnew := Lib.hid hnew
    replace cI := Lib.hid cI
    replace cMi := Lib.hid cMi
    have hj5 : j ≤ 2000 := by omega
    clear hMj t1 q0 q1 hmlj huj
    cases hal : xm.all fun x => (lookC b.sh.m x).isSome
    case false =>
     have hQn : 0 < qn := Nat.pos_of_ne_zero fun h => by rw [hmn.1 h] at hal; cases hal
     have d7 : decide ((0 : Int) < (qn : Int)) = true := decide_eq_true (by omega)
     have d7b : decide (0 < qn) = true := decide_eq_true hQn
     rw [hal] at hmg2
     have hrm := Lib.hid (right_mem (by rw [← hkn.out]; exact memGo_take (j + 1) hmg2))
     clear hal hmn hmg2 hmg hQn hr
     go_wp2_with (first | (with_reducible refine wpList_rangerow (t := 82) (n := 2) (range_old hS zrow.out) rfl rfl rfl (by kernel_rfl) (by kernel_rfl) rfl ?_) | (go_at_call 57; (with_reducible refine (cMi.out _ (hsl.out _ hS.empty) (hS.rowsl 4 rfl)).mono ?_); rintro _ w3 ⟨a7, c7, rfl, hk9⟩; replace hS := hS.keepB hk9; clear hk9) | (with_reducible refine al hS rfl rfl ?_; clear hS; intro g1 w1 hS) | (with_reducible refine ld 0 hS rfl rfl rfl rfl rfl ?_) | (with_reducible refine stor 0 hS rfl rfl rfl rfl rfl rfl rfl rfl ?_; clear hS; intro w1 hS))
     go_ret2
     exact hno.out _ hrm.out hS.below
    have hQn : qn = 0 := hmn.2 hal
    have d7 : decide ((0 : Int) < (qn : Int)) = false := decide_eq_false (by omega)
    have d7b : decide (0 < qn) = false := decide_eq_false (by omega)
    rw [hal] at hmg2
    replace hmg2 := Lib.hid hmg2
    clear hal hmn hmg hQn
    go_wp2_with (first | (with_reducible refine wpList_rangerow (t := 82) (n := 2) (range_old hS zrow.out) rfl rfl rfl (by kernel_rfl) (by kernel_rfl) rfl ?_) | (go_at_call 57; (with_reducible refine (cMi.out _ (hsl.out _ hS.empty) (hS.rowsl 4 rfl)).mono ?_); rintro _ w3 ⟨a7, c7, rfl, hk9⟩; replace hS := hS.keepB hk9; clear hk9) | (with_reducible refine al hS rfl rfl ?_; clear hS; intro g1 w1 hS) | (with_reducible refine ld 0 hS rfl rfl rfl rfl rfl ?_) | (with_reducible refine stor 0 hS rfl rfl rfl rfl rfl rfl rfl rfl ?_; clear hS; intro w1 hS))
    refine mixs_beginC 0 (by kernel_rfl) hS rfl ?_
    clear hS
    intro w4 hS hC
    have kC := hC.kblk 0 rfl
    refine tk 0 ?_
    refine tk 1 ?_
    refine tk 2 ?_
    refine tk 3 ?_
    refine tk 5 ?_
    refine tk 6 ?_
    refine tk 7 ?_
    refine tk 8 ?_
    refine mixs_two 4 9 (by kernel_rfl) rfl rfl (fun K hK => ?_) (fun K hK => ?_)
    ·
     refine op_load_st (by kernel_rfl) 1 hS rfl rfl rfl (by simp [scalarB, go_sem]) rfl ?_
     try clear hC
     refine cl hK (fun hC => ?_)
     clear hK K
     refine mixs_one 9 (by kernel_rfl) rfl (fun K hK => ?_)
     go_simp
     (go_at_call 37; (with_reducible refine (cI.out _ (hsl.out _ hS.empty)).mono ?_); rintro _ w3 ⟨a5, c5, rfl, h51, h52, hk9⟩; have hk8 : St _ [] [gp ⟨xn, a5, c5, xm⟩] w3 := hk9; have hS1 := St.mid (A := []) (B := [_]) (C := _ :: _ :: _ :: _ :: _ :: shA gs gm b.sh da dc) (R := new.reverse.map gp) (hS.made hk8); simp only [List.cons_append, List.nil_append] at hS1; clear hk9 hk8 hS; have hS := hS1; clear hS1)
     try clear hC
     refine cl hK (fun hC => ?_)
     clear hK K
     refine tk 10 ?_
     refine mixs_one 11 (by kernel_rfl) rfl (fun K hK => ?_)
     (refine op_build1_st (by kernel_rfl) hS rfl Tryz.underlying29 elem_g (cs := #[.int .i64 xn, .slice a5 xm.length c5]) rfl rfl (by decide) ?_; clear hS; intro g3 w4 hS)
     try clear hC
     refine cl hK (fun hC => ?_)
     clear hK K
     refine mixs_one 12 (by kernel_rfl) rfl (fun K hK => ?_)
     (refine op_app_st (by kernel_rfl) 3 hS rfl rfl Tryz.underlying29 elem_g rfl (Src.slice Tryz.underlying29 (hS.blksl2 0 rfl) rfl) rfl (row2_one xn a5 xm.length c5) (by omega) (by unfold maxLen; omega) ?_; intro v6 w5 hS1; clear hS; have hS := hS1.drop; clear hS1; obtain ⟨a6, c6, rfl, -⟩ := hS.row 2 rfl)
     try clear hC
     refine cl hK (fun hC => ?_)
     clear hK K
     refine tk 13 ?_
     refine tk 14 ?_
     refine mixs_one 15 (by kernel_rfl) rfl (fun K hK => ?_)
     refine op_store_st (by kernel_rfl) 1 hS rfl rfl rfl (by kernel_rfl) rfl rfl ?_
     clear hS; intro w1 hS; try simp only [List.set_cons_zero, List.set_cons_succ, List.setIfInBounds_toArray, List.take_succ_cons, List.take_zero, List.drop_succ_cons, List.drop_zero, List.nil_append, List.cons_append, List.append_nil, List.drop_nil, List.take_nil, List.length_cons, List.length_nil, Nat.zero_add, Nat.add_zero, Nat.reduceAdd] at hS
     try clear hC
     refine cl hK (fun hC => ?_)
     clear hK K
     refine wpAnyH_done (by kernel_rfl) ?_ _
     clear kC hbg
     go_wp2_with fail
     go_roundg (rgrs.length - (j + 1))
     case measure => omega
     case rel =>
      refine ⟨j + 1, a6, c6, new ++ [(⟨xn, a5, c5, xm⟩ : Gr)], by omega, by go_num, Lib.hid (hnew.out a5 c5), hmg2, ?_⟩
      rw [List.reverse_append, grows_append]
      exact hS.drop
    ·
     go_simp
     (go_at_call 37; (with_reducible refine (cI.out _ (hsl.out _ hS.empty)).mono ?_); rintro _ w3 ⟨a5, c5, rfl, h51, h52, hk9⟩; have hk8 : St _ [] [gp ⟨xn, a5, c5, xm⟩] w3 := hk9; have hS1 := St.mid (A := []) (B := [_]) (C := _ :: _ :: _ :: _ :: _ :: shA gs gm b.sh da dc) (R := new.reverse.map gp) (hS.made hk8); simp only [List.cons_append, List.nil_append] at hS1; clear hk9 hk8 hS; have hS := hS1; clear hS1)
     try clear hC
     refine cl hK (fun hC => ?_)
     clear hK K
     refine tk 10 ?_
     refine mixs_two 4 11 (by kernel_rfl) rfl rfl (fun K hK => ?_) (fun K hK => ?_)
     ·
      refine op_load_st (by kernel_rfl) 1 hS rfl rfl rfl (by simp [scalarB, go_sem]) rfl ?_
      try clear hC
      refine cl hK (fun hC => ?_)
      clear hK K
      refine mixs_one 11 (by kernel_rfl) rfl (fun K hK => ?_)
      (refine op_build1_st (by kernel_rfl) hS rfl Tryz.underlying29 elem_g (cs := #[.int .i64 xn, .slice a5 xm.length c5]) rfl rfl (by decide) ?_; clear hS; intro g3 w4 hS)
      try clear hC
      refine cl hK (fun hC => ?_)
      clear hK K
      refine mixs_one 12 (by kernel_rfl) rfl (fun K hK => ?_)
      (refine op_app_st (by kernel_rfl) 3 hS rfl rfl Tryz.underlying29 elem_g rfl (Src.slice Tryz.underlying29 (hS.blksl2 0 rfl) rfl) rfl (row2_one xn a5 xm.length c5) (by omega) (by unfold maxLen; omega) ?_; intro v6 w5 hS1; clear hS; have hS := hS1.drop; clear hS1; obtain ⟨a6, c6, rfl, -⟩ := hS.row 2 rfl)
      try clear hC
      refine cl hK (fun hC => ?_)
      clear hK K
      refine tk 13 ?_
      refine tk 14 ?_
      refine mixs_one 15 (by kernel_rfl) rfl (fun K hK => ?_)
      refine op_store_st (by kernel_rfl) 1 hS rfl rfl rfl (by kernel_rfl) rfl rfl ?_
      clear hS; intro w1 hS; try simp only [List.set_cons_zero, List.set_cons_succ, List.setIfInBounds_toArray, List.take_succ_cons, List.take_zero, List.drop_succ_cons, List.drop_zero, List.nil_append, List.cons_append, List.append_nil, List.drop_nil, List.take_nil, List.length_cons, List.length_nil, Nat.zero_add, Nat.add_zero, Nat.reduceAdd] at hS
      try clear hC
      refine cl hK (fun hC => ?_)
      clear hK K
      refine wpAnyH_done (by kernel_rfl) ?_ _
      clear kC hbg
      go_wp2_with fail
      go_roundg (rgrs.length - (j + 1))
      case measure => omega
      case rel =>
       refine ⟨j + 1, a6, c6, new ++ [(⟨xn, a5, c5, xm⟩ : Gr)], by omega, by go_num, Lib.hid (hnew.out a5 c5), hmg2, ?_⟩
       rw [List.reverse_append, grows_append]
       exact hS.drop
     ·
      (refine op_build1_st (by kernel_rfl) hS rfl Tryz.underlying29 elem_g (cs := #[.int .i64 xn, .slice a5 xm.length c5]) rfl rfl (by decide) ?_; clear hS; intro g3 w4 hS)
      try clear hC
      refine cl hK (fun hC => ?_)
      clear hK K
      refine mixs_one 4 (by kernel_rfl) rfl (fun K hK => ?_)
      refine op_load_st (by kernel_rfl) 2 hS rfl rfl rfl (by simp [scalarB, go_sem]) rfl ?_
      try clear hC
      refine cl hK (fun hC => ?_)
      clear hK K
      refine mixs_one 12 (by kernel_rfl) rfl (fun K hK => ?_)
      (refine op_app_st (by kernel_rfl) 3 hS rfl rfl Tryz.underlying29 elem_g rfl (Src.slice Tryz.underlying29 (hS.blksl2 0 rfl) rfl) rfl (row2_one xn a5 xm.length c5) (by omega) (by unfold maxLen; omega) ?_; intro v6 w5 hS1; clear hS; have hS := hS1.drop; clear hS1; obtain ⟨a6, c6, rfl, -⟩ := hS.row 2 rfl)
      try clear hC
      refine cl hK (fun hC => ?_)
      clear hK K
      refine tk 13 ?_
      refine tk 14 ?_
      refine mixs_one 15 (by kernel_rfl) rfl (fun K hK => ?_)
      refine op_store_st (by kernel_rfl) 1 hS rfl rfl rfl (by kernel_rfl) rfl rfl ?_
      clear hS; intro w1 hS; try simp only [List.set_cons_zero, List.set_cons_succ, List.setIfInBounds_toArray, List.take_succ_cons, List.take_zero, List.drop_succ_cons, List.drop_zero, List.nil_append, List.cons_append, List.append_nil, List.drop_nil, List.take_nil, List.length_cons, List.length_nil, Nat.zero_add, Nat.add_zero, Nat.reduceAdd] at hS
      try clear hC
      refine cl hK (fun hC => ?_)
      clear hK K
      refine wpAnyH_done (by kernel_rfl) ?_ _
      clear kC hbg
      go_wp2_with fail
      go_roundg (rgrs.length - (j + 1))
      case measure => omega
      case rel =>
       refine ⟨j + 1, a6, c6, new ++ [(⟨xn, a5, c5, xm⟩ : Gr)], by omega, by go_num, Lib.hid (hnew.out a5 c5), hmg2, ?_⟩
       rw [List.reverse_append, grows_append]
       exact hS.drop
end Go.Proofs.YtneolmnpebiifaaGreatDoor
end
