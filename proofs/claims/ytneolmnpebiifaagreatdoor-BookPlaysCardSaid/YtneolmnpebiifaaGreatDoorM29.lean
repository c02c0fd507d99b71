import Derived.Test.YtneolmnpebiifaaGreatDoorM28
set_option linter.unusedVariables false
set_option linter.unusedSimpArgs false
set_option maxRecDepth 100000
section
namespace Go.Proofs.YtneolmnpebiifaaGreatDoor
open Go.RowKit Go.Ofp
set_option maxHeartbeats 4000000
theorem bjoin_any (m g gs gm : Nat) (b : BkS) (grs : List Gr) (ga : Option Addr) (gc : Nat) (da : Option Addr) (dc : Nat) (e : Ed) (he : EdIn e) (w : World) (hA : St w (feet (bkA g gs gm b ga grs.length gc da dc)) (bkA g gs gm b ga grs.length gc da dc) w) (hok : BkOk m b) (hm : m ≤ 2000) (hG : keys grs = b.ks) (hD : ∀ W, Fr (feet (bkA g gs gm b ga grs.length gc da dc)) w W → Deep W ga grs.length gc grs) :
 Calls Tryz.prog 44 #[.pointer (some ⟨g, 0, none⟩), .agg (edRow e).toArray] w (BkOut g gs gm grs ga gc (b.fin (if (b.sh.get e.id).2 ≠ 0 then ((b.sh.get e.id).2, [], b.sh, b.ks) else ((joinK b.ks e.group e.id).1, [e.id], b.sh, (joinK b.ks e.group e.id).2))) w (feet (bkA g gs gm b ga grs.length gc da dc))) := by
 have hS := hA
 have hsq := hok.seq
 have hkk : OkK (keys grs) := by rw [hG]; exact hok.ks.ok hm
 have cL := fun W h => join_k ga grs grs.length gc e.group e.id W h (by have := hkk.nn; omega) hkk.mm hkk.up hkk.um
 have hpl := ptRow_len e.p he.p.len
 have cGe := fun W h => sget_any gs gm b.sh da dc e.id he.id W h hok.sh
 have hgf := get_f hok.sh e.id
 have hgl := cdRow_lenT _ hgf
 have hgo := cdRow_oneT (b.sh.get e.id).1
 have hgV : sgV (b.sh.get e.id) = .tuple #[.agg (cdRow (b.sh.get e.id).1).toArray, .int .i64 (b.sh.get e.id).2] := rfl
 rw [hgV] at cGe
 have ec := elem_card
 obtain ⟨kd, i, gn, p⟩ := e
 have e0 : edRow ⟨kd, i, gn, p⟩ = .int .i64 kd :: .int .i64 i :: .int .i64 gn :: ptRow p := rfl
 rw [e0]
 simp only at cL hpl cGe hgl hgo ⊢
 rw [hG] at cL
 clear e0 he hok hA hkk hm hgV hgf
 generalize feet (bkA g gs gm b ga grs.length gc da dc) = F at *
 obtain ⟨sq, sh, ks⟩ := b
 simp only at *
 generalize ptRow p = PR at *
 generalize joinK ks gn i = QK at *
 obtain ⟨er, k1⟩ := QK
 generalize cdRow (sh.get i).1 = GR at *
 generalize (sh.get i).2 = ge at *
 replace cGe := Lib.hid cGe
 simp only at *
 obtain ⟨IF, hIF⟩ : ∃ IF, (if ge ≠ 0 then (ge, ([] : List Int), sh, ks) else (er, [i], sh, k1)) = IF := ⟨_, rfl⟩
 rw [hIF]
 replace hIF := Lib.hid hIF
 replace cL := Lib.hid cL
 replace hG := Lib.hid hG
 replace hD := Lib.hid hD
 have cSn := Lib.hid fun (her : er ≠ 0) W la ln lc ta tc h1 h2 => bregroup_no g gs sq ga grs.length gc la ln lc er her ta 1 tc [i] W h1 h2 rfl (by omega) hsq
 have cSp := Lib.hid fun W la ln lc ta tc h1 h2 => bregroup_ok g gs sq ga grs.length gc la ln lc ta 1 tc [i] W h1 h2 rfl (by omega) hsq
 go_enter Tryz.func44, Tryz.ntmps44
 go_wp2_with ((with_reducible refine wpList_box_st (L := bkB g sq gs ga grs.length gc :: shA gs gm sh da dc) hS rfl rfl rfl ?_; clear hS; intro gb w1 hS))
 refine mixs_beginC2 (by kernel_rfl) hS ?_
 clear hS
 intro w2 hS hC
 have kb := hC.kblk 0 rfl
 have kg := hC.kblk 1 rfl
 refine tk 0 ?_
 refine tk 1 ?_
 refine tk 2 ?_
 refine tk 3 ?_
 refine tk 4 ?_
 refine tk 5 ?_
 refine mixs_two 6 10 (by kernel_rfl) rfl rfl (fun K hK => ?_) (fun K hK => ?_)
 ·
  go_simp
  (go_at_call 49; have q1 := shAt_st (g := gs) (gm := gm) (s := sh) (da := da) (dc := dc) hS 2 3 4 rfl rfl rfl; (with_reducible refine (cGe.out _ q1).mono ?_); clear q1; rintro _ w3 ⟨rfl, hk9⟩; replace hS := hS.keepB hk9; clear hk9)
  try clear hC
  refine cl hK (fun hC => ?_)
  clear hK K
  refine tk 7 ?_
  refine tk 8 ?_
  refine tk 9 ?_
  refine mixs_one 10 (by kernel_rfl) rfl (fun K hK => ?_)
  refine op_alloc_st (by kernel_rfl) rfl (by assumption) hS ?_
  clear hS; intro g1 w1 hS
  try clear hC
  refine cl hK (fun hC => ?_)
  clear hK K
  refine mixs_one 11 (by kernel_rfl) rfl (fun K hK => ?_)
  (refine op_storerow_st (vs := GR) (n := 27) (by kernel_rfl) 0 hS rfl rfl rfl (by kernel_rfl) rfl hgl hgo rfl ?_; clear hS; intro w1 hS; try simp only [List.set_cons_zero, List.set_cons_succ] at hS)
  try clear hC
  refine cl hK (fun hC => ?_)
  clear hK K
  refine tk 12 ?_
  refine wpAnyH_done (by kernel_rfl) ?_ _
  clear kb kg hC
  by_cases hge : ge = 0
  case neg =>
   have b1 : (ge != 0) = true := by simpa using hge
   have hIp := hIF.out
   rw [if_pos hge] at hIp
   subst hIp
   clear hIF
   have hfin0 := Lib.hid (show BkS.fin ⟨sq, sh, ks⟩ (ge, [], sh, ks) = (⟨sq, sh, ks⟩, [], ge) from if_pos hge)
   clear hge
   go_wp2_with fail
   go_ret2
   rw [hfin0.out]
   exact ⟨ga, gc, grs, da, dc, none, 0, [], hG.out, rfl, St.rot (A := [_]) (B := bkA g gs gm ⟨sq, sh, ks⟩ ga grs.length gc da dc) (hS.drop.drop.nilrow 48 2), fun _ _ _ _ _ _ h => h⟩
  subst hge
  have hS1 := hS.drop
  clear hS
  have hS := hS1
  clear hS1
  have hIp := hIF.out
  rw [if_neg (by simp)] at hIp
  subst hIp
  clear hIF
  go_wp2_with fail
  refine mixs_beginC2 (by kernel_rfl) hS ?_
  clear hS
  intro w2 hS hC
  have kb := hC.kblk 0 rfl
  have kg := hC.kblk 1 rfl
  refine tk 0 ?_
  refine tk 1 ?_
  refine tk 2 ?_
  refine tk 3 ?_
  refine tk 4 ?_
  refine tk 5 ?_
  refine tk 6 ?_
  refine tk 7 ?_
  refine mixs_one 8 (by kernel_rfl) rfl (fun K hK => ?_)
  go_simp
  (go_at_call 79; (with_reducible refine (cL.out _ (hD.out _ hS.fr)).mono ?_); rintro _ w3 ⟨a3, c3, gr3, L3, hk3, rfl, hK3, hk9⟩; have hS1 := St.rot (A := L3) (hS.made hk9); simp only [List.cons_append, List.nil_append] at hS1; clear hS hk9; replace hk3 := Lib.hid hk3; replace hK3 := Lib.hid hK3; have hS := hS1; clear hS1)
  try clear hC
  refine cl hK (fun hC => ?_)
  clear hK K
  refine tk 9 ?_
  refine tk 10 ?_
  refine tk 11 ?_
  refine tk 12 ?_
  refine tk 13 ?_
  refine wpAnyH_done (by kernel_rfl) ?_ _
  clear kb kg
  by_cases her : er = 0
  case neg =>
   have hfin := Lib.hid (show BkS.fin ⟨sq, sh, ks⟩ (er, [i], sh, k1) = (⟨sq, sh, ks⟩, [], er) from if_pos her)
   have cSN := Lib.hid (cSn.out her)
   clear her
   go_wp2_with (first | ((with_reducible refine wpList_build1c_st hS rfl rfl Tryz.underlying46 elem_i rfl ?_); clear hS; intro g7 w7 hS) | (go_at_call 74; have q1 := hS.preM (A := [_, _]) (B := [bkB g sq gs ga grs.length gc]) (R := shA gs gm sh da dc ++ L3); have q2 := fun W (k : Fr [g] _ W) => (hS.offM (A := [_, _]) (B := [bkB g sq gs ga grs.length gc]) (R := shA gs gm sh da dc ++ L3) k).blksl2 (xs := [i].map vi) 0 rfl; (with_reducible refine (cSN.out _ _ _ _ _ _ q1 q2).mono ?_); clear q1 q2; rintro _ w8 ⟨rfl, hk9⟩; have hS1 := hS.callM (A := [_, _]) (B := [bkB g sq gs ga grs.length gc]) (R := shA gs gm sh da dc ++ L3) hk9; clear hS hk9; have hS := hS1; clear hS1) | (with_reducible refine ld 0 hS rfl rfl rfl rfl rfl ?_))
   go_ret2
   rw [hfin.out]
   have h1 := St.fore (A := bkA g gs gm ⟨sq, sh, ks⟩ ga grs.length gc da dc) (R := L3) hS.drop.drop
   exact ⟨ga, gc, grs, da, dc, none, 0, [], hG.out, rfl, St.rot (A := [_]) (B := bkA g gs gm ⟨sq, sh, ks⟩ ga grs.length gc da dc) (h1.nilrow 48 2), fun _ _ _ _ _ _ h => h⟩
  subst her
  go_wp2_with (first | ((with_reducible refine wpList_build1c_st hS rfl rfl Tryz.underlying46 elem_i rfl ?_); clear hS; intro g7 w7 hS) | (go_at_call 74; have q1 := hS.preM (A := [_, _]) (B := [bkB g sq gs ga grs.length gc]) (R := shA gs gm sh da dc ++ L3); have q2 := fun W (k : Fr [g] _ W) => (hS.offM (A := [_, _]) (B := [bkB g sq gs ga grs.length gc]) (R := shA gs gm sh da dc ++ L3) k).blksl2 (xs := [i].map vi) 0 rfl; (with_reducible refine (cSp.out _ _ _ _ _ _ q1 q2).mono ?_); clear q1 q2; rintro _ w8 ⟨a8, c8, rfl, hk9⟩; have hS1 := hS.callM (A := [_, _]) (B := [bkB g sq gs ga grs.length gc]) (R := shA gs gm sh da dc ++ L3) hk9; clear hS hk9; have hS := hS1; clear hS1) | (with_reducible refine ld 0 hS rfl rfl rfl rfl rfl ?_))
  go_ret2
  exact ⟨a3, c3, gr3, da, dc, a8, c8, L3, hk3.out, rfl, St.mid (A := [_]) (B := [_]) (C := shA gs gm sh da dc) (R := L3) hS.drop.drop, fun w0 F0 A B W hW h => hK3.out w0 F0 A B W hW h.mem⟩
 ·
  refine op_alloc_st (by kernel_rfl) rfl (by assumption) hS ?_
  clear hS; intro g1 w1 hS
  try clear hC
  refine cl hK (fun hC => ?_)
  clear hK K
  refine mixs_one 6 (by kernel_rfl) rfl (fun K hK => ?_)
  go_simp
  (go_at_call 49; have q1 := shAt_st (g := gs) (gm := gm) (s := sh) (da := da) (dc := dc) hS 3 4 5 rfl rfl rfl; (with_reducible refine (cGe.out _ q1).mono ?_); clear q1; rintro _ w3 ⟨rfl, hk9⟩; replace hS := hS.keepB hk9; clear hk9)
  try clear hC
  refine cl hK (fun hC => ?_)
  clear hK K
  refine tk 7 ?_
  refine tk 8 ?_
  refine tk 9 ?_
  refine mixs_one 11 (by kernel_rfl) rfl (fun K hK => ?_)
  (refine op_storerow_st (vs := GR) (n := 27) (by kernel_rfl) 0 hS rfl rfl rfl (by kernel_rfl) rfl hgl hgo rfl ?_; clear hS; intro w1 hS; try simp only [List.set_cons_zero, List.set_cons_succ] at hS)
  try clear hC
  refine cl hK (fun hC => ?_)
  clear hK K
  refine tk 12 ?_
  refine wpAnyH_done (by kernel_rfl) ?_ _
  clear kb kg hC
  by_cases hge : ge = 0
  case neg =>
   have b1 : (ge != 0) = true := by simpa using hge
   have hIp := hIF.out
   rw [if_pos hge] at hIp
   subst hIp
   clear hIF
   have hfin0 := Lib.hid (show BkS.fin ⟨sq, sh, ks⟩ (ge, [], sh, ks) = (⟨sq, sh, ks⟩, [], ge) from if_pos hge)
   clear hge
   go_wp2_with fail
   go_ret2
   rw [hfin0.out]
   exact ⟨ga, gc, grs, da, dc, none, 0, [], hG.out, rfl, St.rot (A := [_]) (B := bkA g gs gm ⟨sq, sh, ks⟩ ga grs.length gc da dc) (hS.drop.drop.nilrow 48 2), fun _ _ _ _ _ _ h => h⟩
  subst hge
  have hS1 := hS.drop
  clear hS
  have hS := hS1
  clear hS1
  have hIp := hIF.out
  rw [if_neg (by simp)] at hIp
  subst hIp
  clear hIF
  go_wp2_with fail
  refine mixs_beginC2 (by kernel_rfl) hS ?_
  clear hS
  intro w2 hS hC
  have kb := hC.kblk 0 rfl
  have kg := hC.kblk 1 rfl
  refine tk 0 ?_
  refine tk 1 ?_
  refine tk 2 ?_
  refine tk 3 ?_
  refine tk 4 ?_
  refine tk 5 ?_
  refine tk 6 ?_
  refine tk 7 ?_
  refine mixs_one 8 (by kernel_rfl) rfl (fun K hK => ?_)
  go_simp
  (go_at_call 79; (with_reducible refine (cL.out _ (hD.out _ hS.fr)).mono ?_); rintro _ w3 ⟨a3, c3, gr3, L3, hk3, rfl, hK3, hk9⟩; have hS1 := St.rot (A := L3) (hS.made hk9); simp only [List.cons_append, List.nil_append] at hS1; clear hS hk9; replace hk3 := Lib.hid hk3; replace hK3 := Lib.hid hK3; have hS := hS1; clear hS1)
  try clear hC
  refine cl hK (fun hC => ?_)
  clear hK K
  refine tk 9 ?_
  refine tk 10 ?_
  refine tk 11 ?_
  refine tk 12 ?_
  refine tk 13 ?_
  refine wpAnyH_done (by kernel_rfl) ?_ _
  clear kb kg
  by_cases her : er = 0
  case neg =>
   have hfin := Lib.hid (show BkS.fin ⟨sq, sh, ks⟩ (er, [i], sh, k1) = (⟨sq, sh, ks⟩, [], er) from if_pos her)
   have cSN := Lib.hid (cSn.out her)
   clear her
   go_wp2_with (first | ((with_reducible refine wpList_build1c_st hS rfl rfl Tryz.underlying46 elem_i rfl ?_); clear hS; intro g7 w7 hS) | (go_at_call 74; have q1 := hS.preM (A := [_, _]) (B := [bkB g sq gs ga grs.length gc]) (R := shA gs gm sh da dc ++ L3); have q2 := fun W (k : Fr [g] _ W) => (hS.offM (A := [_, _]) (B := [bkB g sq gs ga grs.length gc]) (R := shA gs gm sh da dc ++ L3) k).blksl2 (xs := [i].map vi) 0 rfl; (with_reducible refine (cSN.out _ _ _ _ _ _ q1 q2).mono ?_); clear q1 q2; rintro _ w8 ⟨rfl, hk9⟩; have hS1 := hS.callM (A := [_, _]) (B := [bkB g sq gs ga grs.length gc]) (R := shA gs gm sh da dc ++ L3) hk9; clear hS hk9; have hS := hS1; clear hS1) | (with_reducible refine ld 0 hS rfl rfl rfl rfl rfl ?_))
   go_ret2
   rw [hfin.out]
   have h1 := St.fore (A := bkA g gs gm ⟨sq, sh, ks⟩ ga grs.length gc da dc) (R := L3) hS.drop.drop
   exact ⟨ga, gc, grs, da, dc, none, 0, [], hG.out, rfl, St.rot (A := [_]) (B := bkA g gs gm ⟨sq, sh, ks⟩ ga grs.length gc da dc) (h1.nilrow 48 2), fun _ _ _ _ _ _ h => h⟩
  subst her
  go_wp2_with (first | ((with_reducible refine wpList_build1c_st hS rfl rfl Tryz.underlying46 elem_i rfl ?_); clear hS; intro g7 w7 hS) | (go_at_call 74; have q1 := hS.preM (A := [_, _]) (B := [bkB g sq gs ga grs.length gc]) (R := shA gs gm sh da dc ++ L3); have q2 := fun W (k : Fr [g] _ W) => (hS.offM (A := [_, _]) (B := [bkB g sq gs ga grs.length gc]) (R := shA gs gm sh da dc ++ L3) k).blksl2 (xs := [i].map vi) 0 rfl; (with_reducible refine (cSp.out _ _ _ _ _ _ q1 q2).mono ?_); clear q1 q2; rintro _ w8 ⟨a8, c8, rfl, hk9⟩; have hS1 := hS.callM (A := [_, _]) (B := [bkB g sq gs ga grs.length gc]) (R := shA gs gm sh da dc ++ L3) hk9; clear hS hk9; have hS := hS1; clear hS1) | (with_reducible refine ld 0 hS rfl rfl rfl rfl rfl ?_))
  go_ret2
  exact ⟨a3, c3, gr3, da, dc, a8, c8, L3, hk3.out, rfl, St.mid (A := [_]) (B := [_]) (C := shA gs gm sh da dc) (R := L3) hS.drop.drop, fun w0 F0 A B W hW h => hK3.out w0 F0 A B W hW h.mem⟩
end Go.Proofs.YtneolmnpebiifaaGreatDoor
end
section
namespace Go.Proofs.YtneolmnpebiifaaGreatDoor
open Go.RowKit Go.Ofp
set_option maxHeartbeats 4000000
theorem bclose_any (m g gs gm : Nat) (b : BkS) (grs : List Gr) (ga : Option Addr) (gc : Nat) (da : Option Addr) (dc : Nat) (e : Ed) (he : EdIn e) (w : World) (hA : St w (feet (bkA g gs gm b ga grs.length gc da dc)) (bkA g gs gm b ga grs.length gc da dc) w) (hok : BkOk m b) (hm : m ≤ 2000) (hG : keys grs = b.ks) (hD : ∀ W, Fr (feet (bkA g gs gm b ga grs.length gc da dc)) w W → Deep W ga grs.length gc grs) :
 Calls Tryz.prog 43 #[.pointer (some ⟨g, 0, none⟩), .agg (edRow e).toArray] w (BkOut g gs gm grs ga gc (b.fin ((closeK b.ks e.group).1, membersK b.ks e.group ++ [0], b.sh, (closeK b.ks e.group).2)) w (feet (bkA g gs gm b ga grs.length gc da dc))) := by
 have hS := hA
 have hsq := hok.seq
 have hkk : OkK (keys grs) := by rw [hG]; exact hok.ks.ok hm
 have hml := membersK_len hok.ks e.group
 have cL := fun W h => close_k ga grs grs.length gc e.group W h (by have := hkk.nn; omega) hkk.mm hkk.up
 have cM := fun W h => members_any ga grs grs.length gc e.group W h (by have := hkk.nn; omega) hkk.mm hkk.up
 have hpl := ptRow_len e.p he.p.len
 obtain ⟨kd, i, gn, p⟩ := e
 have e0 : edRow ⟨kd, i, gn, p⟩ = .int .i64 kd :: .int .i64 i :: .int .i64 gn :: ptRow p := rfl
 rw [e0]
 simp only at cL cM hpl hml ⊢
 rw [hG] at cL cM
 clear e0 he hok hA hkk
 generalize feet (bkA g gs gm b ga grs.length gc da dc) = F at *
 obtain ⟨sq, sh, ks⟩ := b
 simp only at *
 generalize ptRow p = PR at *
 generalize closeK ks gn = QK at *
 generalize membersK ks gn = M at *
 obtain ⟨er, k1⟩ := QK
 simp only at *
 have hml2 : M.length ≤ 2000 := by omega
 clear hml hm
 have hTv : (M ++ [0]).map vi = M.map vi ++ [.int .i64 0] := by simp [vi]
 have hTl : (M ++ [0]).length = M.length + 1 := by simp
 have cSn := fun (her : er ≠ 0) W la ln lc ta tc h1 h2 => bregroup_no g gs sq ga grs.length gc la ln lc er her ta (M.length + 1) tc (M ++ [0]) W h1 h2 hTl (by omega) hsq
 have cSp := fun W la ln lc ta tc h1 h2 => bregroup_ok g gs sq ga grs.length gc la ln lc ta (M.length + 1) tc (M ++ [0]) W h1 h2 hTl (by omega) hsq
 rw [hTv] at cSn cSp
 have hfp := show BkS.fin ⟨sq, sh, ks⟩ (0, M ++ [0], sh, k1) = (⟨sq + (M.length + 1 : Nat), sh, k1⟩, stepsL sq (M ++ [0]), 0) by
  unfold BkS.fin
  rw [if_neg (by simp), hTl]
 have hsl : (stepsL sq (M ++ [0])).length = M.length + 1 := by rw [stepsL_len, hTl]
 replace cSn := Lib.hid cSn
 replace cSp := Lib.hid cSp
 replace cL := Lib.hid cL
 replace cM := Lib.hid cM
 replace hG := Lib.hid hG
 replace hD := Lib.hid hD
 replace hfp := Lib.hid hfp
 replace hsl := Lib.hid hsl
 clear hTv hTl
 go_enter Tryz.func43, Tryz.ntmps43
 go_wp2_with ((with_reducible refine wpList_box_st (L := bkB g sq gs ga grs.length gc :: shA gs gm sh da dc) hS rfl rfl rfl ?_; clear hS; intro gb w1 hS))
 refine mixs_beginC2 (by kernel_rfl) hS ?_
 clear hS
 intro w2 hS hC
 have kb := hC.kblk 0 rfl
 have kg := hC.kblk 1 rfl
 --FORE3
 refine tk 0 ?_
 refine tk 1 ?_
 refine tk 2 ?_
 refine tk 3 ?_
 refine tk 4 ?_
 refine tk 5 ?_
 refine mixs_two 6 7 (by kernel_rfl) rfl rfl (fun K hK => ?_) (fun K hK => ?_)
 ·
  go_simp
  (go_at_call 77; (with_reducible refine (cM.out _ (hD.out _ hS.fr)).mono ?_); rintro _ w3 ⟨a3, c3, rfl, h31, h32, hk9⟩; have hk8 : St _ [] [Ch.row 3 1 (.slice a3 M.length c3) M.length (M.map vi)] w3 := hk9; have hS1 := hS.made hk8; simp only [List.cons_append, List.nil_append] at hS1; clear hS hk9 hk8; have hS := hS1; clear hS1)
  try clear hC
  refine cl hK (fun hC => ?_)
  clear hK K
  refine mixs_one 7 (by kernel_rfl) rfl (fun K hK => ?_)
  (refine op_build1c_st (by kernel_rfl) hS rfl Tryz.underlying46 elem_i rfl ?_; clear hS; intro g7 w7 hS)
  try clear hC
  refine cl hK (fun hC => ?_)
  clear hK K
  refine mixs_one 8 (by kernel_rfl) rfl (fun K hK => ?_)
  (refine op_app_st (by kernel_rfl) 1 hS rfl rfl Tryz.underlying46 elem_i rfl (Src.slice Tryz.underlying46 (hS.blksl2 0 rfl) rfl) rfl (by simp [Value.oneCell']) (by omega) (by unfold maxLen; omega) ?_; intro v6 w5 hS1; clear hS; have hS := hS1.drop; clear hS1; obtain ⟨a6, c6, rfl, -⟩ := hS.row 0 rfl)
  try clear hC
  refine cl hK (fun hC => ?_)
  clear hK K
  refine tk 9 ?_
  refine wpAnyH_done (by kernel_rfl) ?_ _
  clear kb kg h31 h32
  go_upto_region 2 with fail
  refine mixs_beginC3 (by kernel_rfl) hS ?_
  clear hS
  intro w4 hS hC
  have kb := hC.kblk 1 rfl
  have kg := hC.kblk 2 rfl
  refine tk 0 ?_
  refine tk 1 ?_
  refine tk 2 ?_
  refine tk 3 ?_
  refine tk 4 ?_
  refine tk 5 ?_
  refine mixs_one 6 (by kernel_rfl) rfl (fun K hK => ?_)
  go_simp
  (go_at_call 78; (with_reducible refine (cL.out _ (hD.out _ hS.fr)).mono ?_); rintro _ w3 ⟨a3, c3, gr3, L3, hk3, rfl, hK3, hk9⟩; have hS1 := St.rot (A := L3) (hS.made hk9); simp only [List.cons_append, List.nil_append] at hS1; clear hS hk9; replace hk3 := Lib.hid hk3; replace hK3 := Lib.hid hK3; have hS := hS1; clear hS1)
  try clear hC
  refine cl hK (fun hC => ?_)
  clear hK K
  refine tk 7 ?_
  refine tk 8 ?_
  refine tk 9 ?_
  refine tk 10 ?_
  refine tk 11 ?_
  refine wpAnyH_done (by kernel_rfl) ?_ _
  clear kb kg
  by_cases her : er = 0
  case neg =>
   have hfin := Lib.hid (show BkS.fin ⟨sq, sh, ks⟩ (er, M ++ [0], sh, k1) = (⟨sq, sh, ks⟩, [], er) from if_pos her)
   have cSN := Lib.hid (cSn.out her)
   clear her
   go_wp2_with ((go_at_call 74; have q1 := hS.preM (A := [_, _]) (B := [bkB g sq gs ga grs.length gc]) (R := shA gs gm sh da dc ++ L3); have q2 := fun W (k : Fr [g] _ W) => (hS.offM (A := [_, _]) (B := [bkB g sq gs ga grs.length gc]) (R := shA gs gm sh da dc ++ L3) k).rowsl 0 rfl; (with_reducible refine (cSN.out _ _ _ _ _ _ q1 q2).mono ?_); clear q1 q2; rintro _ w8 ⟨rfl, hk9⟩; have hS1 := hS.callM (A := [_, _]) (B := [bkB g sq gs ga grs.length gc]) (R := shA gs gm sh da dc ++ L3) hk9; clear hS hk9; have hS := hS1; clear hS1))
   go_ret2
   rw [hfin.out]
   have h1 := St.fore (A := bkA g gs gm ⟨sq, sh, ks⟩ ga grs.length gc da dc) (R := L3) hS.drop.drop
   exact ⟨ga, gc, grs, da, dc, none, 0, [], hG.out, rfl, St.rot (A := [_]) (B := bkA g gs gm ⟨sq, sh, ks⟩ ga grs.length gc da dc) (h1.nilrow 48 2), fun _ _ _ _ _ _ h => h⟩
  subst her
  go_wp2_with ((go_at_call 74; have q1 := hS.preM (A := [_, _]) (B := [bkB g sq gs ga grs.length gc]) (R := shA gs gm sh da dc ++ L3); have q2 := fun W (k : Fr [g] _ W) => (hS.offM (A := [_, _]) (B := [bkB g sq gs ga grs.length gc]) (R := shA gs gm sh da dc ++ L3) k).rowsl 0 rfl; (with_reducible refine (cSp.out _ _ _ _ _ _ q1 q2).mono ?_); clear q1 q2; rintro _ w8 ⟨a8, c8, rfl, hk9⟩; have hS1 := hS.callM (A := [_, _]) (B := [bkB g sq gs ga grs.length gc]) (R := shA gs gm sh da dc ++ L3) hk9; clear hS hk9; have hS := hS1; clear hS1))
  go_ret2
  rw [hfp.out]
  refine ⟨a3, c3, gr3, da, dc, a8, c8, L3, hk3.out, ?_, ?_, fun w0 F0 A B W hW h => hK3.out w0 F0 A B W hW h.mem⟩
  · dsimp only
    rw [hsl.out]
    rfl
  · dsimp only
    rw [hsl.out]
    exact St.mid (A := [_]) (B := [_]) (C := shA gs gm sh da dc) (R := L3) hS.drop.drop
 ·
  (refine op_build1c_st (by kernel_rfl) hS rfl Tryz.underlying46 elem_i rfl ?_; clear hS; intro g7 w7 hS)
  try clear hC
  refine cl hK (fun hC => ?_)
  clear hK K
  refine mixs_one 6 (by kernel_rfl) rfl (fun K hK => ?_)
  go_simp
  (go_at_call 77; (with_reducible refine (cM.out _ (hD.out _ hS.fr)).mono ?_); rintro _ w3 ⟨a3, c3, rfl, h31, h32, hk9⟩; have hk8 : St _ [] [Ch.row 3 1 (.slice a3 M.length c3) M.length (M.map vi)] w3 := hk9; have hS1 := hS.made hk8; simp only [List.cons_append, List.nil_append] at hS1; clear hS hk9 hk8; have hS := hS1; clear hS1)
  try clear hC
  refine cl hK (fun hC => ?_)
  clear hK K
  refine mixs_one 8 (by kernel_rfl) rfl (fun K hK => ?_)
  (refine op_app_st (by kernel_rfl) 0 hS rfl rfl Tryz.underlying46 elem_i rfl (Src.slice Tryz.underlying46 (hS.blksl2 1 rfl) rfl) rfl (by simp [Value.oneCell']) (by omega) (by unfold maxLen; omega) ?_; intro v6 w5 hS1; clear hS; have hS := hS1.drop1; clear hS1; obtain ⟨a6, c6, rfl, -⟩ := hS.row 0 rfl)
  try clear hC
  refine cl hK (fun hC => ?_)
  clear hK K
  refine tk 9 ?_
  refine wpAnyH_done (by kernel_rfl) ?_ _
  clear kb kg h31 h32
  go_upto_region 2 with fail
  refine mixs_beginC3 (by kernel_rfl) hS ?_
  clear hS
  intro w4 hS hC
  have kb := hC.kblk 1 rfl
  have kg := hC.kblk 2 rfl
  refine tk 0 ?_
  refine tk 1 ?_
  refine tk 2 ?_
  refine tk 3 ?_
  refine tk 4 ?_
  refine tk 5 ?_
  refine mixs_one 6 (by kernel_rfl) rfl (fun K hK => ?_)
  go_simp
  (go_at_call 78; (with_reducible refine (cL.out _ (hD.out _ hS.fr)).mono ?_); rintro _ w3 ⟨a3, c3, gr3, L3, hk3, rfl, hK3, hk9⟩; have hS1 := St.rot (A := L3) (hS.made hk9); simp only [List.cons_append, List.nil_append] at hS1; clear hS hk9; replace hk3 := Lib.hid hk3; replace hK3 := Lib.hid hK3; have hS := hS1; clear hS1)
  try clear hC
  refine cl hK (fun hC => ?_)
  clear hK K
  refine tk 7 ?_
  refine tk 8 ?_
  refine tk 9 ?_
  refine tk 10 ?_
  refine tk 11 ?_
  refine wpAnyH_done (by kernel_rfl) ?_ _
  clear kb kg
  by_cases her : er = 0
  case neg =>
   have hfin := Lib.hid (show BkS.fin ⟨sq, sh, ks⟩ (er, M ++ [0], sh, k1) = (⟨sq, sh, ks⟩, [], er) from if_pos her)
   have cSN := Lib.hid (cSn.out her)
   clear her
   go_wp2_with ((go_at_call 74; have q1 := hS.preM (A := [_, _]) (B := [bkB g sq gs ga grs.length gc]) (R := shA gs gm sh da dc ++ L3); have q2 := fun W (k : Fr [g] _ W) => (hS.offM (A := [_, _]) (B := [bkB g sq gs ga grs.length gc]) (R := shA gs gm sh da dc ++ L3) k).rowsl 0 rfl; (with_reducible refine (cSN.out _ _ _ _ _ _ q1 q2).mono ?_); clear q1 q2; rintro _ w8 ⟨rfl, hk9⟩; have hS1 := hS.callM (A := [_, _]) (B := [bkB g sq gs ga grs.length gc]) (R := shA gs gm sh da dc ++ L3) hk9; clear hS hk9; have hS := hS1; clear hS1))
   go_ret2
   rw [hfin.out]
   have h1 := St.fore (A := bkA g gs gm ⟨sq, sh, ks⟩ ga grs.length gc da dc) (R := L3) hS.drop.drop
   exact ⟨ga, gc, grs, da, dc, none, 0, [], hG.out, rfl, St.rot (A := [_]) (B := bkA g gs gm ⟨sq, sh, ks⟩ ga grs.length gc da dc) (h1.nilrow 48 2), fun _ _ _ _ _ _ h => h⟩
  subst her
  go_wp2_with ((go_at_call 74; have q1 := hS.preM (A := [_, _]) (B := [bkB g sq gs ga grs.length gc]) (R := shA gs gm sh da dc ++ L3); have q2 := fun W (k : Fr [g] _ W) => (hS.offM (A := [_, _]) (B := [bkB g sq gs ga grs.length gc]) (R := shA gs gm sh da dc ++ L3) k).rowsl 0 rfl; (with_reducible refine (cSp.out _ _ _ _ _ _ q1 q2).mono ?_); clear q1 q2; rintro _ w8 ⟨a8, c8, rfl, hk9⟩; have hS1 := hS.callM (A := [_, _]) (B := [bkB g sq gs ga grs.length gc]) (R := shA gs gm sh da dc ++ L3) hk9; clear hS hk9; have hS := hS1; clear hS1))
  go_ret2
  rw [hfp.out]
  refine ⟨a3, c3, gr3, da, dc, a8, c8, L3, hk3.out, ?_, ?_, fun w0 F0 A B W hW h => hK3.out w0 F0 A B W hW h.mem⟩
  · dsimp only
    rw [hsl.out]
    rfl
  · dsimp only
    rw [hsl.out]
    exact St.mid (A := [_]) (B := [_]) (C := shA gs gm sh da dc) (R := L3) hS.drop.drop
end Go.Proofs.YtneolmnpebiifaaGreatDoor
end
