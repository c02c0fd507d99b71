import Derived.Test.YtneolmnpebiifaaGreatDoorM27
set_option linter.unusedVariables false
set_option linter.unusedSimpArgs false
set_option maxRecDepth 100000
section
namespace Go.Ofp
open Go.RowKit
def BkS.fin (b : BkS) (r : Int × List Int × ShS × List Key) : BkS × List (Int × Int) × Int := if r.1 ≠ 0 then (b, [], r.1) else (⟨b.seq + r.2.1.length, r.2.2.1, r.2.2.2⟩, stepsL b.seq r.2.1, 0)
theorem add_no {s : ShS} {p : Pt} (h : (s.add p).2.2 ≠ 0) : (s.add p).1 = s := by
 unfold ShS.add at *
 split
 · rfl
 · rename_i h1
   rw [if_neg h1] at h
   split
   · rfl
   · rename_i h2
     rw [if_neg h2] at h
     exact absurd rfl h
theorem write_no {s : ShS} {id : Int} {p : Pt} (h : (s.write id p).2.2 ≠ 0) : (s.write id p).1 = s := by
 unfold ShS.write at *
 split
 · rfl
 · rename_i h1
   rw [if_neg h1] at h
   split
   · rfl
   · rename_i h2
     rw [if_neg h2] at h
     split
     · rfl
     · rename_i h3
       rw [if_neg h3] at h
       exact absurd rfl h
theorem drop_no {s : ShS} {id q : Int} (h : (s.drop id q).2 ≠ 0) : (s.drop id q).1 = s := by
 unfold ShS.drop at *
 split
 · rfl
 · rename_i h1
   rw [if_neg h1] at h
   split
   · rfl
   · rename_i h2
     rw [if_neg h2] at h
     exact absurd rfl h
end Go.Ofp
namespace Go.Proofs.YtneolmnpebiifaaGreatDoor
open Go.RowKit Go.Ofp
set_option maxHeartbeats 4000000
abbrev bkA (g gs gm : Nat) (b : BkS) (ga : Option Addr) (n gc : Nat) (da : Option Addr) (dc : Nat) : List Ch := bkB g b.seq gs ga n gc :: shA gs gm b.sh da dc
def BkOut (g gs gm : Nat) (grs : List Gr) (ga : Option Addr) (gc : Nat) (r : BkS × List (Int × Int) × Int) (w : World) (F : List Nat) (e : Ending) (w' : World) : Prop :=
 ∃ ga' gc' grs' da' dc' a c L', keys grs' = r.1.ks ∧ e = .returned (.tuple #[.slice a r.2.1.length c, .int .i64 r.2.2]) ∧
  St w F (bkA g gs gm r.1 ga' grs'.length gc' da' dc' ++ (Ch.row 48 2 (.slice a r.2.1.length c) r.2.1.length (chRows r.2.1) :: L')) w' ∧
  ∀ (w0 : World) (F0 : List Nat) (A B : List Ch) (W : World), St w0 F0 (A ++ (L' ++ B)) W → Deep W ga grs.length gc grs → Deep W ga' grs'.length gc' grs'
theorem bcreate_any (m g gs gm : Nat) (b : BkS) (grs : List Gr) (ga : Option Addr) (gc : Nat) (da : Option Addr) (dc : Nat) (e : Ed) (he : EdIn e) (w : World) (hA : St w (feet (bkA g gs gm b ga grs.length gc da dc)) (bkA g gs gm b ga grs.length gc da dc) w) (hok : BkOk m b) (hG : keys grs = b.ks) (htab : Tab w) (hT : 0 ∉ feet (bkA g gs gm b ga grs.length gc da dc)) :
 Calls Tryz.prog 39 #[.pointer (some ⟨g, 0, none⟩), .agg (edRow e).toArray] w (BkOut g gs gm grs ga gc (b.fin ((b.sh.add e.p).2.2, [(b.sh.add e.p).2.1.id], (b.sh.add e.p).1, b.ks)) w (feet (bkA g gs gm b ga grs.length gc da dc))) := by
 have hS := hA
 have ec := elem_card
 have hT1 : 0 ∉ feet (shA gs gm b.sh da dc) := (feet_off (A := [_]) hT).2
 have htb := Lib.hid fun W (h : Fr (feet (bkA g gs gm b ga grs.length gc da dc)) w W) => htab.fr h hT
 have cA := fun W h1 h2 => sadd_any gs gm b.sh da dc e.p he.p W h1 hok.sh h2 hT1
 have hgV : sgV (b.sh.add e.p).2 = .tuple #[.agg (cdRow (b.sh.add e.p).2.1).toArray, .int .i64 (b.sh.add e.p).2.2] := rfl
 have hcl := cdRow_lenT _ (add_f (s := b.sh) e.p)
 have hco := cdRow_oneT (b.sh.add e.p).2.1
 have hno := add_no (s := b.sh) (p := e.p)
 have hpl := ptRow_len e.p he.p.len
 obtain ⟨CT, hCT⟩ : ∃ CT, cdRow (b.sh.add e.p).2.1 = .int .i64 (b.sh.add e.p).2.1.id :: CT := ⟨_, rfl⟩
 rw [hCT] at hcl hco hgV
 rw [hgV] at cA
 have hsq := hok.seq
 obtain ⟨kd, i, gn, p⟩ := e
 have e0 : edRow ⟨kd, i, gn, p⟩ = .int .i64 kd :: .int .i64 i :: .int .i64 gn :: ptRow p := rfl
 rw [e0]
 simp only at cA hcl hco hno hpl ⊢
 clear e0 hgV hCT he hok htab hT hT1 hA
 generalize feet (bkA g gs gm b ga grs.length gc da dc) = F at *
 obtain ⟨sq, sh, ks⟩ := b
 simp only at *
 generalize ptRow p = PR at *
 have hrP : ((Value.int .i64 kd :: .int .i64 i :: .int .i64 gn :: PR).toArray.toList.drop 3).take 26 = PR := by simp [← hpl]
 generalize (sh.add p).2.1.id = ci at *
 generalize (sh.add p).2.2 = er at *
 generalize (sh.add p).1 = s1 at *
 replace cA := Lib.hid cA
 replace hG := Lib.hid hG
 replace hno := Lib.hid hno
 have cS := Lib.hid fun W ta tc h1 h2 => bsteps_any g gs sq ga grs.length gc ta 1 tc [ci] W h1 h2 rfl (by omega) hsq
 go_enter Tryz.func39, Tryz.ntmps39
 go_wp2_with ((with_reducible refine wpList_box_st (L := bkB g sq gs ga grs.length gc :: shA gs gm sh da dc) hS rfl rfl rfl ?_; clear hS; intro gb w1 hS))
 refine mixs_beginC2 (by kernel_rfl) hS ?_
 clear hS
 intro w2 hS hC
 have kg := hC.kblk 1 rfl
 have kp := hC.krow (P := Tryz.prog) (j := 3) 0 rfl (t := 42) (by kernel_rfl) (n := 26) (by kernel_rfl) hrP hpl
 refine tk 0 ?_
 refine tk 1 ?_
 refine tk 2 ?_
 refine tk 3 ?_
 refine tk 4 ?_
 refine tkr 5 kp ?_
 refine mixs_two 6 10 (by kernel_rfl) rfl rfl (fun K hK => ?_) (fun K hK => ?_)
 ·
  go_simp
  (go_at_call 70; have q1 := hS.preM (A := [_, _]) (B := shA gs gm sh da dc) (R := []); (with_reducible refine (cA.out _ q1 (htb.out _ hS.fr)).mono ?_); clear q1; rintro _ w3 ⟨rfl, hk9⟩; have hS1 := hS.callM (A := [_, _]) (B := shA gs gm sh da dc) (R := []) hk9; clear hS hk9; have hS := hS1; clear hS1)
  try clear hC
  refine cl hK (fun hC => ?_)
  clear hK K
  refine tk 7 ?_
  refine tk 8 ?_
  refine tk 9 ?_
  refine mixs_one 10 (by kernel_rfl) rfl (fun K hK => ?_)
  refine op_alloc_st (by kernel_rfl) rfl (by assumption) hS ?_
  clear hS; intro g1 w1 hS
  try clear hC
  refine cl hK (fun hC => ?_)
  clear hK K
  refine mixs_one 11 (by kernel_rfl) rfl (fun K hK => ?_)
  (refine op_storerow_st (vs := Value.int .i64 ci :: CT) (n := 27) (by kernel_rfl) 0 hS rfl rfl rfl (by kernel_rfl) rfl hcl hco rfl ?_; clear hS; intro w1 hS; try simp only [List.set_cons_zero, List.set_cons_succ] at hS)
  try clear hC
  refine cl hK (fun hC => ?_)
  clear hK K
  refine tk 12 ?_
  refine wpAnyH_done (by kernel_rfl) ?_ _
  clear kg kp
  by_cases her : er = 0
  case neg =>
   have b1 : (er != 0) = true := by simpa using her
   rw [hno.out her] at hS
   have hfin : BkS.fin ⟨sq, sh, ks⟩ (er, [ci], s1, ks) = (⟨sq, sh, ks⟩, [], er) := if_pos her
   replace hfin := Lib.hid hfin
   clear her
   go_wp2_with fail
   go_ret2
   rw [hfin.out]
   exact ⟨ga, gc, grs, da, dc, none, 0, [], hG.out, rfl, St.rot (A := [_]) (B := bkA g gs gm ⟨sq, sh, ks⟩ ga grs.length gc da dc) (hS.drop.drop.nilrow 48 2), fun _ _ _ _ _ _ h => h⟩
  subst her
  go_wp2_with (first | ((with_reducible refine wpList_build1c_st hS rfl rfl Tryz.underlying46 elem_i rfl ?_); clear hS; intro g7 w7 hS) | (go_at_call 71; have q1 := hS.preM (A := [_, _, _]) (B := [bkB g sq gs ga grs.length gc]) (R := shA gs gm s1 da dc); have q2 := fun W (k : Fr [g] _ W) => (hS.offM (A := [_, _, _]) (B := [bkB g sq gs ga grs.length gc]) (R := shA gs gm s1 da dc) k).blksl2 (xs := [ci].map vi) 0 rfl; (with_reducible refine (cS.out _ _ _ q1 q2).mono ?_); clear q1 q2; rintro _ w3 ⟨a3, c3, rfl, hk9⟩; have hS1 := hS.callM (A := [_, _, _]) (B := [bkB g sq gs ga grs.length gc]) (R := shA gs gm s1 da dc) hk9; clear hS hk9; have hS := hS1; clear hS1) | (with_reducible refine ld 0 hS rfl rfl rfl rfl rfl ?_))
  go_ret2
  exact ⟨ga, gc, grs, da, dc, a3, c3, [], hG.out, rfl, St.mid (A := [_]) (B := [_]) (C := shA gs gm s1 da dc) (R := []) hS.drop.drop.drop, fun _ _ _ _ _ _ h => h⟩
 ·
  refine op_alloc_st (by kernel_rfl) rfl (by assumption) hS ?_
  clear hS; intro g1 w1 hS
  try clear hC
  refine cl hK (fun hC => ?_)
  clear hK K
  refine mixs_one 6 (by kernel_rfl) rfl (fun K hK => ?_)
  go_simp
  (go_at_call 70; have q1 := hS.preM (A := [_, _, _]) (B := shA gs gm sh da dc) (R := []); (with_reducible refine (cA.out _ q1 (htb.out _ hS.fr)).mono ?_); clear q1; rintro _ w3 ⟨rfl, hk9⟩; have hS1 := hS.callM (A := [_, _, _]) (B := shA gs gm sh da dc) (R := []) hk9; clear hS hk9; have hS := hS1; clear hS1)
  try clear hC
  refine cl hK (fun hC => ?_)
  clear hK K
  refine tk 7 ?_
  refine tk 8 ?_
  refine tk 9 ?_
  refine mixs_one 11 (by kernel_rfl) rfl (fun K hK => ?_)
  (refine op_storerow_st (vs := Value.int .i64 ci :: CT) (n := 27) (by kernel_rfl) 0 hS rfl rfl rfl (by kernel_rfl) rfl hcl hco rfl ?_; clear hS; intro w1 hS; try simp only [List.set_cons_zero, List.set_cons_succ] at hS)
  try clear hC
  refine cl hK (fun hC => ?_)
  clear hK K
  refine tk 12 ?_
  refine wpAnyH_done (by kernel_rfl) ?_ _
  clear kg kp
  by_cases her : er = 0
  case neg =>
   have b1 : (er != 0) = true := by simpa using her
   rw [hno.out her] at hS
   have hfin : BkS.fin ⟨sq, sh, ks⟩ (er, [ci], s1, ks) = (⟨sq, sh, ks⟩, [], er) := if_pos her
   replace hfin := Lib.hid hfin
   clear her
   go_wp2_with fail
   go_ret2
   rw [hfin.out]
   exact ⟨ga, gc, grs, da, dc, none, 0, [], hG.out, rfl, St.rot (A := [_]) (B := bkA g gs gm ⟨sq, sh, ks⟩ ga grs.length gc da dc) (hS.drop.drop.nilrow 48 2), fun _ _ _ _ _ _ h => h⟩
  subst her
  go_wp2_with (first | ((with_reducible refine wpList_build1c_st hS rfl rfl Tryz.underlying46 elem_i rfl ?_); clear hS; intro g7 w7 hS) | (go_at_call 71; have q1 := hS.preM (A := [_, _, _]) (B := [bkB g sq gs ga grs.length gc]) (R := shA gs gm s1 da dc); have q2 := fun W (k : Fr [g] _ W) => (hS.offM (A := [_, _, _]) (B := [bkB g sq gs ga grs.length gc]) (R := shA gs gm s1 da dc) k).blksl2 (xs := [ci].map vi) 0 rfl; (with_reducible refine (cS.out _ _ _ q1 q2).mono ?_); clear q1 q2; rintro _ w3 ⟨a3, c3, rfl, hk9⟩; have hS1 := hS.callM (A := [_, _, _]) (B := [bkB g sq gs ga grs.length gc]) (R := shA gs gm s1 da dc) hk9; clear hS hk9; have hS := hS1; clear hS1) | (with_reducible refine ld 0 hS rfl rfl rfl rfl rfl ?_))
  go_ret2
  exact ⟨ga, gc, grs, da, dc, a3, c3, [], hG.out, rfl, St.mid (A := [_]) (B := [_]) (C := shA gs gm s1 da dc) (R := []) hS.drop.drop.drop, fun _ _ _ _ _ _ h => h⟩
end Go.Proofs.YtneolmnpebiifaaGreatDoor
end
section
namespace Go.Proofs.YtneolmnpebiifaaGreatDoor
open Go.RowKit Go.Ofp
set_option maxHeartbeats 4000000
theorem bwrite_any (m g gs gm : Nat) (b : BkS) (grs : List Gr) (ga : Option Addr) (gc : Nat) (da : Option Addr) (dc : Nat) (e : Ed) (he : EdIn e) (w : World) (hA : St w (feet (bkA g gs gm b ga grs.length gc da dc)) (bkA g gs gm b ga grs.length gc da dc) w) (hok : BkOk m b) (hG : keys grs = b.ks) (htab : Tab w) (hT : 0 ∉ feet (bkA g gs gm b ga grs.length gc da dc)) :
 Calls Tryz.prog 40 #[.pointer (some ⟨g, 0, none⟩), .agg (edRow e).toArray] w (BkOut g gs gm grs ga gc (b.fin ((b.sh.write e.id e.p).2.2, [e.id], (b.sh.write e.id e.p).1, b.ks)) w (feet (bkA g gs gm b ga grs.length gc da dc))) := by
 have hS := hA
 have ec := elem_card
 have hT1 : 0 ∉ feet (shA gs gm b.sh da dc) := (feet_off (A := [_]) hT).2
 have htb := Lib.hid fun W (h : Fr (feet (bkA g gs gm b ga grs.length gc da dc)) w W) => htab.fr h hT
 have cA := fun W h1 h2 => swrite_any gs gm b.sh da dc e.id he.id e.p he.p W h1 hok.sh h2 hT1
 have hgV : sgV (b.sh.write e.id e.p).2 = .tuple #[.agg (cdRow (b.sh.write e.id e.p).2.1).toArray, .int .i64 (b.sh.write e.id e.p).2.2] := rfl
 have hcl := cdRow_lenT _ (write_f hok.sh e.id e.p)
 have hco := cdRow_oneT (b.sh.write e.id e.p).2.1
 have hno := write_no (s := b.sh) (id := e.id) (p := e.p)
 have hpl := ptRow_len e.p he.p.len
 obtain ⟨CT, hCT⟩ : ∃ CT, cdRow (b.sh.write e.id e.p).2.1 = CT := ⟨_, rfl⟩
 rw [hCT] at hcl hco hgV
 rw [hgV] at cA
 have hsq := hok.seq
 obtain ⟨kd, i, gn, p⟩ := e
 have e0 : edRow ⟨kd, i, gn, p⟩ = .int .i64 kd :: .int .i64 i :: .int .i64 gn :: ptRow p := rfl
 rw [e0]
 simp only at cA hcl hco hno hpl ⊢
 clear e0 hgV hCT he hok htab hT hT1 hA
 generalize feet (bkA g gs gm b ga grs.length gc da dc) = F at *
 obtain ⟨sq, sh, ks⟩ := b
 simp only at *
 generalize ptRow p = PR at *
 have hrP : ((Value.int .i64 kd :: .int .i64 i :: .int .i64 gn :: PR).toArray.toList.drop 3).take 26 = PR := by simp [← hpl]
 generalize (sh.write i p).2.2 = er at *
 generalize (sh.write i p).1 = s1 at *
 replace cA := Lib.hid cA
 replace hG := Lib.hid hG
 replace hno := Lib.hid hno
 have cS := Lib.hid fun W ta tc h1 h2 => bsteps_any g gs sq ga grs.length gc ta 1 tc [i] W h1 h2 rfl (by omega) hsq
 go_enter Tryz.func40, Tryz.ntmps40
 go_wp2_with ((with_reducible refine wpList_box_st (L := bkB g sq gs ga grs.length gc :: shA gs gm sh da dc) hS rfl rfl rfl ?_; clear hS; intro gb w1 hS))
 refine mixs_beginC2 (by kernel_rfl) hS ?_
 clear hS
 intro w2 hS hC
 have kg := hC.kblk 1 rfl
 have kp := hC.krow (P := Tryz.prog) (j := 3) 0 rfl (t := 42) (by kernel_rfl) (n := 26) (by kernel_rfl) hrP hpl
 refine tk 0 ?_
 refine tk 1 ?_
 refine tk 2 ?_
 refine tk 3 ?_
 refine tk 4 ?_
 refine tk 6 ?_
 refine tkr 7 kp ?_
 refine mixs_two 5 12 (by kernel_rfl) rfl rfl (fun K hK => ?_) (fun K hK => ?_)
 ·
  refine op_load_st (by kernel_rfl) 0 hS rfl rfl rfl (by simp [scalarB, go_sem]) rfl ?_
  try clear hC
  refine cl hK (fun hC => ?_)
  clear hK K
  refine mixs_two 8 12 (by kernel_rfl) rfl rfl (fun K hK => ?_) (fun K hK => ?_)
  ·
   go_simp
   (go_at_call 72; have q1 := hS.preM (A := [_, _]) (B := shA gs gm sh da dc) (R := []); (with_reducible refine (cA.out _ q1 (htb.out _ hS.fr)).mono ?_); clear q1; rintro _ w3 ⟨rfl, hk9⟩; have hS1 := hS.callM (A := [_, _]) (B := shA gs gm sh da dc) (R := []) hk9; clear hS hk9; have hS := hS1; clear hS1)
   try clear hC
   refine cl hK (fun hC => ?_)
   clear hK K
   refine tk 9 ?_
   refine tk 10 ?_
   refine tk 11 ?_
   refine mixs_one 12 (by kernel_rfl) rfl (fun K hK => ?_)
   refine op_alloc_st (by kernel_rfl) rfl (by assumption) hS ?_
   clear hS; intro g1 w1 hS
   try clear hC
   refine cl hK (fun hC => ?_)
   clear hK K
   refine mixs_one 13 (by kernel_rfl) rfl (fun K hK => ?_)
   (refine op_storerow_st (vs := CT) (n := 27) (by kernel_rfl) 0 hS rfl rfl rfl (by kernel_rfl) rfl hcl hco rfl ?_; clear hS; intro w1 hS; try simp only [List.set_cons_zero, List.set_cons_succ] at hS)
   try clear hC
   refine cl hK (fun hC => ?_)
   clear hK K
   refine tk 14 ?_
   refine wpAnyH_done (by kernel_rfl) ?_ _
   clear kg kp
   by_cases her : er = 0
   case neg =>
    have b1 : (er != 0) = true := by simpa using her
    rw [hno.out her] at hS
    have hfin : BkS.fin ⟨sq, sh, ks⟩ (er, [i], s1, ks) = (⟨sq, sh, ks⟩, [], er) := if_pos her
    replace hfin := Lib.hid hfin
    clear her
    go_wp2_with fail
    go_ret2
    rw [hfin.out]
    exact ⟨ga, gc, grs, da, dc, none, 0, [], hG.out, rfl, St.rot (A := [_]) (B := bkA g gs gm ⟨sq, sh, ks⟩ ga grs.length gc da dc) (hS.drop.drop.nilrow 48 2), fun _ _ _ _ _ _ h => h⟩
   subst her
   go_wp2_with (first | ((with_reducible refine wpList_build1c_st hS rfl rfl Tryz.underlying46 elem_i rfl ?_); clear hS; intro g7 w7 hS) | (go_at_call 71; have q1 := hS.preM (A := [_, _, _]) (B := [bkB g sq gs ga grs.length gc]) (R := shA gs gm s1 da dc); have q2 := fun W (k : Fr [g] _ W) => (hS.offM (A := [_, _, _]) (B := [bkB g sq gs ga grs.length gc]) (R := shA gs gm s1 da dc) k).blksl2 (xs := [i].map vi) 0 rfl; (with_reducible refine (cS.out _ _ _ q1 q2).mono ?_); clear q1 q2; rintro _ w3 ⟨a3, c3, rfl, hk9⟩; have hS1 := hS.callM (A := [_, _, _]) (B := [bkB g sq gs ga grs.length gc]) (R := shA gs gm s1 da dc) hk9; clear hS hk9; have hS := hS1; clear hS1) | (with_reducible refine ld 1 hS rfl rfl rfl rfl rfl ?_))
   go_ret2
   exact ⟨ga, gc, grs, da, dc, a3, c3, [], hG.out, rfl, St.mid (A := [_]) (B := [_]) (C := shA gs gm s1 da dc) (R := []) hS.drop.drop.drop, fun _ _ _ _ _ _ h => h⟩
  ·
   refine op_alloc_st (by kernel_rfl) rfl (by assumption) hS ?_
   clear hS; intro g1 w1 hS
   try clear hC
   refine cl hK (fun hC => ?_)
   clear hK K
   refine mixs_one 8 (by kernel_rfl) rfl (fun K hK => ?_)
   go_simp
   (go_at_call 72; have q1 := hS.preM (A := [_, _, _]) (B := shA gs gm sh da dc) (R := []); (with_reducible refine (cA.out _ q1 (htb.out _ hS.fr)).mono ?_); clear q1; rintro _ w3 ⟨rfl, hk9⟩; have hS1 := hS.callM (A := [_, _, _]) (B := shA gs gm sh da dc) (R := []) hk9; clear hS hk9; have hS := hS1; clear hS1)
   try clear hC
   refine cl hK (fun hC => ?_)
   clear hK K
   refine tk 9 ?_
   refine tk 10 ?_
   refine tk 11 ?_
   refine mixs_one 13 (by kernel_rfl) rfl (fun K hK => ?_)
   (refine op_storerow_st (vs := CT) (n := 27) (by kernel_rfl) 0 hS rfl rfl rfl (by kernel_rfl) rfl hcl hco rfl ?_; clear hS; intro w1 hS; try simp only [List.set_cons_zero, List.set_cons_succ] at hS)
   try clear hC
   refine cl hK (fun hC => ?_)
   clear hK K
   refine tk 14 ?_
   refine wpAnyH_done (by kernel_rfl) ?_ _
   clear kg kp
   by_cases her : er = 0
   case neg =>
    have b1 : (er != 0) = true := by simpa using her
    rw [hno.out her] at hS
    have hfin : BkS.fin ⟨sq, sh, ks⟩ (er, [i], s1, ks) = (⟨sq, sh, ks⟩, [], er) := if_pos her
    replace hfin := Lib.hid hfin
    clear her
    go_wp2_with fail
    go_ret2
    rw [hfin.out]
    exact ⟨ga, gc, grs, da, dc, none, 0, [], hG.out, rfl, St.rot (A := [_]) (B := bkA g gs gm ⟨sq, sh, ks⟩ ga grs.length gc da dc) (hS.drop.drop.nilrow 48 2), fun _ _ _ _ _ _ h => h⟩
   subst her
   go_wp2_with (first | ((with_reducible refine wpList_build1c_st hS rfl rfl Tryz.underlying46 elem_i rfl ?_); clear hS; intro g7 w7 hS) | (go_at_call 71; have q1 := hS.preM (A := [_, _, _]) (B := [bkB g sq gs ga grs.length gc]) (R := shA gs gm s1 da dc); have q2 := fun W (k : Fr [g] _ W) => (hS.offM (A := [_, _, _]) (B := [bkB g sq gs ga grs.length gc]) (R := shA gs gm s1 da dc) k).blksl2 (xs := [i].map vi) 0 rfl; (with_reducible refine (cS.out _ _ _ q1 q2).mono ?_); clear q1 q2; rintro _ w3 ⟨a3, c3, rfl, hk9⟩; have hS1 := hS.callM (A := [_, _, _]) (B := [bkB g sq gs ga grs.length gc]) (R := shA gs gm s1 da dc) hk9; clear hS hk9; have hS := hS1; clear hS1) | (with_reducible refine ld 1 hS rfl rfl rfl rfl rfl ?_))
   go_ret2
   exact ⟨ga, gc, grs, da, dc, a3, c3, [], hG.out, rfl, St.mid (A := [_]) (B := [_]) (C := shA gs gm s1 da dc) (R := []) hS.drop.drop.drop, fun _ _ _ _ _ _ h => h⟩
 ·
  refine op_alloc_st (by kernel_rfl) rfl (by assumption) hS ?_
  clear hS; intro g1 w1 hS
  try clear hC
  refine cl hK (fun hC => ?_)
  clear hK K
  refine mixs_one 5 (by kernel_rfl) rfl (fun K hK => ?_)
  refine op_load_st (by kernel_rfl) 1 hS rfl rfl rfl (by simp [scalarB, go_sem]) rfl ?_
  try clear hC
  refine cl hK (fun hC => ?_)
  clear hK K
  refine mixs_one 8 (by kernel_rfl) rfl (fun K hK => ?_)
  go_simp
  (go_at_call 72; have q1 := hS.preM (A := [_, _, _]) (B := shA gs gm sh da dc) (R := []); (with_reducible refine (cA.out _ q1 (htb.out _ hS.fr)).mono ?_); clear q1; rintro _ w3 ⟨rfl, hk9⟩; have hS1 := hS.callM (A := [_, _, _]) (B := shA gs gm sh da dc) (R := []) hk9; clear hS hk9; have hS := hS1; clear hS1)
  try clear hC
  refine cl hK (fun hC => ?_)
  clear hK K
  refine tk 9 ?_
  refine tk 10 ?_
  refine tk 11 ?_
  refine mixs_one 13 (by kernel_rfl) rfl (fun K hK => ?_)
  (refine op_storerow_st (vs := CT) (n := 27) (by kernel_rfl) 0 hS rfl rfl rfl (by kernel_rfl) rfl hcl hco rfl ?_; clear hS; intro w1 hS; try simp only [List.set_cons_zero, List.set_cons_succ] at hS)
  try clear hC
  refine cl hK (fun hC => ?_)
  clear hK K
  refine tk 14 ?_
  refine wpAnyH_done (by kernel_rfl) ?_ _
  clear kg kp
  by_cases her : er = 0
  case neg =>
   have b1 : (er != 0) = true := by simpa using her
   rw [hno.out her] at hS
   have hfin : BkS.fin ⟨sq, sh, ks⟩ (er, [i], s1, ks) = (⟨sq, sh, ks⟩, [], er) := if_pos her
   replace hfin := Lib.hid hfin
   clear her
   go_wp2_with fail
   go_ret2
   rw [hfin.out]
   exact ⟨ga, gc, grs, da, dc, none, 0, [], hG.out, rfl, St.rot (A := [_]) (B := bkA g gs gm ⟨sq, sh, ks⟩ ga grs.length gc da dc) (hS.drop.drop.nilrow 48 2), fun _ _ _ _ _ _ h => h⟩
  subst her
  go_wp2_with (first | ((with_reducible refine wpList_build1c_st hS rfl rfl Tryz.underlying46 elem_i rfl ?_); clear hS; intro g7 w7 hS) | (go_at_call 71; have q1 := hS.preM (A := [_, _, _]) (B := [bkB g sq gs ga grs.length gc]) (R := shA gs gm s1 da dc); have q2 := fun W (k : Fr [g] _ W) => (hS.offM (A := [_, _, _]) (B := [bkB g sq gs ga grs.length gc]) (R := shA gs gm s1 da dc) k).blksl2 (xs := [i].map vi) 0 rfl; (with_reducible refine (cS.out _ _ _ q1 q2).mono ?_); clear q1 q2; rintro _ w3 ⟨a3, c3, rfl, hk9⟩; have hS1 := hS.callM (A := [_, _, _]) (B := [bkB g sq gs ga grs.length gc]) (R := shA gs gm s1 da dc) hk9; clear hS hk9; have hS := hS1; clear hS1) | (with_reducible refine ld 1 hS rfl rfl rfl rfl rfl ?_))
  go_ret2
  exact ⟨ga, gc, grs, da, dc, a3, c3, [], hG.out, rfl, St.mid (A := [_]) (B := [_]) (C := shA gs gm s1 da dc) (R := []) hS.drop.drop.drop, fun _ _ _ _ _ _ h => h⟩
end Go.Proofs.YtneolmnpebiifaaGreatDoor
end
section
namespace Go.Proofs.YtneolmnpebiifaaGreatDoor
open Go.RowKit Go.Ofp
set_option maxHeartbeats 4000000
theorem bregroup_no (g gs : Nat) (seq : Int) (ga : Option Addr) (n gc : Nat) (la : Option Addr) (ln lc : Nat) (er : Int) (her : er ≠ 0) (ta : Option Addr) (k tc : Nat) (T : List Int) (w : World) (hA : St w [g] [bkB g seq gs ga n gc] w) (hT : ∀ W, Fr [g] w W → Sl W ta (T.map vi)) (hk : T.length = k) (hk1 : k ≤ 100000) (hq : 0 ≤ seq ∧ seq ≤ 1099511628776) :
 Calls Tryz.prog 74 #[.pointer (some ⟨g, 0, none⟩), .slice la ln lc, .int .i64 er, .slice ta k tc] w fun e w' => e = .returned (.tuple #[.slice none 0 0, .int .i64 er]) ∧ St w [g] [bkB g seq gs ga n gc] w' :=
 (bregroup_any g gs seq ga n gc la ln lc er ta k tc T w hA hT hk hk1 hq).mono (by
  rintro e w' (⟨-, h3, h4⟩ | ⟨h3, -⟩)
  · exact ⟨h3, h4⟩
  · exact absurd h3 her)
theorem bregroup_ok (g gs : Nat) (seq : Int) (ga : Option Addr) (n gc : Nat) (la : Option Addr) (ln lc : Nat) (ta : Option Addr) (k tc : Nat) (T : List Int) (w : World) (hA : St w [g] [bkB g seq gs ga n gc] w) (hT : ∀ W, Fr [g] w W → Sl W ta (T.map vi)) (hk : T.length = k) (hk1 : k ≤ 100000) (hq : 0 ≤ seq ∧ seq ≤ 1099511628776) :
 Calls Tryz.prog 74 #[.pointer (some ⟨g, 0, none⟩), .slice la ln lc, .int .i64 0, .slice ta k tc] w fun e w' => ∃ a c, e = .returned (.tuple #[.slice a k c, .int .i64 0]) ∧ St w [g] [bkB g (seq + k) gs la ln lc, Ch.row 48 2 (.slice a k c) k (chRows (stepsL seq T))] w' :=
 (bregroup_any g gs seq ga n gc la ln lc 0 ta k tc T w hA hT hk hk1 hq).mono (by
  rintro e w' (⟨h3, -⟩ | ⟨-, h3⟩)
  · exact absurd rfl h3
  · exact h3)
theorem bdrop_any (m g gs gm : Nat) (b : BkS) (grs : List Gr) (ga : Option Addr) (gc : Nat) (da : Option Addr) (dc : Nat) (e : Ed) (he : EdIn e) (w : World) (hA : St w (feet (bkA g gs gm b ga grs.length gc da dc)) (bkA g gs gm b ga grs.length gc da dc) w) (hok : BkOk m b) (hm : m ≤ 2000) (hG : keys grs = b.ks) (hD : ∀ W, Fr (feet (bkA g gs gm b ga grs.length gc da dc)) w W → Deep W ga grs.length gc grs) :
 Calls Tryz.prog 41 #[.pointer (some ⟨g, 0, none⟩), .agg (edRow e).toArray] w (BkOut g gs gm grs ga gc (b.fin ((b.sh.drop e.id (b.seq + 1)).2, [e.id], (b.sh.drop e.id (b.seq + 1)).1, leaveK b.ks e.id)) w (feet (bkA g gs gm b ga grs.length gc da dc))) := by
 have hS := hA
 have hsq := hok.seq
 have hwq : IntKind.i64.wrap (b.seq + 1) = b.seq + 1 := IntWalk.i64_in _ (by omega)
 have hkk : OkK (keys grs) := by rw [hG]; exact hok.ks.ok hm
 have cA := fun W h1 => sdrop_any gs gm b.sh da dc e.id (b.seq + 1) he.id (by omega) W h1 hok.sh
 have cL := fun W h => leave_k ga grs grs.length gc e.id W h (by have := hkk.nn; omega) hkk.mm hkk.um
 have hno := drop_no (s := b.sh) (id := e.id) (q := b.seq + 1)
 have hpl := ptRow_len e.p he.p.len
 obtain ⟨kd, i, gn, p⟩ := e
 have e0 : edRow ⟨kd, i, gn, p⟩ = .int .i64 kd :: .int .i64 i :: .int .i64 gn :: ptRow p := rfl
 rw [e0]
 simp only at cA cL hno hpl ⊢
 rw [hG] at cL
 clear e0 he hok hA hkk hm
 generalize feet (bkA g gs gm b ga grs.length gc da dc) = F at *
 obtain ⟨sq, sh, ks⟩ := b
 simp only at *
 generalize ptRow p = PR at *
 generalize (sh.drop i (sq + 1)).2 = er at *
 generalize (sh.drop i (sq + 1)).1 = s1 at *
 generalize leaveK ks i = k1 at *
 replace cA := Lib.hid cA
 replace cL := Lib.hid cL
 replace hG := Lib.hid hG
 replace hno := Lib.hid hno
 replace hD := Lib.hid hD
 have cSn := Lib.hid fun (her : er ≠ 0) W la ln lc ta tc h1 h2 => bregroup_no g gs sq ga grs.length gc la ln lc er her ta 1 tc [i] W h1 h2 rfl (by omega) hsq
 have cSp := Lib.hid fun W la ln lc ta tc h1 h2 => bregroup_ok g gs sq ga grs.length gc la ln lc ta 1 tc [i] W h1 h2 rfl (by omega) hsq
 go_enter Tryz.func41, Tryz.ntmps41
 go_wp2_with ((with_reducible refine wpList_box_st (L := bkB g sq gs ga grs.length gc :: shA gs gm sh da dc) hS rfl rfl rfl ?_; clear hS; intro gb w1 hS))
 refine mixs_beginC2 (by kernel_rfl) hS ?_
 clear hS
 intro w2 hS hC
 have kb := hC.kblk 0 rfl
 have kg := hC.kblk 1 rfl
 refine tk 0 ?_
 refine tk 1 ?_
 refine tk 2 ?_
 refine tk 3 ?_
 refine tk 4 ?_
 refine tk 5 ?_
 refine tk 6 ?_
 refine tk 7 ?_
 refine tk 8 ?_
 refine tk 9 ?_
 refine tk 10 ?_
 refine mixs_one 11 (by kernel_rfl) rfl (fun K hK => ?_)
 go_simp
 (go_at_call 73; have q1 := hS.preM (A := [_, _]) (B := shA gs gm sh da dc) (R := []); (with_reducible refine (cA.out _ q1).mono ?_); clear q1; rintro _ w3 ⟨rfl, da1, dc1, hk9⟩; have hS1 := hS.callM (A := [_, _]) (B := shA gs gm sh da dc) (R := []) hk9; clear hS hk9; have hS := hS1; clear hS1)
 try clear hC
 refine cl hK (fun hC => ?_)
 clear hK K
 refine tk 12 ?_
 refine wpAnyH_done (by kernel_rfl) ?_ _
 clear kb kg
 go_wp2_with fail
 by_cases her : er = 0
 case neg =>
  have hfin := Lib.hid (show BkS.fin ⟨sq, sh, ks⟩ (er, [i], s1, k1) = (⟨sq, sh, ks⟩, [], er) from if_pos her)
  have hss := Lib.hid (hno.out her)
  have cSN := Lib.hid (cSn.out her)
  clear her
  refine mixs_beginC 0 (by kernel_rfl) hS rfl ?_
  clear hS
  intro w4 hS hC
  have kC := hC.kblk 0 rfl
  refine tk 0 ?_
  refine tk 1 ?_
  refine tk 2 ?_
  refine tk 3 ?_
  refine tk 5 ?_
  refine tk 6 ?_
  refine tk 8 ?_
  refine tk 9 ?_
  refine tk 10 ?_
  refine mixs_two 4 11 (by kernel_rfl) rfl rfl (fun K hK => ?_) (fun K hK => ?_)
  ·
   refine op_load_st (by kernel_rfl) 1 hS rfl rfl rfl (by simp [scalarB, go_sem]) rfl ?_
   try clear hC
   refine cl hK (fun hC => ?_)
   clear hK K
   refine mixs_two 7 11 (by kernel_rfl) rfl rfl (fun K hK => ?_) (fun K hK => ?_)
   ·
    go_simp
    (go_at_call 75; (with_reducible refine (cL.out _ (hD.out _ hS.fr)).mono ?_); rintro _ w3 ⟨a3, c3, gr3, L3, hk3, rfl, hK3, hk9⟩; have hS1 := St.rot (A := L3) (hS.made hk9); simp only [List.cons_append, List.nil_append] at hS1; clear hS hk9; replace hk3 := Lib.hid hk3; replace hK3 := Lib.hid hK3; have hS := hS1; clear hS1)
    try clear hC
    refine cl hK (fun hC => ?_)
    clear hK K
    refine mixs_one 11 (by kernel_rfl) rfl (fun K hK => ?_)
    (refine op_build1c_st (by kernel_rfl) hS rfl Tryz.underlying46 elem_i rfl ?_; clear hS; intro g7 w7 hS)
    try clear hC
    refine cl hK (fun hC => ?_)
    clear hK K
    refine mixs_one 12 (by kernel_rfl) rfl (fun K hK => ?_)
    go_simp
    (go_at_call 74; have q1 := hS.preM (A := [_, _]) (B := [bkB g sq gs ga grs.length gc]) (R := shA gs gm s1 da1 dc1 ++ L3); have q2 := fun W (k : Fr [g] _ W) => (hS.offM (A := [_, _]) (B := [bkB g sq gs ga grs.length gc]) (R := shA gs gm s1 da1 dc1 ++ L3) k).blksl2 (xs := [i].map vi) 0 rfl; (with_reducible refine (cSN.out _ _ _ _ _ _ q1 q2).mono ?_); clear q1 q2; rintro _ w8 ⟨rfl, hk9⟩; have hS1 := hS.callM (A := [_, _]) (B := [bkB g sq gs ga grs.length gc]) (R := shA gs gm s1 da1 dc1 ++ L3) hk9; clear hS hk9; have hS := hS1; clear hS1)
    try clear hC
    refine cl hK (fun hC => ?_)
    clear hK K
    refine tk 13 ?_
    refine tk 14 ?_
    refine tk 15 ?_
    refine tk 16 ?_
    refine wpAnyH_done (by kernel_rfl) ?_ _
    clear kC
    go_wp2_with fail
    go_ret2
    rw [hfin.out]
    have h1 := St.fore (A := bkA g gs gm ⟨sq, s1, ks⟩ ga grs.length gc da1 dc1) (R := L3) hS.drop.drop
    rw [hss.out] at h1
    exact ⟨ga, gc, grs, da1, dc1, none, 0, [], hG.out, rfl, St.rot (A := [_]) (B := bkA g gs gm ⟨sq, sh, ks⟩ ga grs.length gc da1 dc1) (h1.nilrow 48 2), fun _ _ _ _ _ _ h => h⟩
   ·
    (refine op_build1c_st (by kernel_rfl) hS rfl Tryz.underlying46 elem_i rfl ?_; clear hS; intro g7 w7 hS)
    try clear hC
    refine cl hK (fun hC => ?_)
    clear hK K
    refine mixs_one 7 (by kernel_rfl) rfl (fun K hK => ?_)
    go_simp
    (go_at_call 75; (with_reducible refine (cL.out _ (hD.out _ hS.fr)).mono ?_); rintro _ w3 ⟨a3, c3, gr3, L3, hk3, rfl, hK3, hk9⟩; have hS1 := St.rot (A := L3) (hS.made hk9); simp only [List.cons_append, List.nil_append] at hS1; clear hS hk9; replace hk3 := Lib.hid hk3; replace hK3 := Lib.hid hK3; have hS := hS1; clear hS1)
    try clear hC
    refine cl hK (fun hC => ?_)
    clear hK K
    refine mixs_one 12 (by kernel_rfl) rfl (fun K hK => ?_)
    go_simp
    (go_at_call 74; have q1 := hS.preM (A := [_, _]) (B := [bkB g sq gs ga grs.length gc]) (R := shA gs gm s1 da1 dc1 ++ L3); have q2 := fun W (k : Fr [g] _ W) => (hS.offM (A := [_, _]) (B := [bkB g sq gs ga grs.length gc]) (R := shA gs gm s1 da1 dc1 ++ L3) k).blksl2 (xs := [i].map vi) 0 rfl; (with_reducible refine (cSN.out _ _ _ _ _ _ q1 q2).mono ?_); clear q1 q2; rintro _ w8 ⟨rfl, hk9⟩; have hS1 := hS.callM (A := [_, _]) (B := [bkB g sq gs ga grs.length gc]) (R := shA gs gm s1 da1 dc1 ++ L3) hk9; clear hS hk9; have hS := hS1; clear hS1)
    try clear hC
    refine cl hK (fun hC => ?_)
    clear hK K
    refine tk 13 ?_
    refine tk 14 ?_
    refine tk 15 ?_
    refine tk 16 ?_
    refine wpAnyH_done (by kernel_rfl) ?_ _
    clear kC
    go_wp2_with fail
    go_ret2
    rw [hfin.out]
    have h1 := St.fore (A := bkA g gs gm ⟨sq, s1, ks⟩ ga grs.length gc da1 dc1) (R := L3) hS.drop.drop
    rw [hss.out] at h1
    exact ⟨ga, gc, grs, da1, dc1, none, 0, [], hG.out, rfl, St.rot (A := [_]) (B := bkA g gs gm ⟨sq, sh, ks⟩ ga grs.length gc da1 dc1) (h1.nilrow 48 2), fun _ _ _ _ _ _ h => h⟩
  ·
   (refine op_build1c_st (by kernel_rfl) hS rfl Tryz.underlying46 elem_i rfl ?_; clear hS; intro g7 w7 hS)
   try clear hC
   refine cl hK (fun hC => ?_)
   clear hK K
   refine mixs_one 4 (by kernel_rfl) rfl (fun K hK => ?_)
   refine op_load_st (by kernel_rfl) 2 hS rfl rfl rfl (by simp [scalarB, go_sem]) rfl ?_
   try clear hC
   refine cl hK (fun hC => ?_)
   clear hK K
   refine mixs_one 7 (by kernel_rfl) rfl (fun K hK => ?_)
   go_simp
   (go_at_call 75; (with_reducible refine (cL.out _ (hD.out _ hS.fr)).mono ?_); rintro _ w3 ⟨a3, c3, gr3, L3, hk3, rfl, hK3, hk9⟩; have hS1 := St.rot (A := L3) (hS.made hk9); simp only [List.cons_append, List.nil_append] at hS1; clear hS hk9; replace hk3 := Lib.hid hk3; replace hK3 := Lib.hid hK3; have hS := hS1; clear hS1)
   try clear hC
   refine cl hK (fun hC => ?_)
   clear hK K
   refine mixs_one 12 (by kernel_rfl) rfl (fun K hK => ?_)
   go_simp
   (go_at_call 74; have q1 := hS.preM (A := [_, _]) (B := [bkB g sq gs ga grs.length gc]) (R := shA gs gm s1 da1 dc1 ++ L3); have q2 := fun W (k : Fr [g] _ W) => (hS.offM (A := [_, _]) (B := [bkB g sq gs ga grs.length gc]) (R := shA gs gm s1 da1 dc1 ++ L3) k).blksl2 (xs := [i].map vi) 0 rfl; (with_reducible refine (cSN.out _ _ _ _ _ _ q1 q2).mono ?_); clear q1 q2; rintro _ w8 ⟨rfl, hk9⟩; have hS1 := hS.callM (A := [_, _]) (B := [bkB g sq gs ga grs.length gc]) (R := shA gs gm s1 da1 dc1 ++ L3) hk9; clear hS hk9; have hS := hS1; clear hS1)
   try clear hC
   refine cl hK (fun hC => ?_)
   clear hK K
   refine tk 13 ?_
   refine tk 14 ?_
   refine tk 15 ?_
   refine tk 16 ?_
   refine wpAnyH_done (by kernel_rfl) ?_ _
   clear kC
   go_wp2_with fail
   go_ret2
   rw [hfin.out]
   have h1 := St.fore (A := bkA g gs gm ⟨sq, s1, ks⟩ ga grs.length gc da1 dc1) (R := L3) hS.drop.drop
   rw [hss.out] at h1
   exact ⟨ga, gc, grs, da1, dc1, none, 0, [], hG.out, rfl, St.rot (A := [_]) (B := bkA g gs gm ⟨sq, sh, ks⟩ ga grs.length gc da1 dc1) (h1.nilrow 48 2), fun _ _ _ _ _ _ h => h⟩
 subst her
 refine mixs_beginC 0 (by kernel_rfl) hS rfl ?_
 clear hS
 intro w4 hS hC
 have kC := hC.kblk 0 rfl
 refine tk 0 ?_
 refine tk 1 ?_
 refine tk 2 ?_
 refine tk 3 ?_
 refine tk 5 ?_
 refine tk 6 ?_
 refine tk 8 ?_
 refine tk 9 ?_
 refine tk 10 ?_
 refine mixs_two 4 11 (by kernel_rfl) rfl rfl (fun K hK => ?_) (fun K hK => ?_)
 ·
  refine op_load_st (by kernel_rfl) 1 hS rfl rfl rfl (by simp [scalarB, go_sem]) rfl ?_
  try clear hC
  refine cl hK (fun hC => ?_)
  clear hK K
  refine mixs_two 7 11 (by kernel_rfl) rfl rfl (fun K hK => ?_) (fun K hK => ?_)
  ·
   go_simp
   (go_at_call 75; (with_reducible refine (cL.out _ (hD.out _ hS.fr)).mono ?_); rintro _ w3 ⟨a3, c3, gr3, L3, hk3, rfl, hK3, hk9⟩; have hS1 := St.rot (A := L3) (hS.made hk9); simp only [List.cons_append, List.nil_append] at hS1; clear hS hk9; replace hk3 := Lib.hid hk3; replace hK3 := Lib.hid hK3; have hS := hS1; clear hS1)
   try clear hC
   refine cl hK (fun hC => ?_)
   clear hK K
   refine mixs_one 11 (by kernel_rfl) rfl (fun K hK => ?_)
   (refine op_build1c_st (by kernel_rfl) hS rfl Tryz.underlying46 elem_i rfl ?_; clear hS; intro g7 w7 hS)
   try clear hC
   refine cl hK (fun hC => ?_)
   clear hK K
   refine mixs_one 12 (by kernel_rfl) rfl (fun K hK => ?_)
   go_simp
   (go_at_call 74; have q1 := hS.preM (A := [_, _]) (B := [bkB g sq gs ga grs.length gc]) (R := shA gs gm s1 da1 dc1 ++ L3); have q2 := fun W (k : Fr [g] _ W) => (hS.offM (A := [_, _]) (B := [bkB g sq gs ga grs.length gc]) (R := shA gs gm s1 da1 dc1 ++ L3) k).blksl2 (xs := [i].map vi) 0 rfl; (with_reducible refine (cSp.out _ _ _ _ _ _ q1 q2).mono ?_); clear q1 q2; rintro _ w8 ⟨a8, c8, rfl, hk9⟩; have hS1 := hS.callM (A := [_, _]) (B := [bkB g sq gs ga grs.length gc]) (R := shA gs gm s1 da1 dc1 ++ L3) hk9; clear hS hk9; have hS := hS1; clear hS1)
   try clear hC
   refine cl hK (fun hC => ?_)
   clear hK K
   refine tk 13 ?_
   refine tk 14 ?_
   refine tk 15 ?_
   refine tk 16 ?_
   refine wpAnyH_done (by kernel_rfl) ?_ _
   clear kC
   go_wp2_with fail
   go_ret2
   exact ⟨a3, c3, gr3, da1, dc1, a8, c8, L3, hk3.out, rfl, St.mid (A := [_]) (B := [_]) (C := shA gs gm s1 da1 dc1) (R := L3) hS.drop.drop, fun w0 F0 A B W hW h => hK3.out w0 F0 A B W hW h.mem⟩
  ·
   (refine op_build1c_st (by kernel_rfl) hS rfl Tryz.underlying46 elem_i rfl ?_; clear hS; intro g7 w7 hS)
   try clear hC
   refine cl hK (fun hC => ?_)
   clear hK K
   refine mixs_one 7 (by kernel_rfl) rfl (fun K hK => ?_)
   go_simp
   (go_at_call 75; (with_reducible refine (cL.out _ (hD.out _ hS.fr)).mono ?_); rintro _ w3 ⟨a3, c3, gr3, L3, hk3, rfl, hK3, hk9⟩; have hS1 := St.rot (A := L3) (hS.made hk9); simp only [List.cons_append, List.nil_append] at hS1; clear hS hk9; replace hk3 := Lib.hid hk3; replace hK3 := Lib.hid hK3; have hS := hS1; clear hS1)
   try clear hC
   refine cl hK (fun hC => ?_)
   clear hK K
   refine mixs_one 12 (by kernel_rfl) rfl (fun K hK => ?_)
   go_simp
   (go_at_call 74; have q1 := hS.preM (A := [_, _]) (B := [bkB g sq gs ga grs.length gc]) (R := shA gs gm s1 da1 dc1 ++ L3); have q2 := fun W (k : Fr [g] _ W) => (hS.offM (A := [_, _]) (B := [bkB g sq gs ga grs.length gc]) (R := shA gs gm s1 da1 dc1 ++ L3) k).blksl2 (xs := [i].map vi) 0 rfl; (with_reducible refine (cSp.out _ _ _ _ _ _ q1 q2).mono ?_); clear q1 q2; rintro _ w8 ⟨a8, c8, rfl, hk9⟩; have hS1 := hS.callM (A := [_, _]) (B := [bkB g sq gs ga grs.length gc]) (R := shA gs gm s1 da1 dc1 ++ L3) hk9; clear hS hk9; have hS := hS1; clear hS1)
   try clear hC
   refine cl hK (fun hC => ?_)
   clear hK K
   refine tk 13 ?_
   refine tk 14 ?_
   refine tk 15 ?_
   refine tk 16 ?_
   refine wpAnyH_done (by kernel_rfl) ?_ _
   clear kC
   go_wp2_with fail
   go_ret2
   exact ⟨a3, c3, gr3, da1, dc1, a8, c8, L3, hk3.out, rfl, St.mid (A := [_]) (B := [_]) (C := shA gs gm s1 da1 dc1) (R := L3) hS.drop.drop, fun w0 F0 A B W hW h => hK3.out w0 F0 A B W hW h.mem⟩
 ·
  (refine op_build1c_st (by kernel_rfl) hS rfl Tryz.underlying46 elem_i rfl ?_; clear hS; intro g7 w7 hS)
  try clear hC
  refine cl hK (fun hC => ?_)
  clear hK K
  refine mixs_one 4 (by kernel_rfl) rfl (fun K hK => ?_)
  refine op_load_st (by kernel_rfl) 2 hS rfl rfl rfl (by simp [scalarB, go_sem]) rfl ?_
  try clear hC
  refine cl hK (fun hC => ?_)
  clear hK K
  refine mixs_one 7 (by kernel_rfl) rfl (fun K hK => ?_)
  go_simp
  (go_at_call 75; (with_reducible refine (cL.out _ (hD.out _ hS.fr)).mono ?_); rintro _ w3 ⟨a3, c3, gr3, L3, hk3, rfl, hK3, hk9⟩; have hS1 := St.rot (A := L3) (hS.made hk9); simp only [List.cons_append, List.nil_append] at hS1; clear hS hk9; replace hk3 := Lib.hid hk3; replace hK3 := Lib.hid hK3; have hS := hS1; clear hS1)
  try clear hC
  refine cl hK (fun hC => ?_)
  clear hK K
  refine mixs_one 12 (by kernel_rfl) rfl (fun K hK => ?_)
  go_simp
  (go_at_call 74; have q1 := hS.preM (A := [_, _]) (B := [bkB g sq gs ga grs.length gc]) (R := shA gs gm s1 da1 dc1 ++ L3); have q2 := fun W (k : Fr [g] _ W) => (hS.offM (A := [_, _]) (B := [bkB g sq gs ga grs.length gc]) (R := shA gs gm s1 da1 dc1 ++ L3) k).blksl2 (xs := [i].map vi) 0 rfl; (with_reducible refine (cSp.out _ _ _ _ _ _ q1 q2).mono ?_); clear q1 q2; rintro _ w8 ⟨a8, c8, rfl, hk9⟩; have hS1 := hS.callM (A := [_, _]) (B := [bkB g sq gs ga grs.length gc]) (R := shA gs gm s1 da1 dc1 ++ L3) hk9; clear hS hk9; have hS := hS1; clear hS1)
  try clear hC
  refine cl hK (fun hC => ?_)
  clear hK K
  refine tk 13 ?_
  refine tk 14 ?_
  refine tk 15 ?_
  refine tk 16 ?_
  refine wpAnyH_done (by kernel_rfl) ?_ _
  clear kC
  go_wp2_with fail
  go_ret2
  exact ⟨a3, c3, gr3, da1, dc1, a8, c8, L3, hk3.out, rfl, St.mid (A := [_]) (B := [_]) (C := shA gs gm s1 da1 dc1) (R := L3) hS.drop.drop, fun w0 F0 A B W hW h => hK3.out w0 F0 A B W hW h.mem⟩
end Go.Proofs.YtneolmnpebiifaaGreatDoor
end
section
namespace Go.Proofs.YtneolmnpebiifaaGreatDoor
open Go.RowKit Go.Ofp
set_option maxHeartbeats 4000000
theorem bquit_any (m g gs gm : Nat) (b : BkS) (grs : List Gr) (ga : Option Addr) (gc : Nat) (da : Option Addr) (dc : Nat) (e : Ed) (he : EdIn e) (w : World) (hA : St w (feet (bkA g gs gm b ga grs.length gc da dc)) (bkA g gs gm b ga grs.length gc da dc) w) (hok : BkOk m b) (hm : m ≤ 2000) (hG : keys grs = b.ks) (hD : ∀ W, Fr (feet (bkA g gs gm b ga grs.length gc da dc)) w W → Deep W ga grs.length gc grs) :
 Calls Tryz.prog 45 #[.pointer (some ⟨g, 0, none⟩), .agg (edRow e).toArray] w (BkOut g gs gm grs ga gc (b.fin ((quitK b.ks e.group e.id).1, [e.id], b.sh, (quitK b.ks e.group e.id).2)) w (feet (bkA g gs gm b ga grs.length gc da dc))) := by
 have hS := hA
 have hsq := hok.seq
 have hkk : OkK (keys grs) := by rw [hG]; exact hok.ks.ok hm
 have cL := fun W h => quit_k ga grs grs.length gc e.group e.id W h (by have := hkk.nn; omega) hkk.mm hkk.up hkk.um
 have hpl := ptRow_len e.p he.p.len
 obtain ⟨kd, i, gn, p⟩ := e
 have e0 : edRow ⟨kd, i, gn, p⟩ = .int .i64 kd :: .int .i64 i :: .int .i64 gn :: ptRow p := rfl
 rw [e0]
 simp only at cL hpl ⊢
 rw [hG] at cL
 clear e0 he hok hA hkk hm
 generalize feet (bkA g gs gm b ga grs.length gc da dc) = F at *
 obtain ⟨sq, sh, ks⟩ := b
 simp only at *
 generalize ptRow p = PR at *
 generalize quitK ks gn i = QK at *
 obtain ⟨er, k1⟩ := QK
 simp only at *
 replace cL := Lib.hid cL
 replace hG := Lib.hid hG
 replace hD := Lib.hid hD
 have cSn := Lib.hid fun (her : er ≠ 0) W la ln lc ta tc h1 h2 => bregroup_no g gs sq ga grs.length gc la ln lc er her ta 1 tc [i] W h1 h2 rfl (by omega) hsq
 have cSp := Lib.hid fun W la ln lc ta tc h1 h2 => bregroup_ok g gs sq ga grs.length gc la ln lc ta 1 tc [i] W h1 h2 rfl (by omega) hsq
 go_enter Tryz.func45, Tryz.ntmps45
 go_wp2_with ((with_reducible refine wpList_box_st (L := bkB g sq gs ga grs.length gc :: shA gs gm sh da dc) hS rfl rfl rfl ?_; clear hS; intro gb w1 hS))
 refine mixs_beginC2 (by kernel_rfl) hS ?_
 clear hS
 intro w2 hS hC
 have kb := hC.kblk 0 rfl
 have kg := hC.kblk 1 rfl
 refine tk 0 ?_
 refine tk 1 ?_
 refine tk 2 ?_
 refine tk 3 ?_
 refine tk 4 ?_
 refine tk 5 ?_
 refine tk 6 ?_
 refine tk 7 ?_
 refine mixs_one 8 (by kernel_rfl) rfl (fun K hK => ?_)
 go_simp
 (go_at_call 80; (with_reducible refine (cL.out _ (hD.out _ hS.fr)).mono ?_); rintro _ w3 ⟨a3, c3, gr3, L3, hk3, rfl, hK3, hk9⟩; have hS1 := St.rot (A := L3) (hS.made hk9); simp only [List.cons_append, List.nil_append] at hS1; clear hS hk9; replace hk3 := Lib.hid hk3; replace hK3 := Lib.hid hK3; have hS := hS1; clear hS1)
 try clear hC
 refine cl hK (fun hC => ?_)
 clear hK K
 refine tk 9 ?_
 refine tk 10 ?_
 refine tk 11 ?_
 refine tk 12 ?_
 refine tk 13 ?_
 refine wpAnyH_done (by kernel_rfl) ?_ _
 clear kb kg
 by_cases her : er = 0
 case neg =>
  have hfin := Lib.hid (show BkS.fin ⟨sq, sh, ks⟩ (er, [i], sh, k1) = (⟨sq, sh, ks⟩, [], er) from if_pos her)
  have cSN := Lib.hid (cSn.out her)
  clear her
  go_wp2_with (first | ((with_reducible refine wpList_build1c_st hS rfl rfl Tryz.underlying46 elem_i rfl ?_); clear hS; intro g7 w7 hS) | (go_at_call 74; have q1 := hS.preM (A := [_, _]) (B := [bkB g sq gs ga grs.length gc]) (R := shA gs gm sh da dc ++ L3); have q2 := fun W (k : Fr [g] _ W) => (hS.offM (A := [_, _]) (B := [bkB g sq gs ga grs.length gc]) (R := shA gs gm sh da dc ++ L3) k).blksl2 (xs := [i].map vi) 0 rfl; (with_reducible refine (cSN.out _ _ _ _ _ _ q1 q2).mono ?_); clear q1 q2; rintro _ w8 ⟨rfl, hk9⟩; have hS1 := hS.callM (A := [_, _]) (B := [bkB g sq gs ga grs.length gc]) (R := shA gs gm sh da dc ++ L3) hk9; clear hS hk9; have hS := hS1; clear hS1) | (with_reducible refine ld 0 hS rfl rfl rfl rfl rfl ?_))
  go_ret2
  rw [hfin.out]
  have h1 := St.fore (A := bkA g gs gm ⟨sq, sh, ks⟩ ga grs.length gc da dc) (R := L3) hS.drop.drop
  exact ⟨ga, gc, grs, da, dc, none, 0, [], hG.out, rfl, St.rot (A := [_]) (B := bkA g gs gm ⟨sq, sh, ks⟩ ga grs.length gc da dc) (h1.nilrow 48 2), fun _ _ _ _ _ _ h => h⟩
 subst her
 go_wp2_with (first | ((with_reducible refine wpList_build1c_st hS rfl rfl Tryz.underlying46 elem_i rfl ?_); clear hS; intro g7 w7 hS) | (go_at_call 74; have q1 := hS.preM (A := [_, _]) (B := [bkB g sq gs ga grs.length gc]) (R := shA gs gm sh da dc ++ L3); have q2 := fun W (k : Fr [g] _ W) => (hS.offM (A := [_, _]) (B := [bkB g sq gs ga grs.length gc]) (R := shA gs gm sh da dc ++ L3) k).blksl2 (xs := [i].map vi) 0 rfl; (with_reducible refine (cSp.out _ _ _ _ _ _ q1 q2).mono ?_); clear q1 q2; rintro _ w8 ⟨a8, c8, rfl, hk9⟩; have hS1 := hS.callM (A := [_, _]) (B := [bkB g sq gs ga grs.length gc]) (R := shA gs gm sh da dc ++ L3) hk9; clear hS hk9; have hS := hS1; clear hS1) | (with_reducible refine ld 0 hS rfl rfl rfl rfl rfl ?_))
 go_ret2
 exact ⟨a3, c3, gr3, da, dc, a8, c8, L3, hk3.out, rfl, St.mid (A := [_]) (B := [_]) (C := shA gs gm sh da dc) (R := L3) hS.drop.drop, fun w0 F0 A B W hW h => hK3.out w0 F0 A B W hW h.mem⟩
end Go.Proofs.YtneolmnpebiifaaGreatDoor
end
section
namespace Go.Proofs.YtneolmnpebiifaaGreatDoor
open Go.RowKit Go.Ofp
set_option maxHeartbeats 4000000
theorem bopen_any (m g gs gm : Nat) (b : BkS) (grs : List Gr) (ga : Option Addr) (gc : Nat) (da : Option Addr) (dc : Nat) (e : Ed) (he : EdIn e) (w : World) (hA : St w (feet (bkA g gs gm b ga grs.length gc da dc)) (bkA g gs gm b ga grs.length gc da dc) w) (hok : BkOk m b) (hm : m ≤ 2000) (hG : keys grs = b.ks) (hD : ∀ W, Fr (feet (bkA g gs gm b ga grs.length gc da dc)) w W → Deep W ga grs.length gc grs) :
 Calls Tryz.prog 42 #[.pointer (some ⟨g, 0, none⟩), .agg (edRow e).toArray] w (BkOut g gs gm grs ga gc (b.fin ((openK b.ks e.group).1, [0], b.sh, (openK b.ks e.group).2)) w (feet (bkA g gs gm b ga grs.length gc da dc))) := by
 have hS := hA
 have hsq := hok.seq
 have hkk : OkK (keys grs) := by rw [hG]; exact hok.ks.ok hm
 have cL := fun W h => open_k ga grs grs.length gc e.group W h (by have := hkk.nn; omega) hkk.mm hkk.up
 have hpl := ptRow_len e.p he.p.len
 obtain ⟨kd, i, gn, p⟩ := e
 have e0 : edRow ⟨kd, i, gn, p⟩ = .int .i64 kd :: .int .i64 i :: .int .i64 gn :: ptRow p := rfl
 rw [e0]
 simp only at cL hpl ⊢
 rw [hG] at cL
 clear e0 he hok hA hkk hm
 generalize feet (bkA g gs gm b ga grs.length gc da dc) = F at *
 obtain ⟨sq, sh, ks⟩ := b
 simp only at *
 generalize ptRow p = PR at *
 generalize openK ks gn = QK at *
 obtain ⟨er, k1⟩ := QK
 simp only at *
 replace cL := Lib.hid cL
 replace hG := Lib.hid hG
 replace hD := Lib.hid hD
 have cSn := Lib.hid fun (her : er ≠ 0) W la ln lc ta tc h1 h2 => bregroup_no g gs sq ga grs.length gc la ln lc er her ta 1 tc [0] W h1 h2 rfl (by omega) hsq
 have cSp := Lib.hid fun W la ln lc ta tc h1 h2 => bregroup_ok g gs sq ga grs.length gc la ln lc ta 1 tc [0] W h1 h2 rfl (by omega) hsq
 go_enter Tryz.func42, Tryz.ntmps42
 go_wp2_with ((with_reducible refine wpList_box_st (L := bkB g sq gs ga grs.length gc :: shA gs gm sh da dc) hS rfl rfl rfl ?_; clear hS; intro gb w1 hS))
 refine mixs_beginC2 (by kernel_rfl) hS ?_
 clear hS
 intro w2 hS hC
 have kb := hC.kblk 0 rfl
 have kg := hC.kblk 1 rfl
 refine tk 0 ?_
 refine tk 1 ?_
 refine tk 2 ?_
 refine tk 3 ?_
 refine tk 4 ?_
 refine tk 5 ?_
 refine mixs_one 6 (by kernel_rfl) rfl (fun K hK => ?_)
 go_simp
 (go_at_call 76; (with_reducible refine (cL.out _ (hD.out _ hS.fr)).mono ?_); rintro _ w3 ⟨a3, c3, gr3, L3, hk3, rfl, hK3, hk9⟩; have hS1 := St.rot (A := L3) (hS.made hk9); simp only [List.cons_append, List.nil_append] at hS1; clear hS hk9; replace hk3 := Lib.hid hk3; replace hK3 := Lib.hid hK3; have hS := hS1; clear hS1)
 try clear hC
 refine cl hK (fun hC => ?_)
 clear hK K
 refine tk 7 ?_
 refine tk 8 ?_
 refine tk 9 ?_
 refine tk 10 ?_
 refine tk 11 ?_
 refine wpAnyH_done (by kernel_rfl) ?_ _
 clear kb kg
 by_cases her : er = 0
 case neg =>
  have hfin := Lib.hid (show BkS.fin ⟨sq, sh, ks⟩ (er, [0], sh, k1) = (⟨sq, sh, ks⟩, [], er) from if_pos her)
  have cSN := Lib.hid (cSn.out her)
  clear her
  go_wp2_with (first | ((with_reducible refine wpList_build1c_st hS rfl rfl Tryz.underlying46 elem_i rfl ?_); clear hS; intro g7 w7 hS) | (go_at_call 74; have q1 := hS.preM (A := [_, _]) (B := [bkB g sq gs ga grs.length gc]) (R := shA gs gm sh da dc ++ L3); have q2 := fun W (k : Fr [g] _ W) => (hS.offM (A := [_, _]) (B := [bkB g sq gs ga grs.length gc]) (R := shA gs gm sh da dc ++ L3) k).blksl2 (xs := [0].map vi) 0 rfl; (with_reducible refine (cSN.out _ _ _ _ _ _ q1 q2).mono ?_); clear q1 q2; rintro _ w8 ⟨rfl, hk9⟩; have hS1 := hS.callM (A := [_, _]) (B := [bkB g sq gs ga grs.length gc]) (R := shA gs gm sh da dc ++ L3) hk9; clear hS hk9; have hS := hS1; clear hS1))
  go_ret2
  rw [hfin.out]
  have h1 := St.fore (A := bkA g gs gm ⟨sq, sh, ks⟩ ga grs.length gc da dc) (R := L3) hS.drop.drop
  exact ⟨ga, gc, grs, da, dc, none, 0, [], hG.out, rfl, St.rot (A := [_]) (B := bkA g gs gm ⟨sq, sh, ks⟩ ga grs.length gc da dc) (h1.nilrow 48 2), fun _ _ _ _ _ _ h => h⟩
 subst her
 go_wp2_with (first | ((with_reducible refine wpList_build1c_st hS rfl rfl Tryz.underlying46 elem_i rfl ?_); clear hS; intro g7 w7 hS) | (go_at_call 74; have q1 := hS.preM (A := [_, _]) (B := [bkB g sq gs ga grs.length gc]) (R := shA gs gm sh da dc ++ L3); have q2 := fun W (k : Fr [g] _ W) => (hS.offM (A := [_, _]) (B := [bkB g sq gs ga grs.length gc]) (R := shA gs gm sh da dc ++ L3) k).blksl2 (xs := [0].map vi) 0 rfl; (with_reducible refine (cSp.out _ _ _ _ _ _ q1 q2).mono ?_); clear q1 q2; rintro _ w8 ⟨a8, c8, rfl, hk9⟩; have hS1 := hS.callM (A := [_, _]) (B := [bkB g sq gs ga grs.length gc]) (R := shA gs gm sh da dc ++ L3) hk9; clear hS hk9; have hS := hS1; clear hS1))
 go_ret2
 exact ⟨a3, c3, gr3, da, dc, a8, c8, L3, hk3.out, rfl, St.mid (A := [_]) (B := [_]) (C := shA gs gm sh da dc) (R := L3) hS.drop.drop, fun w0 F0 A B W hW h => hK3.out w0 F0 A B W hW h.mem⟩
end Go.Proofs.YtneolmnpebiifaaGreatDoor
end
