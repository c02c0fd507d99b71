import Derived.Test.YtneolmnpebiifaaGreatDoorM29
import Derived.Test.YtneolmnpebiifaaGreatDoorM32
set_option linter.unusedVariables false
set_option linter.unusedSimpArgs false
set_option maxRecDepth 100000
section
namespace Go.Proofs.YtneolmnpebiifaaGreatDoor
open Go.RowKit Go.Ofp
set_option maxHeartbeats 8000000
theorem elem_fns : Elem Tryz.prog 86 (.agg #[.nilFunc, .nilFunc, .nilFunc, .nilFunc, .nilFunc, .nilFunc, .nilFunc]) 7 56 := Elem.mk (by kernel_rfl) (by rfl) (by decide)
theorem build_fns (w : World) : (Instr.build 86 #[(0, .func (.func 39) #[] #[]), (1, .func (.func 40) #[] #[]), (2, .func (.func 41) #[] #[]), (3, .func (.func 42) #[] #[]), (4, .func (.func 43) #[] #[]), (5, .func (.func 44) #[] #[]), (6, .func (.func 45) #[] #[])]).run Tryz.prog w = .ok (.agg #[.func (.func 39) #[] #[], .func (.func 40) #[] #[], .func (.func 41) #[] #[], .func (.func 42) #[] #[], .func (.func 43) #[] #[], .func (.func 44) #[] #[], .func (.func 45) #[] #[]]) w := by kernel_rfl
theorem bkOutV_no {g gs gm : Nat} {b : BkS} {p : PV} {er : Int} {w w' : World} {F : List Nat} (hS : St w F (bkV g gs gm b p) w') : BkOutV g gs gm b p (b, [], er) w F (.returned (.tuple #[.slice none 0 0, .int .i64 er])) w' :=
 ⟨p, none, 0, [], rfl, St.rot (A := [_]) (B := bkV g gs gm b p) (hS.nilrow 48 2), Stp.same _ _⟩
theorem bdo_nil (e : Ed) (he : EdIn e) (w : World) : Calls Tryz.prog 11 #[.pointer none, .agg (edRow e).toArray] w fun r w' => r = .returned (.tuple #[.slice none 0 0, .int .i64 14]) ∧ Below w.heap.size w w' := by
 have hS := St.start w
 generalize edRow e = RE at *
 go_enter Tryz.func11, Tryz.ntmps11
 go_wp2_with ((with_reducible refine wpList_box_st hS rfl rfl rfl ?_; clear hS; intro g1 w1 hS))
 go_ret2
 exact ⟨rfl, hS.below⟩
theorem bdo1_any (m g gs gm : Nat) (b : BkS) (p : PV) (e : Ed) (he : EdIn e) (hk : e.kind = 1) (hc : e.check = 0) (hf : ¬ 1099511627676 < b.seq) (w : World) (hA : St w (feet (bkV g gs gm b p)) (bkV g gs gm b p) w) (hok : BkOk m b) (hm : m ≤ 2000) (hp : ∀ W, Fr (feet (bkV g gs gm b p)) w W → p.at b W) (htab : Tab w) (hT : 0 ∉ feet (bkV g gs gm b p)) :
 Calls Tryz.prog 11 #[.pointer (some ⟨g, 0, none⟩), .agg (edRow e).toArray] w (BkOutV g gs gm b p (b.fin (b.act e)) w (feet (bkV g gs gm b p))) := by
 have hS := hA
 have ef := elem_fns
 have hBf := build_fns
 have hG := (hp w (Fr.refl _ _)).ks
 have cC := fun W => echeck_any e he W
 rw [hc] at cC
 have cA := fun W h1 (hF : Fr (feet (bkV g gs gm b p)) w W) => (bcreate_any m g gs gm b p.grs p.ga p.gc p.da p.dc e he W h1 hok hG (htab.fr hF hT) hT)
 rw [act1 b e hk]
 have hel := edRow_len e he.p.len
 have hsz : sizeB Tryz.prog 44 (edRow e).toArray.size = true := by
  rw [List.size_toArray, hel]
  kernel_rfl
 have hrE : ((edRow e).toArray.toList.drop 0).take 29 = edRow e := by simp [← hel]
 have d1 : decide (1099511627676 < b.seq) = false := decide_eq_false hf
 obtain ⟨RE, hRE⟩ : ∃ RE, edRow e = .int .i64 1 :: RE := ⟨_, by rw [← hk]; rfl⟩
 rw [hRE] at cC cA hel hsz hrE ⊢
 obtain ⟨RR, hRR⟩ : ∃ RR, b.fin ((b.sh.add e.p).2.2, [(b.sh.add e.p).2.1.id], (b.sh.add e.p).1, b.ks) = RR := ⟨_, rfl⟩
 rw [hRR] at cA ⊢
 clear hRR he hk hc hf hA hok hp htab hT hG hm hRE
 obtain ⟨F, hF⟩ : ∃ F, F = feet (bkV g gs gm b p) := ⟨_, rfl⟩
 replace cA := fun W h1 (h2 : Fr F w W) => cA W h1 (hF ▸ h2)
 rw [← hF] at hS ⊢
 clear hF
 replace cC := Lib.hid cC
 replace cA := Lib.hid cA
 go_enter Tryz.func11, Tryz.ntmps11
 go_wp2_with (first | (go_at_call 38; (with_reducible refine (cC.out _).mono ?_); rintro _ w3 ⟨rfl, hk9⟩; replace hS := hS.keepB hk9; clear hk9) | ((with_reducible refine wpList_loadall_st 0 hS rfl rfl rfl rfl ?_ hsz ?_); focus (simp [rowB, go_sem]; done)) | (with_reducible refine wpList_box_st hS rfl rfl rfl ?_; clear hS; intro g1 w1 hS) | (with_reducible refine al hS rfl rfl ?_; clear hS; intro g1 w1 hS) | (with_reducible refine stor 0 hS rfl rfl rfl rfl rfl rfl rfl rfl ?_; clear hS; intro w1 hS) | (with_reducible refine ld 1 hS rfl rfl rfl rfl rfl ?_))
 refine mixs_beginC2 (by kernel_rfl) hS ?_
 clear hS
 intro w2 hS hC
 have hwk : IntKind.i64.wrap 0 = 0 := rfl
 have kf := hC.kblk 0 rfl
 have kb := hC.kblk 1 rfl
 have kr := hC.krow (P := Tryz.prog) (j := 0) 1 rfl (t := 44) (by kernel_rfl) (n := 29) (by kernel_rfl) hrE hel
 refine tk 0 ?_
 refine tk 1 ?_
 refine tk 2 ?_
 refine tk 3 ?_
 refine tk 4 ?_
 refine tk 5 ?_
 refine tkr 6 kr ?_
 refine mixs_one 7 (by kernel_rfl) rfl (fun K hK => ?_)
 go_simp
 (go_at_call 39; have q1 := hS.preM (A := [_, _]) (B := bkV g gs gm b p) (R := []); (with_reducible refine (cA.out _ q1 hS.fr).mono ?_); clear q1; rintro _ w3 hk8; obtain ⟨p', a8, c8, L8, rfl, hk9, hks⟩ := BkOut.v (p := p) (b := b) hk8; clear hk8; have hS1 := hS.callM (A := [_, _]) (B := bkV g gs gm b p) (R := []) hk9; rw [List.append_nil] at hS1; clear hS hk9; replace hks := Lib.hid hks; have hS := hS1; clear hS1)
 try clear hC
 refine cl hK (fun hC => ?_)
 clear hK K
 refine tk 8 ?_
 refine tk 9 ?_
 refine tk 10 ?_
 refine tk 11 ?_
 refine wpAnyH_done (by kernel_rfl) ?_ _
 all_goals
  clear kf kb kr hwk
  go_wp2_with fail
  go_ret2
  exact ⟨p', a8, c8, L8, rfl, hS.drop.drop, hks.out⟩
theorem bdo2_any (m g gs gm : Nat) (b : BkS) (p : PV) (e : Ed) (he : EdIn e) (hk : e.kind = 2) (hc : e.check = 0) (hf : ¬ 1099511627676 < b.seq) (w : World) (hA : St w (feet (bkV g gs gm b p)) (bkV g gs gm b p) w) (hok : BkOk m b) (hm : m ≤ 2000) (hp : ∀ W, Fr (feet (bkV g gs gm b p)) w W → p.at b W) (htab : Tab w) (hT : 0 ∉ feet (bkV g gs gm b p)) :
 Calls Tryz.prog 11 #[.pointer (some ⟨g, 0, none⟩), .agg (edRow e).toArray] w (BkOutV g gs gm b p (b.fin (b.act e)) w (feet (bkV g gs gm b p))) := by
 have hS := hA
 have ef := elem_fns
 have hBf := build_fns
 have hG := (hp w (Fr.refl _ _)).ks
 have cC := fun W => echeck_any e he W
 rw [hc] at cC
 have cA := fun W h1 (hF : Fr (feet (bkV g gs gm b p)) w W) => (bwrite_any m g gs gm b p.grs p.ga p.gc p.da p.dc e he W h1 hok hG (htab.fr hF hT) hT)
 rw [act2 b e hk]
 have hel := edRow_len e he.p.len
 have hsz : sizeB Tryz.prog 44 (edRow e).toArray.size = true := by
  rw [List.size_toArray, hel]
  kernel_rfl
 have hrE : ((edRow e).toArray.toList.drop 0).take 29 = edRow e := by simp [← hel]
 have d1 : decide (1099511627676 < b.seq) = false := decide_eq_false hf
 obtain ⟨RE, hRE⟩ : ∃ RE, edRow e = .int .i64 2 :: RE := ⟨_, by rw [← hk]; rfl⟩
 rw [hRE] at cC cA hel hsz hrE ⊢
 obtain ⟨RR, hRR⟩ : ∃ RR, b.fin ((b.sh.write e.id e.p).2.2, [e.id], (b.sh.write e.id e.p).1, b.ks) = RR := ⟨_, rfl⟩
 rw [hRR] at cA ⊢
 clear hRR he hk hc hf hA hok hp htab hT hG hm hRE
 obtain ⟨F, hF⟩ : ∃ F, F = feet (bkV g gs gm b p) := ⟨_, rfl⟩
 replace cA := fun W h1 (h2 : Fr F w W) => cA W h1 (hF ▸ h2)
 rw [← hF] at hS ⊢
 clear hF
 replace cC := Lib.hid cC
 replace cA := Lib.hid cA
 go_enter Tryz.func11, Tryz.ntmps11
 go_wp2_with (first | (go_at_call 38; (with_reducible refine (cC.out _).mono ?_); rintro _ w3 ⟨rfl, hk9⟩; replace hS := hS.keepB hk9; clear hk9) | ((with_reducible refine wpList_loadall_st 0 hS rfl rfl rfl rfl ?_ hsz ?_); focus (simp [rowB, go_sem]; done)) | (with_reducible refine wpList_box_st hS rfl rfl rfl ?_; clear hS; intro g1 w1 hS) | (with_reducible refine al hS rfl rfl ?_; clear hS; intro g1 w1 hS) | (with_reducible refine stor 0 hS rfl rfl rfl rfl rfl rfl rfl rfl ?_; clear hS; intro w1 hS) | (with_reducible refine ld 1 hS rfl rfl rfl rfl rfl ?_))
 refine mixs_beginC2 (by kernel_rfl) hS ?_
 clear hS
 intro w2 hS hC
 have hwk : IntKind.i64.wrap 1 = 1 := rfl
 have kf := hC.kblk 0 rfl
 have kb := hC.kblk 1 rfl
 have kr := hC.krow (P := Tryz.prog) (j := 0) 1 rfl (t := 44) (by kernel_rfl) (n := 29) (by kernel_rfl) hrE hel
 refine tk 0 ?_
 refine tk 1 ?_
 refine tk 2 ?_
 refine tk 3 ?_
 refine tk 4 ?_
 refine tk 5 ?_
 refine tkr 6 kr ?_
 refine mixs_one 7 (by kernel_rfl) rfl (fun K hK => ?_)
 go_simp
 (go_at_call 40; have q1 := hS.preM (A := [_, _]) (B := bkV g gs gm b p) (R := []); (with_reducible refine (cA.out _ q1 hS.fr).mono ?_); clear q1; rintro _ w3 hk8; obtain ⟨p', a8, c8, L8, rfl, hk9, hks⟩ := BkOut.v (p := p) (b := b) hk8; clear hk8; have hS1 := hS.callM (A := [_, _]) (B := bkV g gs gm b p) (R := []) hk9; rw [List.append_nil] at hS1; clear hS hk9; replace hks := Lib.hid hks; have hS := hS1; clear hS1)
 try clear hC
 refine cl hK (fun hC => ?_)
 clear hK K
 refine tk 8 ?_
 refine tk 9 ?_
 refine tk 10 ?_
 refine tk 11 ?_
 refine wpAnyH_done (by kernel_rfl) ?_ _
 all_goals
  clear kf kb kr hwk
  go_wp2_with fail
  go_ret2
  exact ⟨p', a8, c8, L8, rfl, hS.drop.drop, hks.out⟩
theorem bdo3_any (m g gs gm : Nat) (b : BkS) (p : PV) (e : Ed) (he : EdIn e) (hk : e.kind = 3) (hc : e.check = 0) (hf : ¬ 1099511627676 < b.seq) (w : World) (hA : St w (feet (bkV g gs gm b p)) (bkV g gs gm b p) w) (hok : BkOk m b) (hm : m ≤ 2000) (hp : ∀ W, Fr (feet (bkV g gs gm b p)) w W → p.at b W) (htab : Tab w) (hT : 0 ∉ feet (bkV g gs gm b p)) :
 Calls Tryz.prog 11 #[.pointer (some ⟨g, 0, none⟩), .agg (edRow e).toArray] w (BkOutV g gs gm b p (b.fin (b.act e)) w (feet (bkV g gs gm b p))) := by
 have hS := hA
 have ef := elem_fns
 have hBf := build_fns
 have hG := (hp w (Fr.refl _ _)).ks
 have cC := fun W => echeck_any e he W
 rw [hc] at cC
 have cA := fun W h1 (hF : Fr (feet (bkV g gs gm b p)) w W) => (bdrop_any m g gs gm b p.grs p.ga p.gc p.da p.dc e he W h1 hok hm hG (fun W1 h => (hp W1 (hF.trans h fun x hx => .inl hx)).deep))
 rw [act3 b e hk]
 have hel := edRow_len e he.p.len
 have hsz : sizeB Tryz.prog 44 (edRow e).toArray.size = true := by
  rw [List.size_toArray, hel]
  kernel_rfl
 have hrE : ((edRow e).toArray.toList.drop 0).take 29 = edRow e := by simp [← hel]
 have d1 : decide (1099511627676 < b.seq) = false := decide_eq_false hf
 obtain ⟨RE, hRE⟩ : ∃ RE, edRow e = .int .i64 3 :: RE := ⟨_, by rw [← hk]; rfl⟩
 rw [hRE] at cC cA hel hsz hrE ⊢
 obtain ⟨RR, hRR⟩ : ∃ RR, b.fin ((b.sh.drop e.id (b.seq + 1)).2, [e.id], (b.sh.drop e.id (b.seq + 1)).1, leaveK b.ks e.id) = RR := ⟨_, rfl⟩
 rw [hRR] at cA ⊢
 clear hRR he hk hc hf hA hok hp htab hT hG hm hRE
 obtain ⟨F, hF⟩ : ∃ F, F = feet (bkV g gs gm b p) := ⟨_, rfl⟩
 replace cA := fun W h1 (h2 : Fr F w W) => cA W h1 (hF ▸ h2)
 rw [← hF] at hS ⊢
 clear hF
 replace cC := Lib.hid cC
 replace cA := Lib.hid cA
 go_enter Tryz.func11, Tryz.ntmps11
 go_wp2_with (first | (go_at_call 38; (with_reducible refine (cC.out _).mono ?_); rintro _ w3 ⟨rfl, hk9⟩; replace hS := hS.keepB hk9; clear hk9) | ((with_reducible refine wpList_loadall_st 0 hS rfl rfl rfl rfl ?_ hsz ?_); focus (simp [rowB, go_sem]; done)) | (with_reducible refine wpList_box_st hS rfl rfl rfl ?_; clear hS; intro g1 w1 hS) | (with_reducible refine al hS rfl rfl ?_; clear hS; intro g1 w1 hS) | (with_reducible refine stor 0 hS rfl rfl rfl rfl rfl rfl rfl rfl ?_; clear hS; intro w1 hS) | (with_reducible refine ld 1 hS rfl rfl rfl rfl rfl ?_))
 refine mixs_beginC2 (by kernel_rfl) hS ?_
 clear hS
 intro w2 hS hC
 have hwk : IntKind.i64.wrap 2 = 2 := rfl
 have kf := hC.kblk 0 rfl
 have kb := hC.kblk 1 rfl
 have kr := hC.krow (P := Tryz.prog) (j := 0) 1 rfl (t := 44) (by kernel_rfl) (n := 29) (by kernel_rfl) hrE hel
 refine tk 0 ?_
 refine tk 1 ?_
 refine tk 2 ?_
 refine tk 3 ?_
 refine tk 4 ?_
 refine tk 5 ?_
 refine tkr 6 kr ?_
 refine mixs_one 7 (by kernel_rfl) rfl (fun K hK => ?_)
 go_simp
 (go_at_call 41; have q1 := hS.preM (A := [_, _]) (B := bkV g gs gm b p) (R := []); (with_reducible refine (cA.out _ q1 hS.fr).mono ?_); clear q1; rintro _ w3 hk8; obtain ⟨p', a8, c8, L8, rfl, hk9, hks⟩ := BkOut.v (p := p) (b := b) hk8; clear hk8; have hS1 := hS.callM (A := [_, _]) (B := bkV g gs gm b p) (R := []) hk9; rw [List.append_nil] at hS1; clear hS hk9; replace hks := Lib.hid hks; have hS := hS1; clear hS1)
 try clear hC
 refine cl hK (fun hC => ?_)
 clear hK K
 refine tk 8 ?_
 refine tk 9 ?_
 refine tk 10 ?_
 refine tk 11 ?_
 refine wpAnyH_done (by kernel_rfl) ?_ _
 all_goals
  clear kf kb kr hwk
  go_wp2_with fail
  go_ret2
  exact ⟨p', a8, c8, L8, rfl, hS.drop.drop, hks.out⟩
theorem bdo4_any (m g gs gm : Nat) (b : BkS) (p : PV) (e : Ed) (he : EdIn e) (hk : e.kind = 4) (hc : e.check = 0) (hf : ¬ 1099511627676 < b.seq) (w : World) (hA : St w (feet (bkV g gs gm b p)) (bkV g gs gm b p) w) (hok : BkOk m b) (hm : m ≤ 2000) (hp : ∀ W, Fr (feet (bkV g gs gm b p)) w W → p.at b W) (htab : Tab w) (hT : 0 ∉ feet (bkV g gs gm b p)) :
 Calls Tryz.prog 11 #[.pointer (some ⟨g, 0, none⟩), .agg (edRow e).toArray] w (BkOutV g gs gm b p (b.fin (b.act e)) w (feet (bkV g gs gm b p))) := by
 have hS := hA
 have ef := elem_fns
 have hBf := build_fns
 have hG := (hp w (Fr.refl _ _)).ks
 have cC := fun W => echeck_any e he W
 rw [hc] at cC
 have cA := fun W h1 (hF : Fr (feet (bkV g gs gm b p)) w W) => (bopen_any m g gs gm b p.grs p.ga p.gc p.da p.dc e he W h1 hok hm hG (fun W1 h => (hp W1 (hF.trans h fun x hx => .inl hx)).deep))
 rw [act4 b e hk]
 have hel := edRow_len e he.p.len
 have hsz : sizeB Tryz.prog 44 (edRow e).toArray.size = true := by
  rw [List.size_toArray, hel]
  kernel_rfl
 have hrE : ((edRow e).toArray.toList.drop 0).take 29 = edRow e := by simp [← hel]
 have d1 : decide (1099511627676 < b.seq) = false := decide_eq_false hf
 obtain ⟨RE, hRE⟩ : ∃ RE, edRow e = .int .i64 4 :: RE := ⟨_, by rw [← hk]; rfl⟩
 rw [hRE] at cC cA hel hsz hrE ⊢
 obtain ⟨RR, hRR⟩ : ∃ RR, b.fin ((openK b.ks e.group).1, [0], b.sh, (openK b.ks e.group).2) = RR := ⟨_, rfl⟩
 rw [hRR] at cA ⊢
 clear hRR he hk hc hf hA hok hp htab hT hG hm hRE
 obtain ⟨F, hF⟩ : ∃ F, F = feet (bkV g gs gm b p) := ⟨_, rfl⟩
 replace cA := fun W h1 (h2 : Fr F w W) => cA W h1 (hF ▸ h2)
 rw [← hF] at hS ⊢
 clear hF
 replace cC := Lib.hid cC
 replace cA := Lib.hid cA
 go_enter Tryz.func11, Tryz.ntmps11
 go_wp2_with (first | (go_at_call 38; (with_reducible refine (cC.out _).mono ?_); rintro _ w3 ⟨rfl, hk9⟩; replace hS := hS.keepB hk9; clear hk9) | ((with_reducible refine wpList_loadall_st 0 hS rfl rfl rfl rfl ?_ hsz ?_); focus (simp [rowB, go_sem]; done)) | (with_reducible refine wpList_box_st hS rfl rfl rfl ?_; clear hS; intro g1 w1 hS) | (with_reducible refine al hS rfl rfl ?_; clear hS; intro g1 w1 hS) | (with_reducible refine stor 0 hS rfl rfl rfl rfl rfl rfl rfl rfl ?_; clear hS; intro w1 hS) | (with_reducible refine ld 1 hS rfl rfl rfl rfl rfl ?_))
 refine mixs_beginC2 (by kernel_rfl) hS ?_
 clear hS
 intro w2 hS hC
 have hwk : IntKind.i64.wrap 3 = 3 := rfl
 have kf := hC.kblk 0 rfl
 have kb := hC.kblk 1 rfl
 have kr := hC.krow (P := Tryz.prog) (j := 0) 1 rfl (t := 44) (by kernel_rfl) (n := 29) (by kernel_rfl) hrE hel
 refine tk 0 ?_
 refine tk 1 ?_
 refine tk 2 ?_
 refine tk 3 ?_
 refine tk 4 ?_
 refine tk 5 ?_
 refine tkr 6 kr ?_
 refine mixs_one 7 (by kernel_rfl) rfl (fun K hK => ?_)
 go_simp
 (go_at_call 42; have q1 := hS.preM (A := [_, _]) (B := bkV g gs gm b p) (R := []); (with_reducible refine (cA.out _ q1 hS.fr).mono ?_); clear q1; rintro _ w3 hk8; obtain ⟨p', a8, c8, L8, rfl, hk9, hks⟩ := BkOut.v (p := p) (b := b) hk8; clear hk8; have hS1 := hS.callM (A := [_, _]) (B := bkV g gs gm b p) (R := []) hk9; rw [List.append_nil] at hS1; clear hS hk9; replace hks := Lib.hid hks; have hS := hS1; clear hS1)
 try clear hC
 refine cl hK (fun hC => ?_)
 clear hK K
 refine tk 8 ?_
 refine tk 9 ?_
 refine tk 10 ?_
 refine tk 11 ?_
 refine wpAnyH_done (by kernel_rfl) ?_ _
 all_goals
  clear kf kb kr hwk
  go_wp2_with fail
  go_ret2
  exact ⟨p', a8, c8, L8, rfl, hS.drop.drop, hks.out⟩
theorem bdo5_any (m g gs gm : Nat) (b : BkS) (p : PV) (e : Ed) (he : EdIn e) (hk : e.kind = 5) (hc : e.check = 0) (hf : ¬ 1099511627676 < b.seq) (w : World) (hA : St w (feet (bkV g gs gm b p)) (bkV g gs gm b p) w) (hok : BkOk m b) (hm : m ≤ 2000) (hp : ∀ W, Fr (feet (bkV g gs gm b p)) w W → p.at b W) (htab : Tab w) (hT : 0 ∉ feet (bkV g gs gm b p)) :
 Calls Tryz.prog 11 #[.pointer (some ⟨g, 0, none⟩), .agg (edRow e).toArray] w (BkOutV g gs gm b p (b.fin (b.act e)) w (feet (bkV g gs gm b p))) := by
 have hS := hA
 have ef := elem_fns
 have hBf := build_fns
 have hG := (hp w (Fr.refl _ _)).ks
 have cC := fun W => echeck_any e he W
 rw [hc] at cC
 have cA := fun W h1 (hF : Fr (feet (bkV g gs gm b p)) w W) => (bclose_any m g gs gm b p.grs p.ga p.gc p.da p.dc e he W h1 hok hm hG (fun W1 h => (hp W1 (hF.trans h fun x hx => .inl hx)).deep))
 rw [act5 b e hk]
 have hel := edRow_len e he.p.len
 have hsz : sizeB Tryz.prog 44 (edRow e).toArray.size = true := by
  rw [List.size_toArray, hel]
  kernel_rfl
 have hrE : ((edRow e).toArray.toList.drop 0).take 29 = edRow e := by simp [← hel]
 have d1 : decide (1099511627676 < b.seq) = false := decide_eq_false hf
 obtain ⟨RE, hRE⟩ : ∃ RE, edRow e = .int .i64 5 :: RE := ⟨_, by rw [← hk]; rfl⟩
 rw [hRE] at cC cA hel hsz hrE ⊢
 obtain ⟨RR, hRR⟩ : ∃ RR, b.fin ((closeK b.ks e.group).1, membersK b.ks e.group ++ [0], b.sh, (closeK b.ks e.group).2) = RR := ⟨_, rfl⟩
 rw [hRR] at cA ⊢
 clear hRR he hk hc hf hA hok hp htab hT hG hm hRE
 obtain ⟨F, hF⟩ : ∃ F, F = feet (bkV g gs gm b p) := ⟨_, rfl⟩
 replace cA := fun W h1 (h2 : Fr F w W) => cA W h1 (hF ▸ h2)
 rw [← hF] at hS ⊢
 clear hF
 replace cC := Lib.hid cC
 replace cA := Lib.hid cA
 go_enter Tryz.func11, Tryz.ntmps11
 go_wp2_with (first | (go_at_call 38; (with_reducible refine (cC.out _).mono ?_); rintro _ w3 ⟨rfl, hk9⟩; replace hS := hS.keepB hk9; clear hk9) | ((with_reducible refine wpList_loadall_st 0 hS rfl rfl rfl rfl ?_ hsz ?_); focus (simp [rowB, go_sem]; done)) | (with_reducible refine wpList_box_st hS rfl rfl rfl ?_; clear hS; intro g1 w1 hS) | (with_reducible refine al hS rfl rfl ?_; clear hS; intro g1 w1 hS) | (with_reducible refine stor 0 hS rfl rfl rfl rfl rfl rfl rfl rfl ?_; clear hS; intro w1 hS) | (with_reducible refine ld 1 hS rfl rfl rfl rfl rfl ?_))
 refine mixs_beginC2 (by kernel_rfl) hS ?_
 clear hS
 intro w2 hS hC
 have hwk : IntKind.i64.wrap 4 = 4 := rfl
 have kf := hC.kblk 0 rfl
 have kb := hC.kblk 1 rfl
 have kr := hC.krow (P := Tryz.prog) (j := 0) 1 rfl (t := 44) (by kernel_rfl) (n := 29) (by kernel_rfl) hrE hel
 refine tk 0 ?_
 refine tk 1 ?_
 refine tk 2 ?_
 refine tk 3 ?_
 refine tk 4 ?_
 refine tk 5 ?_
 refine tkr 6 kr ?_
 refine mixs_one 7 (by kernel_rfl) rfl (fun K hK => ?_)
 go_simp
 (go_at_call 43; have q1 := hS.preM (A := [_, _]) (B := bkV g gs gm b p) (R := []); (with_reducible refine (cA.out _ q1 hS.fr).mono ?_); clear q1; rintro _ w3 hk8; obtain ⟨p', a8, c8, L8, rfl, hk9, hks⟩ := BkOut.v (p := p) (b := b) hk8; clear hk8; have hS1 := hS.callM (A := [_, _]) (B := bkV g gs gm b p) (R := []) hk9; rw [List.append_nil] at hS1; clear hS hk9; replace hks := Lib.hid hks; have hS := hS1; clear hS1)
 try clear hC
 refine cl hK (fun hC => ?_)
 clear hK K
 refine tk 8 ?_
 refine tk 9 ?_
 refine tk 10 ?_
 refine tk 11 ?_
 refine wpAnyH_done (by kernel_rfl) ?_ _
 all_goals
  clear kf kb kr hwk
  go_wp2_with fail
  go_ret2
  exact ⟨p', a8, c8, L8, rfl, hS.drop.drop, hks.out⟩
theorem bdo6_any (m g gs gm : Nat) (b : BkS) (p : PV) (e : Ed) (he : EdIn e) (hk : e.kind = 6) (hc : e.check = 0) (hf : ¬ 1099511627676 < b.seq) (w : World) (hA : St w (feet (bkV g gs gm b p)) (bkV g gs gm b p) w) (hok : BkOk m b) (hm : m ≤ 2000) (hp : ∀ W, Fr (feet (bkV g gs gm b p)) w W → p.at b W) (htab : Tab w) (hT : 0 ∉ feet (bkV g gs gm b p)) :
 Calls Tryz.prog 11 #[.pointer (some ⟨g, 0, none⟩), .agg (edRow e).toArray] w (BkOutV g gs gm b p (b.fin (b.act e)) w (feet (bkV g gs gm b p))) := by
 have hS := hA
 have ef := elem_fns
 have hBf := build_fns
 have hG := (hp w (Fr.refl _ _)).ks
 have cC := fun W => echeck_any e he W
 rw [hc] at cC
 have cA := fun W h1 (hF : Fr (feet (bkV g gs gm b p)) w W) => (bjoin_any m g gs gm b p.grs p.ga p.gc p.da p.dc e he W h1 hok hm hG (fun W1 h => (hp W1 (hF.trans h fun x hx => .inl hx)).deep))
 rw [act6 b e hk]
 have hel := edRow_len e he.p.len
 have hsz : sizeB Tryz.prog 44 (edRow e).toArray.size = true := by
  rw [List.size_toArray, hel]
  kernel_rfl
 have hrE : ((edRow e).toArray.toList.drop 0).take 29 = edRow e := by simp [← hel]
 have d1 : decide (1099511627676 < b.seq) = false := decide_eq_false hf
 obtain ⟨RE, hRE⟩ : ∃ RE, edRow e = .int .i64 6 :: RE := ⟨_, by rw [← hk]; rfl⟩
 rw [hRE] at cC cA hel hsz hrE ⊢
 obtain ⟨RR, hRR⟩ : ∃ RR, b.fin (if (b.sh.get e.id).2 ≠ 0 then ((b.sh.get e.id).2, [], b.sh, b.ks) else ((joinK b.ks e.group e.id).1, [e.id], b.sh, (joinK b.ks e.group e.id).2)) = RR := ⟨_, rfl⟩
 rw [hRR] at cA ⊢
 clear hRR he hk hc hf hA hok hp htab hT hG hm hRE
 obtain ⟨F, hF⟩ : ∃ F, F = feet (bkV g gs gm b p) := ⟨_, rfl⟩
 replace cA := fun W h1 (h2 : Fr F w W) => cA W h1 (hF ▸ h2)
 rw [← hF] at hS ⊢
 clear hF
 replace cC := Lib.hid cC
 replace cA := Lib.hid cA
 go_enter Tryz.func11, Tryz.ntmps11
 go_wp2_with (first | (go_at_call 38; (with_reducible refine (cC.out _).mono ?_); rintro _ w3 ⟨rfl, hk9⟩; replace hS := hS.keepB hk9; clear hk9) | ((with_reducible refine wpList_loadall_st 0 hS rfl rfl rfl rfl ?_ hsz ?_); focus (simp [rowB, go_sem]; done)) | (with_reducible refine wpList_box_st hS rfl rfl rfl ?_; clear hS; intro g1 w1 hS) | (with_reducible refine al hS rfl rfl ?_; clear hS; intro g1 w1 hS) | (with_reducible refine stor 0 hS rfl rfl rfl rfl rfl rfl rfl rfl ?_; clear hS; intro w1 hS) | (with_reducible refine ld 1 hS rfl rfl rfl rfl rfl ?_))
 refine mixs_beginC2 (by kernel_rfl) hS ?_
 clear hS
 intro w2 hS hC
 have hwk : IntKind.i64.wrap 5 = 5 := rfl
 have kf := hC.kblk 0 rfl
 have kb := hC.kblk 1 rfl
 have kr := hC.krow (P := Tryz.prog) (j := 0) 1 rfl (t := 44) (by kernel_rfl) (n := 29) (by kernel_rfl) hrE hel
 refine tk 0 ?_
 refine tk 1 ?_
 refine tk 2 ?_
 refine tk 3 ?_
 refine tk 4 ?_
 refine tk 5 ?_
 refine tkr 6 kr ?_
 refine mixs_one 7 (by kernel_rfl) rfl (fun K hK => ?_)
 go_simp
 (go_at_call 44; have q1 := hS.preM (A := [_, _]) (B := bkV g gs gm b p) (R := []); (with_reducible refine (cA.out _ q1 hS.fr).mono ?_); clear q1; rintro _ w3 hk8; obtain ⟨p', a8, c8, L8, rfl, hk9, hks⟩ := BkOut.v (p := p) (b := b) hk8; clear hk8; have hS1 := hS.callM (A := [_, _]) (B := bkV g gs gm b p) (R := []) hk9; rw [List.append_nil] at hS1; clear hS hk9; replace hks := Lib.hid hks; have hS := hS1; clear hS1)
 try clear hC
 refine cl hK (fun hC => ?_)
 clear hK K
 refine tk 8 ?_
 refine tk 9 ?_
 refine tk 10 ?_
 refine tk 11 ?_
 refine wpAnyH_done (by kernel_rfl) ?_ _
 all_goals
  clear kf kb kr hwk
  go_wp2_with fail
  go_ret2
  exact ⟨p', a8, c8, L8, rfl, hS.drop.drop, hks.out⟩
theorem bdo7_any (m g gs gm : Nat) (b : BkS) (p : PV) (e : Ed) (he : EdIn e) (hk : e.kind = 7) (hc : e.check = 0) (hf : ¬ 1099511627676 < b.seq) (w : World) (hA : St w (feet (bkV g gs gm b p)) (bkV g gs gm b p) w) (hok : BkOk m b) (hm : m ≤ 2000) (hp : ∀ W, Fr (feet (bkV g gs gm b p)) w W → p.at b W) (htab : Tab w) (hT : 0 ∉ feet (bkV g gs gm b p)) :
 Calls Tryz.prog 11 #[.pointer (some ⟨g, 0, none⟩), .agg (edRow e).toArray] w (BkOutV g gs gm b p (b.fin (b.act e)) w (feet (bkV g gs gm b p))) := by
 have hS := hA
 have ef := elem_fns
 have hBf := build_fns
 have hG := (hp w (Fr.refl _ _)).ks
 have cC := fun W => echeck_any e he W
 rw [hc] at cC
 have cA := fun W h1 (hF : Fr (feet (bkV g gs gm b p)) w W) => (bquit_any m g gs gm b p.grs p.ga p.gc p.da p.dc e he W h1 hok hm hG (fun W1 h => (hp W1 (hF.trans h fun x hx => .inl hx)).deep))
 rw [act7 b e hk]
 have hel := edRow_len e he.p.len
 have hsz : sizeB Tryz.prog 44 (edRow e).toArray.size = true := by
  rw [List.size_toArray, hel]
  kernel_rfl
 have hrE : ((edRow e).toArray.toList.drop 0).take 29 = edRow e := by simp [← hel]
 have d1 : decide (1099511627676 < b.seq) = false := decide_eq_false hf
 obtain ⟨RE, hRE⟩ : ∃ RE, edRow e = .int .i64 7 :: RE := ⟨_, by rw [← hk]; rfl⟩
 rw [hRE] at cC cA hel hsz hrE ⊢
 obtain ⟨RR, hRR⟩ : ∃ RR, b.fin ((quitK b.ks e.group e.id).1, [e.id], b.sh, (quitK b.ks e.group e.id).2) = RR := ⟨_, rfl⟩
 rw [hRR] at cA ⊢
 clear hRR he hk hc hf hA hok hp htab hT hG hm hRE
 obtain ⟨F, hF⟩ : ∃ F, F = feet (bkV g gs gm b p) := ⟨_, rfl⟩
 replace cA := fun W h1 (h2 : Fr F w W) => cA W h1 (hF ▸ h2)
 rw [← hF] at hS ⊢
 clear hF
 replace cC := Lib.hid cC
 replace cA := Lib.hid cA
 go_enter Tryz.func11, Tryz.ntmps11
 go_wp2_with (first | (go_at_call 38; (with_reducible refine (cC.out _).mono ?_); rintro _ w3 ⟨rfl, hk9⟩; replace hS := hS.keepB hk9; clear hk9) | ((with_reducible refine wpList_loadall_st 0 hS rfl rfl rfl rfl ?_ hsz ?_); focus (simp [rowB, go_sem]; done)) | (with_reducible refine wpList_box_st hS rfl rfl rfl ?_; clear hS; intro g1 w1 hS) | (with_reducible refine al hS rfl rfl ?_; clear hS; intro g1 w1 hS) | (with_reducible refine stor 0 hS rfl rfl rfl rfl rfl rfl rfl rfl ?_; clear hS; intro w1 hS) | (with_reducible refine ld 1 hS rfl rfl rfl rfl rfl ?_))
 refine mixs_beginC2 (by kernel_rfl) hS ?_
 clear hS
 intro w2 hS hC
 have hwk : IntKind.i64.wrap 6 = 6 := rfl
 have kf := hC.kblk 0 rfl
 have kb := hC.kblk 1 rfl
 have kr := hC.krow (P := Tryz.prog) (j := 0) 1 rfl (t := 44) (by kernel_rfl) (n := 29) (by kernel_rfl) hrE hel
 refine tk 0 ?_
 refine tk 1 ?_
 refine tk 2 ?_
 refine tk 3 ?_
 refine tk 4 ?_
 refine tk 5 ?_
 refine tkr 6 kr ?_
 refine mixs_one 7 (by kernel_rfl) rfl (fun K hK => ?_)
 go_simp
 (go_at_call 45; have q1 := hS.preM (A := [_, _]) (B := bkV g gs gm b p) (R := []); (with_reducible refine (cA.out _ q1 hS.fr).mono ?_); clear q1; rintro _ w3 hk8; obtain ⟨p', a8, c8, L8, rfl, hk9, hks⟩ := BkOut.v (p := p) (b := b) hk8; clear hk8; have hS1 := hS.callM (A := [_, _]) (B := bkV g gs gm b p) (R := []) hk9; rw [List.append_nil] at hS1; clear hS hk9; replace hks := Lib.hid hks; have hS := hS1; clear hS1)
 try clear hC
 refine cl hK (fun hC => ?_)
 clear hK K
 refine tk 8 ?_
 refine tk 9 ?_
 refine tk 10 ?_
 refine tk 11 ?_
 refine wpAnyH_done (by kernel_rfl) ?_ _
 all_goals
  clear kf kb kr hwk
  go_wp2_with fail
  go_ret2
  exact ⟨p', a8, c8, L8, rfl, hS.drop.drop, hks.out⟩
theorem bdo_any (m g gs gm : Nat) (b : BkS) (p : PV) (e : Ed) (he : EdIn e) (w : World) (hA : St w (feet (bkV g gs gm b p)) (bkV g gs gm b p) w) (hok : BkOk m b) (hm : m ≤ 2000) (hp : ∀ W, Fr (feet (bkV g gs gm b p)) w W → p.at b W) (htab : Tab w) (hT : 0 ∉ feet (bkV g gs gm b p)) :
 Calls Tryz.prog 11 #[.pointer (some ⟨g, 0, none⟩), .agg (edRow e).toArray] w (BkOutV g gs gm b p (b.does e) w (feet (bkV g gs gm b p))) := by
 by_cases hc : e.check = 0
 case neg =>
  have hS := hA
  rw [show b.does e = (b, [], e.check) from by exact if_pos hc]
  have cC := fun W => echeck_any e he W
  have b1 : (e.check != 0) = true := by simpa using hc
  have hel := edRow_len e he.p.len
  have hsz : sizeB Tryz.prog 44 (edRow e).toArray.size = true := by
   rw [List.size_toArray, hel]
   kernel_rfl
  have hno := Lib.hid fun (er : Int) (w' : World) (hS : St w (feet (bkV g gs gm b p)) (bkV g gs gm b p) w') => bkOutV_no (er := er) hS
  clear hc he hp hok hA htab hT
  generalize feet (bkV g gs gm b p) = F at *
  generalize edRow e = RE at *
  generalize e.check = er at *
  replace cC := Lib.hid cC
  go_enter Tryz.func11, Tryz.ntmps11
  go_wp2_with (first | (go_at_call 38; (with_reducible refine (cC.out _).mono ?_); rintro _ w3 ⟨rfl, hk9⟩; replace hS := hS.keepB hk9; clear hk9) | ((with_reducible refine wpList_loadall_st 0 hS rfl rfl rfl rfl ?_ hsz ?_); focus (simp [rowB, go_sem]; done)) | (with_reducible refine wpList_box_st hS rfl rfl rfl ?_; clear hS; intro g1 w1 hS))
  go_ret2
  exact hno.out _ _ hS.drop
 by_cases hf : 1099511627676 < b.seq
 case pos =>
  have hS := hA
  rw [show b.does e = (b, [], 8) from by unfold BkS.does; rw [if_neg (by simpa using hc), if_pos hf]]
  have cC := fun W => echeck_any e he W
  rw [hc] at cC
  have d1 : decide (1099511627676 < b.seq) = true := decide_eq_true hf
  clear hf
  have hel := edRow_len e he.p.len
  have hsz : sizeB Tryz.prog 44 (edRow e).toArray.size = true := by
   rw [List.size_toArray, hel]
   kernel_rfl
  have hno := Lib.hid fun (er : Int) (w' : World) (hS : St w (feet (bkV g gs gm b p)) (bkV g gs gm b p) w') => bkOutV_no (er := er) hS
  clear hc he hp hok hA htab hT
  generalize feet (bkV g gs gm b p) = F at *
  generalize edRow e = RE at *
  replace cC := Lib.hid cC
  go_enter Tryz.func11, Tryz.ntmps11
  go_wp2_with (first | (go_at_call 38; (with_reducible refine (cC.out _).mono ?_); rintro _ w3 ⟨rfl, hk9⟩; replace hS := hS.keepB hk9; clear hk9) | ((with_reducible refine wpList_loadall_st 0 hS rfl rfl rfl rfl ?_ hsz ?_); focus (simp [rowB, go_sem]; done)) | (with_reducible refine wpList_box_st hS rfl rfl rfl ?_; clear hS; intro g1 w1 hS) | (with_reducible refine ld 1 hS rfl rfl rfl rfl rfl ?_))
  go_ret2
  exact hno.out _ _ hS.drop
 rw [does_fin hc hf]
 rcases check_kind hc with hk | hk | hk | hk | hk | hk | hk
 · exact bdo1_any m g gs gm b p e he hk hc hf w hA hok hm hp htab hT
 · exact bdo2_any m g gs gm b p e he hk hc hf w hA hok hm hp htab hT
 · exact bdo3_any m g gs gm b p e he hk hc hf w hA hok hm hp htab hT
 · exact bdo4_any m g gs gm b p e he hk hc hf w hA hok hm hp htab hT
 · exact bdo5_any m g gs gm b p e he hk hc hf w hA hok hm hp htab hT
 · exact bdo6_any m g gs gm b p e he hk hc hf w hA hok hm hp htab hT
 · exact bdo7_any m g gs gm b p e he hk hc hf w hA hok hm hp htab hT
end Go.Proofs.YtneolmnpebiifaaGreatDoor
end
section
namespace Go.Proofs.YtneolmnpebiifaaGreatDoor
open Go.RowKit Go.Ofp
set_option maxHeartbeats 4000000
theorem eq_dd (d : Nat) (p q : Dd) (w : World) : (Op.equalIn (d + 5) 91 (.agg (ddRow p).toArray) (.agg (ddRow q).toArray)).run Tryz.prog w = .ok (decide (p = q)) w := by
 have hp : Tryz.prog.stoodInHeld 91 = false := by kernel_rfl
 have hff := fields_of Tryz.underlying91
 have hu : Tryz.prog.underlying 91 = some (.struct (Tryz.prog.fieldsOf 91)) := by rw [hff, Tryz.underlying91]
 rw [run_equalIn_struct w (d + 4) _ _ _ hu hp, hff]
 obtain ⟨a1, a2, a3⟩ := p
 obtain ⟨b1, b2, b3⟩ := q
 have h3 := Tryz.underlying3
 have e1 : ∀ x y : Int, (Op.equalIn (d + 4) 3 (.int .i64 x) (.int .i64 y)).run Tryz.prog w = .ok (x == y) w := fun x y => by simp [Op.equalIn, run_underlying h3]
 have p1 := part_i (ddRow ⟨a1, a2, a3⟩) 0 a1 rfl w
 have p2 := part_i (ddRow ⟨a1, a2, a3⟩) 1 a2 rfl w
 have p3 := part_i (ddRow ⟨a1, a2, a3⟩) 2 a3 rfl w
 have q1 := part_i (ddRow ⟨b1, b2, b3⟩) 0 b1 rfl w
 have q2 := part_i (ddRow ⟨b1, b2, b3⟩) 1 b2 rfl w
 have q3 := part_i (ddRow ⟨b1, b2, b3⟩) 2 b3 rfl w
 generalize ddRow ⟨a1, a2, a3⟩ = A at *
 generalize ddRow ⟨b1, b2, b3⟩ = B at *
 simp only [Op.eqFields, ne_eq, String.reduceEq, not_false_eq_true, if_true, Sem.run_bind, p1, q1, e1, Result.andThen_ok]
 by_cases k1 : a1 = b1
 · subst k1
   by_cases k2 : a2 = b2
   · subst k2
     by_cases k3 : a3 = b3
     · subst k3
       simp [p2, p3, q2, q3, e1]
     · simp [p2, p3, q2, q3, e1, k3]
   · simp [p2, q2, e1, k2]
 · simp [k1]
theorem neq_dd (p q : Dd) (w : World) : (binOp .neq 91 (.agg (ddRow p).toArray) (.agg (ddRow q).toArray)).run Tryz.prog w = .ok (.bool (!decide (p = q))) w := by
 rw [run_neq_struct, eq_dd 9995 p q w]
 rfl
theorem guard_dd (op : BinOp) (x y : Operand) (xs ys : Array Value) (w : World) : (eqGuard op 91 x y (.agg xs) (.agg ys)).run Tryz.prog w = .ok () w :=
 run_eqGuard_agg w op _ x y xs ys (by kernel_rfl)
theorem dsame_any (a b : Option Addr) (n m ca cb : Nat) (l k : List Dd) (w : World) (hl : Lst ddRow (fun _ => True) w a n ca l) (hk : Lst ddRow (fun _ => True) w b m cb k) (hn : n ≤ 50000) (hm : m ≤ 50000) :
 Calls Tryz.prog 46 #[.slice a n ca, .slice b m cb] w fun e w' => e = .returned (.bool (decide (l = k))) ∧ Below w.heap.size w w' := by
 have hS := St.start w
 have hG := guard_dd
 have hln := Lib.hid hl.len
 have hkn := Lib.hid hk.len
 have hll := Lib.hid (show ∀ x ∈ l, (ddRow x).length = 3 from fun x hx => rfl)
 have hkl := Lib.hid (show ∀ x ∈ k, (ddRow x).length = 3 from fun x hx => rfl)
 have hlb := Lib.hid (hl.base (by decide) hll.out)
 have hkb := Lib.hid (hk.base (by decide) hkl.out)
 have hE0 := Lib.hid fun (x y : Dd) (hx : x ∈ l) (hy : y ∈ k) (W : World) => neq_dd x y W
 by_cases hnm : n = m
 · subst hnm
   obtain ⟨R, hR⟩ : ∃ R, decide (l = k) = R := ⟨_, rfl⟩
   rw [hR]
   replace hR := Lib.hid hR
   replace hl := Lib.hid hl
   replace hk := Lib.hid hk
   go_enter Tryz.func46, Tryz.ntmps46
   go_wp2_with fail
   go_loopg [5] n (fun gk vx wr => ∃ j : Nat, j + gk = n ∧ vx = .int .i64 j ∧ Hid (l.take j = k.take j) ∧ St w [] [] wr)
   case atStart => exact ⟨0, Nat.zero_add _, rfl, Lib.hid rfl, hS⟩
   case round =>
    clear hS
    obtain ⟨j, hj, rfl, hr, hS⟩ := hrel
    by_cases hlt : j < n
    · have hjl : j < l.length := by rw [hln.out]; exact hlt
      have hjk : j < k.length := by rw [hkn.out]; exact hlt
      obtain ⟨b1, o1, rfl⟩ := hlb.out (by omega)
      obtain ⟨b2, o2, rfl⟩ := hkb.out (by omega)
      have hE := hE0.out l[j] k[j] (List.getElem_mem hjl) (List.getElem_mem hjk)
      have r1 := hl.out.rowb hll.out j hjl
      have r2 := hk.out.rowb hkl.out j hjk
      have l1 := hll.out _ (List.getElem_mem hjl)
      have l2 := hkl.out _ (List.getElem_mem hjk)
      have hsz : sizeB Tryz.prog 91 3 = true := by kernel_rfl
      have kR1 := hS.kold_row (P := Tryz.prog) (t := 91) r1 (by kernel_rfl) hsz l1
      have kR2 := hS.kold_row (P := Tryz.prog) (t := 91) r2 (by kernel_rfl) hsz l2
      clear r1 r2 l1 l2
      by_cases hx : l[j] = k[j]
      · have hr2 : l.take (j + 1) = k.take (j + 1) := by rw [List.take_succ_eq_append_getElem hjl, List.take_succ_eq_append_getElem hjk, hr.out, hx]
        rw [decide_eq_true hx] at hE
        simp only [Bool.not_true] at hE
        replace hr2 := Lib.hid hr2
        clear hx
        generalize ddRow l[j] = R1 at *
        generalize ddRow k[j] = R2 at *
        go_wp2_with fail
        refine mixs_begin (by kernel_rfl) hS ?_
        clear hS
        intro w2 hS
        refine tk 0 ?_
        refine tk 1 ?_
        refine tk 2 ?_
        refine tkr 3 kR1 ?_
        refine tk 4 ?_
        refine tk 5 ?_
        refine tk 6 ?_
        refine tkr 7 kR2 ?_
        refine tk 8 ?_
        refine wpAnyH_done (by kernel_rfl) ?_ _
        clear kR1 kR2
        go_wp2_with fail
        go_roundg (n - (j + 1))
        case measure => omega
        case rel => exact ⟨j + 1, by omega, by go_num, hr2, hS⟩
      · have hR2 : R = false := by
         rw [← hR.out, decide_eq_false_iff_not]
         intro e
         subst e
         exact hx rfl
        rw [decide_eq_false hx] at hE
        simp only [Bool.not_false] at hE
        replace hR2 := Lib.hid hR2
        clear hx
        generalize ddRow l[j] = R1 at *
        generalize ddRow k[j] = R2 at *
        go_wp2_with fail
        refine mixs_begin (by kernel_rfl) hS ?_
        clear hS
        intro w2 hS
        refine tk 0 ?_
        refine tk 1 ?_
        refine tk 2 ?_
        refine tkr 3 kR1 ?_
        refine tk 4 ?_
        refine tk 5 ?_
        refine tk 6 ?_
        refine tkr 7 kR2 ?_
        refine tk 8 ?_
        refine wpAnyH_done (by kernel_rfl) ?_ _
        clear kR1 kR2
        go_wp2_with fail
        go_ret
        exact ⟨by rw [hR2.out]; rfl, hS.below⟩
    · obtain rfl : j = n := by omega
      have hR2 : R = true := by
       rw [← hR.out, decide_eq_true_iff]
       have e1 := hr.out
       rwa [List.take_of_length_le (by rw [hln.out]; exact Nat.le_refl _), List.take_of_length_le (by rw [hkn.out]; exact Nat.le_refl _)] at e1
      replace hR2 := Lib.hid hR2
      go_wp2_with fail
      go_ret
      exact ⟨by rw [hR2.out]; rfl, hS.below⟩
 · have e : decide (l = k) = false := by rw [decide_eq_false_iff_not]; intro e; subst e; exact hnm (hln.out.symm.trans hkn.out)
   have hb : ((n : Int) != (m : Int)) = true := by simp; omega
   rw [e]
   replace hl := Lib.hid hl
   replace hk := Lib.hid hk
   clear hnm e
   go_enter Tryz.func46, Tryz.ntmps46
   go_wp2_with fail
   go_ret
   exact ⟨rfl, hS.below⟩
end Go.Proofs.YtneolmnpebiifaaGreatDoor
end
section
namespace Go.Proofs.YtneolmnpebiifaaGreatDoor
open Go.RowKit Go.Ofp
set_option maxHeartbeats 4000000
theorem ShAt.below18 {w w' : World} {g gm : Nat} {s : ShS} {da : Option Addr} {dc : Nat} (h : ShAt w g gm s da dc) (k : Below w.heap.size w w') : ShAt w' g gm s da dc :=
 ⟨(Fr.of_below k).cell h.c1 (by simp), (Fr.of_below k).cell h.c2 (by simp), h.im.below k, h.dl.below k⟩
theorem cds_ok18 {s : ShS} (h : ShOk s) : ∀ c ∈ s.m, CdOk c := fun c hc => ⟨h.fl c hc, by have := h.id c hc; have := h.next; omega⟩
end Go.Proofs.YtneolmnpebiifaaGreatDoor
end
section
namespace Go.Proofs.YtneolmnpebiifaaGreatDoor
open Go.RowKit Go.Ofp
set_option maxHeartbeats 4000000
structure BkAt (g gs gm : Nat) (b : BkS) (p : PV) (w : World) : Prop where
 c0 : w.cell? ⟨g, 0, none⟩ = some (.int .i64 b.seq)
 c1 : w.cell? ⟨g, 1, none⟩ = some (.pointer (some ⟨gs, 0, none⟩))
 c2 : w.cell? ⟨g, 2, none⟩ = some (.slice p.ga p.grs.length p.gc)
 nx : w.cell? ⟨gs, 0, none⟩ = some (.int .i64 b.sh.next)
 sh : ShAt w gs gm b.sh p.da p.dc
 ps : p.at b w
theorem BkAt.below {g gs gm : Nat} {b : BkS} {p : PV} {w w' : World} (h : BkAt g gs gm b p w) (k : Below w.heap.size w w') : BkAt g gs gm b p w' :=
 ⟨(Fr.of_below k).cell h.c0 (by simp), (Fr.of_below k).cell h.c1 (by simp), (Fr.of_below k).cell h.c2 (by simp), (Fr.of_below k).cell h.nx (by simp), h.sh.below18 k, h.ps.below k⟩
theorem bkAt_of {g gs gm : Nat} {b : BkS} {p : PV} {w0 w : World} {F : List Nat} {A R : List Ch} (hS : St w0 F (A ++ (bkV g gs gm b p ++ R)) w) (hp : p.at b w) : BkAt g gs gm b p w := by
 have hS1 : St w0 F (bkV g gs gm b p) w := St.fore (R := R) (St.back hS)
 exact ⟨hS1.cell 0 rfl 0, hS1.cell 0 rfl 1, hS1.cell 0 rfl 2, hS1.cell 1 rfl 0, shAt_st hS1 1 2 3 rfl rfl rfl, hp⟩
theorem bget_any {m g gs gm : Nat} {b : BkS} {p : PV} {w : World} (id : Int) (hid : I64 id) (hB : BkAt g gs gm b p w) (hok : BkOk m b) :
 Calls Tryz.prog 16 #[.pointer (some ⟨g, 0, none⟩), .int .i64 id] w fun e w' => e = .returned (sgV (b.sh.get id)) ∧ Below w.heap.size w w' := by
 have hS := St.start w
 have c1 := hB.c1
 have ec := elem_card
 have cG := fun W (h : Below w.heap.size w W) => sget_any gs gm b.sh p.da p.dc id hid W (hB.sh.below18 h) hok.sh
 have hgl := cdRow_lenT _ (get_f hok.sh id)
 have hgo := cdRow_oneT (b.sh.get id).1
 have hsz : sizeB Tryz.prog 58 (cdRow (b.sh.get id).1).toArray.size = true := by rw [List.size_toArray, hgl]; kernel_rfl
 have hgV : sgV (b.sh.get id) = .tuple #[.agg (cdRow (b.sh.get id).1).toArray, .int .i64 (b.sh.get id).2] := rfl
 rw [hgV] at cG ⊢
 clear hB hok hgV
 generalize cdRow (b.sh.get id).1 = GR at *
 generalize (b.sh.get id).2 = ge at *
 replace cG := Lib.hid cG
 go_enter Tryz.func16, Tryz.ntmps16
 go_wp2_with (first | ((with_reducible refine wpList_alloc_st hS rfl rfl (by assumption) ?_); clear hS; intro g1 w1 hS; have c1b := hS.old c1 (by simp)) | (go_at_call 49; (with_reducible refine (cG.out _ hS.below).mono ?_); rintro _ w3 ⟨rfl, hk9⟩; replace hS := hS.keepB hk9; clear hk9) | ((with_reducible refine wpList_storerow_st (t := 58) (n := 27) (vs := GR) 0 hS rfl rfl rfl rfl (by kernel_rfl) rfl hgl hgo (by kernel_rfl) ?_); clear hS; intro w1 hS; try simp only [List.set_cons_zero, List.set_cons_succ, List.setIfInBounds_toArray, List.take_succ_cons, List.take_zero, List.drop_succ_cons, List.drop_zero, List.nil_append, List.cons_append, List.append_nil, List.drop_nil, List.take_nil, List.length_cons, List.length_nil, Nat.zero_add, Nat.add_zero, Nat.reduceAdd] at hS))
 exact bodyPost_ret (v := .tuple #[.agg GR.toArray, .int .i64 ge]) (results_blk_tmp Tryz.results16 rfl hS 0 rfl (by kernel_rfl) hsz rfl) rfl ⟨rfl, hS.below⟩
theorem bget_nil (id : Int) (w : World) : Calls Tryz.prog 16 #[.pointer none, .int .i64 id] w fun e w' => e = .returned (sgV (Cd.none 0, 14)) ∧ Below w.heap.size w w' := by
 have hS := St.start w
 have ec := elem_card
 rw [sgV_zero]
 go_enter Tryz.func16, Tryz.ntmps16
 go_wp2_with (first | (with_reducible refine al hS rfl rfl ?_; clear hS; intro g1 w1 hS) | (with_reducible refine stor 0 hS rfl rfl rfl rfl rfl rfl rfl rfl ?_; clear hS; intro w1 hS))
 exact bodyPost_ret (v := .tuple #[.agg #[.int .i64 0, .int .i64 0, .int .u32 0, .int .i64 0, .int .i64 0, .string ⟨#[]⟩, .int .i64 0, .int .i64 0, .string ⟨#[]⟩, .int .i64 0, .int .i64 0, .string ⟨#[]⟩, .int .i64 0, .int .i64 0, .string ⟨#[]⟩, .int .i64 0, .int .i64 0, .string ⟨#[]⟩, .int .i64 0, .int .i64 0, .string ⟨#[]⟩, .int .i64 0, .int .i64 0, .string ⟨#[]⟩, .int .i64 0, .int .i64 0, .string ⟨#[]⟩], .int .i64 14]) (results_blk_tmp Tryz.results16 rfl hS 0 rfl (by kernel_rfl) (by kernel_rfl) rfl) rfl ⟨rfl, hS.below⟩
theorem bgroups_any {m g gs gm : Nat} {b : BkS} {p : PV} {w : World} (id : Int) (hB : BkAt g gs gm b p w) (hok : BkOk m b) (hm : m ≤ 2000) :
 Calls Tryz.prog 18 #[.pointer (some ⟨g, 0, none⟩), .int .i64 id] w fun e w' => e = .returned (.int .u32 (ofK b.ks id : Nat)) ∧ Below w.heap.size w w' := by
 have hS := St.start w
 have c2 := hB.c2
 have hkk : OkK (keys p.grs) := by rw [hB.ps.ks]; exact hok.ks.ok hm
 have cO := of_ok id hB.ps.deep hkk
 rw [hB.ps.ks] at cO
 replace cO := Lib.hid cO
 clear hB hok hkk
 generalize ofK b.ks id = q at *
 go_enter Tryz.func18, Tryz.ntmps18
 go_wp2_with (go_at_call 51; (with_reducible refine cO.out.mono ?_); rintro _ w3 ⟨rfl, hk9⟩; replace hS := hS.keepB hk9; clear hk9)
 go_ret
 exact ⟨rfl, hS.below⟩
theorem bgroups_nil (id : Int) (w : World) : Calls Tryz.prog 18 #[.pointer none, .int .i64 id] w fun e w' => e = .returned (.int .u32 0) ∧ Below w.heap.size w w' := by
 have hS := St.start w
 go_enter Tryz.func18, Tryz.ntmps18
 go_wp2_with fail
 go_ret
 exact ⟨rfl, hS.below⟩
theorem bseq_any {g gs gm : Nat} {b : BkS} {p : PV} {w : World} (hB : BkAt g gs gm b p w) : Calls Tryz.prog 25 #[.pointer (some ⟨g, 0, none⟩)] w fun e w' => e = .returned (.int .i64 b.seq) ∧ Below w.heap.size w w' := by
 have hS := St.start w
 have c0 := hB.c0
 clear hB
 go_enter Tryz.func25, Tryz.ntmps25
 go_wp2_with fail
 go_ret
 exact ⟨rfl, hS.below⟩
theorem bseq_nil (w : World) : Calls Tryz.prog 25 #[.pointer none] w fun e w' => e = .returned (.int .i64 0) ∧ Below w.heap.size w w' := by
 have hS := St.start w
 go_enter Tryz.func25, Tryz.ntmps25
 go_wp2_with fail
 go_ret
 exact ⟨rfl, hS.below⟩
theorem bcards_any {m g gs gm : Nat} {b : BkS} {p : PV} {w : World} (hB : BkAt g gs gm b p w) (hok : BkOk m b) :
 Calls Tryz.prog 21 #[.pointer (some ⟨g, 0, none⟩)] w fun e w' => ∃ a c, e = .returned (.slice a b.sh.m.length c) ∧ St w [] [Ch.row 58 27 (.slice a b.sh.m.length c) b.sh.m.length (b.sh.m.map cdRow).flatten] w' := by
 have hS := St.start w
 have c1 := hB.c1
 have cC := Lib.hid (scards_any gs gm b.sh.m.length b.sh.m w hB.sh.c1 hB.sh.im hok.sh.ris (cds_ok18 hok.sh) (by have := hok.sh.len; omega))
 clear hB hok
 go_enter Tryz.func21, Tryz.ntmps21
 go_wp2_with (go_at_call 35; (with_reducible refine cC.out.mono ?_); rintro _ w9 ⟨a9, c9, rfl, hk9⟩; clear hS; have hS := hk9; clear hk9)
 go_ret
 exact ⟨_, _, rfl, hS⟩
theorem bcards_nil (w : World) : Calls Tryz.prog 21 #[.pointer none] w fun e w' => e = .returned (.slice none 0 0) ∧ Below w.heap.size w w' := by
 have hS := St.start w
 go_enter Tryz.func21, Tryz.ntmps21
 go_wp2_with fail
 go_ret
 exact ⟨rfl, hS.below⟩
theorem btrim_any (m g gs gm : Nat) (b : BkS) (p : PV) (q : Int) (w : World) (hA : St w (feet (bkV g gs gm b p)) (bkV g gs gm b p) w) (hok : BkOk m b) :
 Calls Tryz.prog 22 #[.pointer (some ⟨g, 0, none⟩), .int .i64 q] w fun e w' => e = .returned (.tuple #[]) ∧ ∃ da' dc', St w (feet (bkV g gs gm b p)) (bkV g gs gm ⟨b.seq, b.sh.trim q, b.ks⟩ ⟨p.ga, p.gc, p.grs, da', dc'⟩) w' := by
 have hS := hA
 have cT := Lib.hid fun W h => strim_any gs gm b.sh p.da p.dc q W h hok.sh
 clear hA hok
 generalize feet (bkV g gs gm b p) = F at *
 go_enter Tryz.func22, Tryz.ntmps22
 go_wp2_with (first | (go_at_call 54; have q1 := hS.preM (A := [_]) (B := shA gs gm b.sh p.da p.dc) (R := []); (with_reducible refine (cT.out _ q1).mono ?_); clear q1; rintro _ w3 ⟨rfl, da1, dc1, hk9⟩; have hS1 := hS.callM (A := [_]) (B := shA gs gm b.sh p.da p.dc) (R := []) hk9; clear hS hk9; have hS := hS1; clear hS1) | (with_reducible refine ld 0 hS rfl rfl rfl rfl rfl ?_))
 exact bodyPost_end (results_none rfl _ _ _) rfl ⟨rfl, da1, dc1, hS⟩
theorem btrim_nil (q : Int) (w : World) : Calls Tryz.prog 22 #[.pointer none, .int .i64 q] w fun e w' => e = .returned (.tuple #[]) ∧ Below w.heap.size w w' := by
 have hS := St.start w
 go_enter Tryz.func22, Tryz.ntmps22
 go_wp2_with fail
 exact bodyPost_end (results_none rfl _ _ _) rfl ⟨rfl, hS.below⟩
end Go.Proofs.YtneolmnpebiifaaGreatDoor
end
