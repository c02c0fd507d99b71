import Derived.Test.YtneolmnpebiifaaGreatDoorM36
import Derived.Test.YtneolmnpebiifaaGreatDoorM37
set_option linter.unusedVariables false
set_option linter.unusedSimpArgs false
set_option maxRecDepth 100000
section
namespace Go.Proofs.YtneolmnpebiifaaGreatDoor
open Go.RowKit Go.Ofp
set_option maxHeartbeats 8000000
theorem rbdo1_any (m g : Nat) (b : BkS) (p : RV) (e : Ed) (he : EdIn e) (hk : e.kind = 1) (hc : e.check = 0) (hf : ¬ 1099511627676 < b.seq) (w : World) (hA : St w [g] [rbV g b p] w) (hok : BkOk m b) (hm : m ≤ 2000) (hp : ∀ W, Fr [g] w W → p.at b W) :
 Calls Tryz.prog 48 #[.pointer (some ⟨g, 0, none⟩), .agg (edRow e).toArray] w (RbOutV g b p (b.fin (b.act e)) w [g]) := by
 have hS := hA
 have ec := elem_card
 have hsq := hok.seq
 have hpl := ptRow_len e.p he.p.len
 have cC := fun W => rcheck19_any e he W
 rw [hc] at cC
 have hB : ∀ (i : Int) (W : World), (Instr.build 58 #[(0, .int .i64 i)]).run Tryz.prog W = .ok (.agg #[.int .i64 i, .int .i64 0, .int .u32 0, .int .i64 0, .int .i64 0, .string ⟨#[]⟩, .int .i64 0, .int .i64 0, .string ⟨#[]⟩, .int .i64 0, .int .i64 0, .string ⟨#[]⟩, .int .i64 0, .int .i64 0, .string ⟨#[]⟩, .int .i64 0, .int .i64 0, .string ⟨#[]⟩, .int .i64 0, .int .i64 0, .string ⟨#[]⟩, .int .i64 0, .int .i64 0, .string ⟨#[]⟩, .int .i64 0, .int .i64 0, .string ⟨#[]⟩]) W := fun _ _ => by kernel_rfl
 have hD := Lib.hid fun W h => (hp W h).deep
 have hpt := Lib.hid fun W1 (h : Fr [g] w W1) W (k : Fr [g] W1 W) => hp W (h.trans k fun x hx => .inl hx)
 have d1 : decide (1099511627676 < b.seq) = false := decide_eq_false hf
 have cS := Lib.hid fun (V c1 c2 c3 : Value) (i : Int) (W : World) h => rstep_nil g b.seq V c1 c2 c3 i W h hsq
 have hfn : ∀ (er : Int) (T : List Int) (s1 : ShS) (k1 : List Key), er ≠ 0 → b.fin (er, T, s1, k1) = (b, [], er) := fun er T s1 k1 h => if_pos h
 have hfp : ∀ (i : Int) (s1 : ShS) (k1 : List Key), b.fin (0, [i], s1, k1) = (⟨b.seq + 1, s1, k1⟩, [(b.seq + 1, i)], 0) := fun _ _ _ => rfl
 have cA := fun W h1 h2 => rsadd_q g (.int .i64 b.seq) (.slice p.ga p.grs.length p.gc) b.sh p.ca p.cc p.da p.dc e.p he.p hok.sh W h1 h2
 have hgV : sgV (b.sh.add e.p).2 = .tuple #[.agg (cdRow (b.sh.add e.p).2.1).toArray, .int .i64 (b.sh.add e.p).2.2] := rfl
 have hcl := cdRow_lenT _ (add_f (s := b.sh) e.p)
 have hco := cdRow_oneT (b.sh.add e.p).2.1
 have hno := add_no (s := b.sh) (p := e.p)
 obtain ⟨CT, hCT⟩ : ∃ CT, cdRow (b.sh.add e.p).2.1 = .int .i64 (b.sh.add e.p).2.1.id :: CT := ⟨_, rfl⟩
 rw [hCT] at hcl hco hgV
 rw [hgV] at cA
 rw [act1 b e hk]
 clear hCT hgV
 replace hfn := Lib.hid hfn
 replace hfp := Lib.hid hfp
 simp only [rbV, rbC_eq] at hS
 obtain ⟨kd, i, gn, pt⟩ := e
 have e0 : edRow ⟨kd, i, gn, pt⟩ = .int .i64 kd :: .int .i64 i :: .int .i64 gn :: ptRow pt := rfl
 rw [e0] at cC ⊢
 simp only at *
 subst hk
 replace cC := Lib.hid cC
 clear e0 hc hf
 clear he hok hA hm hp
 generalize (b.sh.add pt).2.1.id = ci at *
 generalize (b.sh.add pt).2.2 = er at *
 generalize (b.sh.add pt).1 = s1 at *
 replace cA := Lib.hid cA
 replace hno := Lib.hid hno
 generalize ptRow pt = PR at *
 have hrP : ((Value.int .i64 1 :: .int .i64 i :: .int .i64 gn :: PR).toArray.toList.drop 3).take 26 = PR := by simp [← hpl]
 have hsz : sizeB Tryz.prog 44 (Value.int .i64 1 :: .int .i64 i :: .int .i64 gn :: PR).toArray.size = true := by
  rw [List.size_toArray, List.length_cons, List.length_cons, List.length_cons, hpl]
  kernel_rfl
 go_enter Tryz.func48, Tryz.ntmps48
 go_wp2_with (first | (go_at_call 82; (with_reducible refine (cC.out _).mono ?_); rintro _ w3 ⟨rfl, hk9⟩; replace hS := hS.keepB hk9; clear hk9) | ((with_reducible refine wpList_loadall_st 0 hS rfl rfl rfl rfl ?_ hsz ?_); focus (simp [rowB, go_sem]; done)) | (with_reducible refine wpList_box_st hS rfl rfl rfl ?_; clear hS; intro g1 w1 hS) | (with_reducible refine al hS rfl rfl ?_; clear hS; intro g1 w1 hS) | (with_reducible refine ld 0 hS rfl rfl rfl rfl rfl ?_) | (with_reducible refine stor 0 hS rfl rfl rfl rfl rfl rfl rfl rfl ?_; clear hS; intro w1 hS) | (with_reducible refine ld 1 hS rfl rfl rfl rfl rfl ?_))
 refine mixs_beginC 1 (by kernel_rfl) hS rfl ?_
 clear hS
 intro w2 hS hC
 have kC := hC.kblk 0 rfl
 have kp := hC.krow (P := Tryz.prog) (j := 3) 0 rfl (t := 42) (by kernel_rfl) (n := 26) (by kernel_rfl) hrP hpl
 refine tk 0 ?_
 refine tk 1 ?_
 refine tk 2 ?_
 refine tk 3 ?_
 refine tkr 4 kp ?_
 refine mixs_one 5 (by kernel_rfl) rfl (fun K hK => ?_)
 go_simp
 (go_at_call 83; have q1 := hS.preM (A := [_, _]) (B := [rbC g (.int .i64 b.seq) (.slice p.ga p.grs.length p.gc) b.sh p.ca p.cc p.da p.dc]) (R := []); (with_reducible refine (cA.out _ q1 (fun W k => (hpt.out _ hS.fr W k).lc)).mono ?_); clear q1; rintro _ w3 ⟨rfl, ca1, cc1, da1, dc1, L1, hk9, hKL⟩; have hS1 := hS.callM (A := [_, _]) (B := [rbC g (.int .i64 b.seq) (.slice p.ga p.grs.length p.gc) b.sh p.ca p.cc p.da p.dc]) (R := []) hk9; rw [List.append_nil] at hS1; simp only [List.cons_append, List.nil_append] at hS1; clear hS hk9; replace hKL := Lib.hid hKL; have hS := hS1; clear hS1)
 try clear hC
 refine cl hK (fun hC => ?_)
 clear hK K
 refine tk 6 ?_
 refine tk 7 ?_
 refine tk 8 ?_
 refine mixs_one 9 (by kernel_rfl) rfl (fun K hK => ?_)
 (refine op_storerow_st (vs := Value.int .i64 ci :: CT) (n := 27) (by kernel_rfl) 0 hS rfl rfl rfl (by kernel_rfl) rfl hcl hco rfl ?_; clear hS; intro w1 hS; try simp only [List.set_cons_zero, List.set_cons_succ] at hS)
 try clear hC
 refine cl hK (fun hC => ?_)
 clear hK K
 refine tk 10 ?_
 refine wpAnyH_done (by kernel_rfl) ?_ _
 clear kC kp
 by_cases her : er = 0
 case neg =>
  have hfin := Lib.hid (hfn.out er [ci] s1 b.ks her)
  have hss := Lib.hid (hno.out her)
  have b1 : (er != 0) = true := by simpa using her
  clear her
  go_wp2_with fail
  go_ret2
  rw [hfin.out]
  rw [hss.out] at hS
  have hKL2 := hKL.out
  rw [hss.out] at hKL2
  exact ⟨⟨ca1, cc1, da1, dc1, p.ga, p.gc, p.grs⟩, none, 0, L1, rfl, (hS.drop.drop.nilrow 48 2).swap, fun w0 F0 A B W hW h => ⟨h.ks, (hKL2 w0 F0 A B W hW).1 h.lc, (hKL2 w0 F0 A B W hW).2 h.ld, h.deep⟩⟩
 subst her
 go_wp2_with (first | (go_at_call 89; have hS2 := St.mid (A := []) (B := [_]) (C := [_, _, _]) (R := L1) (hS.nilrow 48 2); have q1 := hS2.preM (A := [_, _]) (B := [_, _]) (R := L1); (with_reducible refine (cS.out _ _ _ _ _ _ q1).mono ?_); clear q1; rintro _ w9 ⟨a9, c9, rfl, hk9⟩; have hS1 := hS2.callM (A := [_, _]) (B := [_, _]) (R := L1) hk9; clear hS hS2 hk9; have hS := hS1; clear hS1) | (with_reducible refine ld 0 hS rfl rfl rfl rfl rfl ?_))
 go_ret2
 rw [hfp.out]
 exact ⟨⟨ca1, cc1, da1, dc1, p.ga, p.gc, p.grs⟩, a9, c9, L1, rfl, hS.drop.drop, fun w0 F0 A B W hW h => ⟨h.ks, (hKL.out w0 F0 A B W hW).1 h.lc, (hKL.out w0 F0 A B W hW).2 h.ld, h.deep⟩⟩
theorem rbdo2_any (m g : Nat) (b : BkS) (p : RV) (e : Ed) (he : EdIn e) (hk : e.kind = 2) (hc : e.check = 0) (hf : ¬ 1099511627676 < b.seq) (w : World) (hA : St w [g] [rbV g b p] w) (hok : BkOk m b) (hm : m ≤ 2000) (hp : ∀ W, Fr [g] w W → p.at b W) :
 Calls Tryz.prog 48 #[.pointer (some ⟨g, 0, none⟩), .agg (edRow e).toArray] w (RbOutV g b p (b.fin (b.act e)) w [g]) := by
 have hS := hA
 have ec := elem_card
 have hsq := hok.seq
 have hpl := ptRow_len e.p he.p.len
 have cC := fun W => rcheck19_any e he W
 rw [hc] at cC
 have hB : ∀ (i : Int) (W : World), (Instr.build 58 #[(0, .int .i64 i)]).run Tryz.prog W = .ok (.agg #[.int .i64 i, .int .i64 0, .int .u32 0, .int .i64 0, .int .i64 0, .string ⟨#[]⟩, .int .i64 0, .int .i64 0, .string ⟨#[]⟩, .int .i64 0, .int .i64 0, .string ⟨#[]⟩, .int .i64 0, .int .i64 0, .string ⟨#[]⟩, .int .i64 0, .int .i64 0, .string ⟨#[]⟩, .int .i64 0, .int .i64 0, .string ⟨#[]⟩, .int .i64 0, .int .i64 0, .string ⟨#[]⟩, .int .i64 0, .int .i64 0, .string ⟨#[]⟩]) W := fun _ _ => by kernel_rfl
 have hD := Lib.hid fun W h => (hp W h).deep
 have hpt := Lib.hid fun W1 (h : Fr [g] w W1) W (k : Fr [g] W1 W) => hp W (h.trans k fun x hx => .inl hx)
 have d1 : decide (1099511627676 < b.seq) = false := decide_eq_false hf
 have cS := Lib.hid fun (V c1 c2 c3 : Value) (i : Int) (W : World) h => rstep_nil g b.seq V c1 c2 c3 i W h hsq
 have hfn : ∀ (er : Int) (T : List Int) (s1 : ShS) (k1 : List Key), er ≠ 0 → b.fin (er, T, s1, k1) = (b, [], er) := fun er T s1 k1 h => if_pos h
 have hfp : ∀ (i : Int) (s1 : ShS) (k1 : List Key), b.fin (0, [i], s1, k1) = (⟨b.seq + 1, s1, k1⟩, [(b.seq + 1, i)], 0) := fun _ _ _ => rfl
 have cA := fun W h1 h2 h3 => rswrite_q g (.int .i64 b.seq) (.slice p.ga p.grs.length p.gc) b.sh p.ca p.cc p.da p.dc e.id e.p he.p hok.sh W h1 h2 h3
 have hgV : sgV (b.sh.write e.id e.p).2 = .tuple #[.agg (cdRow (b.sh.write e.id e.p).2.1).toArray, .int .i64 (b.sh.write e.id e.p).2.2] := rfl
 have hno := write_no (s := b.sh) (id := e.id) (p := e.p)
 rw [hgV] at cA
 rw [act2 b e hk]
 clear hgV
 replace hfn := Lib.hid hfn
 replace hfp := Lib.hid hfp
 simp only [rbV, rbC_eq] at hS
 obtain ⟨kd, i, gn, pt⟩ := e
 have e0 : edRow ⟨kd, i, gn, pt⟩ = .int .i64 kd :: .int .i64 i :: .int .i64 gn :: ptRow pt := rfl
 rw [e0] at cC ⊢
 simp only at *
 subst hk
 replace cC := Lib.hid cC
 clear e0 hc hf
 clear he hok hA hm hp
 generalize cdRow (b.sh.write i pt).2.1 = CT at *
 generalize (b.sh.write i pt).2.2 = er at *
 generalize (b.sh.write i pt).1 = s1 at *
 replace cA := Lib.hid cA
 replace hno := Lib.hid hno
 generalize ptRow pt = PR at *
 have hrP : ((Value.int .i64 2 :: .int .i64 i :: .int .i64 gn :: PR).toArray.toList.drop 3).take 26 = PR := by simp [← hpl]
 have hsz : sizeB Tryz.prog 44 (Value.int .i64 2 :: .int .i64 i :: .int .i64 gn :: PR).toArray.size = true := by
  rw [List.size_toArray, List.length_cons, List.length_cons, List.length_cons, hpl]
  kernel_rfl
 go_enter Tryz.func48, Tryz.ntmps48
 go_wp2_with (first | (go_at_call 82; (with_reducible refine (cC.out _).mono ?_); rintro _ w3 ⟨rfl, hk9⟩; replace hS := hS.keepB hk9; clear hk9) | ((with_reducible refine wpList_loadall_st 0 hS rfl rfl rfl rfl ?_ hsz ?_); focus (simp [rowB, go_sem]; done)) | (with_reducible refine wpList_box_st hS rfl rfl rfl ?_; clear hS; intro g1 w1 hS) | (with_reducible refine al hS rfl rfl ?_; clear hS; intro g1 w1 hS) | (with_reducible refine ld 0 hS rfl rfl rfl rfl rfl ?_) | (with_reducible refine stor 0 hS rfl rfl rfl rfl rfl rfl rfl rfl ?_; clear hS; intro w1 hS) | (with_reducible refine ld 1 hS rfl rfl rfl rfl rfl ?_))
 refine mixs_beginC 1 (by kernel_rfl) hS rfl ?_
 clear hS
 intro w2 hS hC
 have kC := hC.kblk 0 rfl
 have kp := hC.krow (P := Tryz.prog) (j := 3) 0 rfl (t := 42) (by kernel_rfl) (n := 26) (by kernel_rfl) hrP hpl
 refine tk 0 ?_
 refine tk 1 ?_
 refine tk 2 ?_
 refine tk 3 ?_
 refine tk 4 ?_
 refine tk 5 ?_
 refine tkr 6 kp ?_
 refine mixs_one 7 (by kernel_rfl) rfl (fun K hK => ?_)
 go_simp
 (go_at_call 84; have q1 := hS.preM (A := [_, _]) (B := [rbC g (.int .i64 b.seq) (.slice p.ga p.grs.length p.gc) b.sh p.ca p.cc p.da p.dc]) (R := []); (with_reducible refine (cA.out _ q1 (fun W k => (hpt.out _ hS.fr W k).lc) (fun W k => (hpt.out _ hS.fr W k).ld)).mono ?_); clear q1; rintro _ w3 ⟨rfl, ca1, cc1, da1, dc1, L1, hk9, hKL⟩; have hS1 := hS.callM (A := [_, _]) (B := [rbC g (.int .i64 b.seq) (.slice p.ga p.grs.length p.gc) b.sh p.ca p.cc p.da p.dc]) (R := []) hk9; rw [List.append_nil] at hS1; simp only [List.cons_append, List.nil_append] at hS1; clear hS hk9; replace hKL := Lib.hid hKL; have hS := hS1; clear hS1)
 try clear hC
 refine cl hK (fun hC => ?_)
 clear hK K
 refine tk 8 ?_
 refine tk 9 ?_
 refine tk 10 ?_
 refine tk 11 ?_
 refine wpAnyH_done (by kernel_rfl) ?_ _
 clear kC kp
 by_cases her : er = 0
 case neg =>
  have hfin := Lib.hid (hfn.out er [i] s1 b.ks her)
  have hss := Lib.hid (hno.out her)
  have b1 : (er != 0) = true := by simpa using her
  clear her
  go_wp2_with fail
  go_ret2
  rw [hfin.out]
  rw [hss.out] at hS
  have hKL2 := hKL.out
  rw [hss.out] at hKL2
  exact ⟨⟨ca1, cc1, da1, dc1, p.ga, p.gc, p.grs⟩, none, 0, L1, rfl, (hS.drop.drop.nilrow 48 2).swap, fun w0 F0 A B W hW h => ⟨h.ks, (hKL2 w0 F0 A B W hW).1 h.lc, (hKL2 w0 F0 A B W hW).2 h.ld, h.deep⟩⟩
 subst her
 go_wp2_with (first | (go_at_call 89; have hS2 := St.mid (A := []) (B := [_]) (C := [_, _, _]) (R := L1) (hS.nilrow 48 2); have q1 := hS2.preM (A := [_, _]) (B := [_, _]) (R := L1); (with_reducible refine (cS.out _ _ _ _ _ _ q1).mono ?_); clear q1; rintro _ w9 ⟨a9, c9, rfl, hk9⟩; have hS1 := hS2.callM (A := [_, _]) (B := [_, _]) (R := L1) hk9; clear hS hS2 hk9; have hS := hS1; clear hS1) | (with_reducible refine ld 0 hS rfl rfl rfl rfl rfl ?_))
 go_ret2
 rw [hfp.out]
 exact ⟨⟨ca1, cc1, da1, dc1, p.ga, p.gc, p.grs⟩, a9, c9, L1, rfl, hS.drop.drop, fun w0 F0 A B W hW h => ⟨h.ks, (hKL.out w0 F0 A B W hW).1 h.lc, (hKL.out w0 F0 A B W hW).2 h.ld, h.deep⟩⟩
end Go.Proofs.YtneolmnpebiifaaGreatDoor
end
section
namespace Go.Proofs.YtneolmnpebiifaaGreatDoor
open Go.RowKit Go.Ofp
set_option maxHeartbeats 8000000
theorem rbdo3_any (m g : Nat) (b : BkS) (p : RV) (e : Ed) (he : EdIn e) (hk : e.kind = 3) (hc : e.check = 0) (hf : ¬ 1099511627676 < b.seq) (w : World) (hA : St w [g] [rbV g b p] w) (hok : BkOk m b) (hm : m ≤ 2000) (hp : ∀ W, Fr [g] w W → p.at b W) :
 Calls Tryz.prog 48 #[.pointer (some ⟨g, 0, none⟩), .agg (edRow e).toArray] w (RbOutV g b p (b.fin (b.act e)) w [g]) := by
 have hS := hA
 have ec := elem_card
 have hsq := hok.seq
 have hpl := ptRow_len e.p he.p.len
 have cC := fun W => rcheck19_any e he W
 rw [hc] at cC
 have hB : ∀ (i : Int) (W : World), (Instr.build 58 #[(0, .int .i64 i)]).run Tryz.prog W = .ok (.agg #[.int .i64 i, .int .i64 0, .int .u32 0, .int .i64 0, .int .i64 0, .string ⟨#[]⟩, .int .i64 0, .int .i64 0, .string ⟨#[]⟩, .int .i64 0, .int .i64 0, .string ⟨#[]⟩, .int .i64 0, .int .i64 0, .string ⟨#[]⟩, .int .i64 0, .int .i64 0, .string ⟨#[]⟩, .int .i64 0, .int .i64 0, .string ⟨#[]⟩, .int .i64 0, .int .i64 0, .string ⟨#[]⟩, .int .i64 0, .int .i64 0, .string ⟨#[]⟩]) W := fun _ _ => by kernel_rfl
 have hD := Lib.hid fun W h => (hp W h).deep
 have hpt := Lib.hid fun W1 (h : Fr [g] w W1) W (k : Fr [g] W1 W) => hp W (h.trans k fun x hx => .inl hx)
 have d1 : decide (1099511627676 < b.seq) = false := decide_eq_false hf
 have cS := Lib.hid fun (V c1 c2 c3 : Value) (i : Int) (W : World) h => rstep_nil g b.seq V c1 c2 c3 i W h hsq
 have hfn : ∀ (er : Int) (T : List Int) (s1 : ShS) (k1 : List Key), er ≠ 0 → b.fin (er, T, s1, k1) = (b, [], er) := fun er T s1 k1 h => if_pos h
 have hfp : ∀ (i : Int) (s1 : ShS) (k1 : List Key), b.fin (0, [i], s1, k1) = (⟨b.seq + 1, s1, k1⟩, [(b.seq + 1, i)], 0) := fun _ _ _ => rfl
 have hwq : IntKind.i64.wrap (b.seq + 1) = b.seq + 1 := IntWalk.i64_in _ (by omega)
 have hG := (hp w (Fr.refl _ _)).ks
 have hkk : OkK (keys p.grs) := by rw [hG]; exact hok.ks.ok hm
 have cA := fun W h1 h2 h3 => rsdrop_q g (.int .i64 b.seq) (.slice p.ga p.grs.length p.gc) b.sh p.ca p.cc p.da p.dc e.id (b.seq + 1) (by omega) hok.sh W h1 h2 h3
 have cL := fun W h => rleave_k p.ga p.grs p.grs.length p.gc e.id W h (by have := hkk.nn; omega) hkk.mm
 rw [hG] at cL
 have hno := drop_no (s := b.sh) (id := e.id) (q := b.seq + 1)
 rw [act3 b e hk]
 replace hfn := Lib.hid hfn
 replace hfp := Lib.hid hfp
 simp only [rbV, rbC_eq] at hS
 obtain ⟨kd, i, gn, pt⟩ := e
 have e0 : edRow ⟨kd, i, gn, pt⟩ = .int .i64 kd :: .int .i64 i :: .int .i64 gn :: ptRow pt := rfl
 rw [e0] at cC ⊢
 simp only at *
 subst hk
 replace cC := Lib.hid cC
 clear e0 hc hf
 clear he hok hA hm hp hkk hG
 generalize (b.sh.drop i (b.seq + 1)).2 = er at *
 generalize (b.sh.drop i (b.seq + 1)).1 = s1 at *
 generalize leaveK b.ks i = k1 at *
 replace cA := Lib.hid cA
 replace cL := Lib.hid cL
 replace hno := Lib.hid hno
 generalize ptRow pt = PR at *
 have hrP : ((Value.int .i64 3 :: .int .i64 i :: .int .i64 gn :: PR).toArray.toList.drop 3).take 26 = PR := by simp [← hpl]
 have hsz : sizeB Tryz.prog 44 (Value.int .i64 3 :: .int .i64 i :: .int .i64 gn :: PR).toArray.size = true := by
  rw [List.size_toArray, List.length_cons, List.length_cons, List.length_cons, hpl]
  kernel_rfl
 go_enter Tryz.func48, Tryz.ntmps48
 go_wp2_with (first | (go_at_call 82; (with_reducible refine (cC.out _).mono ?_); rintro _ w3 ⟨rfl, hk9⟩; replace hS := hS.keepB hk9; clear hk9) | ((with_reducible refine wpList_loadall_st 0 hS rfl rfl rfl rfl ?_ hsz ?_); focus (simp [rowB, go_sem]; done)) | (with_reducible refine wpList_box_st hS rfl rfl rfl ?_; clear hS; intro g1 w1 hS) | (with_reducible refine al hS rfl rfl ?_; clear hS; intro g1 w1 hS) | (with_reducible refine ld 0 hS rfl rfl rfl rfl rfl ?_) | (with_reducible refine stor 0 hS rfl rfl rfl rfl rfl rfl rfl rfl ?_; clear hS; intro w1 hS) | (with_reducible refine ld 1 hS rfl rfl rfl rfl rfl ?_))
 have hS1 := St.mid (A := []) (B := [_]) (C := [_, _]) (R := []) hS
 simp only [List.cons_append, List.nil_append, List.append_nil] at hS1
 clear hS
 have hS := hS1
 clear hS1
 refine mixs_beginP [(0, .int .i64 b.seq)] (by kernel_rfl) hS (by simp) ?_
 clear hS
 intro w2 hS hC
 have kb := hC.kblk 0 rfl
 have kq := hC.kpart 1 rfl (0, .int .i64 b.seq) (by simp)
 simp only at kq
 refine tk 0 ?_
 refine tk 1 ?_
 refine tk 2 ?_
 refine tk 3 ?_
 refine tk 4 ?_
 refine tk 5 ?_
 refine tk 6 ?_
 refine tk 7 ?_
 refine tk 8 ?_
 refine tk 9 ?_
 refine mixs_one 10 (by kernel_rfl) rfl (fun K hK => ?_)
 go_simp
 (go_at_call 85; have q1 := hS.preM (A := [_]) (B := [rbC g (.int .i64 b.seq) (.slice p.ga p.grs.length p.gc) b.sh p.ca p.cc p.da p.dc]) (R := [_]); (with_reducible refine (cA.out _ q1 (fun W k => (hpt.out _ hS.fr W k).lc) (fun W k => (hpt.out _ hS.fr W k).ld)).mono ?_); clear q1; rintro _ w3 ⟨rfl, ca1, cc1, da1, dc1, L1, hk9, hKL⟩; have hS1 := hS.callM (A := [_]) (B := [rbC g (.int .i64 b.seq) (.slice p.ga p.grs.length p.gc) b.sh p.ca p.cc p.da p.dc]) (R := [_]) hk9; simp only [List.cons_append, List.nil_append] at hS1; clear hS hk9; replace hKL := Lib.hid hKL; have hS := hS1; clear hS1)
 try clear hC
 refine cl hK (fun hC => ?_)
 clear hK K
 refine tk 11 ?_
 refine wpAnyH_done (by kernel_rfl) ?_ _
 clear kb kq
 have hS1 := St.mid (A := [_, _]) (B := L1) (C := [_]) (R := []) (by simpa using hS)
 simp only [List.cons_append, List.nil_append, List.append_nil, rbC] at hS1
 clear hS
 have hS := hS1
 clear hS1
 by_cases her : er = 0
 case neg =>
  have hfin := Lib.hid (hfn.out er [i] s1 k1 her)
  have hss := Lib.hid (hno.out her)
  have b1 : (er != 0) = true := by simpa using her
  have b2 : (er == 0) = false := by simpa using her
  clear her
  go_wp2_with fail
  go_ret2
  rw [hfin.out]
  rw [hss.out] at hS
  have hKL2 := hKL.out
  rw [hss.out] at hKL2
  exact ⟨⟨ca1, cc1, da1, dc1, p.ga, p.gc, p.grs⟩, none, 0, L1, rfl, (St.dropM (A := [_]) (B := [_]) (R := L1) hS.drop |>.nilrow 48 2).swap, fun w0 F0 A B W hW h => ⟨h.ks, (hKL2 w0 F0 A B W hW).1 h.lc, (hKL2 w0 F0 A B W hW).2 h.ld, h.deep⟩⟩
 subst her
 go_wp2_with fail
 refine mixs_beginC 0 (by kernel_rfl) hS rfl ?_
 clear hS
 intro w4 hS hC
 have kC := hC.kblk 0 rfl
 refine tk 0 ?_
 refine tk 1 ?_
 refine tk 2 ?_
 refine tk 3 ?_
 refine tk 5 ?_
 refine tk 6 ?_
 refine mixs_one 4 (by kernel_rfl) rfl (fun K hK => ?_)
 refine op_load_st (by kernel_rfl) 1 hS rfl rfl rfl (by simp [scalarB, go_sem]) rfl ?_
 try clear hC
 refine cl hK (fun hC => ?_)
 clear hK K
 refine mixs_one 7 (by kernel_rfl) rfl (fun K hK => ?_)
 go_simp
 (go_at_call 86; (with_reducible refine (cL.out _ (hD.out _ hS.fr)).mono ?_); rintro _ w3 ⟨a3, c3, gr3, L3, hk3, rfl, hK3, hk9⟩; have hS1 := St.rot (A := L3) (hS.made hk9); simp only [List.cons_append, List.nil_append] at hS1; clear hS hk9; replace hk3 := Lib.hid hk3; replace hK3 := Lib.hid hK3; have hS := hS1; clear hS1)
 try clear hC
 refine cl hK (fun hC => ?_)
 clear hK K
 refine tk 8 ?_
 refine tk 9 ?_
 refine mixs_one 10 (by kernel_rfl) rfl (fun K hK => ?_)
 refine op_store_st (by kernel_rfl) 1 hS rfl rfl rfl (by kernel_rfl) rfl rfl ?_
 clear hS; intro w1 hS; try simp only [List.set_cons_zero, List.set_cons_succ, List.setIfInBounds_toArray, List.take_succ_cons, List.take_zero, List.drop_succ_cons, List.drop_zero, List.nil_append, List.cons_append, List.append_nil, List.drop_nil, List.take_nil, List.length_cons, List.length_nil, Nat.zero_add, Nat.add_zero, Nat.reduceAdd] at hS
 try clear hC
 refine cl hK (fun hC => ?_)
 clear hK K
 refine wpAnyH_done (by kernel_rfl) ?_ _
 clear kC
 go_wp2_with (first | (go_at_call 89; have hS2 := St.mid (A := []) (B := [_]) (C := [_, _]) (R := _ :: (L1 ++ L3)) (hS.nilrow 48 2); have q1 := hS2.preM (A := [_]) (B := [_, _]) (R := _ :: (L1 ++ L3)); (with_reducible refine (cS.out _ _ _ _ _ _ q1).mono ?_); clear q1; rintro _ w9 ⟨a9, c9, rfl, hk9⟩; have hS1 := hS2.callM (A := [_]) (B := [_, _]) (R := _ :: (L1 ++ L3)) hk9; clear hS hS2 hk9; have hS := hS1; clear hS1) | (with_reducible refine ld 2 hS rfl rfl rfl rfl rfl ?_))
 go_ret2
 rw [hfp.out]
 refine ⟨⟨ca1, cc1, da1, dc1, a3, c3, gr3⟩, a9, c9, L1 ++ L3, rfl, St.dropM (A := [_, _]) (B := [_]) (R := L1 ++ L3) hS.drop, fun w0 F0 A B W hW h => ?_⟩
 have h1 := hKL.out w0 F0 A (L3 ++ B) W (by simpa using hW)
 have h2 := hK3.out w0 F0 (A ++ L1) B W (by simpa using hW) h.deep.mem
 exact ⟨hk3.out, h1.1 h.lc, h1.2 h.ld, h2⟩
end Go.Proofs.YtneolmnpebiifaaGreatDoor
end
section
namespace Go.Proofs.YtneolmnpebiifaaGreatDoor
open Go.RowKit Go.Ofp
set_option maxHeartbeats 8000000
theorem edRow_eq (e : Ed) : edRow e = .int .i64 e.kind :: .int .i64 e.id :: .int .i64 e.group :: ptRow e.p := rfl
theorem rbdo5_any (m g : Nat) (b : BkS) (p : RV) (e : Ed) (he : EdIn e) (hk : e.kind = 5) (hc : e.check = 0) (hf : ¬ 1099511627676 < b.seq) (w : World) (hA : St w [g] [rbV g b p] w) (hok : BkOk m b) (hm : m ≤ 2000) (hp : ∀ W, Fr [g] w W → p.at b W) :
 Calls Tryz.prog 48 #[.pointer (some ⟨g, 0, none⟩), .agg (edRow e).toArray] w (RbOutV g b p (b.fin (b.act e)) w [g]) := by
 have hS := hA
 have ec := elem_card
 have hsq := hok.seq
 have hpl := ptRow_len e.p he.p.len
 have cC := fun W => rcheck19_any e he W
 rw [hc] at cC
 have hB : ∀ (i : Int) (W : World), (Instr.build 58 #[(0, .int .i64 i)]).run Tryz.prog W = .ok (.agg #[.int .i64 i, .int .i64 0, .int .u32 0, .int .i64 0, .int .i64 0, .string ⟨#[]⟩, .int .i64 0, .int .i64 0, .string ⟨#[]⟩, .int .i64 0, .int .i64 0, .string ⟨#[]⟩, .int .i64 0, .int .i64 0, .string ⟨#[]⟩, .int .i64 0, .int .i64 0, .string ⟨#[]⟩, .int .i64 0, .int .i64 0, .string ⟨#[]⟩, .int .i64 0, .int .i64 0, .string ⟨#[]⟩, .int .i64 0, .int .i64 0, .string ⟨#[]⟩]) W := fun _ _ => by kernel_rfl
 have hD := Lib.hid fun W h => (hp W h).deep
 have hpt := Lib.hid fun W1 (h : Fr [g] w W1) W (k : Fr [g] W1 W) => hp W (h.trans k fun x hx => .inl hx)
 have d1 : decide (1099511627676 < b.seq) = false := decide_eq_false hf
 have cS := Lib.hid fun (V c1 c2 c3 : Value) (i : Int) (W : World) h => rstep_nil g b.seq V c1 c2 c3 i W h hsq
 have hfn : ∀ (er : Int) (T : List Int) (s1 : ShS) (k1 : List Key), er ≠ 0 → b.fin (er, T, s1, k1) = (b, [], er) := fun er T s1 k1 h => if_pos h
 have hfp : ∀ (i : Int) (s1 : ShS) (k1 : List Key), b.fin (0, [i], s1, k1) = (⟨b.seq + 1, s1, k1⟩, [(b.seq + 1, i)], 0) := fun _ _ _ => rfl
 have cA := fun W h1 h2 => rbclose_any m g b p e.group W h1 hok hm h2
 rw [act5 b e hk]
 simp only [rbV, rbC_eq] at cA
 replace hfn := Lib.hid hfn
 replace hfp := Lib.hid hfp
 simp only [rbV, rbC_eq] at hS
 obtain ⟨kd, i, gn, pt⟩ := e
 have e0 : edRow ⟨kd, i, gn, pt⟩ = .int .i64 kd :: .int .i64 i :: .int .i64 gn :: ptRow pt := rfl
 rw [e0] at cC ⊢
 simp only at *
 subst hk
 replace cC := Lib.hid cC
 clear e0 hc hf
 clear he hok hA hm hp hfn hfp cS
 generalize b.fin ((closeK b.ks gn).1, membersK b.ks gn ++ [0], b.sh, (closeK b.ks gn).2) = RR at *
 replace cA := Lib.hid cA
 generalize ptRow pt = PR at *
 have hrP : ((Value.int .i64 5 :: .int .i64 i :: .int .i64 gn :: PR).toArray.toList.drop 3).take 26 = PR := by simp [← hpl]
 have hsz : sizeB Tryz.prog 44 (Value.int .i64 5 :: .int .i64 i :: .int .i64 gn :: PR).toArray.size = true := by
  rw [List.size_toArray, List.length_cons, List.length_cons, List.length_cons, hpl]
  kernel_rfl
 go_enter Tryz.func48, Tryz.ntmps48
 go_wp2_with (first | (go_at_call 82; (with_reducible refine (cC.out _).mono ?_); rintro _ w3 ⟨rfl, hk9⟩; replace hS := hS.keepB hk9; clear hk9) | ((with_reducible refine wpList_loadall_st 0 hS rfl rfl rfl rfl ?_ hsz ?_); focus (simp [rowB, go_sem]; done)) | (go_at_call 87; have q1 := hS.preM (A := [_, _]) (B := [rbC g (.int .i64 b.seq) (.slice p.ga p.grs.length p.gc) b.sh p.ca p.cc p.da p.dc]) (R := []); (with_reducible refine (cA.out _ q1 (hpt.out _ hS.fr)).mono ?_); clear q1; rintro _ w3 ⟨p', a8, c8, L8, rfl, hk9, hks⟩; have hS1 := hS.callM (A := [_, _]) (B := [rbC g (.int .i64 b.seq) (.slice p.ga p.grs.length p.gc) b.sh p.ca p.cc p.da p.dc]) (R := []) hk9; rw [List.append_nil] at hS1; clear hS hk9; replace hks := Lib.hid hks; have hS := hS1; clear hS1) | (with_reducible refine wpList_box_st hS rfl rfl rfl ?_; clear hS; intro g1 w1 hS) | (with_reducible refine al hS rfl rfl ?_; clear hS; intro g1 w1 hS) | (with_reducible refine ld 0 hS rfl rfl rfl rfl rfl ?_) | (with_reducible refine stor 0 hS rfl rfl rfl rfl rfl rfl rfl rfl ?_; clear hS; intro w1 hS) | (with_reducible refine ld 1 hS rfl rfl rfl rfl rfl ?_))
 go_ret2
 exact ⟨p', a8, c8, L8, rfl, hS.drop.drop, hks.out⟩
theorem rbdo4_any (m g : Nat) (b : BkS) (p : RV) (e : Ed) (he : EdIn e) (hk : e.kind = 4) (hc : e.check = 0) (hf : ¬ 1099511627676 < b.seq) (w : World) (hA : St w [g] [rbV g b p] w) (hok : BkOk m b) (hm : m ≤ 2000) (hp : ∀ W, Fr [g] w W → p.at b W) :
 Calls Tryz.prog 48 #[.pointer (some ⟨g, 0, none⟩), .agg (edRow e).toArray] w (RbOutV g b p (b.fin (b.act e)) w [g]) := by
 have hS := hA
 have ec := elem_card
 have hsq := hok.seq
 have hpl := ptRow_len e.p he.p.len
 have cC := fun W => rcheck19_any e he W
 rw [hc] at cC
 have hB : ∀ (i : Int) (W : World), (Instr.build 58 #[(0, .int .i64 i)]).run Tryz.prog W = .ok (.agg #[.int .i64 i, .int .i64 0, .int .u32 0, .int .i64 0, .int .i64 0, .string ⟨#[]⟩, .int .i64 0, .int .i64 0, .string ⟨#[]⟩, .int .i64 0, .int .i64 0, .string ⟨#[]⟩, .int .i64 0, .int .i64 0, .string ⟨#[]⟩, .int .i64 0, .int .i64 0, .string ⟨#[]⟩, .int .i64 0, .int .i64 0, .string ⟨#[]⟩, .int .i64 0, .int .i64 0, .string ⟨#[]⟩, .int .i64 0, .int .i64 0, .string ⟨#[]⟩]) W := fun _ _ => by kernel_rfl
 have hD := Lib.hid fun W h => (hp W h).deep
 have hpt := Lib.hid fun W1 (h : Fr [g] w W1) W (k : Fr [g] W1 W) => hp W (h.trans k fun x hx => .inl hx)
 have d1 : decide (1099511627676 < b.seq) = false := decide_eq_false hf
 have cS := Lib.hid fun (V c1 c2 c3 : Value) (i : Int) (W : World) h => rstep_nil g b.seq V c1 c2 c3 i W h hsq
 have hfn : ∀ (er : Int) (T : List Int) (s1 : ShS) (k1 : List Key), er ≠ 0 → b.fin (er, T, s1, k1) = (b, [], er) := fun er T s1 k1 h => if_pos h
 have hfp : ∀ (i : Int) (s1 : ShS) (k1 : List Key), b.fin (0, [i], s1, k1) = (⟨b.seq + 1, s1, k1⟩, [(b.seq + 1, i)], 0) := fun _ _ _ => rfl
 have cA := fun W h1 h2 => rbgroups4_any m g b p e he hk (check4 hk hc) W h1 hok hm h2
 have e1 := edRow_eq e
 rw [e1] at cA
 clear e1
 simp only [rbV, rbC_eq] at cA
 replace hfn := Lib.hid hfn
 replace hfp := Lib.hid hfp
 simp only [rbV, rbC_eq] at hS
 obtain ⟨kd, i, gn, pt⟩ := e
 have e0 : edRow ⟨kd, i, gn, pt⟩ = .int .i64 kd :: .int .i64 i :: .int .i64 gn :: ptRow pt := rfl
 rw [e0] at cC ⊢
 simp only at *
 subst hk
 replace cC := Lib.hid cC
 clear e0 hc hf
 clear he hok hA hm hp hfn hfp cS
 generalize b.fin (b.act ⟨4, i, gn, pt⟩) = RR at *
 replace cA := Lib.hid cA
 generalize ptRow pt = PR at *
 have hrP : ((Value.int .i64 4 :: .int .i64 i :: .int .i64 gn :: PR).toArray.toList.drop 3).take 26 = PR := by simp [← hpl]
 have hsz : sizeB Tryz.prog 44 (Value.int .i64 4 :: .int .i64 i :: .int .i64 gn :: PR).toArray.size = true := by
  rw [List.size_toArray, List.length_cons, List.length_cons, List.length_cons, hpl]
  kernel_rfl
 go_enter Tryz.func48, Tryz.ntmps48
 go_wp2_with (first | (go_at_call 82; (with_reducible refine (cC.out _).mono ?_); rintro _ w3 ⟨rfl, hk9⟩; replace hS := hS.keepB hk9; clear hk9) | ((with_reducible refine wpList_loadall_st 0 hS rfl rfl rfl rfl ?_ hsz ?_); focus (simp [rowB, go_sem]; done)) | ((with_reducible refine wpList_loadall_st 1 hS rfl rfl rfl rfl ?_ hsz ?_); focus (simp [rowB, go_sem]; done)) | (go_at_call 88; have q1 := hS.preM (A := [_, _]) (B := [rbC g (.int .i64 b.seq) (.slice p.ga p.grs.length p.gc) b.sh p.ca p.cc p.da p.dc]) (R := []); (with_reducible refine (cA.out _ q1 (hpt.out _ hS.fr)).mono ?_); clear q1; rintro _ w3 ⟨p', a8, c8, L8, rfl, hk9, hks⟩; have hS1 := hS.callM (A := [_, _]) (B := [rbC g (.int .i64 b.seq) (.slice p.ga p.grs.length p.gc) b.sh p.ca p.cc p.da p.dc]) (R := []) hk9; rw [List.append_nil] at hS1; clear hS hk9; replace hks := Lib.hid hks; have hS := hS1; clear hS1) | (with_reducible refine wpList_box_st hS rfl rfl rfl ?_; clear hS; intro g1 w1 hS) | (with_reducible refine al hS rfl rfl ?_; clear hS; intro g1 w1 hS) | (with_reducible refine ld 0 hS rfl rfl rfl rfl rfl ?_) | (with_reducible refine stor 0 hS rfl rfl rfl rfl rfl rfl rfl rfl ?_; clear hS; intro w1 hS) | (with_reducible refine ld 1 hS rfl rfl rfl rfl rfl ?_))
 go_ret2
 exact ⟨p', a8, c8, L8, rfl, hS.drop.drop, hks.out⟩
theorem rbdo6_any (m g : Nat) (b : BkS) (p : RV) (e : Ed) (he : EdIn e) (hk : e.kind = 6) (hc : e.check = 0) (hf : ¬ 1099511627676 < b.seq) (w : World) (hA : St w [g] [rbV g b p] w) (hok : BkOk m b) (hm : m ≤ 2000) (hp : ∀ W, Fr [g] w W → p.at b W) :
 Calls Tryz.prog 48 #[.pointer (some ⟨g, 0, none⟩), .agg (edRow e).toArray] w (RbOutV g b p (b.fin (b.act e)) w [g]) := by
 have hS := hA
 have ec := elem_card
 have hsq := hok.seq
 have hpl := ptRow_len e.p he.p.len
 have cC := fun W => rcheck19_any e he W
 rw [hc] at cC
 have hB : ∀ (i : Int) (W : World), (Instr.build 58 #[(0, .int .i64 i)]).run Tryz.prog W = .ok (.agg #[.int .i64 i, .int .i64 0, .int .u32 0, .int .i64 0, .int .i64 0, .string ⟨#[]⟩, .int .i64 0, .int .i64 0, .string ⟨#[]⟩, .int .i64 0, .int .i64 0, .string ⟨#[]⟩, .int .i64 0, .int .i64 0, .string ⟨#[]⟩, .int .i64 0, .int .i64 0, .string ⟨#[]⟩, .int .i64 0, .int .i64 0, .string ⟨#[]⟩, .int .i64 0, .int .i64 0, .string ⟨#[]⟩, .int .i64 0, .int .i64 0, .string ⟨#[]⟩]) W := fun _ _ => by kernel_rfl
 have hD := Lib.hid fun W h => (hp W h).deep
 have hpt := Lib.hid fun W1 (h : Fr [g] w W1) W (k : Fr [g] W1 W) => hp W (h.trans k fun x hx => .inl hx)
 have d1 : decide (1099511627676 < b.seq) = false := decide_eq_false hf
 have cS := Lib.hid fun (V c1 c2 c3 : Value) (i : Int) (W : World) h => rstep_nil g b.seq V c1 c2 c3 i W h hsq
 have hfn : ∀ (er : Int) (T : List Int) (s1 : ShS) (k1 : List Key), er ≠ 0 → b.fin (er, T, s1, k1) = (b, [], er) := fun er T s1 k1 h => if_pos h
 have hfp : ∀ (i : Int) (s1 : ShS) (k1 : List Key), b.fin (0, [i], s1, k1) = (⟨b.seq + 1, s1, k1⟩, [(b.seq + 1, i)], 0) := fun _ _ _ => rfl
 have cA := fun W h1 h2 => rbgroups6_any m g b p e he hk W h1 hok hm h2
 have e1 := edRow_eq e
 rw [e1] at cA
 clear e1
 simp only [rbV, rbC_eq] at cA
 replace hfn := Lib.hid hfn
 replace hfp := Lib.hid hfp
 simp only [rbV, rbC_eq] at hS
 obtain ⟨kd, i, gn, pt⟩ := e
 have e0 : edRow ⟨kd, i, gn, pt⟩ = .int .i64 kd :: .int .i64 i :: .int .i64 gn :: ptRow pt := rfl
 rw [e0] at cC ⊢
 simp only at *
 subst hk
 replace cC := Lib.hid cC
 clear e0 hc hf
 clear he hok hA hm hp hfn hfp cS
 generalize b.fin (b.act ⟨6, i, gn, pt⟩) = RR at *
 replace cA := Lib.hid cA
 generalize ptRow pt = PR at *
 have hrP : ((Value.int .i64 6 :: .int .i64 i :: .int .i64 gn :: PR).toArray.toList.drop 3).take 26 = PR := by simp [← hpl]
 have hsz : sizeB Tryz.prog 44 (Value.int .i64 6 :: .int .i64 i :: .int .i64 gn :: PR).toArray.size = true := by
  rw [List.size_toArray, List.length_cons, List.length_cons, List.length_cons, hpl]
  kernel_rfl
 go_enter Tryz.func48, Tryz.ntmps48
 go_wp2_with (first | (go_at_call 82; (with_reducible refine (cC.out _).mono ?_); rintro _ w3 ⟨rfl, hk9⟩; replace hS := hS.keepB hk9; clear hk9) | ((with_reducible refine wpList_loadall_st 0 hS rfl rfl rfl rfl ?_ hsz ?_); focus (simp [rowB, go_sem]; done)) | ((with_reducible refine wpList_loadall_st 1 hS rfl rfl rfl rfl ?_ hsz ?_); focus (simp [rowB, go_sem]; done)) | (go_at_call 88; have q1 := hS.preM (A := [_, _]) (B := [rbC g (.int .i64 b.seq) (.slice p.ga p.grs.length p.gc) b.sh p.ca p.cc p.da p.dc]) (R := []); (with_reducible refine (cA.out _ q1 (hpt.out _ hS.fr)).mono ?_); clear q1; rintro _ w3 ⟨p', a8, c8, L8, rfl, hk9, hks⟩; have hS1 := hS.callM (A := [_, _]) (B := [rbC g (.int .i64 b.seq) (.slice p.ga p.grs.length p.gc) b.sh p.ca p.cc p.da p.dc]) (R := []) hk9; rw [List.append_nil] at hS1; clear hS hk9; replace hks := Lib.hid hks; have hS := hS1; clear hS1) | (with_reducible refine wpList_box_st hS rfl rfl rfl ?_; clear hS; intro g1 w1 hS) | (with_reducible refine al hS rfl rfl ?_; clear hS; intro g1 w1 hS) | (with_reducible refine ld 0 hS rfl rfl rfl rfl rfl ?_) | (with_reducible refine stor 0 hS rfl rfl rfl rfl rfl rfl rfl rfl ?_; clear hS; intro w1 hS) | (with_reducible refine ld 1 hS rfl rfl rfl rfl rfl ?_))
 go_ret2
 exact ⟨p', a8, c8, L8, rfl, hS.drop.drop, hks.out⟩
theorem rbdo7_any (m g : Nat) (b : BkS) (p : RV) (e : Ed) (he : EdIn e) (hk : e.kind = 7) (hc : e.check = 0) (hf : ¬ 1099511627676 < b.seq) (w : World) (hA : St w [g] [rbV g b p] w) (hok : BkOk m b) (hm : m ≤ 2000) (hp : ∀ W, Fr [g] w W → p.at b W) :
 Calls Tryz.prog 48 #[.pointer (some ⟨g, 0, none⟩), .agg (edRow e).toArray] w (RbOutV g b p (b.fin (b.act e)) w [g]) := by
 have hS := hA
 have ec := elem_card
 have hsq := hok.seq
 have hpl := ptRow_len e.p he.p.len
 have cC := fun W => rcheck19_any e he W
 rw [hc] at cC
 have hB : ∀ (i : Int) (W : World), (Instr.build 58 #[(0, .int .i64 i)]).run Tryz.prog W = .ok (.agg #[.int .i64 i, .int .i64 0, .int .u32 0, .int .i64 0, .int .i64 0, .string ⟨#[]⟩, .int .i64 0, .int .i64 0, .string ⟨#[]⟩, .int .i64 0, .int .i64 0, .string ⟨#[]⟩, .int .i64 0, .int .i64 0, .string ⟨#[]⟩, .int .i64 0, .int .i64 0, .string ⟨#[]⟩, .int .i64 0, .int .i64 0, .string ⟨#[]⟩, .int .i64 0, .int .i64 0, .string ⟨#[]⟩, .int .i64 0, .int .i64 0, .string ⟨#[]⟩]) W := fun _ _ => by kernel_rfl
 have hD := Lib.hid fun W h => (hp W h).deep
 have hpt := Lib.hid fun W1 (h : Fr [g] w W1) W (k : Fr [g] W1 W) => hp W (h.trans k fun x hx => .inl hx)
 have d1 : decide (1099511627676 < b.seq) = false := decide_eq_false hf
 have cS := Lib.hid fun (V c1 c2 c3 : Value) (i : Int) (W : World) h => rstep_nil g b.seq V c1 c2 c3 i W h hsq
 have hfn : ∀ (er : Int) (T : List Int) (s1 : ShS) (k1 : List Key), er ≠ 0 → b.fin (er, T, s1, k1) = (b, [], er) := fun er T s1 k1 h => if_pos h
 have hfp : ∀ (i : Int) (s1 : ShS) (k1 : List Key), b.fin (0, [i], s1, k1) = (⟨b.seq + 1, s1, k1⟩, [(b.seq + 1, i)], 0) := fun _ _ _ => rfl
 have cA := fun W h1 h2 => rbgroups7_any m g b p e he hk W h1 hok hm h2
 have e1 := edRow_eq e
 rw [e1] at cA
 clear e1
 simp only [rbV, rbC_eq] at cA
 replace hfn := Lib.hid hfn
 replace hfp := Lib.hid hfp
 simp only [rbV, rbC_eq] at hS
 obtain ⟨kd, i, gn, pt⟩ := e
 have e0 : edRow ⟨kd, i, gn, pt⟩ = .int .i64 kd :: .int .i64 i :: .int .i64 gn :: ptRow pt := rfl
 rw [e0] at cC ⊢
 simp only at *
 subst hk
 replace cC := Lib.hid cC
 clear e0 hc hf
 clear he hok hA hm hp hfn hfp cS
 generalize b.fin (b.act ⟨7, i, gn, pt⟩) = RR at *
 replace cA := Lib.hid cA
 generalize ptRow pt = PR at *
 have hrP : ((Value.int .i64 7 :: .int .i64 i :: .int .i64 gn :: PR).toArray.toList.drop 3).take 26 = PR := by simp [← hpl]
 have hsz : sizeB Tryz.prog 44 (Value.int .i64 7 :: .int .i64 i :: .int .i64 gn :: PR).toArray.size = true := by
  rw [List.size_toArray, List.length_cons, List.length_cons, List.length_cons, hpl]
  kernel_rfl
 go_enter Tryz.func48, Tryz.ntmps48
 go_wp2_with (first | (go_at_call 82; (with_reducible refine (cC.out _).mono ?_); rintro _ w3 ⟨rfl, hk9⟩; replace hS := hS.keepB hk9; clear hk9) | ((with_reducible refine wpList_loadall_st 0 hS rfl rfl rfl rfl ?_ hsz ?_); focus (simp [rowB, go_sem]; done)) | ((with_reducible refine wpList_loadall_st 1 hS rfl rfl rfl rfl ?_ hsz ?_); focus (simp [rowB, go_sem]; done)) | (go_at_call 88; have q1 := hS.preM (A := [_, _]) (B := [rbC g (.int .i64 b.seq) (.slice p.ga p.grs.length p.gc) b.sh p.ca p.cc p.da p.dc]) (R := []); (with_reducible refine (cA.out _ q1 (hpt.out _ hS.fr)).mono ?_); clear q1; rintro _ w3 ⟨p', a8, c8, L8, rfl, hk9, hks⟩; have hS1 := hS.callM (A := [_, _]) (B := [rbC g (.int .i64 b.seq) (.slice p.ga p.grs.length p.gc) b.sh p.ca p.cc p.da p.dc]) (R := []) hk9; rw [List.append_nil] at hS1; clear hS hk9; replace hks := Lib.hid hks; have hS := hS1; clear hS1) | (with_reducible refine wpList_box_st hS rfl rfl rfl ?_; clear hS; intro g1 w1 hS) | (with_reducible refine al hS rfl rfl ?_; clear hS; intro g1 w1 hS) | (with_reducible refine ld 0 hS rfl rfl rfl rfl rfl ?_) | (with_reducible refine stor 0 hS rfl rfl rfl rfl rfl rfl rfl rfl ?_; clear hS; intro w1 hS) | (with_reducible refine ld 1 hS rfl rfl rfl rfl rfl ?_))
 go_ret2
 exact ⟨p', a8, c8, L8, rfl, hS.drop.drop, hks.out⟩
theorem rbdo_any (m g : Nat) (b : BkS) (p : RV) (e : Ed) (he : EdIn e) (w : World) (hA : St w [g] [rbV g b p] w) (hok : BkOk m b) (hm : m ≤ 2000) (hp : ∀ W, Fr [g] w W → p.at b W) :
 Calls Tryz.prog 48 #[.pointer (some ⟨g, 0, none⟩), .agg (edRow e).toArray] w (RbOutV g b p (b.does e) w [g]) := by
 by_cases hc : e.check = 0
 case neg =>
  have hS := hA
  have hd : b.does e = (b, [], e.check) := if_pos hc
  rw [hd]
  have cC := fun W => rcheck19_any e he W
  have hpl := edRow_len e he.p.len
  have hno := Lib.hid fun (er : Int) (w' : World) (hS : St w [g] [rbV g b p] w') => rbOutV_no (er := er) hS
  simp only [rbV, rbC_eq] at hS hno
  have b1 : (e.check != 0) = true := by simpa using hc
  have hsz : sizeB Tryz.prog 44 (edRow e).toArray.size = true := by
   rw [List.size_toArray, hpl]
   kernel_rfl
  clear hd hc he hp hok hA
  generalize edRow e = RE at *
  generalize e.check = er at *
  replace cC := Lib.hid cC
  go_enter Tryz.func48, Tryz.ntmps48
  go_wp2_with (first | (go_at_call 82; (with_reducible refine (cC.out _).mono ?_); rintro _ w3 ⟨rfl, hk9⟩; replace hS := hS.keepB hk9; clear hk9) | ((with_reducible refine wpList_loadall_st 0 hS rfl rfl rfl rfl ?_ hsz ?_); focus (simp [rowB, go_sem]; done)) | (with_reducible refine wpList_box_st hS rfl rfl rfl ?_; clear hS; intro g1 w1 hS))
  go_ret2
  exact hno.out _ _ hS.drop
 by_cases hf : 1099511627676 < b.seq
 case pos =>
  have hS := hA
  have hd : b.does e = (b, [], 8) := by unfold BkS.does; rw [if_neg (by simpa using hc), if_pos hf]
  rw [hd]
  have cC := fun W => rcheck19_any e he W
  rw [hc] at cC
  have hpl := edRow_len e he.p.len
  have hno := Lib.hid fun (er : Int) (w' : World) (hS : St w [g] [rbV g b p] w') => rbOutV_no (er := er) hS
  simp only [rbV, rbC_eq] at hS hno
  have d1 : decide (1099511627676 < b.seq) = true := decide_eq_true hf
  have hsz : sizeB Tryz.prog 44 (edRow e).toArray.size = true := by
   rw [List.size_toArray, hpl]
   kernel_rfl
  clear hd hc he hp hok hA hf
  generalize edRow e = RE at *
  replace cC := Lib.hid cC
  go_enter Tryz.func48, Tryz.ntmps48
  go_wp2_with (first | (go_at_call 82; (with_reducible refine (cC.out _).mono ?_); rintro _ w3 ⟨rfl, hk9⟩; replace hS := hS.keepB hk9; clear hk9) | ((with_reducible refine wpList_loadall_st 0 hS rfl rfl rfl rfl ?_ hsz ?_); focus (simp [rowB, go_sem]; done)) | (with_reducible refine wpList_box_st hS rfl rfl rfl ?_; clear hS; intro g1 w1 hS) | (with_reducible refine ld 1 hS rfl rfl rfl rfl rfl ?_))
  go_ret2
  exact hno.out _ _ hS.drop
 rw [does_fin hc hf]
 rcases check_kind hc with hk | hk | hk | hk | hk | hk | hk
 · exact rbdo1_any m g b p e he hk hc hf w hA hok hm hp
 · exact rbdo2_any m g b p e he hk hc hf w hA hok hm hp
 · exact rbdo3_any m g b p e he hk hc hf w hA hok hm hp
 · exact rbdo4_any m g b p e he hk hc hf w hA hok hm hp
 · exact rbdo5_any m g b p e he hk hc hf w hA hok hm hp
 · exact rbdo6_any m g b p e he hk hc hf w hA hok hm hp
 · exact rbdo7_any m g b p e he hk hc hf w hA hok hm hp
end Go.Proofs.YtneolmnpebiifaaGreatDoor
end
