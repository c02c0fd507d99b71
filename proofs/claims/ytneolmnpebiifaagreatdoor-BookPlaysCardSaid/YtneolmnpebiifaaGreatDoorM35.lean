import Derived.Test.YtneolmnpebiifaaGreatDoorM34
set_option linter.unusedVariables false
set_option linter.unusedSimpArgs false
set_option maxRecDepth 100000
section
namespace Go.Ofp
def eqB (a b : BkS) : Bool := (a.seq == b.seq) && ((a.sh.next == b.sh.next) && (decide (a.sh.m = b.sh.m) && (decide (a.sh.dead = b.sh.dead) && decide (a.ks = b.ks))))
theorem eqB_iff (a b : BkS) : eqB a b = true ↔ a = b := by
 obtain ⟨s1, ⟨n1, m1, d1⟩, k1⟩ := a
 obtain ⟨s2, ⟨n2, m2, d2⟩, k2⟩ := b
 simp [eqB, and_assoc]
theorem eqB_self (a : BkS) : eqB a a = true := (eqB_iff a a).2 rfl
end Go.Ofp
namespace Go.Proofs.YtneolmnpebiifaaGreatDoor
open Go.RowKit Go.Ofp
set_option maxHeartbeats 4000000
structure BkSz (b : BkS) : Prop where
 m : b.sh.m.length ≤ 50000
 d : b.sh.dead.length ≤ 50000
theorem rbsame_any (a b : BkS) (r t : RV) (w : World) (ha : r.at a w) (hb : t.at b w) (hsa : BkSz a) (hsb : BkSz b) :
 Calls Tryz.prog 12 #[.agg (bdRow a r).toArray, .agg (bdRow b t).toArray] w fun e w' => e = .returned (.bool (eqB a b)) ∧ Below w.heap.size w w' := by
 have hS := St.start w
 have cC := fun W (h : Below w.heap.size w W) => csame_any r.ca t.ca a.sh.m.length b.sh.m.length r.cc t.cc a.sh.m b.sh.m W (ha.lc.below h) (hb.lc.below h) hsa.m hsb.m
 have cD := fun W (h : Below w.heap.size w W) => dsame_any r.da t.da a.sh.dead.length b.sh.dead.length r.dc t.dc a.sh.dead b.sh.dead W (ha.ld.below h) (hb.ld.below h) hsa.d hsb.d
 have cG := fun W (h : Below w.heap.size w W) => rgsame_any r.ga t.ga r.grs t.grs r.grs.length t.grs.length r.gc t.gc W (ha.deep.below h) (hb.deep.below h)
 rw [ha.ks, hb.ks] at cG
 unfold eqB
 rw [bdRow_eq, bdRow_eq]
 clear ha hb hsa hsb
 generalize hE1 : (a.seq == b.seq) = E1
 generalize hE2 : (a.sh.next == b.sh.next) = E2
 generalize decide (a.sh.m = b.sh.m) = E3 at *
 generalize decide (a.sh.dead = b.sh.dead) = E4 at *
 generalize decide (a.ks = b.ks) = E5 at *
 replace cC := Lib.hid cC
 replace cD := Lib.hid cD
 replace cG := Lib.hid cG
 generalize a.seq = x1 at *
 generalize b.seq = y1 at *
 generalize a.sh.next = x2 at *
 generalize b.sh.next = y2 at *
 generalize a.sh.m.length = n1 at *
 generalize b.sh.m.length = n2 at *
 generalize a.sh.dead.length = n3 at *
 generalize b.sh.dead.length = n4 at *
 cases E1
 case false =>
  clear hE2
  go_enter Tryz.func12, Tryz.ntmps12
  go_upto_region 1 with ((with_reducible refine wpList_box_st hS rfl rfl rfl ?_; clear hS; intro g1 w1 hS))
  have z1 := hS.cell 0 rfl
  have z2 := hS.cell 1 rfl
  go_wp2_with fail
  go_ret
  exact ⟨rfl, hS.below⟩
 cases E2
 case false =>
  go_enter Tryz.func12, Tryz.ntmps12
  go_upto_region 1 with ((with_reducible refine wpList_box_st hS rfl rfl rfl ?_; clear hS; intro g1 w1 hS))
  have z1 := hS.cell 0 rfl
  have z2 := hS.cell 1 rfl
  go_wp2_with fail
  go_ret
  exact ⟨rfl, hS.below⟩
 cases E3
 case false =>
  go_enter Tryz.func12, Tryz.ntmps12
  go_upto_region 1 with ((with_reducible refine wpList_box_st hS rfl rfl rfl ?_; clear hS; intro g1 w1 hS))
  have z1 := hS.cell 0 rfl
  have z2 := hS.cell 1 rfl
  go_wp2_with ((go_at_call 20; (with_reducible refine (cC.out _ hS.below).mono ?_); rintro _ w3 ⟨rfl, hk9⟩; clear z1 z2; replace hS := hS.keepB hk9; clear hk9; have z1 := hS.cell 0 rfl; have z2 := hS.cell 1 rfl))
  go_ret
  exact ⟨rfl, hS.below⟩
 cases E4
 case false =>
  go_enter Tryz.func12, Tryz.ntmps12
  go_upto_region 1 with ((with_reducible refine wpList_box_st hS rfl rfl rfl ?_; clear hS; intro g1 w1 hS))
  have z1 := hS.cell 0 rfl
  have z2 := hS.cell 1 rfl
  go_wp2_with (first | (go_at_call 20; (with_reducible refine (cC.out _ hS.below).mono ?_); rintro _ w3 ⟨rfl, hk9⟩; clear z1 z2; replace hS := hS.keepB hk9; clear hk9; have z1 := hS.cell 0 rfl; have z2 := hS.cell 1 rfl) | (go_at_call 46; (with_reducible refine (cD.out _ hS.below).mono ?_); rintro _ w3 ⟨rfl, hk9⟩; clear z1 z2; replace hS := hS.keepB hk9; clear hk9; have z1 := hS.cell 0 rfl; have z2 := hS.cell 1 rfl))
  go_ret
  exact ⟨rfl, hS.below⟩
 cases E5
 case false =>
  go_enter Tryz.func12, Tryz.ntmps12
  go_upto_region 1 with ((with_reducible refine wpList_box_st hS rfl rfl rfl ?_; clear hS; intro g1 w1 hS))
  have z1 := hS.cell 0 rfl
  have z2 := hS.cell 1 rfl
  go_wp2_with (first | (go_at_call 20; (with_reducible refine (cC.out _ hS.below).mono ?_); rintro _ w3 ⟨rfl, hk9⟩; clear z1 z2; replace hS := hS.keepB hk9; clear hk9; have z1 := hS.cell 0 rfl; have z2 := hS.cell 1 rfl) | (go_at_call 46; (with_reducible refine (cD.out _ hS.below).mono ?_); rintro _ w3 ⟨rfl, hk9⟩; clear z1 z2; replace hS := hS.keepB hk9; clear hk9; have z1 := hS.cell 0 rfl; have z2 := hS.cell 1 rfl) | (go_at_call 47; (with_reducible refine (cG.out _ hS.below).mono ?_); rintro _ w3 ⟨rfl, hk9⟩; clear z1 z2; replace hS := hS.keepB hk9; clear hk9; have z1 := hS.cell 0 rfl; have z2 := hS.cell 1 rfl))
  go_ret
  exact ⟨rfl, hS.below⟩
 go_enter Tryz.func12, Tryz.ntmps12
 go_upto_region 1 with ((with_reducible refine wpList_box_st hS rfl rfl rfl ?_; clear hS; intro g1 w1 hS))
 have z1 := hS.cell 0 rfl
 have z2 := hS.cell 1 rfl
 go_wp2_with (first | (go_at_call 20; (with_reducible refine (cC.out _ hS.below).mono ?_); rintro _ w3 ⟨rfl, hk9⟩; clear z1 z2; replace hS := hS.keepB hk9; clear hk9; have z1 := hS.cell 0 rfl; have z2 := hS.cell 1 rfl) | (go_at_call 46; (with_reducible refine (cD.out _ hS.below).mono ?_); rintro _ w3 ⟨rfl, hk9⟩; clear z1 z2; replace hS := hS.keepB hk9; clear hk9; have z1 := hS.cell 0 rfl; have z2 := hS.cell 1 rfl) | (go_at_call 47; (with_reducible refine (cG.out _ hS.below).mono ?_); rintro _ w3 ⟨rfl, hk9⟩; clear z1 z2; replace hS := hS.keepB hk9; clear hk9; have z1 := hS.cell 0 rfl; have z2 := hS.cell 1 rfl))
 go_ret
 exact ⟨rfl, hS.below⟩
theorem bksame_any (a b : BkS) (r t : RV) (w : World) (ha : r.at a w) (hb : t.at b w) (hsa : BkSz a) (hsb : BkSz b) :
 Calls Tryz.prog 30 #[.agg (bdRow a r).toArray, .agg (bdRow b t).toArray] w fun e w' => e = .returned (.bool (eqB a b)) ∧ Below w.heap.size w w' := by
 have hS := St.start w
 have cC := fun W (h : Below w.heap.size w W) => cdsame_any r.ca t.ca a.sh.m.length b.sh.m.length r.cc t.cc a.sh.m b.sh.m W (ha.lc.below h) (hb.lc.below h) hsa.m hsb.m
 have cD := fun W (h : Below w.heap.size w W) => deq_any r.da t.da a.sh.dead.length b.sh.dead.length r.dc t.dc a.sh.dead b.sh.dead W (ha.ld.below h) (hb.ld.below h) hsa.d hsb.d
 have cG := fun W (h : Below w.heap.size w W) => same_any r.ga t.ga r.grs t.grs r.grs.length t.grs.length r.gc t.gc W (ha.deep.below h) (hb.deep.below h)
 rw [ha.ks, hb.ks] at cG
 unfold eqB
 rw [bdRow_eq, bdRow_eq]
 clear ha hb hsa hsb
 generalize hE1 : (a.seq == b.seq) = E1
 generalize hE2 : (a.sh.next == b.sh.next) = E2
 generalize decide (a.sh.m = b.sh.m) = E3 at *
 generalize decide (a.sh.dead = b.sh.dead) = E4 at *
 generalize decide (a.ks = b.ks) = E5 at *
 replace cC := Lib.hid cC
 replace cD := Lib.hid cD
 replace cG := Lib.hid cG
 generalize a.seq = x1 at *
 generalize b.seq = y1 at *
 generalize a.sh.next = x2 at *
 generalize b.sh.next = y2 at *
 generalize a.sh.m.length = n1 at *
 generalize b.sh.m.length = n2 at *
 generalize a.sh.dead.length = n3 at *
 generalize b.sh.dead.length = n4 at *
 cases E1
 case false =>
  clear hE2
  go_enter Tryz.func30, Tryz.ntmps30
  go_upto_region 1 with ((with_reducible refine wpList_box_st hS rfl rfl rfl ?_; clear hS; intro g1 w1 hS))
  have z1 := hS.cell 0 rfl
  have z2 := hS.cell 1 rfl
  go_wp2_with fail
  go_ret
  exact ⟨rfl, hS.below⟩
 cases E2
 case false =>
  go_enter Tryz.func30, Tryz.ntmps30
  go_upto_region 1 with ((with_reducible refine wpList_box_st hS rfl rfl rfl ?_; clear hS; intro g1 w1 hS))
  have z1 := hS.cell 0 rfl
  have z2 := hS.cell 1 rfl
  go_wp2_with fail
  go_ret
  exact ⟨rfl, hS.below⟩
 cases E3
 case false =>
  go_enter Tryz.func30, Tryz.ntmps30
  go_upto_region 1 with ((with_reducible refine wpList_box_st hS rfl rfl rfl ?_; clear hS; intro g1 w1 hS))
  have z1 := hS.cell 0 rfl
  have z2 := hS.cell 1 rfl
  go_wp2_with ((go_at_call 62; (with_reducible refine (cC.out _ hS.below).mono ?_); rintro _ w3 ⟨rfl, hk9⟩; clear z1 z2; replace hS := hS.keepB hk9; clear hk9; have z1 := hS.cell 0 rfl; have z2 := hS.cell 1 rfl))
  go_ret
  exact ⟨rfl, hS.below⟩
 cases E4
 case false =>
  go_enter Tryz.func30, Tryz.ntmps30
  go_upto_region 1 with ((with_reducible refine wpList_box_st hS rfl rfl rfl ?_; clear hS; intro g1 w1 hS))
  have z1 := hS.cell 0 rfl
  have z2 := hS.cell 1 rfl
  go_wp2_with (first | (go_at_call 62; (with_reducible refine (cC.out _ hS.below).mono ?_); rintro _ w3 ⟨rfl, hk9⟩; clear z1 z2; replace hS := hS.keepB hk9; clear hk9; have z1 := hS.cell 0 rfl; have z2 := hS.cell 1 rfl) | (go_at_call 63; (with_reducible refine (cD.out _ hS.below).mono ?_); rintro _ w3 ⟨rfl, hk9⟩; clear z1 z2; replace hS := hS.keepB hk9; clear hk9; have z1 := hS.cell 0 rfl; have z2 := hS.cell 1 rfl))
  go_ret
  exact ⟨rfl, hS.below⟩
 cases E5
 case false =>
  go_enter Tryz.func30, Tryz.ntmps30
  go_upto_region 1 with ((with_reducible refine wpList_box_st hS rfl rfl rfl ?_; clear hS; intro g1 w1 hS))
  have z1 := hS.cell 0 rfl
  have z2 := hS.cell 1 rfl
  go_wp2_with (first | (go_at_call 62; (with_reducible refine (cC.out _ hS.below).mono ?_); rintro _ w3 ⟨rfl, hk9⟩; clear z1 z2; replace hS := hS.keepB hk9; clear hk9; have z1 := hS.cell 0 rfl; have z2 := hS.cell 1 rfl) | (go_at_call 63; (with_reducible refine (cD.out _ hS.below).mono ?_); rintro _ w3 ⟨rfl, hk9⟩; clear z1 z2; replace hS := hS.keepB hk9; clear hk9; have z1 := hS.cell 0 rfl; have z2 := hS.cell 1 rfl) | (go_at_call 64; (with_reducible refine (cG.out _ hS.below).mono ?_); rintro _ w3 ⟨rfl, hk9⟩; clear z1 z2; replace hS := hS.keepB hk9; clear hk9; have z1 := hS.cell 0 rfl; have z2 := hS.cell 1 rfl))
  go_ret
  exact ⟨rfl, hS.below⟩
 go_enter Tryz.func30, Tryz.ntmps30
 go_upto_region 1 with ((with_reducible refine wpList_box_st hS rfl rfl rfl ?_; clear hS; intro g1 w1 hS))
 have z1 := hS.cell 0 rfl
 have z2 := hS.cell 1 rfl
 go_wp2_with (first | (go_at_call 62; (with_reducible refine (cC.out _ hS.below).mono ?_); rintro _ w3 ⟨rfl, hk9⟩; clear z1 z2; replace hS := hS.keepB hk9; clear hk9; have z1 := hS.cell 0 rfl; have z2 := hS.cell 1 rfl) | (go_at_call 63; (with_reducible refine (cD.out _ hS.below).mono ?_); rintro _ w3 ⟨rfl, hk9⟩; clear z1 z2; replace hS := hS.keepB hk9; clear hk9; have z1 := hS.cell 0 rfl; have z2 := hS.cell 1 rfl) | (go_at_call 64; (with_reducible refine (cG.out _ hS.below).mono ?_); rintro _ w3 ⟨rfl, hk9⟩; clear z1 z2; replace hS := hS.keepB hk9; clear hk9; have z1 := hS.cell 0 rfl; have z2 := hS.cell 1 rfl))
 go_ret
 exact ⟨rfl, hS.below⟩
end Go.Proofs.YtneolmnpebiifaaGreatDoor
end
section
namespace Go.Proofs.YtneolmnpebiifaaGreatDoor
open Go.RowKit Go.Ofp
set_option maxHeartbeats 4000000
theorem rswrite_b (g : Nat) (q v : Value) (s : ShS) (ca : Option Addr) (cc : Nat) (da : Option Addr) (dc : Nat) (id : Int) (p : Pt) (hp : PtIn p) (w : World) (hS : St w [g] [rbB g q v (rsRow s ca cc da dc)] w) (hl : ∀ W, Fr [g] w W → LC W s ca cc) (hd : ∀ W, Fr [g] w W → LD W s da dc) (hok : ShOk s) :
 Calls Tryz.prog 84 #[.pointer (some ⟨g, 1, none⟩), .int .i64 id, .agg (ptRow p).toArray] w fun e w' => e = .returned (sgV (s.write id p).2) ∧ RsCb g q v s (s.write id p).1 ca cc da dc w w' := by
 have ec := elem_card
 have cC := fun W => rcp_any p hp.len hp.mask hp.lab W
 have cG := fun W h1 h2 => rsget_any s ca cc da dc id W h1 h2
 have hgf := get_f hok id
 have cP := fun W h => splace_any s ca cc da dc id W h
 have hgv : 0 ≤ (s.get id).1.ver ∧ (s.get id).1.ver ≤ 1099511627776 := by
  cases hlk : lookC s.m id with
  | none => rw [get_none hlk]; exact ⟨(by decide : (0 : Int) ≤ 0), (by decide : (0 : Int) ≤ 1099511627776)⟩
  | some c => rw [get_some hlk]; exact hok.ver c (look_mem hlk).1
 have cM := fun W => rmg_any (s.get id).1 p hp.mask hgv hgf hp.len W
 have hfin : (s.get id).2 = 0 → plV s.m id = (placeC s.m id : Int) ∧ placeC s.m id < s.m.length ∧ s.m.set (placeC s.m id) ((s.get id).1.merge p) = putC s.m ((s.get id).1.merge p) := fun h => by
  have hl := get_ok h
  have h1 : (lookC s.m id).isSome = true := by rw [hl]; rfl
  have h2 := set_putC (c := (s.get id).1.merge p) hok.ris
  rw [merge_id, (look_mem hl).2] at h2
  refine ⟨?_, placeC_lt.2 h1, h2⟩
  unfold plV
  rw [if_pos h1]
 have hmcf : ((s.get id).1.merge p).f.length = 8 := (merge_f _ _).trans hgf
 have hpl := ptRow_len p hp.len
 have hsz : sizeB Tryz.prog 42 (ptRow p).toArray.size = true := by rw [List.size_toArray, hpl]; kernel_rfl
 have hwr : s.write id p = if p.check ≠ 0 then (s, Cd.none 0, p.check) else if (s.get id).2 ≠ 0 then (s, Cd.none 0, (s.get id).2) else if 1099511627776 ≤ (s.get id).1.ver then (s, Cd.none 0, 8) else (⟨s.next, putC s.m ((s.get id).1.merge p), s.dead⟩, (s.get id).1.merge p, 0) := rfl
 have hgV : sgV (s.get id) = .tuple #[.agg (cdRow (s.get id).1).toArray, .int .i64 (s.get id).2] := rfl
 have hcl := cdRow_lenT _ hgf
 have hco := cdRow_oneT (s.get id).1
 rw [hwr]
 rw [hgV] at cG
 obtain ⟨CT, hCT⟩ : ∃ CT, cdRow (s.get id).1 = .int .i64 (s.get id).1.id :: .int .i64 (s.get id).1.ver :: CT := ⟨_, rfl⟩
 rw [hCT] at cG hcl hco cM
 have hR : rsRow s ca cc da dc = [.int .i64 s.next, .slice ca s.m.length cc, .slice da s.dead.length dc] := rfl
 have hsame : ∀ W (L : List Ch), St w [g] (rbB g q v (rsRow s ca cc da dc) :: L) W → RsCb g q v s s ca cc da dc w W := fun W L h => ⟨ca, cc, [], h.one 0 rfl, .inl ⟨rfl, rfl, rfl, rfl⟩⟩
 rw [hR] at cG cP hS hsame
 simp only [rbB, List.cons_append, List.nil_append] at hS hsame
 clear hgv
 replace hsame := Lib.hid hsame
 replace cG := Lib.hid cG
 replace hl := Lib.hid hl
 replace hd := Lib.hid hd
 generalize hgg : (s.get id).1.merge p = MC at *
 generalize (s.get id).1.id = ci at *
 generalize (s.get id).1.ver = cv at *
 generalize (s.get id).2 = er at *
 generalize ptRow p = RP at *
 by_cases hck : p.check = 0
 case neg =>
  rw [if_pos hck]
  have b1 : (p.check != 0) = true := by simpa using hck
  clear hck
  generalize p.check = ck at *
  replace cC := Lib.hid cC
  go_enter Tryz.func84, Tryz.ntmps84
  go_wp2_with (first | (go_at_call 129; (with_reducible refine (cC.out _).mono ?_); rintro _ w3 ⟨rfl, hk9⟩; replace hS := hS.keepB hk9; clear hk9) | (with_reducible refine wpList_box_st hS rfl rfl rfl ?_; clear hS; intro gp w1 hS) | ((with_reducible refine wpList_loadall_st 1 hS rfl rfl rfl rfl ?_ hsz ?_); focus (simp [rowB, go_sem]; done)) | (with_reducible refine al hS rfl rfl ?_; clear hS; intro g1 w1 hS) | (with_reducible refine stor 0 hS rfl rfl rfl rfl rfl rfl rfl rfl ?_; clear hS; intro w1 hS))
  rw [sgV_zero]
  exact bodyPost_ret (v := .tuple #[.agg #[.int .i64 0, .int .i64 0, .int .u32 0, .int .i64 0, .int .i64 0, .string ⟨#[]⟩, .int .i64 0, .int .i64 0, .string ⟨#[]⟩, .int .i64 0, .int .i64 0, .string ⟨#[]⟩, .int .i64 0, .int .i64 0, .string ⟨#[]⟩, .int .i64 0, .int .i64 0, .string ⟨#[]⟩, .int .i64 0, .int .i64 0, .string ⟨#[]⟩, .int .i64 0, .int .i64 0, .string ⟨#[]⟩, .int .i64 0, .int .i64 0, .string ⟨#[]⟩], .int .i64 ck]) (results_blk_tmp Tryz.results84 rfl hS 0 rfl (by kernel_rfl) (by kernel_rfl) rfl) rfl ⟨rfl, hsame.out _ _ hS.drop.drop⟩
 rw [if_neg (by simp [hck])]
 rw [hck] at cC
 replace cC := Lib.hid cC
 clear hck
 by_cases her : er = 0
 case neg =>
  rw [if_pos her]
  have b2 : (er != 0) = true := by simpa using her
  clear her
  go_enter Tryz.func84, Tryz.ntmps84
  go_wp2_with (first | ((with_reducible refine wpList_loadrow_st (t := 51) (n := 3) (j := 1) (vs := [.int .i64 s.next, .slice ca s.m.length cc, .slice da s.dead.length dc]) 2 hS rfl rfl rfl rfl (by kernel_rfl) (by kernel_rfl) rfl rfl ?_)) | (go_at_call 129; (with_reducible refine (cC.out _).mono ?_); rintro _ w3 ⟨rfl, hk9⟩; replace hS := hS.keepB hk9; clear hk9) | (with_reducible refine wpList_box_st hS rfl rfl rfl ?_; clear hS; intro gp w1 hS) | ((with_reducible refine wpList_loadall_st 1 hS rfl rfl rfl rfl ?_ hsz ?_); focus (simp [rowB, go_sem]; done)) | (go_at_call 17; (with_reducible refine (cG.out _ (hl.out _ hS.fr) (hd.out _ hS.fr)).mono ?_); rintro _ w3 ⟨rfl, hk9⟩; replace hS := hS.keepB hk9; clear hk9) | ((with_reducible refine wpList_storerow_st (t := 58) (n := 27) (vs := Value.int .i64 ci :: .int .i64 cv :: CT) 0 hS rfl rfl rfl rfl (by kernel_rfl) rfl hcl hco (by kernel_rfl) ?_); clear hS; intro w1 hS; try simp only [List.set_cons_zero, List.set_cons_succ, List.setIfInBounds_toArray, List.take_succ_cons, List.take_zero, List.drop_succ_cons, List.drop_zero, List.nil_append, List.cons_append, List.append_nil, List.drop_nil, List.take_nil, List.length_cons, List.length_nil, Nat.zero_add, Nat.add_zero, Nat.reduceAdd] at hS) | (with_reducible refine al hS rfl rfl ?_; clear hS; intro g1 w1 hS) | (with_reducible refine stor 1 hS rfl rfl rfl rfl rfl rfl rfl rfl ?_; clear hS; intro w1 hS))
  rw [sgV_zero]
  exact bodyPost_ret (v := .tuple #[.agg #[.int .i64 0, .int .i64 0, .int .u32 0, .int .i64 0, .int .i64 0, .string ⟨#[]⟩, .int .i64 0, .int .i64 0, .string ⟨#[]⟩, .int .i64 0, .int .i64 0, .string ⟨#[]⟩, .int .i64 0, .int .i64 0, .string ⟨#[]⟩, .int .i64 0, .int .i64 0, .string ⟨#[]⟩, .int .i64 0, .int .i64 0, .string ⟨#[]⟩, .int .i64 0, .int .i64 0, .string ⟨#[]⟩, .int .i64 0, .int .i64 0, .string ⟨#[]⟩], .int .i64 er]) (results_blk_tmp Tryz.results84 rfl hS 1 rfl (by kernel_rfl) (by kernel_rfl) rfl) rfl ⟨rfl, hsame.out _ _ hS.drop.drop.drop⟩
 rw [if_neg (by simp [her])]
 subst her
 by_cases hv : 1099511627776 ≤ cv
 · rw [if_pos hv]
   have dv : decide (1099511627776 ≤ cv) = true := decide_eq_true hv
   clear hv
   go_enter Tryz.func84, Tryz.ntmps84
   go_wp2_with (first | ((with_reducible refine wpList_loadrow_st (t := 51) (n := 3) (j := 1) (vs := [.int .i64 s.next, .slice ca s.m.length cc, .slice da s.dead.length dc]) 2 hS rfl rfl rfl rfl (by kernel_rfl) (by kernel_rfl) rfl rfl ?_)) | (go_at_call 129; (with_reducible refine (cC.out _).mono ?_); rintro _ w3 ⟨rfl, hk9⟩; replace hS := hS.keepB hk9; clear hk9) | (with_reducible refine wpList_box_st hS rfl rfl rfl ?_; clear hS; intro gp w1 hS) | ((with_reducible refine wpList_loadall_st 1 hS rfl rfl rfl rfl ?_ hsz ?_); focus (simp [rowB, go_sem]; done)) | (go_at_call 17; (with_reducible refine (cG.out _ (hl.out _ hS.fr) (hd.out _ hS.fr)).mono ?_); rintro _ w3 ⟨rfl, hk9⟩; replace hS := hS.keepB hk9; clear hk9) | ((with_reducible refine wpList_storerow_st (t := 58) (n := 27) (vs := Value.int .i64 ci :: .int .i64 cv :: CT) 0 hS rfl rfl rfl rfl (by kernel_rfl) rfl hcl hco (by kernel_rfl) ?_); clear hS; intro w1 hS; try simp only [List.set_cons_zero, List.set_cons_succ, List.setIfInBounds_toArray, List.take_succ_cons, List.take_zero, List.drop_succ_cons, List.drop_zero, List.nil_append, List.cons_append, List.append_nil, List.drop_nil, List.take_nil, List.length_cons, List.length_nil, Nat.zero_add, Nat.add_zero, Nat.reduceAdd] at hS) | (with_reducible refine al hS rfl rfl ?_; clear hS; intro g1 w1 hS) | (with_reducible refine ld 0 hS rfl rfl rfl rfl rfl ?_) | (with_reducible refine stor 1 hS rfl rfl rfl rfl rfl rfl rfl rfl ?_; clear hS; intro w1 hS))
   rw [sgV_zero]
   exact bodyPost_ret (v := .tuple #[.agg #[.int .i64 0, .int .i64 0, .int .u32 0, .int .i64 0, .int .i64 0, .string ⟨#[]⟩, .int .i64 0, .int .i64 0, .string ⟨#[]⟩, .int .i64 0, .int .i64 0, .string ⟨#[]⟩, .int .i64 0, .int .i64 0, .string ⟨#[]⟩, .int .i64 0, .int .i64 0, .string ⟨#[]⟩, .int .i64 0, .int .i64 0, .string ⟨#[]⟩, .int .i64 0, .int .i64 0, .string ⟨#[]⟩, .int .i64 0, .int .i64 0, .string ⟨#[]⟩], .int .i64 8]) (results_blk_tmp Tryz.results84 rfl hS 1 rfl (by kernel_rfl) (by kernel_rfl) rfl) rfl ⟨rfl, hsame.out _ _ hS.drop.drop.drop⟩
 rw [if_neg hv]
 have dv : decide (1099511627776 ≤ cv) = false := decide_eq_false hv
 clear hv
 have hmn := Lib.hid (rows_len27 hok.fl)
 have hmo := Lib.hid (rows_one (l := s.m))
 have hsl := Lib.hid fun W h => (hl.out W h).sl
 have hml := hok.len
 generalize hMR : (s.m.map cdRow).flatten = MR at *
 obtain ⟨f1, f2, f3⟩ := hfin rfl
 rw [f1] at cP
 replace cP := Lib.hid cP
 replace cM := Lib.hid cM
 have hset := rows_set hok.fl _ f2 MC
 rw [hMR, f3] at hset
 have hMl := cdRow_lenT MC hmcf
 have hMo := cdRow_oneT MC
 have hV : sgV (MC, 0) = .tuple #[.agg (cdRow MC).toArray, .int .i64 0] := rfl
 replace hV := Lib.hid hV
 have hmpl := hMl
 replace hset := Lib.hid hset
 replace f3 := Lib.hid f3
 replace hMR := Lib.hid hMR
 clear hfin f1 hgf hgV hwr
 generalize hMT : cdRow MC = MT at *
 replace hMT := Lib.hid hMT
 generalize placeC s.m id = pl at *
 replace f2 := Lib.hid f2
 go_enter Tryz.func84, Tryz.ntmps84
 go_wp2_with (first | ((with_reducible refine wpList_loadrow_st (t := 51) (n := 3) (j := 1) (vs := [.int .i64 s.next, .slice ca s.m.length cc, .slice da s.dead.length dc]) 2 hS rfl rfl rfl rfl (by kernel_rfl) (by kernel_rfl) rfl rfl ?_)) | (go_at_call 129; (with_reducible refine (cC.out _).mono ?_); rintro _ w3 ⟨rfl, hk9⟩; replace hS := hS.keepB hk9; clear hk9) | (with_reducible refine wpList_box_st hS rfl rfl rfl ?_; clear hS; intro gp w1 hS) | ((with_reducible refine wpList_loadall_st 1 hS rfl rfl rfl rfl ?_ hsz ?_); focus (simp [rowB, go_sem]; done)) | (go_at_call 17; (with_reducible refine (cG.out _ (hl.out _ hS.fr) (hd.out _ hS.fr)).mono ?_); rintro _ w3 ⟨rfl, hk9⟩; replace hS := hS.keepB hk9; clear hk9) | ((with_reducible refine wpList_storerow_st (t := 58) (n := 27) (vs := Value.int .i64 ci :: .int .i64 cv :: CT) 0 hS rfl rfl rfl rfl (by kernel_rfl) rfl hcl hco (by kernel_rfl) ?_); clear hS; intro w1 hS; try simp only [List.set_cons_zero, List.set_cons_succ, List.setIfInBounds_toArray, List.take_succ_cons, List.take_zero, List.drop_succ_cons, List.drop_zero, List.nil_append, List.cons_append, List.append_nil, List.drop_nil, List.take_nil, List.length_cons, List.length_nil, Nat.zero_add, Nat.add_zero, Nat.reduceAdd] at hS) | ((with_reducible refine wpList_build0_st hS rfl rfl Tryz.underlying27 ec ?_); clear hS; intro g3 w3 hS) | ((with_reducible refine wpList_app_st 0 (m := s.m.length) (news := MR) hS rfl rfl rfl Tryz.underlying27 ec rfl (Src.slice Tryz.underlying27 (hsl.out _ hS.fr) hmn.out) rfl hmo.out (by omega) (by unfold maxLen; omega) ?_); intro v6 w6 hS1; clear hS; simp only [List.set_cons_zero, Nat.zero_add, List.nil_append] at hS1; obtain ⟨a5, c5, rfl, -⟩ := hS1.row 0 rfl; have hS := hS1; clear hS1) | (with_reducible refine al hS rfl rfl ?_; clear hS; intro g1 w1 hS) | (with_reducible refine ld 0 hS rfl rfl rfl rfl rfl ?_) | (with_reducible refine ld 4 hS rfl rfl rfl rfl rfl ?_))
 have hS1 := hS.re5w
 clear hS
 have hS := hS1
 clear hS1
 obtain ⟨g5, c6, e6, -, -⟩ := hS.rowat 3 rfl (by have := f2.out; omega)
 cases e6
 have hi1 : (0 : Int) ≤ (pl : Int) := Int.natCast_nonneg _
 have hi2 : (pl : Int) < (s.m.length : Int) := by have := f2.out; omega
 have hi3 : pl < s.m.length := f2.out
 have hrc : ((Value.int .i64 ci :: .int .i64 cv :: CT).toArray.toList.drop 0).take 27 = Value.int .i64 ci :: .int .i64 cv :: CT := by simp [← hcl]
 have hrp : (RP.toArray.toList.drop 0).take 26 = RP := by simp [← hpl]
 refine mixs_beginC3 (by kernel_rfl) hS ?_
 clear hS
 intro w2 hS hC
 have kc := hC.krow (P := Tryz.prog) (j := 0) 0 rfl (t := 58) (by kernel_rfl) (n := 27) (by kernel_rfl) hrc hcl
 have ks := hC.krow (P := Tryz.prog) (j := 1) 1 rfl (t := 51) (by kernel_rfl) (n := 3) (by kernel_rfl) (vs := [.int .i64 s.next, .slice ca s.m.length cc, .slice da s.dead.length dc]) rfl rfl
 have kp := hC.krow (P := Tryz.prog) (j := 0) 2 rfl (t := 42) (by kernel_rfl) (n := 26) (by kernel_rfl) hrp hpl
 refine tk 0 ?_
 refine tk 1 ?_
 refine tk 2 ?_
 refine tkr 3 ks ?_
 refine tk 4 ?_
 refine tkr 6 kc ?_
 refine tkr 7 kp ?_
 refine mixs_one 5 (by kernel_rfl) rfl (fun K hK => ?_)
 go_simp
 ((go_at_call 50; (with_reducible refine (cP.out _ (hl.out _ hS.fr)).mono ?_); rintro _ w3 ⟨rfl, hk9⟩; replace hS := hS.keepB hk9; clear hk9))
 try clear hC
 refine cl hK (fun hC => ?_)
 clear hK K
 refine mixs_one 8 (by kernel_rfl) rfl (fun K hK => ?_)
 go_simp
 ((go_at_call 131; (with_reducible refine (cM.out _).mono ?_); rintro _ w3 ⟨rfl, hk9⟩; replace hS := hS.keepB hk9; clear hk9))
 try clear hC
 refine cl hK (fun hC => ?_)
 clear hK K
 refine tk 9 ?_
 refine mixs_one 10 (by kernel_rfl) rfl (fun K hK => ?_)
 ((refine op_storeelemw_st (by kernel_rfl) 3 pl (size := 27) (vs := MT) hS rfl rfl rfl (by simp) (by kernel_rfl) rfl hMl hMo f2.out ?_; clear hS; intro w6 hS; try simp only [List.set_cons_zero, List.set_cons_succ] at hS))
 try clear hC
 refine cl hK (fun hC => ?_)
 clear hK K
 refine wpAnyH_done (by kernel_rfl) ?_ _
 clear kc ks kp
 go_wp2_with (first | (go_at_call 131; (with_reducible refine (cM.out _).mono ?_); rintro _ w3 ⟨rfl, hk9⟩; replace hS := hS.keepB hk9; clear hk9) | (with_reducible refine (wpList_loadrow_st (t := 58) (n := 27) (j := 0) (vs := Value.int .i64 ci :: .int .i64 cv :: CT) 0 hS rfl rfl rfl rfl (by kernel_rfl) (by kernel_rfl) hrc hcl ?_)) | ((with_reducible refine wpList_loadall_st 2 hS rfl rfl rfl rfl ?_ hsz ?_); focus (simp [rowB, go_sem]; done)) | ((with_reducible refine wpList_storerow_st (t := 58) (n := 27) (vs := MT) 4 hS rfl rfl rfl rfl (by kernel_rfl) rfl hMl hMo (by kernel_rfl) ?_); clear hS; intro w1 hS; try simp only [List.set_cons_zero, List.set_cons_succ, List.setIfInBounds_toArray, List.take_succ_cons, List.take_zero, List.drop_succ_cons, List.drop_zero, List.nil_append, List.cons_append, List.append_nil, List.drop_nil, List.take_nil, List.length_cons, List.length_nil, Nat.zero_add, Nat.add_zero, Nat.reduceAdd] at hS) | (with_reducible refine sto 1 hS rfl rfl rfl rfl rfl rfl ?_; clear hS; intro w1 hS))
 have hsf : sizeB Tryz.prog 58 MT.toArray.size = true := by rw [List.size_toArray, hMl]; kernel_rfl
 rw [hV.out]
 refine bodyPost_ret (v := .tuple #[.agg MT.toArray, .int .i64 0]) (results_blk_tmp Tryz.results84 rfl hS 4 rfl (by kernel_rfl) hsf rfl) rfl ⟨rfl, some ⟨g5, 0, none⟩, c5, [_], ?_, .inr rfl⟩
 have e1 : rsRow ⟨s.next, putC s.m MC, s.dead⟩ (some ⟨g5, 0, none⟩) c5 da dc = [.int .i64 s.next, .slice (some ⟨g5, 0, none⟩) s.m.length c5, .slice da s.dead.length dc] := by unfold rsRow; rw [putC_length]
 rw [e1]
 dsimp only
 rw [putC_length, ← hset.out]
 exact hS.drop.drop1.fore2
end Go.Proofs.YtneolmnpebiifaaGreatDoor
end
